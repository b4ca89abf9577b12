/- The edges of one instruction: the reference's. -/
import Derived.Test.YtbbogkcfngpbbaaBase
namespace Go.Proofs.Ytbbogkcfngpbbaa
open Go.RowKit

set_option maxHeartbeats 400000 in
theorem ref05_Next (i : Ins) (at_ : Int) (w : World) (h0 : 0 ≤ at_) (h1 : at_ < 100000) :
    Calls Try.prog 18 #[.agg i.cells, .int .i64 at_] w (GivesI w (nextOf i at_)) := by
  obtain ⟨op, d, a, b, f, n, sign, argsV, modeV, to, els, ln, cl, args⟩ := i
  simp only [Ins.cells, nextOf]
  by_cases c16 : op = 16
  · subst c16
    rw [if_pos rfl]
    go_enter Try.func18, Try.ntmps18
    go_wp2
    go_ret
    exact ⟨_, _, rfl, OwnI.lit1 (by simp) (by simp), ((Below.refl _ _).alloc (Nat.le_refl _) _).alloc (by simp) _⟩
  by_cases c17 : op = 17
  · subst c17
    by_cases ce : to = els
    · subst ce
      rw [if_neg (by decide), if_pos rfl, if_pos rfl]
      go_enter Try.func18, Try.ntmps18
      go_wp2
      go_ret
      exact ⟨_, _, rfl, OwnI.lit1 (by simp) (by simp), ((Below.refl _ _).alloc (Nat.le_refl _) _).alloc (by simp) _⟩
    · have hb : (to == els) = false := beq_eq_false_iff_ne.2 ce
      rw [if_neg (by decide), if_pos rfl, if_neg ce]
      clear ce
      go_enter Try.func18, Try.ntmps18
      go_wp2
      go_ret
      exact ⟨_, _, rfl, OwnI.lit2 (by simp) (by simp), ((Below.refl _ _).alloc (Nat.le_refl _) _).alloc (by simp) _⟩
  by_cases c18 : op = 18
  · subst c18
    rw [if_neg (by decide), if_neg (by decide), if_pos rfl]
    go_enter Try.func18, Try.ntmps18
    go_wp2
    go_ret
    exact ⟨_, _, rfl, OwnI.nil _ _, ((Below.refl _ _).alloc (Nat.le_refl _) _)⟩
  · rw [if_neg c16, if_neg c17, if_neg c18]
    have b16 : (op == 16) = false := beq_eq_false_iff_ne.2 c16
    have b17 : (op == 17) = false := beq_eq_false_iff_ne.2 c17
    have b18 : (op == 18) = false := beq_eq_false_iff_ne.2 c18
    clear c16 c17 c18
    go_enter Try.func18, Try.ntmps18
    go_wp2
    go_ret
    exact ⟨_, _, rfl, OwnI.lit1 (by simp) (by simp), ((Below.refl _ _).alloc (Nat.le_refl _) _).alloc (by simp) _⟩

end Go.Proofs.Ytbbogkcfngpbbaa
