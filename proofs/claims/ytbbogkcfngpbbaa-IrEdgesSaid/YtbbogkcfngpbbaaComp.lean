/- slices.Compact at two ints, and the edges of one instruction: the program's. -/
import Derived.Test.YtbbogkcfngpbbaaNext
import Derived.Deep.QuietTactic
import Derived.BigQuiet
namespace Go.Proofs.Ytbbogkcfngpbbaa
open Go.RowKit

/-- Behind a function that hands back a slice of ints of its own, from block base on. -/
def HasI (base : Nat) (w : World) (xs : List Int) (e : Ending) (w' : World) : Prop :=
  ∃ ao cap, e = .returned (.slice ao xs.length cap) ∧ OwnI w' base (.slice ao xs.length cap) xs ∧ Below base w w'

theorem cell_of_own2 {w : World} {g : Nat} {a b : Value} {t : TypeId} (h : w.heap[g]? = some (.cells #[a, b] t (0, 0))) :
    w.cell? ⟨g, 0, none⟩ = some a ∧ w.cell? ⟨g, 1, none⟩ = some b ∧ w.frozen? ⟨g, 0, none⟩ = false ∧ w.frozen? ⟨g, 1, none⟩ = false := by
  refine ⟨?_, ?_, frozen_of_row w g _ _ t h, frozen_of_row w g _ _ t h⟩ <;> rw [cell_of_row w g _ _ t _ h] <;> rfl

set_option maxRecDepth 100000 in
set_option maxHeartbeats 1000000 in
theorem compact2_ne (base g : Nat) (a b : Int) (w : World) (hg : base ≤ g) (h : w.heap[g]? = some (.cells #[.int .i64 a, .int .i64 b] 3 (0, 0))) (hne : a ≠ b) :
    Calls Try.prog 53 #[.slice (some ⟨g, 0, none⟩) 2 2] w (HasI base w [a, b]) := by
  obtain ⟨h0, h1, f0, f1⟩ := cell_of_own2 h
  have HH := Lib.hid h
  have hb : (b == a) = false := beq_eq_false_iff_ne.2 (fun e => hne e.symm)
  clear h hne
  go_enter Try.func53, Try.ntmps53
  go_wp2
  refine wp_loop_rounds 2 ?_
  rw [rounds_succ]
  go_wp2
  go_quiet (fail)
  go_wp2
  rw [rounds_succ]
  go_wp2
  go_ret
  refine ⟨_, _, rfl, ?_, below_drewN (Below.refl _ _) _⟩
  exact ⟨rfl, .inr ⟨g, 2, _, rfl, hg, HH.out, Nat.le_refl _, by decide, rfl, rfl⟩⟩

set_option maxRecDepth 100000 in
set_option maxHeartbeats 1000000 in
theorem compact2_eq (base g : Nat) (a : Int) (w : World) (hg : base ≤ g) (h : w.heap[g]? = some (.cells #[.int .i64 a, .int .i64 a] 3 (0, 0))) :
    Calls Try.prog 53 #[.slice (some ⟨g, 0, none⟩) 2 2] w (HasI base w [a]) := by
  obtain ⟨h0, h1, f0, f1⟩ := cell_of_own2 h
  have HH := Lib.hid h
  clear h
  obtain ⟨i0, hi, hz0, hz1, hz2⟩ := info_parts info_int
  have HHd : ∀ n, (w.drewN n).heap[g]? = some (.cells #[.int .i64 a, .int .i64 a] 3 (0, 0)) := fun _ => HH.out
  go_enter Try.func53, Try.ntmps53
  go_wp2
  refine wp_loop_rounds 1 ?_
  rw [rounds_succ]
  go_wp2
  go_quiet (fail)
  go_wp2
  refine wp_loop_rounds 1 ?_
  rw [rounds_succ]
  go_wp2_with (refine wpList_clear _ rfl (.tmp 56) 22 3 rfl i0 (.int .i64 0) Try.underlying22 hi hz0 rfl rfl g 1 1 1 rfl #[.int .i64 a, .int .i64 a] 3 (HHd _) (Nat.le_refl 2) (by decide) ?_)
  go_ret
  refine ⟨_, _, rfl, ?_, below_setRow (below_drewN (Below.refl _ _) _) hg _⟩
  exact ⟨rfl, .inr ⟨g, 2, _, rfl, hg, setRow_heap _ _ _ _ _ _ HH.out, Nat.le_succ 1, by decide, rfl, rfl⟩⟩

set_option maxHeartbeats 400000 in
theorem ir_Next (i : Ins) (at_ : Int) (w : World) (h0 : 0 ≤ at_) (h1 : at_ < 100000) :
    Calls Try.prog 17 #[.agg i.cells, .int .i64 at_] w (GivesI w (nextOf i at_)) := by
  obtain ⟨op, d, a, b, f, n, sign, argsV, modeV, to, els, ln, cl, args⟩ := i
  simp only [Ins.cells, nextOf]
  by_cases c16 : op = 16
  · subst c16
    rw [if_pos rfl]
    go_enter Try.func17, Try.ntmps17
    go_wp2
    go_ret
    exact ⟨_, _, rfl, OwnI.lit1 (by simp) (by simp), ((Below.refl _ _).alloc (Nat.le_refl _) _).alloc (by simp) _⟩
  by_cases c17 : op = 17
  · subst c17
    by_cases ce : to = els
    · subst ce
      rw [if_neg (by decide), if_pos rfl, if_pos rfl]
      go_enter Try.func17, Try.ntmps17
      go_wp2_with (go_at_call 53; refine (compact2_eq w.heap.size (w.heap.size + 1) to _ (by omega) (heap_alloc2_new _ _ _)).mono ?_; rintro e w1 ⟨ao, cap, rfl, hown, hbel⟩)
      go_ret
      exact ⟨_, _, rfl, hown, (((Below.refl _ _).alloc (Nat.le_refl _) _).alloc (by simp) _).trans hbel⟩
    · rw [if_neg (by decide), if_pos rfl, if_neg ce]
      have HE := Lib.hid ce
      clear ce
      go_enter Try.func17, Try.ntmps17
      go_wp2_with (go_at_call 53; refine (compact2_ne w.heap.size (w.heap.size + 1) to els _ (by omega) (heap_alloc2_new _ _ _) HE.out).mono ?_; rintro e w1 ⟨ao, cap, rfl, hown, hbel⟩)
      go_ret
      exact ⟨_, _, rfl, hown, (((Below.refl _ _).alloc (Nat.le_refl _) _).alloc (by simp) _).trans hbel⟩
  by_cases c18 : op = 18
  · subst c18
    rw [if_neg (by decide), if_neg (by decide), if_pos rfl]
    go_enter Try.func17, Try.ntmps17
    go_wp2
    go_ret
    exact ⟨_, _, rfl, OwnI.nil _ _, ((Below.refl _ _).alloc (Nat.le_refl _) _)⟩
  · rw [if_neg c16, if_neg c17, if_neg c18]
    have b16 : (op == 16) = false := beq_eq_false_iff_ne.2 c16
    have b17 : (op == 17) = false := beq_eq_false_iff_ne.2 c17
    have b18 : (op == 18) = false := beq_eq_false_iff_ne.2 c18
    clear c16 c17 c18
    go_enter Try.func17, Try.ntmps17
    go_wp2
    go_ret
    exact ⟨_, _, rfl, OwnI.lit1 (by simp) (by simp), ((Below.refl _ _).alloc (Nat.le_refl _) _).alloc (by simp) _⟩
end Go.Proofs.Ytbbogkcfngpbbaa
