/- Two rows of groups that are the same. -/
import Derived.Test.YtbbogkcfngpbbaaCaH
import Derived.Test.YtbbogkcfngpbbaaCaX4
namespace Go.Proofs.Ytbbogkcfngpbbaa
open Go.RowKit

theorem quiet_addC {P : Program} {f : FuncId} {args : Array Value} {w : World} {a n : Nat} {v : Value}
    (h : Calls P f args (w.drewN (a + n)) fun e w' => e = .returned v ∧ ∃ m, w' = (w.drewN (a + n)).drewN m) :
    Calls P f args (w.drewN (a + n)) fun e w'' => e = .returned v ∧ ∃ m, w'' = w.drewN (a + m) :=
  h.mono fun _ _ ⟨he, m, hm⟩ => ⟨he, n + m, by rw [hm, World.drewN_drewN, Nat.add_assoc]⟩

set_option maxRecDepth 100000 in
set_option maxHeartbeats 2000000 in
theorem glists_calls (w : World) (p1 p2 c1 c2 : Nat) (ao1 ao2 : Option Addr) (ls : List (List Nat)) (hn : ls.length ≤ 90000) (hll : ∀ l ∈ ls, l.length ≤ 90000) (h1 : GrpI w p1 (.slice ao1 ls.length c1) ls) (h2 : GrpI w p2 (.slice ao2 ls.length c2) ls) :
    Calls Try.prog 38 #[.slice ao1 ls.length c1, .slice ao2 ls.length c2] w fun e w' => e = .returned (.bool true) ∧ Below w.heap.size w w' := by
  have H1 := Lib.hid h1
  have H2 := Lib.hid h2
  have HL := Lib.hid hll
  clear h1 h2 hll
  go_enter Try.func38, Try.ntmps38
  go_wp2_with fail
  go_loopw [5] (fun c wr => ∃ j : Nat, j ≤ ls.length ∧ c = .int .i64 (j : Int) ∧ ∃ m, wr = w.drewN m) (fun c _ => ls.length - (intOf c).toNat)
  case atStart => exact ⟨0, Nat.zero_le _, rfl, 0, rfl⟩
  case round =>
    obtain ⟨j, hj, rfl, m, rfl⟩ := hrel
    by_cases hjl : j < ls.length
    · obtain ⟨l, hl⟩ : ∃ l, ls[j]? = some l := ⟨_, List.getElem?_eq_getElem hjl⟩
      have hlen := HL.out l (List.mem_of_getElem? hl)
      obtain ⟨g1, a1, d1, rfl, _, e1, o1⟩ := H1.out.at_ hl
      obtain ⟨g2, a2, d2, rfl, _, e2, o2⟩ := H2.out.at_ hl
      have hjI : (j : Int) < (ls.length : Int) := by omega
      have hnl : (nums l).length = l.length := by simp [nums]
      have HN : Hid (∀ k, Calls Try.prog 14 #[.slice a1 l.length d1, .slice a2 l.length d2] (w.drewN k) fun e w' => e = .returned (.bool true) ∧ ∃ m, w' = (w.drewN k).drewN m) := by
        intro k
        rw [encN_flat] at o1 o2
        have h := numbers_quiet (w.drewN k) p1 p2 d1 d2 a1 a2 (nums l) (by omega) (by unfold OwnI; rw [hnl]; exact o1) (by unfold OwnI; rw [hnl]; exact o2)
        rw [hnl] at h
        exact h
      clear hl o1 o2
      go_wp2
      go_quiet ((go_at_call 14; exact quiet_addC (HN.out _)))
      go_wp2
      go_roundw
      case rel => exact ⟨j + 1, by omega, by go_num, _, rfl⟩
      case measure => simp [intOf]; omega
    · have hje : j = ls.length := by omega
      subst hje
      go_wp2
      go_ret
      exact ⟨rfl, below_drewN (Below.refl _ _) m⟩
end Go.Proofs.Ytbbogkcfngpbbaa
