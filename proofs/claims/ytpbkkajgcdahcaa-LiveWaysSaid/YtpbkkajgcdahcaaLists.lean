/- Are two rows of rows of numbers the same? -/
import Derived.Test.YtpbkkajgcdahcaaRBehind
namespace Go.Proofs.Ytpbkkajgcdahcaa
open Go.RowKit

theorem quiet_add {P : Program} {f : FuncId} {args : Array Value} {w : World} {a n : Nat} {v : Value}
    (h : Calls P f args (w.drewN (a + n)) fun e w' => e = .returned v ∧ ∃ m, w' = (w.drewN (a + n)).drewN m) :
    Calls P f args (w.drewN (a + n)) fun e w'' => e = .returned v ∧ ∃ m, w'' = w.drewN (a + m) :=
  h.mono fun _ _ ⟨he, m, hm⟩ => ⟨he, n + m, by rw [hm, World.drewN_drewN, Nat.add_assoc]⟩

set_option maxRecDepth 100000 in
set_option maxHeartbeats 1000000 in
theorem lists_calls (w : World) (R1 R2 n p1 p2 : Nat) (A1 A2 : Nat → Prop) (rows : Nat → List Nat) (hn : n ≤ 90000) (hl : ∀ i, (rows i).length ≤ 90000) (h1 : RowsI w R1 n p1 A1 rows) (h2 : RowsI w R2 n p2 A2 rows) :
    Calls Try.prog 23 #[.slice (some ⟨R1, 0, none⟩) n n, .slice (some ⟨R2, 0, none⟩) n n] w fun e w' => e = .returned (.bool true) ∧ ∃ m, w' = w.drewN m := by
  have H1 := Lib.hid h1
  have H2 := Lib.hid h2
  have HL := Lib.hid hl
  clear h1 h2 hl
  go_enter Try.func23, Try.ntmps23
  go_wp2_with fail
  go_loopw [5] (fun c wr => ∃ j : Nat, j ≤ n ∧ c = .int .i64 (j : Int) ∧ ∃ m, wr = w.drewN m) (fun c _ => n - (intOf c).toNat)
  case atStart => exact ⟨0, Nat.zero_le _, rfl, 0, rfl⟩
  case round =>
    obtain ⟨j, hj, rfl, m, rfl⟩ := hrel
    by_cases hjl : j < n
    · obtain ⟨vals1, _, e1, e2, _, e4, _⟩ := H1.out
      obtain ⟨vals2, _, f1, f2, _, f4, _⟩ := H2.out
      obtain ⟨v1, hv1⟩ : ∃ v1, vals1[j]? = some v1 := ⟨_, Array.getElem?_eq_getElem (by omega)⟩
      obtain ⟨v2, hv2⟩ : ∃ v2, vals2[j]? = some v2 := ⟨_, Array.getElem?_eq_getElem (by omega)⟩
      have o1 := e4 j v1 hv1
      have o2 := f4 j v2 hv2
      obtain ⟨ao1, c1, rfl⟩ := o1.isSlice
      obtain ⟨ao2, c2, rfl⟩ := o2.isSlice
      have d1 : w.cell? ⟨R1, j, none⟩ = some (.slice ao1 (ints (rows j)).length c1) := by rw [cell_of_row _ _ _ _ _ _ e2]; exact hv1
      have d2 : w.cell? ⟨R2, j, none⟩ = some (.slice ao2 (ints (rows j)).length c2) := by rw [cell_of_row _ _ _ _ _ _ f2]; exact hv2
      have hjI : (j : Int) < (n : Int) := by omega
      have HN : Hid (∀ k, Calls Try.prog 36 #[.slice ao1 (ints (rows j)).length c1, .slice ao2 (ints (rows j)).length c2] (w.drewN k) fun e w' => e = .returned (.bool true) ∧ ∃ m, w' = (w.drewN k).drewN m) :=
        fun k => numbers_quiet (w.drewN k) p1 p2 c1 c2 ao1 ao2 (ints (rows j)) (by have := HL.out j; simpa [ints] using this) o1 o2
      clear e4 f4 hv1 hv2 o1 o2 e2 f2 e1 f1
      go_wp2
      go_quiet ((go_at_call 36; exact quiet_add (HN.out _)))
      go_wp2
      go_roundw
      case rel => exact ⟨j + 1, by omega, by go_num, _, rfl⟩
      case measure => simp [intOf]; omega
    · have hje : j = n := by omega
      subst hje
      go_wp2
      go_ret
      exact ⟨rfl, m, rfl⟩
end Go.Proofs.Ytpbkkajgcdahcaa
