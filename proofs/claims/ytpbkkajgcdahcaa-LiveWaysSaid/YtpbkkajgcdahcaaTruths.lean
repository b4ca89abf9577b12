/- Are two rows of truths the same? -/
import Derived.Test.YtpbkkajgcdahcaaRReach2
namespace Go.Proofs.Ytpbkkajgcdahcaa
open Go.RowKit

set_option maxRecDepth 100000 in
set_option maxHeartbeats 1000000 in
theorem truths_calls (w : World) (b1 b2 n : Nat) (M T : List Nat) (hn : n ≤ 90000) (h1 : w.heap[b1]? = some (.cells (seenCells n M) 4 (0, 0))) (h2 : w.heap[b2]? = some (.cells (seenCells n T) 4 (0, 0))) (h : ∀ x, x < n → (x ∈ M ↔ x ∈ T)) :
    Calls Try.prog 21 #[.slice (some ⟨b1, 0, none⟩) n n, .slice (some ⟨b2, 0, none⟩) n n] w fun e w' => e = .returned (.bool true) ∧ Below w.heap.size w w' := by
  have HC : Hid (∀ x, x < n → w.cell? ⟨b1, x, none⟩ = some (.bool (decide (x ∈ M))) ∧ w.cell? ⟨b2, x, none⟩ = some (.bool (decide (x ∈ M)))) := by
    intro x hx
    refine ⟨by rw [cell_of_row _ _ _ _ _ _ h1]; exact seenCells_get M hx, ?_⟩
    rw [cell_of_row _ _ _ _ _ _ h2]
    have e : decide (x ∈ M) = decide (x ∈ T) := by simp [h x hx]
    rw [e]; exact seenCells_get T hx
  have hb1 : b1 < w.heap.size := (Array.getElem?_eq_some_iff.1 h1).1
  have hb2 : b2 < w.heap.size := (Array.getElem?_eq_some_iff.1 h2).1
  clear h1 h2 h
  go_enter Try.func21, Try.ntmps21
  go_wp2_with fail
  go_loopw [5] (fun c wr => ∃ j : Nat, j ≤ n ∧ c = .int .i64 (j : Int) ∧ Below w.heap.size w wr) (fun c _ => n - (intOf c).toNat)
  case atStart => exact ⟨0, Nat.zero_le _, rfl, Below.refl _ _⟩
  case round =>
    obtain ⟨j, hj, rfl, hb⟩ := hrel
    by_cases hjl : j < n
    · obtain ⟨c1, c2⟩ := HC.out j hjl
      have d1 : wr.cell? ⟨b1, j, none⟩ = some (.bool (decide (j ∈ M))) := by rw [hb.cell (p := ⟨b1, j, none⟩) hb1]; exact c1
      have d2 : wr.cell? ⟨b2, j, none⟩ = some (.bool (decide (j ∈ M))) := by rw [hb.cell (p := ⟨b2, j, none⟩) hb2]; exact c2
      have hjI : (j : Int) < (n : Int) := by omega
      have HB := Lib.hid hb
      obtain ⟨d, hd⟩ : ∃ d, d = decide (j ∈ M) := ⟨_, rfl⟩
      rw [← hd] at d1 d2
      clear hd c1 c2 hb
      go_wp2
      go_quiet (fail)
      go_wp2
      go_roundw
      case rel => exact ⟨j + 1, by omega, by go_num, below_drewN HB.out _⟩
      case measure => simp [intOf]; omega
    · have hje : j = n := by omega
      subst hje
      have HB := Lib.hid hb
      clear hb
      go_wp2
      go_ret
      exact ⟨rfl, HB.out⟩
end Go.Proofs.Ytpbkkajgcdahcaa
