/- Has a row a number? -/
import Derived.Test.YtpbkkajgcdahcaaNumbers
namespace Go.Proofs.Ytpbkkajgcdahcaa
open Go.RowKit

set_option maxRecDepth 100000 in
set_option maxHeartbeats 1000000 in
theorem has_calls (w : World) (p c : Nat) (ao : Option Addr) (xs : List Int) (z : Int) (hn : xs.length ≤ 90000) (h : OwnI w p (.slice ao xs.length c) xs) :
    Calls Try.prog 27 #[.slice ao xs.length c, .int .i64 z] w fun e w' => e = .returned (.bool (decide (z ∈ xs))) ∧ Below w.heap.size w w' := by
  have H := Lib.hid h
  clear h
  go_enter Try.func27, Try.ntmps27
  go_wp2_with fail
  go_loopw [5] (fun k wr => ∃ j : Nat, j ≤ xs.length ∧ k = .int .i64 (j : Int) ∧ z ∉ xs.take j ∧ Below w.heap.size w wr) (fun k _ => xs.length - (intOf k).toNat)
  case atStart => exact ⟨0, Nat.zero_le _, rfl, by simp, Below.refl _ _⟩
  case round =>
    obtain ⟨j, hj, rfl, hz, hb⟩ := hrel
    by_cases hjl : j < xs.length
    · obtain ⟨y, hy⟩ : ∃ y, xs[j]? = some y := ⟨_, List.getElem?_eq_getElem hjl⟩
      obtain ⟨g1, rfl, _, hg1, q1⟩ := H.out.shape (by omega)
      have d1 : wr.cell? ⟨g1, j, none⟩ = some (.int .i64 y) := by rw [hb.cell (p := ⟨g1, j, none⟩) hg1]; exact q1 j y hy
      have hjI : (j : Int) < (xs.length : Int) := by omega
      have HB := Lib.hid hb
      by_cases he : y = z
      · have hyz : (y == z) = true := by simp [he]
        have HM : Hid (decide (z ∈ xs) = true) := decide_eq_true (by rw [← he]; exact List.mem_of_getElem? hy)
        clear hy q1 hb hz he
        go_wp2
        go_ret
        exact ⟨by rw [HM.out]; rfl, HB.out⟩
      · have hyz : (y == z) = false := by simp [he]
        have HN : Hid (z ∉ xs.take (j + 1)) := by
          unfold Hid; rw [List.take_add_one, hy]; simp [hz]; exact fun e => he e.symm
        clear hy q1 hb hz he
        go_wp2
        go_roundw
        case rel => exact ⟨j + 1, by omega, by go_num, HN.out, HB.out⟩
        case measure => simp [intOf]; omega
    · have hje : j = xs.length := by omega
      subst hje
      rw [List.take_length] at hz
      have HB := Lib.hid hb
      have HM : Hid (decide (z ∈ xs) = false) := decide_eq_false hz
      clear hb hz
      go_wp2
      go_ret
      exact ⟨by rw [HM.out]; rfl, HB.out⟩
end Go.Proofs.Ytpbkkajgcdahcaa
