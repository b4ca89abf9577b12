/- Has a row a number? -/
import Derived.Test.YtpbkkajgcdahcaaNumbers
namespace Go.Proofs.Ytpbkkajgcdahcaa
open Go.RowKit

set_option maxRecDepth 100000 in
set_option maxHeartbeats 1000000 in
theorem has_quiet (w : World) (p c : Nat) (ao : Option Addr) (xs : List Int) (z : Int) (hn : xs.length ≤ 90000) (h : OwnI w p (.slice ao xs.length c) xs) :
    Calls Try.prog 27 #[.slice ao xs.length c, .int .i64 z] w fun e w' => e = .returned (.bool (decide (z ∈ xs))) ∧ ∃ m, w' = w.drewN m := by
  have H := Lib.hid h
  clear h
  go_enter Try.func27, Try.ntmps27
  go_wp2_with fail
  go_loopw [5] (fun k wr => ∃ j : Nat, j ≤ xs.length ∧ k = .int .i64 (j : Int) ∧ z ∉ xs.take j ∧ ∃ m, wr = w.drewN m) (fun k _ => xs.length - (intOf k).toNat)
  case atStart => exact ⟨0, Nat.zero_le _, rfl, by simp, 0, rfl⟩
  case round =>
    obtain ⟨j, hj, rfl, hz, m, rfl⟩ := hrel
    by_cases hjl : j < xs.length
    · obtain ⟨y, hy⟩ : ∃ y, xs[j]? = some y := ⟨_, List.getElem?_eq_getElem hjl⟩
      obtain ⟨g1, rfl, _, hg1, q1⟩ := H.out.shape (by omega)
      have d1 : w.cell? ⟨g1, j, none⟩ = some (.int .i64 y) := q1 j y hy
      have hjI : (j : Int) < (xs.length : Int) := by omega
      by_cases he : y = z
      · have hyz : (y == z) = true := by simp [he]
        have HM : Hid (decide (z ∈ xs) = true) := decide_eq_true (by rw [← he]; exact List.mem_of_getElem? hy)
        clear hy q1 hz he
        go_wp2
        go_ret
        exact ⟨by rw [HM.out]; rfl, m, rfl⟩
      · have hyz : (y == z) = false := by simp [he]
        have HN : Hid (z ∉ xs.take (j + 1)) := by
          unfold Hid; rw [List.take_add_one, hy]; simp [hz]; exact fun e => he e.symm
        clear hy q1 hz he
        go_wp2
        go_roundw
        case rel => exact ⟨j + 1, by omega, by go_num, HN.out, m, rfl⟩
        case measure => simp [intOf]; omega
    · have hje : j = xs.length := by omega
      subst hje
      rw [List.take_length] at hz
      have HM : Hid (decide (z ∈ xs) = false) := decide_eq_false hz
      clear hz
      go_wp2
      go_ret
      exact ⟨by rw [HM.out]; rfl, m, rfl⟩
end Go.Proofs.Ytpbkkajgcdahcaa
