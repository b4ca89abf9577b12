/- Is a number in a row? The reference's of layer 10. -/
import Derived.Test.YtpbkkajgcdahcaaDoorReads
namespace Go.Proofs.YtpbkkajgcdahcaaDoor
open Go.RowKit

set_option maxRecDepth 100000 in
set_option maxHeartbeats 1000000 in
theorem in10_calls (w : World) (c : Nat) (ao : Option Addr) (xs : List Int) (z : Int) (hn : xs.length ≤ 90000) (h : IntsAt w ao xs) :
    Calls Tryd.prog 34 #[.int .i64 z, .slice ao xs.length c] w fun e w' => e = .returned (.bool (decide (z ∈ xs))) ∧ w = w' := by
  have H := Lib.hid h
  clear h
  go_enter Tryd.func34, Tryd.ntmps34
  go_wp2_with fail
  go_loop [5] (fun k => ∃ j : Nat, j ≤ xs.length ∧ k = .int .i64 (j : Int) ∧ z ∉ xs.take j) (fun k => xs.length - (intOf k).toNat)
  case atStart => exact ⟨0, Nat.zero_le _, rfl, by simp⟩
  case round =>
    obtain ⟨j, hj, rfl, hz⟩ := hrel
    by_cases hjl : j < xs.length
    · obtain ⟨y, hy⟩ : ∃ y, xs[j]? = some y := ⟨_, List.getElem?_eq_getElem hjl⟩
      obtain ⟨g1, off, rfl, hg1, q1⟩ := H.out (by intro e; rw [e] at hjl; simp at hjl)
      have d1 : w.cell? ⟨g1, off + j, none⟩ = some (.int .i64 y) := q1 j y hy
      have hjI : (j : Int) < (xs.length : Int) := by omega
      by_cases he : y = z
      · have hyz : (y == z) = true := by simp [he]
        have HM : Hid (decide (z ∈ xs) = true) := decide_eq_true (by rw [← he]; exact List.mem_of_getElem? hy)
        clear hy q1 hz he
        go_wp2
        go_ret
        exact ⟨by rw [HM.out]; rfl, rfl⟩
      · have hyz : (y == z) = false := by simp [he]
        have HN : Hid (z ∉ xs.take (j + 1)) := by
          unfold Hid; rw [List.take_add_one, hy]; simp [hz]; exact fun e => he e.symm
        clear hy q1 hz he
        go_wp2
        go_round
        case rel => exact ⟨j + 1, by omega, by go_num, HN.out⟩
        case measure => simp [intOf]; omega
    · have hje : j = xs.length := by omega
      subst hje
      rw [List.take_length] at hz
      have HM : Hid (decide (z ∈ xs) = false) := decide_eq_false hz
      clear hz
      go_wp2
      go_ret
      exact ⟨by rw [HM.out]; rfl, rfl⟩
end Go.Proofs.YtpbkkajgcdahcaaDoor
