/- slices.Contains of ints. -/
import Derived.Test.YtbbogkcfngpbbaaReads
namespace Go.Proofs.Ytbbogkcfngpbbaa
open Go.RowKit

set_option maxRecDepth 100000 in
set_option maxHeartbeats 1000000 in
theorem index_calls (w : World) (c : Nat) (ao : Option Addr) (xs : List Int) (z : Int) (hn : xs.length ≤ 90000) (h : IntsAt w ao xs) :
    Calls Try.prog 121 #[.slice ao xs.length c, .int .i64 z] w fun e w' => ∃ k : Int, e = .returned (.int .i64 k) ∧ (0 ≤ k ↔ z ∈ xs) ∧ w = w' := by
  have H := Lib.hid h
  clear h
  go_enter Try.func121, Try.ntmps121
  go_wp2_with fail
  go_loop [8] (fun k => ∃ j : Nat, j ≤ xs.length ∧ k = .int .i64 (j : Int) ∧ z ∉ xs.take j) (fun k => xs.length - (intOf k).toNat)
  case atStart => exact ⟨0, Nat.zero_le _, rfl, by simp⟩
  case round =>
    obtain ⟨j, hj, rfl, hz⟩ := hrel
    by_cases hjl : j < xs.length
    · obtain ⟨y, hy⟩ : ∃ y, xs[j]? = some y := ⟨_, List.getElem?_eq_getElem hjl⟩
      obtain ⟨g1, off, rfl, hg1, q1⟩ := H.out (by intro e; rw [e] at hjl; simp at hjl)
      have d1 : w.cell? ⟨g1, off + j, none⟩ = some (.int .i64 y) := q1 j y hy
      have hjI : (j : Int) < (xs.length : Int) := by omega
      by_cases he : y = z
      · have hyz : (z == y) = true := by simp [he]
        have HM : Hid (z ∈ xs) := by rw [← he]; exact List.mem_of_getElem? hy
        clear hy q1 hz he
        go_wp2
        go_ret
        exact ⟨_, rfl, ⟨fun _ => HM.out, fun _ => by omega⟩, rfl⟩
      · have hyz : (z == y) = false := by rw [beq_eq_false_iff_ne]; exact fun e => he (Eq.symm e)
        have HN : Hid (z ∉ xs.take (j + 1)) := by
          unfold Hid; rw [List.take_add_one, hy]; simp [hz]; exact fun e => he e.symm
        clear hy q1 hz he
        go_wp2
        go_round
        case rel => exact ⟨j + 1, by omega, by go_num, HN.out⟩
        case measure => simp [intOf]; omega
    · have hje : j = xs.length := by omega
      subst hje
      rw [List.take_length] at hz
      have HM := Lib.hid hz
      clear hz
      go_wp2
      go_ret
      exact ⟨_, rfl, ⟨fun h => absurd h (by omega), fun h => absurd h HM.out⟩, rfl⟩

set_option maxRecDepth 100000 in
theorem contains_calls (w : World) (c : Nat) (ao : Option Addr) (xs : List Int) (z : Int) (hn : xs.length ≤ 90000) (h : IntsAt w ao xs) :
    Calls Try.prog 109 #[.slice ao xs.length c, .int .i64 z] w fun e w' => e = .returned (.bool (decide (z ∈ xs))) ∧ w = w' := by
  have HI := Lib.hid (index_calls w c ao xs z hn h)
  go_enter Try.func109, Try.ntmps109
  go_wp2_with (go_at_call 121; refine HI.out.mono ?_; rintro e w2 ⟨k, rfl, hk, rfl⟩; have HKK := Lib.hid hk; clear hk)
  go_ret
  have hd : decide (0 ≤ k) = decide (z ∈ xs) := decide_eq_decide.2 HKK.out
  rw [hd]
  exact ⟨rfl, rfl⟩
end Go.Proofs.Ytbbogkcfngpbbaa
