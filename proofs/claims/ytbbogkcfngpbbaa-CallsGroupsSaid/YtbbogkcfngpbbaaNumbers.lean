/- Are two rows of numbers the same? -/
import Derived.Test.YtbbogkcfngpbbaaLitB
namespace Go.Proofs.Ytbbogkcfngpbbaa
open Go.RowKit

set_option maxRecDepth 100000 in
set_option maxHeartbeats 1000000 in
theorem numbers_quiet (w : World) (p1 p2 c1 c2 : Nat) (ao1 ao2 : Option Addr) (xs : List Int) (hn : xs.length ≤ 90000) (h1 : OwnI w p1 (.slice ao1 xs.length c1) xs) (h2 : OwnI w p2 (.slice ao2 xs.length c2) xs) :
    Calls Try.prog 14 #[.slice ao1 xs.length c1, .slice ao2 xs.length c2] w fun e w' => e = .returned (.bool true) ∧ ∃ m, w' = w.drewN m := by
  have H1 := Lib.hid h1
  have H2 := Lib.hid h2
  clear h1 h2
  go_enter Try.func14, Try.ntmps14
  go_wp2_with fail
  go_loopw [5] (fun c wr => ∃ j : Nat, j ≤ xs.length ∧ c = .int .i64 (j : Int) ∧ ∃ m, wr = w.drewN m) (fun c _ => xs.length - (intOf c).toNat)
  case atStart => exact ⟨0, Nat.zero_le _, rfl, 0, rfl⟩
  case round =>
    obtain ⟨j, hj, rfl, m, rfl⟩ := hrel
    by_cases hjl : j < xs.length
    · obtain ⟨z, hz⟩ : ∃ z, xs[j]? = some z := ⟨_, List.getElem?_eq_getElem hjl⟩
      obtain ⟨g1, rfl, _, hg1, q1⟩ := H1.out.shape (by omega)
      obtain ⟨g2, rfl, _, hg2, q2⟩ := H2.out.shape (by omega)
      have d1 : w.cell? ⟨g1, j, none⟩ = some (.int .i64 z) := q1 j z hz
      have d2 : w.cell? ⟨g2, j, none⟩ = some (.int .i64 z) := q2 j z hz
      have hjI : (j : Int) < (xs.length : Int) := by omega
      clear hz q1 q2
      go_wp2
      go_quiet (fail)
      go_wp2
      go_roundw
      case rel => exact ⟨j + 1, by omega, by go_num, _, rfl⟩
      case measure => simp [intOf]; omega
    · have hje : j = xs.length := by omega
      subst hje
      go_wp2
      go_ret
      exact ⟨rfl, m, rfl⟩

theorem numbers_calls (w : World) (p1 p2 c1 c2 : Nat) (ao1 ao2 : Option Addr) (xs : List Int) (hn : xs.length ≤ 90000) (h1 : OwnI w p1 (.slice ao1 xs.length c1) xs) (h2 : OwnI w p2 (.slice ao2 xs.length c2) xs) :
    Calls Try.prog 14 #[.slice ao1 xs.length c1, .slice ao2 xs.length c2] w fun e w' => e = .returned (.bool true) ∧ Below w.heap.size w w' :=
  (numbers_quiet w p1 p2 c1 c2 ao1 ao2 xs hn h1 h2).mono fun _ _ ⟨he, m, hm⟩ => ⟨he, by rw [hm]; exact below_drewN (Below.refl _ _) m⟩
end Go.Proofs.Ytbbogkcfngpbbaa
