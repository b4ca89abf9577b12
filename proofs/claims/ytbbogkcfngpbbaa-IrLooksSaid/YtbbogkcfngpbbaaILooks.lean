/- The walk of IrLooks. -/
import Derived.Test.YtbbogkcfngpbbaaIrS
import Derived.Test.YtbbogkcfngpbbaaComp
import Derived.Test.YtbbogkcfngpbbaaRef5
import Derived.Test.YtbbogkcfngpbbaaNumbers
namespace Go.Proofs.Ytbbogkcfngpbbaa
open Go.RowKit

theorem nextOf_len (i : Ins) (at_ : Int) : (nextOf i at_).length ≤ 2 := by
  unfold nextOf
  repeat' split
  all_goals simp

set_option maxRecDepth 100000 in
set_option maxHeartbeats 16000000 in
theorem irLooks_calls (i : Ins) (at_ op2 : Int) (w : World) (hin : i.args_in w) : Calls Try.prog 3 #[.agg i.cells, .int .i64 at_, .int .i64 op2] w fun e w' => e = .returned (.bool true) ∧ Below w.heap.size w w' := by
  have HIN := Lib.hid hin
  obtain ⟨rs, hrs⟩ : ∃ rs, readsOf i = rs := ⟨_, rfl⟩
  obtain ⟨nx, hnx⟩ : ∃ nx, nextOf i at_ = nx := ⟨_, rfl⟩
  obtain ⟨wr1, hwr1⟩ : ∃ x, (writesOf i).1 = x := ⟨_, rfl⟩
  obtain ⟨wr2, hwr2⟩ : ∃ x, (writesOf i).2 = x := ⟨_, rfl⟩
  have HNL : Hid (nx.length ≤ 90000) := by have := nextOf_len i at_; rw [hnx] at this; unfold Hid; omega
  have HAL := alive5_calls w
  have HA5 : Hid (∀ W, Calls Try.prog 11 #[] W fun e w' => e = .returned (.bool true) ∧ Below W.heap.size W w') := fun W => alive5_calls W
  have HWD : Hid (∀ W, Calls Try.prog 19 #[.int .i64 op2] W fun e w' => e = .returned (.string (wordOf op2)) ∧ Below W.heap.size W w') := fun W => irWord_calls op2 W
  have HWE : Hid (∀ W, Calls Try.prog 20 #[.int .i64 op2] W fun e w' => e = .returned (.string (wordOf op2)) ∧ Below W.heap.size W w') := fun W => refWord_calls op2 W
  clear HAL
  obtain ⟨wd, hwd⟩ : ∃ x, wordOf op2 = x := ⟨_, rfl⟩
  rw [hwd] at HWD HWE
  clear hwd
  have HW1 : Hid (∀ W, Calls Try.prog 12 #[.agg i.cells] W fun e w' => e = .returned (.tuple #[.int .i64 wr1, .bool wr2]) ∧ Below W.heap.size W w') := fun W => by rw [← hwr1, ← hwr2]; exact irWrites_calls i W HIN.out.1
  have HW2 : Hid (∀ W, Calls Try.prog 13 #[.agg i.cells] W fun e w' => e = .returned (.tuple #[.int .i64 wr1, .bool wr2]) ∧ Below W.heap.size W w') := fun W => by rw [← hwr1, ← hwr2]; exact refWrites_calls i W HIN.out.1
  have HRD0 : Hid (i.args.length ≤ 40 → ∀ W, Below w.heap.size w W → Calls Try.prog 15 #[.agg i.cells] W (GivesI W rs)) := fun hl W hW => by rw [← hrs]; exact irReads_calls i W (HIN.out.below hW) hl
  have HRE0 : Hid (i.args.length ≤ 40 → ∀ W, Below w.heap.size w W → Calls Try.prog 16 #[.agg i.cells] W (GivesI W rs)) := fun hl W hW => by rw [← hrs]; exact refReads_calls i W (HIN.out.below hW) hl
  have HRL0 : Hid (i.args.length ≤ 40 → rs.length ≤ 90000) := fun hl => by have := readsOf_len i hl; rw [hrs] at this; omega
  have HNX0 : Hid (0 ≤ at_ → at_ ≤ 10000 → ∀ W, Calls Try.prog 17 #[.agg i.cells, .int .i64 at_] W (GivesI W nx)) := fun h0 h1 W => by rw [← hnx]; exact ir_Next i at_ W h0 (by omega)
  have HNY0 : Hid (0 ≤ at_ → at_ ≤ 10000 → ∀ W, Calls Try.prog 18 #[.agg i.cells, .int .i64 at_] W (GivesI W nx)) := fun h0 h1 W => by rw [← hnx]; exact ref05_Next i at_ W h0 (by omega)
  clear hrs hnx hwr1 hwr2
  obtain ⟨op, d, a, b, f, n, sign, argsV, modeV, tgt, els, ln, cl, args⟩ := i
  obtain ⟨⟨_, ao2, n2, cap2, h2⟩, ao, cap, h1, hrow⟩ := hin
  simp only at h1 h2 hrow
  subst h1 h2
  simp only [Ins.cells] at HW1 HW2 HRD0 HRE0 HRL0 HNX0 HNY0 ⊢
  clear hrow
  obtain ⟨N, hN⟩ : ∃ N, w.heap.size = N := ⟨_, rfl⟩
  obtain ⟨W1, hW1⟩ : ∃ W1, w.alloc (.cells #[.int .i64 op, .int .i64 d, .int .i64 a, .int .i64 b, .int .i64 f, .int .i64 n, .string sign, .slice ao args.length cap, .slice ao2 n2 cap2, .int .i64 tgt, .int .i64 els, .int .i64 ln, .int .i64 cl] 26) = W1 := ⟨_, rfl⟩
  have hb1 : Below N w W1 := by rw [← hW1, ← hN]; exact (Below.refl _ _).alloc (Nat.le_refl _) _
  have hs1 : W1.heap.size = N + 1 := by rw [← hW1]; simp [hN]
  have hr1 : W1.heap[N]? = some (.cells #[.int .i64 op, .int .i64 d, .int .i64 a, .int .i64 b, .int .i64 f, .int .i64 n, .string sign, .slice ao args.length cap, .slice ao2 n2 cap2, .int .i64 tgt, .int .i64 els, .int .i64 ln, .int .i64 cl] 26 (0, 0)) := by rw [← hW1, ← hN]; exact alloc_at _ _
  have HROW : Hid (∀ W, Below W1.heap.size W1 W → W.heap[N]? = some (.cells #[.int .i64 op, .int .i64 d, .int .i64 a, .int .i64 b, .int .i64 f, .int .i64 n, .string sign, .slice ao args.length cap, .slice ao2 n2 cap2, .int .i64 tgt, .int .i64 els, .int .i64 ln, .int .i64 cl] 26 (0, 0))) := fun W hW => (hW.block N (by omega)).trans hr1
  have i7 : W1.cell? ⟨N, 7, none⟩ = some (.slice ao args.length cap) := (cell_of_row _ _ _ _ _ _ hr1).trans rfl
  have HB1 := Lib.hid hb1
  have HN := Lib.hid hN
  clear hb1 hr1
  by_cases g1 : 40 < args.length
  · clear HRD0 HRE0 HRL0 HNX0 HNY0 HW1 HW2
    go_enter Try.func3, Try.ntmps3
    go_wp2_with (go_at_call 11; refine (HA5.out _).mono ?_; rintro e w2 ⟨rfl, hb2⟩; have HB2 := Lib.hid hb2; clear hb2)
    go_ret
    refine ⟨rfl, ?_⟩
    rw [HN.out]
    exact HB1.out.trans (HB2.out.mono (by omega))
  by_cases g2 : at_ < 0
  · clear HRD0 HRE0 HRL0 HNX0 HNY0 HW1 HW2
    go_enter Try.func3, Try.ntmps3
    go_wp2_with (go_at_call 11; refine (HA5.out _).mono ?_; rintro e w2 ⟨rfl, hb2⟩; have HB2 := Lib.hid hb2; clear hb2)
    go_ret
    refine ⟨rfl, ?_⟩
    rw [HN.out]
    exact HB1.out.trans (HB2.out.mono (by omega))
  by_cases g3 : 10000 < at_
  · clear HRD0 HRE0 HRL0 HNX0 HNY0 HW1 HW2
    go_enter Try.func3, Try.ntmps3
    go_wp2_with (go_at_call 11; refine (HA5.out _).mono ?_; rintro e w2 ⟨rfl, hb2⟩; have HB2 := Lib.hid hb2; clear hb2)
    go_ret
    refine ⟨rfl, ?_⟩
    rw [HN.out]
    exact HB1.out.trans (HB2.out.mono (by omega))
  have HRL := Lib.hid (HRL0.out (by omega))
  have HRD := Lib.hid (HRD0.out (by omega))
  have HRE := Lib.hid (HRE0.out (by omega))
  have HNX := Lib.hid (HNX0.out (by omega) (by omega))
  have HNY := Lib.hid (HNY0.out (by omega) (by omega))
  clear HRD0 HRE0 HRL0 HNX0 HNY0
  go_enter Try.func3, Try.ntmps3
  go_upto_region 5 with (first
    | (refine wpList_load_row rfl 26 _ rfl N rfl 26 #[.int .i64 op, .int .i64 d, .int .i64 a, .int .i64 b, .int .i64 f, .int .i64 n, .string sign, .slice ao args.length cap, .slice ao2 n2 cap2, .int .i64 tgt, .int .i64 els, .int .i64 ln, .int .i64 cl] (0, 0) _ (HROW.out _ hbc) Try.underlying26 rfl (by kernel_rfl) ?_)
    | (refine wpList_load_row rfl 26 _ rfl N rfl 26 #[.int .i64 op, .int .i64 d, .int .i64 a, .int .i64 b, .int .i64 f, .int .i64 n, .string sign, .slice ao args.length cap, .slice ao2 n2 cap2, .int .i64 tgt, .int .i64 els, .int .i64 ln, .int .i64 cl] (0, 0) _ (HROW.out _ (Below.refl _ _)) Try.underlying26 rfl (by kernel_rfl) ?_)
    | (go_at_call 12; refine (HW1.out _).mono ?_; rintro e w2 ⟨rfl, hbc⟩)
    | (go_at_call 13; refine (HW2.out _).mono ?_; rintro e w3 ⟨rfl, hbd⟩; have HB3 := Lib.hid (hbc.trans (hbd.mono hbc.size)); clear hbc hbd))
  obtain ⟨W3, hW3⟩ : ∃ W3, W3 = w3 := ⟨_, rfl⟩
  subst hW3
  have hs3 := HB3.out.size
  have HB03 : Hid (Below N w W3) := HB1.out.trans (HB3.out.mono (by omega))
  have HKP : Hid (∀ W, Below W3.heap.size W3 W → W.cell? ⟨N, 0, none⟩ = some (.int .i64 op) ∧ W.cell? ⟨N, 1, none⟩ = some (.int .i64 d) ∧ W.cell? ⟨N, 2, none⟩ = some (.int .i64 a) ∧ W.cell? ⟨N, 3, none⟩ = some (.int .i64 b) ∧ W.cell? ⟨N, 4, none⟩ = some (.int .i64 f) ∧ W.cell? ⟨N, 5, none⟩ = some (.int .i64 n) ∧ W.cell? ⟨N, 6, none⟩ = some (.string sign) ∧ W.cell? ⟨N, 7, none⟩ = some (.slice ao args.length cap) ∧ W.cell? ⟨N, 8, none⟩ = some (.slice ao2 n2 cap2) ∧ W.cell? ⟨N, 9, none⟩ = some (.int .i64 tgt) ∧ W.cell? ⟨N, 10, none⟩ = some (.int .i64 els) ∧ W.cell? ⟨N, 11, none⟩ = some (.int .i64 ln) ∧ W.cell? ⟨N, 12, none⟩ = some (.int .i64 cl) ∧ Below W3.heap.size W3 W) := fun W hW => by
    have q := HROW.out W (HB3.out.trans (hW.mono hs3))
    exact ⟨(cell_of_row _ _ _ _ _ _ q).trans rfl, (cell_of_row _ _ _ _ _ _ q).trans rfl, (cell_of_row _ _ _ _ _ _ q).trans rfl, (cell_of_row _ _ _ _ _ _ q).trans rfl, (cell_of_row _ _ _ _ _ _ q).trans rfl, (cell_of_row _ _ _ _ _ _ q).trans rfl, (cell_of_row _ _ _ _ _ _ q).trans rfl, (cell_of_row _ _ _ _ _ _ q).trans rfl, (cell_of_row _ _ _ _ _ _ q).trans rfl, (cell_of_row _ _ _ _ _ _ q).trans rfl, (cell_of_row _ _ _ _ _ _ q).trans rfl, (cell_of_row _ _ _ _ _ _ q).trans rfl, (cell_of_row _ _ _ _ _ _ q).trans rfl, hW⟩
  have HC1 : Hid (∀ (W : World) (fn : Nat) (ar : Array Value) (xs : List Int), Below W3.heap.size W3 W → Calls Try.prog fn ar W (GivesI W xs) → Calls Try.prog fn ar W fun e w' => ∃ ao cap, e = .returned (.slice ao xs.length cap) ∧ OwnI w' W.heap.size (.slice ao xs.length cap) xs ∧ Below W3.heap.size W3 w' ∧ Below W.heap.size W w') := fun W fn ar xs hW h => h.mono fun e w' ⟨ao, cap, h1, h2, h3⟩ => ⟨ao, cap, h1, h2, hW.trans (h3.mono hW.size), h3⟩
  have HC2 : Hid (∀ (W : World) (fn : Nat) (ar : Array Value) (v : Value), Below W3.heap.size W3 W → (Calls Try.prog fn ar W fun e w' => e = .returned v ∧ Below W.heap.size W w') → Calls Try.prog fn ar W fun e w' => e = .returned v ∧ Below W3.heap.size W3 w') := fun W fn ar v hW h => h.mono fun e w' ⟨h1, h3⟩ => ⟨h1, hW.trans (h3.mono hW.size)⟩
  have HX : Hid (∀ W, Below W3.heap.size W3 W → Below w.heap.size w W) := fun W hW => by rw [HN.out]; exact HB03.out.trans (hW.mono (by omega))
  have HNM : Hid (∀ (W : World) (xs : List Int) (p1 p2 c1 c2 : Nat) (a1 a2 : Option Addr), xs.length ≤ 90000 → OwnI W p1 (.slice a1 xs.length c1) xs → OwnI W p2 (.slice a2 xs.length c2) xs → Calls Try.prog 14 #[.slice a1 xs.length c1, .slice a2 xs.length c2] W fun e w' => e = .returned (.bool true) ∧ Below W.heap.size W w') := fun W xs p1 p2 c1 c2 a1 a2 hn h1 h2 => numbers_calls W p1 p2 c1 c2 a1 a2 xs hn h1 h2
  clear HROW HB1 HB3 i7
  go_region_held3 (fun w' => w'.cell? ⟨N, 0, none⟩ = some (.int .i64 op) ∧ w'.cell? ⟨N, 1, none⟩ = some (.int .i64 d) ∧ w'.cell? ⟨N, 2, none⟩ = some (.int .i64 a) ∧ w'.cell? ⟨N, 3, none⟩ = some (.int .i64 b) ∧ w'.cell? ⟨N, 4, none⟩ = some (.int .i64 f) ∧ w'.cell? ⟨N, 5, none⟩ = some (.int .i64 n) ∧ w'.cell? ⟨N, 6, none⟩ = some (.string sign) ∧ w'.cell? ⟨N, 7, none⟩ = some (.slice ao args.length cap) ∧ w'.cell? ⟨N, 8, none⟩ = some (.slice ao2 n2 cap2) ∧ w'.cell? ⟨N, 9, none⟩ = some (.int .i64 tgt) ∧ w'.cell? ⟨N, 10, none⟩ = some (.int .i64 els) ∧ w'.cell? ⟨N, 11, none⟩ = some (.int .i64 ln) ∧ w'.cell? ⟨N, 12, none⟩ = some (.int .i64 cl) ∧ Below W3.heap.size W3 w')
    (first
      | (exact hS)
      | (exact HKP.out _ (by first | exact hbb | exact (Below.refl _ _).drew | fail))
      | fail)
    (first
      | (go_at_call 15; refine (HC1.out _ _ _ _ (by first | exact hbb | exact (Below.refl _ _).drew | fail) (HRD.out _ (HX.out _ (by first | exact hbb | exact (Below.refl _ _).drew | fail)))).mono ?_; rintro e wA ⟨aoA, capA, rfl, hownA, hbb, hbA⟩; have hS := HKP.out _ hbb)
      | (go_at_call 16; refine (HC1.out _ _ _ _ (by first | exact hbb | exact (Below.refl _ _).drew | fail) (HRE.out _ (HX.out _ (by first | exact hbb | exact (Below.refl _ _).drew | fail)))).mono ?_; rintro e wB ⟨aoB, capB, rfl, hownB, hbb, hbB⟩; have hS := HKP.out _ hbb)
      | (go_at_call 14; refine (HC2.out _ _ _ _ (by first | exact hbb | exact (Below.refl _ _).drew | fail) (HNM.out _ nx _ _ _ _ _ _ HNL.out (ownsRow_below hownC hbD) hownD)).mono ?_; rintro e wF ⟨rfl, hbb⟩; have hS := HKP.out _ hbb)
      | (go_at_call 14; refine (HC2.out _ _ _ _ (by first | exact hbb | exact (Below.refl _ _).drew | fail) (HNM.out _ rs _ _ _ _ _ _ HRL.out (ownsRow_below hownA hbB) hownB)).mono ?_; rintro e wE ⟨rfl, hbb⟩; have hS := HKP.out _ hbb)
      | (go_at_call 17; refine (HC1.out _ _ _ _ (by first | exact hbb | exact (Below.refl _ _).drew | fail) (HNX.out _)).mono ?_; rintro e wC ⟨aoC, capC, rfl, hownC, hbb, hbC⟩; have hS := HKP.out _ hbb)
      | (go_at_call 18; refine (HC1.out _ _ _ _ (by first | exact hbb | exact (Below.refl _ _).drew | fail) (HNY.out _)).mono ?_; rintro e wD ⟨aoD, capD, rfl, hownD, hbb, hbD⟩; have hS := HKP.out _ hbb)
      | (go_at_call 19; refine (HC2.out _ _ _ _ (by first | exact hbb | exact (Below.refl _ _).drew | fail) (HWD.out _)).mono ?_; rintro e wG ⟨rfl, hbb⟩; have hS := HKP.out _ hbb)
      | (go_at_call 20; refine (HC2.out _ _ _ _ (by first | exact hbb | exact (Below.refl _ _).drew | fail) (HWE.out _)).mono ?_; rintro e wH ⟨rfl, hbb⟩; have hS := HKP.out _ hbb)
      | (go_at_call 11; refine (HC2.out _ _ _ _ (by first | exact hbb | exact (Below.refl _ _).drew | fail) (HA5.out _)).mono ?_; rintro e wK ⟨rfl, hbb⟩; have hS := HKP.out _ hbb))
  all_goals
    clear hS
    go_wp2
    go_ret
    refine ⟨rfl, ?_⟩
    exact HX.out _ hbb
end Go.Proofs.Ytbbogkcfngpbbaa
