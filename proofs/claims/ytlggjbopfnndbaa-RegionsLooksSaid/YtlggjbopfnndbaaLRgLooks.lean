/- RegionsLooks, at any module: true. -/
import Derived.Test.YtlggjbopfnndbaaG55
import Derived.Test.YtlggjbopfnndbaaG58
import Derived.Test.YtlggjbopfnndbaaG19
import Derived.Test.YtlggjbopfnndbaaG57
import Derived.Test.YtlggjbopfnndbaaG30

namespace Go.Proofs.Ytlggjbopfnndbaa
open Go.RowKit

theorem empty_slice {w w' : World} {e : Ending} (h : GivesN w [] e w') : ∃ ao cap, e = .returned (.slice ao 0 cap) ∧ Below w.heap.size w w' := by
  obtain ⟨v, rfl, ho, hb⟩ := h
  obtain ⟨ao, cap, rfl⟩ := ownsRow_slice ho
  exact ⟨ao, cap, rfl, hb⟩

set_option maxRecDepth 100000 in
set_option maxHeartbeats 16000000 in
theorem regionsLooks_calls (m : Mo) (x : Vr) (f v : Int) (w : World) (hm : m.inn w) (_ : True) :
    Calls Try.prog 10 #[.agg m.cells, .agg x.cells, .int .i64 f, .int .i64 v] w fun e w' => e = .returned (.bool true) ∧ Below w.heap.size w w' := by
  obtain ⟨N, hN⟩ : ∃ N, w.heap.size = N := ⟨_, rfl⟩
  obtain ⟨W1, hW1⟩ : ∃ W1, ((w.alloc (.cells m.cells 25)).alloc (.cells x.cells 47)) = W1 := ⟨_, rfl⟩
  have hb1 : Below N w W1 := by rw [← hW1, ← hN]; exact ((Below.refl _ _).alloc (Nat.le_refl _) _).alloc (by simp only [World.size_alloc]; omega) _
  have hs1 : W1.heap.size = N + 2 := by rw [← hW1]; simp [hN]
  have q1 : W1.heap[N]? = some (.cells m.cells 25 (0, 0)) := by rw [← hW1, ← hN]; exact heap_alloc2_old _ _ _
  have q2 : W1.heap[N + 1]? = some (.cells x.cells 47 (0, 0)) := by rw [← hW1, ← hN]; exact heap_alloc2_new _ _ _
  have HXV : Hid (∀ W, Below W1.heap.size W1 W → ∀ k u, x.cells.toList[k]? = some u → W.cell? ((⟨N + 1, 0, none⟩ : Addr).add k) = some u) := fun W hW => cells_at ((hW.block (N + 1) (by omega)).trans q2)
  have HK : Hid (∀ W, Below W1.heap.size W1 W → W.cell? ⟨N, 0, none⟩ = some (.slice m.sA m.ss.length m.sC) ∧ W.cell? ⟨N, 1, none⟩ = some (.slice m.fA m.fs.length m.fC) ∧ m.inn W ∧ Below N w W) := fun W hW => by
    have h1 := (hW.block N (by omega)).trans q1
    have h3 := hb1.trans (hW.mono (by omega))
    exact ⟨by rw [cell_of_row _ _ _ _ _ _ h1]; rfl, by rw [cell_of_row _ _ _ _ _ _ h1]; rfl, hm.below (by rw [hN]; exact h3), h3⟩
  obtain ⟨c0, c1, hm1, _⟩ := HK.out W1 (Below.refl _ _)
  have HLI := Lib.hid (light17_calls W1 m hm1)
  have HAL : Hid (∀ W, Calls Try.prog 25 #[] W fun e w' => e = .returned (.bool true) ∧ Below W.heap.size W w') := fun W => alive19_calls W
  have hW1' := hW1
  simp only [Mo.cells, Vr.cells] at hW1' HLI
  have HW1 := Lib.hid hW1'
  rw [hN]
  simp only [Mo.cells, Vr.cells]
  clear hm hm1 q1 q2 hW1 hW1' hb1
  go_enter Try.func10, Try.ntmps10
  go_upto_region 1 with (fail)
  rw [HW1.out]
  clear hN
  go_wp2_with fail
  go_at_call 11
  refine HLI.out.mono ?_
  rintro e w2 ⟨b, rfl, hb, hb2⟩
  obtain ⟨d0, d1, hm2, hbb2⟩ := HK.out w2 hb2
  have HB2 := Lib.hid hb2
  clear HW1 HLI
  cases b with
  | false =>
    clear c0 c1 hb hb2 hm2 hbb2
    go_wp2_with (go_at_call 25; refine (HAL.out _).mono ?_; rintro e w3 ⟨rfl, hb3⟩; have HR := Lib.hid (HK.out w3 (HB2.out.trans (hb3.mono HB2.out.size))).2.2.2; clear hb3)
    go_ret
    exact ⟨rfl, HR.out⟩
  | true =>
  have hlt := (hb rfl).2
  have hri := short_right hm2 hlt
  have HRR := Lib.hid (refRight_calls m w2 hri)
  have HLT := Lib.hid hlt
  obtain ⟨F, hF⟩ : ∃ F, rightF m = F := ⟨_, rfl⟩
  rw [hF] at HRR
  simp only [Mo.cells] at HRR
  have HRI : Hid (∀ W, Below w2.heap.size w2 W → RightIn W m) := fun W hW => hri.below hW
  clear c0 c1 hb hb2 hm2 hbb2 hri hlt
  by_cases hF0 : F = 0
  rotate_left
  · have e0 : (F != 0) = true := by rw [bne_iff_ne]; exact hF0
    clear hF
    go_wp2_with (first
      | (go_at_call 24; refine HRR.out.mono ?_; rintro e w3 ⟨rfl, hb3⟩; have HB3 := Lib.hid (HB2.out.trans (hb3.mono HB2.out.size)); clear hb3)
      | (go_at_call 25; refine (HAL.out _).mono ?_; rintro e w4 ⟨rfl, hb4⟩; have HR := Lib.hid (HK.out w4 (HB3.out.trans (hb4.mono HB3.out.size))).2.2.2; clear hb4))
    go_ret
    exact ⟨rfl, HR.out⟩
  subst hF0
  have e0 : ((0 : Int) != 0) = false := rfl
  go_upto_region 4 with (go_at_call 24; refine HRR.out.mono ?_; rintro e w3 ⟨rfl, hb3⟩; have HB3 := Lib.hid (HB2.out.trans (hb3.mono HB2.out.size)); have HB23 := Lib.hid hb3; clear hb3)
  clear d0 d1 e0
  obtain ⟨d0, d1, _, _⟩ := HK.out w3 HB3.out
  have HOF := Lib.hid (of19_calls m w3 (HRI.out w3 HB23.out))
  simp only [Mo.cells] at HOF
  clear HRR
  go_wp2_with fail
  go_at_call 26
  refine HOF.out.mono ?_
  rintro e w4 (⟨h, _⟩ | ⟨_, R, vv, fv, rows, tag, k, rfl, hg, hk, _, hb4⟩)
  · exact (h hF).elim
  have hok := OkR.of hF
  have HOK := Lib.hid hok
  obtain ⟨X, hX⟩ : ∃ X, roundsR m (k + 1) = X := ⟨_, rfl⟩
  rw [hX] at hg
  have HB4 : Hid (Below W1.heap.size W1 w4) := HB3.out.trans (hb4.mono HB3.out.size)
  have HG : Hid (∀ W, Below w4.heap.size w4 W → RgM W m w3.heap.size R vv fv rows X tag ((k + 1 : Nat) : Int)) := fun W hW => hg.below hW
  have HB34 := Lib.hid hb4
  have HX := Lib.hid hX
  have HKR := Lib.hid hk
  have HHF := Lib.hid hF
  clear hok hX hk hg hb4 HOF hF d0 d1
  obtain ⟨d0, d1, _, _⟩ := HK.out w4 HB4.out
  have HNL : Hid (∀ W, Calls Try.prog 27 #[.pointer none, .int .i64 f] W fun e w' => e = .returned (.slice none 0 0) ∧ Below W.heap.size W w') := fun W => fromNil_calls f W
  have HNV : Hid (∀ W, Calls Try.prog 28 #[.pointer none, .int .i64 f, .int .i64 v] W fun e w' => e = .returned (.slice none 0 0) ∧ Below W.heap.size W w') := fun W => varNil_calls f v W
  have HNS : Hid (∀ W, Calls Try.prog 36 #[.pointer none, .int .i64 f] W fun e w' => e = .returned (.string ⟨#[]⟩) ∧ Below W.heap.size W w') := fun W => signNil_calls f W
  have HNR : Hid (∀ W, Calls Try.prog 38 #[.pointer none] W fun e w' => e = .returned (.int .i64 0) ∧ Below W.heap.size W w') := fun W => roundsNil_calls W
  have HNM : Hid (∀ W, Calls Try.prog 32 #[.pointer none] W fun e w' => e = .returned (.agg #[.slice none 0 0, .slice none 0 0]) ∧ Below W.heap.size W w') := fun W => moduleNil_calls W
  have HL1 : Hid (∀ W, Calls Try.prog 29 #[.agg x.cells] W fun e w' => e = .returned (.bool x.lent) ∧ Below W.heap.size W w') := fun W => lent19_calls x W
  have HL2 : Hid (∀ W, Calls Try.prog 40 #[.agg x.cells] W fun e w' => e = .returned (.bool x.lent) ∧ Below W.heap.size W w') := fun W => rlent19_calls x W
  have hfd : ∀ w : World, (Instr.field 25 (.agg #[.slice none 0 0, .slice none 0 0]) 1).run Try.prog w = .ok (.slice none 0 0) w := fun _ => by kernel_rfl
  obtain ⟨xl, hxl⟩ : ∃ b, x.lent = b := ⟨_, rfl⟩
  rw [hxl] at HL1 HL2
  clear hxl
  have HLAST : Hid (∀ w5, Below W1.heap.size W1 w5 → ∀ p : BW w5, Below N w p.w) := fun w5 h5 p => (HK.out p.w (h5.trans (p.h.mono h5.size))).2.2.2
  cases hr : inR m.fs.length f with
  | false =>
    have hf : f < 0 ∨ (m.fs.length : Int) ≤ f := by
      unfold inR at hr
      have := of_decide_eq_false hr
      omega
    have HFR : Hid (∀ W, Below w4.heap.size w4 W → Calls Try.prog 27 #[.pointer (some ⟨R, 0, none⟩), .int .i64 f] W fun e w' => ∃ ao cap, e = .returned (.slice ao 0 cap) ∧ Below W.heap.size W w') := fun W hW => by
      have h1 := from19_calls (HG.out W hW) HOK.out f
      rw [show fromL m X f = [] from by unfold fromL; rw [hr]; rfl] at h1
      exact h1.mono fun e w' h => empty_slice h
    have HVR : Hid (∀ W, Below w4.heap.size w4 W → Calls Try.prog 28 #[.pointer (some ⟨R, 0, none⟩), .int .i64 f, .int .i64 v] W fun e w' => ∃ ao cap, e = .returned (.slice ao 0 cap) ∧ Below W.heap.size W w') := fun W hW => by
      have h1 := var19_calls (HG.out W hW) HOK.out f v
      rw [show varL m X f v = [] from by unfold varL; rw [hr]; rfl] at h1
      exact h1.mono fun e w' h => empty_slice h
    have HSR : Hid (∀ W, Below w4.heap.size w4 W → Calls Try.prog 36 #[.pointer (some ⟨R, 0, none⟩), .int .i64 f] W fun e w' => e = .returned (.string ⟨#[]⟩) ∧ Below W.heap.size W w') := fun W hW => sign19_out (HG.out W hW) HOK.out hr
    clear hr
    rcases hf with h0 | h0
    · have e0 : decide (f < 0) = true := decide_eq_true h0
      go_upto_region 10 with (first
        | (go_at_call 27; refine (HFR.out _ (Below.refl _ _)).mono ?_; rintro e w5 ⟨ao5, cap5, rfl, hb5⟩; have HB5 := Lib.hid hb5; clear hb5)
        | (go_at_call 28; refine (HVR.out _ HB5.out).mono ?_; rintro e w6 ⟨ao6, cap6, rfl, hb6⟩; have HB6 : Hid (Below w4.heap.size w4 w6) := HB5.out.trans (hb6.mono HB5.out.size); clear hb6)
        | (go_at_call 36; refine (HSR.out _ HB6.out).mono ?_; rintro e w7 ⟨rfl, hb7⟩; have HB7 : Hid (Below W1.heap.size W1 w7) := HB4.out.trans ((HB6.out.trans (hb7.mono HB6.out.size)).mono HB4.out.size); clear hb7))
      clear d0 d1
      have HXP : Hid (∀ (p : BW w7) k u, x.cells.toList[k]? = some u → p.w.cell? ((⟨N + 1, 0, none⟩ : Addr).add k) = some u) := fun p => HXV.out p.w (HB7.out.trans (p.h.mono HB7.out.size))
      refine wp_region_quiet_bw (by kernel_rfl) (by kernel_rfl) ?_
      repeat (first
        | (go_big_quiet_want; (refine quiet_load_bw 47 _ rfl ⟨N + 1, 0, none⟩ rfl _ _ HXP.out Try.underlying47 rfl (by kernel_rfl) ?_); (simp only [Act.put, List.setIfInBounds_toArray, List.set_cons_zero, List.set_cons_succ]); go_big_quiet_on)
        | (go_big_quiet_step (first
          | (go_at_call 29; exact bw_of (HL1.out _))
          | (go_at_call 40; exact bw_of (HL2.out _))
          | (go_at_call 27; exact bw_of (HNL.out _))
          | (go_at_call 28; exact bw_of (HNV.out _))
          | (go_at_call 36; exact bw_of (HNS.out _))
          | (go_at_call 38; exact bw_of (HNR.out _))
          | (go_at_call 32; exact bw_of (HNM.out _))
          | (go_at_call 25; exact bw_of (HAL.out _)))))
      refine wpQuiet_nil ?_
      rintro _ ⟨p, rfl⟩
      go_wp2
      go_ret
      exact ⟨rfl, HLAST.out w7 HB7.out p⟩
    · have e0 : decide (f < 0) = false := decide_eq_false (by omega)
      have e1 : decide ((m.fs.length : Int) ≤ f) = true := decide_eq_true h0
      go_upto_region 10 with (first
        | (go_at_call 27; refine (HFR.out _ (Below.refl _ _)).mono ?_; rintro e w5 ⟨ao5, cap5, rfl, hb5⟩; have HB5 := Lib.hid hb5; clear hb5)
        | (go_at_call 28; refine (HVR.out _ HB5.out).mono ?_; rintro e w6 ⟨ao6, cap6, rfl, hb6⟩; have HB6 : Hid (Below w4.heap.size w4 w6) := HB5.out.trans (hb6.mono HB5.out.size); clear hb6)
        | (go_at_call 36; refine (HSR.out _ HB6.out).mono ?_; rintro e w7 ⟨rfl, hb7⟩; have HB7 : Hid (Below W1.heap.size W1 w7) := HB4.out.trans ((HB6.out.trans (hb7.mono HB6.out.size)).mono HB4.out.size); clear hb7))
      clear d0 d1
      have HXP : Hid (∀ (p : BW w7) k u, x.cells.toList[k]? = some u → p.w.cell? ((⟨N + 1, 0, none⟩ : Addr).add k) = some u) := fun p => HXV.out p.w (HB7.out.trans (p.h.mono HB7.out.size))
      refine wp_region_quiet_bw (by kernel_rfl) (by kernel_rfl) ?_
      repeat (first
        | (go_big_quiet_want; (refine quiet_load_bw 47 _ rfl ⟨N + 1, 0, none⟩ rfl _ _ HXP.out Try.underlying47 rfl (by kernel_rfl) ?_); (simp only [Act.put, List.setIfInBounds_toArray, List.set_cons_zero, List.set_cons_succ]); go_big_quiet_on)
        | (go_big_quiet_step (first
          | (go_at_call 29; exact bw_of (HL1.out _))
          | (go_at_call 40; exact bw_of (HL2.out _))
          | (go_at_call 27; exact bw_of (HNL.out _))
          | (go_at_call 28; exact bw_of (HNV.out _))
          | (go_at_call 36; exact bw_of (HNS.out _))
          | (go_at_call 38; exact bw_of (HNR.out _))
          | (go_at_call 32; exact bw_of (HNM.out _))
          | (go_at_call 25; exact bw_of (HAL.out _)))))
      refine wpQuiet_nil ?_
      rintro _ ⟨p, rfl⟩
      go_wp2
      go_ret
      exact ⟨rfl, HLAST.out w7 HB7.out p⟩
  | true =>
    obtain ⟨q, rfl, hq⟩ := inR_true hr
    obtain ⟨g, hg⟩ : ∃ g, m.fs[q]? = some g := ⟨_, List.getElem?_eq_getElem hq⟩
    obtain ⟨fb, fo, hfA, hfb, hfc⟩ := (HRI.out w4 (HB23.out.trans (HB34.out.mono HB23.out.size))).mo.frow (by intro e; rw [e] at hq; simp at hq)
    have hgi := (HRI.out w4 (HB23.out.trans (HB34.out.mono HB23.out.size))).mo.fin g (List.mem_of_getElem? hg)
    have d2 : w4.cell? ⟨fb, fo + q * 8 + 2, none⟩ = some (.slice g.c.varsA g.vs.length g.c.varsC) := by rw [← hgi.nvars]; exact hfc q g hg 2 _ rfl
    have hqI : (q : Int) < (m.fs.length : Int) := by omega
    have e0 : decide ((q : Int) < 0) = false := decide_eq_false (by omega)
    have e1 : decide ((m.fs.length : Int) ≤ (q : Int)) = false := decide_eq_false (by omega)
    have hn60 := HOK.out.nf
    have HVR : Hid (inR g.vs.length v = false → ∀ W, Below w4.heap.size w4 W → Calls Try.prog 28 #[.pointer (some ⟨R, 0, none⟩), .int .i64 (q : Int), .int .i64 v] W fun e w' => ∃ ao cap, e = .returned (.slice ao 0 cap) ∧ Below W.heap.size W w') := fun hv W hW => by
      have h1 := var19_calls (HG.out W hW) HOK.out (q : Int) v
      rw [show varL m X (q : Int) v = [] from by unfold varL; rw [Int.toNat_natCast, nv_get hg, hv, if_neg (by simp)]] at h1
      exact h1.mono fun e w' h => empty_slice h
    rw [hfA] at d1
    have hvl := (HOK.out.fn g (List.mem_of_getElem? hg)).2.2.1
    clear hfA hfb hfc hgi hg hr hq
    by_cases h0 : v < 0
    · have e2 : decide (v < 0) = true := decide_eq_true h0
      have HV := Lib.hid (HVR.out (by unfold inR; exact decide_eq_false (by omega)))
      go_upto_region 10 with (go_at_call 28; refine (HV.out _ (Below.refl _ _)).mono ?_; rintro e w6 ⟨ao6, cap6, rfl, hb6⟩; have HB6 : Hid (Below W1.heap.size W1 w6) := HB4.out.trans (hb6.mono HB4.out.size); clear hb6)
      clear d0 d1 d2
      have HXP : Hid (∀ (p : BW w6) k u, x.cells.toList[k]? = some u → p.w.cell? ((⟨N + 1, 0, none⟩ : Addr).add k) = some u) := fun p => HXV.out p.w (HB6.out.trans (p.h.mono HB6.out.size))
      refine wp_region_quiet_bw (by kernel_rfl) (by kernel_rfl) ?_
      repeat (first
        | (go_big_quiet_want; (refine quiet_load_bw 47 _ rfl ⟨N + 1, 0, none⟩ rfl _ _ HXP.out Try.underlying47 rfl (by kernel_rfl) ?_); (simp only [Act.put, List.setIfInBounds_toArray, List.set_cons_zero, List.set_cons_succ]); go_big_quiet_on)
        | (go_big_quiet_step (first
          | (go_at_call 29; exact bw_of (HL1.out _))
          | (go_at_call 40; exact bw_of (HL2.out _))
          | (go_at_call 27; exact bw_of (HNL.out _))
          | (go_at_call 28; exact bw_of (HNV.out _))
          | (go_at_call 36; exact bw_of (HNS.out _))
          | (go_at_call 38; exact bw_of (HNR.out _))
          | (go_at_call 32; exact bw_of (HNM.out _))
          | (go_at_call 25; exact bw_of (HAL.out _)))))
      refine wpQuiet_nil ?_
      rintro _ ⟨p, rfl⟩
      go_wp2
      go_ret
      exact ⟨rfl, HLAST.out w6 HB6.out p⟩
    by_cases h1 : (g.vs.length : Int) ≤ v
    · have e2 : decide (v < 0) = false := decide_eq_false h0
      have e3 : decide ((g.vs.length : Int) ≤ v) = true := decide_eq_true h1
      have HV := Lib.hid (HVR.out (by unfold inR; exact decide_eq_false (by omega)))
      go_upto_region 10 with (go_at_call 28; refine (HV.out _ (Below.refl _ _)).mono ?_; rintro e w6 ⟨ao6, cap6, rfl, hb6⟩; have HB6 : Hid (Below W1.heap.size W1 w6) := HB4.out.trans (hb6.mono HB4.out.size); clear hb6)
      clear d0 d1 d2
      have HXP : Hid (∀ (p : BW w6) k u, x.cells.toList[k]? = some u → p.w.cell? ((⟨N + 1, 0, none⟩ : Addr).add k) = some u) := fun p => HXV.out p.w (HB6.out.trans (p.h.mono HB6.out.size))
      refine wp_region_quiet_bw (by kernel_rfl) (by kernel_rfl) ?_
      repeat (first
        | (go_big_quiet_want; (refine quiet_load_bw 47 _ rfl ⟨N + 1, 0, none⟩ rfl _ _ HXP.out Try.underlying47 rfl (by kernel_rfl) ?_); (simp only [Act.put, List.setIfInBounds_toArray, List.set_cons_zero, List.set_cons_succ]); go_big_quiet_on)
        | (go_big_quiet_step (first
          | (go_at_call 29; exact bw_of (HL1.out _))
          | (go_at_call 40; exact bw_of (HL2.out _))
          | (go_at_call 27; exact bw_of (HNL.out _))
          | (go_at_call 28; exact bw_of (HNV.out _))
          | (go_at_call 36; exact bw_of (HNS.out _))
          | (go_at_call 38; exact bw_of (HNR.out _))
          | (go_at_call 32; exact bw_of (HNM.out _))
          | (go_at_call 25; exact bw_of (HAL.out _)))))
      refine wpQuiet_nil ?_
      rintro _ ⟨p, rfl⟩
      go_wp2
      go_ret
      exact ⟨rfl, HLAST.out w6 HB6.out p⟩
    · have e2 : decide (v < 0) = false := decide_eq_false h0
      have e3 : decide ((g.vs.length : Int) ≤ v) = false := decide_eq_false h1
      go_upto_region 10 with (fail)
      clear d0 d1 d2
      have HXP : Hid (∀ (p : BW w4) k u, x.cells.toList[k]? = some u → p.w.cell? ((⟨N + 1, 0, none⟩ : Addr).add k) = some u) := fun p => HXV.out p.w (HB4.out.trans (p.h.mono HB4.out.size))
      refine wp_region_quiet_bw (by kernel_rfl) (by kernel_rfl) ?_
      repeat (first
        | (go_big_quiet_want; (refine quiet_load_bw 47 _ rfl ⟨N + 1, 0, none⟩ rfl _ _ HXP.out Try.underlying47 rfl (by kernel_rfl) ?_); (simp only [Act.put, List.setIfInBounds_toArray, List.set_cons_zero, List.set_cons_succ]); go_big_quiet_on)
        | (go_big_quiet_step (first
          | (go_at_call 29; exact bw_of (HL1.out _))
          | (go_at_call 40; exact bw_of (HL2.out _))
          | (go_at_call 27; exact bw_of (HNL.out _))
          | (go_at_call 28; exact bw_of (HNV.out _))
          | (go_at_call 36; exact bw_of (HNS.out _))
          | (go_at_call 38; exact bw_of (HNR.out _))
          | (go_at_call 32; exact bw_of (HNM.out _))
          | (go_at_call 25; exact bw_of (HAL.out _)))))
      refine wpQuiet_nil ?_
      rintro _ ⟨p, rfl⟩
      go_wp2
      go_ret
      exact ⟨rfl, HLAST.out w4 HB4.out p⟩
end Go.Proofs.Ytlggjbopfnndbaa
