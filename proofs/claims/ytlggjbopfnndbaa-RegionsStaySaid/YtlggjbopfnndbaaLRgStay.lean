/- RegionsStay, at any module: true. -/
import Derived.Test.YtlggjbopfnndbaaG55
import Derived.Test.YtlggjbopfnndbaaG58
import Derived.Test.YtlggjbopfnndbaaG19
import Derived.Test.YtlggjbopfnndbaaG59
import Derived.Test.YtlggjbopfnndbaaSmI
import Derived.Test.YtlggjbopfnndbaaG36

namespace Go.Proofs.Ytlggjbopfnndbaa
open Go.RowKit

set_option maxRecDepth 100000 in
set_option maxHeartbeats 16000000 in
theorem regionsStay_calls (m : Mo) (w : World) (hm : m.inn w) :
    Calls Try.prog 8 #[.agg m.cells] w fun e w' => e = .returned (.bool true) ∧ Below w.heap.size w w' := by
  obtain ⟨N, hN⟩ : ∃ N, w.heap.size = N := ⟨_, rfl⟩
  obtain ⟨W1, hW1⟩ : ∃ W1, (w.alloc (.cells m.cells 25)) = W1 := ⟨_, rfl⟩
  have hb1 : Below N w W1 := by rw [← hW1, ← hN]; exact (Below.refl _ _).alloc (Nat.le_refl _) _
  have hs1 : W1.heap.size = N + 1 := by rw [← hW1]; simp [hN]
  have q1 : W1.heap[N]? = some (.cells m.cells 25 (0, 0)) := by rw [← hW1, ← hN]; exact alloc_at _ _
  have HK : Hid (∀ W, Below W1.heap.size W1 W → W.cell? ⟨N, 0, none⟩ = some (.slice m.sA m.ss.length m.sC) ∧ W.cell? ⟨N, 1, none⟩ = some (.slice m.fA m.fs.length m.fC) ∧ m.inn W ∧ Below N w W) := fun W hW => by
    have h1 := (hW.block N (by omega)).trans q1
    have h3 := hb1.trans (hW.mono (by omega))
    exact ⟨by rw [cell_of_row _ _ _ _ _ _ h1]; rfl, by rw [cell_of_row _ _ _ _ _ _ h1]; rfl, hm.below (by rw [hN]; exact h3), h3⟩
  obtain ⟨c0, c1, hm1, _⟩ := HK.out W1 (Below.refl _ _)
  have HLI := Lib.hid (light17_calls W1 m hm1)
  have HAL : Hid (∀ W, Calls Try.prog 25 #[] W fun e w' => e = .returned (.bool true) ∧ Below W.heap.size W w') := fun W => alive19_calls W
  have hW1' := hW1
  simp only [Mo.cells] at hW1' HLI
  have HW1 := Lib.hid hW1'
  rw [hN]
  simp only [Mo.cells]
  clear hm hm1 q1 hW1 hW1' hb1
  go_enter Try.func8, Try.ntmps8
  go_upto_region 1 with (fail)
  rw [HW1.out]
  clear hN
  go_wp2_with fail
  go_at_call 11
  refine HLI.out.mono ?_
  rintro e w2 ⟨b, rfl, hb, hb2⟩
  obtain ⟨d0, d1, hm2, hbb2⟩ := HK.out w2 hb2
  have HB2 := Lib.hid hb2
  clear HW1 HLI
  cases b with
  | false =>
    clear c0 c1 hb hb2 hm2 hbb2
    go_wp2_with (go_at_call 25; refine (HAL.out _).mono ?_; rintro e w3 ⟨rfl, hb3⟩; have HR := Lib.hid (HK.out w3 (HB2.out.trans (hb3.mono HB2.out.size))).2.2.2; clear hb3)
    go_ret
    exact ⟨rfl, HR.out⟩
  | true =>
  have hlt := (hb rfl).2
  have hri := short_right hm2 hlt
  have HRR := Lib.hid (refRight_calls m w2 hri)
  have HLT := Lib.hid hlt
  obtain ⟨F, hF⟩ : ∃ F, rightF m = F := ⟨_, rfl⟩
  rw [hF] at HRR
  simp only [Mo.cells] at HRR
  have HRI : Hid (∀ W, Below w2.heap.size w2 W → RightIn W m) := fun W hW => hri.below hW
  clear c0 c1 hb hb2 hm2 hbb2 hri hlt
  by_cases hF0 : F = 0
  rotate_left
  · have e0 : (F != 0) = true := by rw [bne_iff_ne]; exact hF0
    clear hF
    go_wp2_with (first
      | (go_at_call 24; refine HRR.out.mono ?_; rintro e w3 ⟨rfl, hb3⟩; have HB3 := Lib.hid (HB2.out.trans (hb3.mono HB2.out.size)); clear hb3)
      | (go_at_call 25; refine (HAL.out _).mono ?_; rintro e w4 ⟨rfl, hb4⟩; have HR := Lib.hid (HK.out w4 (HB3.out.trans (hb4.mono HB3.out.size))).2.2.2; clear hb4))
    go_ret
    exact ⟨rfl, HR.out⟩
  subst hF0
  have e0 : ((0 : Int) != 0) = false := rfl
  go_upto_region 3 with (go_at_call 24; refine HRR.out.mono ?_; rintro e w3 ⟨rfl, hb3⟩; have HB3 := Lib.hid (HB2.out.trans (hb3.mono HB2.out.size)); have HB23 := Lib.hid hb3; clear hb3)
  clear d0 d1 e0
  obtain ⟨d0, d1, _, _⟩ := HK.out w3 HB3.out
  have HOF := Lib.hid (of19_calls m w3 (HRI.out w3 HB23.out))
  simp only [Mo.cells] at HOF
  clear HRR
  go_wp2_with fail
  go_at_call 26
  refine HOF.out.mono ?_
  rintro e w4 (⟨h, _⟩ | ⟨_, R, vv, fv, rows, tag, k, rfl, hg, hk, _, hb4⟩)
  · exact (h hF).elim
  have hok := OkR.of hF
  have HOK := Lib.hid hok
  obtain ⟨X, hX⟩ : ∃ X, roundsR m (k + 1) = X := ⟨_, rfl⟩
  rw [hX] at hg
  have HB4 : Hid (Below W1.heap.size W1 w4) := HB3.out.trans (hb4.mono HB3.out.size)
  have HG : Hid (∀ W, Below w4.heap.size w4 W → RgM W m w3.heap.size R vv fv rows X tag ((k + 1 : Nat) : Int)) := fun W hW => hg.below hW
  have HB34 := Lib.hid hb4
  have HX := Lib.hid hX
  have HKR := Lib.hid hk
  have HHF := Lib.hid hF
  clear hok hX hk hg hb4 HOF hF d0 d1
  obtain ⟨d0, d1, _, _⟩ := HK.out w4 HB4.out
  have HBW : Hid (∀ W, Below w4.heap.size w4 W → Below W1.heap.size W1 W) := fun W hW => HB4.out.trans (hW.mono HB4.out.size)
  have hss30 := (right_parts HHF.out).2.1
  have HM4 : Hid (∀ W, Below w4.heap.size w4 W → m.inn W) := fun W hW => (HK.out W (HBW.out W hW)).2.2.1
  have HMD : Hid (∀ W, Below w4.heap.size w4 W → Calls Try.prog 32 #[.pointer (some ⟨R, 0, none⟩)] W (ModP W.heap.size W m X)) := fun W hW => module19_calls (HM4.out W hW) (Below.refl _ _) (HG.out W hW) HOK.out hss30
  have HLI : Hid (∀ g ∈ m.fs, ∀ i ∈ g.c.ins, i.light) := light_ins HLT.out
  go_upto_region 6 with (fail)
  clear d0 d1
  go_wp2_with fail
  go_at_call 32
  refine (HMD.out w4 (Below.refl _ _)).mono ?_
  rintro e w5 ⟨n, rfl, hmd5, n1, n2, n3, hb5⟩
  have hmn : ModOf m X n := ⟨n1, n2, n3⟩
  have hRIm := HRI.out w4 (HB23.out.trans (HB34.out.mono HB23.out.size))
  have hrn : RightIn w5 n := modOf_right hRIm hmn hmd5.inn
  have hFn : rightF n = 0 := by rw [← rightF_er n, modOf_er hmn, rightF_er m]; exact HHF.out
  have HOF := Lib.hid (of19_calls n w5 hrn)
  have HMN := Lib.hid hmn
  have HFN := Lib.hid hFn
  have HN5 := Lib.hid hmd5.inn
  have HB5 := Lib.hid hb5
  clear hmd5 n1 n2 n3 hb5 hmn hrn hFn hRIm
  go_wp2_with fail
  go_at_call 26
  refine HOF.out.mono ?_
  rintro e w6 (⟨h, _⟩ | ⟨_, R2, vv2, fv2, rows2, tag2, k2, rfl, hg2, hk2, _, hb6⟩)
  · exact (h HFN.out).elim
  have hn6 : n.inn w6 := HN5.out.below hb6
  have HN6 := Lib.hid hn6
  have hss2 := (right_parts HFN.out).2.1
  have HMD2 := Lib.hid (module19_calls hn6 (Below.refl _ _) hg2 (OkR.of HFN.out) hss2)
  have HK2 := Lib.hid hk2
  have HB6 : Hid (Below w4.heap.size w4 w6) := HB5.out.trans (hb6.mono HB5.out.size)
  clear hg2 hk2 hb6 hn6 HOF
  go_upto_region 7 with (fail)
  go_wp2_with fail
  go_at_call 32
  refine HMD2.out.mono ?_
  rintro e w7 ⟨o, rfl, hmd7, o1, o2, o3, hb7⟩
  have HOO : Hid (ModOf n (roundsR n (k2 + 1)) o) := ⟨o1, o2, o3⟩
  have HO7 := Lib.hid hmd7.inn
  have HB7 : Hid (Below w4.heap.size w4 w7) := HB6.out.trans (hb7.mono HB6.out.size)
  clear hmd7 o1 o2 o3 hb7 HMD2
  go_wp2_with fail
  go_at_call 32
  refine (HMD.out w7 HB7.out).mono ?_
  rintro e w8 ⟨n', rfl, hmd8, n1, n2, n3, hb8⟩
  have HNN : Hid (ModOf m X n') := ⟨n1, n2, n3⟩
  have hfo : o.fitS (mdOf w8) w8 := modOf_fit HFN.out (by
    intro g' hg' i hi
    obtain ⟨f, hf⟩ := List.mem_iff_getElem?.1 hg'
    obtain ⟨g, hg, hw⟩ := HMN.out.up f g' hf
    unfold WithFrom at hw
    rw [hw] at hi
    exact HLI.out g (List.mem_of_getElem? hg) i hi) HOO.out (HO7.out.below hb8)
  have hfn : n'.fitS (mdOf w8) w8 := modOf_fit HHF.out HLI.out HNN.out hmd8.inn
  have hsm := refSame_calls w8 (mdOf w8) o n' hfo hfn
  have hs1 := HMN.out
  have hs2 := HNN.out
  rw [← HX.out] at hs1 hs2
  rw [stay_same hs1 hs2 HKR.out HOO.out HK2.out] at hsm
  have HSM := Lib.hid hsm
  have HB8 : Hid (Below w4.heap.size w4 w8) := HB7.out.trans (hb8.mono HB7.out.size)
  clear hs1 hs2 hfo hfn hsm hmd8 n1 n2 n3 hb8
  go_wp2_with fail
  go_at_call 17
  refine HSM.out.mono ?_
  rintro e w9 ⟨rfl, hb9⟩
  have HB9 : Hid (Below w4.heap.size w4 w9) := HB8.out.trans (hb9.mono HB8.out.size)
  clear hb9 HSM HMD
  go_wp2_with fail
  obtain ⟨c0, c1, _, _⟩ := HK.out w9 (HBW.out w9 HB9.out)
  go_loopw [6] (fun c wr => ∃ j : Nat, j ≤ m.fs.length ∧ c = .int .i64 (j : Int) ∧ Below w4.heap.size w4 wr) (fun c _ => m.fs.length - (intOf c).toNat)
  case atStart => exact ⟨0, Nat.zero_le _, rfl, HB9.out⟩
  case round =>
    rename World => wo
    clear c0 c1
    obtain ⟨j, hj, rfl, hbo⟩ := hrel
    have HBO := Lib.hid hbo
    obtain ⟨c0, c1, hmi, _⟩ := HK.out wo (HBW.out wo hbo)
    have hn60 := HOK.out.nf
    by_cases hjl : j < m.fs.length
    rotate_left
    · have hje : j = m.fs.length := by omega
      subst hje
      clear hmi hbo
      go_wp2_with (go_at_call 25; refine (HAL.out _).mono ?_; rintro e wx ⟨rfl, hbx⟩; have HR := Lib.hid (HK.out wx (HBW.out wx (HBO.out.trans (hbx.mono HBO.out.size)))).2.2.2; clear hbx)
      go_ret
      exact ⟨rfl, HR.out⟩
    obtain ⟨g, hg⟩ : ∃ g, m.fs[j]? = some g := ⟨_, List.getElem?_eq_getElem hjl⟩
    have hjI : (j : Int) < (m.fs.length : Int) := by omega
    obtain ⟨fb, fo, hfA, hfb, hfc⟩ := hmi.frow (by intro e; rw [e] at hjl; simp at hjl)
    have hgm := List.mem_of_getElem? hg
    obtain ⟨q0, q1, q2, q3⟩ := HOK.out.fn g hgm
    have HFC : Hid (∀ W, Below wo.heap.size wo W → W.cell? ⟨N, 1, none⟩ = some (.slice (some ⟨fb, fo, none⟩) m.fs.length m.fC) ∧ W.cell? ⟨fb, fo + j * 8 + 2, none⟩ = some (.slice g.c.varsA g.vs.length g.c.varsC) ∧ W.cell? ⟨fb, fo + j * 8 + 7, none⟩ = some (.slice g.c.insA g.c.ins.length g.c.insC) ∧ g.inn W) := fun W hW => by
      have hgi := (HM4.out W (HBO.out.trans (hW.mono HBO.out.size))).fin g hgm
      refine ⟨by rw [← hfA]; exact (HK.out W (HBW.out W (HBO.out.trans (hW.mono HBO.out.size)))).2.1, ?_, ?_, hgi⟩
      · rw [hW.cell (p := ⟨fb, _, none⟩) hfb, ← hgi.nvars]; exact hfc j g hg 2 _ rfl
      · rw [hW.cell (p := ⟨fb, _, none⟩) hfb]; exact hfc j g hg 7 _ rfl
    have HVR : Hid (∀ (v : Int) W, Below wo.heap.size wo W → Calls Try.prog 28 #[.pointer (some ⟨R, 0, none⟩), .int .i64 (j : Int), .int .i64 v] W (GivesN W (varL m X (j : Int) v))) := fun v W hW => var19_calls (HG.out W (HBO.out.trans (hW.mono HBO.out.size))) HOK.out (j : Int) v
    have HLN : Hid (∀ v, (varL m X (j : Int) v).length ≤ 300) := fun v => Nat.le_trans (varl_len m X j v) (by rw [np_get hg]; omega)
    have HHG := Lib.hid hg
    have HGM := Lib.hid hgm
    clear hmi hg hfc hfA hfb hbo hgm q0 q1 q2
    go_wp2_with fail
    clear c0 c1
    go_loopw [7] (fun c wr => ∃ q : Nat, q ≤ g.c.ins.length ∧ c = .int .i64 (q : Int) ∧ Below wo.heap.size wo wr) (fun c _ => g.c.ins.length - (intOf c).toNat)
    case atStart => exact ⟨0, Nat.zero_le _, rfl, Below.refl _ _⟩
    case round =>
      rename World => wm
      obtain ⟨q, hq, rfl, hbm⟩ := hrel
      have HBM := Lib.hid hbm
      obtain ⟨c1, c2, c7, hgi⟩ := HFC.out wm hbm
      by_cases hql : q < g.c.ins.length
      rotate_left
      · have hqe : q = g.c.ins.length := by omega
        subst hqe
        clear hgi hbm
        go_wp2
        go_roundw
        case rel => exact ⟨j + 1, by omega, by go_num, HBO.out.trans (HBM.out.mono HBO.out.size)⟩
        case measure => simp [intOf]; omega
      obtain ⟨i, hi⟩ : ∃ i, g.c.ins[q]? = some i := ⟨_, List.getElem?_eq_getElem hql⟩
      have him := List.mem_of_getElem? hi
      obtain ⟨ib, io, hiA, hib, hic⟩ := hgi.code.row (by intro e; rw [e] at hql; simp at hql)
      have hqI : (q : Int) < (g.c.ins.length : Int) := by omega
      have HIL : Hid (∀ k u, i.cells.toList[k]? = some u → wm.cell? ((⟨ib, io + q * 13, none⟩ : Addr).add k) = some u) := fun k u hu => by rw [Addr.add_lit]; exact hic q i hi k u hu
      have hiok := (hgi.code.args i him).1
      obtain ⟨IB, hIB⟩ : ∃ P, wm.heap.size = P := ⟨_, rfl⟩
      obtain ⟨W9, hW9⟩ : ∃ W, wm.alloc (.cells i.cells 62) = W := ⟨_, rfl⟩
      have hs9 : W9.heap.size = IB + 1 := by rw [← hW9]; simp [hIB]
      have hbm9 : Below wm.heap.size wm W9 := by rw [← hW9]; exact (Below.refl _ _).alloc (Nat.le_refl _) _
      have hr9 : W9.heap[IB]? = some (.cells i.cells 62 (0, 0)) := by rw [← hW9, ← hIB]; exact alloc_at _ _
      have hst : ∀ (c : Array Value), c.size = 13 → (storeCells ⟨wm.heap.size, 0, none⟩ i.cells.toList 0).run Try.prog (wm.alloc (.cells c 62)) = .ok () W9 := fun c hc => by
        rw [← hW9]
        exact run_storeCells_new (P := Try.prog) wm 62 c i.cells (by show _ = some 13; kernel_rfl) hc (ins_cells_one hiok)
      have HB9o : Hid (∀ W, Below W9.heap.size W9 W → Below wo.heap.size wo W) := fun W hW => by
        have h1 := HBM.out.trans (hbm9.mono HBM.out.size)
        exact h1.trans (hW.mono h1.size)
      have HI9 : Hid (∀ W, Below W9.heap.size W9 W → W.cell? ⟨IB, 0, none⟩ = some (.int .i64 i.op) ∧ W.cell? ⟨IB, 1, none⟩ = some (.int .i64 i.d) ∧ W.cell? ⟨IB, 2, none⟩ = some (.int .i64 i.a)) := fun W hW => by
        have q9 := (hW.block IB (by omega)).trans hr9
        exact ⟨by rw [cell_of_row _ _ _ _ _ _ q9]; rfl, by rw [cell_of_row _ _ _ _ _ _ q9]; rfl, by rw [cell_of_row _ _ _ _ _ _ q9]; rfl⟩
      have HHI := Lib.hid hi
      have HIM := Lib.hid him
      rw [hIB] at hst
      rw [hiA] at c7
      clear hgi hic hib hiA hi him hiok hbm hbm9 hs9 hr9 hW9
      go_upto_region 16 with (refine wpList_load_at rfl 62 _ rfl ⟨ib, io + q * 13, none⟩ rfl i.cells _ HIL.out Try.underlying62 rfl (by kernel_rfl) ?_)
      clear c1 c2 c7 hst hIB HIL
      have HBP : Hid (∀ p : BW W9, Below wo.heap.size wo p.w) := fun p => HB9o.out p.w p.h
      have i0 : ∀ p : BW W9, p.w.cell? ⟨IB, 0, none⟩ = some (.int .i64 i.op) := fun p => (HI9.out p.w p.h).1
      by_cases h9 : i.op = 9 ∨ i.op = 10
      rotate_left
      · have e9 : (i.op != 9) = true := by rw [bne_iff_ne]; omega
        have e10 : (i.op != 10) = true := by rw [bne_iff_ne]; omega
        clear h9
        refine wp_region_quiet_bw (by kernel_rfl) (by kernel_rfl) ?_
        repeat (go_big_quiet_step (fail))
        refine wpQuiet_nil ?_
        rintro _ ⟨p, rfl⟩
        clear i0
        go_wp2
        go_roundw
        case rel => exact ⟨q + 1, by omega, by go_num, HBP.out p⟩
        case measure => simp [intOf]; omega
      obtain ⟨hvd, hva⟩ := HOK.out.mv g HGM.out i HIM.out h9
      obtain ⟨h0, h1⟩ := isVar_iff.1 hvd
      obtain ⟨kd, hkd⟩ : ∃ k : Nat, i.d = (k : Int) := ⟨i.d.toNat, by omega⟩
      obtain ⟨h2, h3⟩ := isVar_iff.1 hva
      obtain ⟨ka, hka⟩ : ∃ k : Nat, i.a = (k : Int) := ⟨i.a.toNat, by omega⟩
      obtain ⟨yd, hyd⟩ : ∃ y, g.vs[kd]? = some y := ⟨_, List.getElem?_eq_getElem (by omega)⟩
      obtain ⟨ya, hya⟩ : ∃ y, g.vs[ka]? = some y := ⟨_, List.getElem?_eq_getElem (by omega)⟩
      have hkdI : (kd : Int) < (g.vs.length : Int) := by omega
      have hkaI : (ka : Int) < (g.vs.length : Int) := by omega
      have hV : ∃ vb vo, g.c.varsA = some ⟨vb, vo, none⟩ ∧ ∀ W, Below wo.heap.size wo W → ∀ (k : Nat) (y : Vr), g.vs[k]? = some y → ∀ q u, y.cells.toList[q]? = some u → W.cell? ((⟨vb, vo + k * 3, none⟩ : Addr).add q) = some u := by
        obtain ⟨vb, vo, hA, hb, hc⟩ := (HFC.out wo (Below.refl _ _)).2.2.2.vars (by intro e; rw [e] at hyd; simp at hyd)
        refine ⟨vb, vo, hA, fun W hW k y hy q u hu => ?_⟩
        rw [Addr.add_lit, hW.cell (p := ⟨vb, _, none⟩) hb]; exact hc k y hy q u hu
      obtain ⟨vb, vo, hvA, hvc⟩ := hV
      have HXD : Hid (∀ (p : BW W9) k u, yd.cells.toList[k]? = some u → p.w.cell? ((⟨vb, vo + kd * 3, none⟩ : Addr).add k) = some u) := fun p => hvc p.w (HBP.out p) kd yd hyd
      have HXA : Hid (∀ (p : BW W9) k u, ya.cells.toList[k]? = some u → p.w.cell? ((⟨vb, vo + ka * 3, none⟩ : Addr).add k) = some u) := fun p => hvc p.w (HBP.out p) ka ya hya
      have c1 : ∀ p : BW W9, p.w.cell? ⟨N, 1, none⟩ = some (.slice (some ⟨fb, fo, none⟩) m.fs.length m.fC) := fun p => (HFC.out p.w (HBP.out p)).1
      have c2 : ∀ p : BW W9, p.w.cell? ⟨fb, fo + j * 8 + 2, none⟩ = some (.slice (some ⟨vb, vo, none⟩) g.vs.length g.c.varsC) := fun p => by rw [← hvA]; exact (HFC.out p.w (HBP.out p)).2.1
      have i1 : ∀ p : BW W9, p.w.cell? ⟨IB, 1, none⟩ = some (.int .i64 (kd : Int)) := fun p => by rw [← hkd]; exact (HI9.out p.w p.h).2.1
      have i2 : ∀ p : BW W9, p.w.cell? ⟨IB, 2, none⟩ = some (.int .i64 (ka : Int)) := fun p => by rw [← hka]; exact (HI9.out p.w p.h).2.2
      obtain ⟨ld, hld⟩ : ∃ b, yd.lent = b := ⟨_, rfl⟩
      obtain ⟨la, hla⟩ : ∃ b, ya.lent = b := ⟨_, rfl⟩
      have HL1 : Hid (∀ p : BW W9, Calls Try.prog 29 #[.agg yd.cells] p.w fun e w' => e = .returned (.bool ld) ∧ Below p.w.heap.size p.w w') := fun p => by rw [← hld]; exact lent19_calls yd p.w
      have HL2 : Hid (∀ p : BW W9, Calls Try.prog 29 #[.agg ya.cells] p.w fun e w' => e = .returned (.bool la) ∧ Below p.w.heap.size p.w w') := fun p => by rw [← hla]; exact lent19_calls ya p.w
      have HST : Hid (ld = true → la = true → ∀ q n : Nat, (varL m X (j : Int) (ka : Int))[q]? = some n → n ∈ varL m X (j : Int) (kd : Int)) := fun a1 a2 q n hn => by
        rw [← HX.out] at hn ⊢
        exact stay_has HKR.out HHG.out HIM.out h9 hkd hka hyd hya (hld.trans a1) (hla.trans a2) hn
      have H9 := Lib.hid h9
      have HKD := Lib.hid hkd
      have HKA := Lib.hid hka
      clear hvd hva h0 h1 h2 h3 hkd hka hyd hya hvA hvc hld hla h9
      rcases H9.out with h9 | h9
      all_goals
        rw [h9] at i0
        clear h9
        cases ld with
        | false =>
        refine wp_region_quiet_bw (by kernel_rfl) (by kernel_rfl) ?_
        repeat (first
          | (go_big_quiet_want; (refine quiet_load_bw 47 _ rfl ⟨vb, vo + kd * 3, none⟩ rfl _ _ HXD.out Try.underlying47 rfl (by kernel_rfl) ?_); (simp only [Act.put, List.setIfInBounds_toArray, List.set_cons_zero, List.set_cons_succ]); go_big_quiet_on)
          | (go_big_quiet_step (fail)))
        go_big_quiet_step ((go_at_call 29; exact bw_of (HL1.out _)))
        repeat (go_big_quiet_step (fail))
        refine wpQuiet_nil ?_
        rintro _ ⟨p, rfl⟩
        clear i0 i1 i2 c1 c2
        go_wp2
        go_roundw
        case rel => exact ⟨q + 1, by omega, by go_num, HBP.out p⟩
        case measure => simp [intOf]; omega
        | true =>
        cases la with
        | false =>
        refine wp_region_quiet_bw (by kernel_rfl) (by kernel_rfl) ?_
        repeat (first
          | (go_big_quiet_want; (refine quiet_load_bw 47 _ rfl ⟨vb, vo + kd * 3, none⟩ rfl _ _ HXD.out Try.underlying47 rfl (by kernel_rfl) ?_); (simp only [Act.put, List.setIfInBounds_toArray, List.set_cons_zero, List.set_cons_succ]); go_big_quiet_on)
          | (go_big_quiet_step (fail)))
        go_big_quiet_step ((go_at_call 29; exact bw_of (HL1.out _)))
        repeat (first
          | (go_big_quiet_want; (refine quiet_load_bw 47 _ rfl ⟨vb, vo + ka * 3, none⟩ rfl _ _ HXA.out Try.underlying47 rfl (by kernel_rfl) ?_); (simp only [Act.put, List.setIfInBounds_toArray, List.set_cons_zero, List.set_cons_succ]); go_big_quiet_on)
          | (go_big_quiet_step (fail)))
        go_big_quiet_step ((go_at_call 29; exact bw_of (HL2.out _)))
        repeat (go_big_quiet_step (fail))
        refine wpQuiet_nil ?_
        rintro _ ⟨p, rfl⟩
        clear i0 i1 i2 c1 c2
        go_wp2
        go_roundw
        case rel => exact ⟨q + 1, by omega, by go_num, HBP.out p⟩
        case measure => simp [intOf]; omega
        | true =>
        refine wp_region_quiet_bw (by kernel_rfl) (by kernel_rfl) ?_
        repeat (first
          | (go_big_quiet_want; (refine quiet_load_bw 47 _ rfl ⟨vb, vo + kd * 3, none⟩ rfl _ _ HXD.out Try.underlying47 rfl (by kernel_rfl) ?_); (simp only [Act.put, List.setIfInBounds_toArray, List.set_cons_zero, List.set_cons_succ]); go_big_quiet_on)
          | (go_big_quiet_step (fail)))
        go_big_quiet_step ((go_at_call 29; exact bw_of (HL1.out _)))
        repeat (first
          | (go_big_quiet_want; (refine quiet_load_bw 47 _ rfl ⟨vb, vo + ka * 3, none⟩ rfl _ _ HXA.out Try.underlying47 rfl (by kernel_rfl) ?_); (simp only [Act.put, List.setIfInBounds_toArray, List.set_cons_zero, List.set_cons_succ]); go_big_quiet_on)
          | (go_big_quiet_step (fail)))
        go_big_quiet_step ((go_at_call 29; exact bw_of (HL2.out _)))
        repeat (go_big_quiet_step (fail))
        refine wpQuiet_nil ?_
        rintro _ ⟨p, rfl⟩
        clear i0 i1 c1 c2
        have hp2 := i2 p
        have HVA := Lib.hid (HVR.out (ka : Int) p.w (HBP.out p))
        have HIP : Hid (∀ W, Below p.w.heap.size p.w W → W.cell? ⟨IB, 1, none⟩ = some (.int .i64 (kd : Int)) ∧ Below wo.heap.size wo W) := fun W hW => by
          refine ⟨?_, (HBP.out p).trans (hW.mono (HBP.out p).size)⟩
          rw [← HKD.out]
          exact (HI9.out W (p.h.trans (hW.mono p.h.size))).2.1
        clear i2
        go_upto_region 18 with (go_at_call 28; refine HVA.out.mono ?_; intro e wa hga; obtain ⟨ao, cap, rfl, hba, hca⟩ := givesN_at hga; clear hga)
        clear hp2 HVA
        obtain ⟨L, hL⟩ : ∃ L, varL m X (j : Int) (ka : Int) = L := ⟨_, rfl⟩
        have HINL : Hid (∀ (q n : Nat), L[q]? = some n → n ∈ varL m X (j : Int) (kd : Int)) := fun q n hn => HST.out (by simp) (by simp) q n (by rw [hL]; exact hn)
        have HLL : Hid (L.length ≤ 300) := by unfold Hid; rw [← hL]; exact HLN.out _
        rw [hL] at hca ⊢
        have HNA : Hid (∀ W, Below wa.heap.size wa W → NumsAt W ao L) := fun W hW => by
          have h1 : NumsAt wa ao L := fun hne => by
            obtain ⟨b, e, _, h1, h2⟩ := hca hne
            exact ⟨b, e, h1, h2⟩
          exact h1.below hW
        have HWA : Hid (∀ W, Below wa.heap.size wa W → Below p.w.heap.size p.w W) := fun W hW => hba.trans (hW.mono hba.size)
        clear hca hba hL
        go_wp2_with fail
        go_loopw [10] (fun c wr => ∃ z : Nat, z ≤ L.length ∧ c = .int .i64 (z : Int) ∧ Below wa.heap.size wa wr) (fun c _ => L.length - (intOf c).toNat)
        case atStart => exact ⟨0, Nat.zero_le _, rfl, Below.refl _ _⟩
        case round =>
          obtain ⟨z, hz, rfl, hbr⟩ := hrel
          have HBR := Lib.hid hbr
          have hll := HLL.out
          by_cases hzl : z < L.length
          · obtain ⟨nz, hnz⟩ : ∃ n, L[z]? = some n := ⟨_, List.getElem?_eq_getElem hzl⟩
            obtain ⟨lb, hao, _, _⟩ := HNA.out wr hbr (by intro e; rw [e] at hzl; simp at hzl)
            have hzI : (z : Int) < (L.length : Int) := by omega
            obtain ⟨S, hS⟩ : ∃ S : World → Prop, S = Below wr.heap.size wr := ⟨_, rfl⟩
            have HSB : Hid (∀ w', S w' ↔ Below wr.heap.size wr w') := fun w' => by rw [hS]
            have HSA : Hid (∀ w', S w' → Below wa.heap.size wa w') := fun w' h => HBR.out.trans (((HSB.out w').1 h).mono HBR.out.size)
            have HSS : Hid (∀ w', S w' → w'.cell? ⟨IB, 1, none⟩ = some (.int .i64 (kd : Int)) ∧ w'.cell? ⟨lb, z, none⟩ = some (.int .i64 (nz : Int))) := fun w' h => by
              refine ⟨(HIP.out w' (HWA.out w' (HSA.out w' h))).1, ?_⟩
              obtain ⟨b, e, _, h2⟩ := HNA.out w' (HSA.out w' h) (by intro e; rw [e] at hzl; simp at hzl)
              rw [hao] at e
              simp only [Option.some.injEq, Addr.mk.injEq, and_true] at e
              rw [e]; exact h2 z nz hnz
            have HVD : Hid (∀ w', S w' → Calls Try.prog 28 #[.pointer (some ⟨R, 0, none⟩), .int .i64 (j : Int), .int .i64 (kd : Int)] w' (GivesN w' (varL m X (j : Int) (kd : Int)))) := fun w' h => HVR.out (kd : Int) w' (HIP.out w' (HWA.out w' (HSA.out w' h))).2
            have HIND := Lib.hid (HINL.out z nz hnz)
            have hS0 : S wr.drew := (HSB.out _).2 (Below.refl _ _).drew
            have HLD := HLN.out (kd : Int)
            rw [hao]
            clear hS hnz hbr hao
            go_wp2_with fail
            refine wp_region_J 9 S (by kernel_rfl) ?_
            refine wpAnyJ_take (i := 0) rfl (by kernel_rfl) (by kernel_rfl) (by kernel_rfl) (by kernel_rfl) (fun _ _ _ h => h) (Or.inl ⟨by rfl, fun w hSw => by obtain ⟨s1, s2⟩ := HSS.out w hSw; go_simp; try rfl⟩) (by assumption) ?_
            try simp only [Act.put, List.getElem_toArray, List.getElem_cons_zero, List.setIfInBounds_toArray, List.set_cons_zero, List.set_cons_succ]
            refine wpAnyJ_take (i := 1) rfl (by kernel_rfl) (by kernel_rfl) (by kernel_rfl) (by kernel_rfl) (fun _ _ _ h => h) (Or.inl ⟨by rfl, fun w hSw => by obtain ⟨s1, s2⟩ := HSS.out w hSw; go_simp; try rfl⟩) (by assumption) ?_
            try simp only [Act.put, List.getElem_toArray, List.getElem_cons_zero, List.getElem_cons_succ, List.setIfInBounds_toArray, List.set_cons_zero, List.set_cons_succ]
            refine wpAnyJ_take (i := 2) rfl (by kernel_rfl) (by kernel_rfl) (by kernel_rfl) (by kernel_rfl) (fun _ _ _ h => h) (Or.inl ⟨by rfl, fun w hSw => by obtain ⟨s1, s2⟩ := HSS.out w hSw; go_simp; try rfl⟩) (by assumption) ?_
            try simp only [Act.put, List.getElem_toArray, List.getElem_cons_zero, List.getElem_cons_succ, List.setIfInBounds_toArray, List.set_cons_zero, List.set_cons_succ]
            refine wpAnyJ_take (i := 3) rfl (by kernel_rfl) (by kernel_rfl) (by kernel_rfl) (by kernel_rfl) (fun _ _ _ h => h) (Or.inl ⟨by rfl, fun w hSw => by obtain ⟨s1, s2⟩ := HSS.out w hSw; go_simp; try rfl⟩) (by assumption) ?_
            try simp only [Act.put, List.getElem_toArray, List.getElem_cons_zero, List.getElem_cons_succ, List.setIfInBounds_toArray, List.set_cons_zero, List.set_cons_succ]
            refine wpAnyJ_take (i := 5) rfl (by kernel_rfl) (by kernel_rfl) (by kernel_rfl) (by kernel_rfl) (fun _ _ _ h => h) (Or.inl ⟨by rfl, fun w hSw => by obtain ⟨s1, s2⟩ := HSS.out w hSw; go_simp; try rfl⟩) (by assumption) ?_
            try simp only [Act.put, List.getElem_toArray, List.getElem_cons_zero, List.getElem_cons_succ, List.setIfInBounds_toArray, List.set_cons_zero, List.set_cons_succ]
            refine wpAnyJ_take (i := 6) rfl (by kernel_rfl) (by kernel_rfl) (by kernel_rfl) (by kernel_rfl) (fun _ _ _ h => h) (Or.inl ⟨by rfl, fun w hSw => by obtain ⟨s1, s2⟩ := HSS.out w hSw; go_simp; try rfl⟩) (by assumption) ?_
            try simp only [Act.put, List.getElem_toArray, List.getElem_cons_zero, List.getElem_cons_succ, List.setIfInBounds_toArray, List.set_cons_zero, List.set_cons_succ]
            refine wpAnyJ_take (i := 7) rfl (by kernel_rfl) (by kernel_rfl) (by kernel_rfl) (by kernel_rfl) (fun _ _ _ h => h) (Or.inl ⟨by rfl, fun w hSw => by obtain ⟨s1, s2⟩ := HSS.out w hSw; go_simp; try rfl⟩) (by assumption) ?_
            try simp only [Act.put, List.getElem_toArray, List.getElem_cons_zero, List.getElem_cons_succ, List.setIfInBounds_toArray, List.set_cons_zero, List.set_cons_succ]
            refine wpAnyJ_take (i := 8) rfl (by kernel_rfl) (by kernel_rfl) (by kernel_rfl) (by kernel_rfl) (fun _ _ _ h => h) (Or.inl ⟨by rfl, fun w hSw => by obtain ⟨s1, s2⟩ := HSS.out w hSw; go_simp; try rfl⟩) (by assumption) ?_
            try simp only [Act.put, List.getElem_toArray, List.getElem_cons_zero, List.getElem_cons_succ, List.setIfInBounds_toArray, List.set_cons_zero, List.set_cons_succ]
            refine wpAnyJ_one (i := 4) (by kernel_rfl) (by decide) rfl fun K' hK => ?_
            rw [if_pos (by rfl)]
            go_simp
            go_at_call 28
            refine (HVD.out _ hS0).mono ?_
            intro e wd hgd
            obtain ⟨aod, capd, rfl, hbd, hcd⟩ := givesN_at hgd
            have hSd : S wd := (HSB.out _).2 (((HSB.out _).1 hS0).trans (hbd.mono ((HSB.out _).1 hS0).size))
            have hNd : NumsAt wd aod (varL m X (j : Int) (kd : Int)) := fun hne => by
              obtain ⟨b, e, _, h1, h2⟩ := hcd hne
              exact ⟨b, e, h1, h2⟩
            have HHS := Lib.hid (has19_calls wd aod (varL m X (j : Int) (kd : Int)) capd nz hNd HIND.out (by omega))
            refine hK _ _ hSd ?_
            clear hK hgd hbd hcd hNd hS0
            try simp only [Act.put, List.getElem_toArray, List.getElem_cons_zero, List.getElem_cons_succ, List.setIfInBounds_toArray, List.set_cons_zero, List.set_cons_succ]
            refine wpAnyJ_k (by kernel_rfl) rfl fun K' hK => ?_
            rw [if_pos (by rfl)]
            go_simp
            go_at_call 33
            refine HHS.out.mono ?_
            rintro e we ⟨rfl, hbe⟩
            have HBE : Hid (Below wa.heap.size wa we) := HSA.out we ((HSB.out _).2 (((HSB.out _).1 hSd).trans (hbe.mono ((HSB.out _).1 hSd).size)))
            refine hK _ _ ?_
            clear hK hbe hSd
            try simp only [Act.put, List.getElem_toArray, List.getElem_cons_zero, List.getElem_cons_succ, List.setIfInBounds_toArray, List.set_cons_zero, List.set_cons_succ]
            refine wpAny_end 10 rfl (by kernel_rfl) (by kernel_rfl) (· = we) rfl ?_
            dsimp only [List.drop]
            repeat (go_big_quiet_step (fail))
            refine wpQuiet_nil ?_
            rintro _ rfl
            go_wp2
            go_roundw
            case rel => exact ⟨z + 1, by omega, by go_num, HBE.out⟩
            case measure => simp [intOf]; omega
          · have hze : z = L.length := by omega
            subst hze
            clear hbr
            go_wp2
            go_roundw
            case rel => exact ⟨q + 1, by omega, by go_num, (HIP.out wr (HWA.out wr HBR.out)).2⟩
            case measure => simp [intOf]; omega
end Go.Proofs.Ytlggjbopfnndbaa
