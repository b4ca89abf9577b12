/- RegionsOrigins, at any module: true. -/
import Derived.Test.YtlggjbopfnndbaaG55
import Derived.Test.YtlggjbopfnndbaaG58
import Derived.Test.YtlggjbopfnndbaaG19
import Derived.Test.YtlggjbopfnndbaaG57
import Derived.Test.YtlggjbopfnndbaaG66
import Derived.Test.YtlggjbopfnndbaaRqP
import Derived.Test.YtlggjbopfnndbaaG67
import Derived.Test.YtlggjbopfnndbaaSmI
import Derived.Test.YtlggjbopfnndbaaG36
namespace Go.Proofs.Ytlggjbopfnndbaa
open Go.RowKit
set_option maxRecDepth 100000 in
set_option maxHeartbeats 16000000 in
theorem regionsOrigins_calls (m : Mo) (w : World) (hm : m.inn w) :
  Calls Try.prog 9 #[.agg m.cells] w fun e w' => e = .returned (.bool true) ∧ Below w.heap.size w w' := by
 obtain ⟨N, hN⟩ : ∃ N, w.heap.size = N := ⟨_, rfl⟩
 obtain ⟨W1, hW1⟩ : ∃ W1, w.alloc (.cells m.cells 25) = W1 := ⟨_, rfl⟩
 have hb1 : Below N w W1 := by rw [← hW1, ← hN]; exact (Below.refl _ _).alloc (Nat.le_refl _) _
 have hs1 : W1.heap.size = N + 1 := by rw [← hW1]; simp [hN]
 have q1 : W1.heap[N]? = some (.cells m.cells 25 (0, 0)) := by rw [← hW1, ← hN]; exact alloc_at _ _
 have HK : Hid (∀ W, Below W1.heap.size W1 W → W.cell? ⟨N, 0, none⟩ = some (.slice m.sA m.ss.length m.sC) ∧ W.cell? ⟨N, 1, none⟩ = some (.slice m.fA m.fs.length m.fC) ∧ m.inn W ∧ Below N w W) := fun W hW => by
  have h1 := (hW.block N (by omega)).trans q1
  have h3 := hb1.trans (hW.mono (by omega))
  exact ⟨by rw [cell_of_row _ _ _ _ _ _ h1]; rfl, by rw [cell_of_row _ _ _ _ _ _ h1]; rfl, hm.below (by rw [hN]; exact h3), h3⟩
 have HMC : Hid (∀ W, Below W1.heap.size W1 W → ∀ k u, #[.slice m.sA m.ss.length m.sC, .slice m.fA m.fs.length m.fC].toList[k]? = some u → W.cell? ((⟨N, 0, none⟩ : Addr).add k) = some u) := fun W hW => cells_at ((hW.block N (by omega)).trans q1)
 obtain ⟨c0, c1, hm1, _⟩ := HK.out W1 (Below.refl _ _)
 have HLI := Lib.hid (light17_calls W1 m hm1)
 have HAL : Hid (∀ W, Calls Try.prog 25 #[] W fun e w' => e = .returned (.bool true) ∧ Below W.heap.size W w') := fun W => alive19_calls W
 have hW1' := hW1
 simp only [Mo.cells] at hW1' HLI
 have HW1 := Lib.hid hW1'
 rw [hN]
 simp only [Mo.cells]
 clear hm hm1 q1 hW1 hW1' hb1
 go_enter Try.func9, Try.ntmps9
 go_upto_region 1 with (fail)
 rw [HW1.out]
 clear hN
 go_wp2_with fail
 go_at_call 11
 refine HLI.out.mono ?_
 rintro e w2 ⟨b, rfl, hb, hb2⟩
 obtain ⟨d0, d1, hm2, hbb2⟩ := HK.out w2 hb2
 have HB2 := Lib.hid hb2
 clear HW1 HLI
 cases b with
 | false =>
  clear c0 c1 hb hb2 hm2 hbb2
  go_wp2_with (go_at_call 25; refine (HAL.out _).mono ?_; rintro e w3 ⟨rfl, hb3⟩; have HR := Lib.hid (HK.out w3 (HB2.out.trans (hb3.mono HB2.out.size))).2.2.2; clear hb3)
  go_ret
  exact ⟨rfl, HR.out⟩
 | true =>
 have hlt := (hb rfl).2
 have hri := short_right hm2 hlt
 have HOF := Lib.hid (of19_calls m w2 hri)
 simp only [Mo.cells] at HOF
 have HLT := Lib.hid hlt
 have HRR : Hid (∀ W, Below w2.heap.size w2 W → Calls Try.prog 24 #[.agg #[.slice m.sA m.ss.length m.sC, .slice m.fA m.fs.length m.fC]] W fun e w' => e = .returned (.int .i64 (rightF m)) ∧ Below W.heap.size W w') := fun W hW => refRight_calls m W (hri.below hW)
 clear c0 c1 hb hb2 hm2 hbb2 hri hlt
 go_upto_region 3 with (fail)
 go_wp2_with fail
 go_at_call 26
 refine HOF.out.mono ?_
 rintro e w3 (⟨h, rfl, hb3⟩ | ⟨hF, R, vv, fv, rows, tag, k, rfl, hg, hk, _, hb3⟩)
 ·have HR3 := Lib.hid (HRR.out w3 hb3)
  obtain ⟨F, hF⟩ : ∃ F, rightF m = F := ⟨_, rfl⟩
  rw [hF] at HR3 h ⊢
  have e0 : (F != 0) = true := by rw [bne_iff_ne]; exact h
  have HB3 : Hid (Below W1.heap.size W1 w3) := HB2.out.trans (hb3.mono HB2.out.size)
  clear d0 d1 HOF HRR hF hb3
  obtain ⟨d0, d1, _, _⟩ := HK.out w3 HB3.out
  go_wp2_with (first
   | (go_at_call 24; refine HR3.out.mono ?_; rintro e w4 ⟨rfl, hb4⟩; have HB4 : Hid (Below W1.heap.size W1 w4) := HB3.out.trans (hb4.mono HB3.out.size); clear hb4)
   | (go_at_call 25; refine (HAL.out _).mono ?_; rintro e w5 ⟨rfl, hb5⟩; have HR := Lib.hid (HK.out w5 (HB4.out.trans (hb5.mono HB4.out.size))).2.2.2; clear hb5))
  go_ret
  exact ⟨rfl, HR.out⟩
 have hok := OkR.of hF
 have HOK := Lib.hid hok
 have HRI := Lib.hid (HRR.out w3 hb3)
 rw [hF] at HRI
 obtain ⟨X, hX⟩ : ∃ X, roundsR m (k + 1) = X := ⟨_, rfl⟩
 obtain ⟨KI, hKI⟩ : ∃ z : Int, ((k + 1 : Nat) : Int) = z := ⟨_, rfl⟩
 rw [hX, hKI] at hg
 have HB3 : Hid (Below W1.heap.size W1 w3) := HB2.out.trans (hb3.mono HB2.out.size)
 have HG : Hid (∀ W, Below w3.heap.size w3 W → RgM W m w2.heap.size R vv fv rows X tag KI) := fun W hW => hg.below hW
 have HX := Lib.hid hX
 have HKI := Lib.hid hKI
 have HKR := Lib.hid hk
 have HHF := Lib.hid hF
 have HNR := Lib.hid (namesR_of hF HLT.out)
 clear hok hX hk hg hb3 HOF hF d0 d1 HRR hKI
 obtain ⟨d0, d1, _, _⟩ := HK.out w3 HB3.out
 go_upto_region 7 with (go_at_call 24; refine HRI.out.mono ?_; rintro e w4 ⟨rfl, hb4⟩; have HB34 := Lib.hid hb4; have HB4 : Hid (Below W1.heap.size W1 w4) := HB3.out.trans (hb4.mono HB3.out.size); clear hb4)
 clear d0 d1
 obtain ⟨d0, d1, hm4, _⟩ := HK.out w4 HB4.out
 have HQF := Lib.hid (rof_calls m w4 hm4 HOK.out)
 simp only [Mo.cells] at HQF
 clear hm4 HRI
 go_wp2_with fail
 go_at_call 34
 refine HQF.out.mono ?_
 rintro e w5 ⟨B7, R7, vv7, fv7, rows7, tag7, k7, rfl, _, hq, hk7, _, hb5⟩
 obtain rfl := roundsIs_one HKR.out hk7
 rw [HX.out, HKI.out] at hq
 rw [HKI.out]
 obtain ⟨ao1, ca1, e1⟩ := ownsRow_slice hq.tab.vars
 obtain ⟨ao2, ca2, e2⟩ := ownsRow_slice hq.tab.from_
 subst e1 e2
 obtain ⟨n1, hn1⟩ : ∃ n, rows7.length = n := ⟨_, rfl⟩
 rw [hn1] at hq ⊢
 clear d0 d1 HQF hk7 hn1
 obtain ⟨N7, hN7⟩ : ∃ n, w5.heap.size = n := ⟨_, rfl⟩
 obtain ⟨W7, hW7⟩ : ∃ W, w5.alloc (.cells #[.slice ao1 n1 ca1, .slice ao2 n1 ca2, .int .i64 KI] 67) = W := ⟨_, rfl⟩
 have hb7 : Below w5.heap.size w5 W7 := by rw [← hW7]; exact (Below.refl _ _).alloc (Nat.le_refl _) _
 have hr7 : W7.heap[N7]? = some (.cells #[.slice ao1 n1 ca1, .slice ao2 n1 ca2, .int .i64 KI] 67 (0, 0)) := by rw [← hW7, ← hN7]; exact alloc_at _ _
 have hst : ∀ (c : Array Value), c.size = 3 → (storeCells ⟨w5.heap.size, 0, none⟩ #[.slice ao1 n1 ca1, .slice ao2 n1 ca2, .int .i64 KI].toList 0).run Try.prog (w5.alloc (.cells c 67)) = .ok () W7 := fun c hc => by
  rw [← hW7]
  exact run_storeCells_new (P := Try.prog) w5 67 c #[.slice ao1 n1 ca1, .slice ao2 n1 ca2, .int .i64 KI] (by show _ = some 3; kernel_rfl) hc (by rw [← Array.all_toList]; simp [Value.oneCell'])
 rw [hN7] at hst
 have hq7 := hq.copy hb7 hr7 (by omega)
 have HB7 : Hid (Below W1.heap.size W1 W7) := by
  have h1 := HB4.out.trans (hb5.mono HB4.out.size)
  exact h1.trans (hb7.mono h1.size)
 have HB37 : Hid (Below w3.heap.size w3 W7) := by
  have h1 := HB34.out.trans (hb5.mono HB34.out.size)
  exact h1.trans (hb7.mono h1.size)
 have HQ : Hid (∀ W, Below W7.heap.size W7 W → RqM W m B7 N7 (.slice ao1 n1 ca1) (.slice ao2 n1 ca2) rows7 X (fun k => if k = N7 then (5, 0, 0) else tag7 k) KI) := fun W hW => hq7.below hW
 have HG7 : Hid (∀ W, Below W7.heap.size W7 W → RgM W m w2.heap.size R vv fv rows X tag KI) := fun W hW => HG.out W (HB37.out.trans (hW.mono HB37.out.size))
 have HKB : Hid (∀ W, Below W7.heap.size W7 W → Below W1.heap.size W1 W) := fun W hW => HB7.out.trans (hW.mono HB7.out.size)
 have HW7 := Lib.hid hW7
 clear hb5 hb7 hr7 hq hq7 hW7
 go_upto_region 8 with (fail)
 try rw [HW7.out]
 clear hst hN7 HW7
 have hn60 := HOK.out.nf
 obtain ⟨d0, d1, _, _⟩ := HK.out W7 HB7.out
 go_wp2_with fail
 go_loopw [7] (fun c wr => ∃ j : Nat, j ≤ m.fs.length ∧ c = .int .i64 (j : Int) ∧ Below W7.heap.size W7 wr) (fun c _ => m.fs.length - (intOf c).toNat)
 case atStart => exact ⟨0, Nat.zero_le _, rfl, Below.refl _ _⟩
 case round =>
  clear d0 d1
  obtain ⟨j, hj, rfl, hbr⟩ := hrel
  have HBR := Lib.hid hbr
  obtain ⟨d0, d1, hmi, _⟩ := HK.out wr (HKB.out wr hbr)
  obtain ⟨S, hS⟩ : ∃ S : World → Prop, S = Below wr.heap.size wr := ⟨_, rfl⟩
  have HSB : Hid (∀ w', S w' ↔ Below wr.heap.size wr w') := fun w' => by rw [hS]
  have HS7 : Hid (∀ w', S w' → Below W7.heap.size W7 w') := fun w' h => HBR.out.trans (((HSB.out w').1 h).mono HBR.out.size)
  have hS0 : S wr.drew := (HSB.out _).2 (Below.refl _ _).drew
  by_cases hjl : j < m.fs.length
  rotate_left
  ·have hje : j = m.fs.length := by omega
   subst hje
   have hss30 := (right_parts HHF.out).2.1
   have HLIn : Hid (∀ g ∈ m.fs, ∀ i ∈ g.c.ins, i.light) := light_ins HLT.out
   have HSS : Hid (∀ w', S w' → w'.cell? ⟨N7, 2, none⟩ = some (.int .i64 KI) ∧ m.inn w') := fun w' h => ⟨by rw [cell_of_row _ _ _ _ _ _ (HQ.out w' (HS7.out w' h)).rec_]; rfl, (HK.out w' (HKB.out w' (HS7.out w' h))).2.2.1⟩
   have HSL : Hid (∀ w', S w' → ∀ k u, #[.slice m.sA m.ss.length m.sC, .slice m.fA m.fs.length m.fC].toList[k]? = some u → w'.cell? ((⟨N, 0, none⟩ : Addr).add k) = some u) := fun w' h => HMC.out w' (HKB.out w' (HS7.out w' h))
   have HRO : Hid (∀ w', S w' → Calls Try.prog 38 #[.pointer (some ⟨R, 0, none⟩)] w' fun e w2 => e = .returned (.int .i64 KI) ∧ w' = w2) := fun w' h => rounds19_calls (HG7.out w' (HS7.out w' h))
   have HM1 : Hid (∀ w', S w' → Calls Try.prog 32 #[.pointer (some ⟨R, 0, none⟩)] w' (ModP w'.heap.size w' m X)) := fun w' h => module19_calls (HSS.out w' h).2 (Below.refl _ _) (HG7.out w' (HS7.out w' h)) HOK.out hss30
   have HM2 : Hid (∀ w', S w' → Calls Try.prog 39 #[.pointer (some ⟨N7, 0, none⟩), .agg #[.slice m.sA m.ss.length m.sC, .slice m.fA m.fs.length m.fC]] w' (ModQ w' m X)) := fun w' h => rmodule19_calls (HQ.out w' (HS7.out w' h)) HOK.out
   have HEND : Hid (∀ we, S we → ∀ p : BW we, Below N w p.w) := fun we h p => (HK.out p.w (HKB.out p.w ((HS7.out we h).trans (p.h.mono (HS7.out we h).size)))).2.2.2
   clear hmi hbr hS
   go_wp2_with fail
   clear d0 d1
   refine wp_region_J 10 S (by kernel_rfl) ?_
   refine wpAnyJ_take (i := 0) rfl (by kernel_rfl) (by kernel_rfl) (by kernel_rfl) (by kernel_rfl) (fun _ _ _ h => h) (Or.inl ⟨by rfl, fun w hSw => by obtain ⟨s1, s2⟩ := HSS.out w hSw; go_simp; try rfl⟩) (by assumption) ?_
   try go_simp
   refine wpAnyJ_take (i := 2) rfl (by kernel_rfl) (by kernel_rfl) (by kernel_rfl) (by kernel_rfl) (fun _ _ _ h => h) (Or.inl ⟨by rfl, fun w hSw => by obtain ⟨s1, s2⟩ := HSS.out w hSw; go_simp; try rfl⟩) (by assumption) ?_
   try go_simp
   refine wpAnyJ_take (i := 3) rfl (by kernel_rfl) (by kernel_rfl) (by kernel_rfl) (by kernel_rfl) (fun _ _ _ h => h) (Or.inl ⟨by rfl, fun w hSw => by obtain ⟨s1, s2⟩ := HSS.out w hSw; go_simp; try rfl⟩) (by assumption) ?_
   try go_simp
   refine wpAnyJ_one (i := 1) (by kernel_rfl) (by decide) rfl fun K' hK => ?_
   rw [if_pos (by rfl)]
   go_simp
   go_at_call 38
   refine (HRO.out _ hS0).mono ?_
   rintro e wd ⟨rfl, rfl⟩
   refine hK _ _ hS0 ?_
   clear hK
   try go_simp
   refine wpAnyJ_take (i := 4) rfl (by kernel_rfl) (by kernel_rfl) (by kernel_rfl) (by kernel_rfl) (fun _ _ _ h => h) (Or.inl ⟨by rfl, fun w hSw => by obtain ⟨s1, s2⟩ := HSS.out w hSw; go_simp; try rfl⟩) (by assumption) ?_
   try go_simp
   refine wpAnyJ_take (i := 5) rfl (by kernel_rfl) (by kernel_rfl) (by kernel_rfl) (by kernel_rfl) (fun _ _ _ h => h) (Or.inl ⟨by rfl, fun w hSw => by obtain ⟨s1, s2⟩ := HSS.out w hSw; go_simp; try rfl⟩) (by assumption) ?_
   try go_simp
   refine wpAnyJ_take (i := 6) rfl (by kernel_rfl) (by kernel_rfl) (by kernel_rfl) (by kernel_rfl) (fun _ _ _ h => h) (Or.inl ⟨by rfl, fun w hSw => by obtain ⟨s1, s2⟩ := HSS.out w hSw; go_simp; try rfl⟩) (by assumption) ?_
   try go_simp
   refine wpAnyJ_take (i := 8) (v := .agg #[.slice m.sA m.ss.length m.sC, .slice m.fA m.fs.length m.fC]) rfl (by kernel_rfl) (by kernel_rfl) (by kernel_rfl) (by kernel_rfl) (fun _ _ _ h => h) (load_yields (by rfl) 25 _ rfl ⟨N, 0, none⟩ rfl _ _ HSL.out Try.underlying25 rfl (by kernel_rfl)) (by assumption) ?_
   try go_simp
   refine wpAnyJ_one (i := 7) (by kernel_rfl) (by decide) rfl fun K' hK => ?_
   rw [if_pos (by rfl)]
   go_simp
   go_at_call 32
   refine (HM1.out _ hS0).mono ?_
   rintro e wd ⟨n, rfl, hmd, n1, n2, n3, hbd⟩
   have hSd : S wd := (HSB.out _).2 (((HSB.out _).1 hS0).trans (hbd.mono ((HSB.out _).1 hS0).size))
   have HN1 : Hid (ModOf m X n) := ⟨n1, n2, n3⟩
   have HI1 := Lib.hid hmd.inn
   refine hK _ _ hSd ?_
   clear hK hmd n1 n2 n3 hbd
   try go_simp
   refine wpAnyJ_one (i := 9) (by kernel_rfl) (by decide) rfl fun K' hK => ?_
   rw [if_pos (by rfl)]
   go_simp
   go_at_call 39
   refine (HM2.out _ hSd).mono ?_
   rintro e we ⟨o, rfl, hmo, o1, o2, o3, hbe⟩
   have hSe : S we := (HSB.out _).2 (((HSB.out _).1 hSd).trans (hbe.mono ((HSB.out _).1 hSd).size))
   have hoo : ModOf m X o := ⟨o1, o2, o3⟩
   have hsm := refSame_calls we (mdOf we) n o (modOf_fit HHF.out HLIn.out HN1.out (HI1.out.below hbe)) (modOf_fit HHF.out HLIn.out hoo hmo)
   rw [modOf_same HN1.out hoo] at hsm
   have HSM := Lib.hid hsm
   refine hK _ _ hSe ?_
   clear hK hmo o1 o2 o3 hbe hoo hsm HI1
   try go_simp
   refine wpAnyJ_k (by kernel_rfl) rfl fun K' hK => ?_
   rw [if_pos (by rfl)]
   go_simp
   go_at_call 17
   refine HSM.out.mono ?_
   rintro e wf ⟨rfl, hbf⟩
   have hSf : S wf := (HSB.out _).2 (((HSB.out _).1 hSe).trans (hbf.mono ((HSB.out _).1 hSe).size))
   refine hK _ _ ?_
   clear hK hbf HSM
   try go_simp
   refine wpAny_end 11 rfl (by kernel_rfl) (by kernel_rfl) (fun w' => ∃ p : BW wf, w' = p.w) ⟨⟨wf, Below.refl _ _⟩, rfl⟩ ?_
   dsimp only [List.drop]
   repeat (go_big_quiet_step ((go_at_call 25; exact bw_of (HAL.out _))))
   refine wpQuiet_nil ?_
   rintro _ ⟨p, rfl⟩
   go_wp2
   go_ret
   exact ⟨rfl, HEND.out wf hSf p⟩
  obtain ⟨g, hg⟩ : ∃ g, m.fs[j]? = some g := ⟨_, List.getElem?_eq_getElem hjl⟩
  have hjI : (j : Int) < (m.fs.length : Int) := by omega
  have hgm := List.mem_of_getElem? hg
  obtain ⟨q0, q1, q2, q3⟩ := HOK.out.fn g hgm
  obtain ⟨FA, cf, b, t1, t2, hls⟩ := (HQ.out wr hbr).fromAt HOK.out hg
  have HSS : Hid (∀ w', S w' → w'.cell? ⟨N7, 1, none⟩ = some (.slice (some ⟨FA, 0, none⟩) m.fs.length cf) ∧ w'.cell? ⟨FA, j, none⟩ = some (.slice (some ⟨b, 0, none⟩) g.c.par.toNat g.c.par.toNat)) := fun w' h => by
   have hw := (HSB.out w').1 h
   exact ⟨below_cell hw t1, below_cell hw t2⟩
  obtain ⟨L, hL⟩ : ∃ L, fromL m X (j : Int) = L := ⟨_, rfl⟩
  have HLL : Hid (L.length ≤ 90000) := by
   unfold Hid
   rw [← hL]
   have := lists_len m X j
   rw [np_get hg] at this
   omega
  have HVD : Hid (∀ w', S w' → Calls Try.prog 27 #[.pointer (some ⟨R, 0, none⟩), .int .i64 (j : Int)] w' (GivesN w' L)) := fun w' h => by
   rw [← hL]; exact from19_calls (HG7.out w' (HS7.out w' h)) HOK.out (j : Int)
  have HLS : Hid (∀ w', S w' → Calls Try.prog 35 #[.slice (some ⟨b, 0, none⟩) g.c.par.toNat g.c.par.toNat] w' (GivesN w' L)) := fun w' h => by
   rw [← hL]; exact hls w' ((HSB.out w').1 h)
  obtain ⟨SG, hSG⟩ : ∃ s, signF g (X j g.vs.length) = s := ⟨_, rfl⟩
  have HSGN : Hid (∀ w', S w' → Calls Try.prog 36 #[.pointer (some ⟨R, 0, none⟩), .int .i64 (j : Int)] w' fun e w2 => e = .returned (.string SG) ∧ Below w'.heap.size w' w2) := fun w' h => by
   rw [← hSG]; exact sign19_calls (HG7.out w' (HS7.out w' h)) HOK.out HNR.out hg
  have HSGQ : Hid (∀ w', S w' → Calls Try.prog 37 #[.pointer (some ⟨N7, 0, none⟩), .agg #[.slice m.sA m.ss.length m.sC, .slice m.fA m.fs.length m.fC], .int .i64 (j : Int)] w' fun e w2 => e = .returned (.string SG) ∧ Below w'.heap.size w' w2) := fun w' h => by
   rw [← hSG]; exact rsign19_calls (HQ.out w' (HS7.out w' h)) HOK.out HNR.out hg
  have HSL : Hid (∀ w', S w' → ∀ k u, #[.slice m.sA m.ss.length m.sC, .slice m.fA m.fs.length m.fC].toList[k]? = some u → w'.cell? ((⟨N, 0, none⟩ : Addr).add k) = some u) := fun w' h => HMC.out w' (HKB.out w' (HS7.out w' h))
  obtain ⟨fb, fo, hfA, hfb, hfc⟩ := hmi.frow (by intro e; rw [e] at hjl; simp at hjl)
  have HFC : Hid (∀ W, Below wr.heap.size wr W → W.cell? ⟨N, 1, none⟩ = some (.slice (some ⟨fb, fo, none⟩) m.fs.length m.fC) ∧ W.cell? ⟨fb, fo + j * 8 + 2, none⟩ = some (.slice g.c.varsA g.vs.length g.c.varsC)) := fun W hW => by
   have hgi := hmi.fin g hgm
   refine ⟨by rw [← hfA]; exact (HK.out W (HKB.out W (HBR.out.trans (hW.mono HBR.out.size)))).2.1, ?_⟩
   rw [hW.cell (p := ⟨fb, _, none⟩) hfb, ← hgi.nvars]; exact hfc j g hg 2 _ rfl
  have HHG := Lib.hid hg
  have HSB2 : Hid (∀ wf, Below wr.heap.size wr wf → ∀ p : BW wf, S p.w) := fun wf h p => (HSB.out _).2 (h.trans (p.h.mono h.size))
  clear hmi hbr hg hgm hls hL hSG hS hfA hfb hfc t1 t2 q0 q1
  go_wp2_with fail
  clear d0 d1
  refine wp_region_J 9 S (by kernel_rfl) ?_
  refine wpAnyJ_take (i := 0) rfl (by kernel_rfl) (by kernel_rfl) (by kernel_rfl) (by kernel_rfl) (fun _ _ _ h => h) (Or.inl ⟨by rfl, fun w hSw => by obtain ⟨s1, s2⟩ := HSS.out w hSw; go_simp; try rfl⟩) (by assumption) ?_
  try go_simp
  refine wpAnyJ_take (i := 1) rfl (by kernel_rfl) (by kernel_rfl) (by kernel_rfl) (by kernel_rfl) (fun _ _ _ h => h) (Or.inl ⟨by rfl, fun w hSw => by obtain ⟨s1, s2⟩ := HSS.out w hSw; go_simp; try rfl⟩) (by assumption) ?_
  try go_simp
  refine wpAnyJ_take (i := 3) rfl (by kernel_rfl) (by kernel_rfl) (by kernel_rfl) (by kernel_rfl) (fun _ _ _ h => h) (Or.inl ⟨by rfl, fun w hSw => by obtain ⟨s1, s2⟩ := HSS.out w hSw; go_simp; try rfl⟩) (by assumption) ?_
  try go_simp
  refine wpAnyJ_take (i := 4) rfl (by kernel_rfl) (by kernel_rfl) (by kernel_rfl) (by kernel_rfl) (fun _ _ _ h => h) (Or.inl ⟨by rfl, fun w hSw => by obtain ⟨s1, s2⟩ := HSS.out w hSw; go_simp; try rfl⟩) (by assumption) ?_
  try go_simp
  refine wpAnyJ_take (i := 5) rfl (by kernel_rfl) (by kernel_rfl) (by kernel_rfl) (by kernel_rfl) (fun _ _ _ h => h) (Or.inl ⟨by rfl, fun w hSw => by obtain ⟨s1, s2⟩ := HSS.out w hSw; go_simp; try rfl⟩) (by assumption) ?_
  try go_simp
  refine wpAnyJ_take (i := 6) rfl (by kernel_rfl) (by kernel_rfl) (by kernel_rfl) (by kernel_rfl) (fun _ _ _ h => h) (Or.inl ⟨by rfl, fun w hSw => by obtain ⟨s1, s2⟩ := HSS.out w hSw; go_simp; try rfl⟩) (by assumption) ?_
  try go_simp
  refine wpAnyJ_take (i := 7) rfl (by kernel_rfl) (by kernel_rfl) (by kernel_rfl) (by kernel_rfl) (fun _ _ _ h => h) (Or.inl ⟨by rfl, fun w hSw => by obtain ⟨s1, s2⟩ := HSS.out w hSw; go_simp; try rfl⟩) (by assumption) ?_
  try go_simp
  refine wpAnyJ_one (i := 2) (by kernel_rfl) (by decide) rfl fun K' hK => ?_
  rw [if_pos (by rfl)]
  go_simp
  go_at_call 27
  refine (HVD.out _ hS0).mono ?_
  intro e wd hgd
  obtain ⟨ao1, ca1, rfl, ho1, hb1⟩ := givesN_own hgd
  have hSd : S wd := (HSB.out _).2 (((HSB.out _).1 hS0).trans (hb1.mono ((HSB.out _).1 hS0).size))
  have HO1 := Lib.hid ho1
  refine hK _ _ hSd ?_
  clear hK hgd ho1 hb1 hS0
  try go_simp
  refine wpAnyJ_one (i := 8) (by kernel_rfl) (by decide) rfl fun K' hK => ?_
  rw [if_pos (by rfl)]
  go_simp
  go_at_call 35
  refine (HLS.out _ hSd).mono ?_
  intro e we hge
  obtain ⟨ao2, ca2, rfl, ho2, hb2⟩ := givesN_own hge
  have hSe : S we := (HSB.out _).2 (((HSB.out _).1 hSd).trans (hb2.mono ((HSB.out _).1 hSd).size))
  have HNU := Lib.hid (numbersN_calls we HLL.out (HO1.out.later hb2) ho2)
  refine hK _ _ hSe ?_
  clear hK hge ho2 hb2 HO1
  try go_simp
  refine wpAnyJ_k (by kernel_rfl) rfl fun K' hK => ?_
  rw [if_pos (by rfl)]
  go_simp
  go_at_call 18
  refine HNU.out.mono ?_
  rintro e wf ⟨rfl, hbf⟩
  have HBF : Hid (Below wr.heap.size wr wf) := ((HSB.out _).1 hSe).trans (hbf.mono ((HSB.out _).1 hSe).size)
  refine hK _ _ ?_
  clear hK hbf hSe hSd HNU
  try go_simp
  have HSP : Hid (∀ p : BW wf, S p.w) := HSB2.out wf HBF.out
  have HSGP : Hid (∀ p : BW wf, Calls Try.prog 36 #[.pointer (some ⟨R, 0, none⟩), .int .i64 (j : Int)] p.w fun e w2 => e = .returned (.string SG) ∧ Below p.w.heap.size p.w w2) := fun p => HSGN.out p.w (HSP.out p)
  have HSGP2 : Hid (∀ p : BW wf, Calls Try.prog 37 #[.pointer (some ⟨N7, 0, none⟩), .agg #[.slice m.sA m.ss.length m.sC, .slice m.fA m.fs.length m.fC], .int .i64 (j : Int)] p.w fun e w2 => e = .returned (.string SG) ∧ Below p.w.heap.size p.w w2) := fun p => HSGQ.out p.w (HSP.out p)
  have HSLP : Hid (∀ (p : BW wf) k u, #[.slice m.sA m.ss.length m.sC, .slice m.fA m.fs.length m.fC].toList[k]? = some u → p.w.cell? ((⟨N, 0, none⟩ : Addr).add k) = some u) := fun p => HSL.out p.w (HSP.out p)
  refine wpAny_end 10 rfl (by kernel_rfl) (by kernel_rfl) (fun w' => ∃ p : BW wf, w' = p.w) ⟨⟨wf, Below.refl _ _⟩, rfl⟩ ?_
  dsimp only [List.drop]
  repeat (first
   | (go_big_quiet_want; (refine quiet_load_bw 25 _ rfl ⟨N, 0, none⟩ rfl _ _ HSLP.out Try.underlying25 rfl (by kernel_rfl) ?_); (simp only [Act.put, List.setIfInBounds_toArray, List.set_cons_zero, List.set_cons_succ]); go_big_quiet_on)
   | (go_big_quiet_step (first
    | (go_at_call 36; exact bw_of (HSGP.out _))
    | (go_at_call 37; exact bw_of (HSGP2.out _)))))
  refine wpQuiet_nil ?_
  rintro _ ⟨p, rfl⟩
  obtain ⟨wo, hwo⟩ : ∃ wo, p.w = wo := ⟨_, rfl⟩
  have HBO : Hid (Below wr.heap.size wr wo) := by unfold Hid; rw [← hwo]; exact (HSB.out _).1 (HSP.out p)
  rw [hwo]
  clear hwo HSGP HSGP2 HSLP HSP HSGN HSGQ HSL HVD HLS HLL HSS
  obtain ⟨u1, u2⟩ := HFC.out wo HBO.out
  go_wp2_with fail
  clear u1 u2
  clear HBF
  clear p
  go_loopw [8] (fun c wr2 => ∃ v : Nat, v ≤ g.vs.length ∧ c = .int .i64 (v : Int) ∧ Below wr.heap.size wr wr2) (fun c _ => g.vs.length - (intOf c).toNat)
  case atStart => exact ⟨0, Nat.zero_le _, rfl, HBO.out⟩
  case round =>
   rename World => wm
   obtain ⟨v, hv, rfl, hbm⟩ := hrel
   obtain ⟨u1, u2⟩ := HFC.out wm hbm
   have HBM := Lib.hid hbm
   by_cases hvl : v < g.vs.length
   rotate_left
   ·have hve : v = g.vs.length := by omega
    subst hve
    clear hbm
    go_wp2
    go_roundw
    case rel => exact ⟨j + 1, by omega, by go_num, HBR.out.trans (HBM.out.mono HBR.out.size)⟩
    case measure => simp [intOf]; omega
   have hvI : (v : Int) < (g.vs.length : Int) := by omega
   have hWm : Below W7.heap.size W7 wm := HBR.out.trans (hbm.mono HBR.out.size)
   obtain ⟨VA, cv, T, ct, b, z0, z1, z2, hls⟩ := (HQ.out wm hWm).varAt HOK.out HHG.out hvl
   have HB7M := Lib.hid hWm
   clear hWm hbm HSB HS7 HSB2 S
   obtain ⟨S, hS⟩ : ∃ S : World → Prop, S = Below wm.heap.size wm := ⟨_, rfl⟩
   have HSB : Hid (∀ w', S w' ↔ Below wm.heap.size wm w') := fun w' => by rw [hS]
   have HS7 : Hid (∀ w', S w' → Below W7.heap.size W7 w') := fun w' h => HB7M.out.trans (((HSB.out w').1 h).mono HB7M.out.size)
   have hS0 : S wm.drew := (HSB.out _).2 (Below.refl _ _).drew
   have HSS : Hid (∀ w', S w' → w'.cell? ⟨N7, 0, none⟩ = some (.slice (some ⟨VA, 0, none⟩) m.fs.length cv) ∧ w'.cell? ⟨VA, j, none⟩ = some (.slice (some ⟨T, 0, none⟩) g.vs.length ct) ∧ w'.cell? ⟨T, v, none⟩ = some (.slice (some ⟨b, 0, none⟩) g.c.par.toNat g.c.par.toNat)) := fun w' h => by
    have hw := (HSB.out w').1 h
    exact ⟨below_cell hw z0, below_cell hw z1, below_cell hw z2⟩
   obtain ⟨L, hL⟩ : ∃ L, varL m X (j : Int) (v : Int) = L := ⟨_, rfl⟩
   have HLL : Hid (L.length ≤ 90000) := by
    unfold Hid
    rw [← hL]
    have := varl_len m X j (v : Int)
    have := HOK.out.fn g (List.mem_of_getElem? HHG.out)
    rw [np_get HHG.out] at *
    omega
   have HVD : Hid (∀ w', S w' → Calls Try.prog 28 #[.pointer (some ⟨R, 0, none⟩), .int .i64 (j : Int), .int .i64 (v : Int)] w' (GivesN w' L)) := fun w' h => by
    rw [← hL]; exact var19_calls (HG7.out w' (HS7.out w' h)) HOK.out (j : Int) (v : Int)
   have HLS : Hid (∀ w', S w' → Calls Try.prog 35 #[.slice (some ⟨b, 0, none⟩) g.c.par.toNat g.c.par.toNat] w' (GivesN w' L)) := fun w' h => by
    rw [← hL]; exact hls w' ((HSB.out w').1 h)
   clear hls hL hS z0 z1 z2
   go_wp2_with fail
   clear u1 u2
   refine wp_region_J 13 S (by kernel_rfl) ?_
   refine wpAnyJ_take (i := 0) rfl (by kernel_rfl) (by kernel_rfl) (by kernel_rfl) (by kernel_rfl) (fun _ _ _ h => h) (Or.inl ⟨by rfl, fun w hSw => by obtain ⟨s1, s2, s3⟩ := HSS.out w hSw; go_simp; try rfl⟩) (by assumption) ?_
   try go_simp
   refine wpAnyJ_take (i := 1) rfl (by kernel_rfl) (by kernel_rfl) (by kernel_rfl) (by kernel_rfl) (fun _ _ _ h => h) (Or.inl ⟨by rfl, fun w hSw => by obtain ⟨s1, s2, s3⟩ := HSS.out w hSw; go_simp; try rfl⟩) (by assumption) ?_
   try go_simp
   refine wpAnyJ_take (i := 2) rfl (by kernel_rfl) (by kernel_rfl) (by kernel_rfl) (by kernel_rfl) (fun _ _ _ h => h) (Or.inl ⟨by rfl, fun w hSw => by obtain ⟨s1, s2, s3⟩ := HSS.out w hSw; go_simp; try rfl⟩) (by assumption) ?_
   try go_simp
   refine wpAnyJ_take (i := 4) rfl (by kernel_rfl) (by kernel_rfl) (by kernel_rfl) (by kernel_rfl) (fun _ _ _ h => h) (Or.inl ⟨by rfl, fun w hSw => by obtain ⟨s1, s2, s3⟩ := HSS.out w hSw; go_simp; try rfl⟩) (by assumption) ?_
   try go_simp
   refine wpAnyJ_take (i := 5) rfl (by kernel_rfl) (by kernel_rfl) (by kernel_rfl) (by kernel_rfl) (fun _ _ _ h => h) (Or.inl ⟨by rfl, fun w hSw => by obtain ⟨s1, s2, s3⟩ := HSS.out w hSw; go_simp; try rfl⟩) (by assumption) ?_
   try go_simp
   refine wpAnyJ_take (i := 6) rfl (by kernel_rfl) (by kernel_rfl) (by kernel_rfl) (by kernel_rfl) (fun _ _ _ h => h) (Or.inl ⟨by rfl, fun w hSw => by obtain ⟨s1, s2, s3⟩ := HSS.out w hSw; go_simp; try rfl⟩) (by assumption) ?_
   try go_simp
   refine wpAnyJ_take (i := 7) rfl (by kernel_rfl) (by kernel_rfl) (by kernel_rfl) (by kernel_rfl) (fun _ _ _ h => h) (Or.inl ⟨by rfl, fun w hSw => by obtain ⟨s1, s2, s3⟩ := HSS.out w hSw; go_simp; try rfl⟩) (by assumption) ?_
   try go_simp
   refine wpAnyJ_take (i := 8) rfl (by kernel_rfl) (by kernel_rfl) (by kernel_rfl) (by kernel_rfl) (fun _ _ _ h => h) (Or.inl ⟨by rfl, fun w hSw => by obtain ⟨s1, s2, s3⟩ := HSS.out w hSw; go_simp; try rfl⟩) (by assumption) ?_
   try go_simp
   refine wpAnyJ_take (i := 9) rfl (by kernel_rfl) (by kernel_rfl) (by kernel_rfl) (by kernel_rfl) (fun _ _ _ h => h) (Or.inl ⟨by rfl, fun w hSw => by obtain ⟨s1, s2, s3⟩ := HSS.out w hSw; go_simp; try rfl⟩) (by assumption) ?_
   try go_simp
   refine wpAnyJ_take (i := 10) rfl (by kernel_rfl) (by kernel_rfl) (by kernel_rfl) (by kernel_rfl) (fun _ _ _ h => h) (Or.inl ⟨by rfl, fun w hSw => by obtain ⟨s1, s2, s3⟩ := HSS.out w hSw; go_simp; try rfl⟩) (by assumption) ?_
   try go_simp
   refine wpAnyJ_take (i := 11) rfl (by kernel_rfl) (by kernel_rfl) (by kernel_rfl) (by kernel_rfl) (fun _ _ _ h => h) (Or.inl ⟨by rfl, fun w hSw => by obtain ⟨s1, s2, s3⟩ := HSS.out w hSw; go_simp; try rfl⟩) (by assumption) ?_
   try go_simp
   refine wpAnyJ_one (i := 3) (by kernel_rfl) (by decide) rfl fun K' hK => ?_
   rw [if_pos (by rfl)]
   go_simp
   go_at_call 28
   refine (HVD.out _ hS0).mono ?_
   intro e wd hgd
   obtain ⟨ao1, ca1, rfl, ho1, hb1⟩ := givesN_own hgd
   have hSd : S wd := (HSB.out _).2 (((HSB.out _).1 hS0).trans (hb1.mono ((HSB.out _).1 hS0).size))
   have HO1 := Lib.hid ho1
   refine hK _ _ hSd ?_
   clear hK hgd ho1 hb1 hS0
   try go_simp
   refine wpAnyJ_one (i := 12) (by kernel_rfl) (by decide) rfl fun K' hK => ?_
   rw [if_pos (by rfl)]
   go_simp
   go_at_call 35
   refine (HLS.out _ hSd).mono ?_
   intro e we hge
   obtain ⟨ao2, ca2, rfl, ho2, hb2⟩ := givesN_own hge
   have hSe : S we := (HSB.out _).2 (((HSB.out _).1 hSd).trans (hb2.mono ((HSB.out _).1 hSd).size))
   have HNU := Lib.hid (numbersN_calls we HLL.out (HO1.out.later hb2) ho2)
   refine hK _ _ hSe ?_
   clear hK hge ho2 hb2 HO1
   try go_simp
   refine wpAnyJ_k (by kernel_rfl) rfl fun K' hK => ?_
   rw [if_pos (by rfl)]
   go_simp
   go_at_call 18
   refine HNU.out.mono ?_
   rintro e wf ⟨rfl, hbf⟩
   have HBF : Hid (Below wm.heap.size wm wf) := ((HSB.out _).1 hSe).trans (hbf.mono ((HSB.out _).1 hSe).size)
   refine hK _ _ ?_
   clear hK hbf hSe hSd HNU
   try go_simp
   refine wpAny_end 14 rfl (by kernel_rfl) (by kernel_rfl) (· = wf) rfl ?_
   dsimp only [List.drop]
   repeat (go_big_quiet_step (fail))
   refine wpQuiet_nil ?_
   rintro _ rfl
   go_wp2
   go_roundw
   case rel => exact ⟨v + 1, by omega, by go_num, HBM.out.trans (HBF.out.mono HBM.out.size)⟩
   case measure => simp [intOf]; omega
end Go.Proofs.Ytlggjbopfnndbaa
