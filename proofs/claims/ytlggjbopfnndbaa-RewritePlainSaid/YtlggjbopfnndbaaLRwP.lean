/- RewritePlain, at any module: true. -/
import Derived.Test.YtlggjbopfnndbaaK4
import Derived.Test.YtlggjbopfnndbaaG39
import Derived.Test.YtlggjbopfnndbaaSmI
import Derived.Test.YtlggjbopfnndbaaG36
namespace Go.Proofs.Ytlggjbopfnndbaa
open Go.RowKit
set_option maxRecDepth 100000 in
set_option maxHeartbeats 8000000 in
theorem rewritePlain_calls (m : Mo) (w : World) (hm : m.inn w) :
  Calls Try.prog 4 #[.agg m.cells] w fun e w' => e = .returned (.bool true) ∧ Below w.heap.size w w' := by
 obtain ⟨N,hN⟩ : ∃ N,w.heap.size = N := ⟨_,rfl⟩
 obtain ⟨W1,hW1⟩ : ∃ W1,w.alloc (.cells m.cells 25) = W1 := ⟨_,rfl⟩
 have hb1 : Below N w W1 := by rw [← hW1,← hN]; exact (Below.refl _ _).alloc (Nat.le_refl _) _
 have hs1 : W1.heap.size = N + 1 := by rw [← hW1]; simp [hN]
 have q1 : W1.heap[N]? = some (.cells m.cells 25 (0,0)) := by rw [← hW1,← hN]; exact alloc_at _ _
 have HK : Hid (∀ W,Below W1.heap.size W1 W → W.cell? ⟨N,0,none⟩ = some (.slice m.sA m.ss.length m.sC) ∧ W.cell? ⟨N,1,none⟩ = some (.slice m.fA m.fs.length m.fC) ∧ m.inn W ∧ Below N w W) := fun W hW => by
  have h1 := (hW.block N (by omega)).trans q1
  have h3 := hb1.trans (hW.mono (by omega))
  exact ⟨by rw [cell_of_row _ _ _ _ _ _ h1]; rfl,by rw [cell_of_row _ _ _ _ _ _ h1]; rfl,hm.below (by rw [hN]; exact h3),h3⟩
 have HMC : Hid (∀ W,Below W1.heap.size W1 W → ∀ k u,m.cells.toList[k]? = some u → W.cell? ((⟨N,0,none⟩ : Addr).add k) = some u) := fun W hW k u hu => by
  rw [Addr.add_lit,Nat.zero_add,cell_of_row _ _ _ _ _ _ ((hW.block N (by omega)).trans q1)]; simpa using hu
 obtain ⟨c0,c1,hm1,_⟩ := HK.out W1 (Below.refl _ _)
 have HLI := Lib.hid (light17_calls W1 m hm1)
 have HAL : Hid (∀ W,Calls Try.prog 12 #[] W fun e w' => e = .returned (.bool true) ∧ Below W.heap.size W w') := fun W => alive27_calls W
 have hW1' := hW1
 simp only [Mo.cells] at hW1' HLI
 have HW1 := Lib.hid hW1'
 rw [hN]
 simp only [Mo.cells]
 clear hm hm1 q1 hW1 hW1' hb1
 go_enter Try.func4,Try.ntmps4
 go_upto_region 1 with (fail)
 rw [HW1.out]
 clear hN
 go_wp2_with fail
 go_at_call 11
 refine HLI.out.mono ?_
 rintro e w2 ⟨b,rfl,hb,hb2⟩
 obtain ⟨d0,d1,hm2,hbb2⟩ := HK.out w2 hb2
 have HB2 := Lib.hid hb2
 clear HW1 HLI
 cases b with
 | false =>
  clear c0 c1 hb hb2 hm2 hbb2
  go_wp2_with (go_at_call 12; refine (HAL.out _).mono ?_; rintro e w3 ⟨rfl,hb3⟩; have HR := Lib.hid (HK.out w3 (HB2.out.trans (hb3.mono HB2.out.size))).2.2.2; clear hb3)
  go_ret
  exact ⟨rfl,HR.out⟩
 | true =>
 have hlt := (hb rfl).2
 have hri := short_right hm2 hlt
 have HRI := Lib.hid hri
 have HRW := Lib.hid (rewrite_calls m w2 hri)
 simp only [Mo.cells] at HRW
 clear c0 c1 hb hb2 hm2 hbb2 hri hlt
 go_wp2_with fail
 go_at_call 13
 refine HRW.out.mono ?_
 rintro e w3 hq
 obtain ⟨n,rfl,hn,hra,hb3⟩ := rewP_is hq
 clear HRW d0 d1 hq
 obtain ⟨N4,hN4⟩ : ∃ N4,w3.heap.size = N4 := ⟨_,rfl⟩
 obtain ⟨W4,hW4⟩ : ∃ W4,w3.alloc (.cells n.cells 25) = W4 := ⟨_,rfl⟩
 have hst : ∀ (c : Array Value),c.size = 2 → (storeCells ⟨w3.heap.size,0,none⟩ n.cells.toList 0).run Try.prog (w3.alloc (.cells c 25)) = .ok () W4 := fun c hc => by
  rw [← hW4]
  exact run_storeCells_new (P := Try.prog) w3 25 c n.cells (by show _ = some 2; kernel_rfl) hc (by rw [← Array.all_toList]; simp [Mo.cells,Value.oneCell'])
 rw [hN4] at hst
 have hb23 := HB2.out.trans (hb3.mono HB2.out.size)
 have hb34 : Below N4 w3 W4 := by rw [← hW4,← hN4]; exact (Below.refl _ _).alloc (Nat.le_refl _) _
 have hs4 : W4.heap.size = N4 + 1 := by rw [← hW4]; simp [hN4]
 have hr4 : W4.heap[N4]? = some (.cells n.cells 25 (0,0)) := by rw [← hW4,← hN4]; exact alloc_at _ _
 have hb14 : Below W1.heap.size W1 W4 := by rw [← hW4]; exact hb23.alloc (by have := hb23.size; omega) _
 have HRI4 : Hid (RightIn W4 m) := HRI.out.below (by
  have h1 := hb3.trans (hb34.mono (by rw [← hN4]; exact hb3.size))
  exact h1)
 have HK4 : Hid (∀ W,Below W4.heap.size W4 W → (∀ k u,n.cells.toList[k]? = some u → W.cell? ((⟨N4,0,none⟩ : Addr).add k) = some u) ∧ n.inn W ∧ Below W1.heap.size W1 W ∧ W.cell? ⟨N4,0,none⟩ = some (.slice n.sA n.ss.length n.sC) ∧ W.cell? ⟨N4,1,none⟩ = some (.slice n.fA n.fs.length n.fC)) := fun W hW => by
  have h1 := (hW.block N4 (by omega)).trans hr4
  exact ⟨fun k u hu => by rw [Addr.add_lit,Nat.zero_add,cell_of_row _ _ _ _ _ _ h1]; simpa using hu,(hn.below (by rw [hN4]; exact hb34)).below hW,hb14.trans (hW.mono hb14.size),by rw [cell_of_row _ _ _ _ _ _ h1]; rfl,by rw [cell_of_row _ _ _ _ _ _ h1]; rfl⟩
 obtain ⟨d0,d1,_,_⟩ := HK.out W4 hb14
 obtain ⟨x0,x1⟩ := (HK4.out W4 (Below.refl _ _)).2.2.2
 have HB14 := Lib.hid hb14
 simp only [Mo.cells] at hst
 have hW4' := hW4
 simp only [Mo.cells] at hW4'
 have HW4 := Lib.hid hW4'
 unfold Mo.cells
 clear hn hb3 hb34 hb23 hs4 hr4 hb14 hW4 hW4'
 rcases hra with ⟨hz,hbad⟩ | ⟨hF,hC,hRO⟩
 ·have hrc : (rewCode m != 0) = true := by
   rw [bne_iff_ne]
   unfold rewCode
   by_cases h1 : rightF m ≠ 0
   ·rw [if_pos h1]; exact h1
   ·rw [if_neg h1]
    have h1' : rightF m = 0 := by omega
    by_cases h2 : classedF m = true
    ·exact absurd ⟨h1',h2⟩ hbad
    ·rw [if_neg h2]; decide
  obtain ⟨RC,hRC⟩ : ∃ z,rewCode m = z := ⟨_,rfl⟩
  rw [hRC] at hrc ⊢
  have hn0 : n.fs.length = 0 := by rw [hz]; rfl
  rw [hn0] at x1
  have e00 : ((0 : Int) == 0) = true := rfl
  clear hbad hRC hz hn0
  go_upto_region 4 with (fail)
  try rw [HW4.out]
  clear hst hN4
  go_wp2_with (go_at_call 12; refine (HAL.out _).mono ?_; rintro e w5 ⟨rfl,hb5⟩; have HR := Lib.hid (HK.out w5 (HB14.out.trans (hb5.mono HB14.out.size))).2.2.2; clear hb5)
  go_ret
  exact ⟨rfl,HR.out⟩
 have hrc : rewCode m = 0 := by unfold rewCode; rw [if_neg (by omega),if_pos hC]
 rw [hrc]
 have d00 : ((0 : Int) != 0) = false := rfl
 have HF := Lib.hid hF
 have HC := Lib.hid hC
 have HRO := Lib.hid hRO
 have HNM := Lib.hid (named27_calls m W4 HRI4.out hF)
 simp only [Mo.cells] at HNM
 have HAN : Hid (∀ f ∈ n.fs,∀ i ∈ f.c.ins,i.args.length ≤ 40) := (rewOf_right (w' := W4) HRI.out hRO (HK4.out W4 (Below.refl _ _)).2.1).al
 have HRN : Hid (rightF n = 0) := by
  have he := rewOf_er hRO
  unfold Hid; rw [← rightF_er n,he,rightF_er m]; exact hF
 obtain ⟨nf,hnf⟩ : ∃ b,namesF m = b := ⟨_,rfl⟩
 have HNF := Lib.hid hnf
 rw [hnf] at HNM
 clear hF hC hRO hrc hnf
 go_upto_region 4 with (fail)
 try rw [HW4.out]
 clear hst hN4
 clear x0 x1
 go_wp2_with fail
 go_at_call 21
 refine HNM.out.mono ?_
 rintro e w5 ⟨rfl,hb5⟩
 have HB5 := Lib.hid hb5
 clear hb5 d0 d1 HNM
 have HGO : Hid (∀ w6,Below W4.heap.size W4 w6 → ∃ S : World → Prop,S w6.drew ∧ (∀ w',S w' → Below N w w') ∧ (∀ w' w2,S w' → Below w'.heap.size w' w2 → S w2) ∧ (∀ w',S w' → ∀ k u,n.cells.toList[k]? = some u → w'.cell? ((⟨N4,0,none⟩ : Addr).add k) = some u) ∧ (∀ w',S w' → ∀ k u,m.cells.toList[k]? = some u → w'.cell? ((⟨N,0,none⟩ : Addr).add k) = some u) ∧ (∀ w',S w' → n.inn w' ∧ m.inn w')) := fun w6 hb6 => by
  refine ⟨Below w6.heap.size w6,(Below.refl _ _).drew,fun w' h => ?_,fun w' w2 h h2 => h.trans (h2.mono h.size),fun w' h => ?_,fun w' h => ?_,fun w' h => ?_⟩
  ·exact (HK.out w' (HK4.out w' (hb6.trans (h.mono hb6.size))).2.2.1).2.2.2
  ·exact (HK4.out w' (hb6.trans (h.mono hb6.size))).1
  ·exact HMC.out w' (HK4.out w' (hb6.trans (h.mono hb6.size))).2.2.1
  ·have h4 := HK4.out w' (hb6.trans (h.mono hb6.size))
   exact ⟨h4.2.1,(HK.out w' h4.2.2.1).2.2.1⟩
 have HNB : Hid (n.fs.length ≤ 90 ∧ ∀ g ∈ n.fs,g.vs.length ≤ 3000 ∧ g.c.ins.length ≤ 3000) := by
  have hok := OkR.of HRN.out
  refine ⟨by have := hok.nf; omega,fun g hg => ?_⟩
  obtain ⟨_,_,q2,q3⟩ := hok.fn g hg
  exact ⟨by omega,q3⟩
 have HMB : Hid (m.fs.length ≤ 90 ∧ ∀ g ∈ m.fs,g.vs.length ≤ 3000 ∧ g.c.ins.length ≤ 3000) := by
  have hok := OkR.of HF.out
  refine ⟨by have := hok.nf; omega,fun g hg => ?_⟩
  obtain ⟨_,_,q2,q3⟩ := hok.fn g hg
  exact ⟨by omega,q3⟩
 cases nf with
 | false =>
  have HB6 : Hid (Below W4.heap.size W4 w5) := HB5.out
  go_wp2_with fail
  obtain ⟨S,hS0,hSN,hSB,hSn,hSm,hSi⟩ := HGO.out w5 HB6.out
  have HSN := Lib.hid hSN
  have HSB := Lib.hid hSB
  have HSn := Lib.hid hSn
  have HSm := Lib.hid hSm
  have HSi := Lib.hid hSi
  have HP1 : Hid (∀ w',S w' → Calls Try.prog 23 #[.agg n.cells] w' fun e w2 => ∃ a : Mo,e = .returned (.agg a.cells) ∧ a.inn w2 ∧ PlOf n a ∧ Below w'.heap.size w' w2) := fun w' h => rPlain_calls n w' (HSi.out w' h).1 HNB.out.1 HNB.out.2
  have HP2 : Hid (∀ w',S w' → Calls Try.prog 23 #[.agg m.cells] w' fun e w2 => ∃ a : Mo,e = .returned (.agg a.cells) ∧ a.inn w2 ∧ PlOf m a ∧ Below w'.heap.size w' w2) := fun w' h => rPlain_calls m w' (HSi.out w' h).2 HMB.out.1 HMB.out.2
  clear hSN hSB hSn hSm hSi HGO
  refine wp_region_J 4 S (by kernel_rfl) ?_
  refine wpAnyJ_take (i := 0) (v := .agg n.cells) rfl (by kernel_rfl) (by kernel_rfl) (by kernel_rfl) (by kernel_rfl) (fun _ _ _ h => h) (load_yields (by rfl) 25 _ rfl ⟨N4,0,none⟩ rfl _ _ HSn.out Try.underlying25 rfl (by kernel_rfl)) (by assumption) ?_
  try go_simp
  refine wpAnyJ_take (i := 2) (v := .agg m.cells) rfl (by kernel_rfl) (by kernel_rfl) (by kernel_rfl) (by kernel_rfl) (fun _ _ _ h => h) (load_yields (by rfl) 25 _ rfl ⟨N,0,none⟩ rfl _ _ HSm.out Try.underlying25 rfl (by kernel_rfl)) (by assumption) ?_
  try go_simp
  refine wpAnyJ_one (i := 1) (by kernel_rfl) (by decide) rfl fun K' hK => ?_
  rw [if_pos (by rfl)]
  go_simp
  go_at_call 23
  refine (HP1.out _ hS0).mono ?_
  rintro e wa ⟨a,rfl,hai,hap,hba⟩
  have hSa : S wa := HSB.out _ _ hS0 hba
  have HAI := Lib.hid hai
  have HAP := Lib.hid hap
  refine hK _ _ hSa ?_
  clear hK hai hap hba
  try go_simp
  refine wpAnyJ_one (i := 3) (by kernel_rfl) (by decide) rfl fun K' hK => ?_
  rw [if_pos (by rfl)]
  go_simp
  go_at_call 23
  refine (HP2.out _ hSa).mono ?_
  rintro e wb ⟨b,rfl,hbi,hbp,hbb⟩
  have hSb : S wb := HSB.out _ _ hSa hbb
  have hai := HAI.out.below hbb
  have hsm := refSame_calls wb (mdOf wb) a b (plOf_fit HRN.out HAN.out HAP.out hai) (plOf_fit HF.out HRI.out.al hbp hbi)
  rw [plSame HRO.out HAP.out hbp (mdOf_mdAt hai) (mdOf_mdAt hbi)] at hsm
  have HSM := Lib.hid hsm
  refine hK _ _ hSb ?_
  clear hK hbi hbp hbb hai hsm HAI HAP
  try go_simp
  refine wpAnyJ_k (by kernel_rfl) rfl fun K' hK => ?_
  rw [if_pos (by rfl)]
  go_simp
  go_at_call 17
  refine HSM.out.mono ?_
  rintro e wf ⟨rfl,hbf⟩
  have hSf : S wf := HSB.out _ _ hSb hbf
  refine hK _ _ ?_
  clear hK hbf HSM
  try go_simp
  refine wpAny_end 5 rfl (by kernel_rfl) (by kernel_rfl) (fun w' => ∃ p : BW wf,w' = p.w) ⟨⟨wf,Below.refl _ _⟩,rfl⟩ ?_
  dsimp only [List.drop]
  repeat (go_big_quiet_step ((go_at_call 12; exact bw_of (HAL.out _))))
  refine wpQuiet_nil ?_
  rintro _ ⟨p,rfl⟩
  go_wp2
  go_ret
  exact ⟨rfl,HSN.out _ (HSB.out _ _ hSf p.h)⟩
 | true =>
  have HFM : Hid (Calls Try.prog 22 #[.agg n.cells] w5 fun e w' => e = .returned (.int .i64 0) ∧ Below w5.heap.size w5 w') := by
   have hrn := rewOf_right (w' := w5) HRI.out HRO.out (HK4.out w5 HB5.out).2.1
   have := formed20_calls n w5 hrn (rew_form HF.out HC.out HRI.out.al HRO.out)
   have e1 : formF n = 0 := by unfold formF; rw [rew_names HRO.out,HNF.out]; rfl
   rw [e1] at this; exact this
  simp only [Mo.cells] at HFM
  obtain ⟨x0,x1⟩ := (HK4.out w5 HB5.out).2.2.2
  go_wp2_with fail
  go_at_call 22
  refine HFM.out.mono ?_
  rintro e w6 ⟨rfl,hb6⟩
  have HB6 : Hid (Below W4.heap.size W4 w6) := HB5.out.trans (hb6.mono HB5.out.size)
  clear x0 x1 hb6 HFM
  go_wp2_with fail
  obtain ⟨S,hS0,hSN,hSB,hSn,hSm,hSi⟩ := HGO.out w6 HB6.out
  have HSN := Lib.hid hSN
  have HSB := Lib.hid hSB
  have HSn := Lib.hid hSn
  have HSm := Lib.hid hSm
  have HSi := Lib.hid hSi
  have HP1 : Hid (∀ w',S w' → Calls Try.prog 23 #[.agg n.cells] w' fun e w2 => ∃ a : Mo,e = .returned (.agg a.cells) ∧ a.inn w2 ∧ PlOf n a ∧ Below w'.heap.size w' w2) := fun w' h => rPlain_calls n w' (HSi.out w' h).1 HNB.out.1 HNB.out.2
  have HP2 : Hid (∀ w',S w' → Calls Try.prog 23 #[.agg m.cells] w' fun e w2 => ∃ a : Mo,e = .returned (.agg a.cells) ∧ a.inn w2 ∧ PlOf m a ∧ Below w'.heap.size w' w2) := fun w' h => rPlain_calls m w' (HSi.out w' h).2 HMB.out.1 HMB.out.2
  clear hSN hSB hSn hSm hSi HGO
  refine wp_region_J 4 S (by kernel_rfl) ?_
  refine wpAnyJ_take (i := 0) (v := .agg n.cells) rfl (by kernel_rfl) (by kernel_rfl) (by kernel_rfl) (by kernel_rfl) (fun _ _ _ h => h) (load_yields (by rfl) 25 _ rfl ⟨N4,0,none⟩ rfl _ _ HSn.out Try.underlying25 rfl (by kernel_rfl)) (by assumption) ?_
  try go_simp
  refine wpAnyJ_take (i := 2) (v := .agg m.cells) rfl (by kernel_rfl) (by kernel_rfl) (by kernel_rfl) (by kernel_rfl) (fun _ _ _ h => h) (load_yields (by rfl) 25 _ rfl ⟨N,0,none⟩ rfl _ _ HSm.out Try.underlying25 rfl (by kernel_rfl)) (by assumption) ?_
  try go_simp
  refine wpAnyJ_one (i := 1) (by kernel_rfl) (by decide) rfl fun K' hK => ?_
  rw [if_pos (by rfl)]
  go_simp
  go_at_call 23
  refine (HP1.out _ hS0).mono ?_
  rintro e wa ⟨a,rfl,hai,hap,hba⟩
  have hSa : S wa := HSB.out _ _ hS0 hba
  have HAI := Lib.hid hai
  have HAP := Lib.hid hap
  refine hK _ _ hSa ?_
  clear hK hai hap hba
  try go_simp
  refine wpAnyJ_one (i := 3) (by kernel_rfl) (by decide) rfl fun K' hK => ?_
  rw [if_pos (by rfl)]
  go_simp
  go_at_call 23
  refine (HP2.out _ hSa).mono ?_
  rintro e wb ⟨b,rfl,hbi,hbp,hbb⟩
  have hSb : S wb := HSB.out _ _ hSa hbb
  have hai := HAI.out.below hbb
  have hsm := refSame_calls wb (mdOf wb) a b (plOf_fit HRN.out HAN.out HAP.out hai) (plOf_fit HF.out HRI.out.al hbp hbi)
  rw [plSame HRO.out HAP.out hbp (mdOf_mdAt hai) (mdOf_mdAt hbi)] at hsm
  have HSM := Lib.hid hsm
  refine hK _ _ hSb ?_
  clear hK hbi hbp hbb hai hsm HAI HAP
  try go_simp
  refine wpAnyJ_k (by kernel_rfl) rfl fun K' hK => ?_
  rw [if_pos (by rfl)]
  go_simp
  go_at_call 17
  refine HSM.out.mono ?_
  rintro e wf ⟨rfl,hbf⟩
  have hSf : S wf := HSB.out _ _ hSb hbf
  refine hK _ _ ?_
  clear hK hbf HSM
  try go_simp
  refine wpAny_end 5 rfl (by kernel_rfl) (by kernel_rfl) (fun w' => ∃ p : BW wf,w' = p.w) ⟨⟨wf,Below.refl _ _⟩,rfl⟩ ?_
  dsimp only [List.drop]
  repeat (go_big_quiet_step ((go_at_call 12; exact bw_of (HAL.out _))))
  refine wpQuiet_nil ?_
  rintro _ ⟨p,rfl⟩
  go_wp2
  go_ret
  exact ⟨rfl,HSN.out _ (HSB.out _ _ hSf p.h)⟩
end Go.Proofs.Ytlggjbopfnndbaa
