/- RewriteModes, at any module: true. -/
import Derived.Test.YtlggjbopfnndbaaH01
import Derived.Test.YtlggjbopfnndbaaRwE
import Derived.Test.YtlggjbopfnndbaaH02
import Derived.Test.YtlggjbopfnndbaaG39
import Derived.Test.YtlggjbopfnndbaaSmI
import Derived.Test.YtlggjbopfnndbaaH06
import Derived.Test.YtlggjbopfnndbaaG19
import Derived.Test.YtlggjbopfnndbaaG55
import Derived.Test.YtlggjbopfnndbaaG36
namespace Go.Proofs.Ytlggjbopfnndbaa
open Go.RowKit
theorem light_insM {m : Mo} (hl : m.lightL) : ∀ g ∈ m.fs,∀ i ∈ g.c.ins,i.light := by
 obtain ⟨_,_,_,h4,_⟩ := hl
 intro g hg i hi
 exact (h4 g.c (List.mem_map.2 ⟨g,hg,rfl⟩)).2.2.2.2 i hi
theorem light_mds {m : Mo} {w : World} (hm : m.inn w) (hl : m.lightL) : ∀ g ∈ m.fs,g.mds.length ≤ 3000 ∧ ∀ x ∈ g.mds,x.length ≤ 400 := by
 intro g hg
 have hli := light_insM hl g hg
 obtain ⟨_,_,_,h4,_⟩ := hl
 have hi := hm.fin g hg
 have hk := h4 g.c (List.mem_map.2 ⟨g,hg,rfl⟩)
 refine ⟨by rw [hi.nmds]; have := hk.1; omega,fun x hx => ?_⟩
 obtain ⟨k,hk2⟩ := List.mem_iff_getElem?.1 hx
 obtain ⟨i,hi2⟩ : ∃ i,g.c.ins[k]? = some i := ⟨_,List.getElem?_eq_getElem (by rw [← hi.nmds]; exact (List.getElem?_eq_some_iff.1 hk2).1)⟩
 obtain ⟨ao,cap,e,_⟩ := hi.mds k i x hi2 hk2
 obtain ⟨_,⟨a2,n2,c2,e2,h40⟩,_⟩ := hli i (List.mem_of_getElem? hi2)
 rw [e] at e2
 simp only [Value.slice.injEq] at e2
 omega
set_option maxRecDepth 100000 in
set_option maxHeartbeats 8000000 in
theorem rewriteModes_calls (m : Mo) (w : World) (hm : m.inn w) (f a : Int) :
  Calls Try.prog 3 #[.agg m.cells,.int .i64 f,.int .i64 a] w fun e w' => e = .returned (.bool true) ∧ Below w.heap.size w w' := by
 obtain ⟨N,hN⟩ : ∃ N,w.heap.size = N := ⟨_,rfl⟩
 obtain ⟨W1,hW1⟩ : ∃ W1,w.alloc (.cells m.cells 25) = W1 := ⟨_,rfl⟩
 have hb1 : Below N w W1 := by rw [← hW1,← hN]; exact (Below.refl _ _).alloc (Nat.le_refl _) _
 have hs1 : W1.heap.size = N + 1 := by rw [← hW1]; simp [hN]
 have q1 : W1.heap[N]? = some (.cells m.cells 25 (0,0)) := by rw [← hW1,← hN]; exact alloc_at _ _
 have HK : Hid (∀ W,Below W1.heap.size W1 W → W.cell? ⟨N,0,none⟩ = some (.slice m.sA m.ss.length m.sC) ∧ W.cell? ⟨N,1,none⟩ = some (.slice m.fA m.fs.length m.fC) ∧ m.inn W ∧ Below N w W) := fun W hW => by
  have h1 := (hW.block N (by omega)).trans q1
  have h3 := hb1.trans (hW.mono (by omega))
  exact ⟨by rw [cell_of_row _ _ _ _ _ _ h1]; rfl,by rw [cell_of_row _ _ _ _ _ _ h1]; rfl,hm.below (by rw [hN]; exact h3),h3⟩
 have HMC : Hid (∀ W,Below W1.heap.size W1 W → ∀ k u,m.cells.toList[k]? = some u → W.cell? ((⟨N,0,none⟩ : Addr).add k) = some u) := fun W hW k u hu => by
  rw [Addr.add_lit,Nat.zero_add,cell_of_row _ _ _ _ _ _ ((hW.block N (by omega)).trans q1)]; simpa using hu
 obtain ⟨c0,c1,hm1,_⟩ := HK.out W1 (Below.refl _ _)
 have HLI := Lib.hid (light17_calls W1 m hm1)
 have HAL : Hid (∀ W,Calls Try.prog 12 #[] W fun e w' => e = .returned (.bool true) ∧ Below W.heap.size W w') := fun W => alive27_calls W
 have hW1' := hW1
 simp only [Mo.cells] at hW1' HLI
 have HW1 := Lib.hid hW1'
 have HN := Lib.hid hN
 rw [hN]
 simp only [Mo.cells]
 clear hm hm1 q1 hW1 hW1' hb1
 go_enter Try.func3,Try.ntmps3
 go_upto_region 1 with (fail)
 rw [HW1.out]
 clear hN
 go_wp2_with fail
 go_at_call 11
 refine HLI.out.mono ?_
 rintro e w2 ⟨b,rfl,hb,hb2⟩
 obtain ⟨d0,d1,hm2,hbb2⟩ := HK.out w2 hb2
 have HB2 := Lib.hid hb2
 clear HW1 HLI
 cases b with
 | false =>
  clear c0 c1 hb hb2 hm2 hbb2
  go_wp2_with (go_at_call 12; refine (HAL.out _).mono ?_; rintro e w3 ⟨rfl,hb3⟩; have HR := Lib.hid (HK.out w3 (HB2.out.trans (hb3.mono HB2.out.size))).2.2.2; clear hb3)
  go_ret
  exact ⟨rfl,HR.out⟩
 | true =>
 have hlt := (hb rfl).2
 have hri := short_right hm2 hlt
 have HRI := Lib.hid hri
 have HLM := Lib.hid (light_mds hm2 hlt)
 have HF12 : Hid (m.fs.length ≤ 90) := by have := (hb rfl).1; unfold Hid; omega
 have HRW := Lib.hid (rewrite_calls m w2 hri)
 simp only [Mo.cells] at HRW
 clear c0 c1 hb hb2 hm2 hbb2 hri hlt
 go_wp2_with fail
 go_at_call 13
 refine HRW.out.mono ?_
 rintro e w3 hq
 obtain ⟨n,rfl,hn,hra,hb3⟩ := rewP_is hq
 have HRA := Lib.hid hra
 obtain ⟨RC,hRC⟩ : ∃ z,rewCode m = z := ⟨_,rfl⟩
 rw [hRC]
 clear HRW d0 d1 hq hra
 obtain ⟨N4,hN4⟩ : ∃ N4,w3.heap.size = N4 := ⟨_,rfl⟩
 obtain ⟨W4,hW4⟩ : ∃ W4,w3.alloc (.cells n.cells 25) = W4 := ⟨_,rfl⟩
 have hst : ∀ (c : Array Value),c.size = 2 → (storeCells ⟨w3.heap.size,0,none⟩ n.cells.toList 0).run Try.prog (w3.alloc (.cells c 25)) = .ok () W4 := fun c hc => by
  rw [← hW4]
  exact run_storeCells_new (P := Try.prog) w3 25 c n.cells (by show _ = some 2; kernel_rfl) hc (by rw [← Array.all_toList]; simp [Mo.cells,Value.oneCell'])
 rw [hN4] at hst
 have hb23 := HB2.out.trans (hb3.mono HB2.out.size)
 have hb34 : Below N4 w3 W4 := by rw [← hW4,← hN4]; exact (Below.refl _ _).alloc (Nat.le_refl _) _
 have hs4 : W4.heap.size = N4 + 1 := by rw [← hW4]; simp [hN4]
 have hr4 : W4.heap[N4]? = some (.cells n.cells 25 (0,0)) := by rw [← hW4,← hN4]; exact alloc_at _ _
 have hb14 : Below W1.heap.size W1 W4 := by rw [← hW4]; exact hb23.alloc (by have := hb23.size; omega) _
 have HK4 : Hid (∀ W,Below W4.heap.size W4 W → (∀ k u,n.cells.toList[k]? = some u → W.cell? ((⟨N4,0,none⟩ : Addr).add k) = some u) ∧ n.inn W ∧ Below W1.heap.size W1 W) := fun W hW => by
  have h1 := (hW.block N4 (by omega)).trans hr4
  exact ⟨fun k u hu => by rw [Addr.add_lit,Nat.zero_add,cell_of_row _ _ _ _ _ _ h1]; simpa using hu,(hn.below (by rw [hN4]; exact hb34)).below hW,hb14.trans (hW.mono hb14.size)⟩
 obtain ⟨d0,d1,_,_⟩ := HK.out W4 hb14
 have HRR := Lib.hid (rRewrite_calls0 m W4 (HRI.out.below (by
  have h1 := hb3.trans (hb34.mono (by rw [← hN4]; exact hb3.size))
  exact h1)))
 simp only [Mo.cells] at HRR hst
 have hW4' := hW4
 simp only [Mo.cells] at hW4'
 have HW4 := Lib.hid hW4'
 clear hn hb3 hb34 hb23 hs4 hr4 hb14 hW4 hW4'
 unfold Mo.cells
 go_upto_region 4 with (fail)
 try rw [HW4.out]
 clear hst hN4
 go_wp2_with fail
 go_at_call 14
 refine HRR.out.mono ?_
 rintro e w5 hq
 obtain ⟨o,rfl,ho,hrb,hb5⟩ := rewP_is hq
 rw [hRC]
 have HRB := Lib.hid hrb
 clear HRR d0 d1 hq hrb HW4
 obtain ⟨N6,hN6⟩ : ∃ N6,w5.heap.size = N6 := ⟨_,rfl⟩
 obtain ⟨W6,hW6⟩ : ∃ W6,w5.alloc (.cells o.cells 25) = W6 := ⟨_,rfl⟩
 have hst : ∀ (c : Array Value),c.size = 2 → (storeCells ⟨w5.heap.size,0,none⟩ o.cells.toList 0).run Try.prog (w5.alloc (.cells c 25)) = .ok () W6 := fun c hc => by
  rw [← hW6]
  exact run_storeCells_new (P := Try.prog) w5 25 c o.cells (by show _ = some 2; kernel_rfl) hc (by rw [← Array.all_toList]; simp [Mo.cells,Value.oneCell'])
 rw [hN6] at hst
 have hb56 : Below N6 w5 W6 := by rw [← hW6,← hN6]; exact (Below.refl _ _).alloc (Nat.le_refl _) _
 have hs6 : W6.heap.size = N6 + 1 := by rw [← hW6]; simp [hN6]
 have hr6 : W6.heap[N6]? = some (.cells o.cells 25 (0,0)) := by rw [← hW6,← hN6]; exact alloc_at _ _
 have hb46 : Below W4.heap.size W4 W6 := by rw [← hW6]; exact hb5.alloc (by have := hb5.size; omega) _
 have hn16 := (HK4.out W6 hb46).2.2
 have HK6 : Hid (∀ W,Below W6.heap.size W6 W → ((∀ k u,n.cells.toList[k]? = some u → W.cell? ((⟨N4,0,none⟩ : Addr).add k) = some u) ∧ (∀ k u,o.cells.toList[k]? = some u → W.cell? ((⟨N6,0,none⟩ : Addr).add k) = some u) ∧ ∀ k u,m.cells.toList[k]? = some u → W.cell? ((⟨N,0,none⟩ : Addr).add k) = some u) ∧ n.inn W ∧ o.inn W ∧ m.inn W ∧ Below N w W ∧ W.cell? ⟨N,0,none⟩ = some (.slice m.sA m.ss.length m.sC) ∧ W.cell? ⟨N,1,none⟩ = some (.slice m.fA m.fs.length m.fC)) := fun W hW => by
  have h1 := (hW.block N6 (by omega)).trans hr6
  obtain ⟨e1,e2,e3⟩ := HK4.out W (hb46.trans (hW.mono hb46.size))
  obtain ⟨f1,f2,f3,f4⟩ := HK.out W e3
  exact ⟨⟨e1,fun k u hu => by rw [Addr.add_lit,Nat.zero_add,cell_of_row _ _ _ _ _ _ h1]; simpa using hu,HMC.out W e3⟩,e2,(ho.below (by rw [hN6]; exact hb56)).below hW,f3,f4,f1,f2⟩
 obtain ⟨_,_,_,hm6,_,d0,d1⟩ := HK6.out W6 (Below.refl _ _)
 have HMV := Lib.hid (moves_calls W6 m hm6 HF12.out HLM.out)
 simp only [Mo.cells] at HMV hst
 have hW6' := hW6
 simp only [Mo.cells] at hW6'
 have HW6 := Lib.hid hW6'
 clear ho hb5 hb56 hs6 hr6 hb46 hn16 hW6 hW6' HK4 HMC hm6
 unfold Mo.cells
 go_upto_region 5 with (fail)
 try rw [HW6.out]
 clear hst hN6
 obtain ⟨SO,hSO⟩ : ∃ s,sumF ownOne m.fs = s := ⟨_,rfl⟩
 obtain ⟨SL,hSL⟩ : ∃ s,sumF lentOne m.fs = s := ⟨_,rfl⟩
 rw [hSO,hSL] at HMV
 go_upto_region 6 with (go_at_call 15; refine HMV.out.mono ?_; rintro e w7 ⟨rfl,hb7⟩; have HB7 := Lib.hid hb7; clear hb7)
 clear d0 d1 HMV HW6
 obtain ⟨_,_,_,hm7,_,d0,d1⟩ := HK6.out w7 HB7.out
 have HMR := Lib.hid (rMoves_calls w7 m hm7 HF12.out HLM.out)
 rw [hSO,hSL] at HMR
 simp only [Mo.cells] at HMR
 clear hm7
 go_wp2_with fail
 go_at_call 16
 refine HMR.out.mono ?_
 rintro e w8 ⟨rfl,hb8⟩
 clear d0 d1 HMR hSO hSL hRC
 have hb68 := HB7.out.trans (hb8.mono HB7.out.size)
 obtain ⟨S,hS⟩ : ∃ S : World → Prop,S = Below w8.heap.size w8 := ⟨_,rfl⟩
 have HSB : Hid (∀ w',S w' ↔ Below w8.heap.size w8 w') := fun w' => by rw [hS]
 have HS6 : Hid (∀ w',S w' → Below W6.heap.size W6 w') := fun w' h => hb68.trans (((HSB.out w').1 h).mono hb68.size)
 have HSN : Hid (∀ w',S w' → ∀ k u,n.cells.toList[k]? = some u → w'.cell? ((⟨N4,0,none⟩ : Addr).add k) = some u) := fun w' h => (HK6.out w' (HS6.out w' h)).1.1
 have HSO : Hid (∀ w',S w' → ∀ k u,o.cells.toList[k]? = some u → w'.cell? ((⟨N6,0,none⟩ : Addr).add k) = some u) := fun w' h => (HK6.out w' (HS6.out w' h)).1.2.1
 have HSM : Hid (∀ w',S w' → ∀ k u,m.cells.toList[k]? = some u → w'.cell? ((⟨N,0,none⟩ : Addr).add k) = some u) := fun w' h => (HK6.out w' (HS6.out w' h)).1.2.2
 have HSAME : Hid (∀ w',S w' → Calls Try.prog 17 #[.agg n.cells,.agg o.cells] w' fun e w2 => e = .returned (.bool true) ∧ Below w'.heap.size w' w2) := fun w' h => by
  obtain ⟨_,hn,ho,_,_⟩ := HK6.out w' (HS6.out w' h)
  have := refSame_calls w' (mdOf w') n o (rewIs_fit HRI.out.al HRA.out hn) (rewIs_fit HRI.out.al HRB.out ho)
  rw [rewIs_same HRA.out HRB.out (mdOf_mdAt hn) (mdOf_mdAt ho)] at this
  exact this
 obtain ⟨ML,hML⟩ : ∃ L,modeF m f a = L := ⟨_,rfl⟩
 have HML : Hid (ML.length ≤ 90000) := by unfold Hid; rw [← hML]; exact modeF_len f a
 have HMI : Hid (∀ w',S w' → RightIn w' m) := fun w' h => ⟨(HK6.out w' (HS6.out w' h)).2.2.2.1,HRI.out.sl,HRI.out.fl,HRI.out.fd,HRI.out.vl,HRI.out.al⟩
 have HM1 : Hid (∀ w',S w' → Calls Try.prog 19 #[.agg m.cells,.int .i64 f,.int .i64 a] w' (GivesI w' ML)) := fun w' h => by rw [← hML]; exact mode_calls m w' (HMI.out w' h) f a
 have HM2 : Hid (∀ w',S w' → Calls Try.prog 20 #[.agg m.cells,.int .i64 f,.int .i64 a] w' (GivesI w' ML)) := fun w' h => by rw [← hML]; exact rMode_calls m w' (HMI.out w' h) f a
 have HEND : Hid (∀ we,S we → ∀ p : BW we,Below N w p.w) := fun we h p => by
  have h1 := HS6.out we h
  exact (HK6.out p.w (h1.trans (p.h.mono h1.size))).2.2.2.2.1
 have hS0 : S w8.drew := (HSB.out _).2 (Below.refl _ _).drew
 clear hb8 hb68 hS hML
 go_wp2_with fail
 refine wp_region_J 17 S (by kernel_rfl) ?_
 refine wpAnyJ_take (i := 0) (v := .agg n.cells) rfl (by kernel_rfl) (by kernel_rfl) (by kernel_rfl) (by kernel_rfl) (fun _ _ _ h => h) (load_yields (by rfl) 25 _ rfl ⟨N4,0,none⟩ rfl _ _ HSN.out Try.underlying25 rfl (by kernel_rfl)) (by assumption) ?_
 try go_simp
 refine wpAnyJ_take (i := 1) (v := .agg o.cells) rfl (by kernel_rfl) (by kernel_rfl) (by kernel_rfl) (by kernel_rfl) (fun _ _ _ h => h) (load_yields (by rfl) 25 _ rfl ⟨N6,0,none⟩ rfl _ _ HSO.out Try.underlying25 rfl (by kernel_rfl)) (by assumption) ?_
 try go_simp
 refine wpAnyJ_one (i := 2) (by kernel_rfl) (by decide) rfl fun K' hK => ?_
 rw [if_pos (by rfl)]
 go_simp
 go_at_call 17
 refine (HSAME.out _ hS0).mono ?_
 rintro e w9 ⟨rfl,hb9⟩
 have hS9 : S w9 := (HSB.out _).2 (((HSB.out _).1 hS0).trans (hb9.mono ((HSB.out _).1 hS0).size))
 refine hK _ _ hS9 ?_
 clear hK hb9
 try go_simp
 refine wpAnyJ_take (i := 3) rfl (by kernel_rfl) (by kernel_rfl) (by kernel_rfl) (by kernel_rfl) (fun _ _ _ h => h) (Or.inl ⟨by rfl,fun w hSw => by go_simp; try rfl⟩) (by assumption) ?_
 try go_simp
 refine wpAnyJ_take (i := 4) rfl (by kernel_rfl) (by kernel_rfl) (by kernel_rfl) (by kernel_rfl) (fun _ _ _ h => h) (Or.inl ⟨by rfl,fun w hSw => by go_simp; try rfl⟩) (by assumption) ?_
 try go_simp
 refine wpAnyJ_take (i := 5) rfl (by kernel_rfl) (by kernel_rfl) (by kernel_rfl) (by kernel_rfl) (fun _ _ _ h => h) (Or.inl ⟨by rfl,fun w hSw => by go_simp; try rfl⟩) (by assumption) ?_
 try go_simp
 refine wpAnyJ_take (i := 6) rfl (by kernel_rfl) (by kernel_rfl) (by kernel_rfl) (by kernel_rfl) (fun _ _ _ h => h) (Or.inl ⟨by rfl,fun w hSw => by go_simp; try rfl⟩) (by assumption) ?_
 try go_simp
 refine wpAnyJ_take (i := 7) rfl (by kernel_rfl) (by kernel_rfl) (by kernel_rfl) (by kernel_rfl) (fun _ _ _ h => h) (Or.inl ⟨by rfl,fun w hSw => by go_simp; try rfl⟩) (by assumption) ?_
 try go_simp
 refine wpAnyJ_take (i := 8) rfl (by kernel_rfl) (by kernel_rfl) (by kernel_rfl) (by kernel_rfl) (fun _ _ _ h => h) (Or.inl ⟨by rfl,fun w hSw => by go_simp; try rfl⟩) (by assumption) ?_
 try go_simp
 refine wpAnyJ_take (i := 10) rfl (by kernel_rfl) (by kernel_rfl) (by kernel_rfl) (by kernel_rfl) (fun _ _ _ h => h) (Or.inl ⟨by rfl,fun w hSw => by go_simp; try rfl⟩) (by assumption) ?_
 try go_simp
 refine wpAnyJ_take (i := 11) rfl (by kernel_rfl) (by kernel_rfl) (by kernel_rfl) (by kernel_rfl) (fun _ _ _ h => h) (Or.inl ⟨by rfl,fun w hSw => by go_simp; try rfl⟩) (by assumption) ?_
 try go_simp
 refine wpAnyJ_take (i := 14) rfl (by kernel_rfl) (by kernel_rfl) (by kernel_rfl) (by kernel_rfl) (fun _ _ _ h => h) (Or.inl ⟨by rfl,fun w hSw => by go_simp; try rfl⟩) (by assumption) ?_
 try go_simp
 refine wpAnyJ_take (i := 15) rfl (by kernel_rfl) (by kernel_rfl) (by kernel_rfl) (by kernel_rfl) (fun _ _ _ h => h) (Or.inl ⟨by rfl,fun w hSw => by go_simp; try rfl⟩) (by assumption) ?_
 try go_simp
 refine wpAnyJ_take (i := 9) (v := .agg m.cells) rfl (by kernel_rfl) (by kernel_rfl) (by kernel_rfl) (by kernel_rfl) (fun _ _ _ h => h) (load_yields (by rfl) 25 _ rfl ⟨N,0,none⟩ rfl _ _ HSM.out Try.underlying25 rfl (by kernel_rfl)) (by assumption) ?_
 try go_simp
 refine wpAnyJ_take (i := 13) (v := .agg m.cells) rfl (by kernel_rfl) (by kernel_rfl) (by kernel_rfl) (by kernel_rfl) (fun _ _ _ h => h) (load_yields (by rfl) 25 _ rfl ⟨N,0,none⟩ rfl _ _ HSM.out Try.underlying25 rfl (by kernel_rfl)) (by assumption) ?_
 try go_simp
 refine wpAnyJ_one (i := 12) (by kernel_rfl) (by decide) rfl fun K' hK => ?_
 rw [if_pos (by rfl)]
 go_simp
 go_at_call 19
 refine (HM1.out _ hS9).mono ?_
 rintro e wd ⟨ao1,cp1,rfl,ho1,hbd⟩
 have hSd : S wd := (HSB.out _).2 (((HSB.out _).1 hS9).trans (hbd.mono ((HSB.out _).1 hS9).size))
 refine hK _ _ hSd ?_
 clear hK hbd
 try go_simp
 refine wpAnyJ_one (i := 16) (by kernel_rfl) (by decide) rfl fun K' hK => ?_
 rw [if_pos (by rfl)]
 go_simp
 go_at_call 20
 refine (HM2.out _ hSd).mono ?_
 rintro e we ⟨ao2,cp2,rfl,ho2,hbe⟩
 have hSe : S we := (HSB.out _).2 (((HSB.out _).1 hSd).trans (hbe.mono ((HSB.out _).1 hSd).size))
 have HNM := Lib.hid (numbers_calls we _ _ cp1 cp2 ao1 ao2 ML HML.out (ownsRow_below ho1 hbe) ho2)
 refine hK _ _ hSe ?_
 clear hK hbe ho1 ho2
 try go_simp
 refine wpAnyJ_k (by kernel_rfl) rfl fun K' hK => ?_
 rw [if_pos (by rfl)]
 go_simp
 go_at_call 18
 refine HNM.out.mono ?_
 rintro e wf ⟨rfl,hbf⟩
 have hSf : S wf := (HSB.out _).2 (((HSB.out _).1 hSe).trans (hbf.mono ((HSB.out _).1 hSe).size))
 refine hK _ _ ?_
 clear hK hbf HNM
 try go_simp
 refine wpAny_end 18 rfl (by kernel_rfl) (by kernel_rfl) (fun w' => ∃ p : BW wf,w' = p.w) ⟨⟨wf,Below.refl _ _⟩,rfl⟩ ?_
 dsimp only [List.drop]
 repeat (go_big_quiet_step ((go_at_call 12; exact bw_of (HAL.out _))))
 refine wpQuiet_nil ?_
 rintro _ ⟨p,rfl⟩
 go_wp2
 go_ret
 exact ⟨rfl,HEND.out wf hSf p⟩
end Go.Proofs.Ytlggjbopfnndbaa
