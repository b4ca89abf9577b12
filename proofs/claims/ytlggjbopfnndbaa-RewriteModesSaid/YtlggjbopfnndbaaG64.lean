import Derived.Test.YtlggjbopfnndbaaG62
import Derived.Test.YtlggjbopfnndbaaG25
import Derived.Test.YtlggjbopfnndbaaG52
import Derived.Test.YtlggjbopfnndbaaG63
import Derived.Test.YtlggjbopfnndbaaG30
import Derived.Test.YtlggjbopfnndbaaRfH0
namespace Go.Proofs.Ytlggjbopfnndbaa
open Go.RowKit
def CallQ (m : Mo) (f : Nat) (g : Fn) (d h : Nat) (args : List Int) (RS1 : RS) (W2 : World) (B R : Nat) (vv fv : Value) (rows : List FR) (tag : Tag) (rn : Int) (is c : Value) (wr : World) : Prop :=
 ∃ (j : Nat) (y : Nat → Nat → Nat → Bool) (s : Bool),j ≤ args.length ∧ c = .int .i64 (j : Int) ∧ is = .bool s ∧ callR m.nv f g (d : Int) h j (args.drop j) ⟨y,s⟩ = RS1 ∧ RqM wr m B R vv fv rows y tag rn ∧ Ext (fun k => ∃ f u,tag k = (4,f,u)) W2 wr
set_option maxRecDepth 100000 in
set_option maxHeartbeats 8000000 in
theorem rq_call (w : World) (m : Mo) (B R : Nat) (vv fv : Value) (rows : List FR) (x : Nat → Nat → Nat → Bool) (tag : Tag) (rn : Int) (h : RqM w m B R vv fv rows x tag rn) (hok : OkR m) (f : Nat) (g : Fn) (hg : m.fs[f]? = some g) (i : Ins) (hi : i ∈ g.c.ins) (hop : i.op = 15) :
  Calls Try.prog 92 #[.pointer (some ⟨R,0,none⟩),.agg m.cells,.int .i64 (f : Int),.agg i.cells] w (InsQ w m B R vv fv rows tag rn (insR m.nv f g i ⟨x,false⟩)) := by
 obtain ⟨r,hr,_,_⟩ := h.row hg
 have hgm : g ∈ m.fs := List.mem_of_getElem? hg
 obtain ⟨p0,p1,p2,p3⟩ := hok.fn g hgm
 have hfn : f < m.fs.length := (List.getElem?_eq_some_iff.1 hg).1
 have hfI : (f : Int) < (m.fs.length : Int) := by omega
 have hn60 := hok.nf
 have hin := h.inn
 obtain ⟨fb,fo,hfA,hfb,hfc⟩ := hin.frow (by intro e; rw [e] at hfn; simp at hfn)
 obtain ⟨P,hP⟩ : ∃ P,g.c.par.toNat = P := ⟨_,rfl⟩
 have hPI : g.c.par = (P : Int) := by omega
 obtain ⟨N,hN⟩ : ∃ N,w.heap.size = N := ⟨_,rfl⟩
 obtain ⟨Wi,hWi⟩ : ∃ W,(w.alloc (.cells m.cells 25)).alloc (.cells i.cells 62) = W := ⟨_,rfl⟩
 obtain ⟨W2,hW2⟩ : ∃ W2,Wi.alloc (.cells g.cells 50) = W2 := ⟨_,rfl⟩
 have hW2' := hW2
 rw [← hWi] at hW2'
 obtain ⟨hb2,hs2,r0,r1,r2⟩ := box3 hW2'
 have hsi : Wi.heap.size = N + 2 := by rw [← hWi]; simp [hN]
 rw [hN] at hs2 r0 r1 r2
 have hbi : Below w.heap.size w Wi := by rw [← hWi]; exact ((Below.refl _ _).alloc (Nat.le_refl _) _).alloc (by simp) _
 have c1 : Wi.cell? ⟨N,1,none⟩ = some (.slice (some ⟨fb,fo,none⟩) m.fs.length m.fC) := by
  have q : Wi.heap[N]? = some (.cells m.cells 25 (0,0)) := by rw [← hWi,← hN]; exact heap_alloc2_old _ _ _
  rw [cell_of_row _ _ _ _ _ _ q,← hfA]; rfl
 have HCI : Hid (∀ k u,g.cells.toList[k]? = some u → Wi.cell? ((⟨fb,fo + f * 8,none⟩ : Addr).add k) = some u) := fun k u hu => by
  rw [Addr.add_lit,hbi.cell (p := ⟨fb,fo + f * 8 + k,none⟩) hfb]; exact hfc f g hg k u hu
 have hst : ∀ c : Array Value,c.size = 8 → (storeCells ⟨N + 2,0,none⟩ g.cells.toList 0).run Try.prog (Wi.alloc (.cells c 50)) = .ok () W2 := fun c hc => by
  rw [← hW2,← hsi]
  exact run_storeCells_new (P := Try.prog) Wi 50 c g.cells (by show _ = some 8; kernel_rfl) hc (fnOne g)
 have HX : Hid (∀ W,Ext (fun k => ∃ f u,tag k = (4,f,u)) W2 W → W.heap[N + 1]? = some (.cells i.cells 62 (0,0)) ∧ W.heap[N + 2]? = some (.cells g.cells 50 (0,0))) := fun W hW => by
  have ht : ∀ k,N ≤ k → ¬ ∃ f u,tag k = (4,f,u) := by
   rintro k hk ⟨f',u',e⟩
   have := (h.tab.low k (by rw [e]; simp)).2
   omega
  exact ⟨hW.heap r1 (ht _ (by omega)),hW.heap r2 (ht _ (by omega))⟩
 have HQ2 : Hid (RqM W2 m B R vv fv rows x tag rn) := h.below hb2
 have HB2 := Lib.hid hb2
 have HLT : Hid (∀ (y : Vr) W,Calls Try.prog 40 #[.agg y.cells] W fun e w' => e = .returned (.bool y.lent) ∧ Below W.heap.size W w') := fun y W => rlent19_calls y W
 have HVS : Hid (g.vs ≠ [] → ∃ vb vo,g.c.varsA = some ⟨vb,vo,none⟩ ∧ ∀ W y,RqM W m B R vv fv rows y tag rn → vb < W.heap.size ∧ ∀ (k : Nat) (v : Vr),g.vs[k]? = some v → ∀ q u,v.cells.toList[q]? = some u → W.cell? ((⟨vb,vo + k * 3,none⟩ : Addr).add q) = some u) := fun hne => by
  obtain ⟨vb,vo,hA,_,_⟩ := (hin.fin g hgm).vars hne
  refine ⟨vb,vo,hA,fun W y hq => ?_⟩
  obtain ⟨vb',vo',hA',hb',hc'⟩ := (hq.inn.fin g hgm).vars hne
  rw [hA] at hA'
  simp only [Option.some.injEq,Addr.mk.injEq,and_true] at hA'
  obtain ⟨rfl,rfl⟩ := hA'
  exact ⟨hb',fun k v hv q u hu => by rw [Addr.add_lit]; exact hc' k v hv q u hu⟩
 have hnvs := (hin.fin g hgm).nvars
 have HV2 : Hid (∀ W : World,W.heap[N + 2]? = some (.cells g.cells 50 (0,0)) → W.cell? ⟨N + 2,2,none⟩ = some (.slice g.c.varsA g.vs.length g.c.varsC)) := fun W hW => by rw [cell_of_row _ _ _ _ _ _ hW,← hnvs]; rfl
 have HG := Lib.hid hg
 have HR := Lib.hid hr
 have HOK := Lib.hid hok
 have HWi := Lib.hid hWi
 have HS2 := Lib.hid hs2
 have HHP := Lib.hid hP
 have HFIN0 : Hid (∀ W,Below W2.heap.size W2 W → insR m.nv f g i ⟨x,false⟩ = ⟨x,false⟩ → InsQ w m B R vv fv rows tag rn (insR m.nv f g i ⟨x,false⟩) (.returned (.bool false)) W) := fun W hW he => by
  rw [he]
  exact ⟨rfl,HQ2.out.below hW,Ext.of_below_size (HB2.out.trans (hW.mono HB2.out.size))⟩
 have HBW : Hid (Below w.heap.size w W2) := HB2.out
 have HWS : Hid (w.heap.size ≤ W2.heap.size) := HB2.out.size
 obtain ⟨hvd,hvas,hf0,hh,hgh,hlen⟩ := hok.call g hgm i hi hop
 obtain ⟨q0,q1,q2,q3⟩ := hok.fn hh (List.mem_of_getElem? hgh)
 obtain ⟨h0,h1⟩ := isVar_iff.1 hvd
 obtain ⟨d,hd⟩ : ∃ k : Nat,i.d = (k : Int) := ⟨i.d.toNat,by omega⟩
 obtain ⟨H,hhe⟩ : ∃ k : Nat,i.f = (k : Int) := ⟨i.f.toNat,by omega⟩
 rw [hhe,Int.toNat_natCast] at hgh
 have hdl : d < g.vs.length := by omega
 obtain ⟨yd,hyd⟩ : ∃ y,g.vs[d]? = some y := ⟨_,List.getElem?_eq_getElem hdl⟩
 have hdI : (d : Int) < (g.vs.length : Int) := by omega
 have hHl : H < m.fs.length := (List.getElem?_eq_some_iff.1 hgh).1
 have hHI : (H : Int) < (m.fs.length : Int) := by omega
 obtain ⟨RS1,hRS⟩ : ∃ s,insR m.nv f g i ⟨x,false⟩ = s := ⟨_,rfl⟩
 have HE : Hid (callR m.nv f g (d : Int) H 0 i.args ⟨x,false⟩ = RS1) := by
  unfold Hid; rw [← hRS]; unfold insR; rw [if_neg (by omega),if_pos hop,hd,hhe,Int.toNat_natCast]
 rw [hRS]
 clear hRS HFIN0
 obtain ⟨vb,vo,hvA,hvc⟩ := HVS.out (by intro e; rw [e] at hdl; simp at hdl)
 obtain ⟨VA,FA,cv,cf,T,ct,hat⟩ := h.cells hg hr (by omega)
 have HAT : Hid (∀ W y,RqM W m B R vv fv rows y tag rn → RqAt W R VA FA cv cf T ct f g.vs.length P m.fs.length r.at_) := fun W y hq => by rw [← hP]; exact hat W y hq
 obtain ⟨rh,hrh,_,hrhL⟩ := h.row hgh
 obtain ⟨PH,hPH⟩ : ∃ P,hh.c.par.toNat = P := ⟨_,rfl⟩
 have HRES : Hid (∀ W y,RqM W m B R vv fv rows y tag rn → W.cell? ⟨FA,H,none⟩ = some (.slice (some ⟨rh.at_ hh.vs.length,0,none⟩) PH PH) ∧ ∀ n,n < PH → W.cell? ⟨rh.at_ hh.vs.length,n,none⟩ = some (.bool (y H (m.nv H) n))) := fun W y hq => by
  refine ⟨by rw [← hPH]; exact hq.res hgh hrh (hat W y hq).c1,fun n hn => ?_⟩
  have h1 := (hq.tab.leaf hrh (u := hh.vs.length) (by rw [hrhL]; omega)).1
  rw [(hq.fit H rh hh hrh hgh).1,hPH] at h1
  have h2 := boolsOk.cell h1 hn
  rw [h2,nv_get hgh]
 obtain ⟨⟨_,a2,n2,c2,e2⟩,a3,c3,e3,_⟩ := (hin.fin g hgm).code.args i hi
 have HI2 : Hid (∀ W,Ext (fun k => ∃ f u,tag k = (4,f,u)) W2 W → W.cell? ⟨N + 1,0,none⟩ = some (.int .i64 15) ∧ W.cell? ⟨N + 1,1,none⟩ = some (.int .i64 (d : Int)) ∧ W.cell? ⟨N + 1,4,none⟩ = some (.int .i64 (H : Int)) ∧ W.cell? ⟨N + 1,7,none⟩ = some (.slice a3 i.args.length c3) ∧ W.cell? ⟨N + 2,2,none⟩ = some (.slice (some ⟨vb,vo,none⟩) g.vs.length g.c.varsC)) := fun W hW => by
  obtain ⟨q1,q2⟩ := HX.out W hW
  exact ⟨by rw [cell_of_row _ _ _ _ _ _ q1,← hop]; rfl,by rw [cell_of_row _ _ _ _ _ _ q1,← hd]; rfl,by rw [cell_of_row _ _ _ _ _ _ q1,← hhe]; rfl,by rw [cell_of_row _ _ _ _ _ _ q1,← e3]; rfl,by rw [← hvA]; exact HV2.out W q2⟩
 have HARG : Hid (∀ W y,RqM W m B R vv fv rows y tag rn → IntRow W a3 i.args) := fun W y hq => by
  obtain ⟨a4,c4,e4,row⟩ := ((hq.inn.fin g hgm).code.args i hi).2
  rw [e3] at e4
  simp only [Value.slice.injEq] at e4
  rw [e4.1]; exact row
 have HXV : Hid (∀ W y,RqM W m B R vv fv rows y tag rn → ∀ (k : Nat) (v : Vr),g.vs[k]? = some v → ∀ q u,v.cells.toList[q]? = some u → W.cell? ((⟨vb,vo + k * 3,none⟩ : Addr).add q) = some u) := fun W y hq => (hvc W y hq).2
 have HVA : Hid (∀ a ∈ i.args,isVar g.vs.length a = true) := hvas
 have HLEN : Hid (i.args.length = PH) := by unfold Hid; omega
 have hPH3 : PH ≤ 300 := by omega
 have hlA : i.args.length ≤ 300 := by omega
 have HYD := Lib.hid hyd
 have HEX2 : Hid (Ext (fun k => ∃ f u,tag k = (4,f,u)) w W2) := Ext.of_below_size HB2.out
 clear h hok hg hr hin hfc hfA hW2 hW2' hWi hb2 hbi hs2 r0 r1 r2 hnvs hgm hi hP hPH hop hvd hvas hf0 hgh hlen q0 q1 q2 q3 h0 h1 hd hhe hyd hvA hvc hat hrh hrhL e2 e3 p0 p1 hPI
 (go_enter Try.func92,Try.ntmps92; go_upto_region 1 with (fail); rw [HWi.out]; go_upto_region 3 with (refine wpList_load_at rfl 50 _ rfl ⟨fb,fo + f * 8,none⟩ rfl g.cells _ HCI.out Try.underlying50 rfl (by kernel_rfl) ?_))
 clear c1 hst HCI HWi hsi hN
 obtain ⟨i0,_,_,i7,_⟩ := HI2.out W2 (Ext.refl _ _)
 go_upto_region 9 with (fail)
 go_wp2_with fail
 clear i0 i7
 go_loopw [10,11] (fun is c wr => CallQ m f g d H i.args RS1 W2 B R vv fv rows tag rn is c wr) (fun _ c _ => i.args.length - (intOf c).toNat)
 case atStart => exact ⟨0,x,false,Nat.zero_le _,rfl,rfl,by rw [List.drop_zero]; exact HE.out,HQ2.out,Ext.refl _ _⟩
 case round =>
  obtain ⟨j,y,s,hj,rfl,rfl,hcr,hq,hx⟩ := hrel
  obtain ⟨_,_,_,i7,_⟩ := HI2.out wr hx
  have HQR := Lib.hid hq
  have HXR := Lib.hid hx
  by_cases hlt : j < i.args.length
  rotate_left
  ·have hje : j = i.args.length := by omega
   subst hje
   rw [List.drop_length] at hcr
   have HCR : Hid (RS1 = ⟨y,s⟩) := by unfold Hid; rw [← hcr]; rfl
   clear hcr hq hx
   go_wp2
   go_ret
   rw [HCR.out]
   exact ⟨rfl,HQR.out,HEX2.out.trans HXR.out (fun _ hk => .inl hk)⟩
  have hjI : (j : Int) < (i.args.length : Int) := by omega
  obtain ⟨av,hav⟩ : ∃ av,i.args[j]? = some av := ⟨_,List.getElem?_eq_getElem hlt⟩
  obtain ⟨h2,h3⟩ := isVar_iff.1 (HVA.out av (List.mem_of_getElem? hav))
  obtain ⟨a,rfl⟩ : ∃ a : Nat,av = (a : Int) := ⟨av.toNat,by omega⟩
  have hal : a < g.vs.length := by omega
  have haI : (a : Int) < (g.vs.length : Int) := by omega
  obtain ⟨ya,hya⟩ : ∃ y,g.vs[a]? = some y := ⟨_,List.getElem?_eq_getElem hal⟩
  obtain ⟨ab,ao,hA3,hab,har⟩ := HARG.out wr y hq (by intro e; rw [e] at hlt; simp at hlt)
  have ka := har j _ hav 0 _ rfl
  simp only [Nat.mul_one,Nat.add_zero] at ka
  have hdrop : i.args.drop j = (a : Int) :: i.args.drop (j + 1) := by
   rw [List.drop_eq_getElem_cons hlt]
   congr 1
   exact (List.getElem?_eq_some_iff.1 hav).2
  rw [hdrop] at hcr
  obtain ⟨bt,hbt⟩ : ∃ b,y H (m.nv H) j = b := ⟨_,rfl⟩
  obtain ⟨ld,hld⟩ : ∃ b,yd.lent = b := ⟨_,rfl⟩
  obtain ⟨la,hla⟩ : ∃ b,ya.lent = b := ⟨_,rfl⟩
  have HCR : Hid (callR m.nv f g (d : Int) H (j + 1) (i.args.drop (j + 1)) (if (ld && la && bt) = true then RS.join P ⟨y,s⟩ f d a else ⟨y,s⟩) = RS1) := by
   have h3 := hcr
   unfold callR at h3
   simp only [Int.toNat_natCast] at h3
   rw [show g.lentAt (d : Int) = ld from (lentAt_get HYD.out).trans hld,show g.lentAt (a : Int) = la from (lentAt_get hya).trans hla,hbt,HHP.out] at h3
   exact h3
  have HL1 : Hid (∀ p : BW wr,Calls Try.prog 40 #[.agg yd.cells] p.w fun e w' => e = .returned (.bool ld) ∧ Below p.w.heap.size p.w w') := fun p => by rw [← hld]; exact HLT.out yd p.w
  have HL2 : Hid (∀ p : BW wr,Calls Try.prog 40 #[.agg ya.cells] p.w fun e w' => e = .returned (.bool la) ∧ Below p.w.heap.size p.w w') := fun p => by rw [← hla]; exact HLT.out ya p.w
  have HQP : Hid (∀ p : BW wr,RqM p.w m B R vv fv rows y tag rn) := fun p => HQR.out.below p.h
  have HXP : Hid (∀ p : BW wr,Ext (fun k => ∃ f u,tag k = (4,f,u)) W2 p.w) := fun p => HXR.out.trans (Ext.of_below_size (M := fun k => ∃ f u,tag k = (4,f,u)) p.h) (fun _ hk => .inl hk)
  have k1 : ∀ p : BW wr,p.w.cell? ⟨N + 1,1,none⟩ = some (.int .i64 (d : Int)) := fun p => (HI2.out p.w (HXP.out p)).2.1
  have k4 : ∀ p : BW wr,p.w.cell? ⟨N + 1,4,none⟩ = some (.int .i64 (H : Int)) := fun p => (HI2.out p.w (HXP.out p)).2.2.1
  have k7 : ∀ p : BW wr,p.w.cell? ⟨N + 1,7,none⟩ = some (.slice (some ⟨ab,ao,none⟩) i.args.length c3) := fun p => by rw [← hA3]; exact (HI2.out p.w (HXP.out p)).2.2.2.1
  have k8 : ∀ p : BW wr,p.w.cell? ⟨ab,ao + j,none⟩ = some (.int .i64 (a : Int)) := fun p => by rw [p.h.cell (p := ⟨ab,_,none⟩) hab]; exact ka
  have v2 : ∀ p : BW wr,p.w.cell? ⟨N + 2,2,none⟩ = some (.slice (some ⟨vb,vo,none⟩) g.vs.length g.c.varsC) := fun p => (HI2.out p.w (HXP.out p)).2.2.2.2
  have t0 : ∀ p : BW wr,p.w.cell? ⟨R,0,none⟩ = some (.slice (some ⟨VA,0,none⟩) m.fs.length cv) := fun p => (HAT.out p.w y (HQP.out p)).c0
  have t1 : ∀ p : BW wr,p.w.cell? ⟨R,1,none⟩ = some (.slice (some ⟨FA,0,none⟩) m.fs.length cf) := fun p => (HAT.out p.w y (HQP.out p)).c1
  have t2 : ∀ p : BW wr,p.w.cell? ⟨FA,H,none⟩ = some (.slice (some ⟨rh.at_ hh.vs.length,0,none⟩) PH PH) := fun p => (HRES.out p.w y (HQP.out p)).1
  have t3 : ∀ p : BW wr,p.w.cell? ⟨rh.at_ hh.vs.length,j,none⟩ = some (.bool bt) := fun p => by rw [← hbt]; exact (HRES.out p.w y (HQP.out p)).2 j (by rw [← HLEN.out]; exact hlt)
  have t4 : ∀ p : BW wr,p.w.cell? ⟨VA,f,none⟩ = some (.slice (some ⟨T,0,none⟩) g.vs.length ct) := fun p => (HAT.out p.w y (HQP.out p)).kv
  have t5 : ∀ p : BW wr,p.w.cell? ⟨T,d,none⟩ = some (.slice (some ⟨r.at_ d,0,none⟩) P P) := fun p => (HAT.out p.w y (HQP.out p)).ku d hdl
  have t6 : ∀ p : BW wr,p.w.cell? ⟨T,a,none⟩ = some (.slice (some ⟨r.at_ a,0,none⟩) P P) := fun p => (HAT.out p.w y (HQP.out p)).ku a hal
  have HXD : Hid (∀ (p : BW wr) k u,yd.cells.toList[k]? = some u → p.w.cell? ((⟨vb,vo + d * 3,none⟩ : Addr).add k) = some u) := fun p => HXV.out p.w y (HQP.out p) d yd HYD.out
  have HXA : Hid (∀ (p : BW wr) k u,ya.cells.toList[k]? = some u → p.w.cell? ((⟨vb,vo + a * 3,none⟩ : Addr).add k) = some u) := fun p => HXV.out p.w y (HQP.out p) a ya hya
  have hjP : (j : Int) < (PH : Int) := by have := HLEN.out; omega
  have HJ : Hid (∀ p : BW wr,Calls Try.prog 112 #[.slice (some ⟨r.at_ d,0,none⟩) P P,.slice (some ⟨r.at_ a,0,none⟩) P P] p.w fun e w' => ∃ t,e = .returned (.bool t) ∧ t = newR P y f d a ∧ RqM w' m B R vv fv rows (orR y f d a) tag rn ∧ Ext (fun k => ∃ f u,tag k = (4,f,u)) W2 w') := fun p => by
   have h1 := (HQP.out p).join HOK.out HG.out HR.out (d := d) (a := a) (by omega) (by omega) (HXP.out p)
   rw [HHP.out] at h1
   refine h1.mono ?_
   rintro e w6 ⟨rfl,j1,j2⟩
   exact ⟨_,rfl,rfl,j1,j2⟩
  clear hcr hq hx hav h2 h3 hya hA3 hab har ka hdrop hbt hld hla
  go_wp2_with fail
  clear i7
  cases ld with
  | false =>
   refine wp_region_quiet_bw (by kernel_rfl) (by kernel_rfl) ?_
   repeat (first
    | (go_big_quiet_want; (refine quiet_load_bw 47 _ rfl ⟨vb,vo + d * 3,none⟩ rfl _ _ HXD.out Try.underlying47 rfl (by kernel_rfl) ?_); (simp only [Act.put,List.setIfInBounds_toArray,List.set_cons_zero,List.set_cons_succ]); go_big_quiet_on)
    | (go_big_quiet_step (fail)))
   go_big_quiet_step ((go_at_call 40; exact bw_of (HL1.out _)))
   repeat (go_big_quiet_step (fail))
   refine wpQuiet_nil ?_
   rintro _ ⟨p,rfl⟩
   clear k1 k4 k7 k8 v2 t0 t1 t2 t3 t4 t5 t6
   go_wp2
   go_roundw
   case rel => exact ⟨j + 1,y,s,by omega,by go_num,rfl,by have h1 := HCR.out; rw [if_neg (by simp)] at h1; exact h1,HQP.out p,HXP.out p⟩
   case measure => simp [intOf]; omega
  | true =>
  cases la with
  | false =>
   refine wp_region_quiet_bw (by kernel_rfl) (by kernel_rfl) ?_
   repeat (first
    | (go_big_quiet_want; (refine quiet_load_bw 47 _ rfl ⟨vb,vo + d * 3,none⟩ rfl _ _ HXD.out Try.underlying47 rfl (by kernel_rfl) ?_); (simp only [Act.put,List.setIfInBounds_toArray,List.set_cons_zero,List.set_cons_succ]); go_big_quiet_on)
    | (go_big_quiet_step (fail)))
   go_big_quiet_step ((go_at_call 40; exact bw_of (HL1.out _)))
   repeat (first
    | (go_big_quiet_want; (refine quiet_load_bw 47 _ rfl ⟨vb,vo + a * 3,none⟩ rfl _ _ HXA.out Try.underlying47 rfl (by kernel_rfl) ?_); (simp only [Act.put,List.setIfInBounds_toArray,List.set_cons_zero,List.set_cons_succ]); go_big_quiet_on)
    | (go_big_quiet_step (fail)))
   go_big_quiet_step ((go_at_call 40; exact bw_of (HL2.out _)))
   repeat (go_big_quiet_step (fail))
   refine wpQuiet_nil ?_
   rintro _ ⟨p,rfl⟩
   clear k1 k4 k7 k8 v2 t0 t1 t2 t3 t4 t5 t6
   go_wp2
   go_roundw
   case rel => exact ⟨j + 1,y,s,by omega,by go_num,rfl,by have h1 := HCR.out; rw [if_neg (by simp)] at h1; exact h1,HQP.out p,HXP.out p⟩
   case measure => simp [intOf]; omega
  | true =>
  cases bt with
  | false =>
   refine wp_region_quiet_bw (by kernel_rfl) (by kernel_rfl) ?_
   repeat (first
    | (go_big_quiet_want; (refine quiet_load_bw 47 _ rfl ⟨vb,vo + d * 3,none⟩ rfl _ _ HXD.out Try.underlying47 rfl (by kernel_rfl) ?_); (simp only [Act.put,List.setIfInBounds_toArray,List.set_cons_zero,List.set_cons_succ]); go_big_quiet_on)
    | (go_big_quiet_step (fail)))
   go_big_quiet_step ((go_at_call 40; exact bw_of (HL1.out _)))
   repeat (first
    | (go_big_quiet_want; (refine quiet_load_bw 47 _ rfl ⟨vb,vo + a * 3,none⟩ rfl _ _ HXA.out Try.underlying47 rfl (by kernel_rfl) ?_); (simp only [Act.put,List.setIfInBounds_toArray,List.set_cons_zero,List.set_cons_succ]); go_big_quiet_on)
    | (go_big_quiet_step (fail)))
   go_big_quiet_step ((go_at_call 40; exact bw_of (HL2.out _)))
   repeat (go_big_quiet_step (fail))
   refine wpQuiet_nil ?_
   rintro _ ⟨p,rfl⟩
   clear k1 k4 k7 k8 v2 t0 t1 t2 t3 t4 t5 t6
   go_wp2
   go_roundw
   case rel => exact ⟨j + 1,y,s,by omega,by go_num,rfl,by have h1 := HCR.out; rw [if_neg (by simp)] at h1; exact h1,HQP.out p,HXP.out p⟩
   case measure => simp [intOf]; omega
  | true =>
   refine wp_region_phase 58 1 rfl (by kernel_rfl) (by kernel_rfl) (by kernel_rfl) (fun w' => ∃ p : BW wr,w' = p.w) ⟨⟨wr.drew,(Below.refl _ _).drew⟩,rfl⟩ ?_
   dsimp only [List.take]
   repeat (first
    | (go_big_quiet_want; (refine quiet_load_bw 47 _ rfl ⟨vb,vo + d * 3,none⟩ rfl _ _ HXD.out Try.underlying47 rfl (by kernel_rfl) ?_); (simp only [Act.put,List.setIfInBounds_toArray,List.set_cons_zero,List.set_cons_succ]); go_big_quiet_on)
    | (go_big_quiet_step (fail)))
   go_big_quiet_step ((go_at_call 40; exact bw_of (HL1.out _)))
   repeat (first
    | (go_big_quiet_want; (refine quiet_load_bw 47 _ rfl ⟨vb,vo + a * 3,none⟩ rfl _ _ HXA.out Try.underlying47 rfl (by kernel_rfl) ?_); (simp only [Act.put,List.setIfInBounds_toArray,List.set_cons_zero,List.set_cons_succ]); go_big_quiet_on)
    | (go_big_quiet_step (fail)))
   go_big_quiet_step ((go_at_call 40; exact bw_of (HL2.out _)))
   repeat (go_big_quiet_step (fail))
   refine wpQuiet_nil ?_
   rintro _ ⟨p,rfl⟩
   refine wpOp_step rfl fun K' hK => ?_
   rw [if_pos (by rfl)]
   go_simp
   go_at_call 112
   refine (HJ.out p).mono ?_
   rintro e w5 ⟨t,rfl,ht,hq5,hx5⟩
   have HT := Lib.hid ht
   have HQ5 := Lib.hid hq5
   have HX5 := Lib.hid hx5
   refine hK _ _ ?_
   clear hK ht hq5 hx5 k1 k4 k7 k8 v2 t0 t1 t2 t3 t4 t5 t6
   try go_simp
   refine wpAny_end 59 rfl (by kernel_rfl) (by kernel_rfl) (· = w5) rfl ?_
   dsimp only [List.drop]
   repeat (go_big_quiet_step (fail))
   refine wpQuiet_nil ?_
   rintro _ rfl
   have HC5 : Hid (callR m.nv f g (d : Int) H (j + 1) (i.args.drop (j + 1)) ⟨orR y f d a,t || s⟩ = RS1) := by
    have h1 := HCR.out
    rw [if_pos (by rfl)] at h1
    rw [HT.out]; exact h1
   cases t with
   | true =>
    go_wp2
    go_roundw
    case rel => exact ⟨j + 1,_,true,by omega,by go_num,rfl,HC5.out,HQ5.out,HX5.out⟩
    case measure => simp [intOf]; omega
   | false =>
    rw [Bool.false_or] at HC5
    go_wp2
    go_roundw
    case rel => exact ⟨j + 1,_,s,by omega,by go_num,rfl,HC5.out,HQ5.out,HX5.out⟩
    case measure => simp [intOf]; omega
end Go.Proofs.Ytlggjbopfnndbaa
namespace Go.Proofs.Ytlggjbopfnndbaa
open Go.RowKit
theorem rq_instr (w : World) (m : Mo) (B R : Nat) (vv fv : Value) (rows : List FR) (x : Nat → Nat → Nat → Bool) (tag : Tag) (rn : Int) (h : RqM w m B R vv fv rows x tag rn) (hok : OkR m) (f : Nat) (g : Fn) (hg : m.fs[f]? = some g) (i : Ins) (hi : i ∈ g.c.ins) :
  Calls Try.prog 92 #[.pointer (some ⟨R,0,none⟩),.agg m.cells,.int .i64 (f : Int),.agg i.cells] w (InsQ w m B R vv fv rows tag rn (insR m.nv f g i ⟨x,false⟩)) := by
 by_cases h9 : i.op = 9 ∨ i.op = 10
 ·exact rq_mv w m B R vv fv rows x tag rn h hok f g hg i hi h9
 by_cases h15 : i.op = 15
 ·exact rq_call w m B R vv fv rows x tag rn h hok f g hg i hi h15
 by_cases h18 : i.op = 18
 ·exact rq_ret w m B R vv fv rows x tag rn h hok f g hg i hi h18
 exact rq_none w m B R vv fv rows x tag rn h hok f g hg i hi (by omega) (by omega) h15 h18
def turnQ (tag : Tag) (k : Nat) : Prop := ∃ f u,tag k = (4,f,u)
def RoundQ (w : World) (m : Mo) (B R : Nat) (vv fv : Value) (rows : List FR) (tag : Tag) (rn : Int) (s : RS) (e : Ending) (w' : World) : Prop :=
 e = .returned (.bool s.is) ∧ RqM w' m B R vv fv rows s.x tag rn ∧ Ext (turnQ tag) w w'
set_option maxRecDepth 100000 in
set_option maxHeartbeats 8000000 in
theorem rround_calls (w : World) (m : Mo) (B R : Nat) (vv fv : Value) (rows : List FR) (x : Nat → Nat → Nat → Bool) (tag : Tag) (rn : Int) (h : RqM w m B R vv fv rows x tag rn) (hok : OkR m) :
  Calls Try.prog 68 #[.pointer (some ⟨R,0,none⟩),.agg m.cells] w (RoundQ w m B R vv fv rows tag rn (passR m x)) := by
 obtain ⟨PS,hPS⟩ : ∃ s,passR m x = s := ⟨_,rfl⟩
 have HPS : Hid (funcsR m.nv 0 m.fs ⟨x,false⟩ = PS) := hPS
 rw [hPS]
 clear hPS
 have hn60 := hok.nf
 obtain ⟨N,hN⟩ : ∃ N,w.heap.size = N := ⟨_,rfl⟩
 obtain ⟨W1,hW1⟩ : ∃ W1,w.alloc (.cells m.cells 25) = W1 := ⟨_,rfl⟩
 have hb1 : Below w.heap.size w W1 := by rw [← hW1]; exact (Below.refl _ _).alloc (Nat.le_refl _) _
 have hr1 : W1.heap[N]? = some (.cells m.cells 25 (0,0)) := by rw [← hW1,← hN]; exact alloc_at _ _
 have HBX : Hid (∀ W,Ext (turnQ tag) W1 W → W.heap[N]? = some (.cells m.cells 25 (0,0)) ∧ W.cell? ⟨N,1,none⟩ = some (.slice m.fA m.fs.length m.fC)) := fun W hW => by
  have q := hW.heap hr1 (by
   rintro ⟨f',u',e⟩
   have := (h.tab.low N (by rw [e]; simp)).2
   omega)
  exact ⟨q,by rw [cell_of_row _ _ _ _ _ _ q]; rfl⟩
 have HQ1 : Hid (RqM W1 m B R vv fv rows x tag rn) := h.below hb1
 have HXW : Hid (Ext (turnQ tag) w W1) := Ext.of_below_size hb1
 have HOK := Lib.hid hok
 have HW1 := Lib.hid hW1
 clear h hok hb1 hr1 hW1
 go_enter Try.func68,Try.ntmps68
 go_upto_region 1 with (fail)
 rw [HW1.out]
 clear HW1 hN
 go_wp2_with fail
 go_loopw [5,6] (fun is c wr => ∃ (j : Nat) (s : RS),j ≤ m.fs.length ∧ c = .int .i64 (j : Int) ∧ is = .bool s.is ∧ funcsR m.nv j (m.fs.drop j) s = PS ∧ RqM wr m B R vv fv rows s.x tag rn ∧ Ext (turnQ tag) W1 wr) (fun _ c _ => m.fs.length - (intOf c).toNat)
 case atStart => exact ⟨0,⟨x,false⟩,Nat.zero_le _,rfl,rfl,HPS.out,HQ1.out,Ext.refl _ _⟩
 case round =>
  rename World => wo
  obtain ⟨j,⟨y,s⟩,hj,rfl,rfl,hP,hq,hx⟩ := hrel
  obtain ⟨_,c1⟩ := HBX.out wo hx
  have HQO := Lib.hid hq
  have HXO := Lib.hid hx
  by_cases hjn : j < m.fs.length
  rotate_left
  ·have hje : j = m.fs.length := by omega
   subst hje
   rw [List.drop_length] at hP
   have HR : Hid (PS = ⟨y,s⟩) := hP.symm
   clear hP hq hx
   go_wp2
   go_ret
   rw [HR.out]
   exact ⟨rfl,HQO.out,HXW.out.trans HXO.out (fun _ h => .inl h)⟩
  have hjI : (j : Int) < (m.fs.length : Int) := by omega
  obtain ⟨g,hg⟩ : ∃ g,m.fs[j]? = some g := ⟨_,List.getElem?_eq_getElem hjn⟩
  rw [drop_get hg] at hP
  have HP0 : Hid (funcsR m.nv (j + 1) (m.fs.drop (j + 1)) (codeR m.nv j g g.c.ins ⟨y,s⟩) = PS) := hP
  have hil : g.c.ins.length ≤ 3000 := (HOK.out.fn g (List.mem_of_getElem? hg)).2.2.2
  obtain ⟨fb,fo,hfA,hfb,hfc⟩ := hq.inn.frow (by intro e; rw [e] at hjn; simp at hjn)
  have HF : Hid (∀ W z,RqM W m B R vv fv rows z tag rn → Ext (turnQ tag) W1 W → W.cell? ⟨N,1,none⟩ = some (.slice (some ⟨fb,fo,none⟩) m.fs.length m.fC) ∧ W.cell? ⟨fb,fo + j * 8 + 7,none⟩ = some (.slice g.c.insA g.c.ins.length g.c.insC)) := fun W z hz hxz => by
   refine ⟨by rw [← hfA]; exact (HBX.out W hxz).2,?_⟩
   obtain ⟨fb',fo',hfA',_,hfc'⟩ := hz.inn.frow (by intro e; rw [e] at hjn; simp at hjn)
   rw [hfA] at hfA'
   simp only [Option.some.injEq,Addr.mk.injEq,and_true] at hfA'
   obtain ⟨rfl,rfl⟩ := hfA'
   exact hfc' j g hg 7 _ rfl
  have HGG := Lib.hid hg
  clear hP hg hfA hfb hfc hq hx
  go_wp2_with fail
  clear c1
  go_loopw [5,7] (fun is c wr => ∃ (k : Nat) (s : RS),k ≤ g.c.ins.length ∧ c = .int .i64 (k : Int) ∧ is = .bool s.is ∧ funcsR m.nv (j + 1) (m.fs.drop (j + 1)) (codeR m.nv j g (g.c.ins.drop k) s) = PS ∧ RqM wr m B R vv fv rows s.x tag rn ∧ Ext (turnQ tag) W1 wr) (fun _ c _ => g.c.ins.length - (intOf c).toNat)
  case atStart => exact ⟨0,⟨y,s⟩,Nat.zero_le _,rfl,rfl,by rw [List.drop_zero]; exact HP0.out,HQO.out,HXO.out⟩
  case round =>
   clear HP0
   obtain ⟨k,⟨y2,s2⟩,hk,rfl,rfl,hP,hq,hx⟩ := hrel
   obtain ⟨c1,c7⟩ := HF.out wr y2 hq hx
   have HQR := Lib.hid hq
   have HXR := Lib.hid hx
   by_cases hkl : k < g.c.ins.length
   rotate_left
   ·have hke : k = g.c.ins.length := by omega
    subst hke
    rw [List.drop_length] at hP
    have HPJ : Hid (funcsR m.nv (j + 1) (m.fs.drop (j + 1)) ⟨y2,s2⟩ = PS) := hP
    clear hP hq hx
    go_wp2
    go_roundw
    case rel => exact ⟨j + 1,⟨y2,s2⟩,by omega,by go_num,rfl,HPJ.out,HQR.out,HXR.out⟩
    case measure => simp [intOf]; omega
   have hkI : (k : Int) < (g.c.ins.length : Int) := by omega
   obtain ⟨i,hi⟩ : ∃ i,g.c.ins[k]? = some i := ⟨_,List.getElem?_eq_getElem hkl⟩
   have him := List.mem_of_getElem? hi
   obtain ⟨b2,o2,hA2,hb2,hc2⟩ := (hq.inn.fin g (List.mem_of_getElem? HGG.out)).code.row (by intro e; rw [e] at hkl; simp at hkl)
   have HP2 : Hid (funcsR m.nv (j + 1) (m.fs.drop (j + 1)) (codeR m.nv j g (g.c.ins.drop (k + 1)) (insR m.nv j g i ⟨y2,s2⟩)) = PS) := by
    unfold Hid
    rw [drop_get hi] at hP
    exact hP
   obtain ⟨S3,hS3⟩ : ∃ S3,insR m.nv j g i ⟨y2,false⟩ = S3 := ⟨_,rfl⟩
   have HXP : Hid (∀ p : BW wr,Ext (turnQ tag) W1 p.w) := fun p => HXR.out.trans (Ext.of_below_size (M := turnQ tag) p.h) (fun _ hk => .inl hk)
   have HQP : Hid (∀ p : BW wr,RqM p.w m B R vv fv rows y2 tag rn) := fun p => HQR.out.below p.h
   have HIC : Hid (∀ p : BW wr,Calls Try.prog 92 #[.pointer (some ⟨R,0,none⟩),.agg m.cells,.int .i64 (j : Int),.agg i.cells] p.w fun e w' => ∃ t,e = .returned (.bool t) ∧ funcsR m.nv (j + 1) (m.fs.drop (j + 1)) (codeR m.nv j g (g.c.ins.drop (k + 1)) ⟨S3.x,t || s2⟩) = PS ∧ RqM w' m B R vv fv rows S3.x tag rn ∧ Ext (turnQ tag) W1 w') := fun p => by
    have h1 := rq_instr p.w m B R vv fv rows y2 tag rn (HQP.out p) HOK.out j g HGG.out i him
    rw [hS3] at h1
    refine h1.mono ?_
    rintro e w6 ⟨e1,h2,h3⟩
    refine ⟨S3.is,e1,?_,h2,(HXP.out p).trans h3 (fun _ hk => .inl hk)⟩
    have h4 := HP2.out
    rw [insR_split,hS3] at h4
    exact h4
   have m1 : ∀ p : BW wr,p.w.cell? ⟨N,1,none⟩ = some (.slice (some ⟨fb,fo,none⟩) m.fs.length m.fC) := fun p => (HF.out p.w y2 (HQP.out p) (HXP.out p)).1
   have m7 : ∀ p : BW wr,p.w.cell? ⟨fb,fo + j * 8 + 7,none⟩ = some (.slice (some ⟨b2,o2,none⟩) g.c.ins.length g.c.insC) := fun p => by rw [← hA2]; exact (HF.out p.w y2 (HQP.out p) (HXP.out p)).2
   have HXI : Hid (∀ (p : BW wr) q u,i.cells.toList[q]? = some u → p.w.cell? ((⟨b2,o2 + k * 13,none⟩ : Addr).add q) = some u) := fun p q u hu => by
    rw [Addr.add_lit,p.h.cell (p := ⟨b2,_,none⟩) hb2]; exact hc2 k i hi q u hu
   have HXM : Hid (∀ (p : BW wr) q u,m.cells.toList[q]? = some u → p.w.cell? ((⟨N,0,none⟩ : Addr).add q) = some u) := fun p => cells_at (HBX.out p.w (HXP.out p)).1
   clear hP hq hx hi him hA2 hb2 hc2 hS3
   go_wp2_with fail
   clear c1 c7
   refine wp_region_phase 12 0 rfl (by kernel_rfl) (by kernel_rfl) (by kernel_rfl) (fun w' => ∃ p : BW wr,w' = p.w) ⟨⟨wr.drew,(Below.refl _ _).drew⟩,rfl⟩ ?_
   dsimp only [List.take]
   repeat (first
    | (go_big_quiet_want; (first
     | (refine quiet_load_bw 25 _ rfl ⟨N,0,none⟩ rfl m.cells _ HXM.out Try.underlying25 rfl (by kernel_rfl) ?_)
     | (refine quiet_load_bw 62 _ rfl ⟨b2,o2 + k * 13,none⟩ rfl i.cells _ HXI.out Try.underlying62 rfl (by kernel_rfl) ?_)); (simp only [Act.put,List.setIfInBounds_toArray,List.set_cons_zero,List.set_cons_succ]); go_big_quiet_on)
    | (go_big_quiet_step (fail)))
   refine wpQuiet_nil ?_
   rintro _ ⟨p,rfl⟩
   refine wpOp_step rfl fun K' hK => ?_
   rw [if_pos (by rfl)]
   go_simp
   go_at_call 92
   refine (HIC.out p).mono ?_
   rintro e w6 ⟨t,rfl,h4,h5,h6⟩
   have H4 := Lib.hid h4
   have H5 := Lib.hid h5
   have H6 := Lib.hid h6
   refine hK _ _ ?_
   clear hK h4 h5 h6 m1 m7
   try go_simp
   refine wpAny_end 13 rfl (by kernel_rfl) (by kernel_rfl) (· = w6) rfl ?_
   dsimp only [List.drop]
   refine wpQuiet_nil ?_
   rintro _ rfl
   cases t with
   | true =>
    go_wp2
    go_roundw
    case rel => exact ⟨k + 1,⟨S3.x,true⟩,by omega,by go_num,rfl,H4.out,H5.out,H6.out⟩
    case measure => simp [intOf]; omega
   | false =>
    rw [Bool.false_or] at H4
    go_wp2
    go_roundw
    case rel => exact ⟨k + 1,⟨S3.x,s2⟩,by omega,by go_num,rfl,H4.out,H5.out,H6.out⟩
    case measure => simp [intOf]; omega
end Go.Proofs.Ytlggjbopfnndbaa
