/- What a call, and an instruction that neither moves nor returns nor calls, asks of origins. -/
import Derived.Test.YtlggjbopfnndbaaRegC2
namespace Go.Proofs.Ytlggjbopfnndbaa
open Go.RowKit
theorem hasB_calls (w : World) (b P v : Nat) (x : Nat → Bool) (hx : bitsOk w b P x) (hv : v < P) (hP : P ≤ 90000) : Calls Try.prog 69 #[bitsLeaf.enc b P,.int .i64 (v : Int)] w fun e w' => e = .returned (.bool (x v)) ∧ w = w' := by
 obtain ⟨f,h1,h2,h3⟩ := hx
 have h4 := h3 v (by omega)
 rw [decide_eq_true hv,Bool.true_and] at h4
 rw [← h4]
 exact bitsHas_calls w b ((P + 63) / 64) ((P + 63) / 64) v f h1 h2 (by omega) (by omega)
def CallI (m : Mo) (f : Nat) (g : Fn) (d h : Nat) (args : List Int) (RS1 : RS) (W2 : World) (B R : Nat) (vv fv : Value) (rows : List FR) (tag : Tag) (rn : Int) (is c : Value) (wr : World) : Prop :=
 ∃ (j : Nat) (y : Nat → Nat → Nat → Bool) (s : Bool),j ≤ args.length ∧ c = .int .i64 (j : Int) ∧ is = .bool s ∧ callR m.nv f g (d : Int) h j (args.drop j) ⟨y,s⟩ = RS1 ∧ RgM wr m B R vv fv rows y tag rn ∧ Ext (fun k => ∃ f u,tag k = (4,f,u)) W2 wr
set_option maxRecDepth 100000 in
set_option maxHeartbeats 8000000 in
theorem instr_call (w : World) (m : Mo) (B R : Nat) (vv fv : Value) (rows : List FR) (x : Nat → Nat → Nat → Bool) (tag : Tag) (rn : Int) (h : RgM w m B R vv fv rows x tag rn) (hok : OkR m) (f : Nat) (g : Fn) (hg : m.fs[f]? = some g) (i : Ins) (hi : i ∈ g.c.ins)  (hop : i.op = 15) :
  Calls Try.prog 91 #[.pointer (some ⟨R,0,none⟩),.int .i64 (f : Int),.agg i.cells] w (InsP w m B R vv fv rows tag rn (insR m.nv f g i ⟨x,false⟩)) := by
 obtain ⟨r,hr,hP,hL⟩ := h.row hg
 have hgm : g ∈ m.fs := List.mem_of_getElem? hg
 obtain ⟨p0,p1,p2,p3⟩ := hok.fn g hgm
 have hfn : f < m.fs.length := (List.getElem?_eq_some_iff.1 hg).1
 have hfI : (f : Int) < (m.fs.length : Int) := by omega
 have hfr : f < rows.length := by rw [h.n]; exact hfn
 have hfrI : (f : Int) < (rows.length : Int) := by omega
 have hn60 := hok.nf
 have hrn := h.n
 have hin := h.inn
 have hgi := hin.fin g hgm
 obtain ⟨⟨⟨a1,c1,e1⟩,a2,n2,c2,e2⟩,a3,c3,e3,har⟩ := hgi.code.args i hi
 have hone : i.cells.all (·.oneCell') = true := insOne ⟨by rw [e1]; rfl,by rw [e2]; rfl⟩
 have HONE := Lib.hid hone
 obtain ⟨fb,fo,hfA,hfb,hfc⟩ := hin.frow (by intro e; rw [e] at hfn; simp at hfn)
 obtain ⟨VA,FA,cv,cf,hvv,hfv,hVA,hFA,kv,kf⟩ := h.tab.fn hr
 rw [hvv,hfv] at h
 subst hvv hfv
 have hRl : R < w.heap.size := (Array.getElem?_eq_some_iff.1 h.rec_).1
 have hrc := h.rec_
 rw [hfA] at hrc
 have HCA : Hid (∀ k u,g.cells.toList[k]? = some u → w.cell? ((⟨fb,fo + f * 8,none⟩ : Addr).add k) = some u) := fun k u hu => by rw [Addr.add_lit]; exact hfc f g hg k u hu
 obtain ⟨N,hN⟩ : ∃ N,w.heap.size = N := ⟨_,rfl⟩
 obtain ⟨Wi,hWi⟩ : ∃ Wi,w.alloc (.cells i.cells 62) = Wi := ⟨_,rfl⟩
 have hbi : Below w.heap.size w Wi := by rw [← hWi]; exact (Below.refl _ _).alloc (Nat.le_refl _) _
 have hsi : Wi.heap.size = N + 1 := by rw [← hWi]; simp [hN]
 have hri : Wi.heap[N]? = some (.cells i.cells 62 (0,0)) := by rw [← hWi,← hN]; exact alloc_at _ _
 have r1 : Wi.cell? ⟨R,1,none⟩ = some (.slice (some ⟨fb,fo,none⟩) m.fs.length m.fC) := by rw [hbi.cell (p := ⟨R,1,none⟩) hRl,cell_of_row _ _ _ _ _ _ hrc]; rfl
 have HCI : Hid (∀ k u,g.cells.toList[k]? = some u → Wi.cell? ((⟨fb,fo + f * 8,none⟩ : Addr).add k) = some u) := fun k u hu => by
  have h1 := HCA.out k u hu
  rw [Addr.add_lit] at h1 ⊢
  rw [hbi.cell (p := ⟨fb,fo + f * 8 + k,none⟩) hfb]; exact h1
 have hst : ∀ c : Array Value,c.size = 8 → (storeCells ⟨Wi.heap.size,0,none⟩ g.cells.toList).run Try.prog (Wi.alloc (.cells c 50)) = .ok () (Wi.alloc (.cells g.cells 50)) := fun c hc =>
  run_storeCells_new (P := Try.prog) Wi 50 c g.cells (by show _ = some 8; kernel_rfl) hc (fnOne g)
 obtain ⟨W2,hW2⟩ : ∃ W2,Wi.alloc (.cells g.cells 50) = W2 := ⟨_,rfl⟩
 rw [hW2,hsi] at hst
 have hb2 : Below w.heap.size w W2 := by rw [← hW2]; exact hbi.alloc (by omega) _
 have hs2 : W2.heap.size = N + 1 + 1 := by rw [← hW2]; simp [hsi]
 have hr0 : W2.heap[N]? = some (.cells i.cells 62 (0,0)) := by rw [← hW2,Below.heap_alloc _ _ _ (by omega)]; exact hri
 have hr1 : W2.heap[N + 1]? = some (.cells g.cells 50 (0,0)) := by rw [← hW2,← hsi]; exact alloc_at _ _
 have h2 := h.below hb2
 have HG2 := Lib.hid h2
 have HLC : Hid (∀ W v,Below W2.heap.size W2 W → isVar g.vs.length v = true → Calls Try.prog 110 #[.int .i64 v,.pointer (some ⟨N + 1,0,none⟩)] W fun e w' => e = .returned (.bool (g.lentAt v)) ∧ Below W.heap.size W w') := by
  intro W v hW hv
  have h3 := ((h2.inn).fin g hgm).below hW
  exact lent1_calls W g (N + 1) v ((hW.block _ (by omega)).trans hr1) h3.vars h3.nvars p2 hv
 have HB2 := Lib.hid hb2
 have HWi := Lib.hid hWi
 have HS2 := Lib.hid hs2
 have HN := Lib.hid hN
 have HR0 := Lib.hid hr0
 have HR1 := Lib.hid hr1
 have HROW := Lib.hid hr
 have HP := Lib.hid hP
 have HL2 := Lib.hid hL
 have HGG := Lib.hid hg
 have HRN := Lib.hid hrn
 obtain ⟨hvd,hva,hf0,hh,hgh,hlen⟩ := hok.call g hgm i hi hop
 obtain ⟨q0,q1,q2,q3⟩ := hok.fn hh (List.mem_of_getElem? hgh)
 obtain ⟨RS1,hRS⟩ : ∃ s,insR m.nv f g i ⟨x,false⟩ = s := ⟨_,rfl⟩
 have HE0 : RS1 = callR m.nv f g i.d i.f.toNat 0 i.args ⟨x,false⟩ := by
  rw [← hRS]; unfold insR; rw [if_neg (by rw [hop]; decide),if_pos hop]
 rw [hRS]
 clear hRS
 obtain ⟨d,hd⟩ : ∃ d : Nat,i.d = (d : Int) := ⟨i.d.toNat,by have := isVarR_iff.1 hvd; omega⟩
 obtain ⟨h1',hhe⟩ : ∃ h : Nat,i.f = (h : Int) := ⟨i.f.toNat,by omega⟩
 rw [hd] at hvd HE0
 rw [hhe,Int.toNat_natCast] at HE0 hgh
 have HE := Lib.hid HE0
 have hdl : d < g.vs.length := by have := (isVarR_iff.1 hvd).2; omega
 have hhl : h1' < m.fs.length := (List.getElem?_eq_some_iff.1 hgh).1
 have i0 : W2.cell? ⟨N,0,none⟩ = some (.int .i64 15) := by rw [cell_of_row _ _ _ _ _ _ hr0,← hop]; rfl
 have i7 : W2.cell? ⟨N,7,none⟩ = some (.slice a3 i.args.length c3) := by rw [cell_of_row _ _ _ _ _ _ hr0,← e3]; rfl
 have hN2 : N < W2.heap.size := by omega
 have HTN : Hid (∀ k,k = N ∨ k = N + 1 → ¬ ∃ f u,tag k = (4,f,u)) := by
  rintro k hk ⟨f',u',e⟩
  have := (h.tab.low k (by rw [e]; simp)).2
  omega
 have HNV : Hid (m.nv h1' = hh.vs.length) := by unfold Hid Mo.nv; rw [hgh]
 have HIN7 : Hid (∀ wr y,RgM wr m B R (.slice (some ⟨VA,0,none⟩) rows.length cv) (.slice (some ⟨FA,0,none⟩) rows.length cf) rows y tag rn → IntRow wr a3 i.args) := by
  intro wr y hq
  obtain ⟨a4,c4,e4,row⟩ := ((hq.inn.fin g hgm).code.args i hi).2
  rw [e3] at e4
  simp only [Value.slice.injEq] at e4
  rw [e4.1]; exact row
 have HLCR : Hid (∀ wr y,RgM wr m B R (.slice (some ⟨VA,0,none⟩) rows.length cv) (.slice (some ⟨FA,0,none⟩) rows.length cf) rows y tag rn → Ext (fun k => ∃ f u,tag k = (4,f,u)) W2 wr → ∀ W v,Below wr.heap.size wr W → isVar g.vs.length v = true → Calls Try.prog 110 #[.int .i64 v,.pointer (some ⟨N + 1,0,none⟩)] W fun e w' => e = .returned (.bool (g.lentAt v)) ∧ Below W.heap.size W w') := by
  intro wr y hq hx W v hW hv
  have h3 := (hq.inn.fin g hgm).below hW
  have hrr := hx.heap HR1.out (HTN.out _ (.inr rfl))
  exact lent1_calls W g (N + 1) v ((hW.block _ (Array.getElem?_eq_some_iff.1 hrr).1).trans hrr) h3.vars h3.nvars p2 hv
 have HVD := Lib.hid hvd
 have HVA := Lib.hid hva
 have HGH := Lib.hid hgh
 have HLEN : Hid (i.args.length = hh.c.par.toNat) := by unfold Hid; omega
 have hlA : i.args.length ≤ 300 := by omega
 have HHP : Hid (hh.c.par.toNat ≤ 300) := by unfold Hid; omega
 have HGP : Hid (g.c.par.toNat ≤ 300) := by unfold Hid; omega
 have hhI : (h1' : Int) < (rows.length : Int) := by omega
 have hdI : (d : Int) < (g.vs.length : Int) := by omega
 have i1 : W2.cell? ⟨N,1,none⟩ = some (.int .i64 (d : Int)) := by rw [cell_of_row _ _ _ _ _ _ hr0,← hd]; rfl
 have i4 : W2.cell? ⟨N,4,none⟩ = some (.int .i64 (h1' : Int)) := by rw [cell_of_row _ _ _ _ _ _ hr0,← hhe]; rfl
 have I1 := Lib.hid i1
 have I4 := Lib.hid i4
 clear h h2 hin hgi hfc hrc kv kf hg hgm hi e1 e2 e3 har hone hb2 hbi hri hr0 hr1 hW2 hr hP hL hvd hva hWi hs2 hok HCA p0 p1 hfA hRl hrn hop HE0 hd hhe hgh q0 q1 q2 q3 i1 i4 hlen hf0
 (go_enter Try.func91,Try.ntmps91; go_upto_region 1 with (fail); rw [HWi.out]; go_upto_region 8 with (first | (refine wpList_load_at rfl 50 _ rfl ⟨fb,fo + f * 8,none⟩ rfl g.cells _ HCI.out Try.underlying50 rfl (by kernel_rfl) ?_)))
 clear hst r1 HCI
 go_wp2_with fail
 go_loopw [6,65] (fun is c wr => CallI m f g d h1' i.args RS1 W2 B R (.slice (some ⟨VA,0,none⟩) rows.length cv) (.slice (some ⟨FA,0,none⟩) rows.length cf) rows tag rn is c wr) (fun _ c _ => i.args.length - (intOf c).toNat)
 case atStart =>
  exact ⟨0,x,false,Nat.zero_le _,rfl,rfl,by rw [List.drop_zero]; exact HE.out.symm,HG2.out,Ext.refl _ _⟩
 case round =>
  obtain ⟨j,y,s,hj,rfl,rfl,hcr,hgm,hx⟩ := hrel
  clear i0 i7
  by_cases hlt : j < i.args.length
  ·have hjI : (j : Int) < (i.args.length : Int) := by omega
   obtain ⟨av,hav⟩ : ∃ av,i.args[j]? = some av := ⟨_,List.getElem?_eq_getElem hlt⟩
   have hvv := HVA.out av (List.mem_of_getElem? hav)
   obtain ⟨a,rfl⟩ : ∃ a : Nat,av = (a : Int) := ⟨av.toNat,by have := isVarR_iff.1 hvv; omega⟩
   have hal : a < g.vs.length := by have := (isVarR_iff.1 hvv).2; omega
   obtain ⟨ab,ao,hA3,hab,har⟩ := HIN7.out wr y hgm (by intro e; rw [e] at hlt; simp at hlt)
   subst hA3
   have ka := har j _ hav 0 _ rfl
   simp only [Nat.mul_one,Nat.add_zero] at ka
   have hdrop : i.args.drop j = (a : Int) :: i.args.drop (j + 1) := by
    rw [List.drop_eq_getElem_cons hlt]
    congr 1
    have := (List.getElem?_eq_some_iff.1 hav).2
    exact this
   rw [hdrop] at hcr
   obtain ⟨SN,hSN⟩ : ∃ SN,(if (g.lentAt (d : Int) && g.lentAt (a : Int) && y h1' (m.nv h1') j) = true then RS.join g.c.par.toNat ⟨y,s⟩ f d a else ⟨y,s⟩) = SN := ⟨_,rfl⟩
   have hcr2 : callR m.nv f g (d : Int) h1' (j + 1) (i.args.drop (j + 1)) SN = RS1 := by
    rw [← hSN]
    have h3 := hcr
    unfold callR at h3
    simp only [Int.toNat_natCast] at h3
    exact h3
   have HCR := Lib.hid hcr2
   have HSN := Lib.hid hSN
   obtain ⟨T,ct,htv,hT,kd⟩ := hgm.tab.var HROW.out (u := d) (by rw [HL2.out]; omega)
   obtain ⟨T',ct',htv',_,kaa⟩ := hgm.tab.var HROW.out (u := a) (by rw [HL2.out]; omega)
   rw [htv] at htv'
   simp only [Value.slice.injEq,Option.some.injEq,Addr.mk.injEq] at htv'
   obtain ⟨⟨rfl,_⟩,_,rfl⟩ := htv'
   obtain ⟨VA1,FA1,cv1,cf1,z1,z2,hVA1,hFA1,kv,kf⟩ := hgm.tab.fn HROW.out
   simp only [Value.slice.injEq,Option.some.injEq,Addr.mk.injEq] at z1 z2
   obtain ⟨⟨rfl,_⟩,_,rfl⟩ := z1
   obtain ⟨⟨rfl,_⟩,_,rfl⟩ := z2
   obtain ⟨rh,hrh,hrhP,hrhL⟩ := hgm.row HGH.out
   obtain ⟨VA2,FA2,cv2,cf2,z1,z2,_,_,_,kh⟩ := hgm.tab.fn hrh
   simp only [Value.slice.injEq,Option.some.injEq,Addr.mk.injEq] at z1 z2
   obtain ⟨⟨rfl,_⟩,_,rfl⟩ := z1
   obtain ⟨⟨rfl,_⟩,_,rfl⟩ := z2
   rw [htv,HL2.out] at kv
   have hRl : R < wr.heap.size := (Array.getElem?_eq_some_iff.1 hgm.rec_).1
   have kr2 : wr.cell? ⟨R,2,none⟩ = some (.slice (some ⟨VA,0,none⟩) rows.length cv) := by rw [cell_of_row _ _ _ _ _ _ hgm.rec_]; rfl
   have kr3 : wr.cell? ⟨R,3,none⟩ = some (.slice (some ⟨FA,0,none⟩) rows.length cf) := by rw [cell_of_row _ _ _ _ _ _ hgm.rec_]; rfl
   have hN3 : N < wr.heap.size := by have := hx.size; have := HS2.out; omega
   have k1 : wr.cell? ⟨N,1,none⟩ = some (.int .i64 (d : Int)) := by rw [hx.cell (a := ⟨N,1,none⟩) hN2 (HTN.out _ (.inl rfl))]; exact I1.out
   have k4 : wr.cell? ⟨N,4,none⟩ = some (.int .i64 (h1' : Int)) := by rw [hx.cell (a := ⟨N,4,none⟩) hN2 (HTN.out _ (.inl rfl))]; exact I4.out
   have hleafh := (hgm.tab.leaf hrh (u := rh.locs.length) (Nat.le_refl _)).1
   have hleafd := (hgm.tab.leaf HROW.out (u := d) (by rw [HL2.out]; omega))
   obtain ⟨bh,hbh⟩ : ∃ b,rh.at_ rh.locs.length = b := ⟨_,rfl⟩
   obtain ⟨bd,hbd⟩ : ∃ b,r.at_ d = b := ⟨_,rfl⟩
   obtain ⟨ba,hba⟩ : ∃ b,r.at_ a = b := ⟨_,rfl⟩
   obtain ⟨P,hPP⟩ : ∃ P,r.P = P := ⟨_,rfl⟩
   obtain ⟨PH,hPH⟩ : ∃ P,rh.P = P := ⟨_,rfl⟩
   obtain ⟨q,hq⟩ : ∃ q,(P + 63) / 64 = q := ⟨_,rfl⟩
   obtain ⟨qh,hqh⟩ : ∃ q,(PH + 63) / 64 = q := ⟨_,rfl⟩
   have HENC : Hid (∀ b,bitsLeaf.enc b P = .slice (some ⟨b,0,none⟩) q q) := fun b => by rw [← hq]; rfl
   have HENH : Hid (∀ b,bitsLeaf.enc b PH = .slice (some ⟨b,0,none⟩) qh qh) := fun b => by rw [← hqh]; rfl
   rw [hbd,hPP,HENC.out] at kd
   rw [hba,hPP,HENC.out] at kaa
   rw [hbh,hPH,HENH.out] at kh
   rw [hbh,hPH,hrhL,← HNV.out] at hleafh
   have hjP : j < PH := by rw [← hPH,hrhP,← HLEN.out]; exact hlt
   have hPHb : PH ≤ 300 := by rw [← hPH,hrhP]; exact HHP.out
   have hPb : P ≤ 300 := by rw [← hPP,HP.out]; exact HGP.out
   have hqb : q ≤ 90000 := by omega
   have hqhb : qh ≤ 90000 := by omega
   have HHAS : Hid (∀ p : BW wr,Calls Try.prog 69 #[.slice (some ⟨bh,0,none⟩) qh qh,.int .i64 (j : Int)] p.w fun e w' => e = .returned (.bool (y h1' (m.nv h1') j)) ∧ p.w = w') := fun p => by
    have h5 := hasB_calls p.w bh PH j (y h1' (m.nv h1')) (bitsLeaf.keep hleafh (p.h.block bh (bitsLeaf.lt hleafh))) hjP (by omega)
    rw [HENH.out] at h5; exact h5
   have HLL : Hid (∀ (p : BW wr) v,isVar g.vs.length v = true → Calls Try.prog 110 #[.int .i64 v,.pointer (some ⟨N + 1,0,none⟩)] p.w fun e w' => e = .returned (.bool (g.lentAt v)) ∧ Below p.w.heap.size p.w w') := fun p v hv => HLCR.out wr y hgm hx p.w v p.h hv
   have HGW := Lib.hid hgm
   have HX := Lib.hid hx
   have HVV := Lib.hid hvv
   have hVA1' := hVA1
   have K1 : Hid (∀ p : BW wr,p.w.cell? ⟨N,1,none⟩ = some (.int .i64 (d : Int))) := fun p => by rw [p.h.cell (p := ⟨N,1,none⟩) hN3]; exact k1
   have K4 : Hid (∀ p : BW wr,p.w.cell? ⟨N,4,none⟩ = some (.int .i64 (h1' : Int))) := fun p => by rw [p.h.cell (p := ⟨N,4,none⟩) hN3]; exact k4
   have KR2 : Hid (∀ p : BW wr,p.w.cell? ⟨R,2,none⟩ = some (.slice (some ⟨VA,0,none⟩) rows.length cv)) := fun p => by rw [p.h.cell (p := ⟨R,2,none⟩) hRl]; exact kr2
   have KR3 : Hid (∀ p : BW wr,p.w.cell? ⟨R,3,none⟩ = some (.slice (some ⟨FA,0,none⟩) rows.length cf)) := fun p => by rw [p.h.cell (p := ⟨R,3,none⟩) hRl]; exact kr3
   have KV : Hid (∀ p : BW wr,p.w.cell? ⟨VA,f,none⟩ = some (.slice (some ⟨T,0,none⟩) g.vs.length ct)) := fun p => by rw [p.h.cell (p := ⟨VA,f,none⟩) hVA1]; exact kv
   have KH : Hid (∀ p : BW wr,p.w.cell? ⟨FA,h1',none⟩ = some (.slice (some ⟨bh,0,none⟩) qh qh)) := fun p => by rw [p.h.cell (p := ⟨FA,h1',none⟩) hFA1]; exact kh
   have KD : Hid (∀ p : BW wr,p.w.cell? ⟨T,d,none⟩ = some (.slice (some ⟨bd,0,none⟩) q q)) := fun p => by rw [p.h.cell (p := ⟨T,d,none⟩) hT]; exact kd
   have KA : Hid (∀ p : BW wr,p.w.cell? ⟨T,a,none⟩ = some (.slice (some ⟨ba,0,none⟩) q q)) := fun p => by rw [p.h.cell (p := ⟨T,a,none⟩) hT]; exact kaa
   have HST : Hid (∀ p : BW wr,SN = ⟨y,s⟩ → CallI m f g d h1' i.args RS1 W2 B R (.slice (some ⟨VA,0,none⟩) rows.length cv) (.slice (some ⟨FA,0,none⟩) rows.length cf) rows tag rn (.bool s) (.int .i64 ((j : Int) + 1)) p.w) := fun p e => by
    have h5 := HCR.out
    rw [e] at h5
    exact ⟨j + 1,y,s,hlt,by simp,rfl,h5,HGW.out.below p.h,HX.out.trans (Ext.of_below_size (M := fun _ => False) p.h) (fun _ h => h.elim)⟩
   have HJO : Hid (∀ p : BW wr,g.lentAt (d : Int) = true → g.lentAt (a : Int) = true → y h1' (m.nv h1') j = true → Calls Try.prog 111 #[.slice (some ⟨bd,0,none⟩) q q,.slice (some ⟨ba,0,none⟩) q q] p.w fun e w6 => ∃ nb,e = .returned (.bool nb) ∧ CallI m f g d h1' i.args RS1 W2 B R (.slice (some ⟨VA,0,none⟩) rows.length cv) (.slice (some ⟨FA,0,none⟩) rows.length cf) rows tag rn (.bool (nb || s)) (.int .i64 ((j : Int) + 1)) w6) := by
    intro p hld hla hhs
    have h5' := HGW.out.below p.h
    have hd5 := (h5'.tab.leaf HROW.out (u := d) (by rw [HL2.out]; omega)).1
    have ha5 := (h5'.tab.leaf HROW.out (u := a) (by rw [HL2.out]; omega)).1
    rw [hbd,hPP] at hd5
    rw [hba,hPP] at ha5
    have hjc := join_calls p.w bd ba P _ _ hd5 ha5 (by omega)
    rw [HENC.out,HENC.out] at hjc
    refine hjc.mono fun e w6 hjj => ?_
    obtain ⟨e1,j1,j2⟩ := hjj
    subst e1
    refine ⟨_,rfl,j + 1,orR y f d a,newB P (y f d) (y f a) || s,hlt,by simp,rfl,?_,?_,?_⟩
    ·have h6 := HCR.out
     rw [← HSN.out,hld,hla,hhs,if_pos (by rfl)] at h6
     rw [← h6,← hPP,HP.out]
     congr 1
    ·refine h5'.set HROW.out (by rw [HL2.out]; omega : d ≤ r.locs.length) (by rw [hbd]; exact j2) ?_ ?_
     ·rw [hbd,hPP]
      refine bitsLeaf.congr j1 fun n _ => ?_
      show _ = orR y f d a f d n
      unfold orR; rw [if_pos ⟨rfl,rfl⟩]
     ·intro g' v hne n
      unfold orR; rw [if_neg hne]
    ·refine (HX.out.trans (Ext.of_below_size (M := fun _ => False) p.h) (fun _ h => h.elim)).trans j2 fun k hk => .inl ⟨f,d,?_⟩
     rw [hk,← hbd]; exact hleafd.2
   have HC0 : Hid (∃ p : BW wr,wr.drew = p.w) := ⟨⟨wr.drew,(Below.refl _ _).drew⟩,rfl⟩
   have HC1 : Hid (∀ p : BW wr,∃ p' : BW wr,p.w.drew = p'.w) := fun p => ⟨⟨p.w.drew,p.h.drew⟩,rfl⟩
   clear hcr hcr2 hSN hgm hx hav har hvv kv kf kh kd kaa kr2 kr3 k1 k4 hleafh hleafd hbh hbd hba hPP hPH hq hqh hrh hrhP hrhL htv hdrop hVA1 hFA1 hjP
   have HLd : Hid (∀ p : BW wr,Calls Try.prog 110 #[.int .i64 (d : Int),.pointer (some ⟨N + 1,0,none⟩)] p.w fun e w' => e = .returned (.bool (g.lentAt (d : Int))) ∧ Below p.w.heap.size p.w w') := fun p => HLL.out p _ HVD.out
   have HLa : Hid (∀ p : BW wr,Calls Try.prog 110 #[.int .i64 (a : Int),.pointer (some ⟨N + 1,0,none⟩)] p.w fun e w' => e = .returned (.bool (g.lentAt (a : Int))) ∧ Below p.w.heap.size p.w w') := fun p => HLL.out p _ HVV.out
   cases hld : g.lentAt (d : Int) with
   | false =>
    rw [hld] at HLd HSN
    have HST2 : Hid (∀ p : BW wr,CallI m f g d h1' i.args RS1 W2 B R (.slice (some ⟨VA,0,none⟩) rows.length cv) (.slice (some ⟨FA,0,none⟩) rows.length cf) rows tag rn (.bool s) (.int .i64 ((j : Int) + 1)) p.w) := fun p => HST.out p HSN.out.symm
    have k1 := K1.out
    clear hld
    go_wp2_with fail
    refine wp_region_quiet_bw (by kernel_rfl) (by kernel_rfl) ?_
    repeat (go_big_quiet_step (fail))
    go_big_quiet_step ((go_at_call 110; exact bw_of (HLd.out _)))
    repeat (go_big_quiet_step (fail))
    refine wpQuiet_nil ?_
    rintro _ ⟨p,rfl⟩
    go_wp2
    go_roundw
    case rel => exact HST2.out p
    case measure => simp [intOf]; omega
   | true =>
    rw [hld] at HLd HSN
    cases hla : g.lentAt (a : Int) with
    | false =>
     rw [hla] at HLa HSN
     have HST2 : Hid (∀ p : BW wr,CallI m f g d h1' i.args RS1 W2 B R (.slice (some ⟨VA,0,none⟩) rows.length cv) (.slice (some ⟨FA,0,none⟩) rows.length cf) rows tag rn (.bool s) (.int .i64 ((j : Int) + 1)) p.w) := fun p => HST.out p HSN.out.symm
     have k1 := K1.out
     clear hld hla
     go_wp2_with fail
     refine wp_region_quiet_bw (by kernel_rfl) (by kernel_rfl) ?_
     repeat (go_big_quiet_step (fail))
     go_big_quiet_step ((go_at_call 110; exact bw_of (HLd.out _)))
     repeat (go_big_quiet_step (fail))
     go_big_quiet_step ((go_at_call 110; exact bw_of (HLa.out _)))
     repeat (go_big_quiet_step (fail))
     refine wpQuiet_nil ?_
     rintro _ ⟨p,rfl⟩
     go_wp2
     go_roundw
     case rel => exact HST2.out p
     case measure => simp [intOf]; omega
    | true =>
     rw [hla] at HLa HSN
     cases hhs : y h1' (m.nv h1') j with
     | false =>
      rw [hhs] at HHAS HSN
      have HST2 : Hid (∀ p : BW wr,CallI m f g d h1' i.args RS1 W2 B R (.slice (some ⟨VA,0,none⟩) rows.length cv) (.slice (some ⟨FA,0,none⟩) rows.length cf) rows tag rn (.bool s) (.int .i64 ((j : Int) + 1)) p.w) := fun p => HST.out p HSN.out.symm
      have k1 := K1.out
      have k4 := K4.out
      have k5 := KR3.out
      have k6 := KH.out
      clear hld hla hhs
      go_wp2_with fail
      refine wp_region_quiet_bw (by kernel_rfl) (by kernel_rfl) ?_
      repeat (go_big_quiet_step (fail))
      go_big_quiet_step ((go_at_call 110; exact bw_of (HLd.out _)))
      repeat (go_big_quiet_step (fail))
      go_big_quiet_step ((go_at_call 110; exact bw_of (HLa.out _)))
      repeat (go_big_quiet_step (fail))
      go_big_quiet_step ((go_at_call 69; exact bw_same (HHAS.out _)))
      repeat (go_big_quiet_step (fail))
      refine wpQuiet_nil ?_
      rintro _ ⟨p,rfl⟩
      go_wp2
      go_roundw
      case rel => exact HST2.out p
      case measure => simp [intOf]; omega
     | true =>
      rw [hhs] at HHAS
      have HJO2 : Hid (∀ p : BW wr,Calls Try.prog 111 #[.slice (some ⟨bd,0,none⟩) q q,.slice (some ⟨ba,0,none⟩) q q] p.w fun e w6 => ∃ nb,e = .returned (.bool nb) ∧ CallI m f g d h1' i.args RS1 W2 B R (.slice (some ⟨VA,0,none⟩) rows.length cv) (.slice (some ⟨FA,0,none⟩) rows.length cf) rows tag rn (.bool (nb || s)) (.int .i64 ((j : Int) + 1)) w6) := fun p => HJO.out p hld hla hhs
      have k1 := K1.out
      have k4 := K4.out
      have k5 := KR3.out
      have k6 := KH.out
      have k7 := KR2.out
      have k8 := KV.out
      have k9 := KD.out
      have k10 := KA.out
      clear hld hla hhs
      go_wp2_with fail
      refine wp_region_quiet_bw (by kernel_rfl) (by kernel_rfl) ?_
      repeat (go_big_quiet_step (fail))
      go_big_quiet_step ((go_at_call 110; exact bw_of (HLd.out _)))
      repeat (go_big_quiet_step (fail))
      go_big_quiet_step ((go_at_call 110; exact bw_of (HLa.out _)))
      repeat (go_big_quiet_step (fail))
      go_big_quiet_step ((go_at_call 69; exact bw_same (HHAS.out _)))
      repeat (go_big_quiet_step (fail))
      refine wpQuiet_nil ?_
      rintro _ ⟨p,rfl⟩
      go_wp2_with fail
      refine wp_region_phase 21 4 rfl (by kernel_rfl) (by kernel_rfl) (by kernel_rfl) (fun w' => ∃ p : BW wr,w' = p.w) (HC1.out p) ?_
      dsimp only [List.take]
      repeat (go_big_quiet_step (fail))
      refine wpQuiet_nil ?_
      rintro _ ⟨p2,rfl⟩
      refine wpOp_step rfl fun K' hK => ?_
      rw [if_pos (by rfl)]
      go_simp
      go_at_call 111
      refine (HJO2.out p2).mono ?_
      rintro e w6 ⟨nb,rfl,hins⟩
      have HINS := Lib.hid hins
      clear hins
      refine hK _ _ ?_
      clear hK
      try go_simp
      refine wpAny_end 22 rfl (by kernel_rfl) (by kernel_rfl) (· = w6) rfl ?_
      dsimp only [List.drop]
      cases nb with
      | true =>
       repeat (go_big_quiet_step (fail))
       refine wpQuiet_nil ?_
       rintro _ rfl
       go_wp2
       go_roundw
       case rel => exact HINS.out
       case measure => simp [intOf]; omega
      | false =>
       repeat (go_big_quiet_step (fail))
       refine wpQuiet_nil ?_
       rintro _ rfl
       go_wp2
       go_roundw
       case rel => exact HINS.out
       case measure => simp [intOf]; omega
  ·have hfin : RS1 = ⟨y,s⟩ := by
    rw [← hcr,List.drop_eq_nil_of_le (by omega)]; rfl
   have HFIN : Hid (InsP w m B R (.slice (some ⟨VA,0,none⟩) rows.length cv) (.slice (some ⟨FA,0,none⟩) rows.length cf) rows tag rn RS1 (.returned (.bool s)) wr) := by
    unfold Hid; rw [hfin]
    exact ⟨rfl,hgm,(Ext.of_below_size (M := fun k => ∃ f u,tag k = (4,f,u)) HB2.out).trans hx (fun k hk => .inl hk)⟩
   clear hcr hgm hx hfin
   go_wp2
   go_ret
   exact HFIN.out
set_option maxRecDepth 100000 in
set_option maxHeartbeats 8000000 in
theorem instr_none (w : World) (m : Mo) (B R : Nat) (vv fv : Value) (rows : List FR) (x : Nat → Nat → Nat → Bool) (tag : Tag) (rn : Int) (h : RgM w m B R vv fv rows x tag rn) (hok : OkR m) (f : Nat) (g : Fn) (hg : m.fs[f]? = some g) (i : Ins) (hi : i ∈ g.c.ins)  (h9 : i.op ≠ 9) (h10 : i.op ≠ 10) (h15 : i.op ≠ 15) (h18 : i.op ≠ 18) :
  Calls Try.prog 91 #[.pointer (some ⟨R,0,none⟩),.int .i64 (f : Int),.agg i.cells] w (InsP w m B R vv fv rows tag rn (insR m.nv f g i ⟨x,false⟩)) := by
 obtain ⟨r,hr,hP,hL⟩ := h.row hg
 have hgm : g ∈ m.fs := List.mem_of_getElem? hg
 obtain ⟨p0,p1,p2,p3⟩ := hok.fn g hgm
 have hfn : f < m.fs.length := (List.getElem?_eq_some_iff.1 hg).1
 have hfI : (f : Int) < (m.fs.length : Int) := by omega
 have hfr : f < rows.length := by rw [h.n]; exact hfn
 have hfrI : (f : Int) < (rows.length : Int) := by omega
 have hn60 := hok.nf
 have hrn := h.n
 have hin := h.inn
 have hgi := hin.fin g hgm
 obtain ⟨⟨⟨a1,c1,e1⟩,a2,n2,c2,e2⟩,a3,c3,e3,har⟩ := hgi.code.args i hi
 have hone : i.cells.all (·.oneCell') = true := insOne ⟨by rw [e1]; rfl,by rw [e2]; rfl⟩
 have HONE := Lib.hid hone
 obtain ⟨fb,fo,hfA,hfb,hfc⟩ := hin.frow (by intro e; rw [e] at hfn; simp at hfn)
 obtain ⟨VA,FA,cv,cf,hvv,hfv,hVA,hFA,kv,kf⟩ := h.tab.fn hr
 rw [hvv,hfv] at h
 subst hvv hfv
 have hRl : R < w.heap.size := (Array.getElem?_eq_some_iff.1 h.rec_).1
 have hrc := h.rec_
 rw [hfA] at hrc
 have HCA : Hid (∀ k u,g.cells.toList[k]? = some u → w.cell? ((⟨fb,fo + f * 8,none⟩ : Addr).add k) = some u) := fun k u hu => by rw [Addr.add_lit]; exact hfc f g hg k u hu
 obtain ⟨N,hN⟩ : ∃ N,w.heap.size = N := ⟨_,rfl⟩
 obtain ⟨Wi,hWi⟩ : ∃ Wi,w.alloc (.cells i.cells 62) = Wi := ⟨_,rfl⟩
 have hbi : Below w.heap.size w Wi := by rw [← hWi]; exact (Below.refl _ _).alloc (Nat.le_refl _) _
 have hsi : Wi.heap.size = N + 1 := by rw [← hWi]; simp [hN]
 have hri : Wi.heap[N]? = some (.cells i.cells 62 (0,0)) := by rw [← hWi,← hN]; exact alloc_at _ _
 have r1 : Wi.cell? ⟨R,1,none⟩ = some (.slice (some ⟨fb,fo,none⟩) m.fs.length m.fC) := by rw [hbi.cell (p := ⟨R,1,none⟩) hRl,cell_of_row _ _ _ _ _ _ hrc]; rfl
 have HCI : Hid (∀ k u,g.cells.toList[k]? = some u → Wi.cell? ((⟨fb,fo + f * 8,none⟩ : Addr).add k) = some u) := fun k u hu => by
  have h1 := HCA.out k u hu
  rw [Addr.add_lit] at h1 ⊢
  rw [hbi.cell (p := ⟨fb,fo + f * 8 + k,none⟩) hfb]; exact h1
 have hst : ∀ c : Array Value,c.size = 8 → (storeCells ⟨Wi.heap.size,0,none⟩ g.cells.toList).run Try.prog (Wi.alloc (.cells c 50)) = .ok () (Wi.alloc (.cells g.cells 50)) := fun c hc =>
  run_storeCells_new (P := Try.prog) Wi 50 c g.cells (by show _ = some 8; kernel_rfl) hc (fnOne g)
 obtain ⟨W2,hW2⟩ : ∃ W2,Wi.alloc (.cells g.cells 50) = W2 := ⟨_,rfl⟩
 rw [hW2,hsi] at hst
 have hb2 : Below w.heap.size w W2 := by rw [← hW2]; exact hbi.alloc (by omega) _
 have hs2 : W2.heap.size = N + 1 + 1 := by rw [← hW2]; simp [hsi]
 have hr0 : W2.heap[N]? = some (.cells i.cells 62 (0,0)) := by rw [← hW2,Below.heap_alloc _ _ _ (by omega)]; exact hri
 have hr1 : W2.heap[N + 1]? = some (.cells g.cells 50 (0,0)) := by rw [← hW2,← hsi]; exact alloc_at _ _
 have h2 := h.below hb2
 have HG2 := Lib.hid h2
 have HLC : Hid (∀ W v,Below W2.heap.size W2 W → isVar g.vs.length v = true → Calls Try.prog 110 #[.int .i64 v,.pointer (some ⟨N + 1,0,none⟩)] W fun e w' => e = .returned (.bool (g.lentAt v)) ∧ Below W.heap.size W w') := by
  intro W v hW hv
  have h3 := ((h2.inn).fin g hgm).below hW
  exact lent1_calls W g (N + 1) v ((hW.block _ (by omega)).trans hr1) h3.vars h3.nvars p2 hv
 have HB2 := Lib.hid hb2
 have HWi := Lib.hid hWi
 have HS2 := Lib.hid hs2
 have HN := Lib.hid hN
 have HR0 := Lib.hid hr0
 have HR1 := Lib.hid hr1
 have HROW := Lib.hid hr
 have HP := Lib.hid hP
 have HL2 := Lib.hid hL
 have HGG := Lib.hid hg
 have HRN := Lib.hid hrn
 have HRS : Hid (insR m.nv f g i ⟨x,false⟩ = ⟨x,false⟩) := by
  unfold Hid insR; rw [if_neg (by omega),if_neg h15,if_neg h18]
 rw [HRS.out]
 have HFIN : Hid (InsP w m B R (.slice (some ⟨VA,0,none⟩) rows.length cv) (.slice (some ⟨FA,0,none⟩) rows.length cf) rows tag rn ⟨x,false⟩ (.returned (.bool false)) W2) := ⟨rfl,HG2.out,Ext.of_below_size HB2.out⟩
 have i0 : W2.cell? ⟨N,0,none⟩ = some (.int .i64 i.op) := by rw [cell_of_row _ _ _ _ _ _ hr0]; rfl
 have e9 : (i.op == 9) = false := by rw [beq_eq_false_iff_ne]; exact h9
 have e10 : (i.op == 10) = false := by rw [beq_eq_false_iff_ne]; exact h10
 have e15 : (i.op == 15) = false := by rw [beq_eq_false_iff_ne]; exact h15
 have e18 : (i.op == 18) = false := by rw [beq_eq_false_iff_ne]; exact h18
 have hN2 : N < W2.heap.size := by omega
 clear h h2 hin hgi hfc hrc kv kf hg hgm hi e1 e2 e3 har hone hb2 hbi hri hr0 hr1 hW2 hr hP hL hWi hs2 hok HCA p0 p1 hfA hRl hrn h9 h10 h15 h18
 (go_enter Try.func91,Try.ntmps91; go_upto_region 1 with (fail); rw [HWi.out]; go_upto_region 3 with (first | (refine wpList_load_at rfl 50 _ rfl ⟨fb,fo + f * 8,none⟩ rfl g.cells _ HCI.out Try.underlying50 rfl (by kernel_rfl) ?_)))
 go_wp2
 go_ret
 exact HFIN.out
theorem rinstr_calls (w : World) (m : Mo) (B R : Nat) (vv fv : Value) (rows : List FR) (x : Nat → Nat → Nat → Bool) (tag : Tag) (rn : Int) (h : RgM w m B R vv fv rows x tag rn) (hok : OkR m) (f : Nat) (g : Fn) (hg : m.fs[f]? = some g) (i : Ins) (hi : i ∈ g.c.ins) :
  Calls Try.prog 91 #[.pointer (some ⟨R,0,none⟩),.int .i64 (f : Int),.agg i.cells] w (InsP w m B R vv fv rows tag rn (insR m.nv f g i ⟨x,false⟩)) := by
 by_cases h9 : i.op = 9
 ·exact instr_mv w m B R vv fv rows x tag rn h hok f g hg i hi (.inl h9)
 by_cases h10 : i.op = 10
 ·exact instr_mv w m B R vv fv rows x tag rn h hok f g hg i hi (.inr h10)
 by_cases h15 : i.op = 15
 ·exact instr_call w m B R vv fv rows x tag rn h hok f g hg i hi h15
 by_cases h18 : i.op = 18
 ·exact instr_ret w m B R vv fv rows x tag rn h hok f g hg i hi h18
 exact instr_none w m B R vv fv rows x tag rn h hok f g hg i hi h9 h10 h15 h18
end Go.Proofs.Ytlggjbopfnndbaa
