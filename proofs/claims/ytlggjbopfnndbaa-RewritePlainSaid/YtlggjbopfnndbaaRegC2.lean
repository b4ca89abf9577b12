/- What an instruction that returns asks of origins. -/
import Derived.Test.YtlggjbopfnndbaaRegC
import Derived.Test.YtlggjbopfnndbaaG27
namespace Go.Proofs.Ytlggjbopfnndbaa
open Go.RowKit
set_option maxRecDepth 100000 in
set_option maxHeartbeats 8000000 in
theorem instr_ret (w : World) (m : Mo) (B R : Nat) (vv fv : Value) (rows : List FR) (x : Nat → Nat → Nat → Bool) (tag : Tag) (rn : Int) (h : RgM w m B R vv fv rows x tag rn) (hok : OkR m) (f : Nat) (g : Fn) (hg : m.fs[f]? = some g) (i : Ins) (hi : i ∈ g.c.ins)  (hop : i.op = 18) :
  Calls Try.prog 91 #[.pointer (some ⟨R,0,none⟩),.int .i64 (f : Int),.agg i.cells] w (InsP w m B R vv fv rows tag rn (insR m.nv f g i ⟨x,false⟩)) := by
 obtain ⟨r,hr,hP,hL⟩ := h.row hg
 have hgm : g ∈ m.fs := List.mem_of_getElem? hg
 obtain ⟨p0,p1,p2,p3⟩ := hok.fn g hgm
 have hfn : f < m.fs.length := (List.getElem?_eq_some_iff.1 hg).1
 have hfI : (f : Int) < (m.fs.length : Int) := by omega
 have hfr : f < rows.length := by rw [h.n]; exact hfn
 have hfrI : (f : Int) < (rows.length : Int) := by omega
 have hn60 := hok.nf
 have hrn := h.n
 have hin := h.inn
 have hgi := hin.fin g hgm
 obtain ⟨⟨⟨a1,c1,e1⟩,a2,n2,c2,e2⟩,a3,c3,e3,har⟩ := hgi.code.args i hi
 have hone : i.cells.all (·.oneCell') = true := insOne ⟨by rw [e1]; rfl,by rw [e2]; rfl⟩
 have HONE := Lib.hid hone
 obtain ⟨fb,fo,hfA,hfb,hfc⟩ := hin.frow (by intro e; rw [e] at hfn; simp at hfn)
 obtain ⟨VA,FA,cv,cf,hvv,hfv,hVA,hFA,kv,kf⟩ := h.tab.fn hr
 rw [hvv,hfv] at h
 subst hvv hfv
 have hRl : R < w.heap.size := (Array.getElem?_eq_some_iff.1 h.rec_).1
 have hrc := h.rec_
 rw [hfA] at hrc
 have HCA : Hid (∀ k u,g.cells.toList[k]? = some u → w.cell? ((⟨fb,fo + f * 8,none⟩ : Addr).add k) = some u) := fun k u hu => by rw [Addr.add_lit]; exact hfc f g hg k u hu
 obtain ⟨N,hN⟩ : ∃ N,w.heap.size = N := ⟨_,rfl⟩
 obtain ⟨Wi,hWi⟩ : ∃ Wi,w.alloc (.cells i.cells 62) = Wi := ⟨_,rfl⟩
 have hbi : Below w.heap.size w Wi := by rw [← hWi]; exact (Below.refl _ _).alloc (Nat.le_refl _) _
 have hsi : Wi.heap.size = N + 1 := by rw [← hWi]; simp [hN]
 have hri : Wi.heap[N]? = some (.cells i.cells 62 (0,0)) := by rw [← hWi,← hN]; exact alloc_at _ _
 have r1 : Wi.cell? ⟨R,1,none⟩ = some (.slice (some ⟨fb,fo,none⟩) m.fs.length m.fC) := by rw [hbi.cell (p := ⟨R,1,none⟩) hRl,cell_of_row _ _ _ _ _ _ hrc]; rfl
 have HCI : Hid (∀ k u,g.cells.toList[k]? = some u → Wi.cell? ((⟨fb,fo + f * 8,none⟩ : Addr).add k) = some u) := fun k u hu => by
  have h1 := HCA.out k u hu
  rw [Addr.add_lit] at h1 ⊢
  rw [hbi.cell (p := ⟨fb,fo + f * 8 + k,none⟩) hfb]; exact h1
 have hst : ∀ c : Array Value,c.size = 8 → (storeCells ⟨Wi.heap.size,0,none⟩ g.cells.toList).run Try.prog (Wi.alloc (.cells c 50)) = .ok () (Wi.alloc (.cells g.cells 50)) := fun c hc =>
  run_storeCells_new (P := Try.prog) Wi 50 c g.cells (by show _ = some 8; kernel_rfl) hc (fnOne g)
 obtain ⟨W2,hW2⟩ : ∃ W2,Wi.alloc (.cells g.cells 50) = W2 := ⟨_,rfl⟩
 rw [hW2,hsi] at hst
 have hb2 : Below w.heap.size w W2 := by rw [← hW2]; exact hbi.alloc (by omega) _
 have hs2 : W2.heap.size = N + 1 + 1 := by rw [← hW2]; simp [hsi]
 have hr0 : W2.heap[N]? = some (.cells i.cells 62 (0,0)) := by rw [← hW2,Below.heap_alloc _ _ _ (by omega)]; exact hri
 have hr1 : W2.heap[N + 1]? = some (.cells g.cells 50 (0,0)) := by rw [← hW2,← hsi]; exact alloc_at _ _
 have h2 := h.below hb2
 have HG2 := Lib.hid h2
 have HLC : Hid (∀ W v,Below W2.heap.size W2 W → isVar g.vs.length v = true → Calls Try.prog 110 #[.int .i64 v,.pointer (some ⟨N + 1,0,none⟩)] W fun e w' => e = .returned (.bool (g.lentAt v)) ∧ Below W.heap.size W w') := by
  intro W v hW hv
  have h3 := ((h2.inn).fin g hgm).below hW
  exact lent1_calls W g (N + 1) v ((hW.block _ (by omega)).trans hr1) h3.vars h3.nvars p2 hv
 have HB2 := Lib.hid hb2
 have HWi := Lib.hid hWi
 have HS2 := Lib.hid hs2
 have HN := Lib.hid hN
 have HR0 := Lib.hid hr0
 have HR1 := Lib.hid hr1
 have HROW := Lib.hid hr
 have HP := Lib.hid hP
 have HL2 := Lib.hid hL
 have HGG := Lib.hid hg
 have HRN := Lib.hid hrn
 have hva := hok.ret g hgm i hi hop
 obtain ⟨RS1,hRS⟩ : ∃ s,insR m.nv f g i ⟨x,false⟩ = s := ⟨_,rfl⟩
 have HE : Hid (RS1 = if (g.lentRet && g.lentAt i.a) = true then RS.join g.c.par.toNat ⟨x,false⟩ f g.vs.length i.a.toNat else ⟨x,false⟩) := by
  unfold Hid; rw [← hRS]; unfold insR; rw [if_neg (by rw [hop]; decide),if_neg (by rw [hop]; decide),if_pos hop]
 rw [hRS]
 clear hRS
 obtain ⟨a,ha⟩ : ∃ a : Nat,i.a = (a : Int) := ⟨i.a.toNat,by have := isVarR_iff.1 hva; omega⟩
 rw [ha] at hva
 rw [ha,Int.toNat_natCast] at HE
 have hal : a < g.vs.length := by have := (isVarR_iff.1 hva).2; omega
 obtain ⟨T,ct,htv,hT,ka⟩ := h2.tab.var hr (u := a) (by omega)
 have kv2 : W2.cell? ⟨VA,f,none⟩ = some r.tv := by rw [hb2.cell (p := ⟨VA,f,none⟩) hVA]; exact kv
 have kf2 : W2.cell? ⟨FA,f,none⟩ = some (bitsLeaf.enc (r.at_ r.locs.length) r.P) := by rw [hb2.cell (p := ⟨FA,f,none⟩) hFA]; exact kf
 rw [htv,hL] at kv2
 have kr2 : W2.cell? ⟨R,2,none⟩ = some (.slice (some ⟨VA,0,none⟩) rows.length cv) := by rw [hb2.cell (p := ⟨R,2,none⟩) hRl,cell_of_row _ _ _ _ _ _ hrc]; rfl
 have kr3 : W2.cell? ⟨R,3,none⟩ = some (.slice (some ⟨FA,0,none⟩) rows.length cf) := by rw [hb2.cell (p := ⟨R,3,none⟩) hRl,cell_of_row _ _ _ _ _ _ hrc]; rfl
 have i2 : W2.cell? ⟨N,2,none⟩ = some (.int .i64 (a : Int)) := by rw [cell_of_row _ _ _ _ _ _ hr0,← ha]; rfl
 have n3 : W2.cell? ⟨N + 1,3,none⟩ = some (.bool g.c.rp) := by rw [cell_of_row _ _ _ _ _ _ hr1]; rfl
 have n4 : W2.cell? ⟨N + 1,4,none⟩ = some (.string g.c.rto) := by rw [cell_of_row _ _ _ _ _ _ hr1]; rfl
 have n5 : W2.cell? ⟨N + 1,5,none⟩ = some (.int .i64 g.c.rcl) := by rw [cell_of_row _ _ _ _ _ _ hr1]; rfl
 have hleafd := (h2.tab.leaf hr (u := r.locs.length) (by omega))
 have hleafa := (h2.tab.leaf hr (u := a) (by omega))
 obtain ⟨bd,hbd⟩ : ∃ b,r.at_ r.locs.length = b := ⟨_,rfl⟩
 obtain ⟨ba,hba⟩ : ∃ b,r.at_ a = b := ⟨_,rfl⟩
 obtain ⟨P,hPP⟩ : ∃ P,r.P = P := ⟨_,rfl⟩
 have hJ : g.lentRet = true → g.lentAt (a : Int) = true → ∀ W5,Below W2.heap.size W2 W5 → Calls Try.prog 111 #[bitsLeaf.enc bd P,bitsLeaf.enc ba P] W5 fun e w6 => e = .returned (.bool (newB P (x f g.vs.length) (x f a))) ∧ InsP w m B R (.slice (some ⟨VA,0,none⟩) rows.length cv) (.slice (some ⟨FA,0,none⟩) rows.length cf) rows tag rn RS1 (.returned (.bool (newB P (x f g.vs.length) (x f a)))) w6 := by
  intro hld hla W5 h5
  have h5' := HG2.out.below h5
  have hd5 := (h5'.tab.leaf HROW.out (u := r.locs.length) (Nat.le_refl _)).1
  have ha5 := (h5'.tab.leaf HROW.out (u := a) (by rw [HL2.out]; omega)).1
  rw [hbd,hPP,HL2.out] at hd5
  rw [hba,hPP] at ha5
  refine (join_calls W5 bd ba P _ _ hd5 ha5 (by rw [← hPP,HP.out]; omega)).mono fun e w6 hj => ?_
  obtain ⟨e1,j1,j2⟩ := hj
  subst e1
  refine ⟨rfl,?_⟩
  rw [HE.out,hld,hla,if_pos (by rfl)]
  refine ⟨?_,h5'.set HROW.out (Nat.le_refl _) (by rw [hbd]; exact j2) ?_ ?_,?_⟩
  ·rw [← hPP,HP.out]; unfold RS.join newR newB; simp
  ·show bitsLeaf.ok w6 (r.at_ r.locs.length) r.P (orR x f g.vs.length a f r.locs.length)
   rw [hbd,hPP]
   refine bitsLeaf.congr j1 fun n _ => ?_
   unfold orR; rw [if_pos ⟨rfl,HL2.out⟩]
  ·intro g' v hne n
   show orR x f g.vs.length a g' v n = x g' v n
   rw [HL2.out] at hne
   unfold orR; rw [if_neg hne]
  ·refine ((Ext.of_below_size (M := fun k => ∃ f u,tag k = (4,f,u)) (HB2.out.trans (h5.mono HB2.out.size))).trans j2 fun k hk => .inl ⟨f,r.locs.length,?_⟩)
   rw [hk,← hbd]; exact hleafd.2
 have HNO : Hid (∀ W5,Below W2.heap.size W2 W5 → (g.lentRet && g.lentAt (a : Int)) = false → InsP w m B R (.slice (some ⟨VA,0,none⟩) rows.length cv) (.slice (some ⟨FA,0,none⟩) rows.length cf) rows tag rn RS1 (.returned (.bool false)) W5) := by
  intro W5 h5 hl
  rw [HE.out,hl,if_neg (by simp)]
  exact ⟨rfl,HG2.out.below h5,Ext.of_below_size (HB2.out.trans (h5.mono HB2.out.size))⟩
 rw [hbd,hPP] at kf2
 rw [hba,hPP] at ka
 have HJ := Lib.hid hJ
 obtain ⟨q,hq⟩ : ∃ q,(P + 63) / 64 = q := ⟨_,rfl⟩
 have kf3 : W2.cell? ⟨FA,f,none⟩ = some (.slice (some ⟨bd,0,none⟩) q q) := by rw [kf2,← hq]; rfl
 have ka3 : W2.cell? ⟨T,a,none⟩ = some (.slice (some ⟨ba,0,none⟩) q q) := by rw [ka,← hq]; rfl
 have HENC : Hid (∀ b,bitsLeaf.enc b P = .slice (some ⟨b,0,none⟩) q q) := fun b => by rw [← hq]; rfl
 have haI : (a : Int) < (g.vs.length : Int) := by omega
 have i0 : W2.cell? ⟨N,0,none⟩ = some (.int .i64 18) := by rw [cell_of_row _ _ _ _ _ _ hr0,← hop]; rfl
 have hN2 : N < W2.heap.size := by omega
 have hf0 : (0 : Int) ≤ (f : Int) := by omega
 have hpb : q ≤ 90000 := by rw [← hq,← hPP,hP]; omega
 have hRl2 : R < W2.heap.size := by omega
 have hVA2 : VA < W2.heap.size := by omega
 have hFA2 : FA < W2.heap.size := by omega
 have HS : Hid (∀ p : BW W2,p.w.cell? ⟨R,2,none⟩ = some (.slice (some ⟨VA,0,none⟩) rows.length cv) ∧ p.w.cell? ⟨R,3,none⟩ = some (.slice (some ⟨FA,0,none⟩) rows.length cf) ∧ p.w.cell? ⟨VA,f,none⟩ = some (.slice (some ⟨T,0,none⟩) g.vs.length ct) ∧ p.w.cell? ⟨FA,f,none⟩ = some (.slice (some ⟨bd,0,none⟩) q q) ∧ p.w.cell? ⟨T,a,none⟩ = some (.slice (some ⟨ba,0,none⟩) q q) ∧ p.w.cell? ⟨N,2,none⟩ = some (.int .i64 (a : Int)) ∧ p.w.cell? ⟨N + 1,3,none⟩ = some (.bool g.c.rp) ∧ p.w.cell? ⟨N + 1,4,none⟩ = some (.string g.c.rto) ∧ p.w.cell? ⟨N + 1,5,none⟩ = some (.int .i64 g.c.rcl)) := fun p => by
  have h := p.h
  refine ⟨?_,?_,?_,?_,?_,?_,?_,?_,?_⟩
  ·rw [h.cell (p := ⟨R,2,none⟩) hRl2]; exact kr2
  ·rw [h.cell (p := ⟨R,3,none⟩) hRl2]; exact kr3
  ·rw [h.cell (p := ⟨VA,f,none⟩) hVA2]; exact kv2
  ·rw [h.cell (p := ⟨FA,f,none⟩) hFA2]; exact kf3
  ·rw [h.cell (p := ⟨T,a,none⟩) hT]; exact ka3
  ·rw [h.cell (p := ⟨N,2,none⟩) hN2]; exact i2
  ·rw [h.cell (p := ⟨N + 1,3,none⟩) (by show N + 1 < _; omega)]; exact n3
  ·rw [h.cell (p := ⟨N + 1,4,none⟩) (by show N + 1 < _; omega)]; exact n4
  ·rw [h.cell (p := ⟨N + 1,5,none⟩) (by show N + 1 < _; omega)]; exact n5
 have HVA2 := Lib.hid hva
 have HLR : Hid (∀ p : BW W2,Calls Try.prog 29 #[.agg #[.bool g.c.rp,.string g.c.rto,.int .i64 g.c.rcl]] p.w fun e w' => e = .returned (.bool g.lentRet) ∧ Below p.w.heap.size p.w w') := fun p => lent19_calls ⟨g.c.rp,g.c.rto,g.c.rcl⟩ p.w
 have HC0 : Hid (∃ p : BW W2,W2.drew = p.w) := ⟨⟨W2.drew,(Below.refl _ _).drew⟩,rfl⟩
 clear h h2 hin hgi hfc hrc hleafd hleafa hbd hba hPP ka ka3 kf2 kf3 kr2 kr3 kv2 i2 n3 n4 n5 htv kv kf hg hgm hi e1 e2 e3 har hone hb2 hbi hri hr0 hr1 hW2 hr hP hL hva hWi hs2 hok HCA p0 p1 hfA hRl hrn hop hJ hq
 obtain ⟨r12,hr12⟩ : ∃ r12 : (∀ p : BW W2,p.w.cell? ⟨N + 1,3,none⟩ = some (.bool g.c.rp)) ∧ (∀ p : BW W2,p.w.cell? ⟨N + 1,4,none⟩ = some (.string g.c.rto)) ∧ (∀ p : BW W2,p.w.cell? ⟨N + 1,5,none⟩ = some (.int .i64 g.c.rcl)),True := ⟨⟨fun p => (HS.out p).2.2.2.2.2.2.1,fun p => (HS.out p).2.2.2.2.2.2.2.1,fun p => (HS.out p).2.2.2.2.2.2.2.2⟩,trivial⟩
 obtain ⟨m3,m4,m5⟩ := r12
 clear hr12
 cases hld : g.lentRet with
 | false =>
  rw [hld] at HLR
  have HNO2 : Hid (∀ p : BW W2,InsP w m B R (.slice (some ⟨VA,0,none⟩) rows.length cv) (.slice (some ⟨FA,0,none⟩) rows.length cf) rows tag rn RS1 (.returned (.bool false)) p.w) := fun p => HNO.out p.w p.h (by rw [hld]; rfl)
  clear hld
  (go_enter Try.func91,Try.ntmps91; go_upto_region 1 with (fail); rw [HWi.out]; go_upto_region 15 with (first | (refine wpList_load_at rfl 50 _ rfl ⟨fb,fo + f * 8,none⟩ rfl g.cells _ HCI.out Try.underlying50 rfl (by kernel_rfl) ?_)))
  refine wp_region_quiet_bw (by kernel_rfl) (by kernel_rfl) ?_
  repeat (go_big_quiet_step (first
   | (go_at_call 29; exact bw_of (HLR.out _))))
  refine wpQuiet_nil ?_
  rintro _ ⟨p,rfl⟩
  go_wp2
  go_ret
  exact HNO2.out p
 | true =>
  rw [hld] at HLR
  have k2 : ∀ p : BW W2,p.w.cell? ⟨N,2,none⟩ = some (.int .i64 (a : Int)) := fun p => (HS.out p).2.2.2.2.2.1
  cases hla : g.lentAt (a : Int) with
  | false =>
   have HLa : Hid (∀ p : BW W2,Calls Try.prog 110 #[.int .i64 (a : Int),.pointer (some ⟨N + 1,0,none⟩)] p.w fun e w' => e = .returned (.bool false) ∧ Below p.w.heap.size p.w w') := fun p => by
    have := HLC.out p.w (a : Int) p.h HVA2.out
    rw [hla] at this; exact this
   have HNO2 : Hid (∀ p : BW W2,InsP w m B R (.slice (some ⟨VA,0,none⟩) rows.length cv) (.slice (some ⟨FA,0,none⟩) rows.length cf) rows tag rn RS1 (.returned (.bool false)) p.w) := fun p => HNO.out p.w p.h (by rw [hld,hla]; rfl)
   clear hld hla
   (go_enter Try.func91,Try.ntmps91; go_upto_region 1 with (fail); rw [HWi.out]; go_upto_region 15 with (first | (refine wpList_load_at rfl 50 _ rfl ⟨fb,fo + f * 8,none⟩ rfl g.cells _ HCI.out Try.underlying50 rfl (by kernel_rfl) ?_)))
   refine wp_region_quiet_bw (by kernel_rfl) (by kernel_rfl) ?_
   repeat (go_big_quiet_step (first
    | (go_at_call 29; exact bw_of (HLR.out _))
    | (go_at_call 110; exact bw_of (HLa.out _))))
   refine wpQuiet_nil ?_
   rintro _ ⟨p,rfl⟩
   go_wp2
   go_ret
   exact HNO2.out p
  | true =>
   have HLa : Hid (∀ p : BW W2,Calls Try.prog 110 #[.int .i64 (a : Int),.pointer (some ⟨N + 1,0,none⟩)] p.w fun e w' => e = .returned (.bool true) ∧ Below p.w.heap.size p.w w') := fun p => by
    have := HLC.out p.w (a : Int) p.h HVA2.out
    rw [hla] at this; exact this
   obtain ⟨NB,hNB⟩ : ∃ NB,newB P (x f g.vs.length) (x f a) = NB := ⟨_,rfl⟩
   have HJO2 : Hid (∀ p : BW W2,Calls Try.prog 111 #[.slice (some ⟨bd,0,none⟩) q q,.slice (some ⟨ba,0,none⟩) q q] p.w fun e w6 => e = .returned (.bool NB) ∧ InsP w m B R (.slice (some ⟨VA,0,none⟩) rows.length cv) (.slice (some ⟨FA,0,none⟩) rows.length cf) rows tag rn RS1 (.returned (.bool NB)) w6) := fun p => by
    have := HJ.out hld hla p.w p.h
    rw [hNB,HENC.out,HENC.out] at this
    exact this
   have k3 : ∀ p : BW W2,p.w.cell? ⟨R,2,none⟩ = some (.slice (some ⟨VA,0,none⟩) rows.length cv) := fun p => (HS.out p).1
   have k4 : ∀ p : BW W2,p.w.cell? ⟨R,3,none⟩ = some (.slice (some ⟨FA,0,none⟩) rows.length cf) := fun p => (HS.out p).2.1
   have k5 : ∀ p : BW W2,p.w.cell? ⟨VA,f,none⟩ = some (.slice (some ⟨T,0,none⟩) g.vs.length ct) := fun p => (HS.out p).2.2.1
   have k6 : ∀ p : BW W2,p.w.cell? ⟨FA,f,none⟩ = some (.slice (some ⟨bd,0,none⟩) q q) := fun p => (HS.out p).2.2.2.1
   have k7 : ∀ p : BW W2,p.w.cell? ⟨T,a,none⟩ = some (.slice (some ⟨ba,0,none⟩) q q) := fun p => (HS.out p).2.2.2.2.1
   clear hNB hld hla
   (go_enter Try.func91,Try.ntmps91; go_upto_region 1 with (fail); rw [HWi.out]; go_upto_region 15 with (first | (refine wpList_load_at rfl 50 _ rfl ⟨fb,fo + f * 8,none⟩ rfl g.cells _ HCI.out Try.underlying50 rfl (by kernel_rfl) ?_)))
   refine wp_region_phase 28 2 rfl (by kernel_rfl) (by kernel_rfl) (by kernel_rfl) (fun w' => ∃ p : BW W2,w' = p.w) HC0.out ?_
   dsimp only [List.take]
   repeat (go_big_quiet_step (first
    | (go_at_call 29; exact bw_of (HLR.out _))
    | (go_at_call 110; exact bw_of (HLa.out _))))
   refine wpQuiet_nil ?_
   rintro _ ⟨p,rfl⟩
   refine wpOp_step rfl fun K' hK => ?_
   rw [if_pos (by rfl)]
   go_simp
   go_at_call 111
   refine (HJO2.out p).mono ?_
   rintro e w6 ⟨rfl,hins⟩
   have HINS := Lib.hid hins
   clear hins
   refine hK _ _ ?_
   clear hK
   try go_simp
   refine wpAny_end 29 rfl (by kernel_rfl) (by kernel_rfl) (· = w6) rfl ?_
   dsimp only [List.drop]
   repeat (go_big_quiet_step (fail))
   refine wpQuiet_nil ?_
   rintro _ rfl
   go_wp2
   go_ret
   exact HINS.out
end Go.Proofs.Ytlggjbopfnndbaa
