import Derived.Test.YtlggjbopfnndbaaG62
import Derived.Test.YtlggjbopfnndbaaG25
import Derived.Test.YtlggjbopfnndbaaG52
namespace Go.Proofs.Ytlggjbopfnndbaa
open Go.RowKit
set_option maxRecDepth 100000 in
set_option maxHeartbeats 8000000 in
theorem rq_mv (w : World) (m : Mo) (B R : Nat) (vv fv : Value) (rows : List FR) (x : Nat → Nat → Nat → Bool) (tag : Tag) (rn : Int) (h : RqM w m B R vv fv rows x tag rn) (hok : OkR m) (f : Nat) (g : Fn) (hg : m.fs[f]? = some g) (i : Ins) (hi : i ∈ g.c.ins) (hop : i.op = 9 ∨ i.op = 10) :
  Calls Try.prog 92 #[.pointer (some ⟨R,0,none⟩),.agg m.cells,.int .i64 (f : Int),.agg i.cells] w (InsQ w m B R vv fv rows tag rn (insR m.nv f g i ⟨x,false⟩)) := by
 obtain ⟨r,hr,_,_⟩ := h.row hg
 have hgm : g ∈ m.fs := List.mem_of_getElem? hg
 obtain ⟨p0,p1,p2,p3⟩ := hok.fn g hgm
 have hfn : f < m.fs.length := (List.getElem?_eq_some_iff.1 hg).1
 have hfI : (f : Int) < (m.fs.length : Int) := by omega
 have hn60 := hok.nf
 have hin := h.inn
 obtain ⟨fb,fo,hfA,hfb,hfc⟩ := hin.frow (by intro e; rw [e] at hfn; simp at hfn)
 obtain ⟨P,hP⟩ : ∃ P,g.c.par.toNat = P := ⟨_,rfl⟩
 have hPI : g.c.par = (P : Int) := by omega
 obtain ⟨N,hN⟩ : ∃ N,w.heap.size = N := ⟨_,rfl⟩
 obtain ⟨Wi,hWi⟩ : ∃ W,(w.alloc (.cells m.cells 25)).alloc (.cells i.cells 62) = W := ⟨_,rfl⟩
 obtain ⟨W2,hW2⟩ : ∃ W2,Wi.alloc (.cells g.cells 50) = W2 := ⟨_,rfl⟩
 have hW2' := hW2
 rw [← hWi] at hW2'
 obtain ⟨hb2,hs2,r0,r1,r2⟩ := box3 hW2'
 have hsi : Wi.heap.size = N + 2 := by rw [← hWi]; simp [hN]
 rw [hN] at hs2 r0 r1 r2
 have hbi : Below w.heap.size w Wi := by rw [← hWi]; exact ((Below.refl _ _).alloc (Nat.le_refl _) _).alloc (by simp) _
 have c1 : Wi.cell? ⟨N,1,none⟩ = some (.slice (some ⟨fb,fo,none⟩) m.fs.length m.fC) := by
  have q : Wi.heap[N]? = some (.cells m.cells 25 (0,0)) := by rw [← hWi,← hN]; exact heap_alloc2_old _ _ _
  rw [cell_of_row _ _ _ _ _ _ q,← hfA]; rfl
 have HCI : Hid (∀ k u,g.cells.toList[k]? = some u → Wi.cell? ((⟨fb,fo + f * 8,none⟩ : Addr).add k) = some u) := fun k u hu => by
  rw [Addr.add_lit,hbi.cell (p := ⟨fb,fo + f * 8 + k,none⟩) hfb]; exact hfc f g hg k u hu
 have hst : ∀ c : Array Value,c.size = 8 → (storeCells ⟨N + 2,0,none⟩ g.cells.toList 0).run Try.prog (Wi.alloc (.cells c 50)) = .ok () W2 := fun c hc => by
  rw [← hW2,← hsi]
  exact run_storeCells_new (P := Try.prog) Wi 50 c g.cells (by show _ = some 8; kernel_rfl) hc (fnOne g)
 have HX : Hid (∀ W,Ext (fun k => ∃ f u,tag k = (4,f,u)) W2 W → W.heap[N + 1]? = some (.cells i.cells 62 (0,0)) ∧ W.heap[N + 2]? = some (.cells g.cells 50 (0,0))) := fun W hW => by
  have ht : ∀ k,N ≤ k → ¬ ∃ f u,tag k = (4,f,u) := by
   rintro k hk ⟨f',u',e⟩
   have := (h.tab.low k (by rw [e]; simp)).2
   omega
  exact ⟨hW.heap r1 (ht _ (by omega)),hW.heap r2 (ht _ (by omega))⟩
 have HQ2 : Hid (RqM W2 m B R vv fv rows x tag rn) := h.below hb2
 have HB2 := Lib.hid hb2
 have HLT : Hid (∀ (y : Vr) W,Calls Try.prog 40 #[.agg y.cells] W fun e w' => e = .returned (.bool y.lent) ∧ Below W.heap.size W w') := fun y W => rlent19_calls y W
 have HVS : Hid (g.vs ≠ [] → ∃ vb vo,g.c.varsA = some ⟨vb,vo,none⟩ ∧ ∀ W y,RqM W m B R vv fv rows y tag rn → vb < W.heap.size ∧ ∀ (k : Nat) (v : Vr),g.vs[k]? = some v → ∀ q u,v.cells.toList[q]? = some u → W.cell? ((⟨vb,vo + k * 3,none⟩ : Addr).add q) = some u) := fun hne => by
  obtain ⟨vb,vo,hA,_,_⟩ := (hin.fin g hgm).vars hne
  refine ⟨vb,vo,hA,fun W y hq => ?_⟩
  obtain ⟨vb',vo',hA',hb',hc'⟩ := (hq.inn.fin g hgm).vars hne
  rw [hA] at hA'
  simp only [Option.some.injEq,Addr.mk.injEq,and_true] at hA'
  obtain ⟨rfl,rfl⟩ := hA'
  exact ⟨hb',fun k v hv q u hu => by rw [Addr.add_lit]; exact hc' k v hv q u hu⟩
 have hnvs := (hin.fin g hgm).nvars
 have HV2 : Hid (∀ W : World,W.heap[N + 2]? = some (.cells g.cells 50 (0,0)) → W.cell? ⟨N + 2,2,none⟩ = some (.slice g.c.varsA g.vs.length g.c.varsC)) := fun W hW => by rw [cell_of_row _ _ _ _ _ _ hW,← hnvs]; rfl
 have HG := Lib.hid hg
 have HR := Lib.hid hr
 have HOK := Lib.hid hok
 have HWi := Lib.hid hWi
 have HS2 := Lib.hid hs2
 have HHP := Lib.hid hP
 have HFIN0 : Hid (∀ W,Below W2.heap.size W2 W → insR m.nv f g i ⟨x,false⟩ = ⟨x,false⟩ → InsQ w m B R vv fv rows tag rn (insR m.nv f g i ⟨x,false⟩) (.returned (.bool false)) W) := fun W hW he => by
  rw [he]
  exact ⟨rfl,HQ2.out.below hW,Ext.of_below_size (HB2.out.trans (hW.mono HB2.out.size))⟩
 have HBW : Hid (Below w.heap.size w W2) := HB2.out
 have HWS : Hid (w.heap.size ≤ W2.heap.size) := HB2.out.size
 obtain ⟨hvd,hva⟩ := hok.mv g hgm i hi hop
 obtain ⟨h0,h1⟩ := isVar_iff.1 hvd
 obtain ⟨d,hd⟩ : ∃ k : Nat,i.d = (k : Int) := ⟨i.d.toNat,by omega⟩
 obtain ⟨h2,h3⟩ := isVar_iff.1 hva
 obtain ⟨a,ha⟩ : ∃ k : Nat,i.a = (k : Int) := ⟨i.a.toNat,by omega⟩
 have hdl : d < g.vs.length := by omega
 have hal : a < g.vs.length := by omega
 obtain ⟨yd,hyd⟩ : ∃ y,g.vs[d]? = some y := ⟨_,List.getElem?_eq_getElem hdl⟩
 obtain ⟨ya,hya⟩ : ∃ y,g.vs[a]? = some y := ⟨_,List.getElem?_eq_getElem hal⟩
 have hdI : (d : Int) < (g.vs.length : Int) := by omega
 have haI : (a : Int) < (g.vs.length : Int) := by omega
 have HE : Hid (insR m.nv f g i ⟨x,false⟩ = if (yd.lent && ya.lent) = true then RS.join g.c.par.toNat ⟨x,false⟩ f d a else ⟨x,false⟩) := by
  have e1 : g.lentAt (d : Int) = yd.lent := lentAt_get hyd
  have e2 : g.lentAt (a : Int) = ya.lent := lentAt_get hya
  unfold Hid insR; rw [if_pos hop,hd,ha,e1,e2,Int.toNat_natCast,Int.toNat_natCast]
 obtain ⟨vb,vo,hvA,hvc⟩ := HVS.out (by intro e; rw [e] at hdl; simp at hdl)
 obtain ⟨VA,FA,cv,cf,T,ct,hat⟩ := h.cells hg hr (by omega)
 have HAT : Hid (∀ W,Below W2.heap.size W2 W → RqAt W R VA FA cv cf T ct f g.vs.length P m.fs.length r.at_) := fun W hW => by rw [← hP]; exact hat W x (HQ2.out.below hW)
 have HI2 : Hid (∀ W,Below W2.heap.size W2 W → W.cell? ⟨N + 1,0,none⟩ = some (.int .i64 i.op) ∧ W.cell? ⟨N + 1,1,none⟩ = some (.int .i64 (d : Int)) ∧ W.cell? ⟨N + 1,2,none⟩ = some (.int .i64 (a : Int)) ∧ W.cell? ⟨N + 2,2,none⟩ = some (.slice (some ⟨vb,vo,none⟩) g.vs.length g.c.varsC)) := fun W hW => by
  obtain ⟨q1,q2⟩ := HX.out W (Ext.of_below_size hW)
  exact ⟨by rw [cell_of_row _ _ _ _ _ _ q1]; rfl,by rw [cell_of_row _ _ _ _ _ _ q1,← hd]; rfl,by rw [cell_of_row _ _ _ _ _ _ q1,← ha]; rfl,by rw [← hvA]; exact HV2.out W q2⟩
 have HXV : Hid (∀ W,Below W2.heap.size W2 W → ∀ (k : Nat) (v : Vr),g.vs[k]? = some v → ∀ q u,v.cells.toList[q]? = some u → W.cell? ((⟨vb,vo + k * 3,none⟩ : Addr).add q) = some u) := fun W hW => (hvc W x (HQ2.out.below hW)).2
 have HYD := Lib.hid hyd
 have HYA := Lib.hid hya
 obtain ⟨S,hS⟩ : ∃ S,insR m.nv f g i ⟨x,false⟩ = S := ⟨_,rfl⟩
 rw [hS] at HE HFIN0 ⊢
 clear hS
 clear h hok hg hr hin hfc hfA hW2 hW2' hWi hb2 hbi hs2 r0 r1 r2 hnvs hgm hi hP hvd hva h0 h1 h2 h3 hd ha hyd hya hvA hvc hat p0 p1 hPI
 rcases hop with hop | hop
 all_goals
  (go_enter Try.func92,Try.ntmps92; go_upto_region 1 with (fail); rw [HWi.out]; go_upto_region 3 with (refine wpList_load_at rfl 50 _ rfl ⟨fb,fo + f * 8,none⟩ rfl g.cells _ HCI.out Try.underlying50 rfl (by kernel_rfl) ?_))
  clear c1 hst HCI HWi hsi hN
  obtain ⟨i0,i1,i2,v2⟩ := HI2.out W2 (Below.refl _ _)
  rw [hop] at i0
  have HLD : Hid (∀ k u,yd.cells.toList[k]? = some u → W2.cell? ((⟨vb,vo + d * 3,none⟩ : Addr).add k) = some u) := HXV.out W2 (Below.refl _ _) d yd HYD.out
  obtain ⟨ld,hld⟩ : ∃ b,yd.lent = b := ⟨_,rfl⟩
  obtain ⟨la,hla⟩ : ∃ b,ya.lent = b := ⟨_,rfl⟩
  have HL1 : Hid (∀ W,Calls Try.prog 40 #[.agg yd.cells] W fun e w' => e = .returned (.bool ld) ∧ Below W.heap.size W w') := fun W => by rw [← hld]; exact HLT.out yd W
  have HL2 : Hid (∀ W,Calls Try.prog 40 #[.agg #[.bool ya.ptr,.string ya.tgt,.int .i64 ya.cls]] W fun e w' => e = .returned (.bool la) ∧ Below W.heap.size W w') := fun W => by rw [← hla]; exact HLT.out ya W
  rw [hld,hla] at HE
  clear hld hla HLT
  go_upto_region 6 with (fail)
  cases ld with
  | false =>
   go_wp2_with (first
    | (refine wpList_load_at rfl 47 _ rfl ⟨vb,vo + d * 3,none⟩ rfl yd.cells _ HLD.out Try.underlying47 rfl (by kernel_rfl) ?_)
    | (go_at_call 40; refine (HL1.out _).mono ?_; rintro e w3 ⟨rfl,hb3⟩; have HB3 := Lib.hid hb3; clear hb3))
   go_ret
   exact HFIN0.out w3 HB3.out (by rw [HE.out]; rfl)
  | true =>
  go_wp2_with (refine wpList_load_at rfl 47 _ rfl ⟨vb,vo + d * 3,none⟩ rfl yd.cells _ HLD.out Try.underlying47 rfl (by kernel_rfl) ?_)
  go_at_call 40
  refine (HL1.out _).mono ?_
  rintro e w3 ⟨rfl,hb3⟩
  have HB3 := Lib.hid hb3
  clear hb3 i0 i1 i2 v2 HLD
  obtain ⟨i0,i1,i2,v2⟩ := HI2.out w3 HB3.out
  have hla := HXV.out w3 HB3.out a ya HYA.out
  have a0 : w3.cell? ⟨vb,vo + a * 3,none⟩ = some (.bool ya.ptr) := hla 0 _ rfl
  have a1 : w3.cell? ⟨vb,vo + a * 3 + 1,none⟩ = some (.string ya.tgt) := hla 1 _ rfl
  have a2 : w3.cell? ⟨vb,vo + a * 3 + 2,none⟩ = some (.int .i64 ya.cls) := hla 2 _ rfl
  clear hla
  go_wp2_with fail
  go_at_call 40
  refine (HL2.out _).mono ?_
  rintro e w4 ⟨rfl,hb4⟩
  have HB4 : Hid (Below W2.heap.size W2 w4) := HB3.out.trans (hb4.mono HB3.out.size)
  clear hb4 i0 i1 i2 v2 a0 a1 a2
  cases la with
  | false =>
   go_wp2
   go_ret
   exact HFIN0.out w4 HB4.out (by rw [HE.out]; rfl)
  | true =>
  have HBP : Hid (∀ p : BW w4,Below W2.heap.size W2 p.w) := fun p => HB4.out.trans (p.h.mono HB4.out.size)
  have i1 : ∀ p : BW w4,p.w.cell? ⟨N + 1,1,none⟩ = some (.int .i64 (d : Int)) := fun p => (HI2.out p.w (HBP.out p)).2.1
  have i2 : ∀ p : BW w4,p.w.cell? ⟨N + 1,2,none⟩ = some (.int .i64 (a : Int)) := fun p => (HI2.out p.w (HBP.out p)).2.2.1
  have k0 : ∀ p : BW w4,p.w.cell? ⟨R,0,none⟩ = some (.slice (some ⟨VA,0,none⟩) m.fs.length cv) := fun p => (HAT.out p.w (HBP.out p)).c0
  have k1 : ∀ p : BW w4,p.w.cell? ⟨VA,f,none⟩ = some (.slice (some ⟨T,0,none⟩) g.vs.length ct) := fun p => (HAT.out p.w (HBP.out p)).kv
  have k2 : ∀ p : BW w4,p.w.cell? ⟨T,d,none⟩ = some (.slice (some ⟨r.at_ d,0,none⟩) P P) := fun p => (HAT.out p.w (HBP.out p)).ku d hdl
  have k3 : ∀ p : BW w4,p.w.cell? ⟨T,a,none⟩ = some (.slice (some ⟨r.at_ a,0,none⟩) P P) := fun p => (HAT.out p.w (HBP.out p)).ku a hal
  have HJ : Hid (∀ p : BW w4,Calls Try.prog 112 #[.slice (some ⟨r.at_ d,0,none⟩) P P,.slice (some ⟨r.at_ a,0,none⟩) P P] p.w fun e w' => ∃ t,e = .returned (.bool t) ∧ InsQ w m B R vv fv rows tag rn S (.returned (.bool t)) w') := fun p => by
   have h1 := (HQ2.out.below (HBP.out p)).join HOK.out HG.out HR.out (d := d) (a := a) (by omega) (by omega) (Ext.refl _ p.w)
   rw [HHP.out] at h1
   refine h1.mono ?_
   rintro e w6 ⟨rfl,j1,j2⟩
   refine ⟨_,rfl,?_⟩
   rw [HE.out,HHP.out]
   refine ⟨by show _ = Ending.returned (.bool (newR P x f d a || false)); rw [Bool.or_false],j1,?_⟩
   have h2 : Below w.heap.size w p.w := by exact HBW.out.trans ((HBP.out p).mono HWS.out)
   exact (Ext.of_below_size h2).trans j2 (fun _ hk => .inl hk)
  clear HL1 HL2
  go_wp2_with fail
  refine wp_region_phase 22 1 rfl (by kernel_rfl) (by kernel_rfl) (by kernel_rfl) (fun w' => ∃ p : BW w4,w' = p.w) ⟨⟨w4.drew,(Below.refl _ _).drew⟩,rfl⟩ ?_
  dsimp only [List.take]
  repeat (go_big_quiet_step (fail))
  refine wpQuiet_nil ?_
  rintro _ ⟨p,rfl⟩
  refine wpOp_step rfl fun K' hK => ?_
  rw [if_pos (by rfl)]
  go_simp
  go_at_call 112
  refine (HJ.out p).mono ?_
  rintro e w5 ⟨t,rfl,ht⟩
  have HF := Lib.hid ht
  refine hK _ _ ?_
  clear hK ht i1 i2 k0 k1 k2 k3
  try go_simp
  refine wpAny_end 23 rfl (by kernel_rfl) (by kernel_rfl) (· = w5) rfl ?_
  dsimp only [List.drop]
  repeat (go_big_quiet_step (fail))
  refine wpQuiet_nil ?_
  rintro _ rfl
  go_wp2
  go_ret
  exact HF.out
end Go.Proofs.Ytlggjbopfnndbaa
namespace Go.Proofs.Ytlggjbopfnndbaa
open Go.RowKit
set_option maxRecDepth 100000 in
set_option maxHeartbeats 8000000 in
theorem rq_ret (w : World) (m : Mo) (B R : Nat) (vv fv : Value) (rows : List FR) (x : Nat → Nat → Nat → Bool) (tag : Tag) (rn : Int) (h : RqM w m B R vv fv rows x tag rn) (hok : OkR m) (f : Nat) (g : Fn) (hg : m.fs[f]? = some g) (i : Ins) (hi : i ∈ g.c.ins) (hop : i.op = 18) :
  Calls Try.prog 92 #[.pointer (some ⟨R,0,none⟩),.agg m.cells,.int .i64 (f : Int),.agg i.cells] w (InsQ w m B R vv fv rows tag rn (insR m.nv f g i ⟨x,false⟩)) := by
 obtain ⟨r,hr,_,_⟩ := h.row hg
 have hgm : g ∈ m.fs := List.mem_of_getElem? hg
 obtain ⟨p0,p1,p2,p3⟩ := hok.fn g hgm
 have hfn : f < m.fs.length := (List.getElem?_eq_some_iff.1 hg).1
 have hfI : (f : Int) < (m.fs.length : Int) := by omega
 have hn60 := hok.nf
 have hin := h.inn
 obtain ⟨fb,fo,hfA,hfb,hfc⟩ := hin.frow (by intro e; rw [e] at hfn; simp at hfn)
 obtain ⟨P,hP⟩ : ∃ P,g.c.par.toNat = P := ⟨_,rfl⟩
 have hPI : g.c.par = (P : Int) := by omega
 obtain ⟨N,hN⟩ : ∃ N,w.heap.size = N := ⟨_,rfl⟩
 obtain ⟨Wi,hWi⟩ : ∃ W,(w.alloc (.cells m.cells 25)).alloc (.cells i.cells 62) = W := ⟨_,rfl⟩
 obtain ⟨W2,hW2⟩ : ∃ W2,Wi.alloc (.cells g.cells 50) = W2 := ⟨_,rfl⟩
 have hW2' := hW2
 rw [← hWi] at hW2'
 obtain ⟨hb2,hs2,r0,r1,r2⟩ := box3 hW2'
 have hsi : Wi.heap.size = N + 2 := by rw [← hWi]; simp [hN]
 rw [hN] at hs2 r0 r1 r2
 have hbi : Below w.heap.size w Wi := by rw [← hWi]; exact ((Below.refl _ _).alloc (Nat.le_refl _) _).alloc (by simp) _
 have c1 : Wi.cell? ⟨N,1,none⟩ = some (.slice (some ⟨fb,fo,none⟩) m.fs.length m.fC) := by
  have q : Wi.heap[N]? = some (.cells m.cells 25 (0,0)) := by rw [← hWi,← hN]; exact heap_alloc2_old _ _ _
  rw [cell_of_row _ _ _ _ _ _ q,← hfA]; rfl
 have HCI : Hid (∀ k u,g.cells.toList[k]? = some u → Wi.cell? ((⟨fb,fo + f * 8,none⟩ : Addr).add k) = some u) := fun k u hu => by
  rw [Addr.add_lit,hbi.cell (p := ⟨fb,fo + f * 8 + k,none⟩) hfb]; exact hfc f g hg k u hu
 have hst : ∀ c : Array Value,c.size = 8 → (storeCells ⟨N + 2,0,none⟩ g.cells.toList 0).run Try.prog (Wi.alloc (.cells c 50)) = .ok () W2 := fun c hc => by
  rw [← hW2,← hsi]
  exact run_storeCells_new (P := Try.prog) Wi 50 c g.cells (by show _ = some 8; kernel_rfl) hc (fnOne g)
 have HX : Hid (∀ W,Ext (fun k => ∃ f u,tag k = (4,f,u)) W2 W → W.heap[N + 1]? = some (.cells i.cells 62 (0,0)) ∧ W.heap[N + 2]? = some (.cells g.cells 50 (0,0))) := fun W hW => by
  have ht : ∀ k,N ≤ k → ¬ ∃ f u,tag k = (4,f,u) := by
   rintro k hk ⟨f',u',e⟩
   have := (h.tab.low k (by rw [e]; simp)).2
   omega
  exact ⟨hW.heap r1 (ht _ (by omega)),hW.heap r2 (ht _ (by omega))⟩
 have HQ2 : Hid (RqM W2 m B R vv fv rows x tag rn) := h.below hb2
 have HB2 := Lib.hid hb2
 have HLT : Hid (∀ (y : Vr) W,Calls Try.prog 40 #[.agg y.cells] W fun e w' => e = .returned (.bool y.lent) ∧ Below W.heap.size W w') := fun y W => rlent19_calls y W
 have HVS : Hid (g.vs ≠ [] → ∃ vb vo,g.c.varsA = some ⟨vb,vo,none⟩ ∧ ∀ W y,RqM W m B R vv fv rows y tag rn → vb < W.heap.size ∧ ∀ (k : Nat) (v : Vr),g.vs[k]? = some v → ∀ q u,v.cells.toList[q]? = some u → W.cell? ((⟨vb,vo + k * 3,none⟩ : Addr).add q) = some u) := fun hne => by
  obtain ⟨vb,vo,hA,_,_⟩ := (hin.fin g hgm).vars hne
  refine ⟨vb,vo,hA,fun W y hq => ?_⟩
  obtain ⟨vb',vo',hA',hb',hc'⟩ := (hq.inn.fin g hgm).vars hne
  rw [hA] at hA'
  simp only [Option.some.injEq,Addr.mk.injEq,and_true] at hA'
  obtain ⟨rfl,rfl⟩ := hA'
  exact ⟨hb',fun k v hv q u hu => by rw [Addr.add_lit]; exact hc' k v hv q u hu⟩
 have hnvs := (hin.fin g hgm).nvars
 have HV2 : Hid (∀ W : World,W.heap[N + 2]? = some (.cells g.cells 50 (0,0)) → W.cell? ⟨N + 2,2,none⟩ = some (.slice g.c.varsA g.vs.length g.c.varsC)) := fun W hW => by rw [cell_of_row _ _ _ _ _ _ hW,← hnvs]; rfl
 have HG := Lib.hid hg
 have HR := Lib.hid hr
 have HOK := Lib.hid hok
 have HWi := Lib.hid hWi
 have HS2 := Lib.hid hs2
 have HHP := Lib.hid hP
 have HFIN0 : Hid (∀ W,Below W2.heap.size W2 W → insR m.nv f g i ⟨x,false⟩ = ⟨x,false⟩ → InsQ w m B R vv fv rows tag rn (insR m.nv f g i ⟨x,false⟩) (.returned (.bool false)) W) := fun W hW he => by
  rw [he]
  exact ⟨rfl,HQ2.out.below hW,Ext.of_below_size (HB2.out.trans (hW.mono HB2.out.size))⟩
 have HBW : Hid (Below w.heap.size w W2) := HB2.out
 have HWS : Hid (w.heap.size ≤ W2.heap.size) := HB2.out.size
 have hva := hok.ret g hgm i hi hop
 obtain ⟨h2,h3⟩ := isVar_iff.1 hva
 obtain ⟨a,ha⟩ : ∃ k : Nat,i.a = (k : Int) := ⟨i.a.toNat,by omega⟩
 have hal : a < g.vs.length := by omega
 obtain ⟨ya,hya⟩ : ∃ y,g.vs[a]? = some y := ⟨_,List.getElem?_eq_getElem hal⟩
 have haI : (a : Int) < (g.vs.length : Int) := by omega
 obtain ⟨yr,hyr⟩ : ∃ y : Vr,(⟨g.c.rp,g.c.rto,g.c.rcl⟩ : Vr) = y := ⟨_,rfl⟩
 have HE : Hid (insR m.nv f g i ⟨x,false⟩ = if (yr.lent && ya.lent) = true then RS.join g.c.par.toNat ⟨x,false⟩ f g.vs.length a else ⟨x,false⟩) := by
  have e1 : g.lentRet = yr.lent := by rw [← hyr]; rfl
  have e2 : g.lentAt (a : Int) = ya.lent := lentAt_get hya
  unfold Hid insR; rw [if_neg (by omega),if_neg (by omega),if_pos hop,ha,e1,e2,Int.toNat_natCast]
 obtain ⟨vb,vo,hvA,hvc⟩ := HVS.out (by intro e; rw [e] at hal; simp at hal)
 obtain ⟨VA,FA,cv,cf,T,ct,hat⟩ := h.cells hg hr (by omega)
 have HAT : Hid (∀ W,Below W2.heap.size W2 W → RqAt W R VA FA cv cf T ct f g.vs.length P m.fs.length r.at_) := fun W hW => by rw [← hP]; exact hat W x (HQ2.out.below hW)
 have HI2 : Hid (∀ W,Below W2.heap.size W2 W → W.cell? ⟨N + 1,0,none⟩ = some (.int .i64 18) ∧ W.cell? ⟨N + 1,2,none⟩ = some (.int .i64 (a : Int)) ∧ W.cell? ⟨N + 2,2,none⟩ = some (.slice (some ⟨vb,vo,none⟩) g.vs.length g.c.varsC)) := fun W hW => by
  obtain ⟨q1,q2⟩ := HX.out W (Ext.of_below_size hW)
  exact ⟨by rw [cell_of_row _ _ _ _ _ _ q1,← hop]; rfl,by rw [cell_of_row _ _ _ _ _ _ q1,← ha]; rfl,by rw [← hvA]; exact HV2.out W q2⟩
 have HRV : Hid (∀ k u,yr.cells.toList[k]? = some u → W2.cell? ((⟨N + 2,3,none⟩ : Addr).add k) = some u) := fun k u hu => by
  rw [Addr.add_lit,cell_of_row _ _ _ _ _ _ r2]
  rw [← hyr] at hu
  have hk : k < 3 := (List.getElem?_eq_some_iff.1 hu).1
  rcases (by omega : k = 0 ∨ k = 1 ∨ k = 2) with rfl | rfl | rfl <;> exact hu
 have HXV : Hid (∀ W,Below W2.heap.size W2 W → ∀ (k : Nat) (v : Vr),g.vs[k]? = some v → ∀ q u,v.cells.toList[q]? = some u → W.cell? ((⟨vb,vo + k * 3,none⟩ : Addr).add q) = some u) := fun W hW => (hvc W x (HQ2.out.below hW)).2
 have HYA := Lib.hid hya
 obtain ⟨S,hS⟩ : ∃ S,insR m.nv f g i ⟨x,false⟩ = S := ⟨_,rfl⟩
 rw [hS] at HE HFIN0 ⊢
 clear hS
 clear h hok hg hr hin hfc hfA hW2 hW2' hWi hb2 hbi hs2 r0 r1 r2 hnvs hgm hi hP hop hva h2 h3 ha hya hyr hvA hvc hat p0 p1 hPI
 (go_enter Try.func92,Try.ntmps92; go_upto_region 1 with (fail); rw [HWi.out]; go_upto_region 3 with (refine wpList_load_at rfl 50 _ rfl ⟨fb,fo + f * 8,none⟩ rfl g.cells _ HCI.out Try.underlying50 rfl (by kernel_rfl) ?_))
 clear c1 hst HCI HWi hsi hN
 obtain ⟨i0,i2,v2⟩ := HI2.out W2 (Below.refl _ _)
 obtain ⟨ld,hld⟩ : ∃ b,yr.lent = b := ⟨_,rfl⟩
 obtain ⟨la,hla⟩ : ∃ b,ya.lent = b := ⟨_,rfl⟩
 have HL1 : Hid (∀ W,Calls Try.prog 40 #[.agg yr.cells] W fun e w' => e = .returned (.bool ld) ∧ Below W.heap.size W w') := fun W => by rw [← hld]; exact HLT.out yr W
 have HL2 : Hid (∀ W,Calls Try.prog 40 #[.agg #[.bool ya.ptr,.string ya.tgt,.int .i64 ya.cls]] W fun e w' => e = .returned (.bool la) ∧ Below W.heap.size W w') := fun W => by rw [← hla]; exact HLT.out ya W
 rw [hld,hla] at HE
 clear hld hla HLT
 go_upto_region 15 with (fail)
 cases ld with
 | false =>
  go_wp2_with (first
   | (refine wpList_load_at rfl 47 _ rfl ⟨N + 2,3,none⟩ rfl yr.cells _ HRV.out Try.underlying47 rfl (by kernel_rfl) ?_)
   | (go_at_call 40; refine (HL1.out _).mono ?_; rintro e w3 ⟨rfl,hb3⟩; have HB3 := Lib.hid hb3; clear hb3))
  go_ret
  exact HFIN0.out w3 HB3.out (by rw [HE.out]; rfl)
 | true =>
 go_wp2_with (refine wpList_load_at rfl 47 _ rfl ⟨N + 2,3,none⟩ rfl yr.cells _ HRV.out Try.underlying47 rfl (by kernel_rfl) ?_)
 go_at_call 40
 refine (HL1.out _).mono ?_
 rintro e w3 ⟨rfl,hb3⟩
 have HB3 := Lib.hid hb3
 clear hb3 i0 i2 v2 HRV
 obtain ⟨_,i2,v2⟩ := HI2.out w3 HB3.out
 have hla := HXV.out w3 HB3.out a ya HYA.out
 have a0 : w3.cell? ⟨vb,vo + a * 3,none⟩ = some (.bool ya.ptr) := hla 0 _ rfl
 have a1 : w3.cell? ⟨vb,vo + a * 3 + 1,none⟩ = some (.string ya.tgt) := hla 1 _ rfl
 have a2 : w3.cell? ⟨vb,vo + a * 3 + 2,none⟩ = some (.int .i64 ya.cls) := hla 2 _ rfl
 clear hla
 go_wp2_with fail
 go_at_call 40
 refine (HL2.out _).mono ?_
 rintro e w4 ⟨rfl,hb4⟩
 have HB4 : Hid (Below W2.heap.size W2 w4) := HB3.out.trans (hb4.mono HB3.out.size)
 clear hb4 i2 v2 a0 a1 a2
 cases la with
 | false =>
  go_wp2
  go_ret
  exact HFIN0.out w4 HB4.out (by rw [HE.out]; rfl)
 | true =>
 have HBP : Hid (∀ p : BW w4,Below W2.heap.size W2 p.w) := fun p => HB4.out.trans (p.h.mono HB4.out.size)
 have i2 : ∀ p : BW w4,p.w.cell? ⟨N + 1,2,none⟩ = some (.int .i64 (a : Int)) := fun p => (HI2.out p.w (HBP.out p)).2.1
 have k0 : ∀ p : BW w4,p.w.cell? ⟨R,0,none⟩ = some (.slice (some ⟨VA,0,none⟩) m.fs.length cv) := fun p => (HAT.out p.w (HBP.out p)).c0
 have k1 : ∀ p : BW w4,p.w.cell? ⟨VA,f,none⟩ = some (.slice (some ⟨T,0,none⟩) g.vs.length ct) := fun p => (HAT.out p.w (HBP.out p)).kv
 have k2 : ∀ p : BW w4,p.w.cell? ⟨R,1,none⟩ = some (.slice (some ⟨FA,0,none⟩) m.fs.length cf) := fun p => (HAT.out p.w (HBP.out p)).c1
 have k3 : ∀ p : BW w4,p.w.cell? ⟨T,a,none⟩ = some (.slice (some ⟨r.at_ a,0,none⟩) P P) := fun p => (HAT.out p.w (HBP.out p)).ku a hal
 have k4 : ∀ p : BW w4,p.w.cell? ⟨FA,f,none⟩ = some (.slice (some ⟨r.at_ g.vs.length,0,none⟩) P P) := fun p => (HAT.out p.w (HBP.out p)).kf
 have HJ : Hid (∀ p : BW w4,Calls Try.prog 112 #[.slice (some ⟨r.at_ g.vs.length,0,none⟩) P P,.slice (some ⟨r.at_ a,0,none⟩) P P] p.w fun e w' => ∃ t,e = .returned (.bool t) ∧ InsQ w m B R vv fv rows tag rn S (.returned (.bool t)) w') := fun p => by
  have h1 := (HQ2.out.below (HBP.out p)).join HOK.out HG.out HR.out (d := g.vs.length) (a := a) (by omega) (by omega) (Ext.refl _ p.w)
  rw [HHP.out] at h1
  refine h1.mono ?_
  rintro e w6 ⟨rfl,j1,j2⟩
  refine ⟨_,rfl,?_⟩
  rw [HE.out,HHP.out]
  refine ⟨by show _ = Ending.returned (.bool (newR P x f g.vs.length a || false)); rw [Bool.or_false],j1,?_⟩
  have h2 : Below w.heap.size w p.w := HBW.out.trans ((HBP.out p).mono HWS.out)
  exact (Ext.of_below_size h2).trans j2 (fun _ hk => .inl hk)
 clear HL1 HL2
 go_wp2_with fail
 refine wp_region_phase 18 1 rfl (by kernel_rfl) (by kernel_rfl) (by kernel_rfl) (fun w' => ∃ p : BW w4,w' = p.w) ⟨⟨w4.drew,(Below.refl _ _).drew⟩,rfl⟩ ?_
 dsimp only [List.take]
 repeat (go_big_quiet_step (fail))
 refine wpQuiet_nil ?_
 rintro _ ⟨p,rfl⟩
 refine wpOp_step rfl fun K' hK => ?_
 rw [if_pos (by rfl)]
 go_simp
 go_at_call 112
 refine (HJ.out p).mono ?_
 rintro e w5 ⟨t,rfl,ht⟩
 have HF := Lib.hid ht
 refine hK _ _ ?_
 clear hK ht i2 k0 k1 k2 k3 k4
 try go_simp
 refine wpAny_end 19 rfl (by kernel_rfl) (by kernel_rfl) (· = w5) rfl ?_
 dsimp only [List.drop]
 repeat (go_big_quiet_step (fail))
 refine wpQuiet_nil ?_
 rintro _ rfl
 go_wp2
 go_ret
 exact HF.out
set_option maxRecDepth 100000 in
set_option maxHeartbeats 8000000 in
theorem rq_none (w : World) (m : Mo) (B R : Nat) (vv fv : Value) (rows : List FR) (x : Nat → Nat → Nat → Bool) (tag : Tag) (rn : Int) (h : RqM w m B R vv fv rows x tag rn) (hok : OkR m) (f : Nat) (g : Fn) (hg : m.fs[f]? = some g) (i : Ins) (_ : i ∈ g.c.ins) (h9 : i.op ≠ 9) (h10 : i.op ≠ 10) (h15 : i.op ≠ 15) (h18 : i.op ≠ 18) :
  Calls Try.prog 92 #[.pointer (some ⟨R,0,none⟩),.agg m.cells,.int .i64 (f : Int),.agg i.cells] w (InsQ w m B R vv fv rows tag rn (insR m.nv f g i ⟨x,false⟩)) := by
 obtain ⟨r,hr,_,_⟩ := h.row hg
 have hgm : g ∈ m.fs := List.mem_of_getElem? hg
 obtain ⟨p0,p1,p2,p3⟩ := hok.fn g hgm
 have hfn : f < m.fs.length := (List.getElem?_eq_some_iff.1 hg).1
 have hfI : (f : Int) < (m.fs.length : Int) := by omega
 have hn60 := hok.nf
 have hin := h.inn
 obtain ⟨fb,fo,hfA,hfb,hfc⟩ := hin.frow (by intro e; rw [e] at hfn; simp at hfn)
 obtain ⟨P,hP⟩ : ∃ P,g.c.par.toNat = P := ⟨_,rfl⟩
 have hPI : g.c.par = (P : Int) := by omega
 obtain ⟨N,hN⟩ : ∃ N,w.heap.size = N := ⟨_,rfl⟩
 obtain ⟨Wi,hWi⟩ : ∃ W,(w.alloc (.cells m.cells 25)).alloc (.cells i.cells 62) = W := ⟨_,rfl⟩
 obtain ⟨W2,hW2⟩ : ∃ W2,Wi.alloc (.cells g.cells 50) = W2 := ⟨_,rfl⟩
 have hW2' := hW2
 rw [← hWi] at hW2'
 obtain ⟨hb2,hs2,r0,r1,r2⟩ := box3 hW2'
 have hsi : Wi.heap.size = N + 2 := by rw [← hWi]; simp [hN]
 rw [hN] at hs2 r0 r1 r2
 have hbi : Below w.heap.size w Wi := by rw [← hWi]; exact ((Below.refl _ _).alloc (Nat.le_refl _) _).alloc (by simp) _
 have c1 : Wi.cell? ⟨N,1,none⟩ = some (.slice (some ⟨fb,fo,none⟩) m.fs.length m.fC) := by
  have q : Wi.heap[N]? = some (.cells m.cells 25 (0,0)) := by rw [← hWi,← hN]; exact heap_alloc2_old _ _ _
  rw [cell_of_row _ _ _ _ _ _ q,← hfA]; rfl
 have HCI : Hid (∀ k u,g.cells.toList[k]? = some u → Wi.cell? ((⟨fb,fo + f * 8,none⟩ : Addr).add k) = some u) := fun k u hu => by
  rw [Addr.add_lit,hbi.cell (p := ⟨fb,fo + f * 8 + k,none⟩) hfb]; exact hfc f g hg k u hu
 have hst : ∀ c : Array Value,c.size = 8 → (storeCells ⟨N + 2,0,none⟩ g.cells.toList 0).run Try.prog (Wi.alloc (.cells c 50)) = .ok () W2 := fun c hc => by
  rw [← hW2,← hsi]
  exact run_storeCells_new (P := Try.prog) Wi 50 c g.cells (by show _ = some 8; kernel_rfl) hc (fnOne g)
 have HX : Hid (∀ W,Ext (fun k => ∃ f u,tag k = (4,f,u)) W2 W → W.heap[N + 1]? = some (.cells i.cells 62 (0,0)) ∧ W.heap[N + 2]? = some (.cells g.cells 50 (0,0))) := fun W hW => by
  have ht : ∀ k,N ≤ k → ¬ ∃ f u,tag k = (4,f,u) := by
   rintro k hk ⟨f',u',e⟩
   have := (h.tab.low k (by rw [e]; simp)).2
   omega
  exact ⟨hW.heap r1 (ht _ (by omega)),hW.heap r2 (ht _ (by omega))⟩
 have HQ2 : Hid (RqM W2 m B R vv fv rows x tag rn) := h.below hb2
 have HB2 := Lib.hid hb2
 have HLT : Hid (∀ (y : Vr) W,Calls Try.prog 40 #[.agg y.cells] W fun e w' => e = .returned (.bool y.lent) ∧ Below W.heap.size W w') := fun y W => rlent19_calls y W
 have HVS : Hid (g.vs ≠ [] → ∃ vb vo,g.c.varsA = some ⟨vb,vo,none⟩ ∧ ∀ W y,RqM W m B R vv fv rows y tag rn → vb < W.heap.size ∧ ∀ (k : Nat) (v : Vr),g.vs[k]? = some v → ∀ q u,v.cells.toList[q]? = some u → W.cell? ((⟨vb,vo + k * 3,none⟩ : Addr).add q) = some u) := fun hne => by
  obtain ⟨vb,vo,hA,_,_⟩ := (hin.fin g hgm).vars hne
  refine ⟨vb,vo,hA,fun W y hq => ?_⟩
  obtain ⟨vb',vo',hA',hb',hc'⟩ := (hq.inn.fin g hgm).vars hne
  rw [hA] at hA'
  simp only [Option.some.injEq,Addr.mk.injEq,and_true] at hA'
  obtain ⟨rfl,rfl⟩ := hA'
  exact ⟨hb',fun k v hv q u hu => by rw [Addr.add_lit]; exact hc' k v hv q u hu⟩
 have hnvs := (hin.fin g hgm).nvars
 have HV2 : Hid (∀ W : World,W.heap[N + 2]? = some (.cells g.cells 50 (0,0)) → W.cell? ⟨N + 2,2,none⟩ = some (.slice g.c.varsA g.vs.length g.c.varsC)) := fun W hW => by rw [cell_of_row _ _ _ _ _ _ hW,← hnvs]; rfl
 have HG := Lib.hid hg
 have HR := Lib.hid hr
 have HOK := Lib.hid hok
 have HWi := Lib.hid hWi
 have HS2 := Lib.hid hs2
 have HHP := Lib.hid hP
 have HFIN0 : Hid (∀ W,Below W2.heap.size W2 W → insR m.nv f g i ⟨x,false⟩ = ⟨x,false⟩ → InsQ w m B R vv fv rows tag rn (insR m.nv f g i ⟨x,false⟩) (.returned (.bool false)) W) := fun W hW he => by
  rw [he]
  exact ⟨rfl,HQ2.out.below hW,Ext.of_below_size (HB2.out.trans (hW.mono HB2.out.size))⟩
 have HBW : Hid (Below w.heap.size w W2) := HB2.out
 have HWS : Hid (w.heap.size ≤ W2.heap.size) := HB2.out.size
 have HE : Hid (insR m.nv f g i ⟨x,false⟩ = ⟨x,false⟩) := by
  unfold Hid insR; rw [if_neg (by omega),if_neg h15,if_neg h18]
 have i0 : W2.cell? ⟨N + 1,0,none⟩ = some (.int .i64 i.op) := by rw [cell_of_row _ _ _ _ _ _ r1]; rfl
 have e9 : (i.op == 9) = false := by rw [beq_eq_false_iff_ne]; exact h9
 have e10 : (i.op == 10) = false := by rw [beq_eq_false_iff_ne]; exact h10
 have e15 : (i.op == 15) = false := by rw [beq_eq_false_iff_ne]; exact h15
 have e18 : (i.op == 18) = false := by rw [beq_eq_false_iff_ne]; exact h18
 obtain ⟨S,hS⟩ : ∃ S,insR m.nv f g i ⟨x,false⟩ = S := ⟨_,rfl⟩
 rw [hS] at HE HFIN0 ⊢
 clear hS
 clear h hok hg hr hin hfc hfA hW2 hW2' hWi hb2 hbi hs2 r0 r1 r2 hnvs hgm hP p0 p1 hPI
 (go_enter Try.func92,Try.ntmps92; go_upto_region 1 with (fail); rw [HWi.out]; go_upto_region 3 with (refine wpList_load_at rfl 50 _ rfl ⟨fb,fo + f * 8,none⟩ rfl g.cells _ HCI.out Try.underlying50 rfl (by kernel_rfl) ?_))
 clear c1 hst HCI HWi hsi hN
 go_wp2
 go_ret
 exact HFIN0.out W2 (Below.refl _ _) HE.out
end Go.Proofs.Ytlggjbopfnndbaa
