/- Origins' record in memory; what an instruction that moves, or returns, asks. -/
import Derived.Test.YtlggjbopfnndbaaG25
import Derived.Test.YtlggjbopfnndbaaG19
import Derived.Deep.WholeRow
namespace Go.Proofs.Ytlggjbopfnndbaa
open Go.RowKit
structure RgM (w : World) (m : Mo) (B R : Nat) (vv fv : Value) (rows : List FR) (x : Nat → Nat → Nat → Bool) (tag : Tag) (rn : Int) : Prop where
 mod : ∃ w0 : World,m.inn w0 ∧ w0.heap.size ≤ B ∧ Below w0.heap.size w0 w
 rec_ : w.heap[R]? = some (.cells #[.slice m.sA m.ss.length m.sC,.slice m.fA m.fs.length m.fC,vv,fv,.int .i64 rn] 97 (0,0))
 tab : RegT bitsLeaf 95 99 B w vv fv rows x tag
 tR : tag R = (5,0,0)
 fit : ∀ (f : Nat) (r : FR) (g : Fn),rows[f]? = some r → m.fs[f]? = some g → r.P = g.c.par.toNat ∧ r.locs.length = g.vs.length
 n : rows.length = m.fs.length
section
variable {w w' : World} {m : Mo} {B R : Nat} {vv fv : Value} {rows : List FR} {x y : Nat → Nat → Nat → Bool} {tag : Tag} {rn : Int}
theorem RgM.inn (h : RgM w m B R vv fv rows x tag rn) : m.inn w := by
 obtain ⟨w0,h1,_,h2⟩ := h.mod
 exact h1.below h2
theorem RgM.below (h : RgM w m B R vv fv rows x tag rn) (hb : Below w.heap.size w w') : RgM w' m B R vv fv rows x tag rn := by
 obtain ⟨w0,h1,h3,h2⟩ := h.mod
 exact ⟨⟨w0,h1,h3,h2.trans (hb.mono h2.size)⟩,(hb.block R (Array.getElem?_eq_some_iff.1 h.rec_).1).trans h.rec_,h.tab.below hb,h.tR,h.fit,h.n⟩
theorem RgM.set (h : RgM w m B R vv fv rows x tag rn) {f u : Nat} {r : FR} (hr : rows[f]? = some r) (hu : u ≤ r.locs.length) (hx : Ext (· = r.at_ u) w w') (hy : bitsLeaf.ok w' (r.at_ u) r.P (y f u)) (he : ∀ g v,¬ (g = f ∧ v = u) → ∀ n,y g v n = x g v n) : RgM w' m B R vv fv rows y tag rn := by
 obtain ⟨w0,h1,h3,h2⟩ := h.mod
 have ht := (h.tab.leaf hr hu).2
 have hl := (h.tab.low (r.at_ u) (by rw [ht]; simp)).1
 exact ⟨⟨w0,h1,h3,h2.trans (hx.below h2.size (fun k hk => by rw [hk]; omega))⟩,hx.heap h.rec_ (fun e => by have := h.tR; rw [e,ht] at this; simp at this),h.tab.set hr hu hx hy he,h.tR,h.fit,h.n⟩
theorem RgM.row (h : RgM w m B R vv fv rows x tag rn) {f : Nat} {g : Fn} (hg : m.fs[f]? = some g) : ∃ r,rows[f]? = some r ∧ r.P = g.c.par.toNat ∧ r.locs.length = g.vs.length := by
 have hf : f < rows.length := by rw [h.n]; exact (List.getElem?_eq_some_iff.1 hg).1
 obtain ⟨r,hr⟩ : ∃ r,rows[f]? = some r := ⟨_,List.getElem?_eq_getElem hf⟩
 exact ⟨r,hr,h.fit f r g hr hg⟩
end
theorem insOne {i : Ins} (h : i.argsV.oneCell' = true ∧ i.modeV.oneCell' = true) : i.cells.all (·.oneCell') = true := by
 rw [← Array.all_toList]; simp only [Ins.cells,h.1,h.2,List.all_cons,List.all_nil]; rfl
theorem fnOne (f : Fn) : f.cells.all (·.oneCell') = true := by
 rw [← Array.all_toList]; simp only [Fn.cells,Cod.cells,List.all_cons,List.all_nil]; rfl
def InsP (w : World) (m : Mo) (B R : Nat) (vv fv : Value) (rows : List FR) (tag : Tag) (rn : Int) (s : RS) (e : Ending) (w' : World) : Prop :=
 e = .returned (.bool s.is) ∧ RgM w' m B R vv fv rows s.x tag rn ∧ Ext (fun k => ∃ f u,tag k = (4,f,u)) w w'
theorem lentAt_get {g : Fn} {v : Nat} {x : Vr} (h : g.vs[v]? = some x) : g.lentAt (v : Int) = x.lent := by
 unfold Fn.lentAt
 rw [decide_eq_true (by omega),Int.toNat_natCast,h]; rfl
set_option maxRecDepth 100000 in
set_option maxHeartbeats 2000000 in
theorem lent1_calls (w : World) (g : Fn) (C : Nat) (v : Int) (hc : w.heap[C]? = some (.cells g.cells 50 (0,0))) (hr : RowOf Vr.cells 3 w w.heap.size g.c.varsA g.vs) (hn : g.c.nvars = g.vs.length) (_ : g.vs.length ≤ 300) (hv : isVar g.vs.length v = true) :
  Calls Try.prog 110 #[.int .i64 v,.pointer (some ⟨C,0,none⟩)] w fun e w' => e = .returned (.bool (g.lentAt v)) ∧ Below w.heap.size w w' := by
 obtain ⟨h0,h1⟩ := isVarR_iff.1 hv
 obtain ⟨k,rfl⟩ : ∃ k : Nat,v = (k : Int) := ⟨v.toNat,by omega⟩
 have hk : k < g.vs.length := by omega
 obtain ⟨x,hx⟩ : ∃ x,g.vs[k]? = some x := ⟨_,List.getElem?_eq_getElem hk⟩
 obtain ⟨b,off,hA,hb,hq⟩ := hr (by intro e; rw [e] at hk; simp at hk)
 have c2 : w.cell? ⟨C,2,none⟩ = some (.slice (some ⟨b,off,none⟩) g.vs.length g.c.varsC) := by rw [cell_of_row _ _ _ _ _ _ hc,← hn,← hA]; rfl
 have q0 := hq k x hx 0 _ rfl
 have q1 := hq k x hx 1 _ rfl
 have q2 := hq k x hx 2 _ rfl
 rw [lentAt_get hx]
 have HL := Lib.hid (lent19_calls x w)
 obtain ⟨p,tgt,cls⟩ := x
 simp only [Vr.cells] at HL
 simp only [Nat.add_zero] at q0
 clear hx hq hr hc hA hn hv h0 h1
 go_enter Try.func110,Try.ntmps110
 go_wp2_with (go_at_call 29; refine HL.out.mono ?_; rintro e w2 ⟨rfl,hb2⟩; have HB2 := Lib.hid hb2; clear hb2)
 go_ret
 exact ⟨rfl,HB2.out⟩
set_option maxRecDepth 100000 in
set_option maxHeartbeats 8000000 in
theorem instr_mv (w : World) (m : Mo) (B R : Nat) (vv fv : Value) (rows : List FR) (x : Nat → Nat → Nat → Bool) (tag : Tag) (rn : Int) (h : RgM w m B R vv fv rows x tag rn) (hok : OkR m) (f : Nat) (g : Fn) (hg : m.fs[f]? = some g) (i : Ins) (hi : i ∈ g.c.ins)  (hop : i.op = 9 ∨ i.op = 10) :
  Calls Try.prog 91 #[.pointer (some ⟨R,0,none⟩),.int .i64 (f : Int),.agg i.cells] w (InsP w m B R vv fv rows tag rn (insR m.nv f g i ⟨x,false⟩)) := by
 obtain ⟨r,hr,hP,hL⟩ := h.row hg
 have hgm : g ∈ m.fs := List.mem_of_getElem? hg
 obtain ⟨p0,p1,p2,p3⟩ := hok.fn g hgm
 have hfn : f < m.fs.length := (List.getElem?_eq_some_iff.1 hg).1
 have hfI : (f : Int) < (m.fs.length : Int) := by omega
 have hfr : f < rows.length := by rw [h.n]; exact hfn
 have hfrI : (f : Int) < (rows.length : Int) := by omega
 have hn60 := hok.nf
 have hrn := h.n
 have hin := h.inn
 have hgi := hin.fin g hgm
 obtain ⟨⟨⟨a1,c1,e1⟩,a2,n2,c2,e2⟩,a3,c3,e3,har⟩ := hgi.code.args i hi
 have hone : i.cells.all (·.oneCell') = true := insOne ⟨by rw [e1]; rfl,by rw [e2]; rfl⟩
 have HONE := Lib.hid hone
 obtain ⟨fb,fo,hfA,hfb,hfc⟩ := hin.frow (by intro e; rw [e] at hfn; simp at hfn)
 obtain ⟨VA,FA,cv,cf,hvv,hfv,hVA,hFA,kv,kf⟩ := h.tab.fn hr
 rw [hvv,hfv] at h
 subst hvv hfv
 have hRl : R < w.heap.size := (Array.getElem?_eq_some_iff.1 h.rec_).1
 have hrc := h.rec_
 rw [hfA] at hrc
 have HCA : Hid (∀ k u,g.cells.toList[k]? = some u → w.cell? ((⟨fb,fo + f * 8,none⟩ : Addr).add k) = some u) := fun k u hu => by rw [Addr.add_lit]; exact hfc f g hg k u hu
 obtain ⟨N,hN⟩ : ∃ N,w.heap.size = N := ⟨_,rfl⟩
 obtain ⟨Wi,hWi⟩ : ∃ Wi,w.alloc (.cells i.cells 62) = Wi := ⟨_,rfl⟩
 have hbi : Below w.heap.size w Wi := by rw [← hWi]; exact (Below.refl _ _).alloc (Nat.le_refl _) _
 have hsi : Wi.heap.size = N + 1 := by rw [← hWi]; simp [hN]
 have hri : Wi.heap[N]? = some (.cells i.cells 62 (0,0)) := by rw [← hWi,← hN]; exact alloc_at _ _
 have r1 : Wi.cell? ⟨R,1,none⟩ = some (.slice (some ⟨fb,fo,none⟩) m.fs.length m.fC) := by rw [hbi.cell (p := ⟨R,1,none⟩) hRl,cell_of_row _ _ _ _ _ _ hrc]; rfl
 have HCI : Hid (∀ k u,g.cells.toList[k]? = some u → Wi.cell? ((⟨fb,fo + f * 8,none⟩ : Addr).add k) = some u) := fun k u hu => by
  have h1 := HCA.out k u hu
  rw [Addr.add_lit] at h1 ⊢
  rw [hbi.cell (p := ⟨fb,fo + f * 8 + k,none⟩) hfb]; exact h1
 have hst : ∀ c : Array Value,c.size = 8 → (storeCells ⟨Wi.heap.size,0,none⟩ g.cells.toList).run Try.prog (Wi.alloc (.cells c 50)) = .ok () (Wi.alloc (.cells g.cells 50)) := fun c hc =>
  run_storeCells_new (P := Try.prog) Wi 50 c g.cells (by show _ = some 8; kernel_rfl) hc (fnOne g)
 obtain ⟨W2,hW2⟩ : ∃ W2,Wi.alloc (.cells g.cells 50) = W2 := ⟨_,rfl⟩
 rw [hW2,hsi] at hst
 have hb2 : Below w.heap.size w W2 := by rw [← hW2]; exact hbi.alloc (by omega) _
 have hs2 : W2.heap.size = N + 1 + 1 := by rw [← hW2]; simp [hsi]
 have hr0 : W2.heap[N]? = some (.cells i.cells 62 (0,0)) := by rw [← hW2,Below.heap_alloc _ _ _ (by omega)]; exact hri
 have hr1 : W2.heap[N + 1]? = some (.cells g.cells 50 (0,0)) := by rw [← hW2,← hsi]; exact alloc_at _ _
 have h2 := h.below hb2
 have HG2 := Lib.hid h2
 have HLC : Hid (∀ W v,Below W2.heap.size W2 W → isVar g.vs.length v = true → Calls Try.prog 110 #[.int .i64 v,.pointer (some ⟨N + 1,0,none⟩)] W fun e w' => e = .returned (.bool (g.lentAt v)) ∧ Below W.heap.size W w') := by
  intro W v hW hv
  have h3 := ((h2.inn).fin g hgm).below hW
  exact lent1_calls W g (N + 1) v ((hW.block _ (by omega)).trans hr1) h3.vars h3.nvars p2 hv
 have HB2 := Lib.hid hb2
 have HWi := Lib.hid hWi
 have HS2 := Lib.hid hs2
 have HN := Lib.hid hN
 have HR0 := Lib.hid hr0
 have HR1 := Lib.hid hr1
 have HROW := Lib.hid hr
 have HP := Lib.hid hP
 have HL2 := Lib.hid hL
 have HGG := Lib.hid hg
 have HRN := Lib.hid hrn
 obtain ⟨hvd,hva⟩ := hok.mv g hgm i hi hop
 obtain ⟨RS1,hRS⟩ : ∃ s,insR m.nv f g i ⟨x,false⟩ = s := ⟨_,rfl⟩
 have HE : Hid (RS1 = if (g.lentAt i.d && g.lentAt i.a) = true then RS.join g.c.par.toNat ⟨x,false⟩ f i.d.toNat i.a.toNat else ⟨x,false⟩) := by
  unfold Hid; rw [← hRS]; unfold insR; rw [if_pos hop]
 rw [hRS]
 clear hRS
 obtain ⟨d,hd⟩ : ∃ d : Nat,i.d = (d : Int) := ⟨i.d.toNat,by have := isVarR_iff.1 hvd; omega⟩
 obtain ⟨a,ha⟩ : ∃ a : Nat,i.a = (a : Int) := ⟨i.a.toNat,by have := isVarR_iff.1 hva; omega⟩
 rw [hd] at hvd
 rw [ha] at hva
 rw [hd,ha,Int.toNat_natCast,Int.toNat_natCast] at HE
 have hdl : d < g.vs.length := by have := (isVarR_iff.1 hvd).2; omega
 have hal : a < g.vs.length := by have := (isVarR_iff.1 hva).2; omega
 obtain ⟨T,ct,htv,hT,kd⟩ := h2.tab.var hr (u := d) (by omega)
 obtain ⟨T',ct',htv',_,ka⟩ := h2.tab.var hr (u := a) (by omega)
 rw [htv] at htv'
 simp only [Value.slice.injEq,Option.some.injEq,Addr.mk.injEq] at htv'
 obtain ⟨⟨rfl,_⟩,_,rfl⟩ := htv'
 have kv2 : W2.cell? ⟨VA,f,none⟩ = some r.tv := by rw [hb2.cell (p := ⟨VA,f,none⟩) hVA]; exact kv
 rw [htv,hL] at kv2
 have kr2 : W2.cell? ⟨R,2,none⟩ = some (.slice (some ⟨VA,0,none⟩) rows.length cv) := by rw [hb2.cell (p := ⟨R,2,none⟩) hRl,cell_of_row _ _ _ _ _ _ hrc]; rfl
 have i1 : W2.cell? ⟨N,1,none⟩ = some (.int .i64 (d : Int)) := by rw [cell_of_row _ _ _ _ _ _ hr0,← hd]; rfl
 have i2 : W2.cell? ⟨N,2,none⟩ = some (.int .i64 (a : Int)) := by rw [cell_of_row _ _ _ _ _ _ hr0,← ha]; rfl
 have hleafd := (h2.tab.leaf hr (u := d) (by omega))
 have hleafa := (h2.tab.leaf hr (u := a) (by omega))
 obtain ⟨bd,hbd⟩ : ∃ b,r.at_ d = b := ⟨_,rfl⟩
 obtain ⟨ba,hba⟩ : ∃ b,r.at_ a = b := ⟨_,rfl⟩
 obtain ⟨P,hPP⟩ : ∃ P,r.P = P := ⟨_,rfl⟩
 have HFIN : Hid (∀ W5 w6,Below W2.heap.size W2 W5 → g.lentAt (d : Int) = true → g.lentAt (a : Int) = true → Joined bitsLeaf W5 bd P (x f d) (x f a) (.returned (.bool (newB P (x f d) (x f a)))) w6 → InsP w m B R (.slice (some ⟨VA,0,none⟩) rows.length cv) (.slice (some ⟨FA,0,none⟩) rows.length cf) rows tag rn RS1 (.returned (.bool (newB P (x f d) (x f a)))) w6) := by
  intro W5 w6 h5 hld hla hj
  obtain ⟨_,j1,j2⟩ := hj
  rw [HE.out,hld,hla,if_pos (by rfl)]
  have h5' := HG2.out.below h5
  refine ⟨?_,h5'.set HROW.out (by rw [HL2.out]; omega : d ≤ r.locs.length) (by rw [hbd]; exact j2) ?_ ?_,?_⟩
  ·rw [← hPP,HP.out]; unfold RS.join newR newB; simp
  ·show bitsLeaf.ok w6 (r.at_ d) r.P (orR x f d a f d)
   rw [hbd,hPP]
   refine bitsLeaf.congr j1 fun n _ => ?_
   unfold orR; rw [if_pos ⟨rfl,rfl⟩]
  ·intro g' v hne n
   show orR x f d a g' v n = x g' v n
   unfold orR; rw [if_neg hne]
  ·refine ((Ext.of_below_size (M := fun k => ∃ f u,tag k = (4,f,u)) (HB2.out.trans (h5.mono HB2.out.size))).trans j2 fun k hk => .inl ⟨f,d,?_⟩)
   rw [hk,← hbd]; exact hleafd.2
 have HJO : Hid (∀ W5,Below W2.heap.size W2 W5 → Calls Try.prog 111 #[.slice (some ⟨bd,0,none⟩) ((P + 63) / 64) ((P + 63) / 64),.slice (some ⟨ba,0,none⟩) ((P + 63) / 64) ((P + 63) / 64)] W5 (Joined bitsLeaf W5 bd P (x f d) (x f a))) := by
  intro W5 h5
  have h5' := (HG2.out.below h5).tab
  have hd5 := (h5'.leaf HROW.out (u := d) (by rw [HL2.out]; omega)).1
  have ha5 := (h5'.leaf HROW.out (u := a) (by rw [HL2.out]; omega)).1
  rw [hbd,hPP] at hd5
  rw [hba,hPP] at ha5
  exact join_calls W5 bd ba P _ _ hd5 ha5 (by rw [← hPP,HP.out]; omega)
 have HNO : Hid (∀ W5,Below W2.heap.size W2 W5 → (g.lentAt (d : Int) && g.lentAt (a : Int)) = false → InsP w m B R (.slice (some ⟨VA,0,none⟩) rows.length cv) (.slice (some ⟨FA,0,none⟩) rows.length cf) rows tag rn RS1 (.returned (.bool false)) W5) := by
  intro W5 h5 hl
  rw [HE.out,hl,if_neg (by simp)]
  exact ⟨rfl,HG2.out.below h5,Ext.of_below_size (HB2.out.trans (h5.mono HB2.out.size))⟩
 have kd' : W2.cell? ⟨T,d,none⟩ = some (.slice (some ⟨bd,0,none⟩) ((P + 63) / 64) ((P + 63) / 64)) := by rw [kd,hbd,hPP]; rfl
 have ka' : W2.cell? ⟨T,a,none⟩ = some (.slice (some ⟨ba,0,none⟩) ((P + 63) / 64) ((P + 63) / 64)) := by rw [ka,hba,hPP]; rfl
 have HBT : Hid (bd ≠ VA ∧ bd ≠ T ∧ bd ≠ R ∧ bd < N) := by
  have ht := hleafd.2
  rw [hbd] at ht
  refine ⟨?_,?_,?_,?_⟩
  ·rintro rfl
   have := h2.tab.tv bd rfl
   rw [ht] at this; simp at this
  ·rintro rfl
   have := (h2.tab.row f r hr).tr bd (by rw [htv]; rfl)
   rw [ht] at this; simp at this
  ·rintro rfl
   have := h2.tR
   rw [ht] at this; simp at this
  ·rw [← hN,← hbd]
   exact (h.tab.low (r.at_ d) (by rw [hleafd.2]; simp)).2
 have hdI : (d : Int) < (g.vs.length : Int) := by omega
 have haI : (a : Int) < (g.vs.length : Int) := by omega
 have HS : Hid (∀ W,Ext (· = bd) W2 W → W.cell? ⟨R,2,none⟩ = some (.slice (some ⟨VA,0,none⟩) rows.length cv) ∧ W.cell? ⟨VA,f,none⟩ = some (.slice (some ⟨T,0,none⟩) g.vs.length ct) ∧ W.cell? ⟨T,d,none⟩ = some (.slice (some ⟨bd,0,none⟩) ((P + 63) / 64) ((P + 63) / 64)) ∧ W.cell? ⟨T,a,none⟩ = some (.slice (some ⟨ba,0,none⟩) ((P + 63) / 64) ((P + 63) / 64)) ∧ W.cell? ⟨N,1,none⟩ = some (.int .i64 (d : Int)) ∧ W.cell? ⟨N,2,none⟩ = some (.int .i64 (a : Int))) := by
  intro W hW
  obtain ⟨t1,t2,t3,t4⟩ := HBT.out
  have z1 : R < W2.heap.size := by omega
  have z2 : VA < W2.heap.size := by omega
  refine ⟨?_,?_,?_,?_,?_,?_⟩
  ·rw [hW.cell (a := ⟨R,2,none⟩) z1 (fun e => t3 e.symm)]; exact kr2
  ·rw [hW.cell (a := ⟨VA,f,none⟩) z2 (fun e => t1 e.symm)]; exact kv2
  ·rw [hW.cell (a := ⟨T,d,none⟩) hT (fun e => t2 e.symm)]; exact kd'
  ·rw [hW.cell (a := ⟨T,a,none⟩) hT (fun e => t2 e.symm)]; exact ka'
  ·rw [hW.cell (a := ⟨N,1,none⟩) (by show N < _; omega) (fun e => by have e' : N = bd := e; omega)]; exact i1
  ·rw [hW.cell (a := ⟨N,2,none⟩) (by show N < _; omega) (fun e => by have e' : N = bd := e; omega)]; exact i2
 have i0 : W2.cell? ⟨N,0,none⟩ = some (.int .i64 i.op) := by rw [cell_of_row _ _ _ _ _ _ hr0]; rfl
 rcases hop with hop | hop
 all_goals
  rw [hop] at i0
  have hN2 : N < W2.heap.size := by omega
  have hf0 : (0 : Int) ≤ (f : Int) := by omega
  have hpb : (P + 63) / 64 ≤ 90000 := by rw [← hPP,hP]; omega
  have HVD := Lib.hid hvd
  have HVA2 := Lib.hid hva
  clear h h2 hin hgi hfc hrc hleafd hleafa hbd hba hPP kd ka htv kv kf hg hgm hi e1 e2 e3 har hone hb2 hbi hri hr0 hr1 hW2 hr hP hL hvd hva hWi hs2 hok HCA p0 p1 hfA hRl hrn HBT hop
  cases hld : g.lentAt (d : Int) with
  | false =>
   have k1 : ∀ p : BW W2,p.w.cell? ⟨N,1,none⟩ = some (.int .i64 (d : Int)) := fun p => (HS.out p.w (Ext.of_below_size p.h)).2.2.2.2.1
   have HL1 : Hid (∀ p : BW W2,Calls Try.prog 110 #[.int .i64 (d : Int),.pointer (some ⟨N + 1,0,none⟩)] p.w fun e w' => e = .returned (.bool false) ∧ Below p.w.heap.size p.w w') := fun p => by
    have := HLC.out p.w (d : Int) p.h HVD.out
    rw [hld] at this; exact this
   have HNO2 : Hid (∀ p : BW W2,InsP w m B R (.slice (some ⟨VA,0,none⟩) rows.length cv) (.slice (some ⟨FA,0,none⟩) rows.length cf) rows tag rn RS1 (.returned (.bool false)) p.w) := fun p => HNO.out p.w p.h (by rw [hld]; rfl)
   clear hld i1 i2 kr2 kv2 kd' ka'
   (go_enter Try.func91,Try.ntmps91; go_upto_region 1 with (fail); rw [HWi.out]; go_upto_region 6 with (first | (refine wpList_load_at rfl 50 _ rfl ⟨fb,fo + f * 8,none⟩ rfl g.cells _ HCI.out Try.underlying50 rfl (by kernel_rfl) ?_)))
   refine wp_region_quiet_bw (by kernel_rfl) (by kernel_rfl) ?_
   repeat (go_big_quiet_step (first
    | (go_at_call 110; exact bw_of (HL1.out _))))
   refine wpQuiet_nil ?_
   rintro _ ⟨p,rfl⟩
   go_wp2
   go_ret
   exact HNO2.out p
  | true =>
   cases hla : g.lentAt (a : Int) with
   | false =>
    have k1 : ∀ p : BW W2,p.w.cell? ⟨N,1,none⟩ = some (.int .i64 (d : Int)) := fun p => (HS.out p.w (Ext.of_below_size p.h)).2.2.2.2.1
    have k2 : ∀ p : BW W2,p.w.cell? ⟨N,2,none⟩ = some (.int .i64 (a : Int)) := fun p => (HS.out p.w (Ext.of_below_size p.h)).2.2.2.2.2
    have HLd : Hid (∀ p : BW W2,Calls Try.prog 110 #[.int .i64 (d : Int),.pointer (some ⟨N + 1,0,none⟩)] p.w fun e w' => e = .returned (.bool true) ∧ Below p.w.heap.size p.w w') := fun p => by
     have := HLC.out p.w (d : Int) p.h HVD.out
     rw [hld] at this; exact this
    have HLa : Hid (∀ p : BW W2,Calls Try.prog 110 #[.int .i64 (a : Int),.pointer (some ⟨N + 1,0,none⟩)] p.w fun e w' => e = .returned (.bool false) ∧ Below p.w.heap.size p.w w') := fun p => by
     have := HLC.out p.w (a : Int) p.h HVA2.out
     rw [hla] at this; exact this
    have HNO2 : Hid (∀ p : BW W2,InsP w m B R (.slice (some ⟨VA,0,none⟩) rows.length cv) (.slice (some ⟨FA,0,none⟩) rows.length cf) rows tag rn RS1 (.returned (.bool false)) p.w) := fun p => HNO.out p.w p.h (by rw [hld,hla]; rfl)
    clear i1 i2 kr2 kv2 kd' ka'
    (go_enter Try.func91,Try.ntmps91; go_upto_region 1 with (fail); rw [HWi.out]; go_upto_region 6 with (first | (refine wpList_load_at rfl 50 _ rfl ⟨fb,fo + f * 8,none⟩ rfl g.cells _ HCI.out Try.underlying50 rfl (by kernel_rfl) ?_)))
    refine wp_region_quiet_bw (by kernel_rfl) (by kernel_rfl) ?_
    repeat (go_big_quiet_step (fail))
    go_big_quiet_step ((go_at_call 110; exact bw_of (HLd.out _)))
    repeat (go_big_quiet_step (fail))
    go_big_quiet_step ((go_at_call 110; exact bw_of (HLa.out _)))
    repeat (go_big_quiet_step (fail))
    refine wpQuiet_nil ?_
    rintro _ ⟨p,rfl⟩
    go_wp2
    go_ret
    exact HNO2.out p
   | true =>
    have HL1 : Hid (∀ (W : World) (v : Int),Below W2.heap.size W2 W → v = (d : Int) ∨ v = (a : Int) → Calls Try.prog 110 #[.int .i64 v,.pointer (some ⟨N + 1,0,none⟩)] W fun e w' => e = .returned (.bool (g.lentAt v)) ∧ Below W2.heap.size W2 w') := fun W v hW hv =>
     (HLC.out W v hW (by rcases hv with rfl | rfl; exact HVD.out; exact HVA2.out)).mono fun _ _ ⟨h1,h2⟩ => ⟨h1,hW.trans (h2.mono hW.size)⟩
    have HFIN2 : Hid (∀ W5 w6,Below W2.heap.size W2 W5 → Joined bitsLeaf W5 bd P (x f d) (x f a) (.returned (.bool (newB P (x f d) (x f a)))) w6 → InsP w m B R (.slice (some ⟨VA,0,none⟩) rows.length cv) (.slice (some ⟨FA,0,none⟩) rows.length cf) rows tag rn RS1 (.returned (.bool (newB P (x f d) (x f a)))) w6) := fun W5 w6 h5 hj => HFIN.out W5 w6 h5 hld hla hj
    obtain ⟨NB,hNB⟩ : ∃ NB,newB P (x f d) (x f a) = NB := ⟨_,rfl⟩
    have HJO2 : Hid (∀ W5,Below W2.heap.size W2 W5 → Calls Try.prog 111 #[.slice (some ⟨bd,0,none⟩) ((P + 63) / 64) ((P + 63) / 64),.slice (some ⟨ba,0,none⟩) ((P + 63) / 64) ((P + 63) / 64)] W5 fun e w6 => e = .returned (.bool NB) ∧ InsP w m B R (.slice (some ⟨VA,0,none⟩) rows.length cv) (.slice (some ⟨FA,0,none⟩) rows.length cf) rows tag rn RS1 (.returned (.bool NB)) w6 ∧ Ext (· = bd) W2 w6) := fun W5 h5 =>
     (HJO.out W5 h5).mono fun e w6 hj => by
      obtain ⟨e1,j1,j2⟩ := hj
      subst e1
      rw [← hNB]
      exact ⟨rfl,HFIN2.out W5 w6 h5 ⟨rfl,j1,j2⟩,(Ext.of_below_size (M := (· = bd)) h5).trans j2 (fun k hk => .inl hk)⟩
    clear hNB HFIN HFIN2 HJO i1 i2 kr2 kv2 kd' ka'
    obtain ⟨q,hq⟩ : ∃ q,(P + 63) / 64 = q := ⟨_,rfl⟩
    rw [hq] at HJO2 HS hpb
    clear hq
    (go_enter Try.func91,Try.ntmps91; go_upto_region 1 with (fail); rw [HWi.out]; go_upto_region 6 with (first | (refine wpList_load_at rfl 50 _ rfl ⟨fb,fo + f * 8,none⟩ rfl g.cells _ HCI.out Try.underlying50 rfl (by kernel_rfl) ?_)))
    go_region_held3 (fun w' => w'.cell? ⟨R,2,none⟩ = some (.slice (some ⟨VA,0,none⟩) rows.length cv) ∧ w'.cell? ⟨VA,f,none⟩ = some (.slice (some ⟨T,0,none⟩) g.vs.length ct) ∧ w'.cell? ⟨T,d,none⟩ = some (.slice (some ⟨bd,0,none⟩) q q) ∧ w'.cell? ⟨T,a,none⟩ = some (.slice (some ⟨ba,0,none⟩) q q) ∧ w'.cell? ⟨N,1,none⟩ = some (.int .i64 (d : Int)) ∧ w'.cell? ⟨N,2,none⟩ = some (.int .i64 (a : Int)))
     (first | (exact hS) | (exact HS.out _ (Ext.refl _ _).drew))
     (first
      | (go_at_call 110; refine (HL1.out _ _ (by first | exact (Below.refl _ _).drew | exact hbb) (by first | exact .inl rfl | exact .inr rfl)).mono ?_; rintro e w11 ⟨rfl,hbb⟩; have hS := HS.out _ (Ext.of_below_size hbb))
      | (go_at_call 111; refine (HJO2.out _ hbb).mono ?_; rintro e w12 ⟨rfl,hins,hxx⟩; have HINS := Lib.hid hins; have hS := HS.out _ hxx; clear hins hxx))
    all_goals
     clear hS
     go_wp2
     go_ret
     exact HINS.out
end Go.Proofs.Ytlggjbopfnndbaa
