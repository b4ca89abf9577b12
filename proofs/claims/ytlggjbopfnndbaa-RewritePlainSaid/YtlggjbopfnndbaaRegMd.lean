/- regions' Module: the module with its origins, laid anew. -/
import Derived.Test.YtlggjbopfnndbaaG22
import Derived.Test.YtlggjbopfnndbaaG30
import Derived.Handy
namespace Go.Proofs.Ytlggjbopfnndbaa
open Go.RowKit
theorem setCell_noop {w : World} {b o : Nat} {cs : Array Value} {t : TypeId} {fr : Nat × Nat} {v : Value} (h : w.heap[b]? = some (.cells cs t fr)) (hv : cs[o]? = some v) : w.setCell ⟨b,o,none⟩ v = w := by
 have hc : cs.setIfInBounds o v = cs := by
  apply Array.ext_getElem?
  intro i
  rw [Array.getElem?_setIfInBounds]
  by_cases e : o = i
  ·subst e
   rw [if_pos rfl,hv,if_pos (Array.getElem?_eq_some_iff.1 hv).1]
  ·rw [if_neg e]
 have hh : (w.setCell ⟨b,o,none⟩ v).heap = w.heap := by
  apply Array.ext_getElem?
  intro i
  unfold World.setCell
  simp only
  rw [Array.getElem?_modify]
  by_cases e : b = i
  ·subst e
   rw [if_pos rfl,h]
   simp [hc]
  ·rw [if_neg e]
 have h2 : w.setCell ⟨b,o,none⟩ v = { w with heap := (w.setCell ⟨b,o,none⟩ v).heap } := rfl
 rw [h2,hh]
abbrev ownOf (ao : Option Addr) (n c : Nat) (X : Nat → Prop) (k : Nat) : Prop := (Value.slice ao n c).ownBlock = some k ∨ X k
structure MdM (X : Nat → Prop) (w : World) (B : Nat) (m : Mo) : Prop where
 low : B ≤ w.heap.size
 fown : w.ownsRow B 50 8 (.slice m.fA m.fs.length m.fC) m.fs.length (m.fs.flatMap fun g => g.cells.toList)
 rest : ∀ w',Ext (ownOf m.fA m.fs.length m.fC X) w w' → RowOf St.cells 4 w' w'.heap.size m.sA m.ss ∧ (∀ s ∈ m.ss,s.inn w') ∧ (∀ f ∈ m.fs,f.inn w')
 ns : m.ss.length ≤ maxLen
 nf : m.fs.length ≤ maxLen
theorem fnLen (g : Fn) : g.cells.toList.length = 8 := rfl
theorem stLen (s : St) : s.cells.toList.length = 4 := rfl
theorem vrLen (x : Vr) : x.cells.toList.length = 3 := rfl
theorem insLen (i : Ins) : i.cells.toList.length = 13 := rfl
theorem MdM.inn {X : Nat → Prop} {w : World} {B : Nat} {m : Mo} (h : MdM X w B m) : m.inn w := by
 obtain ⟨h1,h2,h3⟩ := h.rest w (Ext.refl _ _)
 exact ⟨h1,rowOf_owns fnLen h.fown,h2,h3,h.ns,h.nf⟩
theorem MdM.below {X : Nat → Prop} {w w' : World} {B : Nat} {m : Mo} (h : MdM X w B m) (hb : Below w.heap.size w w') : MdM X w' B m :=
 ⟨Nat.le_trans h.low hb.size,ownsRow_below h.fown hb,fun w2 h2 => h.rest w2 ((Ext.of_below_size (M := ownOf m.fA m.fs.length m.fC X) hb).trans h2 (fun _ hk => .inl hk)),h.ns,h.nf⟩
theorem MdM.push {w w7 w8 w9 : World} {B : Nat} {sA fA : Option Addr} {sC fC g8 cap8 : Nat} {ss : List St} {fs : List Fn} {g' : Fn} {o : Obj} {X : Nat → Prop} (h : MdM X w B ⟨sA,sC,fA,fC,ss,fs⟩) (hX : ∀ k,X k → k < B) (hb : Below w.heap.size w w7)
  (hown : w8.ownsRow B 50 8 (.slice (some ⟨g8,0,none⟩) (fs.length + 1) cap8) (fs.length + 1) ((fs.flatMap fun g => g.cells.toList) ++ g'.cells.toList)) (hg : (w7.alloc o).grownBy w8 (Value.slice fA fs.length fC).ownBlock)
  (hat : (Value.slice fA fs.length fC).ownBlock = some g8 ∨ g8 = (w7.alloc o).heap.size) (h9 : Ext X w8 w9) (hn : fs.length + 1 ≤ maxLen)
  (hg' : ∀ w',Ext (fun k => ownOf fA fs.length fC X k ∨ w7.heap.size ≤ k) w7 w' → g'.inn w') : MdM X w9 B ⟨sA,sC,some ⟨g8,0,none⟩,cap8,ss,fs ++ [g']⟩ := by
 have hx8 : Ext (fun k => (Value.slice fA fs.length fC).ownBlock = some k) w7 w8 := ext_grown ((Ext.refl _ _).alloc _) hg
 have hg8 : w7.heap.size ≤ g8 ∨ (Value.slice fA fs.length fC).ownBlock = some g8 := by
  rcases hat with e | e
  ·exact .inr e
  ·left; rw [e,World.size_alloc]; omega
 have h79 : Ext (ownOf fA fs.length fC X) w7 w9 := (hx8.mono (M' := ownOf fA fs.length fC X) (fun _ hk => .inl hk)).trans h9 (fun k hk => .inl (.inr hk))
 have key : ∀ w',Ext (ownOf (some ⟨g8,0,none⟩) (fs ++ [g']).length cap8 X) w9 w' → Ext (ownOf fA fs.length fC X) w7 w' := fun w' hx =>
  h79.trans hx fun k hk => by
   rcases hk with hk | hk
   ·have e : some g8 = some k := hk
    obtain rfl := Option.some.inj e
    rcases hg8 with q | q
    ·exact .inr q
    ·exact .inl (.inl q)
   ·exact .inl (.inr hk)
 refine ⟨?_,?_,fun w' hx => ?_,h.ns,?_⟩
 ·have := h.low; have := hb.size; have := hx8.size; have := h9.size; omega
 ·show w9.ownsRow B _ 8 (.slice (some ⟨g8,0,none⟩) (fs ++ [g']).length cap8) (fs ++ [g']).length _
  rw [List.length_append,List.flatMap_append]
  have e : ([g'].flatMap fun g => g.cells.toList) = g'.cells.toList := by simp
  rw [e]
  exact ownsRow_ext hown h9 (fun k hk hk' => by have := (hown.lt k hk).1; have := hX k hk'; omega)
 ·have hk := key w' hx
  obtain ⟨a1,a2,a3⟩ := h.rest w' ((Ext.of_below_size (M := ownOf fA fs.length fC X) hb).trans hk (fun _ hk => .inl hk))
  refine ⟨a1,a2,fun f hf => ?_⟩
  rcases List.mem_append.1 hf with hf | hf
  ·exact a3 f hf
  ·rw [List.mem_singleton.1 hf]
   exact hg' w' (hk.mono fun k hk => .inl hk)
 ·show (fs ++ [g']).length ≤ maxLen
  rw [List.length_append]; exact hn
def WithFrom (g g' : Fn) (l : List Nat) : Prop :=
 g' = ⟨{ g.c with fromA := g'.c.fromA,nfrom := l.length,fromC := g'.c.fromC },g.vs,l.map fun n : Nat => (n : Int),g.mds⟩
def FnsUp (m : Mo) (x : Nat → Nat → Nat → Bool) (fs : List Fn) : Prop := ∀ (f : Nat) (g' : Fn),fs[f]? = some g' → ∃ g,m.fs[f]? = some g ∧ WithFrom g g' (fromL m x (f : Int))
def ModP (B0 : Nat) (w : World) (m : Mo) (x : Nat → Nat → Nat → Bool) (e : Ending) (w' : World) : Prop :=
 ∃ m' : Mo,e = .returned (.agg m'.cells) ∧ MdM (fun k => B0 ≤ k ∧ k ≤ w.heap.size) w' (w.heap.size + 1) m' ∧ m'.ss = m.ss ∧ m'.fs.length = m.fs.length ∧ FnsUp m x m'.fs ∧ Below w.heap.size w w'
def ModI (B0 : Nat) (w : World) (m : Mo) (x : Nat → Nat → Nat → Bool) (RB : Nat) (sA : Option Addr) (sC : Nat) (c : Value) (wr : World) : Prop :=
 ∃ (j : Nat) (fs : List Fn) (fA : Option Addr) (fC : Nat),j ≤ m.fs.length ∧ c = .int .i64 (j : Int) ∧ fs.length = j ∧ wr.heap[RB]? = some (.cells #[.slice sA m.ss.length sC,.slice fA fs.length fC] 25 (0,0)) ∧
  MdM (fun k => B0 ≤ k ∧ k ≤ RB) wr (RB + 1) ⟨sA,sC,fA,fC,m.ss,fs⟩ ∧ FnsUp m x fs ∧ Below w.heap.size w wr
section
variable {w : World} {m : Mo} {B R : Nat} {vv fv : Value} {rows : List FR} {x : Nat → Nat → Nat → Bool} {tag : Tag} {rn : Int}
theorem withFrom_inn {w w6 w' : World} {g g' : Fn} {l : List Nat} {M : Nat → Prop} (hg : g.inn w) (hw : Below w.heap.size w w') (hown : w6.ownsRow w.heap.size 3 1 (.slice g'.c.fromA l.length g'.c.fromC) l.length (l.flatMap encN)) (hx : Ext M w6 w') (hM : ∀ k,(Value.slice g'.c.fromA l.length g'.c.fromC).ownBlock = some k → ¬ M k)
  (hl : l.length ≤ maxLen) (hf : WithFrom g g' l) : g'.inn w' := by
 have hi := hg.below hw
 have h2 := ownsRow_ext hown hx hM
 have hrow : IntRow w' g'.c.fromA (l.map fun n : Nat => (n : Int)) := by
  intro hne
  have hl0 : 0 < l.length := by
   rcases l with _ | ⟨a,r⟩
   ·exact absurd rfl hne
   ·simp
  rcases h2.2 with ⟨_,h0⟩ | ⟨b,cap,cur,e,_,h3,_⟩
  ·omega
  ·simp only [Value.slice.injEq] at e
   obtain ⟨e1,_,e2⟩ := e
   refine ⟨b,0,e1,(Array.getElem?_eq_some_iff.1 h3).1,fun i z hz k u hu => ?_⟩
   have hk : k = 0 := by have := (List.getElem?_eq_some_iff.1 hu).1; simp at this; exact this
   subst hk
   have hu' : u = .int .i64 z := by simpa using hu.symm
   subst hu'
   rw [List.getElem?_map] at hz
   obtain ⟨n,hn,rfl⟩ := Option.map_eq_some_iff.1 hz
   have h4 := h2.cells (g := b) (by rw [e1]; rfl) i (.int .i64 (n : Int)) (by rw [encN_flat]; simp [hn])
   rw [Addr.add_lit] at h4
   simpa using h4
 obtain ⟨A,N,C,hA,hN,hC⟩ : ∃ A N C,g'.c.fromA = A ∧ l.length = N ∧ g'.c.fromC = C := ⟨_,_,_,rfl,rfl,rfl⟩
 unfold WithFrom at hf
 rw [hf]
 exact ⟨⟨hi.code.row,hi.code.args,hi.code.len,hi.code.vars,hi.code.nvars,hl,⟨l.map fun n : Nat => (n : Int),by simp,hrow⟩⟩,hi.nm,hi.nvars,hi.vars,by simp,hrow,hi.nmds,hi.mds⟩
set_option maxRecDepth 100000 in
set_option maxHeartbeats 8000000 in
theorem module19_calls {w0 : World} (hm0 : m.inn w0) (hb0 : Below w0.heap.size w0 w) (h : RgM w m B R vv fv rows x tag rn) (hok : OkR m) (hss : m.ss.length ≤ 30) :
  Calls Try.prog 32 #[.pointer (some ⟨R,0,none⟩)] w (ModP w0.heap.size w m x) := by
 have HM00 := Lib.hid hm0
 have HB00 := Lib.hid hb0
 obtain ⟨B0,hB0⟩ : ∃ B0,w0.heap.size = B0 := ⟨_,rfl⟩
 have HB0 := Lib.hid hB0
 have HB0w : Hid (B0 ≤ w.heap.size) := by unfold Hid; rw [← hB0]; exact hb0.size
 rw [hB0]
 clear hm0 hb0 hB0
 obtain ⟨RB,hRB⟩ : ∃ RB,w.heap.size = RB := ⟨_,rfl⟩
 obtain ⟨W1,hW1⟩ : ∃ W1,w.alloc (.cells #[.slice none 0 0,.slice none 0 0] 25) = W1 := ⟨_,rfl⟩
 have hb1 : Below RB w W1 := by rw [← hW1,← hRB]; exact (Below.refl _ _).alloc (Nat.le_refl _) _
 have hr1 : W1.heap[RB]? = some (.cells #[.slice none 0 0,.slice none 0 0] 25 (0,0)) := by rw [← hW1,← hRB]; exact alloc_at _ _
 have hs1 : W1.heap.size = RB + 1 := by rw [← hW1]; simp [hRB]
 have h1 := h.below (by rw [hRB]; exact hb1)
 have c0 : W1.cell? ⟨R,0,none⟩ = some (.slice m.sA m.ss.length m.sC) := by rw [cell_of_row _ _ _ _ _ _ h1.rec_]; rfl
 obtain ⟨hz1,hz2⟩ := rowOf_flat stLen (by decide) h1.inn.srow
 have HCL := Lib.hid (cloneSt_calls W1 m.sA m.ss.length m.sC (m.ss.flatMap fun s => s.cells.toList) (flat_len stLen _) hz1 hz2 (cells_one fun s _ => stOne s) (by omega))
 have HG := Lib.hid h
 have HOK := Lib.hid hok
 have HB1 := Lib.hid hb1
 have HR1 := Lib.hid hr1
 have HS1 := Lib.hid hs1
 have HRB := Lib.hid hRB
 have HW1 := Lib.hid hW1
 have hn60 := hok.nf
 have HMW : Hid (∀ W,Below RB w W → RgM W m B R vv fv rows x tag rn) := fun W hW => HG.out.below (by rw [HRB.out]; exact hW)
 have HZ : Hid (∀ W,Below RB w W → W.cell? ⟨R,1,none⟩ = some (.slice m.fA m.fs.length m.fC)) := fun W hW => by rw [cell_of_row _ _ _ _ _ _ (HMW.out W hW).rec_]; rfl
 clear h hok h1 hz1 hz2 hW1 hb1 hr1 hs1
 go_enter Try.func32,Try.ntmps32
 go_upto_region 1 with (fail)
 rw [HW1.out]
 go_wp2_with fail
 go_at_call 67
 refine HCL.out.mono ?_
 rintro e w2 ⟨v2,rfl,hown2,hb2⟩
 obtain ⟨sA,sC,rfl⟩ := ownsRow_slice hown2
 have hb2w : Below RB w w2 := HB1.out.trans (hb2.mono (by rw [HS1.out]; omega))
 have hr2 : w2.heap[RB]? = some (.cells #[.slice none 0 0,.slice none 0 0] 25 (0,0)) := (hb2.block RB (by rw [HS1.out]; omega)).trans HR1.out
 have y0 : w2.cell? ⟨RB,0,none⟩ = some (.slice none 0 0) := by rw [cell_of_row _ _ _ _ _ _ hr2]; rfl
 have yf : w2.frozen? ⟨RB,0,none⟩ = false := frozen_of_row _ _ _ _ _ hr2
 obtain ⟨W3,hW3⟩ : ∃ W3,w2.setCell ⟨RB,0,none⟩ (.slice sA m.ss.length sC) = W3 := ⟨_,rfl⟩
 have hx3 : Ext (· = RB) w2 W3 := by rw [← hW3]; exact Ext.set1 _ _ _ _
 have hr3 : W3.heap[RB]? = some (.cells #[.slice sA m.ss.length sC,.slice none 0 0] 25 (0,0)) := by
  have := heap_setCell_same w2 RB 0 _ _ (.slice sA m.ss.length sC) hr2
  rw [hW3] at this; exact this
 have hb3 : Below RB w W3 := hb2w.trans (hx3.below (by have := hb2w.size; have := HRB.out; omega) (fun k hk => by omega))
 have HM0 : Hid (MdM (fun k => B0 ≤ k ∧ k ≤ RB) W3 (RB + 1) ⟨sA,sC,none,0,m.ss,[]⟩) := by
  have hX : ∀ {w' : World},Ext (ownOf none ([] : List Fn).length 0 (fun k => B0 ≤ k ∧ k ≤ RB)) W3 w' → Ext (fun k => B0 ≤ k ∧ k ≤ RB) w2 w' := fun hx =>
   (hx3.mono (M' := fun k => B0 ≤ k ∧ k ≤ RB) (fun k hk => by have := HB0w.out; have := HRB.out; omega)).trans hx (fun k hk => by
    rcases hk with hk | hk
    ·exact absurd hk (by simp [Value.ownBlock])
    ·exact .inl hk)
  refine ⟨by have := (Array.getElem?_eq_some_iff.1 hr3).1; omega,World.ownsRow_nil _ _ _ _,fun w' hx => ⟨?_,fun s hs => ?_,fun f hf => absurd hf (by simp)⟩,?_,by simp⟩
  ·have ho := ownsRow_ext hown2 (hX hx) (fun k hk e => by have := (hown2.lt k hk).1; rw [HS1.out] at this; omega)
   exact rowOf_owns (xs := m.ss) stLen ho
  ·have q1 : Below w0.heap.size w0 w2 := HB00.out.trans (hb2w.mono (by rw [← HRB.out,HB0.out]; exact HB0w.out))
   exact (HM00.out.sin s hs).below (q1.trans ((hX hx).below q1.size (fun k hk => by rw [HB0.out]; exact hk.1)))
  ·exact HM00.out.ns
 have z1 := HZ.out W3 hb3
 have HB3 := Lib.hid hb3
 have HR3 := Lib.hid hr3
 have HW3 := Lib.hid hW3
 clear hown2 hb2 hb2w hr2 hW3 hx3 hr3 hb3 c0
 go_upto_region 4 with (fail)
 rw [HW3.out]
 clear y0 yf
 go_wp2_with fail
 clear z1
 go_loopw [21] (fun c wr => ModI B0 w m x RB sA sC c wr) (fun c _ => m.fs.length - (intOf c).toNat)
 case atStart =>
  exact ⟨0,[],none,0,Nat.zero_le _,rfl,rfl,HR3.out,HM0.out,fun f g h => (by simp at h),by rw [HRB.out]; exact HB3.out⟩
 case round =>
  clear HM0 HR3 HB3
  obtain ⟨j,fs,fA,fC,hj,rfl,hfl,hrb,hmd,hup,hbw⟩ := hrel
  by_cases hjn : j < m.fs.length
  ·subst hfl
   have hjI : (fs.length : Int) < (m.fs.length : Int) := by omega
   obtain ⟨g,hg⟩ : ∃ g,m.fs[fs.length]? = some g := ⟨_,List.getElem?_eq_getElem hjn⟩
   have hgr := HMW.out wr (by rw [← HRB.out]; exact hbw)
   obtain ⟨fb,fo,hfA,hfb,hfc⟩ := hgr.inn.frow (by intro e; rw [e] at hjn; simp at hjn)
   have HCA : Hid (∀ k u,g.cells.toList[k]? = some u → wr.cell? ((⟨fb,fo + fs.length * 8,none⟩ : Addr).add k) = some u) := fun k u hu => by rw [Addr.add_lit]; exact hfc _ g hg k u hu
   obtain ⟨N,hN⟩ : ∃ N,wr.heap.size = N := ⟨_,rfl⟩
   have hst : ∀ c : Array Value,c.size = 8 → (storeCells ⟨wr.heap.size,0,none⟩ g.cells.toList).run Try.prog (wr.alloc (.cells c 50)) = .ok () (wr.alloc (.cells g.cells 50)) := fun c hc =>
    run_storeCells_new (P := Try.prog) wr 50 c g.cells (by show _ = some 8; kernel_rfl) hc (fnOne g)
   obtain ⟨W4,hW4⟩ : ∃ W4,wr.alloc (.cells g.cells 50) = W4 := ⟨_,rfl⟩
   rw [hW4,hN] at hst
   have hb4 : Below wr.heap.size wr W4 := by rw [← hW4]; exact (Below.refl _ _).alloc (Nat.le_refl _) _
   have hr4 : W4.heap[N]? = some (.cells g.cells 50 (0,0)) := by rw [← hW4,← hN]; exact alloc_at _ _
   have hs4 : W4.heap.size = N + 1 := by rw [← hW4]; simp [hN]
   have hg4 := hgr.below hb4
   have HFR := Lib.hid (from19_calls hg4 HOK.out (fs.length : Int))
   obtain ⟨l,hl⟩ : ∃ l,fromL m x (fs.length : Int) = l := ⟨_,rfl⟩
   rw [hl] at HFR
   have hll : l.length ≤ 300 := by
    rw [← hl]; unfold fromL
    split
    ·rw [Int.toNat_natCast,np_get hg]
     have := rf_len (x fs.length (m.nv fs.length)) g.c.par.toNat
     have := HOK.out.fn g (List.mem_of_getElem? hg)
     omega
    ·simp
   have HMD := Lib.hid hmd
   have HUP := Lib.hid hup
   have HBW := Lib.hid hbw
   have HRBB := Lib.hid hrb
   have HB4 := Lib.hid hb4
   have HR4 := Lib.hid hr4
   have HS4 := Lib.hid hs4
   have HN := Lib.hid hN
   have HL := Lib.hid hl
   have HGG := Lib.hid hg
   have HG4 := Lib.hid hg4
   have hfs60 : fs.length ≤ 60 := by omega
   clear hg hgr hfc hW4 hb4 hr4 hs4 hg4 hl hmd hup hbw hrb
   rw [hfA]
   go_upto_region 7 with (first | (refine wpList_load_at rfl 50 _ rfl ⟨fb,fo + fs.length * 8,none⟩ rfl g.cells _ HCA.out Try.underlying50 rfl (by kernel_rfl) ?_))
   clear hst
   go_wp2_with fail
   go_at_call 27
   refine HFR.out.mono ?_
   rintro e w6 ⟨v6,rfl,hown6,hb6⟩
   obtain ⟨ao,cap,rfl⟩ := ownsRow_slice hown6
   have hNl : N < W4.heap.size := by rw [HS4.out]; omega
   have hr6 : w6.heap[N]? = some (.cells g.cells 50 (0,0)) := (hb6.block N hNl).trans HR4.out
   have t6 : w6.cell? ⟨N,6,none⟩ = some (.slice g.c.fromA g.c.nfrom g.c.fromC) := by rw [cell_of_row _ _ _ _ _ _ hr6]; rfl
   have f6 : w6.frozen? ⟨N,6,none⟩ = false := frozen_of_row _ _ _ _ _ hr6
   obtain ⟨W7,hW7⟩ : ∃ W7,w6.setCell ⟨N,6,none⟩ (.slice ao l.length cap) = W7 := ⟨_,rfl⟩
   have hx7 : Ext (· = N) w6 W7 := by rw [← hW7]; exact Ext.set1 _ _ _ _
   obtain ⟨g',hg'⟩ : ∃ g' : Fn,g' = ⟨{ g.c with fromA := ao,nfrom := l.length,fromC := cap },g.vs,l.map fun n : Nat => (n : Int),g.mds⟩ := ⟨_,rfl⟩
   have hr7 : W7.heap[N]? = some (.cells g'.cells 50 (0,0)) := by
    have := heap_setCell_same w6 N 6 _ _ (.slice ao l.length cap) hr6
    rw [hW7] at this
    rw [this,hg']; rfl
   have hbr6 : Below wr.heap.size wr w6 := HB4.out.trans (hb6.mono HB4.out.size)
   have hbr7 : Below wr.heap.size wr W7 := hbr6.trans (hx7.below (by have := hbr6.size; omega) (fun k hk => by rw [hk,HN.out]; exact Nat.le_refl _))
   have hRBlt : RB < wr.heap.size := (Array.getElem?_eq_some_iff.1 HRBB.out).1
   have hrb7 : W7.heap[RB]? = some (.cells #[.slice sA m.ss.length sC,.slice fA fs.length fC] 25 (0,0)) := (hbr7.block RB hRBlt).trans HRBB.out
   have hwf : WithFrom g g' l := by unfold WithFrom; rw [hg']
   have e6A : g'.c.fromA = ao := by rw [hg']
   have e6C : g'.c.fromC = cap := by rw [hg']
   have hmd7 := HMD.out.below hbr7
   have HGI : Hid (∀ w',Ext (fun k => ownOf fA fs.length fC (fun k => B0 ≤ k ∧ k ≤ RB) k ∨ W7.heap.size ≤ k) W7 w' → g'.inn w') := by
    intro w' hx
    have hM : ∀ k,(ownOf fA fs.length fC (fun k => B0 ≤ k ∧ k ≤ RB) k ∨ W7.heap.size ≤ k) → (B0 ≤ k ∧ k < N) ∨ W7.heap.size ≤ k := by
     rintro k ((hk | hk) | hk)
     ·have := HMD.out.fown.lt k hk
      have := HN.out
      have := HB0w.out
      have := HRB.out
      exact .inl ⟨by omega,by omega⟩
     ·exact .inl ⟨hk.1,by have := HN.out; omega⟩
     ·exact .inr hk
    have hx67 : Ext (fun k => k = N ∨ (B0 ≤ k ∧ k < N) ∨ W7.heap.size ≤ k) w6 w' := (hx7.mono (M' := fun k => k = N ∨ (B0 ≤ k ∧ k < N) ∨ W7.heap.size ≤ k) (fun _ h => .inl h)).trans hx (fun k hk => .inl (.inr (hM k hk)))
    have hwb : Below w0.heap.size w0 w' := by
     have q0 : Below w.heap.size w w6 := HBW.out.trans (hbr6.mono HBW.out.size)
     have q1 : Below w0.heap.size w0 w6 := HB00.out.trans (q0.mono HB00.out.size)
     refine q1.trans (hx67.below q1.size (fun k hk => ?_))
     rw [HB0.out]
     have := HB0w.out
     have := HRB.out
     have := HBW.out.size
     have := HN.out
     rcases hk with hk | hk | hk
     ·omega
     ·omega
     ·have := hbr7.size; omega
    have hown6' : w6.ownsRow w0.heap.size 3 1 (.slice g'.c.fromA l.length g'.c.fromC) l.length (l.flatMap encN) := by
     rw [e6A,e6C]
     exact ownsRow_base hown6 (fun k hk => by have := (hown6.lt k hk).1; have := HBW.out.size; have := HB4.out.size; have := HB0w.out; have := HB0.out; omega)
    have hgw0 : g.inn w0 := by
     have h1 := (HG.out.inn)
     exact HM00.out.fin g (List.mem_of_getElem? HGG.out)
    refine withFrom_inn hgw0 hwb hown6' hx67 (fun k hk hk' => ?_) (by unfold maxLen; omega) hwf
    rw [e6A,e6C] at hk
    have q := hown6.lt k hk
    have := HS4.out
    have := hx7.size
    have e7 : W7.heap.size = w6.heap.size := by rw [← hW7]; exact World.size_setCell _ _ _
    rcases hk' with hk' | hk' | hk' <;> omega
   have HUP2 : Hid (FnsUp m x (fs ++ [g'])) := by
    intro f q hq
    rcases Nat.lt_or_ge f fs.length with hlt | hge
    ·rw [List.getElem?_append_left hlt] at hq
     exact HUP.out f q hq
    ·have hfe : f = fs.length := by
      have := (List.getElem?_eq_some_iff.1 hq).1
      rw [List.length_append] at this; simp at this; omega
     subst hfe
     rw [List.getElem?_append_right (Nat.le_refl _),Nat.sub_self] at hq
     have e : g' = q := by simpa using hq
     rw [← e]
     exact ⟨g,HGG.out,by rw [HL.out]; exact hwf⟩
   have b1 : W7.cell? ⟨RB,1,none⟩ = some (.slice fA fs.length fC) := by rw [cell_of_row _ _ _ _ _ _ hrb7]; rfl
   have HRB7 := Lib.hid hrb7
   have HMD7 := Lib.hid hmd7
   have HLD : Hid (∀ k u,g'.cells.toList[k]? = some u → W7.cell? ((⟨N,0,none⟩ : Addr).add k) = some u) := fun k u hu => by
    rw [Addr.add_lit,Nat.zero_add,cell_of_row _ _ _ _ _ _ hr7]; simpa using hu
   have HCL8 : Hid (g'.cells = #[.string g.c.nm,.int .i64 g.c.par,.slice g.c.varsA g.c.nvars g.c.varsC,.bool g.c.rp,.string g.c.rto,.int .i64 g.c.rcl,.slice ao l.length cap,.slice g.c.insA g.c.ins.length g.c.insC]) := by unfold Hid; rw [hg']; rfl
   rw [HCL8.out] at HLD
   have HB7 : Hid (Below w.heap.size w W7) := HBW.out.trans (hbr7.mono HBW.out.size)
   have HBR7 := Lib.hid hbr7
   have HW7 := Lib.hid hW7
   have HSTEP : Hid (∀ (g8 cap8 : Nat) (w8 : World) (o : Obj),w8.ownsRow (RB + 1) 50 8 (.slice (some ⟨g8,0,none⟩) (fs.length + 1) cap8) (fs.length + 1) ((fs.flatMap fun g => g.cells.toList) ++ [.string g.c.nm,.int .i64 g.c.par,.slice g.c.varsA g.c.nvars g.c.varsC,.bool g.c.rp,.string g.c.rto,.int .i64 g.c.rcl,.slice ao l.length cap,.slice g.c.insA g.c.ins.length g.c.insC]) →
     (W7.alloc o).grownBy w8 (Value.slice fA fs.length fC).ownBlock → ((Value.slice fA fs.length fC).ownBlock = some g8 ∨ g8 = (W7.alloc o).heap.size) →
     (w8.cell? ⟨RB,1,none⟩ = some (.slice fA fs.length fC) ∧ w8.frozen? ⟨RB,1,none⟩ = false) ∧ ModI B0 w m x RB sA sC (.int .i64 ((fs.length : Int) + 1)) (w8.setCell ⟨RB,1,none⟩ (.slice (some ⟨g8,0,none⟩) (fs.length + 1) cap8))) := by
    intro g8 cap8 w8 o ho hgr hat
    have hx8 : Ext (fun k => (Value.slice fA fs.length fC).ownBlock = some k) W7 w8 := ext_grown ((Ext.refl _ _).alloc _) hgr
    have hrb8 := hx8.heap HRB7.out (fun hk => by have := (HMD7.out.fown.lt RB hk).1; omega)
    have hx9 : Ext (· = RB) w8 (w8.setCell ⟨RB,1,none⟩ (.slice (some ⟨g8,0,none⟩) (fs.length + 1) cap8)) := Ext.set1 _ _ _ _
    refine ⟨⟨by rw [cell_of_row _ _ _ _ _ _ hrb8]; rfl,frozen_of_row _ _ _ _ _ hrb8⟩,fs.length + 1,fs ++ [g'],some ⟨g8,0,none⟩,cap8,hjn,by simp,by simp,?_,?_,HUP2.out,?_⟩
    ·rw [List.length_append]
     exact heap_setCell_same w8 RB 1 _ _ (.slice (some ⟨g8,0,none⟩) (fs.length + 1) cap8) hrb8
    ·exact MdM.push HMD.out (fun k hk => by omega) HBR7.out (by rw [HCL8.out]; exact ho) hgr hat (hx9.mono fun k hk => ⟨by have := HB0w.out; have := HRB.out; omega,by omega⟩) (by unfold maxLen; omega) HGI.out
    ·exact HB7.out.trans (((hx8.mono (M' := fun k => RB ≤ k) (fun k hk => by have := (HMD7.out.fown.lt k hk).1; omega)).trans hx9 (fun k hk => .inl (by rw [hk]; exact Nat.le_refl _))).below HB7.out.size (fun k hk => by rw [HRB.out]; exact hk))
   clear hown6 hb6 hr6 hW7 hx7 hg' hr7 hbr6 hbr7 hrb7 hwf e6A e6C hmd7 hNl HFR HCA
   obtain ⟨i0,hi0,hi1,hi2,hi3⟩ := info_parts info_cod
   go_upto_region 8 with (fail)
   rw [HW7.out]
   clear t6 f6
   go_wp2_with (first
    | (refine wpList_load_at rfl 50 _ rfl ⟨N,0,none⟩ rfl _ _ HLD.out Try.underlying50 rfl (by kernel_rfl) ?_)
    | (at_builtin; refine wpList_append_lies _ rfl (.tmp 31) (.tmp 33) 23 rfl (RB + 1) 50 i0 _ 8 128 Try.underlying23 hi0 hi1 hi2 hi3 rfl (by decide) (.slice fA fs.length fC) fs.length (fs.flatMap fun g => g.cells.toList) rfl (ownsRow_below HMD7.out.fown ((Below.refl W7.heap.size W7).alloc (Nat.le_refl _) _)) ⟨W7.heap.size,0,none⟩ 1 1 [.string g.c.nm,.int .i64 g.c.par,.slice g.c.varsA g.c.nvars g.c.varsC,.bool g.c.rp,.string g.c.rto,.int .i64 g.c.rcl,.slice ao l.length cap,.slice g.c.insA g.c.ins.length g.c.insC] rfl rfl (cells_new _ _ _) (by simp [Value.oneCell']) (by decide) (by unfold maxLen; omega) (by omega) (by have := HMD7.out.low; rw [World.size_alloc]; exact Nat.le_succ_of_le this) _ rfl ?_; intro g8 cap8 w8 hown8 hgrow8 hat8 hlt8; obtain ⟨⟨u1,u2⟩,hnx⟩ := HSTEP.out g8 cap8 w8 _ hown8 hgrow8 hat8; have HNX := Lib.hid hnx; clear hown8 hgrow8 hat8 hlt8 hnx))
   go_roundw
   case rel => exact HNX.out
   case measure => simp [intOf]; omega
  ·have y0 : wr.cell? ⟨RB,0,none⟩ = some (.slice sA m.ss.length sC) := by rw [cell_of_row _ _ _ _ _ _ hrb]; rfl
   have y1 : wr.cell? ⟨RB,1,none⟩ = some (.slice fA fs.length fC) := by rw [cell_of_row _ _ _ _ _ _ hrb]; rfl
   have f0 : wr.frozen? ⟨RB,0,none⟩ = false := frozen_of_row _ _ _ _ _ hrb
   have f1 : wr.frozen? ⟨RB,1,none⟩ = false := frozen_of_row _ _ _ _ _ hrb
   have hfl2 : fs.length = m.fs.length := by omega
   have HF : Hid (∀ W,Ext (· = RB) wr W → ModP B0 w m x (.returned (.agg #[.slice sA m.ss.length sC,.slice fA fs.length fC])) W) := by
    intro W hW
    have hlt := (Array.getElem?_eq_some_iff.1 hrb).1
    have hWX : Ext (ownOf fA fs.length fC (fun k => B0 ≤ k ∧ k ≤ RB)) wr W := hW.mono fun k hk => .inr ⟨by have := HB0w.out; have := HRB.out; omega,by omega⟩
    refine ⟨⟨sA,sC,fA,fC,m.ss,fs⟩,rfl,⟨?_,?_,fun w' hx => hmd.rest w' (hWX.trans hx (fun k hk => by rw [HRB.out] at hk; exact .inl hk)),hmd.ns,hmd.nf⟩,rfl,hfl2,hup,hbw.trans (hW.below hbw.size (fun k hk => by have := HRB.out; omega))⟩
    ·rw [HRB.out]; have := hW.size; omega
    ·rw [HRB.out]
     exact ownsRow_ext hmd.fown hW (fun k hk e => by have := (hmd.fown.lt k hk).1; omega)
   have n0 : wr.setCell ⟨RB,0,none⟩ (.slice sA m.ss.length sC) = wr := setCell_noop hrb rfl
   have n1 : wr.setCell ⟨RB,1,none⟩ (.slice fA fs.length fC) = wr := setCell_noop hrb rfl
   rw [hfl2] at n1 y1 HF
   clear hrb hmd hup hbw hfl
   go_wp2
   exact bodyPost_ret (v := .agg #[.slice sA m.ss.length sC,.slice fA m.fs.length fC]) (by simp [results,Try.results32,go_sem,y0,y1]) rfl (HF.out wr (Ext.refl _ _))
end
end Go.Proofs.Ytlggjbopfnndbaa
