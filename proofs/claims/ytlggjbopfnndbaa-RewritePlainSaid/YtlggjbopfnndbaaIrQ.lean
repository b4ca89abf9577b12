/- ir.Right: which modules are right, and what is wrong first. -/
import Derived.Test.YtlggjbopfnndbaaG15
import Derived.Test.YtlggjbopfnndbaaIrP
import Derived.Laws.IdiomCopy
import Derived.Sort.LoopGhostIn
import Derived.Sort.QuietIn
namespace Go.Proofs.Ytlggjbopfnndbaa
open Go.RowKit
attribute [local go_sem] Oper.semAt_some
private theorem fold_one (p : Tmp) (v : Value) (t : Array Value) : ((#[p] : Array Tmp).zip #[v]).foldl (fun t (p,v) => t.setIfInBounds p v) t = t.setIfInBounds p v := by simp
theorem types_calls (m : Mo) (w : World) : Calls Try.prog 77 #[.agg m.cells] w fun e w' =>
  e = .returned (.func (.func 100) #[] #[.pointer (some ⟨w.heap.size,0,none⟩)]) ∧ w' = w.alloc (.cells m.cells 25) := by
 have hmf : ∀ (fn : Fn) (first cap : Array Value) (w : World),True := fun _ _ _ _ => trivial
 clear hmf
 go_enter Try.func77,Try.ntmps77
 go_wp2
 go_ret
 exact ⟨rfl,rfl⟩
def zfn : Fn := ⟨⟨⟨#[]⟩,0,none,0,0,false,⟨#[]⟩,0,none,0,0,none,0,[]⟩,[],[],[]⟩
def putMany (cs : Array Value) : Nat → List Value → Array Value
 | _,[] => cs
 | o,v :: r => putMany (cs.setIfInBounds o v) (o + 1) r
theorem setCells_row {b : Nat} {t : TypeId} : ∀ (vs : List Value) (o : Nat) (w : World) (cs : Array Value),w.heap[b]? = some (.cells cs t (0,0)) → (w.setCells b o vs).heap[b]? = some (.cells (putMany cs o vs) t (0,0))
 | [],_,_,_,h => h
 | v :: r,o,w,cs,h => setCells_row r (o + 1) _ _ (heap_setCell_same w b o cs t v h)
theorem putMany_jg (m : Mo) (g f : Fn) : putMany (jg m g) 2 f.cells.toList = jg m f := by
 simp [putMany,jg,Fn.cells,Cod.cells]
theorem jg_one (m : Mo) (g : Fn) : ((jg m g).all fun x => x.oneCell') = true := by
 rw [← Array.all_toList]; simp [jg,Value.oneCell']
theorem right_results (tmps : Array Value) (w : World) (ad : Addr) (v : Value) (ht : tmps[2]? = some (.pointer (some ad))) (hc : w.cell? ad = some v) : (results Try.f51 tmps).run Try.prog w = .ok v w := by
 simp [results,go_sem,ht,hc]
structure RightIn (w : World) (m : Mo) : Prop where
 mo : m.inn w
 sl : m.ss.length ≤ 90000
 fl : m.fs.length ≤ 90000
 fd : ∀ s ∈ m.ss,s.fs.length ≤ 90000
 vl : ∀ f ∈ m.fs,f.vs.length ≤ 90000
 al : ∀ f ∈ m.fs,∀ i ∈ f.c.ins,i.args.length ≤ 40
theorem World.keptBut_ext (b : Nat) : ∀ (vs : List Value) (o : Nat) (w : World),Ext (· = b) w (w.setCells b o vs)
 | [],_,w => Ext.refl _ w
 | v :: r,o,w => (Ext.set1 w b o v).trans (World.keptBut_ext b r (o + 1) _) (fun _ hj => .inl hj)
structure RI (m : Mo) (N : Nat) (XS : List Ty) (W5 : World) (pre : List Ty) (C : Nat → Prop) (W : World) : Prop where
 res : W.heap[N + 1]? = some (.cells #[.int .i64 0] 28 (0,0))
 ext : Ext (fun k => k = N + 1) W5 W
 kn : ∀ t ∈ pre,m.known t = true
 own : (C = fun k => k = N + 1) ∨ ∃ (b : Nat) (t : Ty),C = (fun k => k = N + 1 ∨ k = b) ∧ XS[pre.length]? = some t ∧ W5.heap.size ≤ b ∧ W.heap[b]? = some (.cells #[.bool t.1,.string t.2] 45 (0,0))
theorem RI.next {m : Mo} {N : Nat} {XS pre : List Ty} {W5 W W' : World} {C : Nat → Prop} (h : RI m N XS W5 pre C W) (hN : N + 1 < W5.heap.size) (hx : Ext (fun k => W5.heap.size ≤ k ∧ ¬ C k) W W') : RI m N XS W5 pre C W' := by
 refine ⟨hx.heap h.res (fun h => by omega),h.ext.trans hx (fun j hj => .inr hj.1),h.kn,?_⟩
 rcases h.own with e | ⟨b,t,e,h1,h2,h3⟩
 ·exact .inl e
 ·exact .inr ⟨b,t,e,h1,h2,hx.heap h3 (fun h => h.2 (by rw [e]; exact .inr rfl))⟩
theorem RI.res_own {m : Mo} {N : Nat} {XS pre : List Ty} {W5 W : World} {C : Nat → Prop} (h : RI m N XS W5 pre C W) : C (N + 1) := by
 rcases h.own with e | ⟨b,t,e,_⟩
 ·rw [e]
 ·rw [e]; exact .inl rfl
structure RX (m : Mo) (N : Nat) (W5 : World) (c : Code) (C : Nat → Prop) (W : World) : Prop where
 ret : c = .ret
 res : W.heap[N + 1]? = some (.cells #[.int .i64 5] 28 (0,0))
 ext : Ext (fun k => k = N + 1) W5 W
 bad : (typesF m).all m.known = false
 own : C (N + 1)
set_option maxRecDepth 100000 in
set_option maxHeartbeats 16000000 in
theorem right_calls (m : Mo) (w : World) (h : RightIn w m) :
  Calls Try.prog 51 #[.agg m.cells] w fun e w' => e = .returned (.int .i64 (rightF m)) ∧ Below w.heap.size w w' := by
 have HM := Lib.hid h
 obtain ⟨R,hR⟩ : ∃ R,rightF m = R := ⟨_,rfl⟩
 have HR : Hid (R = if 30 < m.ss.length ∨ 60 < m.fs.length then 2
  else if twiceF m = true then 6
  else if (typesF m).all m.known = false then 5
  else if firstF (codeF m) m.fs ≠ 0 then firstF (codeF m) m.fs
  else unl (decide (0 ≤ m.fnIx mainB) && (match m.fs[(m.fnIx mainB).toNat]? with
   | some g => decide (g.c.par = 0) && !g.c.rp
   | none => false)) 9) := hR.symm
 rw [hR]
 clear h hR
 obtain ⟨N,hN⟩ : ∃ N,w.heap.size = N := ⟨_,rfl⟩
 obtain ⟨W1,hW1⟩ : ∃ W1,(w.alloc (.cells m.cells 25)).alloc (.cells #[.int .i64 0] 28) = W1 := ⟨_,rfl⟩
 have hb1 : Below N w W1 := by rw [← hW1,← hN]; exact ((Below.refl _ _).alloc (Nat.le_refl _) _).alloc (by simp) _
 have hs1 : W1.heap.size = N + 2 := by rw [← hW1]; simp [hN]
 have hr1 : W1.heap[N]? = some (.cells m.cells 25 (0,0)) := by rw [← hW1,← hN]; exact heap_alloc2_old _ _ _
 have hr2 : W1.heap[N + 1]? = some (.cells #[.int .i64 0] 28 (0,0)) := by rw [← hW1,← hN]; exact heap_alloc2_new _ _ _
 obtain ⟨W2,hW2⟩ : ∃ W2,W1.alloc (.cells (jg m zfn) 113) = W2 := ⟨_,rfl⟩
 have hst : ∀ (c : Array Value),c.size = 10 → (storeCells ⟨N + 2,0,none⟩ (jg m zfn).toList 0).run Try.prog (W1.alloc (.cells c 113)) = .ok () W2 := fun c hc => by
  rw [← hW2,← hs1]
  exact run_storeCells_new (P := Try.prog) W1 113 c (jg m zfn) (by show _ = some 10; kernel_rfl) hc (jg_one m zfn)
 simp only [jg,zfn,List.length_nil] at hst
 have b0 : W1.cell? ⟨N,0,none⟩ = some (.slice m.sA m.ss.length m.sC) := by rw [cell_of_row _ _ _ _ _ _ hr1]; rfl
 have b1 : W1.cell? ⟨N,1,none⟩ = some (.slice m.fA m.fs.length m.fC) := by rw [cell_of_row _ _ _ _ _ _ hr1]; rfl
 have hb2 : Below (N + 2) W1 W2 := by rw [← hW2,← hs1]; exact (Below.refl _ _).alloc (Nat.le_refl _) _
 have hs2 : W2.heap.size = N + 3 := by rw [← hW2]; simp [hs1]
 have hr3 : W2.heap[N + 2]? = some (.cells (jg m zfn) 113 (0,0)) := by rw [← hW2,← hs1]; exact alloc_at _ _
 have HROWS : Hid (∀ W,Below (N + 3) W2 W → W.heap[N]? = some (.cells m.cells 25 (0,0)) ∧ W.heap[N + 1]? = some (.cells #[.int .i64 0] 28 (0,0)) ∧ W.heap[N + 2]? = some (.cells (jg m zfn) 113 (0,0))) := fun W hW =>
  ⟨(hW.block N (by omega)).trans ((hb2.block N (by omega)).trans hr1),(hW.block (N + 1) (by omega)).trans ((hb2.block (N + 1) (by omega)).trans hr2),(hW.block (N + 2) (by omega)).trans hr3⟩
 have HB2 : Hid (Below N w W2) := hb1.trans (hb2.mono (by omega))
 have HR1 := Lib.hid hr1
 have HN := Lib.hid hN
 -- what a store into the result's cell, and the marks, leave
 have HFIN : Hid (∀ (W : World) (z : Int) (u : Value) (bs : List Nat),W.heap[N + 1]? = some (.cells #[u] 28 (0,0)) → Below N w W → (∀ b ∈ bs,N + 2 ≤ b) → ∀ w',Ext (· ∈ bs) (W.setCell ⟨N + 1,0,none⟩ (.int .i64 z)) w' → w'.cell? ⟨N + 1,0,none⟩ = some (.int .i64 z) ∧ Below N w w') := by
  intro W z u bs h1 h2 h3 w' hx
  have h4 := heap_setCell_same W (N + 1) 0 _ _ (.int .i64 z) h1
  have h5 := hx.heap h4 (fun h => by have := h3 _ h; omega)
  refine ⟨by rw [cell_of_row _ _ _ _ _ _ h5]; rfl,?_⟩
  have h6 : Ext (N ≤ ·) w (W.setCell ⟨N + 1,0,none⟩ (.int .i64 z)) := (Ext.of_below h2).trans (Ext.set1 _ _ _ _) (fun j hj => .inl (by show N ≤ j; omega))
  exact (h6.trans hx (fun j hj => .inl (by show N ≤ j; have := h3 _ hj; omega))).below (by omega) (fun k hk => hk)
 have hW2' := hW2
 simp only [jg,zfn,List.length_nil] at hW2'
 have HW2 := Lib.hid hW2'
 clear hb1 hr1 hr2 hb2 hr3 hW2 hW2'
 (refine calls_of_wp_marks Try.func51 rfl ?_
  simp only [Try.ntmps51,List.size_toArray,List.length_cons,List.length_nil,Nat.reduceAdd,Nat.reduceSub,Array.replicate_succ,
    Array.replicate_zero,List.push_toArray,List.append_toArray,List.nil_append,List.cons_append])
 go_wp2_with fail
 go_step3
 go_upto_region 2 with (fail)
 rw [HW2.out]
 clear HW2
 obtain ⟨rw0,rw1,rw2⟩ := HROWS.out W2 (Below.refl _ _)
 have c0 : W2.cell? ⟨N,0,none⟩ = some (.slice m.sA m.ss.length m.sC) := by rw [cell_of_row _ _ _ _ _ _ rw0]; rfl
 have c1 : W2.cell? ⟨N,1,none⟩ = some (.slice m.fA m.fs.length m.fC) := by rw [cell_of_row _ _ _ _ _ _ rw0]; rfl
 have c2 : W2.cell? ⟨N + 1,0,none⟩ = some (.int .i64 0) := by rw [cell_of_row _ _ _ _ _ _ rw1]; rfl
 have c3 := frozen_of_row _ _ 0 _ _ rw1
 have HRW1 := Lib.hid rw1
 clear rw0 rw1 rw2 b0 b1 hst
 by_cases g1 : 30 < m.ss.length
 ·have HRR : Hid (R = 2) := by unfold Hid; rw [HR.out,if_pos (.inl g1)]
  clear HR
  go_wp2_with fail
  refine ⟨[],rfl,by simp,by simp,.int .i64 2,fun w' hx => ?_⟩
  obtain ⟨h1,h2⟩ := HFIN.out W2 2 _ [] HRW1.out HB2.out (by simp) w' hx
  exact ⟨right_results _ _ _ _ rfl h1,by rw [HRR.out],by first | exact h2 | (rw [HN.out]; exact h2)⟩
 by_cases g2 : 60 < m.fs.length
 ·have HRR : Hid (R = 2) := by unfold Hid; rw [HR.out,if_pos (.inr g2)]
  clear HR
  go_wp2_with fail
  refine ⟨[],rfl,by simp,by simp,.int .i64 2,fun w' hx => ?_⟩
  obtain ⟨h1,h2⟩ := HFIN.out W2 2 _ [] HRW1.out HB2.out (by simp) w' hx
  exact ⟨right_results _ _ _ _ rfl h1,by rw [HRR.out],by first | exact h2 | (rw [HN.out]; exact h2)⟩
 have HR2 : Hid (R = if twiceF m = true then 6
  else if (typesF m).all m.known = false then 5
  else if firstF (codeF m) m.fs ≠ 0 then firstF (codeF m) m.fs
  else unl (decide (0 ≤ m.fnIx mainB) && (match m.fs[(m.fnIx mainB).toNat]? with
   | some g => decide (g.c.par = 0) && !g.c.rp
   | none => false)) 9) := by unfold Hid; rw [HR.out,if_neg (by omega)]
 clear HR
 have HTW := Lib.hid (twice_calls m W2 (HM.out.mo.below (by rw [HN.out]; exact HB2.out)) HM.out.sl HM.out.fl HM.out.fd)
 obtain ⟨tw,htw⟩ : ∃ t,twiceF m = t := ⟨_,rfl⟩
 rw [htw] at HTW HR2
 have HROW0 : Hid (W2.heap[N]? = some (.cells m.cells 25 (0,0))) := (HROWS.out W2 (Below.refl _ _)).1
 clear htw
 cases tw with
 | true =>
  have HRR : Hid (R = 6) := by unfold Hid; rw [HR2.out,if_pos rfl]
  clear HR2
  go_upto_region 4 with (fail)
  go_wp2_with (first
   | (refine wpList_load_row rfl 25 _ rfl N rfl 25 m.cells (0,0) _ HROW0.out Try.underlying25 rfl (by kernel_rfl) ?_)
   | (go_at_call 76; refine HTW.out.mono ?_; rintro e w3 ⟨rfl,hb3⟩; have q1 := (HROWS.out w3 (hb3.mono (by omega))).2.1; have c2 : w3.cell? ⟨N + 1,0,none⟩ = some (.int .i64 0) := (cell_of_row _ _ _ _ _ _ q1).trans rfl; have c3 := frozen_of_row _ _ 0 _ _ q1; have HQ1 := Lib.hid q1; have HB3 := Lib.hid hb3; clear hb3 q1))
  refine ⟨[],rfl,by simp,by simp,.int .i64 6,fun w' hx => ?_⟩
  obtain ⟨h1,h2⟩ := HFIN.out w3 6 _ [] HQ1.out (HB2.out.trans (HB3.out.mono (by omega))) (by simp) w' hx
  exact ⟨right_results _ _ _ _ rfl h1,by rw [HRR.out],by first | exact h2 | (rw [HN.out]; exact h2)⟩
 | false =>
  have HR3 : Hid (R = if (typesF m).all m.known = false then 5
   else if firstF (codeF m) m.fs ≠ 0 then firstF (codeF m) m.fs
   else unl (decide (0 ≤ m.fnIx mainB) && (match m.fs[(m.fnIx mainB).toNat]? with
    | some g => decide (g.c.par = 0) && !g.c.rp
    | none => false)) 9) := by unfold Hid; rw [HR2.out]; rfl
  clear HR2
  go_upto_region 6 with (first
   | (refine wpList_load_row rfl 25 _ rfl N rfl 25 m.cells (0,0) _ HROW0.out Try.underlying25 rfl (by kernel_rfl) ?_)
   | (go_at_call 76; refine HTW.out.mono ?_; rintro e w3 ⟨rfl,hb3⟩; have hb33 : Below (N + 3) W2 w3 := hb3.mono (by omega); have HB3 := Lib.hid hb33; clear hb3 hb33))
  have hs3 := HB3.out.size
  have HROW3 : Hid (w3.heap[N]? = some (.cells m.cells 25 (0,0))) := (HROWS.out w3 HB3.out).1
  have HROW3b : Hid (w3.heap[N + 1]? = some (.cells #[.int .i64 0] 28 (0,0))) := (HROWS.out w3 HB3.out).2.1
  have HROW3c : Hid (w3.heap[N + 2]? = some (.cells (jg m zfn) 113 (0,0))) := (HROWS.out w3 HB3.out).2.2
  have HBW3 : Hid (Below N w w3) := HB2.out.trans (HB3.out.mono (by omega))
  obtain ⟨B,hB⟩ : ∃ B,w3.heap.size = B := ⟨_,rfl⟩
  obtain ⟨W5,hW5⟩ : ∃ W5,w3.alloc (.cells m.cells 25) = W5 := ⟨_,rfl⟩
  have HTY : Hid (Calls Try.prog 77 #[.agg m.cells] w3 fun e w' => e = .returned (.func (.func 100) #[] #[.pointer (some ⟨B,0,none⟩)]) ∧ w' = W5) := by
   rw [← hB,← hW5]; exact types_calls m w3
  have hx35 : Ext (fun _ => False) w3 W5 := by rw [← hW5]; exact (Ext.refl _ _).alloc _
  have hs5 : W5.heap.size = B + 1 := by rw [← hW5]; simp [hB]
  have hrB : W5.heap[B]? = some (.cells m.cells 25 (0,0)) := by rw [← hW5,← hB]; exact alloc_at _ _
  have hb35 : Below B w3 W5 := by rw [← hW5,← hB]; exact (Below.refl _ _).alloc (Nat.le_refl _) _
  have HBW5 : Hid (Below N w W5) := HBW3.out.trans (hb35.mono (by omega))
  have HIT : Hid (Iter Try.prog 100 #[.pointer (some ⟨B,0,none⟩)] tyEnc (typesF m) (tyRd N B) W5) := by
   have := types1_iter w W5 m B HM.out.mo (by rw [HN.out]; exact HBW5.out) hrB HM.out.fd HM.out.vl HM.out.sl HM.out.fl
   rw [HN.out] at this
   exact this
  have HX35 := Lib.hid hx35
  clear hx35 hb35 hrB hW5 c0 c1 c2 c3
  go_upto_region 7 with (first
   | (refine wpList_load_row rfl 25 _ rfl N rfl 25 m.cells (0,0) _ HROW3.out Try.underlying25 rfl (by kernel_rfl) ?_)
   | (go_at_call 77; refine HTY.out.mono ?_; rintro e w6 ⟨rfl,hw6⟩; rw [hw6]; clear hw6))
  have hN5 : N + 1 < W5.heap.size := by omega
  have hBN : N + 3 ≤ B := by omega
  have HFX : Hid (∀ (W : World) (z : Int) (bs : List Nat),W.heap[N + 1]? = some (.cells #[.int .i64 z] 28 (0,0)) → Ext (N ≤ ·) w W → (∀ b ∈ bs,N + 2 ≤ b) → ∀ w',Ext (· ∈ bs) W w' → w'.cell? ⟨N + 1,0,none⟩ = some (.int .i64 z) ∧ Below N w w') := by
   intro W z bs h1 h2 h3 w' hx
   have h5 := hx.heap h1 (fun h => by have := h3 _ h; omega)
   refine ⟨by rw [cell_of_row _ _ _ _ _ _ h5]; rfl,?_⟩
   exact (h2.trans hx (fun j hj => .inl (by show N ≤ j; have := h3 _ hj; omega))).below (by omega) (fun k hk => hk)
  obtain ⟨XS,hXS⟩ : ∃ X,typesF m = X := ⟨_,rfl⟩
  have HXS := Lib.hid hXS
  rw [hXS] at HIT
  clear hXS
  refine wp_rangeFunc_sep (gf := 100) rfl Try.func100 (by rfl) rfl HIT.out (Below.refl _ _) ?hRd (fun _ => rfl) (RI m N XS W5) (fun c _ C W => RX m N W5 c C W) (fun pre C W W' h hx => h.next hN5 hx) ?hIC ?hIx (fun k => k = N + 1) ?h0 ?hround ?hdone ?hstop
  case hRd =>
   rintro k (h | rfl)
   ·omega
   ·omega
  case hIC =>
   intro pre C W h k hk
   rcases h.own with e | ⟨b,t,e,h1,h2,h3⟩
   ·rw [e] at hk
    have hk : k = N + 1 := hk
    subst hk
    exact ⟨(Array.getElem?_eq_some_iff.1 h.res).1,fun h => by rcases h with h | h <;> omega⟩
   ·rw [e] at hk
    rcases hk with hk | hk
    ·subst hk
     exact ⟨(Array.getElem?_eq_some_iff.1 h.res).1,fun h => by rcases h with h | h <;> omega⟩
    ·subst hk
     exact ⟨(Array.getElem?_eq_some_iff.1 h3).1,fun h => by rcases h with h | h <;> omega⟩
  case hIx =>
   intro c pre C W W' h hx
   exact ⟨h.ret,hx.heap h.res (fun q => by omega),h.ext.trans hx (fun j hj => .inr hj.1),h.bad,h.own⟩
  case h0 => exact ⟨HX35.out.heap HROW3b.out (fun h => h),Ext.refl _ _,by simp,.inl rfl⟩
  case hround =>
   rintro l pre ⟨xb,xs⟩ C W hl hI hpre
   unfold tyEnc
   rw [fold_one]
   simp only [List.setIfInBounds_toArray,List.set_cons_zero,List.set_cons_succ]
   have HI := Lib.hid hI
   have HPRE := Lib.hid hpre
   have hxn : XS[pre.length]? = some (xb,xs) := by
    obtain ⟨t,ht⟩ := hpre
    rw [← ht]; simp
   have hsW := hI.ext.size
   obtain ⟨b,hb⟩ : ∃ b,W.heap.size = b := ⟨_,rfl⟩
   obtain ⟨W6,hW6⟩ : ∃ W6,W.alloc (.cells #[.bool xb,.string xs] 45) = W6 := ⟨_,rfl⟩
   have hst6 : ∀ (c : Array Value),c.size = 2 → (storeCells ⟨b,0,none⟩ [.bool xb,.string xs] 0).run Try.prog (W.alloc (.cells c 45)) = .ok () W6 := fun c hc => by
    rw [← hW6,← hb]
    exact run_storeCells_new (P := Try.prog) W 45 c #[.bool xb,.string xs] (by show _ = some 2; kernel_rfl) hc (by simp [Value.oneCell'])
   have hr6 : W6.heap[b]? = some (.cells #[.bool xb,.string xs] 45 (0,0)) := by rw [← hW6,← hb]; exact alloc_at _ _
   have hx6 : Ext (fun _ => False) W W6 := by rw [← hW6]; exact (Ext.refl _ _).alloc _
   have HI6 : Hid (RI m N XS W5 pre (fun k => k = N + 1 ∨ k = b) W6) := by
    have h := HI.out
    exact ⟨hx6.heap h.res (fun h => h),h.ext.trans hx6 (fun _ h => h.elim),h.kn,.inr ⟨b,_,rfl,hxn,by omega,hr6⟩⟩
   have HX6 : Hid (Ext C W W6) := hx6.mono (fun _ h => h.elim)
   have HXN := Lib.hid hxn
   have HW6 := Lib.hid hW6
   clear hI hpre hxn hr6 hx6
   obtain ⟨F,hF⟩ : ∃ F,F = Fence.wide.inRound l := ⟨_,rfl⟩
   have HCI : Hid (∀ (n f : Nat) (args : Array Value) (w : World) (R : Ending → World → Prop),Calls Try.prog f args w R → CallsIn F n Try.prog f args w R) := by
    intro n f args w R h; rw [hF]; exact CallsIn.inRound l (callsIn_wide.2 h)
   have hFr : F.round = some l := by rw [hF]; rfl
   have hFf : ∀ f,F.fn f := fun f => by rw [hF]; trivial
   have hFd : F.depth = none := by rw [hF]; rfl
   rw [← hF]
   clear hF
   gi_wp2
   refine ⟨fun k => k = N + 1 ∨ k = b,?_,HI6.out,HX6.out,?_⟩
   ·rintro k (rfl | rfl)
    ·exact .inl HI.out.res_own
    ·exact .inr (by omega)
   intro W₂ hI2 hl2
   have hr2 : W₂.heap[b]? = some (.cells #[.bool xb,.string xs] 45 (0,0)) := by
    rcases hI2.own with e | ⟨b',t',e,h1,h2,h3⟩
    ·have q := congrFun e b
     simp at q
     omega
    ·have q := congrFun e b
     simp at q
     rcases q with q | q
     ·omega
     ·subst q
      rw [HXN.out] at h1
      obtain rfl := Option.some.inj h1
      exact h3
   have hj2 : W₂.heap[N + 2]? = some (.cells (jg m zfn) 113 (0,0)) := hI2.ext.heap (HX35.out.heap HROW3c.out (fun h => h)) (by omega)
   have hb52 : Below N W5 W₂ := hI2.ext.below (by omega) (fun k hk => by omega)
   have HBW2 : Hid (Below N w W₂) := HBW5.out.trans hb52
   have hf2 := frozen_of_row _ _ 0 _ _ hI2.res
   have hz2 : W₂.cell? ⟨N + 1,0,none⟩ = some (.int .i64 0) := (cell_of_row _ _ _ _ _ _ hI2.res).trans rfl
   have t0 : W₂.cell? ⟨b,0,none⟩ = some (.bool xb) := (cell_of_row _ _ _ _ _ _ hr2).trans rfl
   have t1 : W₂.cell? ⟨b,1,none⟩ = some (.string xs) := (cell_of_row _ _ _ _ _ _ hr2).trans rfl
   obtain ⟨y0,y1,y2,y3,y4,y5,y6,y7,y8,y9⟩ := JgAt.of hj2
   simp only [zfn,List.length_nil] at y2 y3 y4 y5 y6 y7 y8 y9
   obtain ⟨d,hd⟩ : ∃ d,m.known (xb,xs) = d := ⟨_,rfl⟩
   have HKC : Hid (Calls Try.prog 78 #[.agg (jg m zfn),.agg #[.bool xb,.string xs]] W₂ fun e w' => e = .returned (.bool d) ∧ Below W₂.heap.size W₂ w') := by
    rw [← hd]
    exact known_calls m zfn xb xs W₂ (HM.out.mo.below (by rw [HN.out]; exact HBW2.out))
   have HD := Lib.hid hd
   have HI2 := Lib.hid hI2
   have hbs2 := (Array.getElem?_eq_some_iff.1 hr2).1
   clear hr2 hj2 hb52 hI2 hd hl2
   cases d with
   | true =>
    gi_wp2_with (gi_at_call 78; refine (HCI.out _ _ _ _ _ HKC.out).mono ?_; rintro e w7 ⟨rfl,hb7⟩; have HB7 := Lib.hid hb7; clear hb7)
    have h7 : Ext (fun _ => False) W₂ w7 := Ext.of_below_size HB7.out
    refine ⟨fun k => k = N + 1,fun k hk => .inl (.inl hk),⟨h7.heap HI2.out.res (fun h => h),HI2.out.ext.trans h7 (fun _ h => h.elim),fun t ht => ?_,.inl rfl⟩,h7.mono (fun _ h => h.elim)⟩
    rcases List.mem_append.1 ht with h | h
    ·exact HI2.out.kn t h
    ·simp at h; subst h; exact HD.out
   | false =>
    gi_wp2_with (gi_at_call 78; refine (HCI.out _ _ _ _ _ HKC.out).mono ?_; rintro e w7 ⟨rfl,hb7⟩; have z7 : w7.cell? ⟨N + 1,0,none⟩ = some (.int .i64 0) := (hb7.cell (p := ⟨N + 1,0,none⟩) (by show N + 1 < _; omega)).trans hz2; have f7 : w7.frozen? ⟨N + 1,0,none⟩ = false := (hb7.frozen (p := ⟨N + 1,0,none⟩) (by show N + 1 < _; omega)).trans hf2; have HB7 := Lib.hid hb7; clear hb7)
    have h7 : Ext (fun _ => False) W₂ w7 := Ext.of_below_size HB7.out
    have h8 : Ext (· = N + 1) w7 (w7.setCell ⟨N + 1,0,none⟩ (.int .i64 5)) := Ext.set1 _ _ _ _
    refine ⟨fun k => k = N + 1,fun k hk => .inl (.inl hk),⟨rfl,?_,(HI2.out.ext.trans h7 (fun _ h => h.elim)).trans h8 (fun j hj => .inl hj),?_,rfl⟩,(h7.mono (fun _ h => h.elim)).trans h8 (fun j hj => .inl (.inl hj))⟩
    ·have := heap_setCell_same w7 (N + 1) 0 _ _ (.int .i64 5) (h7.heap HI2.out.res (fun h => h))
     simpa using this
    ·rw [HXS.out,List.all_eq_false]
     exact ⟨(xb,xs),HPRE.out.subset (by simp),by rw [HD.out]; simp⟩
  case hstop =>
   intro D c pre C W hD hCD hpre hix hdd
   obtain ⟨rfl,hres,hext,hbad,hown⟩ := hix
   have HRR : Hid (R = 5) := by unfold Hid; rw [HR3.out,if_pos hbad]
   have HDD := Lib.hid hdd
   have HXW : Hid (Ext (N ≤ ·) w W) := (Ext.of_below HBW5.out).trans (hext.mono (M' := (N ≤ ·)) (fun k hk => by show N ≤ k; omega)) (fun j hj => .inl hj)
   have HRES := Lib.hid hres
   clear hres hext hbad hown hdd hpre
   go_wp2_with fail
   refine ⟨[D],rfl,by simp,by intro b hb; simp at hb; subst hb; exact HDD.out,.int .i64 5,fun w' hx => ?_⟩
   obtain ⟨h1,h2⟩ := HFX.out W 5 [D] HRES.out HXW.out (by simp; omega) w' hx
   exact ⟨right_results _ _ _ _ rfl h1,by rw [HRR.out],by first | exact h2 | (rw [HN.out]; exact h2)⟩
  case hdone =>
   intro D C W hD hCD hI hdd
   have HKN : Hid (∀ t ∈ typesF m,m.known t = true) := by rw [HXS.out]; exact hI.kn
   have HR4 : Hid (R = if firstF (codeF m) m.fs ≠ 0 then firstF (codeF m) m.fs
    else unl (decide (0 ≤ m.fnIx mainB) && (match m.fs[(m.fnIx mainB).toNat]? with
     | some g => decide (g.c.par = 0) && !g.c.rp
     | none => false)) 9) := by
    unfold Hid
    rw [HR3.out,if_neg]
    rw [List.all_eq_true.2 HKN.out]; decide
   have HDD := Lib.hid hdd
   have HXW : Hid (Ext (N ≤ ·) w W) := (Ext.of_below HBW5.out).trans (hI.ext.mono (M' := (N ≤ ·)) (fun k hk => by show N ≤ k; omega)) (fun j hj => .inl hj)
   have HRES := Lib.hid hI.res
   have HMOD : Hid (W.heap[N]? = some (.cells m.cells 25 (0,0))) := hI.ext.heap (HX35.out.heap HROW3.out (fun h => h)) (by omega)
   have HJUD : Hid (W.heap[N + 2]? = some (.cells (jg m zfn) 113 (0,0))) := hI.ext.heap (HX35.out.heap HROW3c.out (fun h => h)) (by omega)
   have hWs : N + 3 ≤ W.heap.size := by have := hI.ext.size; omega
   have HBWW : Hid (Below N w W) := HXW.out.below (by omega) (fun k hk => hk)
   have HDW : Hid (D < W.heap.size) := (Array.getElem?_eq_some_iff.1 hdd).1
   have m0 : W.cell? ⟨N,0,none⟩ = some (.slice m.sA m.ss.length m.sC) := (cell_of_row _ _ _ _ _ _ HMOD.out).trans rfl
   have m1 : W.cell? ⟨N,1,none⟩ = some (.slice m.fA m.fs.length m.fC) := (cell_of_row _ _ _ _ _ _ HMOD.out).trans rfl
   have HCD := Lib.hid hCD
   clear hI hdd hCD HR3 HIT HXS
   go_wp2_with fail
   go_step3
   go_wp2_with fail
   go_loopw [34] (fun c wr => ∃ (j : Nat) (g : Fn),j ≤ m.fs.length ∧ c = .int .i64 (j : Int) ∧ (∀ f ∈ m.fs.take j,codeF m f = 0) ∧ Ext (fun k => k = N + 1 ∨ k = N + 2) W wr ∧ wr.heap[N + 1]? = some (.cells #[.int .i64 0] 28 (0,0)) ∧ wr.heap[N + 2]? = some (.cells (jg m g) 113 (0,0))) (fun c _ => m.fs.length - (intOf c).toNat)
   case atStart => exact ⟨0,zfn,Nat.zero_le _,rfl,by simp,Ext.refl _ _,HRES.out,HJUD.out⟩
   case round =>
    clear m0 m1
    obtain ⟨j,g,hj,rfl,hz,hx,hres,hjud⟩ := hrel
    have HZ := Lib.hid hz
    have HX := Lib.hid hx
    have HRS := Lib.hid hres
    have HJD := Lib.hid hjud
    have hsr := hx.size
    have HBR : Hid (Below N w wr) := (HXW.out.trans (hx.mono (M' := (N ≤ ·)) (fun k hk => by show N ≤ k; omega)) (fun j hj => .inl hj)).below (by omega) (fun k hk => hk)
    by_cases hjl : j < m.fs.length
    ·obtain ⟨f,hf⟩ : ∃ f,m.fs[j]? = some f := ⟨_,List.getElem?_eq_getElem hjl⟩
     have hfm := List.mem_of_getElem? hf
     obtain ⟨fb,foff,hfA,hfb,hfc⟩ := HM.out.mo.frow (by intro e; rw [e] at hjl; simp at hjl)
     have hfbN : fb < N := by omega
     have HFC : Hid (∀ k u,f.cells.toList[k]? = some u → wr.cell? ((⟨fb,foff + j * 8,none⟩ : Addr).add k) = some u) := fun k u hu => by
      rw [Addr.add_lit,HBR.out.cell (p := ⟨fb,_,none⟩) hfbN]; exact hfc j f hf k u hu
     obtain ⟨P,hP⟩ : ∃ P,wr.heap.size = P := ⟨_,rfl⟩
     obtain ⟨W3,hW3⟩ : ∃ W3,wr.alloc (.cells f.cells 50) = W3 := ⟨_,rfl⟩
     have hst3 : ∀ (c : Array Value),c.size = 8 → (storeCells ⟨P,0,none⟩ f.cells.toList 0).run Try.prog (wr.alloc (.cells c 50)) = .ok () W3 := fun c hc => by
      rw [← hW3,← hP]
      exact run_storeCells_new (P := Try.prog) wr 50 c f.cells (by show _ = some 8; kernel_rfl) hc (fn_cells_one' f)
     have hx3 : Ext (fun _ => False) wr W3 := by rw [← hW3]; exact (Ext.refl _ _).alloc _
     have HR3c : Hid (W3.heap[P]? = some (.cells f.cells 50 (0,0))) := by unfold Hid; rw [← hW3,← hP]; exact alloc_at _ _
     have hj3 := hx3.heap hjud (fun h => h)
     have hs3b : W3.heap.size = P + 1 := by rw [← hW3]; simp [hP]
     obtain ⟨W4,hW4⟩ : ∃ W4,W3.setCells (N + 2) 2 f.cells.toList = W4 := ⟨_,rfl⟩
     have hstm : (storeCells ⟨N + 2,2,none⟩ f.cells.toList 0).run Try.prog W3 = .ok () W4 := by
      rw [← hW4]
      refine run_storeCells_cells (P := Try.prog) (N + 2) 2 f.cells.toList 0 W3 (fun k hk => ?_) (fun k hk => frozen_of_row _ _ _ _ _ hj3) (fun v hv => ?_)
      ·rw [cell_of_row _ _ _ _ _ _ hj3]
       have : k < 8 := hk
       rw [Array.getElem?_eq_getElem (by show 2 + 0 + k < 10; omega)]; rfl
      ·have := fn_cells_one' f
       rw [← Array.all_toList,List.all_eq_true] at this
       exact this v hv
     have hj4 : W4.heap[N + 2]? = some (.cells (jg m f) 113 (0,0)) := by
      rw [← hW4,← putMany_jg m g f]; exact setCells_row _ _ _ _ hj3
     have hx4 : Ext (· = N + 2) W3 W4 := by rw [← hW4]; exact (World.keptBut_ext (N + 2) _ _ _)
     have hr4 : W4.heap[N + 1]? = some (.cells #[.int .i64 0] 28 (0,0)) := hx4.heap (hx3.heap hres (fun h => h)) (by omega)
     have HX4 : Hid (Ext (fun k => k = N + 1 ∨ k = N + 2) W W4) := (HX.out.trans hx3 (fun _ h => h.elim)).trans hx4 (fun k hk => .inl (.inr hk))
     have HB4 : Hid (Below N w W4) := (HXW.out.trans (HX4.out.mono (M' := (N ≤ ·)) (fun k hk => by show N ≤ k; omega)) (fun j hj => .inl hj)).below (by omega) (fun k hk => hk)
     have HJ4 := Lib.hid hj4
     have HR4b := Lib.hid hr4
     have hs4 := HX4.out.size
     obtain ⟨z,hzz⟩ : ∃ z,codeF m f = z := ⟨_,rfl⟩
     have HCC : Hid (Calls Try.prog 79 #[.agg (jg m f)] W4 fun e w' => e = .returned (.int .i64 z) ∧ Below W4.heap.size W4 w') := by
      rw [← hzz]
      have hmi := HM.out.mo.below (by rw [HN.out]; exact HB4.out)
      exact code_calls m f W4 ⟨hmi,hmi.fin f hfm,HM.out.al f hfm,fun v hv => HKN.out _ (by
       obtain ⟨h0,h1⟩ := isVar_iff.1 hv
       obtain ⟨k,rfl⟩ : ∃ k : Nat,v = (k : Int) := ⟨v.toNat,by omega⟩
       obtain ⟨x,hx⟩ : ∃ x,f.vs[k]? = some x := ⟨_,List.getElem?_eq_getElem (by omega)⟩
       have e : tyAt f.vs (k : Int) = x.ty := by unfold tyAt; rw [Int.toNat_natCast,hx]
       rw [e]
       unfold typesF
       exact List.mem_append.2 (.inr (List.mem_flatMap.2 ⟨f,hfm,List.mem_cons_of_mem _ (List.mem_map.2 ⟨x,List.mem_of_getElem? hx,rfl⟩)⟩)))⟩
     have HZZ := Lib.hid hzz
     have HF := Lib.hid hf
     have hjI : (j : Int) < (m.fs.length : Int) := by omega
     rw [hfA]
     clear hz hx hres hjud hf hfm hfb hfc hW3 hx3 hj3 hW4 hj4 hx4 hr4 hzz
     by_cases hz0 : z = 0
     ·subst hz0
      go_wp2_with (first
       | (refine wpList_load_at rfl 50 _ rfl ⟨fb,foff + j * 8,none⟩ rfl f.cells _ HFC.out Try.underlying50 rfl (by kernel_rfl) ?_)
       | (refine wpList_load_row rfl 50 _ rfl P rfl 50 f.cells (0,0) _ HR3c.out Try.underlying50 rfl (by kernel_rfl) ?_)
       | (refine wpList_load_row rfl 113 _ rfl (N + 2) rfl 113 (jg m f) (0,0) _ HJ4.out Try.underlying113 rfl (by kernel_rfl) ?_)
       | (go_at_call 79; refine HCC.out.mono ?_; rintro e w7 ⟨rfl,hb7⟩; have q7 := below_keep hb7 HR4b.out; have z7 : w7.cell? ⟨N + 1,0,none⟩ = some (.int .i64 0) := (cell_of_row _ _ _ _ _ _ q7).trans rfl; have f7 := frozen_of_row _ _ 0 _ _ q7; have n7 := (Array.getElem?_eq_some_iff.1 q7).1; have HQ7 := Lib.hid q7; have HB7 := Lib.hid hb7; clear hb7 q7))
      have hxs : Ext (· = N + 1) w7 (w7.setCell ⟨N + 1,0,none⟩ (.int .i64 0)) := Ext.set1 _ _ _ _
      have hx7 : Ext (fun _ => False) W4 w7 := Ext.of_below_size HB7.out
      refine ⟨⟨j + 1,f,by omega,by go_num,take_all (p := fun f => codeF m f = 0) HZ.out HF.out HZZ.out,(HX4.out.trans hx7 (fun _ h => h.elim)).trans hxs (fun k hk => .inl (.inl hk)),?_,hxs.heap (hx7.heap HJ4.out (fun h => h)) (by omega)⟩,by simp [intOf]; omega⟩
      have := heap_setCell_same w7 (N + 1) 0 _ _ (.int .i64 0) HQ7.out
      simpa using this
     ·have HRR : Hid (R = z) := by
       unfold Hid
       have e := firstF_at (f := codeF m) HZ.out HF.out (by rw [HZZ.out]; exact hz0)
       rw [HR4.out,e,HZZ.out,if_pos hz0]
      have hzb : (z == 0) = false := by rw [beq_eq_false_iff_ne]; exact hz0
      go_wp2_with (first
       | (refine wpList_load_at rfl 50 _ rfl ⟨fb,foff + j * 8,none⟩ rfl f.cells _ HFC.out Try.underlying50 rfl (by kernel_rfl) ?_)
       | (refine wpList_load_row rfl 50 _ rfl P rfl 50 f.cells (0,0) _ HR3c.out Try.underlying50 rfl (by kernel_rfl) ?_)
       | (refine wpList_load_row rfl 113 _ rfl (N + 2) rfl 113 (jg m f) (0,0) _ HJ4.out Try.underlying113 rfl (by kernel_rfl) ?_)
       | (go_at_call 79; refine HCC.out.mono ?_; rintro e w7 ⟨rfl,hb7⟩; have q7 := below_keep hb7 HR4b.out; have z7 : w7.cell? ⟨N + 1,0,none⟩ = some (.int .i64 0) := (cell_of_row _ _ _ _ _ _ q7).trans rfl; have f7 := frozen_of_row _ _ 0 _ _ q7; have n7 := (Array.getElem?_eq_some_iff.1 q7).1; have HQ7 := Lib.hid q7; have HB7 := Lib.hid hb7; clear hb7 q7))
      have hxs : Ext (· = N + 1) w7 ((w7.setCell ⟨N + 1,0,none⟩ (.int .i64 z)).setCell ⟨N + 1,0,none⟩ (.int .i64 z)) := (Ext.set1 _ _ _ _).trans (Ext.set1 _ _ _ _) (fun j hj => .inl hj)
      have hx7 : Ext (fun _ => False) W4 w7 := Ext.of_below_size HB7.out
      have hall : Ext (fun k => k = N + 1 ∨ k = N + 2) W ((w7.setCell ⟨N + 1,0,none⟩ (.int .i64 z)).setCell ⟨N + 1,0,none⟩ (.int .i64 z)) := (HX4.out.trans hx7 (fun _ h => h.elim)).trans hxs (fun k hk => .inl (.inl hk))
      have hrr : ((w7.setCell ⟨N + 1,0,none⟩ (.int .i64 z)).setCell ⟨N + 1,0,none⟩ (.int .i64 z)).heap[N + 1]? = some (.cells #[.int .i64 z] 28 (0,0)) := by
       have q1 := heap_setCell_same w7 (N + 1) 0 _ _ (.int .i64 z) HQ7.out
       have q2 := heap_setCell_same _ (N + 1) 0 _ _ (.int .i64 z) q1
       simpa using q2
      refine ⟨[D],rfl,by simp,by intro b hb; simp at hb; subst hb; exact hall.heap HDD.out (by omega),.int .i64 z,fun w' hx => ?_⟩
      obtain ⟨h1,h2⟩ := HFX.out _ z [D] hrr (HXW.out.trans (hall.mono (M' := (N ≤ ·)) (fun k hk => by show N ≤ k; omega)) (fun j hj => .inl hj)) (by simp; omega) w' hx
      exact ⟨right_results _ _ _ _ rfl h1,by rw [HRR.out],by first | exact h2 | (rw [HN.out]; exact h2)⟩
    ·have hje : j = m.fs.length := by omega
     subst hje
     rw [List.take_length] at hz
     have HR5 : Hid (R = unl (decide (0 ≤ m.fnIx mainB) && (match m.fs[(m.fnIx mainB).toNat]? with
      | some g => decide (g.c.par = 0) && !g.c.rp
      | none => false)) 9) := by
      unfold Hid; rw [HR4.out,firstF_zero hz,if_neg (by simp)]
     have z0 : wr.cell? ⟨N + 1,0,none⟩ = some (.int .i64 0) := (cell_of_row _ _ _ _ _ _ hres).trans rfl
     have f0 := frozen_of_row _ _ 0 _ _ hres
     have hmod : wr.heap[N]? = some (.cells m.cells 25 (0,0)) := hx.heap HMOD.out (by omega)
     have m0 : wr.cell? ⟨N,0,none⟩ = some (.slice m.sA m.ss.length m.sC) := (cell_of_row _ _ _ _ _ _ hmod).trans rfl
     have m1 : wr.cell? ⟨N,1,none⟩ = some (.slice m.fA m.fs.length m.fC) := (cell_of_row _ _ _ _ _ _ hmod).trans rfl
     have hmi := HM.out.mo.below (by rw [HN.out]; exact HBR.out)
     obtain ⟨kx,hkx⟩ : ∃ k,m.fnIx mainB = k := ⟨_,rfl⟩
     rw [hkx] at HR5
     have HFN : Hid (Calls Try.prog 80 #[.agg m.cells,.string ⟨#[109,97,105,110]⟩] wr fun e w' => e = .returned (.int .i64 kx) ∧ Below wr.heap.size wr w') := by
      rw [← hkx]; exact func_calls5 m mainB wr hmi.nf hmi.frow
     have HFIN2 : Hid (∀ (w8 : World) (z : Int),Below wr.heap.size wr w8 → (w8.setCell ⟨N + 1,0,none⟩ (.int .i64 z)).heap[D]? = some (.deferred (some [])) ∧ ∀ w',Ext (· ∈ [D]) (w8.setCell ⟨N + 1,0,none⟩ (.int .i64 z)) w' → w'.cell? ⟨N + 1,0,none⟩ = some (.int .i64 z) ∧ Below N w w') := by
      intro w8 z hb8
      have hx8 : Ext (fun _ => False) wr w8 := Ext.of_below_size hb8
      have hxs : Ext (· = N + 1) w8 (w8.setCell ⟨N + 1,0,none⟩ (.int .i64 z)) := Ext.set1 _ _ _ _
      have hall : Ext (fun k => k = N + 1 ∨ k = N + 2) W (w8.setCell ⟨N + 1,0,none⟩ (.int .i64 z)) := (HX.out.trans hx8 (fun _ h => h.elim)).trans hxs (fun k hk => .inl (.inl hk))
      have hrr := heap_setCell_same w8 (N + 1) 0 _ _ (.int .i64 z) (hx8.heap HRS.out (fun h => h))
      refine ⟨hall.heap HDD.out (by omega),fun w' hx => ?_⟩
      exact HFX.out _ z [D] (by simpa using hrr) (HXW.out.trans (hall.mono (M' := (N ≤ ·)) (fun k hk => by show N ≤ k; omega)) (fun j hj => .inl hj)) (by simp; omega) w' hx
     have HHR := Lib.hid hres
     have hNr : N + 1 < wr.heap.size := by omega
     rcases ixOf_cases (fun f : Fn => f.c.nm == mainB) m.fs with e | ⟨k,f,e,hf,_⟩
     ·have hk1 : kx = -1 := by rw [← hkx]; exact e
      subst hk1
      have HRR : Hid (R = 9) := by unfold Hid; rw [HR5.out]; rfl
      clear hz hx hres hjud hkx hmod hmi HR4 HR5 e
      go_wp2_with (first
       | (go_at_call 80; refine HFN.out.mono ?_; rintro e w8 ⟨rfl,hb8⟩; have z8 : w8.cell? ⟨N + 1,0,none⟩ = some (.int .i64 0) := (hb8.cell (p := ⟨N + 1,0,none⟩) hNr).trans z0; have f8 : w8.frozen? ⟨N + 1,0,none⟩ = false := (hb8.frozen (p := ⟨N + 1,0,none⟩) hNr).trans f0; have HB8 := Lib.hid hb8; clear hb8)
       | (go_at_call 81; refine (unless_calls _ _ _).mono ?_; rintro e w9 ⟨rfl,rfl⟩))
      obtain ⟨h3,h4⟩ := HFIN2.out w8 9 HB8.out
      refine ⟨[D],rfl,by simp,by intro b hb; simp at hb; subst hb; exact h3,.int .i64 9,fun w' hx => ?_⟩
      obtain ⟨h1,h2⟩ := h4 w' hx
      exact ⟨right_results _ _ _ _ rfl h1,by rw [HRR.out],by first | exact h2 | (rw [HN.out]; exact h2)⟩
     ·have hk1 : kx = (k : Int) := by rw [← hkx]; exact e
      subst hk1
      have hkl := (List.getElem?_eq_some_iff.1 hf).1
      have hkI : (k : Int) < (m.fs.length : Int) := by omega
      have HRR : Hid (R = unl (decide (f.c.par = 0) && !f.c.rp) 9) := by
       unfold Hid; rw [HR5.out,Int.toNat_natCast,hf,decide_eq_true (by omega)]; rfl
      obtain ⟨fb,foff,hfA,hfb,hfc⟩ := HM.out.mo.frow (by intro e; rw [e] at hkl; simp at hkl)
      have hfbN : fb < N := by omega
      have HFD : Hid (∀ W8,Below wr.heap.size wr W8 → W8.cell? ⟨fb,foff + k * 8 + 1,none⟩ = some (.int .i64 f.c.par) ∧ W8.cell? ⟨fb,foff + k * 8 + 3,none⟩ = some (.bool f.c.rp) ∧ W8.cell? ⟨N,1,none⟩ = some (.slice (some ⟨fb,foff,none⟩) m.fs.length m.fC) ∧ N < W8.heap.size ∧ fb < W8.heap.size) := by
       intro W8 h8
       have hB8 : Below N w W8 := HBR.out.trans (h8.mono (by omega))
       have hs8 := h8.size
       refine ⟨?_,?_,?_,by omega,by omega⟩
       ·rw [hB8.cell (p := ⟨fb,_,none⟩) hfbN]; exact hfc k f hf 1 _ rfl
       ·rw [hB8.cell (p := ⟨fb,_,none⟩) hfbN]; exact hfc k f hf 3 _ rfl
       ·rw [h8.cell (p := ⟨N,1,none⟩) (by show N < _; omega),← hfA]; exact m1
      simp only [Mo.cells] at HFN
      rw [hfA] at HFN m1
      clear hz hx hres hjud hkx hmod hmi HR4 HR5 e hfb hfc hf hfA
      by_cases hp : f.c.par = 0
      ·rw [hp] at HFD
       have HRR2 : Hid (R = unl (!f.c.rp) 9) := by unfold Hid; rw [HRR.out,hp]; rfl
       go_wp2_with (first
        | (go_at_call 80; refine HFN.out.mono ?_; rintro e w8 ⟨rfl,hb8⟩; have z8 : w8.cell? ⟨N + 1,0,none⟩ = some (.int .i64 0) := (hb8.cell (p := ⟨N + 1,0,none⟩) hNr).trans z0; have f8 : w8.frozen? ⟨N + 1,0,none⟩ = false := (hb8.frozen (p := ⟨N + 1,0,none⟩) hNr).trans f0; obtain ⟨u1,u2,u3,u4,u5⟩ := HFD.out w8 hb8; have HB8 := Lib.hid hb8; clear hb8)
        | (go_at_call 81; refine (unless_calls _ _ _).mono ?_; rintro e w9 ⟨rfl,rfl⟩))
       obtain ⟨h3,h4⟩ := HFIN2.out w8 (unl (!f.c.rp) 9) HB8.out
       refine ⟨[D],rfl,by simp,by intro b hb; simp at hb; subst hb; exact h3,.int .i64 (unl (!f.c.rp) 9),fun w' hx => ?_⟩
       obtain ⟨h1,h2⟩ := h4 w' hx
       exact ⟨right_results _ _ _ _ rfl h1,by rw [HRR2.out],by first | exact h2 | (rw [HN.out]; exact h2)⟩
      ·have HRR2 : Hid (R = 9) := by unfold Hid; rw [HRR.out,decide_eq_false hp]; rfl
       have hpb : (f.c.par == 0) = false := by rw [beq_eq_false_iff_ne]; exact hp
       go_wp2_with (first
        | (go_at_call 80; refine HFN.out.mono ?_; rintro e w8 ⟨rfl,hb8⟩; have z8 : w8.cell? ⟨N + 1,0,none⟩ = some (.int .i64 0) := (hb8.cell (p := ⟨N + 1,0,none⟩) hNr).trans z0; have f8 : w8.frozen? ⟨N + 1,0,none⟩ = false := (hb8.frozen (p := ⟨N + 1,0,none⟩) hNr).trans f0; obtain ⟨u1,u2,u3,u4,u5⟩ := HFD.out w8 hb8; have HB8 := Lib.hid hb8; clear hb8)
        | (go_at_call 81; refine (unless_calls _ _ _).mono ?_; rintro e w9 ⟨rfl,rfl⟩))
       obtain ⟨h3,h4⟩ := HFIN2.out w8 9 HB8.out
       refine ⟨[D],rfl,by simp,by intro b hb; simp at hb; subst hb; exact h3,.int .i64 9,fun w' hx => ?_⟩
       obtain ⟨h1,h2⟩ := h4 w' hx
       exact ⟨right_results _ _ _ _ rfl h1,by rw [HRR2.out],by first | exact h2 | (rw [HN.out]; exact h2)⟩
end Go.Proofs.Ytlggjbopfnndbaa
