import Derived.Test.YtlggjbopfnndbaaIrP
import Derived.Test.YtlggjbopfnndbaaRegC
import Derived.Test.YtlggjbopfnndbaaIrQ
import Derived.Test.YtlggjbopfnndbaaG30
import Derived.Test.YtlggjbopfnndbaaG15
namespace Go.Proofs.Ytlggjbopfnndbaa
open Go.RowKit
def eaEnc (p : Vr × Nat) : Array Value := #[.agg #[.bool p.1.ptr,.string p.1.tgt,.int .i64 p.1.cls],.int .i64 (p.2 : Int)]
def Fn.retV (f : Fn) : Vr := ⟨f.c.rp,f.c.rto,f.c.rcl⟩
def eachFrom : Nat → List Fn → List (Vr × Nat)
 | _,[] => []
 | j,f :: r => f.vs.map (fun v => (v,j)) ++ ((f.retV,j) :: eachFrom (j + 1) r)
def eachF (m : Mo) : List (Vr × Nat) := eachFrom 0 m.fs
def tailE (m : Mo) (j : Nat) : List (Vr × Nat) := eachFrom j (m.fs.drop j)
theorem tailE_step {m : Mo} {j : Nat} {f : Fn} (h : m.fs[j]? = some f) : tailE m j = (f.vs.drop 0).map (fun v => (v,j)) ++ ((f.retV,j) :: tailE m (j + 1)) := by
 obtain ⟨hj,e⟩ := List.getElem?_eq_some_iff.1 h
 unfold tailE
 rw [List.drop_eq_getElem_cons hj,e]
 rfl
theorem tailE_end (m : Mo) : tailE m m.fs.length = [] := by unfold tailE; simp [eachFrom]
theorem dropE_step {l : List Vr} {q j : Nat} {x : Vr} (h : l[q]? = some x) : (l.drop q).map (fun v => (v,j)) = (x,j) :: (l.drop (q + 1)).map (fun v => (v,j)) := by
 obtain ⟨hj,e⟩ := List.getElem?_eq_some_iff.1 h
 rw [List.drop_eq_getElem_cons hj,e,List.map_cons]
theorem preE_step {α : Type} {pre r : List α} {x : α} {xs : List α} (h : xs = pre ++ x :: r) : (pre ++ [x]) <+: xs ∧ xs = (pre ++ [x]) ++ r := by
 subst h
 exact ⟨⟨r,by simp⟩,by simp⟩
set_option maxRecDepth 100000 in
set_option maxHeartbeats 16000000 in
theorem each1_iter (w0 w : World) (m : Mo) (B : Nat) (h : m.inn w0) (hb : Below w0.heap.size w0 w) (hB : w.heap[B]? = some (.cells m.cells 25 (0,0))) (hvl : ∀ f ∈ m.fs,f.vs.length ≤ 90000) (hfn : m.fs.length ≤ 90000) :
  Iter Try.prog 98 #[.pointer (some ⟨B,0,none⟩)] eaEnc (eachF m) (tyRd w0.heap.size B) w := by
 intro l J Jx C W hbw hst hJC hstx hmeet hJ
 have HST := Lib.hid hst
 have HJC := Lib.hid hJC
 have HM := Lib.hid hmeet
 have HJ := Lib.hid hJ
 have HVL := Lib.hid hvl
 have hWB : W.heap[B]? = some (.cells m.cells 25 (0,0)) := (hbw.block B (Array.getElem?_eq_some_iff.1 hB).1).trans hB
 obtain ⟨N,hN⟩ : ∃ N,w0.heap.size = N := ⟨_,rfl⟩
 rw [hN] at HJC
 have HR : Hid (∀ W1,Ext (fun k => ¬ tyRd N B k) W W1 → W1.cell? ⟨B,1,none⟩ = some (.slice m.fA m.fs.length m.fC) ∧ m.inn W1 ∧ B < W1.heap.size) := by
  intro W1 hx
  have q := hx.heap hWB (fun h => h (.inr rfl))
  refine ⟨by rw [cell_of_row _ _ _ _ _ _ q]; rfl,?_,(Array.getElem?_eq_some_iff.1 q).1⟩
  have b1 : Below w0.heap.size w0 W := hb.trans (hbw.mono hb.size)
  have b2 : Below N W W1 := hx.below (by rw [← hN]; exact b1.size) (fun k hk => by
   by_cases e : k < N
   ·exact absurd (.inl e) hk
   ·omega)
  exact h.below (b1.trans (by rw [hN]; exact b2))
 obtain ⟨XS,hXS⟩ : ∃ X,eachF m = X := ⟨_,rfl⟩
 rw [hXS] at HM ⊢
 have HXS : Hid (XS = tailE m 0) := by rw [← hXS]; rfl
 obtain ⟨c1,_,hBl⟩ := HR.out W (Ext.refl _ _)
 have HNW : Hid (N ≤ W.heap.size) := by have := hb.size; have := hbw.size; unfold Hid; omega
 clear hst hJC hstx hmeet hJ h hb hB hbw hWB hXS hN hvl
 show Calls _ _ #[.func (.yield l) #[] #[],.pointer (some ⟨B,0,none⟩)] _ _
 go_enter Try.func98,Try.ntmps98
 go_wp2_with fail
 go_loopw [10] (fun c wr => ∃ (j : Nat) (pre : List (Vr × Nat)) (C : Nat → Prop),j ≤ m.fs.length ∧ c = .int .i64 (j : Int) ∧ XS = pre ++ tailE m j ∧ J pre C wr ∧ Ext (fun k => ¬ tyRd N B k) W wr) (fun c _ => m.fs.length - (intOf c).toNat)
 case atStart => exact ⟨0,[],C,Nat.zero_le _,rfl,HXS.out,HJ.out,Ext.refl _ _⟩
 case round =>
  clear c1
  obtain ⟨j,pre,C1,hj,rfl,hxs,hJ1,hx1⟩ := hrel
  have HX1 := Lib.hid hx1
  have HJ1 := Lib.hid hJ1
  obtain ⟨_,hmin,_⟩ := HR.out wr hx1
  by_cases hjl : j < m.fs.length
  ·obtain ⟨f,hf⟩ : ∃ f,m.fs[j]? = some f := ⟨_,List.getElem?_eq_getElem hjl⟩
   have hfm := List.mem_of_getElem? hf
   have hfnv := (hmin.fin f hfm).nvars
   obtain ⟨fb,foff,hfA,hfb,hfc⟩ := hmin.frow (by intro e; rw [e] at hjl; simp at hjl)
   have HFC : Hid (∀ k u,f.cells.toList[k]? = some u → wr.cell? ((⟨fb,foff + j * 8,none⟩ : Addr).add k) = some u) := fun k u hu => by
    rw [Addr.add_lit]; exact hfc j f hf k u hu
   obtain ⟨P,hP⟩ : ∃ P,wr.heap.size = P := ⟨_,rfl⟩
   obtain ⟨W3,hW3⟩ : ∃ W3,wr.alloc (.cells f.cells 50) = W3 := ⟨_,rfl⟩
   have hst3 : ∀ (c : Array Value),c.size = 8 → (storeCells ⟨P,0,none⟩ f.cells.toList 0).run Try.prog (wr.alloc (.cells c 50)) = .ok () W3 := fun c hc => by
    rw [← hW3,← hP]
    exact run_storeCells_new (P := Try.prog) wr 50 c f.cells (by show _ = some 8; kernel_rfl) hc (fnOne f)
   have hr3 : W3.heap[P]? = some (.cells f.cells 50 (0,0)) := by rw [← hW3,← hP]; exact alloc_at _ _
   have p2 : W3.cell? ⟨P,2,none⟩ = some (.slice f.c.varsA f.vs.length f.c.varsC) := by rw [cell_of_row _ _ _ _ _ _ hr3,← hfnv]; rfl
   have hPlt : P < W3.heap.size := (Array.getElem?_eq_some_iff.1 hr3).1
   have HX3 : Hid (Ext (fun k => ¬ tyRd N B k) W W3) := by rw [← hW3]; exact HX1.out.alloc _
   have hJ3 : J pre C1 W3 := by rw [← hW3]; exact HST.out _ _ _ _ HJ1.out ((Ext.refl _ _).alloc _)
   have HJ3 := Lib.hid hJ3
   have HNP : Hid (¬ C1 P) := fun h => by have := (HJC.out _ _ _ HJ1.out P h).1; omega
   have HNN : Hid (N ≤ P ∧ P ≠ B) := by
    have h1 := HX1.out.size
    have h2 := (HR.out wr hx1).2.2
    have h3 := HNW.out
    have h4 := (HR.out W (Ext.refl _ _)).2.2
    exact ⟨by omega,by omega⟩
   have HR3 := Lib.hid hr3
   have hxf : XS = pre ++ ((f.vs.drop 0).map (fun v => (v,j)) ++ ((f.retV,j) :: tailE m (j + 1))) := by rw [hxs,tailE_step hf]
   have HXF := Lib.hid hxf
   have hjI : (j : Int) < (m.fs.length : Int) := by omega
   have hvl := HVL.out f hfm
   have HVR : Hid (∀ W1,Ext (fun k => ¬ tyRd N B k) W W1 → RowOf Vr.cells 3 W1 W1.heap.size f.c.varsA f.vs) := fun W1 hx => ((HR.out W1 hx).2.1.fin f hfm).vars
   rw [hfA]
   clear hx1 hJ1 hxs hf hfb hfc hr3 hW3 hJ3 hxf hmin
   go_upto_region 3 with (refine wpList_load_at rfl 50 _ rfl ⟨fb,foff + j * 8,none⟩ rfl f.cells _ HFC.out Try.underlying50 rfl (by kernel_rfl) ?_)
   go_wp2_with fail
   clear p2
   obtain ⟨wo2,hwo2⟩ : ∃ wo,wo = wr := ⟨_,rfl⟩
   subst hwo2
   go_loopw [18] (fun c wq => ∃ (q : Nat) (pre : List (Vr × Nat)) (C : Nat → Prop),q ≤ f.vs.length ∧ c = .int .i64 (q : Int) ∧ XS = pre ++ ((f.vs.drop q).map (fun v => (v,j)) ++ ((f.retV,j) :: tailE m (j + 1))) ∧ J pre C wq ∧ Ext (fun k => ¬ tyRd N B k) W wq ∧ wq.heap[P]? = some (.cells f.cells 50 (0,0)) ∧ ¬ C P) (fun c _ => f.vs.length - (intOf c).toNat)
   case atStart => exact ⟨0,pre,C1,Nat.zero_le _,rfl,HXF.out,HJ3.out,HX3.out,HR3.out,HNP.out⟩
   case round =>
    obtain ⟨q,pq,C2,hq,rfl,hxq,hJq,hx2,hrp,hnp⟩ := hrel
    have HXQ := Lib.hid hx2
    have HJQ := Lib.hid hJq
    have HRP := Lib.hid hrp
    have HNP2 := Lib.hid hnp
    have hPl : P < wr.heap.size := (Array.getElem?_eq_some_iff.1 hrp).1
    by_cases hql : q < f.vs.length
    ·obtain ⟨x,hx⟩ : ∃ x,f.vs[q]? = some x := ⟨_,List.getElem?_eq_getElem hql⟩
     obtain ⟨vb,voff,hvA,hvb,hvc⟩ := HVR.out wr hx2 (by intro e; rw [e] at hql; simp at hql)
     have HVC : Hid (∀ k u,x.cells.toList[k]? = some u → wr.cell? ((⟨vb,voff + q * 3,none⟩ : Addr).add k) = some u) := fun k u hu => by
      rw [Addr.add_lit]; exact hvc q x hx k u hu
     obtain ⟨P2,hP2⟩ : ∃ P,wr.heap.size = P := ⟨_,rfl⟩
     obtain ⟨W4,hW4⟩ : ∃ W4,wr.alloc (.cells x.cells 47) = W4 := ⟨_,rfl⟩
     have hst4 : ∀ (c : Array Value),c.size = 3 → (storeCells ⟨P2,0,none⟩ x.cells.toList 0).run Try.prog (wr.alloc (.cells c 47)) = .ok () W4 := fun c hc => by
      rw [← hW4,← hP2]
      exact run_storeCells_new (P := Try.prog) wr 47 c x.cells (by show _ = some 3; kernel_rfl) hc (vr_cells_one x)
     have hr4 : W4.heap[P2]? = some (.cells x.cells 47 (0,0)) := by rw [← hW4,← hP2]; exact alloc_at _ _
     have p0 : W4.cell? ⟨P2,0,none⟩ = some (.bool x.ptr) := by rw [cell_of_row _ _ _ _ _ _ hr4]; rfl
     have p1 : W4.cell? ⟨P2,1,none⟩ = some (.string x.tgt) := by rw [cell_of_row _ _ _ _ _ _ hr4]; rfl
     have p2 : W4.cell? ⟨P2,2,none⟩ = some (.int .i64 x.cls) := by rw [cell_of_row _ _ _ _ _ _ hr4]; rfl
     have hPlt4 : P2 < W4.heap.size := (Array.getElem?_eq_some_iff.1 hr4).1
     have hx24 : Ext (fun _ => False) wr W4 := by rw [← hW4]; exact (Ext.refl _ _).alloc _
     have HX4 : Hid (Ext (fun k => ¬ tyRd N B k) W W4) := HXQ.out.trans hx24 (fun _ h => h.elim)
     have hJ4 : J pq C2 W4 := HST.out _ _ _ _ HJQ.out (hx24.mono (fun _ h => h.elim))
     have HJ4 := Lib.hid hJ4
     have HRP4 : Hid (W4.heap[P]? = some (.cells f.cells 50 (0,0))) := hx24.heap hrp (fun h => h)
     have hxf : XS = pq ++ (x,j) :: ((f.vs.drop (q + 1)).map (fun v => (v,j)) ++ ((f.retV,j) :: tailE m (j + 1))) := by rw [hxq,dropE_step hx]; rfl
     have HP4 := Lib.hid (preE_step hxf)
     have HMM := Lib.hid (HM.out pq (x,j) C2 W4 hJ4 HP4.out.1)
     unfold eaEnc at HMM
     simp only at HMM
     have hqI : (q : Int) < (f.vs.length : Int) := by omega
     rw [hvA]
     clear hx2 hJq hxq hx hvb hvc hr4 hW4 hJ4 hxf hrp hnp hx24
     go_upto_region 5 with (refine wpList_load_at rfl 47 _ rfl ⟨vb,voff + q * 3,none⟩ rfl x.cells _ HVC.out Try.underlying47 rfl (by kernel_rfl) ?_)
     go_upto_region 6 with (refine wpList_load_at rfl 47 _ rfl ⟨vb,voff + q * 3,none⟩ rfl x.cells _ HVC.out Try.underlying47 rfl (by kernel_rfl) ?_)
     refine (wpIn_wide (n := 0)).1 ?_
     refine wpIn_region_lit (wpListIn_ok rfl (by simp) (.func (.yield l) #[] #[]) (w' := W4) (by simp [go_sem]) ?_)
     simp only [Act.put,List.setIfInBounds_toArray,List.set_cons_zero,List.set_cons_succ]
     refine wpListIn_ok rfl (by simp) (.agg #[.bool x.ptr,.string x.tgt,.int .i64 x.cls]) (w' := W4) (by simp [go_sem,p0,p1,p2]) ?_
     simp only [Act.put,List.setIfInBounds_toArray,List.set_cons_zero,List.set_cons_succ]
     refine wpListIn_ok rfl (by simp) (.int .i64 (j : Int)) (w' := W4) (by simp [go_sem]) ?_
     simp only [Act.put,List.setIfInBounds_toArray,List.set_cons_zero,List.set_cons_succ]
     refine wpListIn_meets (fv := .func (.yield l) #[] #[]) (args := #[.agg #[.bool x.ptr,.string x.tgt,.int .i64 x.cls],.int .i64 (j : Int)]) rfl (.tmp 22) #[.tmp 23,.tmp 24] _ rfl rfl (by simp [Act.eval]) HMM.out ?_
     intro v w3 hv
     simp only [Act.put,List.setIfInBounds_toArray,List.set_cons_zero,List.set_cons_succ]
     rcases hv with ⟨rfl,C',hC',hJ',hx'⟩ | ⟨rfl,hJ'⟩
     ·refine wpListIn_ok rfl (by simp) (.bool false) (w' := w3) (by simp [go_sem]) ?_
      simp only [Act.put,List.setIfInBounds_toArray,List.set_cons_zero,List.set_cons_succ]
      refine wpListIn_nil ?_
      have HN4 : Hid (J (pq ++ [(x,j)]) C' w3 ∧ Ext (fun k => ¬ tyRd N B k) W w3 ∧ w3.heap[P]? = some (.cells f.cells 50 (0,0)) ∧ ¬ C' P) := ⟨hJ',HX4.out.trans hx' (fun k hk => .inl ((HJC.out _ _ _ HJ4.out k hk).2)),hx'.heap HRP4.out HNP2.out,fun h => by
       rcases hC' P h with h | h
       ·exact HNP2.out h
       ·omega⟩
      clear hJ' hx' hC' p0 p1 p2
      go_wp2
      go_roundw
      case rel => exact ⟨q + 1,_,C',by omega,by go_num,HP4.out.2,HN4.out.1,HN4.out.2.1,HN4.out.2.2.1,HN4.out.2.2.2⟩
      case measure => simp [intOf]; omega
     ·refine wpListIn_ok rfl (by simp) (.bool true) (w' := w3) (by simp [go_sem]) ?_
      simp only [Act.put,List.setIfInBounds_toArray,List.set_cons_zero,List.set_cons_succ]
      refine wpListIn_nil ?_
      have HF : Hid (∃ pre,pre <+: XS ∧ Jx pre w3) := ⟨_,HP4.out.1,hJ'⟩
      clear hJ' p0 p1 p2
      go_wp2
      ((try simp only [Exit.inBlock,Exit.then]); (try rw [Exit.noGoto_ret]); (first | refine bodyPost_ret (results_none rfl _ _ _) rfl ?_ | refine bodyPost_end (results_none rfl _ _ _) rfl ?_))
      exact ⟨_,rfl,.inr HF.out⟩
    ·have hqe : q = f.vs.length := by omega
     subst hqe
     have hxf : XS = pq ++ (f.retV,j) :: tailE m (j + 1) := by rw [hxq]; simp
     have HP4 := Lib.hid (preE_step hxf)
     have HMM := Lib.hid (HM.out pq (f.retV,j) C2 wr hJq HP4.out.1)
     unfold eaEnc Fn.retV at HMM
     simp only at HMM
     have p3 : wr.cell? ⟨P,3,none⟩ = some (.bool f.c.rp) := by rw [cell_of_row _ _ _ _ _ _ hrp]; rfl
     have p4 : wr.cell? ⟨P,4,none⟩ = some (.string f.c.rto) := by rw [cell_of_row _ _ _ _ _ _ hrp]; rfl
     have p5 : wr.cell? ⟨P,5,none⟩ = some (.int .i64 f.c.rcl) := by rw [cell_of_row _ _ _ _ _ _ hrp]; rfl
     clear hx2 hJq hxq hxf hrp hnp
     go_upto_region 8 with (fail)
     refine (wpIn_wide (n := 0)).1 ?_
     refine wpIn_region_lit (wpListIn_ok rfl (by simp) (.func (.yield l) #[] #[]) (w' := wr) (by simp [go_sem]) ?_)
     simp only [Act.put,List.setIfInBounds_toArray,List.set_cons_zero,List.set_cons_succ]
     refine wpListIn_ok rfl (by simp) (.pointer (some ⟨P,3,none⟩)) (w' := wr) (by simp [go_sem]) ?_
     simp only [Act.put,List.setIfInBounds_toArray,List.set_cons_zero,List.set_cons_succ]
     refine wpListIn_ok rfl (by simp) (.agg #[.bool f.c.rp,.string f.c.rto,.int .i64 f.c.rcl]) (w' := wr) (by simp [go_sem,p3,p4,p5]) ?_
     simp only [Act.put,List.setIfInBounds_toArray,List.set_cons_zero,List.set_cons_succ]
     refine wpListIn_ok rfl (by simp) (.int .i64 (j : Int)) (w' := wr) (by simp [go_sem]) ?_
     simp only [Act.put,List.setIfInBounds_toArray,List.set_cons_zero,List.set_cons_succ]
     refine wpListIn_meets (fv := .func (.yield l) #[] #[]) (args := #[.agg #[.bool f.c.rp,.string f.c.rto,.int .i64 f.c.rcl],.int .i64 (j : Int)]) rfl (.tmp 28) #[.tmp 30,.tmp 31] _ rfl rfl (by simp [Act.eval]) HMM.out ?_
     intro v w3 hv
     simp only [Act.put,List.setIfInBounds_toArray,List.set_cons_zero,List.set_cons_succ]
     rcases hv with ⟨rfl,C',hC',hJ',hx'⟩ | ⟨rfl,hJ'⟩
     ·refine wpListIn_ok rfl (by simp) (.bool false) (w' := w3) (by simp [go_sem]) ?_
      simp only [Act.put,List.setIfInBounds_toArray,List.set_cons_zero,List.set_cons_succ]
      refine wpListIn_nil ?_
      have HN4 : Hid (J (pq ++ [(f.retV,j)]) C' w3 ∧ Ext (fun k => ¬ tyRd N B k) W w3) := ⟨hJ',HXQ.out.trans hx' (fun k hk => .inl ((HJC.out _ _ _ HJQ.out k hk).2))⟩
      clear hJ' hx' hC' p3 p4 p5
      go_wp2
      go_roundw
      case rel => exact ⟨j + 1,_,C',by omega,by go_num,HP4.out.2,HN4.out.1,HN4.out.2⟩
      case measure => simp [intOf]; omega
     ·refine wpListIn_ok rfl (by simp) (.bool true) (w' := w3) (by simp [go_sem]) ?_
      simp only [Act.put,List.setIfInBounds_toArray,List.set_cons_zero,List.set_cons_succ]
      refine wpListIn_nil ?_
      have HF : Hid (∃ pre,pre <+: XS ∧ Jx pre w3) := ⟨_,HP4.out.1,hJ'⟩
      clear hJ' p3 p4 p5
      go_wp2
      ((try simp only [Exit.inBlock,Exit.then]); (try rw [Exit.noGoto_ret]); (first | refine bodyPost_ret (results_none rfl _ _ _) rfl ?_ | refine bodyPost_end (results_none rfl _ _ _) rfl ?_))
      exact ⟨_,rfl,.inr HF.out⟩
  ·have hje : j = m.fs.length := by omega
   subst hje
   rw [tailE_end,List.append_nil] at hxs
   have HXE : Hid (J XS C1 wr) := by unfold Hid; rw [hxs]; exact HJ1.out
   clear hx1 hJ1 hxs hmin
   go_wp2
   ((try simp only [Exit.inBlock,Exit.then]); (try rw [Exit.noGoto_ret]); (first | refine bodyPost_ret (results_none rfl _ _ _) rfl ?_ | refine bodyPost_end (results_none rfl _ _ _) rfl ?_))
   exact ⟨_,rfl,.inl ⟨C1,HXE.out⟩⟩
end Go.Proofs.Ytlggjbopfnndbaa
namespace Go.Proofs.Ytlggjbopfnndbaa
open Go.RowKit
attribute [local go_sem] Oper.semAt_some
def okC (v : Vr) : Bool := (v.ptr == (v.cls == 1 || v.cls == 2 || v.cls == 3)) && (v.ptr || v.cls == 0)
def classedF (m : Mo) : Bool := (eachF m).all fun p => okC p.1
theorem each_calls (m : Mo) (w : World) : Calls Try.prog 74 #[.agg m.cells] w fun e w' =>
  e = .returned (.func (.func 98) #[] #[.pointer (some ⟨w.heap.size,0,none⟩)]) ∧ w' = w.alloc (.cells m.cells 25) := by
 go_enter Try.func74,Try.ntmps74
 go_wp2
 go_ret
 exact ⟨rfl,rfl⟩
theorem fold_two (p q : Tmp) (u v : Value) (t : Array Value) : ((#[p,q] : Array Tmp).zip #[u,v]).foldl (fun t (p,v) => t.setIfInBounds p v) t = (t.setIfInBounds p u).setIfInBounds q v := by simp
theorem classed_results (tmps : Array Value) (w : World) (ad : Addr) (v : Value) (ht : tmps[2]? = some (.pointer (some ad))) (hc : w.cell? ad = some v) : (results Try.f43 tmps).run Try.prog w = .ok v w := by
 simp [results,go_sem,ht,hc]
structure CI (N : Nat) (XS : List (Vr × Nat)) (W5 : World) (pre : List (Vr × Nat)) (C : Nat → Prop) (W : World) : Prop where
 res : W.heap[N + 1]? = some (.cells #[.bool false] 4 (0,0))
 ext : Ext (fun k => k = N + 1) W5 W
 kn : ∀ t ∈ pre,okC t.1 = true
 own : (C = fun k => k = N + 1) ∨ ∃ (b : Nat) (t : Vr × Nat),C = (fun k => k = N + 1 ∨ k = b) ∧ XS[pre.length]? = some t ∧ W5.heap.size ≤ b ∧ W.heap[b]? = some (.cells #[.bool t.1.ptr,.string t.1.tgt,.int .i64 t.1.cls] 47 (0,0))
theorem CI.next {N : Nat} {XS pre : List (Vr × Nat)} {W5 W W' : World} {C : Nat → Prop} (h : CI N XS W5 pre C W) (hN : N + 1 < W5.heap.size) (hx : Ext (fun k => W5.heap.size ≤ k ∧ ¬ C k) W W') : CI N XS W5 pre C W' := by
 refine ⟨hx.heap h.res (fun h => by omega),h.ext.trans hx (fun j hj => .inr hj.1),h.kn,?_⟩
 rcases h.own with e | ⟨b,t,e,h1,h2,h3⟩
 ·exact .inl e
 ·exact .inr ⟨b,t,e,h1,h2,hx.heap h3 (fun h => h.2 (by rw [e]; exact .inr rfl))⟩
theorem CI.res_own {N : Nat} {XS pre : List (Vr × Nat)} {W5 W : World} {C : Nat → Prop} (h : CI N XS W5 pre C W) : C (N + 1) := by
 rcases h.own with e | ⟨b,t,e,_⟩
 ·rw [e]
 ·rw [e]; exact .inl rfl
structure CX (XS : List (Vr × Nat)) (N : Nat) (W5 : World) (c : Code) (C : Nat → Prop) (W : World) : Prop where
 ret : c = .ret
 res : W.heap[N + 1]? = some (.cells #[.bool false] 4 (0,0))
 ext : Ext (fun k => k = N + 1) W5 W
 bad : (XS.all fun p => okC p.1) = false
 own : C (N + 1)
set_option maxRecDepth 100000 in
set_option maxHeartbeats 16000000 in
theorem classed_calls (m : Mo) (w : World) (h : m.inn w) (hvl : ∀ f ∈ m.fs,f.vs.length ≤ 90000) (hfn : m.fs.length ≤ 90000) :
  Calls Try.prog 43 #[.agg m.cells] w fun e w' => e = .returned (.bool (classedF m)) ∧ Below w.heap.size w w' := by
 have HM := Lib.hid h
 have HVL := Lib.hid hvl
 obtain ⟨R,hR⟩ : ∃ R,classedF m = R := ⟨_,rfl⟩
 have HR : Hid (R = (eachF m).all fun p => okC p.1) := hR.symm
 rw [hR]
 clear h hR hvl
 obtain ⟨N,hN⟩ : ∃ N,w.heap.size = N := ⟨_,rfl⟩
 obtain ⟨W2,hW2⟩ : ∃ W2,(w.alloc (.cells m.cells 25)).alloc (.cells #[.bool false] 4) = W2 := ⟨_,rfl⟩
 have hb2 : Below N w W2 := by rw [← hW2,← hN]; exact ((Below.refl _ _).alloc (Nat.le_refl _) _).alloc (by simp) _
 have hs2 : W2.heap.size = N + 2 := by rw [← hW2]; simp [hN]
 have hr1 : W2.heap[N]? = some (.cells m.cells 25 (0,0)) := by rw [← hW2,← hN]; exact heap_alloc2_old _ _ _
 have hr2 : W2.heap[N + 1]? = some (.cells #[.bool false] 4 (0,0)) := by rw [← hW2,← hN]; exact heap_alloc2_new _ _ _
 have HB2 := Lib.hid hb2
 have HN := Lib.hid hN
 have HROW0 := Lib.hid hr1
 have HROWB := Lib.hid hr2
 have HW2 := Lib.hid hW2
 clear hb2 hr1 hr2 hW2
 (refine calls_of_wp_marks Try.func43 rfl ?_
  simp only [Try.ntmps43,List.size_toArray,List.length_cons,List.length_nil,Nat.reduceAdd,Nat.reduceSub,Array.replicate_succ,
    Array.replicate_zero,List.push_toArray,List.append_toArray,List.nil_append,List.cons_append])
 go_upto_region 1 with (fail)
 rw [HW2.out]
 clear HW2
 obtain ⟨B,hB⟩ : ∃ B,W2.heap.size = B := ⟨_,rfl⟩
 obtain ⟨W5,hW5⟩ : ∃ W5,W2.alloc (.cells m.cells 25) = W5 := ⟨_,rfl⟩
 have HEA : Hid (Calls Try.prog 74 #[.agg m.cells] W2 fun e w' => e = .returned (.func (.func 98) #[] #[.pointer (some ⟨B,0,none⟩)]) ∧ w' = W5) := by
  rw [← hB,← hW5]; exact each_calls m W2
 have hx25 : Ext (fun _ => False) W2 W5 := by rw [← hW5]; exact (Ext.refl _ _).alloc _
 have hs5 : W5.heap.size = B + 1 := by rw [← hW5]; simp [hB]
 have hrB : W5.heap[B]? = some (.cells m.cells 25 (0,0)) := by rw [← hW5,← hB]; exact alloc_at _ _
 have HBW5 : Hid (Below N w W5) := HB2.out.trans ((hx25.below (by omega : N ≤ W2.heap.size) (fun _ h => h.elim)))
 have HIT : Hid (Iter Try.prog 98 #[.pointer (some ⟨B,0,none⟩)] eaEnc (eachF m) (tyRd N B) W5) := by
  have := each1_iter w W5 m B HM.out (by rw [HN.out]; exact HBW5.out) hrB HVL.out hfn
  rw [HN.out] at this
  exact this
 have HX25 := Lib.hid hx25
 clear hx25 hrB hW5
 go_wp2_with (first
  | (refine wpList_load_row rfl 25 _ rfl N rfl 25 m.cells (0,0) _ HROW0.out Try.underlying25 rfl (by kernel_rfl) ?_)
  | (go_at_call 74; refine HEA.out.mono ?_; rintro e w6 ⟨rfl,hw6⟩; rw [hw6]; clear hw6))
 have hN5 : N + 1 < W5.heap.size := by omega
 have HFX : Hid (∀ (W : World) (z : Bool) (bs : List Nat),W.heap[N + 1]? = some (.cells #[.bool z] 4 (0,0)) → Ext (N ≤ ·) w W → (∀ b ∈ bs,N + 2 ≤ b) → ∀ w',Ext (· ∈ bs) W w' → w'.cell? ⟨N + 1,0,none⟩ = some (.bool z) ∧ Below N w w') := by
  intro W z bs h1 h2 h3 w' hx
  have h5 := hx.heap h1 (fun h => by have := h3 _ h; omega)
  refine ⟨by rw [cell_of_row _ _ _ _ _ _ h5]; rfl,?_⟩
  exact (h2.trans hx (fun j hj => .inl (by show N ≤ j; have := h3 _ hj; omega))).below (by omega) (fun k hk => hk)
 obtain ⟨XS,hXS⟩ : ∃ X,eachF m = X := ⟨_,rfl⟩
 rw [hXS] at HIT HR
 clear hXS
 refine wp_rangeFunc_sep (gf := 98) rfl Try.func98 (by rfl) rfl HIT.out (Below.refl _ _) ?hRd (fun _ => rfl) (CI N XS W5) (fun c _ C W => CX XS N W5 c C W) (fun pre C W W' h hx => h.next hN5 hx) ?hIC ?hIx (fun k => k = N + 1) ?h0 ?hround ?hdone ?hstop
 case hRd =>
  rintro k (h | rfl)
  ·omega
  ·omega
 case hIC =>
  intro pre C W h k hk
  rcases h.own with e | ⟨b,t,e,h1,h2,h3⟩
  ·rw [e] at hk
   have hk : k = N + 1 := hk
   subst hk
   exact ⟨(Array.getElem?_eq_some_iff.1 h.res).1,fun h => by rcases h with h | h <;> omega⟩
  ·rw [e] at hk
   rcases hk with hk | hk
   ·subst hk
    exact ⟨(Array.getElem?_eq_some_iff.1 h.res).1,fun h => by rcases h with h | h <;> omega⟩
   ·subst hk
    exact ⟨(Array.getElem?_eq_some_iff.1 h3).1,fun h => by rcases h with h | h <;> omega⟩
 case hIx =>
  intro c pre C W W' h hx
  exact ⟨h.ret,hx.heap h.res (fun q => by omega),h.ext.trans hx (fun j hj => .inr hj.1),h.bad,h.own⟩
 case h0 => exact ⟨HX25.out.heap HROWB.out (fun h => h),Ext.refl _ _,by simp,.inl rfl⟩
 case hround =>
  rintro l pre ⟨⟨xb,xs,xc⟩,xn⟩ C W hl hI hpre
  unfold eaEnc
  rw [fold_two]
  simp only [List.setIfInBounds_toArray,List.set_cons_zero,List.set_cons_succ]
  have HI := Lib.hid hI
  have HPRE := Lib.hid hpre
  have hxn : XS[pre.length]? = some (⟨xb,xs,xc⟩,xn) := by
   obtain ⟨t,ht⟩ := hpre
   rw [← ht]; simp
  have hsW := hI.ext.size
  obtain ⟨b,hb⟩ : ∃ b,W.heap.size = b := ⟨_,rfl⟩
  obtain ⟨W6,hW6⟩ : ∃ W6,W.alloc (.cells #[.bool xb,.string xs,.int .i64 xc] 47) = W6 := ⟨_,rfl⟩
  have hst6 : ∀ (c : Array Value),c.size = 3 → (storeCells ⟨b,0,none⟩ [.bool xb,.string xs,.int .i64 xc] 0).run Try.prog (W.alloc (.cells c 47)) = .ok () W6 := fun c hc => by
   rw [← hW6,← hb]
   exact run_storeCells_new (P := Try.prog) W 47 c #[.bool xb,.string xs,.int .i64 xc] (by show _ = some 3; kernel_rfl) hc (by simp [Value.oneCell'])
  have hr6 : W6.heap[b]? = some (.cells #[.bool xb,.string xs,.int .i64 xc] 47 (0,0)) := by rw [← hW6,← hb]; exact alloc_at _ _
  have hx6 : Ext (fun _ => False) W W6 := by rw [← hW6]; exact (Ext.refl _ _).alloc _
  have HI6 : Hid (CI N XS W5 pre (fun k => k = N + 1 ∨ k = b) W6) := by
   have h := HI.out
   exact ⟨hx6.heap h.res (fun h => h),h.ext.trans hx6 (fun _ h => h.elim),h.kn,.inr ⟨b,_,rfl,hxn,by omega,hr6⟩⟩
  have HX6 : Hid (Ext C W W6) := hx6.mono (fun _ h => h.elim)
  have HXN := Lib.hid hxn
  have HW6 := Lib.hid hW6
  clear hI hpre hxn hr6 hx6
  obtain ⟨F,hF⟩ : ∃ F,F = Fence.wide.inRound l := ⟨_,rfl⟩
  have HCI : Hid (∀ (n f : Nat) (args : Array Value) (w : World) (R : Ending → World → Prop),Calls Try.prog f args w R → CallsIn F n Try.prog f args w R) := by
   intro n f args w R h; rw [hF]; exact CallsIn.inRound l (callsIn_wide.2 h)
  have hFr : F.round = some l := by rw [hF]; rfl
  have hFf : ∀ f,F.fn f := fun f => by rw [hF]; trivial
  have hFd : F.depth = none := by rw [hF]; rfl
  rw [← hF]
  clear hF
  gi_wp2
  refine ⟨fun k => k = N + 1 ∨ k = b,?_,HI6.out,HX6.out,?_⟩
  ·rintro k (rfl | rfl)
   ·exact .inl HI.out.res_own
   ·exact .inr (by omega)
  intro W₂ hI2 hl2
  have hr2 : W₂.heap[b]? = some (.cells #[.bool xb,.string xs,.int .i64 xc] 47 (0,0)) := by
   rcases hI2.own with e | ⟨b',t',e,h1,h2,h3⟩
   ·have q := congrFun e b
    simp at q
    omega
   ·have q := congrFun e b
    simp at q
    rcases q with q | q
    ·omega
    ·subst q
     rw [HXN.out] at h1
     obtain rfl := Option.some.inj h1
     exact h3
  have hf2 := frozen_of_row _ _ 0 _ _ hI2.res
  have hz2 : W₂.cell? ⟨N + 1,0,none⟩ = some (.bool false) := (cell_of_row _ _ _ _ _ _ hI2.res).trans rfl
  have t0 : W₂.cell? ⟨b,0,none⟩ = some (.bool xb) := (cell_of_row _ _ _ _ _ _ hr2).trans rfl
  have t2 : W₂.cell? ⟨b,2,none⟩ = some (.int .i64 xc) := (cell_of_row _ _ _ _ _ _ hr2).trans rfl
  have HOKN : Hid (okC ⟨xb,xs,xc⟩ = true → ∀ a : Act,sepPost (CI N XS W5) (fun c _ C W => CX XS N W5 c C W) (fun k => k = N + 1 ∨ k = b) W₂ (pre ++ [(⟨xb,xs,xc⟩,xn)]) .normal a W₂) := by
   intro hok a
   refine ⟨fun k => k = N + 1,fun k hk => .inl (.inl hk),⟨hI2.res,hI2.ext,fun t ht => ?_,.inl rfl⟩,Ext.refl _ _⟩
   rcases List.mem_append.1 ht with h | h
   ·exact hI2.kn t h
   ·simp at h; subst h; exact hok
  have HBAD : Hid (okC ⟨xb,xs,xc⟩ = false → ∀ (a : Act) (W₃ : World),W₃ = W₂.setCell ⟨N + 1,0,none⟩ (.bool false) → sepPost (CI N XS W5) (fun c _ C W => CX XS N W5 c C W) (fun k => k = N + 1 ∨ k = b) W₂ (pre ++ [(⟨xb,xs,xc⟩,xn)]) .ret a W₃) := by
   intro hok a W₃ e
   have h8 : Ext (· = N + 1) W₂ (W₂.setCell ⟨N + 1,0,none⟩ (.bool false)) := Ext.set1 _ _ _ _
   subst e
   refine ⟨fun k => k = N + 1,fun k hk => .inl (.inl hk),⟨rfl,?_,hI2.ext.trans h8 (fun j hj => .inl hj),?_,rfl⟩,h8.mono (fun j hj => .inl hj)⟩
   ·have := heap_setCell_same W₂ (N + 1) 0 _ _ (.bool false) hI2.res
    simpa using this
   ·rw [List.all_eq_false]
    exact ⟨(⟨xb,xs,xc⟩,xn),HPRE.out.subset (by simp),by rw [hok]; simp⟩
  have hbs2 := (Array.getElem?_eq_some_iff.1 hr2).1
  clear hr2 hI2 hl2
  by_cases h1 : xc = 1
  ·subst h1
   cases xb with
   | true =>
    have HOK2 := Lib.hid (HOKN.out (by rfl))
    clear HOKN HBAD
    gi_wp2
    exact HOK2.out _
   | false =>
    have HBAD2 := Lib.hid (fun a => HBAD.out (by rfl) a _ rfl)
    clear HOKN HBAD
    gi_wp2
    exact HBAD2.out _
  by_cases h2 : xc = 2
  ·subst h2
   clear h1
   cases xb with
   | true =>
    have HOK2 := Lib.hid (HOKN.out (by rfl))
    clear HOKN HBAD
    gi_wp2
    exact HOK2.out _
   | false =>
    have HBAD2 := Lib.hid (fun a => HBAD.out (by rfl) a _ rfl)
    clear HOKN HBAD
    gi_wp2
    exact HBAD2.out _
  by_cases h3 : xc = 3
  ·subst h3
   clear h1 h2
   cases xb with
   | true =>
    have HOK2 := Lib.hid (HOKN.out (by rfl))
    clear HOKN HBAD
    gi_wp2
    exact HOK2.out _
   | false =>
    have HBAD2 := Lib.hid (fun a => HBAD.out (by rfl) a _ rfl)
    clear HOKN HBAD
    gi_wp2
    exact HBAD2.out _
  by_cases h0 : xc = 0
  ·subst h0
   clear h1 h2 h3
   cases xb with
   | true =>
    have HBAD2 := Lib.hid (fun a => HBAD.out (by rfl) a _ rfl)
    clear HOKN HBAD
    gi_wp2
    exact HBAD2.out _
   | false =>
    have HOK2 := Lib.hid (HOKN.out (by rfl))
    clear HOKN HBAD
    gi_wp2
    exact HOK2.out _
  have e1 : (xc == 1) = false := by rw [beq_eq_false_iff_ne]; exact h1
  have e2 : (xc == 2) = false := by rw [beq_eq_false_iff_ne]; exact h2
  have e3 : (xc == 3) = false := by rw [beq_eq_false_iff_ne]; exact h3
  have e0 : (xc != 0) = true := by rw [bne_iff_ne]; exact h0
  have e00 : (xc == 0) = false := by rw [beq_eq_false_iff_ne]; exact h0
  clear h0 h1 h2 h3
  cases xb with
  | true =>
   have HBAD2 := Lib.hid (fun a => HBAD.out (by unfold okC; simp only [e1,e2,e3,e00]; rfl) a _ rfl)
   clear HOKN HBAD
   gi_wp2
   exact HBAD2.out _
  | false =>
   have HBAD2 := Lib.hid (fun a => HBAD.out (by unfold okC; simp only [e1,e2,e3,e00]; rfl) a _ rfl)
   clear HOKN HBAD
   gi_wp2
   exact HBAD2.out _
 case hstop =>
  intro D c pre C W hD hCD hpre hix hdd
  obtain ⟨rfl,hres,hext,hbad,hown⟩ := hix
  have HRR : Hid (R = false) := by unfold Hid; rw [HR.out]; exact hbad
  have HDD := Lib.hid hdd
  have HXW : Hid (Ext (N ≤ ·) w W) := (Ext.of_below HBW5.out).trans (hext.mono (M' := (N ≤ ·)) (fun k hk => by show N ≤ k; omega)) (fun j hj => .inl hj)
  have HRES := Lib.hid hres
  clear hres hext hbad hown hdd hpre
  go_wp2_with fail
  refine ⟨[D],rfl,by simp,by intro b hb; simp at hb; subst hb; exact HDD.out,.bool false,fun w' hx => ?_⟩
  obtain ⟨h1,h2⟩ := HFX.out W false [D] HRES.out HXW.out (by simp; omega) w' hx
  exact ⟨classed_results _ _ _ _ rfl h1,by rw [HRR.out],by first | exact h2 | (rw [HN.out]; exact h2)⟩
 case hdone =>
  intro D C W hD hCD hI hdd
  have HRR : Hid (R = true) := by unfold Hid; rw [HR.out,List.all_eq_true]; exact hI.kn
  have HDD := Lib.hid hdd
  have HXW : Hid (Ext (N ≤ ·) w (W.setCell ⟨N + 1,0,none⟩ (.bool true))) := ((Ext.of_below HBW5.out).trans (hI.ext.mono (M' := (N ≤ ·)) (fun k hk => by show N ≤ k; omega)) (fun j hj => .inl hj)).trans (Ext.set1 _ _ _ _) (fun j hj => .inl (by show N ≤ j; omega))
  have z1 : W.cell? ⟨N + 1,0,none⟩ = some (.bool false) := (cell_of_row _ _ _ _ _ _ hI.res).trans rfl
  have z2 := frozen_of_row _ _ 0 _ _ hI.res
  have HRES : Hid ((W.setCell ⟨N + 1,0,none⟩ (.bool true)).heap[N + 1]? = some (.cells #[.bool true] 4 (0,0))) := by
   have := heap_setCell_same W (N + 1) 0 _ _ (.bool true) hI.res
   unfold Hid
   simpa using this
  have HDD2 : Hid ((W.setCell ⟨N + 1,0,none⟩ (.bool true)).heap[D]? = some (.deferred (some []))) := (Ext.set1 W (N + 1) 0 (.bool true)).heap hdd (by omega)
  clear hI hdd hCD
  go_wp2_with fail
  refine ⟨[D],rfl,by simp,by intro b hb; simp at hb; subst hb; exact HDD2.out,.bool true,fun w' hx => ?_⟩
  obtain ⟨h1,h2⟩ := HFX.out _ true [D] HRES.out HXW.out (by simp; omega) w' hx
  exact ⟨classed_results _ _ _ _ rfl h1,by rw [HRR.out],by first | exact h2 | (rw [HN.out]; exact h2)⟩
end Go.Proofs.Ytlggjbopfnndbaa
namespace Go.Proofs.Ytlggjbopfnndbaa
open Go.RowKit
def clsAt (vs : List Vr) (v : Int) : Int := match vs[v.toNat]? with
 | some x => x.cls
 | none => 0
def modesF (m : Mo) (g : Fn) (i : Ins) : List Int :=
 if i.op = 9 ∨ i.op = 10 then [clsAt g.vs i.d]
 else if i.op = 18 then (if g.c.rp = true then [g.c.rcl] else [])
 else if i.op = 15 then (match m.fs[i.f.toNat]? with
  | some h => (h.vs.take i.args.length).map (fun x => x.cls)
  | none => [])
 else []
set_option maxRecDepth 100000 in
set_option maxHeartbeats 4000000 in
theorem modes_9 (w : World) (m : Mo) (hm : m.inn w) (hok : OkR m) (f : Nat) (g : Fn) (hg : m.fs[f]? = some g) (i : Ins) (hi : i ∈ g.c.ins) (hop : i.op = 9) :
  Calls Try.prog 44 #[.agg (jg m g),.agg i.cells] w (GivesI w (modesF m g i)) := by
 have hgm : g ∈ m.fs := List.mem_of_getElem? hg
 obtain ⟨p0,p1,p2,p3⟩ := hok.fn g hgm
 have hgi := hm.fin g hgm
 obtain ⟨⟨⟨a1,c1,e1⟩,a2,n2,c2,e2⟩,a3,c3,e3,har⟩ := hgi.code.args i hi
 obtain ⟨N,hN⟩ : ∃ N,w.heap.size = N := ⟨_,rfl⟩
 obtain ⟨W2,hW2⟩ : ∃ W2,(w.alloc (.cells (jg m g) 77)).alloc (.cells i.cells 62) = W2 := ⟨_,rfl⟩
 have hb2 : Below w.heap.size w W2 := by rw [← hW2]; exact ((Below.refl _ _).alloc (Nat.le_refl _) _).alloc (by simp) _
 have hs2 : W2.heap.size = N + 2 := by rw [← hW2]; simp [hN]
 have hr1 : W2.heap[N]? = some (.cells (jg m g) 77 (0,0)) := by rw [← hW2,← hN]; exact heap_alloc2_old _ _ _
 have hr2 : W2.heap[N + 1]? = some (.cells i.cells 62 (0,0)) := by rw [← hW2,← hN]; exact heap_alloc2_new _ _ _
 have hm2 := hm.below hb2
 obtain ⟨L,hL⟩ : ∃ L,modesF m g i = L := ⟨_,rfl⟩
 rw [hL]
 have HPOST : Hid (∀ (w' : World) (ao : Option Addr) (cap : Nat),OwnI w' W2.heap.size (.slice ao L.length cap) L → Below W2.heap.size W2 w' → GivesI w L (.returned (.slice ao L.length cap)) w') := fun w' ao cap h1 h2 =>
  ⟨ao,cap,rfl,h1.mono hb2.size,hb2.trans (h2.mono hb2.size)⟩
 have HW2 := Lib.hid hW2
 obtain ⟨hvd,_⟩ := hok.mv g hgm i hi (.inl hop)
 have HL : Hid (L = [clsAt g.vs i.d]) := by unfold Hid; rw [← hL]; unfold modesF; rw [if_pos (.inl hop)]
 clear hL
 obtain ⟨d,hd⟩ : ∃ d : Nat,i.d = (d : Int) := ⟨i.d.toNat,by have := isVarR_iff.1 hvd; omega⟩
 rw [hd] at hvd HL
 have hdl : d < g.vs.length := by have := (isVarR_iff.1 hvd).2; omega
 obtain ⟨x,hx⟩ : ∃ x,g.vs[d]? = some x := ⟨_,List.getElem?_eq_getElem hdl⟩
 have hcl : clsAt g.vs (d : Int) = x.cls := by unfold clsAt; rw [Int.toNat_natCast,hx]
 rw [hcl] at HL
 obtain ⟨vb,vo,hvA,hvb,hvc⟩ := (hm2.fin g hgm).vars (by intro e; rw [e] at hdl; simp at hdl)
 have q2 : W2.cell? ⟨vb,vo + d * 3 + 2,none⟩ = some (.int .i64 x.cls) := hvc d x hx 2 _ rfl
 have k4 : W2.cell? ⟨N,4,none⟩ = some (.slice (some ⟨vb,vo,none⟩) g.vs.length g.c.varsC) := by rw [cell_of_row _ _ _ _ _ _ hr1,← hgi.nvars,← hvA]; rfl
 have i0 : W2.cell? ⟨N + 1,0,none⟩ = some (.int .i64 9) := by rw [cell_of_row _ _ _ _ _ _ hr2,← hop]; rfl
 have i1 : W2.cell? ⟨N + 1,1,none⟩ = some (.int .i64 (d : Int)) := by rw [cell_of_row _ _ _ _ _ _ hr2,← hd]; rfl
 have hdI : (d : Int) < (g.vs.length : Int) := by omega
 rw [HL.out] at HPOST ⊢
 clear hm hok hg hgm hgi hi hm2 hr1 hr2 hb2 hW2 hvc hx hcl hop hvd hd e1 e2 e3 har HL hvA p0 p1
 go_enter Try.func44,Try.ntmps44
 go_upto_region 1 with (fail)
 rw [HW2.out]
 go_wp2
 go_ret
 exact HPOST.out _ _ _ (OwnI.lit1 hs2.symm (by omega)) ((Below.refl _ _).alloc (Nat.le_refl _) _)
set_option maxRecDepth 100000 in
set_option maxHeartbeats 4000000 in
theorem modes_10 (w : World) (m : Mo) (hm : m.inn w) (hok : OkR m) (f : Nat) (g : Fn) (hg : m.fs[f]? = some g) (i : Ins) (hi : i ∈ g.c.ins) (hop : i.op = 10) :
  Calls Try.prog 44 #[.agg (jg m g),.agg i.cells] w (GivesI w (modesF m g i)) := by
 have hgm : g ∈ m.fs := List.mem_of_getElem? hg
 obtain ⟨p0,p1,p2,p3⟩ := hok.fn g hgm
 have hgi := hm.fin g hgm
 obtain ⟨⟨⟨a1,c1,e1⟩,a2,n2,c2,e2⟩,a3,c3,e3,har⟩ := hgi.code.args i hi
 obtain ⟨N,hN⟩ : ∃ N,w.heap.size = N := ⟨_,rfl⟩
 obtain ⟨W2,hW2⟩ : ∃ W2,(w.alloc (.cells (jg m g) 77)).alloc (.cells i.cells 62) = W2 := ⟨_,rfl⟩
 have hb2 : Below w.heap.size w W2 := by rw [← hW2]; exact ((Below.refl _ _).alloc (Nat.le_refl _) _).alloc (by simp) _
 have hs2 : W2.heap.size = N + 2 := by rw [← hW2]; simp [hN]
 have hr1 : W2.heap[N]? = some (.cells (jg m g) 77 (0,0)) := by rw [← hW2,← hN]; exact heap_alloc2_old _ _ _
 have hr2 : W2.heap[N + 1]? = some (.cells i.cells 62 (0,0)) := by rw [← hW2,← hN]; exact heap_alloc2_new _ _ _
 have hm2 := hm.below hb2
 obtain ⟨L,hL⟩ : ∃ L,modesF m g i = L := ⟨_,rfl⟩
 rw [hL]
 have HPOST : Hid (∀ (w' : World) (ao : Option Addr) (cap : Nat),OwnI w' W2.heap.size (.slice ao L.length cap) L → Below W2.heap.size W2 w' → GivesI w L (.returned (.slice ao L.length cap)) w') := fun w' ao cap h1 h2 =>
  ⟨ao,cap,rfl,h1.mono hb2.size,hb2.trans (h2.mono hb2.size)⟩
 have HW2 := Lib.hid hW2
 obtain ⟨hvd,_⟩ := hok.mv g hgm i hi (.inr hop)
 have HL : Hid (L = [clsAt g.vs i.d]) := by unfold Hid; rw [← hL]; unfold modesF; rw [if_pos (.inr hop)]
 clear hL
 obtain ⟨d,hd⟩ : ∃ d : Nat,i.d = (d : Int) := ⟨i.d.toNat,by have := isVarR_iff.1 hvd; omega⟩
 rw [hd] at hvd HL
 have hdl : d < g.vs.length := by have := (isVarR_iff.1 hvd).2; omega
 obtain ⟨x,hx⟩ : ∃ x,g.vs[d]? = some x := ⟨_,List.getElem?_eq_getElem hdl⟩
 have hcl : clsAt g.vs (d : Int) = x.cls := by unfold clsAt; rw [Int.toNat_natCast,hx]
 rw [hcl] at HL
 obtain ⟨vb,vo,hvA,hvb,hvc⟩ := (hm2.fin g hgm).vars (by intro e; rw [e] at hdl; simp at hdl)
 have q2 : W2.cell? ⟨vb,vo + d * 3 + 2,none⟩ = some (.int .i64 x.cls) := hvc d x hx 2 _ rfl
 have k4 : W2.cell? ⟨N,4,none⟩ = some (.slice (some ⟨vb,vo,none⟩) g.vs.length g.c.varsC) := by rw [cell_of_row _ _ _ _ _ _ hr1,← hgi.nvars,← hvA]; rfl
 have i0 : W2.cell? ⟨N + 1,0,none⟩ = some (.int .i64 10) := by rw [cell_of_row _ _ _ _ _ _ hr2,← hop]; rfl
 have i1 : W2.cell? ⟨N + 1,1,none⟩ = some (.int .i64 (d : Int)) := by rw [cell_of_row _ _ _ _ _ _ hr2,← hd]; rfl
 have hdI : (d : Int) < (g.vs.length : Int) := by omega
 rw [HL.out] at HPOST ⊢
 clear hm hok hg hgm hgi hi hm2 hr1 hr2 hb2 hW2 hvc hx hcl hop hvd hd e1 e2 e3 har HL hvA p0 p1
 go_enter Try.func44,Try.ntmps44
 go_upto_region 1 with (fail)
 rw [HW2.out]
 go_wp2
 go_ret
 exact HPOST.out _ _ _ (OwnI.lit1 hs2.symm (by omega)) ((Below.refl _ _).alloc (Nat.le_refl _) _)
set_option maxRecDepth 100000 in
set_option maxHeartbeats 4000000 in
theorem modes_18 (w : World) (m : Mo) (hm : m.inn w) (hok : OkR m) (f : Nat) (g : Fn) (hg : m.fs[f]? = some g) (i : Ins) (hi : i ∈ g.c.ins) (hop : i.op = 18) :
  Calls Try.prog 44 #[.agg (jg m g),.agg i.cells] w (GivesI w (modesF m g i)) := by
 have hgm : g ∈ m.fs := List.mem_of_getElem? hg
 obtain ⟨p0,p1,p2,p3⟩ := hok.fn g hgm
 have hgi := hm.fin g hgm
 obtain ⟨⟨⟨a1,c1,e1⟩,a2,n2,c2,e2⟩,a3,c3,e3,har⟩ := hgi.code.args i hi
 obtain ⟨N,hN⟩ : ∃ N,w.heap.size = N := ⟨_,rfl⟩
 obtain ⟨W2,hW2⟩ : ∃ W2,(w.alloc (.cells (jg m g) 77)).alloc (.cells i.cells 62) = W2 := ⟨_,rfl⟩
 have hb2 : Below w.heap.size w W2 := by rw [← hW2]; exact ((Below.refl _ _).alloc (Nat.le_refl _) _).alloc (by simp) _
 have hs2 : W2.heap.size = N + 2 := by rw [← hW2]; simp [hN]
 have hr1 : W2.heap[N]? = some (.cells (jg m g) 77 (0,0)) := by rw [← hW2,← hN]; exact heap_alloc2_old _ _ _
 have hr2 : W2.heap[N + 1]? = some (.cells i.cells 62 (0,0)) := by rw [← hW2,← hN]; exact heap_alloc2_new _ _ _
 have hm2 := hm.below hb2
 obtain ⟨L,hL⟩ : ∃ L,modesF m g i = L := ⟨_,rfl⟩
 rw [hL]
 have HPOST : Hid (∀ (w' : World) (ao : Option Addr) (cap : Nat),OwnI w' W2.heap.size (.slice ao L.length cap) L → Below W2.heap.size W2 w' → GivesI w L (.returned (.slice ao L.length cap)) w') := fun w' ao cap h1 h2 =>
  ⟨ao,cap,rfl,h1.mono hb2.size,hb2.trans (h2.mono hb2.size)⟩
 have HW2 := Lib.hid hW2
 have HL : Hid (L = if g.c.rp = true then [g.c.rcl] else []) := by unfold Hid; rw [← hL]; unfold modesF; rw [if_neg (by omega),if_pos hop]
 clear hL
 have k5 : W2.cell? ⟨N,5,none⟩ = some (.bool g.c.rp) := by rw [cell_of_row _ _ _ _ _ _ hr1]; rfl
 have k7 : W2.cell? ⟨N,7,none⟩ = some (.int .i64 g.c.rcl) := by rw [cell_of_row _ _ _ _ _ _ hr1]; rfl
 have i0 : W2.cell? ⟨N + 1,0,none⟩ = some (.int .i64 18) := by rw [cell_of_row _ _ _ _ _ _ hr2,← hop]; rfl
 clear hm hok hg hgm hgi hi hm2 hr1 hr2 hb2 hW2 hop e1 e2 e3 har p0 p1
 cases hrp : g.c.rp with
 | true =>
  rw [hrp] at k5 HL
  have HL2 : Hid (L = [g.c.rcl]) := HL.out
  rw [HL2.out] at HPOST ⊢
  clear hrp
  go_enter Try.func44,Try.ntmps44
  go_upto_region 1 with (fail)
  rw [HW2.out]
  go_wp2
  go_ret
  exact HPOST.out _ _ _ (OwnI.lit1 hs2.symm (by omega)) ((Below.refl _ _).alloc (Nat.le_refl _) _)
 | false =>
  rw [hrp] at k5 HL
  have HL2 : Hid (L = []) := HL.out
  rw [HL2.out] at HPOST ⊢
  clear hrp
  go_enter Try.func44,Try.ntmps44
  go_upto_region 1 with (fail)
  rw [HW2.out]
  go_wp2
  go_ret
  exact HPOST.out _ _ _ (OwnI.nil _ _) (Below.refl _ _)
set_option maxRecDepth 100000 in
set_option maxHeartbeats 4000000 in
theorem modes_15 (w : World) (m : Mo) (hm : m.inn w) (hok : OkR m) (f : Nat) (g : Fn) (hg : m.fs[f]? = some g) (i : Ins) (hi : i ∈ g.c.ins) (hop : i.op = 15) :
  Calls Try.prog 44 #[.agg (jg m g),.agg i.cells] w (GivesI w (modesF m g i)) := by
 have hgm : g ∈ m.fs := List.mem_of_getElem? hg
 obtain ⟨p0,p1,p2,p3⟩ := hok.fn g hgm
 have hgi := hm.fin g hgm
 obtain ⟨⟨⟨a1,c1,e1⟩,a2,n2,c2,e2⟩,a3,c3,e3,har⟩ := hgi.code.args i hi
 obtain ⟨N,hN⟩ : ∃ N,w.heap.size = N := ⟨_,rfl⟩
 obtain ⟨W2,hW2⟩ : ∃ W2,(w.alloc (.cells (jg m g) 77)).alloc (.cells i.cells 62) = W2 := ⟨_,rfl⟩
 have hb2 : Below w.heap.size w W2 := by rw [← hW2]; exact ((Below.refl _ _).alloc (Nat.le_refl _) _).alloc (by simp) _
 have hs2 : W2.heap.size = N + 2 := by rw [← hW2]; simp [hN]
 have hr1 : W2.heap[N]? = some (.cells (jg m g) 77 (0,0)) := by rw [← hW2,← hN]; exact heap_alloc2_old _ _ _
 have hr2 : W2.heap[N + 1]? = some (.cells i.cells 62 (0,0)) := by rw [← hW2,← hN]; exact heap_alloc2_new _ _ _
 have hm2 := hm.below hb2
 obtain ⟨L,hL⟩ : ∃ L,modesF m g i = L := ⟨_,rfl⟩
 rw [hL]
 have HPOST : Hid (∀ (w' : World) (ao : Option Addr) (cap : Nat),OwnI w' W2.heap.size (.slice ao L.length cap) L → Below W2.heap.size W2 w' → GivesI w L (.returned (.slice ao L.length cap)) w') := fun w' ao cap h1 h2 =>
  ⟨ao,cap,rfl,h1.mono hb2.size,hb2.trans (h2.mono hb2.size)⟩
 have HW2 := Lib.hid hW2
 obtain ⟨_,_,hf0,h,hgh,hlen⟩ := hok.call g hgm i hi hop
 obtain ⟨r0,r1,r2,_⟩ := hok.fn h (List.mem_of_getElem? hgh)
 have HL : Hid (L = (h.vs.take i.args.length).map (fun x => x.cls)) := by unfold Hid; rw [← hL]; unfold modesF; rw [if_neg (by omega),if_neg (by omega),if_pos hop,hgh]
 clear hL
 obtain ⟨y,hy⟩ : ∃ y : Nat,i.f = (y : Int) := ⟨i.f.toNat,by omega⟩
 rw [hy,Int.toNat_natCast] at hgh
 have hyl : y < m.fs.length := (List.getElem?_eq_some_iff.1 hgh).1
 obtain ⟨fb,fo,hfA,hfb,hfc⟩ := hm2.frow (by intro e; rw [e] at hyl; simp at hyl)
 have k1 : W2.cell? ⟨N,1,none⟩ = some (.slice (some ⟨fb,fo,none⟩) m.fs.length m.fC) := by rw [cell_of_row _ _ _ _ _ _ hr1,← hfA]; rfl
 have i0 : W2.cell? ⟨N + 1,0,none⟩ = some (.int .i64 15) := by rw [cell_of_row _ _ _ _ _ _ hr2,← hop]; rfl
 have i4 : W2.cell? ⟨N + 1,4,none⟩ = some (.int .i64 (y : Int)) := by rw [cell_of_row _ _ _ _ _ _ hr2,← hy]; rfl
 have i7 : W2.cell? ⟨N + 1,7,none⟩ = some (.slice a3 i.args.length c3) := by rw [cell_of_row _ _ _ _ _ _ hr2,← e3]; rfl
 have hyI : (y : Int) < (m.fs.length : Int) := by omega
 have hn60 := hok.nf
 have hal : i.args.length ≤ h.vs.length := by omega
 have hal3 : i.args.length ≤ 300 := by omega
 obtain ⟨B,hB⟩ : ∃ B,W2.heap.size = B := ⟨_,rfl⟩
 have HK : Hid (∀ W,Below B W2 W → W.cell? ⟨N,1,none⟩ = some (.slice (some ⟨fb,fo,none⟩) m.fs.length m.fC) ∧ W.cell? ⟨N + 1,4,none⟩ = some (.int .i64 (y : Int)) ∧
   ∀ k,k < h.vs.length → ∃ (vb vo : Nat) (x : Vr),h.vs[k]? = some x ∧ W.cell? ⟨fb,fo + y * 8 + 2,none⟩ = some (.slice (some ⟨vb,vo,none⟩) h.vs.length h.c.varsC) ∧ W.cell? ⟨vb,vo + k * 3 + 2,none⟩ = some (.int .i64 x.cls)) := by
  intro W hW
  refine ⟨?_,?_,fun k hk => ?_⟩
  ·rw [hW.cell (p := ⟨N,1,none⟩) (by show N < _; omega)]; exact k1
  ·rw [hW.cell (p := ⟨N + 1,4,none⟩) (by show N + 1 < _; omega)]; exact i4
  ·obtain ⟨x,hx⟩ : ∃ x,h.vs[k]? = some x := ⟨_,List.getElem?_eq_getElem hk⟩
   have hhi := hm2.fin h (List.mem_of_getElem? hgh)
   obtain ⟨vb,vo,hvA,hvb,hvc⟩ := hhi.vars (by intro e; rw [e] at hk; simp at hk)
   refine ⟨vb,vo,x,hx,?_,?_⟩
   ·rw [hW.cell (p := ⟨fb,_,none⟩) (by rw [← hB]; exact hfb),hfc y h hgh 2 _ rfl,hhi.nvars,hvA]
   ·rw [hW.cell (p := ⟨vb,_,none⟩) (by rw [← hB]; exact hvb)]; exact hvc k x hx 2 _ rfl
 have HB := Lib.hid hB
 rw [hB] at HPOST
 have HHL : Hid (h.vs.length ≤ 300) := r2
 clear hm hok hg hgm hgi hi hm2 hr1 hr2 hb2 hW2 hop e1 e2 e3 har p0 p1 r0 r1 r2 hgh hfc hfA hy hlen hf0 hB
 obtain ⟨j0,hj0,hj1,hj2,hj3⟩ := info_parts info_int
 go_enter Try.func44,Try.ntmps44
 go_upto_region 1 with (fail)
 rw [HW2.out]
 go_wp2_with fail
 clear i0 i7 k1 i4
 go_loopw [4,37] (fun v c wr => ∃ j : Nat,j ≤ i.args.length ∧ c = .int .i64 (j : Int) ∧ OwnI wr B v ((h.vs.take j).map (fun x => x.cls)) ∧ Below B W2 wr) (fun _ c _ => i.args.length - (intOf c).toNat)
 case atStart => exact ⟨0,Nat.zero_le _,rfl,OwnI.nil _ _,Below.refl _ _⟩
 case round =>
  obtain ⟨j,hj,rfl,hown,hb⟩ := hrel
  by_cases hjl : j < i.args.length
  ·have hjI : (j : Int) < (i.args.length : Int) := by omega
   obtain ⟨k1,i4,hk⟩ := HK.out wr hb
   obtain ⟨vb,vo,x,hx,k2,kx⟩ := hk j (by omega)
   have hjh : (j : Int) < (h.vs.length : Int) := by omega
   have hHL := HHL.out
   have hl : ((h.vs.take j).map (fun x => x.cls)).length = j := by rw [List.length_map,List.length_take]; omega
   have hsz : B ≤ wr.heap.size := by have := hb.size; rw [HB.out] at this; exact this
   obtain ⟨ao,cap,e⟩ := hown.isSlice
   subst e
   have HOW : Hid (wr.ownsRow B 3 1 (.slice ao ((h.vs.take j).map (fun x => x.cls)).length cap) j (((h.vs.take j).map (fun x => x.cls)).map (Value.int .i64))) := by
    have h9 := hown; unfold OwnI at h9; rw [hl] at h9; unfold Hid; rw [hl]; exact h9
   rw [hl] at HOW ⊢
   have HB1 := Lib.hid hb
   have HSTEP : Hid (∀ g5 cap5 w5,w5.ownsRow B 3 1 (.slice (some ⟨g5,0,none⟩) (j + 1) cap5) (j + 1) (((h.vs.take j).map (fun x => x.cls)).map (Value.int .i64) ++ [.int .i64 x.cls]) → (wr.alloc (.cells #[.int .i64 x.cls] 3)).grownBy w5 (Value.slice ao j cap).ownBlock →
     OwnI w5 B (.slice (some ⟨g5,0,none⟩) (j + 1) cap5) ((h.vs.take (j + 1)).map (fun x => x.cls)) ∧ Below B W2 w5) := by
    intro g5 cap5 w5 h1 h2
    refine ⟨?_,?_⟩
    ·unfold OwnI
     rw [take_snocI hx,List.map_append,List.length_append,hl,List.map_append]
     exact h1
    ·exact HB1.out.trans ((ext_grown (v := .slice ao j cap) ((Ext.refl _ _).alloc _) h2).below hsz (fun k hk => (HOW.out.lt k hk).1))
   clear hown hb hk hx hl
   go_wp2_with (at_builtin; refine wpList_append_lies _ rfl (.tmp 40) (.tmp 53) 35 rfl B 3 j0 (.int .i64 0) 1 8 Try.underlying35 hj0 hj1 hj2 hj3 rfl (by decide) (.slice ao j cap) j (((h.vs.take j).map (fun x => x.cls)).map (Value.int .i64)) rfl (ownsRow_below HOW.out ((Below.refl wr.heap.size wr).alloc (Nat.le_refl _) _)) ⟨wr.heap.size,0,none⟩ 1 1 [.int .i64 x.cls] rfl rfl (cells_new _ _ _) (by simp [Value.oneCell']) (by decide) (by unfold maxLen; omega) (by omega) (by rw [World.size_alloc]; omega) _ rfl ?_; intro g5 cap5 w5 hown5 hgrow5 hat5 hlt5; have HN := Lib.hid (HSTEP.out g5 cap5 w5 hown5 hgrow5); clear hown5 hgrow5 hat5 hlt5)
   go_roundw
   case rel => exact ⟨j + 1,by omega,by go_num,HN.out.1,HN.out.2⟩
   case measure => simp [intOf]; omega
  ·have hje : j = i.args.length := by omega
   subst hje
   rw [← HL.out] at hown
   obtain ⟨ao,cap,e⟩ := hown.isSlice
   subst e
   have HO := Lib.hid (HPOST.out wr ao cap hown hb)
   clear hown hb
   go_wp2
   go_ret
   exact HO.out
set_option maxRecDepth 100000 in
set_option maxHeartbeats 4000000 in
theorem modes_none (w : World) (m : Mo) (hm : m.inn w) (hok : OkR m) (f : Nat) (g : Fn) (hg : m.fs[f]? = some g) (i : Ins) (hi : i ∈ g.c.ins) (h9 : i.op ≠ 9) (h10 : i.op ≠ 10) (h15 : i.op ≠ 15) (h18 : i.op ≠ 18) :
  Calls Try.prog 44 #[.agg (jg m g),.agg i.cells] w (GivesI w (modesF m g i)) := by
 have hgm : g ∈ m.fs := List.mem_of_getElem? hg
 obtain ⟨p0,p1,p2,p3⟩ := hok.fn g hgm
 have hgi := hm.fin g hgm
 obtain ⟨⟨⟨a1,c1,e1⟩,a2,n2,c2,e2⟩,a3,c3,e3,har⟩ := hgi.code.args i hi
 obtain ⟨N,hN⟩ : ∃ N,w.heap.size = N := ⟨_,rfl⟩
 obtain ⟨W2,hW2⟩ : ∃ W2,(w.alloc (.cells (jg m g) 77)).alloc (.cells i.cells 62) = W2 := ⟨_,rfl⟩
 have hb2 : Below w.heap.size w W2 := by rw [← hW2]; exact ((Below.refl _ _).alloc (Nat.le_refl _) _).alloc (by simp) _
 have hs2 : W2.heap.size = N + 2 := by rw [← hW2]; simp [hN]
 have hr1 : W2.heap[N]? = some (.cells (jg m g) 77 (0,0)) := by rw [← hW2,← hN]; exact heap_alloc2_old _ _ _
 have hr2 : W2.heap[N + 1]? = some (.cells i.cells 62 (0,0)) := by rw [← hW2,← hN]; exact heap_alloc2_new _ _ _
 have hm2 := hm.below hb2
 obtain ⟨L,hL⟩ : ∃ L,modesF m g i = L := ⟨_,rfl⟩
 rw [hL]
 have HPOST : Hid (∀ (w' : World) (ao : Option Addr) (cap : Nat),OwnI w' W2.heap.size (.slice ao L.length cap) L → Below W2.heap.size W2 w' → GivesI w L (.returned (.slice ao L.length cap)) w') := fun w' ao cap h1 h2 =>
  ⟨ao,cap,rfl,h1.mono hb2.size,hb2.trans (h2.mono hb2.size)⟩
 have HW2 := Lib.hid hW2
 have HL : Hid (L = []) := by unfold Hid; rw [← hL]; unfold modesF; rw [if_neg (by omega),if_neg h18,if_neg h15]
 clear hL
 have i0 : W2.cell? ⟨N + 1,0,none⟩ = some (.int .i64 i.op) := by rw [cell_of_row _ _ _ _ _ _ hr2]; rfl
 have e9 : (i.op == 9) = false := by rw [beq_eq_false_iff_ne]; exact h9
 have e10 : (i.op == 10) = false := by rw [beq_eq_false_iff_ne]; exact h10
 have e15 : (i.op == 15) = false := by rw [beq_eq_false_iff_ne]; exact h15
 have e18 : (i.op == 18) = false := by rw [beq_eq_false_iff_ne]; exact h18
 rw [HL.out] at HPOST ⊢
 clear hm hok hg hgm hgi hi hm2 hr1 hr2 hb2 hW2 e1 e2 e3 har p0 p1 h9 h10 h15 h18
 go_enter Try.func44,Try.ntmps44
 go_upto_region 1 with (fail)
 rw [HW2.out]
 go_wp2
 go_ret
 exact HPOST.out _ _ _ (OwnI.nil _ _) (Below.refl _ _)
theorem modes_calls (w : World) (m : Mo) (hm : m.inn w) (hok : OkR m) (f : Nat) (g : Fn) (hg : m.fs[f]? = some g) (i : Ins) (hi : i ∈ g.c.ins) :
  Calls Try.prog 44 #[.agg (jg m g),.agg i.cells] w (GivesI w (modesF m g i)) := by
 by_cases h9 : i.op = 9
 ·exact modes_9 w m hm hok f g hg i hi h9
 by_cases h10 : i.op = 10
 ·exact modes_10 w m hm hok f g hg i hi h10
 by_cases h15 : i.op = 15
 ·exact modes_15 w m hm hok f g hg i hi h15
 by_cases h18 : i.op = 18
 ·exact modes_18 w m hm hok f g hg i hi h18
 exact modes_none w m hm hok f g hg i hi h9 h10 h15 h18
end Go.Proofs.Ytlggjbopfnndbaa
