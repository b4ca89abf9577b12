/- The types that a module names, one by one: an iterator. -/
import Derived.Test.YtlggjbopfnndbaaG16
import Derived.Test.YtlggjbopfnndbaaG06
namespace Go.Proofs.Ytlggjbopfnndbaa
open Go.RowKit
def tyEnc (t : Ty) : Array Value := #[.agg #[.bool t.1,.string t.2]]
def tyRd (N B : Nat) (k : Nat) : Prop := k < N ∨ k = B
def fnTys (f : Fn) : List Ty := f.ret :: f.vs.map Vr.ty
def stTys (s : St) : List Ty := s.fs.map Fd.ty
def tailF (m : Mo) (j : Nat) : List Ty := (m.fs.drop j).flatMap fnTys
def tailS (m : Mo) (j : Nat) : List Ty := (m.ss.drop j).flatMap stTys ++ tailF m 0
theorem typesF_tail (m : Mo) : typesF m = tailS m 0 := rfl
theorem tailS_step {m : Mo} {j : Nat} {s : St} (h : m.ss[j]? = some s) : tailS m j = (s.fs.drop 0).map Fd.ty ++ tailS m (j + 1) := by
 obtain ⟨hj,e⟩ := List.getElem?_eq_some_iff.1 h
 unfold tailS
 rw [List.drop_eq_getElem_cons hj,e,List.flatMap_cons,List.append_assoc]
 rfl
theorem tailS_end (m : Mo) : tailS m m.ss.length = tailF m 0 := by
 unfold tailS; simp
theorem tailF_step {m : Mo} {j : Nat} {f : Fn} (h : m.fs[j]? = some f) : tailF m j = f.ret :: ((f.vs.drop 0).map Vr.ty ++ tailF m (j + 1)) := by
 obtain ⟨hj,e⟩ := List.getElem?_eq_some_iff.1 h
 unfold tailF
 rw [List.drop_eq_getElem_cons hj,e,List.flatMap_cons]
 rfl
theorem tailF_end (m : Mo) : tailF m m.fs.length = [] := by
 unfold tailF; simp
theorem drop_map_step {α : Type} {l : List α} {q : Nat} {x : α} (f : α → Ty) (h : l[q]? = some x) : (l.drop q).map f = f x :: (l.drop (q + 1)).map f := by
 obtain ⟨hj,e⟩ := List.getElem?_eq_some_iff.1 h
 rw [List.drop_eq_getElem_cons hj,e,List.map_cons]
theorem drop_map_end {α : Type} (l : List α) (f : α → Ty) : (l.drop l.length).map f = [] := by simp
theorem vr_cells_one (f : Vr) : (f.cells.all fun x => x.oneCell') = true := by
 rw [← Array.all_toList]; simp [Vr.cells,Value.oneCell']
theorem pre_step {pre r : List Ty} {x : Ty} {xs : List Ty} (h : xs = pre ++ x :: r) : (pre ++ [x]) <+: xs ∧ xs = (pre ++ [x]) ++ r := by
 subst h
 exact ⟨⟨r,by simp⟩,by simp⟩
set_option maxRecDepth 100000 in
set_option maxHeartbeats 16000000 in
theorem types1_iter (w0 w : World) (m : Mo) (B : Nat) (h : m.inn w0) (hb : Below w0.heap.size w0 w) (hB : w.heap[B]? = some (.cells m.cells 25 (0,0))) (hfl : ∀ s ∈ m.ss,s.fs.length ≤ 90000) (hvl : ∀ f ∈ m.fs,f.vs.length ≤ 90000) (hsl : m.ss.length ≤ 90000) (hfn : m.fs.length ≤ 90000) :
  Iter Try.prog 100 #[.pointer (some ⟨B,0,none⟩)] tyEnc (typesF m) (tyRd w0.heap.size B) w := by
 intro l J Jx C W hbw hst hJC hstx hmeet hJ
 have HST := Lib.hid hst
 have HJC := Lib.hid hJC
 have HM := Lib.hid hmeet
 have HJ := Lib.hid hJ
 have HFL := Lib.hid hfl
 have HVL := Lib.hid hvl
 have hWB : W.heap[B]? = some (.cells m.cells 25 (0,0)) := (hbw.block B (Array.getElem?_eq_some_iff.1 hB).1).trans hB
 obtain ⟨N,hN⟩ : ∃ N,w0.heap.size = N := ⟨_,rfl⟩
 rw [hN] at HJC
 have HR : Hid (∀ W1,Ext (fun k => ¬ tyRd N B k) W W1 → W1.cell? ⟨B,0,none⟩ = some (.slice m.sA m.ss.length m.sC) ∧ W1.cell? ⟨B,1,none⟩ = some (.slice m.fA m.fs.length m.fC) ∧ m.inn W1 ∧ B < W1.heap.size) := by
  intro W1 hx
  have q := hx.heap hWB (fun h => h (.inr rfl))
  refine ⟨by rw [cell_of_row _ _ _ _ _ _ q]; rfl,by rw [cell_of_row _ _ _ _ _ _ q]; rfl,?_,(Array.getElem?_eq_some_iff.1 q).1⟩
  have b1 : Below w0.heap.size w0 W := hb.trans (hbw.mono hb.size)
  have b2 : Below N W W1 := hx.below (by rw [← hN]; exact b1.size) (fun k hk => by
   by_cases e : k < N
   ·exact absurd (.inl e) hk
   ·omega)
  exact h.below (b1.trans (by rw [hN]; exact b2))
 obtain ⟨XS,hXS⟩ : ∃ X,typesF m = X := ⟨_,rfl⟩
 rw [hXS] at HM ⊢
 have HXS : Hid (XS = tailS m 0) := by rw [← hXS]; exact typesF_tail m
 obtain ⟨c0,c1,_,hBl⟩ := HR.out W (Ext.refl _ _)
 clear hst hJC hstx hmeet hJ h hb hB hbw hWB hXS hN hfl hvl
 show Calls _ _ #[.func (.yield l) #[] #[],.pointer (some ⟨B,0,none⟩)] _ _
 go_enter Try.func100,Try.ntmps100
 go_wp2_with fail
 go_loopw [14] (fun c wr => ∃ (j : Nat) (pre : List Ty) (C : Nat → Prop),j ≤ m.ss.length ∧ c = .int .i64 (j : Int) ∧ XS = pre ++ tailS m j ∧ J pre C wr ∧ Ext (fun k => ¬ tyRd N B k) W wr) (fun c _ => m.ss.length - (intOf c).toNat)
 case atStart => exact ⟨0,[],C,Nat.zero_le _,rfl,HXS.out,HJ.out,Ext.refl _ _⟩
 case round =>
  clear c0 c1
  obtain ⟨j,pre,C1,hj,rfl,hxs,hJ1,hx1⟩ := hrel
  have HX1 := Lib.hid hx1
  have HJ1 := Lib.hid hJ1
  have HXX := Lib.hid hxs
  obtain ⟨c0,c1,hmin,hBl1⟩ := HR.out wr hx1
  by_cases hjl : j < m.ss.length
  ·obtain ⟨s,hs⟩ : ∃ s,m.ss[j]? = some s := ⟨_,List.getElem?_eq_getElem hjl⟩
   have hsm := List.mem_of_getElem? hs
   have hsin := hmin.sin s hsm
   obtain ⟨b0,off,hA,hb0,hcell⟩ := hmin.srow (by intro e; rw [e] at hjl; simp at hjl)
   have HCA : Hid (∀ k u,s.cells.toList[k]? = some u → wr.cell? ((⟨b0,off + j * 4,none⟩ : Addr).add k) = some u) := fun k u hu => by
    rw [Addr.add_lit]; exact hcell j s hs k u hu
   obtain ⟨M,hM⟩ : ∃ M,wr.heap.size = M := ⟨_,rfl⟩
   obtain ⟨W2,hW2⟩ : ∃ W2,wr.alloc (.cells s.cells 84) = W2 := ⟨_,rfl⟩
   have hst : ∀ (c : Array Value),c.size = 4 → (storeCells ⟨M,0,none⟩ s.cells.toList 0).run Try.prog (wr.alloc (.cells c 84)) = .ok () W2 := fun c hc => by
    rw [← hW2,← hM]
    exact run_storeCells_new (P := Try.prog) wr 84 c s.cells (by show _ = some 4; kernel_rfl) hc (st_cells_one s)
   have hr2 : W2.heap[M]? = some (.cells s.cells 84 (0,0)) := by rw [← hW2,← hM]; exact alloc_at _ _
   have m1 : W2.cell? ⟨M,1,none⟩ = some (.slice s.s.fA s.fs.length s.s.fC) := by rw [cell_of_row _ _ _ _ _ _ hr2,← hsin.nf]; rfl
   have hMlt : M < W2.heap.size := (Array.getElem?_eq_some_iff.1 hr2).1
   have HX2 : Hid (Ext (fun k => ¬ tyRd N B k) W W2) := by rw [← hW2]; exact HX1.out.alloc _
   have HJ2 : Hid (J pre C1 W2) := by rw [← hW2]; exact HST.out _ _ _ _ HJ1.out ((Ext.refl _ _).alloc _)
   have hXJ : XS = pre ++ ((s.fs.drop 0).map Fd.ty ++ tailS m (j + 1)) := by rw [hxs,tailS_step hs]
   have HXJ := Lib.hid hXJ
   have HS := Lib.hid hs
   have hfl := HFL.out s hsm
   have hjI : (j : Int) < (m.ss.length : Int) := by omega
   rw [hA] at c0 ⊢
   clear hx1 hJ1 hxs hsin hb0 hcell hs hr2 hW2 hXJ hmin
   go_upto_region 4 with (refine wpList_load_at rfl 84 _ rfl ⟨b0,off + j * 4,none⟩ rfl s.cells _ HCA.out Try.underlying84 rfl (by kernel_rfl) ?_)
   go_loopw [21] (fun c wq => ∃ (q : Nat) (pre : List Ty) (C : Nat → Prop),q ≤ s.fs.length ∧ c = .int .i64 (q : Int) ∧ XS = pre ++ ((s.fs.drop q).map Fd.ty ++ tailS m (j + 1)) ∧ J pre C wq ∧ Ext (fun k => ¬ tyRd N B k) W wq) (fun c _ => s.fs.length - (intOf c).toNat)
   case atStart => exact ⟨0,pre,C1,Nat.zero_le _,rfl,HXJ.out,HJ2.out,HX2.out⟩
   case round =>
    clear m1 c0 c1
    obtain ⟨q,pq,C2,hq,rfl,hxq,hJq,hx2⟩ := hrel
    have HXQ := Lib.hid hx2
    have HJQ := Lib.hid hJq
    obtain ⟨_,_,hminq,_⟩ := HR.out wr hx2
    by_cases hql : q < s.fs.length
    ·obtain ⟨f,hf⟩ : ∃ f,s.fs[q]? = some f := ⟨_,List.getElem?_eq_getElem hql⟩
     obtain ⟨fb,foff,hfA,hfb,hfc⟩ := (hminq.sin s hsm).row (by intro e; rw [e] at hql; simp at hql)
     have HFC : Hid (∀ k u,f.cells.toList[k]? = some u → wr.cell? ((⟨fb,foff + q * 5,none⟩ : Addr).add k) = some u) := fun k u hu => by
      rw [Addr.add_lit]; exact hfc q f hf k u hu
     obtain ⟨P,hP⟩ : ∃ P,wr.heap.size = P := ⟨_,rfl⟩
     obtain ⟨W3,hW3⟩ : ∃ W3,wr.alloc (.cells f.cells 86) = W3 := ⟨_,rfl⟩
     have hst3 : ∀ (c : Array Value),c.size = 5 → (storeCells ⟨P,0,none⟩ f.cells.toList 0).run Try.prog (wr.alloc (.cells c 86)) = .ok () W3 := fun c hc => by
      rw [← hW3,← hP]
      exact run_storeCells_new (P := Try.prog) wr 86 c f.cells (by show _ = some 5; kernel_rfl) hc (fd_cells_one f)
     have hr3 : W3.heap[P]? = some (.cells f.cells 86 (0,0)) := by rw [← hW3,← hP]; exact alloc_at _ _
     have p1 : W3.cell? ⟨P,1,none⟩ = some (.bool f.ptr) := by rw [cell_of_row _ _ _ _ _ _ hr3]; rfl
     have p2 : W3.cell? ⟨P,2,none⟩ = some (.string f.tgt) := by rw [cell_of_row _ _ _ _ _ _ hr3]; rfl
     have hPlt : P < W3.heap.size := (Array.getElem?_eq_some_iff.1 hr3).1
     have HX3 : Hid (Ext (fun k => ¬ tyRd N B k) W W3) := by rw [← hW3]; exact HXQ.out.alloc _
     have hJ3 : J pq C2 W3 := by rw [← hW3]; exact HST.out _ _ _ _ HJQ.out ((Ext.refl _ _).alloc _)
     have HJ3 := Lib.hid hJ3
     have hxf : XS = pq ++ f.ty :: ((s.fs.drop (q + 1)).map Fd.ty ++ tailS m (j + 1)) := by rw [hxq,drop_map_step Fd.ty hf]; rfl
     have HP := Lib.hid (pre_step hxf)
     have HMM := Lib.hid (HM.out pq f.ty C2 W3 hJ3 HP.out.1)
     unfold tyEnc at HMM
     simp only [Fd.ty] at HMM
     have hqI : (q : Int) < (s.fs.length : Int) := by omega
     rw [hfA]
     clear hx2 hJq hxq hf hfb hfc hr3 hW3 hJ3 hxf hminq
     go_upto_region 6 with (refine wpList_load_at rfl 86 _ rfl ⟨fb,foff + q * 5,none⟩ rfl f.cells _ HFC.out Try.underlying86 rfl (by kernel_rfl) ?_)
     refine (wpIn_wide (n := 0)).1 ?_
     refine wpIn_region_lit (wpListIn_ok rfl (by simp) (.func (.yield l) #[] #[]) (w' := W3) (by simp [go_sem]) ?_)
     simp only [Act.put,List.setIfInBounds_toArray,List.set_cons_zero,List.set_cons_succ]
     refine wpListIn_ok rfl (by simp) (.pointer (some ⟨P,1,none⟩)) (w' := W3) (by simp [go_sem]) ?_
     simp only [Act.put,List.setIfInBounds_toArray,List.set_cons_zero,List.set_cons_succ]
     refine wpListIn_ok rfl (by simp) (.agg #[.bool f.ptr,.string f.tgt]) (w' := W3) (by simp [go_sem,p1,p2]) ?_
     simp only [Act.put,List.setIfInBounds_toArray,List.set_cons_zero,List.set_cons_succ]
     refine wpListIn_meets (fv := .func (.yield l) #[] #[]) (args := #[.agg #[.bool (f.ptr,f.tgt).1,.string (f.ptr,f.tgt).2]]) rfl (.tmp 25) #[.tmp 27] _ rfl rfl (by simp [Act.eval]) HMM.out ?_
     intro v w3 hv
     simp only [Act.put,List.setIfInBounds_toArray,List.set_cons_zero,List.set_cons_succ]
     rcases hv with ⟨rfl,C',hC',hJ',hx'⟩ | ⟨rfl,hJ'⟩
     ·refine wpListIn_ok rfl (by simp) (.bool false) (w' := w3) (by simp [go_sem]) ?_
      simp only [Act.put,List.setIfInBounds_toArray,List.set_cons_zero,List.set_cons_succ]
      refine wpListIn_nil ?_
      have HNN : Hid (J (pq ++ [f.ty]) C' w3 ∧ Ext (fun k => ¬ tyRd N B k) W w3) := ⟨hJ',HX3.out.trans hx' (fun k hk => .inl ((HJC.out _ _ _ HJ3.out k hk).2))⟩
      clear hJ' hx' hC' p1 p2
      go_wp2
      go_roundw
      case rel => exact ⟨q + 1,_,C',by omega,by go_num,HP.out.2,HNN.out.1,HNN.out.2⟩
      case measure => simp [intOf]; omega
     ·refine wpListIn_ok rfl (by simp) (.bool true) (w' := w3) (by simp [go_sem]) ?_
      simp only [Act.put,List.setIfInBounds_toArray,List.set_cons_zero,List.set_cons_succ]
      refine wpListIn_nil ?_
      have HF : Hid (∃ pre,pre <+: XS ∧ Jx pre w3) := ⟨_,HP.out.1,hJ'⟩
      clear hJ' p1 p2
      go_wp2
      ((try simp only [Exit.inBlock,Exit.then]); (try rw [Exit.noGoto_ret]); (first | refine bodyPost_ret (results_none rfl _ _ _) rfl ?_ | refine bodyPost_end (results_none rfl _ _ _) rfl ?_))
      exact ⟨_,rfl,.inr HF.out⟩
    ·have hqe : q = s.fs.length := by omega
     subst hqe
     rw [drop_map_end,List.nil_append] at hxq
     have HXE := Lib.hid hxq
     clear hx2 hJq hxq hminq
     go_wp2
     go_roundw
     case rel => exact ⟨j + 1,pq,C2,by omega,by go_num,HXE.out,HJQ.out,HXQ.out⟩
     case measure => simp [intOf]; omega
  ·have hje : j = m.ss.length := by omega
   subst hje
   rw [tailS_end] at hxs
   have HXE := Lib.hid hxs
   obtain ⟨wo,hwo⟩ : ∃ wo,wo = wr := ⟨_,rfl⟩
   subst hwo
   clear hx1 hJ1 hxs hmin
   go_upto_region 10 with (fail)
   go_loopw [35] (fun c wr => ∃ (j : Nat) (pre : List Ty) (C : Nat → Prop),j ≤ m.fs.length ∧ c = .int .i64 (j : Int) ∧ XS = pre ++ tailF m j ∧ J pre C wr ∧ Ext (fun k => ¬ tyRd N B k) W wr) (fun c _ => m.fs.length - (intOf c).toNat)
   case atStart => exact ⟨0,pre,C1,Nat.zero_le _,rfl,HXE.out,HJ1.out,HX1.out⟩
   case round =>
    clear c0 c1 HXE HJ1 HX1
    obtain ⟨j,pre,C1,hj,rfl,hxs,hJ1,hx1⟩ := hrel
    have HX1 := Lib.hid hx1
    have HJ1 := Lib.hid hJ1
    obtain ⟨_,_,hmin,_⟩ := HR.out wr hx1
    by_cases hjl : j < m.fs.length
    ·obtain ⟨f,hf⟩ : ∃ f,m.fs[j]? = some f := ⟨_,List.getElem?_eq_getElem hjl⟩
     have hfm := List.mem_of_getElem? hf
     have hfnv := (hmin.fin f hfm).nvars
     obtain ⟨fb,foff,hfA,hfb,hfc⟩ := hmin.frow (by intro e; rw [e] at hjl; simp at hjl)
     have HFC : Hid (∀ k u,f.cells.toList[k]? = some u → wr.cell? ((⟨fb,foff + j * 8,none⟩ : Addr).add k) = some u) := fun k u hu => by
      rw [Addr.add_lit]; exact hfc j f hf k u hu
     obtain ⟨P,hP⟩ : ∃ P,wr.heap.size = P := ⟨_,rfl⟩
     obtain ⟨W3,hW3⟩ : ∃ W3,wr.alloc (.cells f.cells 50) = W3 := ⟨_,rfl⟩
     have hst3 : ∀ (c : Array Value),c.size = 8 → (storeCells ⟨P,0,none⟩ f.cells.toList 0).run Try.prog (wr.alloc (.cells c 50)) = .ok () W3 := fun c hc => by
      rw [← hW3,← hP]
      exact run_storeCells_new (P := Try.prog) wr 50 c f.cells (by show _ = some 8; kernel_rfl) hc (fn_cells_one' f)
     have hr3 : W3.heap[P]? = some (.cells f.cells 50 (0,0)) := by rw [← hW3,← hP]; exact alloc_at _ _
     have p3 : W3.cell? ⟨P,3,none⟩ = some (.bool f.c.rp) := by rw [cell_of_row _ _ _ _ _ _ hr3]; rfl
     have p4 : W3.cell? ⟨P,4,none⟩ = some (.string f.c.rto) := by rw [cell_of_row _ _ _ _ _ _ hr3]; rfl
     have hPlt : P < W3.heap.size := (Array.getElem?_eq_some_iff.1 hr3).1
     have HX3 : Hid (Ext (fun k => ¬ tyRd N B k) W W3) := by rw [← hW3]; exact HX1.out.alloc _
     have hJ3 : J pre C1 W3 := by rw [← hW3]; exact HST.out _ _ _ _ HJ1.out ((Ext.refl _ _).alloc _)
     have HJ3 := Lib.hid hJ3
     have HNP : Hid (¬ C1 P) := fun h => by have := (HJC.out _ _ _ HJ1.out P h).1; omega
     have HR3 := Lib.hid hr3
     have hxf : XS = pre ++ f.ret :: ((f.vs.drop 0).map Vr.ty ++ tailF m (j + 1)) := by rw [hxs,tailF_step hf]
     have HP := Lib.hid (pre_step hxf)
     have HMM := Lib.hid (HM.out pre f.ret C1 W3 hJ3 HP.out.1)
     unfold tyEnc at HMM
     simp only [Fn.ret] at HMM
     have hjI : (j : Int) < (m.fs.length : Int) := by omega
     have hvl := HVL.out f hfm
     have HVR : Hid (∀ W1,Ext (fun k => ¬ tyRd N B k) W W1 → RowOf Vr.cells 3 W1 W1.heap.size f.c.varsA f.vs) := fun W1 hx => ((HR.out W1 hx).2.2.1.fin f hfm).vars
     rw [hfA]
     clear hx1 hJ1 hxs hf hfb hfc hr3 hW3 hJ3 hxf hmin
     go_upto_region 12 with (refine wpList_load_at rfl 50 _ rfl ⟨fb,foff + j * 8,none⟩ rfl f.cells _ HFC.out Try.underlying50 rfl (by kernel_rfl) ?_)
     refine (wpIn_wide (n := 0)).1 ?_
     refine wpIn_region_lit (wpListIn_ok rfl (by simp) (.func (.yield l) #[] #[]) (w' := W3) (by simp [go_sem]) ?_)
     simp only [Act.put,List.setIfInBounds_toArray,List.set_cons_zero,List.set_cons_succ]
     refine wpListIn_ok rfl (by simp) (.pointer (some ⟨P,3,none⟩)) (w' := W3) (by simp [go_sem]) ?_
     simp only [Act.put,List.setIfInBounds_toArray,List.set_cons_zero,List.set_cons_succ]
     refine wpListIn_ok rfl (by simp) (.pointer (some ⟨P,3,none⟩)) (w' := W3) (by simp [go_sem]) ?_
     simp only [Act.put,List.setIfInBounds_toArray,List.set_cons_zero,List.set_cons_succ]
     refine wpListIn_ok rfl (by simp) (.agg #[.bool f.c.rp,.string f.c.rto]) (w' := W3) (by simp [go_sem,p3,p4]) ?_
     simp only [Act.put,List.setIfInBounds_toArray,List.set_cons_zero,List.set_cons_succ]
     refine wpListIn_meets (fv := .func (.yield l) #[] #[]) (args := #[.agg #[.bool (f.c.rp,f.c.rto).1,.string (f.c.rp,f.c.rto).2]]) rfl (.tmp 39) #[.tmp 42] _ rfl rfl (by simp [Act.eval]) HMM.out ?_
     intro v w3 hv
     simp only [Act.put,List.setIfInBounds_toArray,List.set_cons_zero,List.set_cons_succ]
     rcases hv with ⟨rfl,C',hC',hJ',hx'⟩ | ⟨rfl,hJ'⟩
     ·refine wpListIn_ok rfl (by simp) (.bool false) (w' := w3) (by simp [go_sem]) ?_
      simp only [Act.put,List.setIfInBounds_toArray,List.set_cons_zero,List.set_cons_succ]
      refine wpListIn_nil ?_
      have HNN : Hid (J (pre ++ [f.ret]) C' w3 ∧ Ext (fun k => ¬ tyRd N B k) W w3) := ⟨hJ',HX3.out.trans hx' (fun k hk => .inl ((HJC.out _ _ _ HJ3.out k hk).2))⟩
      have q3 := hx'.heap HR3.out HNP.out
      have p2 : w3.cell? ⟨P,2,none⟩ = some (.slice f.c.varsA f.vs.length f.c.varsC) := by rw [cell_of_row _ _ _ _ _ _ q3,← hfnv]; rfl
      have hP3 : P < w3.heap.size := (Array.getElem?_eq_some_iff.1 q3).1
      have HXF : Hid (XS = (pre ++ [f.ret]) ++ ((f.vs.drop 0).map Vr.ty ++ tailF m (j + 1))) := HP.out.2
      clear hJ' hx' hC' p3 p4 q3 HMM
      obtain ⟨wo2,hwo2⟩ : ∃ wo,wo = wr := ⟨_,rfl⟩
      subst hwo2
      go_upto_region 14 with (fail)
      go_loopw [48] (fun c wq => ∃ (q : Nat) (pre : List Ty) (C : Nat → Prop),q ≤ f.vs.length ∧ c = .int .i64 (q : Int) ∧ XS = pre ++ ((f.vs.drop q).map Vr.ty ++ tailF m (j + 1)) ∧ J pre C wq ∧ Ext (fun k => ¬ tyRd N B k) W wq) (fun c _ => f.vs.length - (intOf c).toNat)
      case atStart => exact ⟨0,_,C',Nat.zero_le _,rfl,HXF.out,HNN.out.1,HNN.out.2⟩
      case round =>
       clear p2
       obtain ⟨q,pq,C2,hq,rfl,hxq,hJq,hx2⟩ := hrel
       have HXQ := Lib.hid hx2
       have HJQ := Lib.hid hJq
       by_cases hql : q < f.vs.length
       ·obtain ⟨x,hx⟩ : ∃ x,f.vs[q]? = some x := ⟨_,List.getElem?_eq_getElem hql⟩
        obtain ⟨vb,voff,hvA,hvb,hvc⟩ := HVR.out wr hx2 (by intro e; rw [e] at hql; simp at hql)
        have HVC : Hid (∀ k u,x.cells.toList[k]? = some u → wr.cell? ((⟨vb,voff + q * 3,none⟩ : Addr).add k) = some u) := fun k u hu => by
         rw [Addr.add_lit]; exact hvc q x hx k u hu
        obtain ⟨P2,hP2⟩ : ∃ P,wr.heap.size = P := ⟨_,rfl⟩
        obtain ⟨W4,hW4⟩ : ∃ W4,wr.alloc (.cells x.cells 47) = W4 := ⟨_,rfl⟩
        have hst4 : ∀ (c : Array Value),c.size = 3 → (storeCells ⟨P2,0,none⟩ x.cells.toList 0).run Try.prog (wr.alloc (.cells c 47)) = .ok () W4 := fun c hc => by
         rw [← hW4,← hP2]
         exact run_storeCells_new (P := Try.prog) wr 47 c x.cells (by show _ = some 3; kernel_rfl) hc (vr_cells_one x)
        have hr4 : W4.heap[P2]? = some (.cells x.cells 47 (0,0)) := by rw [← hW4,← hP2]; exact alloc_at _ _
        have p0 : W4.cell? ⟨P2,0,none⟩ = some (.bool x.ptr) := by rw [cell_of_row _ _ _ _ _ _ hr4]; rfl
        have p1 : W4.cell? ⟨P2,1,none⟩ = some (.string x.tgt) := by rw [cell_of_row _ _ _ _ _ _ hr4]; rfl
        have hPlt4 : P2 < W4.heap.size := (Array.getElem?_eq_some_iff.1 hr4).1
        have HX4 : Hid (Ext (fun k => ¬ tyRd N B k) W W4) := by rw [← hW4]; exact HXQ.out.alloc _
        have hJ4 : J pq C2 W4 := by rw [← hW4]; exact HST.out _ _ _ _ HJQ.out ((Ext.refl _ _).alloc _)
        have HJ4 := Lib.hid hJ4
        have hxf : XS = pq ++ x.ty :: ((f.vs.drop (q + 1)).map Vr.ty ++ tailF m (j + 1)) := by rw [hxq,drop_map_step Vr.ty hx]; rfl
        have HP4 := Lib.hid (pre_step hxf)
        have HMM := Lib.hid (HM.out pq x.ty C2 W4 hJ4 HP4.out.1)
        unfold tyEnc at HMM
        simp only [Vr.ty] at HMM
        have hqI : (q : Int) < (f.vs.length : Int) := by omega
        rw [hvA]
        clear hx2 hJq hxq hx hvb hvc hr4 hW4 hJ4 hxf
        go_upto_region 16 with (refine wpList_load_at rfl 47 _ rfl ⟨vb,voff + q * 3,none⟩ rfl x.cells _ HVC.out Try.underlying47 rfl (by kernel_rfl) ?_)
        refine (wpIn_wide (n := 0)).1 ?_
        refine wpIn_region_lit (wpListIn_ok rfl (by simp) (.func (.yield l) #[] #[]) (w' := W4) (by simp [go_sem]) ?_)
        simp only [Act.put,List.setIfInBounds_toArray,List.set_cons_zero,List.set_cons_succ]
        refine wpListIn_ok rfl (by simp) (.pointer (some ⟨P2,0,none⟩)) (w' := W4) (by simp [go_sem]) ?_
        simp only [Act.put,List.setIfInBounds_toArray,List.set_cons_zero,List.set_cons_succ]
        refine wpListIn_ok rfl (by simp) (.agg #[.bool x.ptr,.string x.tgt]) (w' := W4) (by simp [go_sem,p0,p1]) ?_
        simp only [Act.put,List.setIfInBounds_toArray,List.set_cons_zero,List.set_cons_succ]
        refine wpListIn_meets (fv := .func (.yield l) #[] #[]) (args := #[.agg #[.bool (x.ptr,x.tgt).1,.string (x.ptr,x.tgt).2]]) rfl (.tmp 52) #[.tmp 54] _ rfl rfl (by simp [Act.eval]) HMM.out ?_
        intro v w3 hv
        simp only [Act.put,List.setIfInBounds_toArray,List.set_cons_zero,List.set_cons_succ]
        rcases hv with ⟨rfl,C',hC',hJ',hx'⟩ | ⟨rfl,hJ'⟩
        ·refine wpListIn_ok rfl (by simp) (.bool false) (w' := w3) (by simp [go_sem]) ?_
         simp only [Act.put,List.setIfInBounds_toArray,List.set_cons_zero,List.set_cons_succ]
         refine wpListIn_nil ?_
         have HN4 : Hid (J (pq ++ [x.ty]) C' w3 ∧ Ext (fun k => ¬ tyRd N B k) W w3) := ⟨hJ',HX4.out.trans hx' (fun k hk => .inl ((HJC.out _ _ _ HJ4.out k hk).2))⟩
         clear hJ' hx' hC' p0 p1
         go_wp2
         go_roundw
         case rel => exact ⟨q + 1,_,C',by omega,by go_num,HP4.out.2,HN4.out.1,HN4.out.2⟩
         case measure => simp [intOf]; omega
        ·refine wpListIn_ok rfl (by simp) (.bool true) (w' := w3) (by simp [go_sem]) ?_
         simp only [Act.put,List.setIfInBounds_toArray,List.set_cons_zero,List.set_cons_succ]
         refine wpListIn_nil ?_
         have HF : Hid (∃ pre,pre <+: XS ∧ Jx pre w3) := ⟨_,HP4.out.1,hJ'⟩
         clear hJ' p0 p1
         go_wp2
         ((try simp only [Exit.inBlock,Exit.then]); (try rw [Exit.noGoto_ret]); (first | refine bodyPost_ret (results_none rfl _ _ _) rfl ?_ | refine bodyPost_end (results_none rfl _ _ _) rfl ?_))
         exact ⟨_,rfl,.inr HF.out⟩
       ·have hqe : q = f.vs.length := by omega
        subst hqe
        rw [drop_map_end,List.nil_append] at hxq
        have HXE := Lib.hid hxq
        clear hx2 hJq hxq
        go_wp2
        go_roundw
        case rel => exact ⟨j + 1,pq,C2,by omega,by go_num,HXE.out,HJQ.out,HXQ.out⟩
        case measure => simp [intOf]; omega
     ·refine wpListIn_ok rfl (by simp) (.bool true) (w' := w3) (by simp [go_sem]) ?_
      simp only [Act.put,List.setIfInBounds_toArray,List.set_cons_zero,List.set_cons_succ]
      refine wpListIn_nil ?_
      have HF : Hid (∃ pre,pre <+: XS ∧ Jx pre w3) := ⟨_,HP.out.1,hJ'⟩
      clear hJ' p3 p4
      go_wp2
      ((try simp only [Exit.inBlock,Exit.then]); (try rw [Exit.noGoto_ret]); (first | refine bodyPost_ret (results_none rfl _ _ _) rfl ?_ | refine bodyPost_end (results_none rfl _ _ _) rfl ?_))
      exact ⟨_,rfl,.inr HF.out⟩
    ·have hje : j = m.fs.length := by omega
     subst hje
     rw [tailF_end,List.append_nil] at hxs
     have HXE : Hid (J XS C1 wr) := by unfold Hid; rw [hxs]; exact HJ1.out
     clear hx1 hJ1 hxs hmin
     go_wp2
     ((try simp only [Exit.inBlock,Exit.then]); (try rw [Exit.noGoto_ret]); (first | refine bodyPost_ret (results_none rfl _ _ _) rfl ?_ | refine bodyPost_end (results_none rfl _ _ _) rfl ?_))
     exact ⟨_,rfl,.inl ⟨C1,HXE.out⟩⟩
end Go.Proofs.Ytlggjbopfnndbaa
