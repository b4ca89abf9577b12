import Derived.Test.YtlggjbopfnndbaaG15
import Derived.Test.YtlggjbopfnndbaaG08
namespace Go.Proofs.Ytlggjbopfnndbaa
open Go.RowKit
theorem st_cells_one (s : St) : (s.cells.all fun x => x.oneCell') = true := by
 rw [← Array.all_toList]; simp [St.cells,Stc.cells,Value.oneCell']
theorem fd_cells_one (s : Fd) : (s.cells.all fun x => x.oneCell') = true := by
 rw [← Array.all_toList]; simp [Fd.cells,Value.oneCell']
theorem fn_cells_one' (f : Fn) : (f.cells.all fun x => x.oneCell') = true := by
 rw [← Array.all_toList]; simp [Fn.cells,Cod.cells,Value.oneCell']
theorem map_take_succ {α : Type} {l : List α} {j : Nat} {x : α} (f : α → ByteArray) (h : l[j]? = some x) : (l.take (j + 1)).map f = (l.take j).map f ++ [f x] := by
 rw [take_snocI h,List.map_append]; rfl
theorem OwnS.grown {w w' : World} {B base : Nat} {v : Value} {xs : List ByteArray} (hv : OwnS w base v xs) (hg : w.grownBy w' v.ownBlock) (hB : B ≤ base) (hs : B ≤ w.heap.size) : Below B w w' :=
 (Below.refl B w).grown hg hs (fun k hk => Nat.le_trans hB (hv.lt k hk).1)
set_option maxRecDepth 100000 in
set_option maxHeartbeats 16000000 in
theorem twice_calls (m : Mo) (w : World) (h : m.inn w) (hs : m.ss.length ≤ 90000) (hf : m.fs.length ≤ 90000) (hfl : ∀ s ∈ m.ss,s.fs.length ≤ 90000) :
  Calls Try.prog 76 #[.agg m.cells] w fun e w' => e = .returned (.bool (twiceF m)) ∧ Below w.heap.size w w' := by
 have HM := Lib.hid h
 have HFL := Lib.hid hfl
 obtain ⟨R,hR⟩ : ∃ R,twiceF m = R := ⟨_,rfl⟩
 have HR : Hid (R = ((m.ss.any fun s => decide (¬ (s.fs.map Fd.nm).Nodup)) || decide (¬ (m.ss.map fun s => s.s.nm).Nodup) || decide (¬ (m.fs.map fun f => f.c.nm).Nodup))) := hR.symm
 rw [hR]
 clear h hfl hR
 obtain ⟨N,hN⟩ : ∃ N,w.heap.size = N := ⟨_,rfl⟩
 obtain ⟨W1,hW1⟩ : ∃ W1,w.alloc (.cells m.cells 25) = W1 := ⟨_,rfl⟩
 have hb1 : Below N w W1 := by rw [← hW1,← hN]; exact (Below.refl _ _).alloc (Nat.le_refl _) _
 have hs1 : W1.heap.size = N + 1 := by rw [← hW1]; simp [hN]
 have hr1 : W1.heap[N]? = some (.cells m.cells 25 (0,0)) := by rw [← hW1,← hN]; exact alloc_at _ _
 have HK : Hid (∀ W,Below (N + 1) W1 W → W.cell? ⟨N,0,none⟩ = some (.slice m.sA m.ss.length m.sC) ∧ W.cell? ⟨N,1,none⟩ = some (.slice m.fA m.fs.length m.fC) ∧ N < W.heap.size) := fun W hW => by
  have q := (hW.block N (by omega)).trans hr1
  exact ⟨by rw [cell_of_row _ _ _ _ _ _ q]; rfl,by rw [cell_of_row _ _ _ _ _ _ q]; rfl,(Array.getElem?_eq_some_iff.1 q).1⟩
 have HB1 := Lib.hid hb1
 have HN := Lib.hid hN
 obtain ⟨k0,k1,hNlt⟩ := HK.out W1 (Below.refl _ _)
 clear hb1 hr1
 go_enter Try.func76,Try.ntmps76
 go_wp2_with fail
 go_loopw [3,15] (fun v c wr => ∃ (j : Nat) (ao : Option Addr) (cap : Nat),j ≤ m.ss.length ∧ c = .int .i64 (j : Int) ∧ v = .slice ao ((m.ss.take j).map fun s => s.s.nm).length cap ∧ OwnS wr (N + 1) v ((m.ss.take j).map fun s => s.s.nm) ∧ (∀ s ∈ m.ss.take j,(s.fs.map Fd.nm).Nodup) ∧ Below (N + 1) W1 wr) (fun _ c _ => m.ss.length - (intOf c).toNat)
 case atStart => exact ⟨0,none,0,Nat.zero_le _,rfl,rfl,OwnS.nil _ _,by simp,Below.refl _ _⟩
 case round =>
  clear k0 k1
  obtain ⟨j,ao,cap,hj,rfl,rfl,hown,hall,hb⟩ := hrel
  have HB := Lib.hid hb
  have HOW := Lib.hid hown
  have HALL := Lib.hid hall
  obtain ⟨k0,k1,hNr⟩ := HK.out wr hb
  have hszr : N + 1 ≤ wr.heap.size := by omega
  have HBW : Hid (Below N w wr) := HB1.out.trans (hb.mono (by omega))
  by_cases hjl : j < m.ss.length
  ·obtain ⟨s,hsj⟩ : ∃ s,m.ss[j]? = some s := ⟨_,List.getElem?_eq_getElem hjl⟩
   have hsm := List.mem_of_getElem? hsj
   have hsin := HM.out.sin s hsm
   obtain ⟨b0,off,hA,hb0,hcell⟩ := HM.out.srow (by intro e; rw [e] at hjl; simp at hjl)
   have hb0N : b0 < N := by omega
   have HCA : Hid (∀ k u,s.cells.toList[k]? = some u → wr.cell? ((⟨b0,off + j * 4,none⟩ : Addr).add k) = some u) := fun k u hu => by
    rw [Addr.add_lit,HBW.out.cell (p := ⟨b0,_,none⟩) hb0N]; exact hcell j s hsj k u hu
   obtain ⟨M,hM⟩ : ∃ M,wr.heap.size = M := ⟨_,rfl⟩
   obtain ⟨W2,hW2⟩ : ∃ W2,wr.alloc (.cells s.cells 84) = W2 := ⟨_,rfl⟩
   have hst : ∀ (c : Array Value),c.size = 4 → (storeCells ⟨M,0,none⟩ s.cells.toList 0).run Try.prog (wr.alloc (.cells c 84)) = .ok () W2 := fun c hc => by
    rw [← hW2,← hM]
    exact run_storeCells_new (P := Try.prog) wr 84 c s.cells (by show _ = some 4; kernel_rfl) hc (st_cells_one s)
   have hr2 : W2.heap[M]? = some (.cells s.cells 84 (0,0)) := by rw [← hW2,← hM]; exact alloc_at _ _
   have hs2 : W2.heap.size = M + 1 := by rw [← hW2]; simp [hM]
   have HB2 : Hid (Below (N + 1) W1 W2) := by rw [← hW2]; exact HB.out.alloc hszr _
   have HOW2 : Hid (OwnS W2 (N + 1) (.slice ao ((m.ss.take j).map fun s => s.s.nm).length cap) ((m.ss.take j).map fun s => s.s.nm)) := by rw [← hW2]; exact HOW.out.below ((Below.refl _ _).alloc (Nat.le_refl _) _)
   have HK2 : Hid (∀ W,Below (M + 1) W2 W → W.cell? ⟨M,0,none⟩ = some (.string s.s.nm) ∧ W.cell? ⟨M,1,none⟩ = some (.slice s.s.fA s.fs.length s.s.fC) ∧ M < W.heap.size) := fun W hW => by
    have q := (hW.block M (by omega)).trans hr2
    exact ⟨by rw [cell_of_row _ _ _ _ _ _ q]; rfl,by rw [cell_of_row _ _ _ _ _ _ q,← hsin.nf]; rfl,(Array.getElem?_eq_some_iff.1 q).1⟩
   obtain ⟨m0,m1,hMlt⟩ := HK2.out W2 (Below.refl _ _)
   have HFR : Hid (RowOf Fd.cells 5 w w.heap.size s.s.fA s.fs) := hsin.row
   have HFN : Hid (∀ f ∈ s.fs,f.nm.size ≤ maxLen) := hsin.fnm
   have hfl := HFL.out s hsm
   have HSJ := Lib.hid hsj
   have hjI : (j : Int) < (m.ss.length : Int) := by omega
   obtain ⟨XS,hXS⟩ : ∃ X,((m.ss.take j).map fun s => s.s.nm) = X := ⟨_,rfl⟩
   have hLS2 : XS.length ≤ 90000 := by rw [← hXS]; simp; omega
   rw [hXS] at HOW2 ⊢
   have HXS := Lib.hid hXS
   rw [hA] at k0 ⊢
   clear hb hown hall HOW hsm hsin hb0 hcell hsj hr2 hW2 hXS
   go_upto_region 7 with (refine wpList_load_at rfl 84 _ rfl ⟨b0,off + j * 4,none⟩ rfl s.cells _ HCA.out Try.underlying84 rfl (by kernel_rfl) ?_)
   go_loopw [7,22] (fun v c wq => ∃ (q : Nat) (ao : Option Addr) (cap : Nat),q ≤ s.fs.length ∧ c = .int .i64 (q : Int) ∧ v = .slice ao ((s.fs.take q).map Fd.nm).length cap ∧ OwnS wq (M + 1) v ((s.fs.take q).map Fd.nm) ∧ Below (M + 1) W2 wq) (fun _ c _ => s.fs.length - (intOf c).toNat)
   case atStart => exact ⟨0,none,0,Nat.zero_le _,rfl,rfl,OwnS.nil _ _,Below.refl _ _⟩
   case round =>
    obtain ⟨q,ao2,cap2,hq,rfl,rfl,hown2,hbq⟩ := hrel
    have HBQ := Lib.hid hbq
    have HOQ := Lib.hid hown2
    have hszq : M + 1 ≤ wr.heap.size := by have := hbq.size; omega
    clear m0 m1 k0 k1
    obtain ⟨m0,m1,_⟩ := HK2.out _ hbq
    by_cases hql : q < s.fs.length
    ·obtain ⟨f,hfq⟩ : ∃ f,s.fs[q]? = some f := ⟨_,List.getElem?_eq_getElem hql⟩
     obtain ⟨fb,foff,hfA,hfb,hfc⟩ := HFR.out (by intro e; rw [e] at hql; simp at hql)
     have hfbN : fb < N := by omega
     have HBNQ : Hid (Below N w wr) := HB1.out.trans ((HB2.out.trans (hbq.mono (by omega))).mono (by omega))
     have HFC : Hid (∀ k u,f.cells.toList[k]? = some u → wr.cell? ((⟨fb,foff + q * 5,none⟩ : Addr).add k) = some u) := fun k u hu => by
      rw [Addr.add_lit,HBNQ.out.cell (p := ⟨fb,_,none⟩) hfbN]; exact hfc q f hfq k u hu
     obtain ⟨P,hP⟩ : ∃ P,wr.heap.size = P := ⟨_,rfl⟩
     obtain ⟨W3,hW3⟩ : ∃ W3,wr.alloc (.cells f.cells 86) = W3 := ⟨_,rfl⟩
     have hst3 : ∀ (c : Array Value),c.size = 5 → (storeCells ⟨P,0,none⟩ f.cells.toList 0).run Try.prog (wr.alloc (.cells c 86)) = .ok () W3 := fun c hc => by
      rw [← hW3,← hP]
      exact run_storeCells_new (P := Try.prog) wr 86 c f.cells (by show _ = some 5; kernel_rfl) hc (fd_cells_one f)
     have hr3 : W3.heap[P]? = some (.cells f.cells 86 (0,0)) := by rw [← hW3,← hP]; exact alloc_at _ _
     have hs3 : W3.heap.size = P + 1 := by rw [← hW3]; simp [hP]
     have p0 : W3.cell? ⟨P,0,none⟩ = some (.string f.nm) := by rw [cell_of_row _ _ _ _ _ _ hr3]; rfl
     have HB3 : Hid (Below (M + 1) W2 W3) := by rw [← hW3]; exact HBQ.out.alloc hszq _
     have HOQ3 : Hid (OwnS W3 (M + 1) (.slice ao2 ((s.fs.take q).map Fd.nm).length cap2) ((s.fs.take q).map Fd.nm)) := by rw [← hW3]; exact HOQ.out.below ((Below.refl _ _).alloc (Nat.le_refl _) _)
     have HFQ := Lib.hid hfq
     have hqI : (q : Int) < (s.fs.length : Int) := by omega
     obtain ⟨XQ,hXQ⟩ : ∃ X,(s.fs.take q).map Fd.nm = X := ⟨_,rfl⟩
     have hLQ2 : XQ.length ≤ 90000 := by rw [← hXQ]; simp; omega
     have HXQ := Lib.hid hXQ
     rw [hfA]
     rw [hXQ] at HOQ3 ⊢
     clear hbq hown2 HOQ hfq hfb hfc hr3 hW3 hXQ
     go_wp2_with (first
      | (refine wpList_load_at rfl 86 _ rfl ⟨fb,foff + q * 5,none⟩ rfl f.cells _ HFC.out Try.underlying86 rfl (by kernel_rfl) ?_)
      | (at_builtin; refine wpList_append_str rfl (.tmp 26) (.tmp 29) rfl (M + 1) (.slice ao2 XQ.length cap2) XQ rfl (HOQ3.out.below ((Below.refl _ _).alloc (Nat.le_refl _) _)) ⟨P + 1,0,none⟩ f.nm 1 rfl ?c0 hLQ2 ?c1 ?_))
     case c0 => rw [← hs3,World.cell?_alloc_new]; rfl
     case c1 => rw [World.size_alloc]; omega
     intro v5 w5 hown5 hgrow5
     obtain ⟨X5,hX5⟩ : ∃ X,XQ ++ [f.nm] = X := ⟨_,rfl⟩
     rw [hX5] at hown5
     obtain ⟨ao5,cap5,rfl⟩ := hown5.isSlice
     have HX5 : Hid (X5 = (s.fs.take (q + 1)).map Fd.nm) := by unfold Hid; rw [map_take_succ Fd.nm HFQ.out,HXQ.out,hX5]
     have HB5 : Hid (Below (M + 1) W2 w5) := (HB3.out.alloc (by omega) _).trans (OwnS.grown (HOQ3.out.below ((Below.refl _ _).alloc (Nat.le_refl _) _)) hgrow5 (Nat.le_refl _) (by simp; omega))
     have HOW5 : Hid (OwnS w5 (M + 1) (.slice ao5 X5.length cap5) X5) := hown5
     clear hown5 hgrow5 hX5
     go_wp2
     go_roundw
     case rel => exact ⟨q + 1,ao5,cap5,by omega,by go_num,by rw [← HX5.out],by rw [← HX5.out]; exact HOW5.out,HB5.out⟩
     case measure => simp [intOf]; omega
    ·have hqe : q = s.fs.length := by omega
     subst hqe
     rw [List.take_length] at HOQ ⊢
     obtain ⟨XF,hXF⟩ : ∃ X,s.fs.map Fd.nm = X := ⟨_,rfl⟩
     have HDC : Hid (Calls Try.prog 99 #[.slice ao2 XF.length cap2] wr fun e w' => e = .returned (.bool (decide (¬ XF.Nodup))) ∧ Below wr.heap.size wr w') := by
      rw [← hXF]
      exact doubled_calls wr cap2 ao2 (s.fs.map Fd.nm) (by simp; exact hfl) (fun x hx => by
       obtain ⟨f,hf1,rfl⟩ := List.mem_map.1 hx
       exact HFN.out f hf1) HOQ.out.at_
     rw [hXF]
     have HXF := Lib.hid hXF
     clear hXF HOQ
     obtain ⟨d,hd⟩ : ∃ d,decide (¬ XF.Nodup) = d := ⟨_,rfl⟩
     rw [hd] at HDC
     have HD := Lib.hid hd
     clear hd hown2 hbq
     cases d with
     | true =>
      have HRR : Hid (R = true) := by
       unfold Hid
       rw [HR.out,List.any_eq_true.2 ⟨s,List.mem_of_getElem? HSJ.out,by rw [HXF.out]; exact HD.out⟩]; rfl
      go_wp2_with (go_at_call 99; refine HDC.out.mono ?_; rintro e w6 ⟨rfl,hb6⟩; have HB6 := Lib.hid hb6; clear hb6)
      go_ret
      rw [HRR.out]
      try rw [HN.out]
      exact ⟨rfl,HB1.out.trans ((HB2.out.trans ((HBQ.out.trans (HB6.out.mono hszq)).mono (by omega))).mono (by omega))⟩
     | false =>
      have HND : Hid ((s.fs.map Fd.nm).Nodup) := by
       unfold Hid
       rw [HXF.out]
       exact Decidable.of_not_not (of_decide_eq_false HD.out)
      go_upto_region 13 with (go_at_call 99; refine HDC.out.mono ?_; rintro e w6 ⟨rfl,hb6⟩; have HB6 : Hid (Below (M + 1) W2 w6) := HBQ.out.trans (hb6.mono hszq); clear hb6)
      obtain ⟨n0,_,_⟩ := HK2.out w6 HB6.out
      have hs6 : M + 1 ≤ w6.heap.size := by have := HB6.out.size; omega
      have HOW6 : Hid (OwnS w6 (N + 1) (.slice ao XS.length cap) XS) := by
       refine HOW2.out.below (Below.mono HB6.out ?_)
       omega
      clear m0 m1 HDC
      go_wp2_with (at_builtin; refine wpList_append_str rfl (.tmp 34) (.tmp 37) rfl (N + 1) (.slice ao XS.length cap) XS rfl (HOW6.out.below ((Below.refl _ _).alloc (Nat.le_refl _) _)) ⟨w6.heap.size,0,none⟩ s.s.nm 1 rfl ?c0 hLS2 ?c1 ?_)
      case c0 => rw [World.cell?_alloc_new]; rfl
      case c1 => rw [World.size_alloc]; omega
      intro v7 w7 hown7 hgrow7
      obtain ⟨X7,hX7⟩ : ∃ X,XS ++ [s.s.nm] = X := ⟨_,rfl⟩
      rw [hX7] at hown7
      obtain ⟨ao7,cap7,rfl⟩ := hown7.isSlice
      have HX7 : Hid (X7 = (m.ss.take (j + 1)).map fun s => s.s.nm) := by unfold Hid; rw [map_take_succ (fun s : St => s.s.nm) HSJ.out,HXS.out,hX7]
      have HB7 : Hid (Below (N + 1) W1 w7) := ((HB2.out.trans (HB6.out.mono (by omega))).alloc (by omega) _).trans (OwnS.grown (HOW6.out.below ((Below.refl _ _).alloc (Nat.le_refl _) _)) hgrow7 (Nat.le_refl _) (by simp; omega))
      have HOW7 : Hid (OwnS w7 (N + 1) (.slice ao7 X7.length cap7) X7) := hown7
      clear hown7 hgrow7 hX7
      go_wp2
      go_roundw
      case rel => exact ⟨j + 1,ao7,cap7,by omega,by go_num,by rw [← HX7.out],by rw [← HX7.out]; exact HOW7.out,take_all (p := fun s : St => (s.fs.map Fd.nm).Nodup) HALL.out HSJ.out HND.out,HB7.out⟩
      case measure => simp [intOf]; omega
  ·have hje : j = m.ss.length := by omega
   subst hje
   rw [List.take_length] at HOW HALL ⊢
   obtain ⟨XS,hXS⟩ : ∃ X,(m.ss.map fun s => s.s.nm) = X := ⟨_,rfl⟩
   have hLS2 : XS.length ≤ 90000 := by rw [← hXS]; simp; omega
   rw [hXS] at HOW ⊢
   have HRX : Hid (R = (decide (¬ XS.Nodup) || decide (¬ (m.fs.map fun f => f.c.nm).Nodup))) := by
    unfold Hid
    rw [HR.out,hXS]
    have e : (m.ss.any fun s => decide (¬ (s.fs.map Fd.nm).Nodup)) = false := by
     rw [List.any_eq_false]
     intro s hsm
     have := HALL.out s hsm
     simpa using this
    rw [e,Bool.false_or]
   have HXN : Hid (∀ x ∈ XS,x.size ≤ maxLen) := fun x hx => by
    rw [← hXS] at hx
    obtain ⟨s,hs1,rfl⟩ := List.mem_map.1 hx
    exact (HM.out.sin s hs1).nm
   clear hb hown hall HALL HR hXS
   go_upto_region 16 with (fail)
   obtain ⟨wo,hwo⟩ : ∃ wo,wo = wr := ⟨_,rfl⟩
   subst hwo
   go_loopw [4,43] (fun v c wq => ∃ (q : Nat) (ao : Option Addr) (cap : Nat),q ≤ m.fs.length ∧ c = .int .i64 (q : Int) ∧ v = .slice ao ((m.fs.take q).map fun f => f.c.nm).length cap ∧ OwnS wq wo.heap.size v ((m.fs.take q).map fun f => f.c.nm) ∧ Below wo.heap.size wo wq) (fun _ c _ => m.fs.length - (intOf c).toNat)
   case atStart => exact ⟨0,none,0,Nat.zero_le _,rfl,rfl,OwnS.nil _ _,Below.refl _ _⟩
   case round =>
    obtain ⟨q,ao2,cap2,hq,rfl,rfl,hown2,hbq⟩ := hrel
    have HBQ := Lib.hid hbq
    have HOQ := Lib.hid hown2
    have hszq := hbq.size
    clear k0 k1
    by_cases hql : q < m.fs.length
    ·obtain ⟨f,hfq⟩ : ∃ f,m.fs[q]? = some f := ⟨_,List.getElem?_eq_getElem hql⟩
     obtain ⟨fb,foff,hfA,hfb,hfc⟩ := HM.out.frow (by intro e; rw [e] at hql; simp at hql)
     have hfbN : fb < N := by omega
     have HBNQ : Hid (Below N w wr) := HBW.out.trans (hbq.mono (by omega))
     have HFC : Hid (∀ k u,f.cells.toList[k]? = some u → wr.cell? ((⟨fb,foff + q * 8,none⟩ : Addr).add k) = some u) := fun k u hu => by
      rw [Addr.add_lit,HBNQ.out.cell (p := ⟨fb,_,none⟩) hfbN]; exact hfc q f hfq k u hu
     obtain ⟨P,hP⟩ : ∃ P,wr.heap.size = P := ⟨_,rfl⟩
     obtain ⟨W3,hW3⟩ : ∃ W3,wr.alloc (.cells f.cells 50) = W3 := ⟨_,rfl⟩
     have hst3 : ∀ (c : Array Value),c.size = 8 → (storeCells ⟨P,0,none⟩ f.cells.toList 0).run Try.prog (wr.alloc (.cells c 50)) = .ok () W3 := fun c hc => by
      rw [← hW3,← hP]
      exact run_storeCells_new (P := Try.prog) wr 50 c f.cells (by show _ = some 8; kernel_rfl) hc (fn_cells_one' f)
     have hr3 : W3.heap[P]? = some (.cells f.cells 50 (0,0)) := by rw [← hW3,← hP]; exact alloc_at _ _
     have hs3 : W3.heap.size = P + 1 := by rw [← hW3]; simp [hP]
     have p0 : W3.cell? ⟨P,0,none⟩ = some (.string f.c.nm) := by rw [cell_of_row _ _ _ _ _ _ hr3]; rfl
     have HB3 : Hid (Below wo.heap.size wo W3) := by rw [← hW3]; exact HBQ.out.alloc hszq _
     have HOQ3 : Hid (OwnS W3 wo.heap.size (.slice ao2 ((m.fs.take q).map fun f => f.c.nm).length cap2) ((m.fs.take q).map fun f => f.c.nm)) := by rw [← hW3]; exact HOQ.out.below ((Below.refl _ _).alloc (Nat.le_refl _) _)
     have HFQ := Lib.hid hfq
     have hqI : (q : Int) < (m.fs.length : Int) := by omega
     obtain ⟨XQ,hXQ⟩ : ∃ X,((m.fs.take q).map fun f => f.c.nm) = X := ⟨_,rfl⟩
     have hLQ2 : XQ.length ≤ 90000 := by rw [← hXQ]; simp; omega
     have HXQ := Lib.hid hXQ
     rw [hfA]
     rw [hXQ] at HOQ3 ⊢
     clear hbq hown2 HOQ hfq hfb hfc hr3 hW3 hXQ
     go_wp2_with (first
      | (refine wpList_load_at rfl 50 _ rfl ⟨fb,foff + q * 8,none⟩ rfl f.cells _ HFC.out Try.underlying50 rfl (by kernel_rfl) ?_)
      | (at_builtin; refine wpList_append_str rfl (.tmp 47) (.tmp 50) rfl wo.heap.size (.slice ao2 XQ.length cap2) XQ rfl (HOQ3.out.below ((Below.refl _ _).alloc (Nat.le_refl _) _)) ⟨P + 1,0,none⟩ f.c.nm 1 rfl ?c0 hLQ2 ?c1 ?_))
     case c0 => rw [← hs3,World.cell?_alloc_new]; rfl
     case c1 => rw [World.size_alloc]; omega
     intro v5 w5 hown5 hgrow5
     obtain ⟨X5,hX5⟩ : ∃ X,XQ ++ [f.c.nm] = X := ⟨_,rfl⟩
     rw [hX5] at hown5
     obtain ⟨ao5,cap5,rfl⟩ := hown5.isSlice
     have HX5 : Hid (X5 = (m.fs.take (q + 1)).map fun f => f.c.nm) := by unfold Hid; rw [map_take_succ (fun f : Fn => f.c.nm) HFQ.out,HXQ.out,hX5]
     have HB5 : Hid (Below wo.heap.size wo w5) := (HB3.out.alloc (by omega) _).trans (OwnS.grown (HOQ3.out.below ((Below.refl _ _).alloc (Nat.le_refl _) _)) hgrow5 (Nat.le_refl _) (by simp; omega))
     have HOW5 : Hid (OwnS w5 wo.heap.size (.slice ao5 X5.length cap5) X5) := hown5
     clear hown5 hgrow5 hX5
     go_wp2
     go_roundw
     case rel => exact ⟨q + 1,ao5,cap5,by omega,by go_num,by rw [← HX5.out],by rw [← HX5.out]; exact HOW5.out,HB5.out⟩
     case measure => simp [intOf]; omega
    ·have hqe : q = m.fs.length := by omega
     subst hqe
     rw [List.take_length] at HOQ ⊢
     obtain ⟨XF,hXF⟩ : ∃ X,(m.fs.map fun f => f.c.nm) = X := ⟨_,rfl⟩
     rw [hXF] at HOQ HRX ⊢
     have hFN : ∀ x ∈ XF,x.size ≤ maxLen := fun x hx => by
      rw [← hXF] at hx
      obtain ⟨f,hf1,rfl⟩ := List.mem_map.1 hx
      exact (HM.out.fin f hf1).nm
     have hLF : XF.length ≤ 90000 := by rw [← hXF]; simpa using hf
     have HDS : Hid (Calls Try.prog 99 #[.slice ao XS.length cap] wr fun e w' => e = .returned (.bool (decide (¬ XS.Nodup))) ∧ Below wr.heap.size wr w') :=
      doubled_calls wr cap ao XS hLS2 HXN.out ((HOW.out.below HBQ.out).at_)
     have HDF : Hid (∀ W,Below wr.heap.size wr W → Calls Try.prog 99 #[.slice ao2 XF.length cap2] W fun e w' => e = .returned (.bool (decide (¬ XF.Nodup))) ∧ Below W.heap.size W w') := fun W hW =>
      doubled_calls W cap2 ao2 XF hLF hFN ((HOQ.out.below hW).at_)
     obtain ⟨d,hd⟩ : ∃ d,decide (¬ XS.Nodup) = d := ⟨_,rfl⟩
     obtain ⟨d2,hd2⟩ : ∃ d,decide (¬ XF.Nodup) = d := ⟨_,rfl⟩
     rw [hd] at HDS HRX
     rw [hd2] at HDF HRX
     have HBQ2 : Hid (Below N w wr) := HBW.out.trans (HBQ.out.mono (by omega))
     clear hown2 hbq hXF hFN HOQ HOW hd hd2
     cases d with
     | true =>
      go_wp2_with (go_at_call 99; refine HDS.out.mono ?_; rintro e w6 ⟨rfl,hb6⟩; have HB6 := Lib.hid hb6; clear hb6)
      go_ret
      rw [HRX.out]
      try rw [HN.out]
      exact ⟨rfl,HBQ2.out.trans (HB6.out.mono (by omega))⟩
     | false =>
      go_upto_region 20 with (fail)
      go_wp2_with (first
       | (go_at_call 99; refine (HDF.out _ HB6.out).mono ?_; rintro e w7 ⟨rfl,hb7⟩; have HB7 := Lib.hid hb7; clear hb7)
       | (go_at_call 99; refine HDS.out.mono ?_; rintro e w6 ⟨rfl,hb6⟩; have HB6 := Lib.hid hb6; clear hb6))
      go_ret
      rw [HRX.out]
      try rw [HN.out]
      exact ⟨rfl,(HBQ2.out.trans (HB6.out.mono (by omega))).trans (HB7.out.mono (by have := HB6.out.size; omega))⟩
end Go.Proofs.Ytlggjbopfnndbaa
namespace Go.Proofs.Ytlggjbopfnndbaa
open Go.RowKit
def eqBy {α : Type} (p : α → α → Bool) : List α → List α → Bool
 | [],[] => true
 | x :: xs,y :: ys => p x y && eqBy p xs ys
 | _,_ => false
theorem eqBy_iff {α : Type} {p : α → α → Bool} : ∀ {xs ys : List α},eqBy p xs ys = true ↔ xs.length = ys.length ∧ ∀ (k : Nat) (x y : α),xs[k]? = some x → ys[k]? = some y → p x y = true
 | [],[] => by simp [eqBy]
 | [],y :: ys => by simp [eqBy]
 | x :: xs,[] => by simp [eqBy]
 | x :: xs,y :: ys => by
  unfold eqBy
  rw [Bool.and_eq_true,eqBy_iff]
  constructor
  ·rintro ⟨h1,h2,h3⟩
   refine ⟨by simp [h2],fun k a b ha hb => ?_⟩
   cases k with
   | zero => simp at ha hb; subst ha hb; exact h1
   | succ k => exact h3 k a b (by simpa using ha) (by simpa using hb)
  ·rintro ⟨h1,h2⟩
   exact ⟨h2 0 x y rfl rfl,by simpa using h1,fun k a b ha hb => h2 (k + 1) a b (by simpa using ha) (by simpa using hb)⟩
theorem eqBy_false_len {α : Type} {p : α → α → Bool} {xs ys : List α} (h : xs.length ≠ ys.length) : eqBy p xs ys = false := by
 cases e : eqBy p xs ys with
 | false => rfl
 | true => exact absurd (eqBy_iff.1 e).1 h
theorem eqBy_false_at {α : Type} {p : α → α → Bool} {xs ys : List α} {k : Nat} {x y : α} (hx : xs[k]? = some x) (hy : ys[k]? = some y) (h : p x y = false) : eqBy p xs ys = false := by
 cases e : eqBy p xs ys with
 | false => rfl
 | true => have := (eqBy_iff.1 e).2 k x y hx hy; rw [h] at this; cases this
def EqTo {α : Type} (p : α → α → Bool) (xs ys : List α) (j : Nat) : Prop := ∀ k x y,k < j → xs[k]? = some x → ys[k]? = some y → p x y = true
theorem EqTo.zero {α : Type} (p : α → α → Bool) (xs ys : List α) : EqTo p xs ys 0 := fun k x y h => absurd h (by omega)
theorem EqTo.next {α : Type} {p : α → α → Bool} {xs ys : List α} {j : Nat} {x y : α} (h : EqTo p xs ys j) (hx : xs[j]? = some x) (hy : ys[j]? = some y) (hp : p x y = true) : EqTo p xs ys (j + 1) := by
 intro k a b hk ha hb
 by_cases e : k = j
 ·subst e
  rw [hx] at ha; rw [hy] at hb
  obtain rfl := Option.some.inj ha
  obtain rfl := Option.some.inj hb
  exact hp
 ·exact h k a b (by omega) ha hb
theorem EqTo.all {α : Type} {p : α → α → Bool} {xs ys : List α} (h : EqTo p xs ys xs.length) (hl : xs.length = ys.length) : eqBy p xs ys = true :=
 eqBy_iff.2 ⟨hl,fun k x y hx hy => h k x y (List.getElem?_eq_some_iff.1 hx).1 hx hy⟩
end Go.Proofs.Ytlggjbopfnndbaa
namespace Go.Proofs.Ytlggjbopfnndbaa
open Go.RowKit
def eqI (xs ys : List Int) : Bool := eqBy (fun x y : Int => x == y) xs ys
def Vr.same (x y : Vr) : Bool := x.ptr == y.ptr && x.tgt == y.tgt && x.cls == y.cls
def Fd.same (x y : Fd) : Bool := x.nm == y.nm && (x.ty == y.ty)
def sameI (md : Ins → List Int) (a b : Ins) : Bool := a.op == b.op && a.d == b.d && a.a == b.a && a.b == b.b && a.f == b.f && a.n == b.n && a.sign == b.sign && a.to == b.to && a.els == b.els && eqI a.args b.args && eqI (md a) (md b)
def sameC (md : Ins → List Int) (f g : Fn) : Bool := f.c.nm == g.c.nm && f.c.par == g.c.par && (f.c.rp == g.c.rp && f.c.rto == g.c.rto && f.c.rcl == g.c.rcl) && eqI f.frm g.frm && eqBy Vr.same f.vs g.vs && eqBy (sameI md) f.c.ins g.c.ins
def sameS (x y : St) : Bool := x.s.nm == y.s.nm && eqBy Fd.same x.fs y.fs
def sameM (md : Ins → List Int) (m n : Mo) : Bool := eqBy sameS m.ss n.ss && eqBy (sameC md) m.fs n.fs
def ModeAt (w : World) (md : Ins → List Int) (i : Ins) : Prop := ∃ ao cap,i.modeV = .slice ao (md i).length cap ∧ IntRow w ao (md i)
theorem ModeAt.below {w w' : World} {md : Ins → List Int} {i : Ins} (h : ModeAt w md i) (hb : Below w.heap.size w w') : ModeAt w' md i := by
 obtain ⟨ao,cap,e1,e2⟩ := h
 exact ⟨ao,cap,e1,RowOf.grow e2 hb⟩
theorem var_eqIn (a b : Bool) (s t : ByteArray) (x y : Int) (w : World) : (Op.equalIn 10000 47 (.agg #[.bool a,.string s,.int .i64 x]) (.agg #[.bool b,.string t,.int .i64 y])).run Try.prog w = .ok (a == b && s == t && x == y) w := by
 have hS : Try.prog.underlying 47 = some (.struct (Try.prog.fieldsOf 47)) := by kernel_rfl
 have hp : Try.prog.stoodInHeld 47 = false := by kernel_rfl
 have hS2 : Try.prog.underlying 45 = some (.struct (Try.prog.fieldsOf 45)) := by kernel_rfl
 have hp2 : Try.prog.stoodInHeld 45 = false := by kernel_rfl
 rw [show (10000 : Nat) = 9999 + 1 from rfl,run_equalIn_agg w 9999 47 _ _ hS hp]
 simp only [Program.fieldsOf,Try.underlying47,Try.underlying45] at hS2 ⊢
 rw [beq_toListBytes]
 go_simp
 by_cases h1 : a = b <;> by_cases h2 : s.toList = t.toList <;> by_cases h3 : x = y <;> simp [h1,h2,h3]
set_option maxRecDepth 100000 in
set_option maxHeartbeats 2000000 in
theorem refNums_calls (w : World) (aA aB : Option Addr) (cA cB : Nat) (xs ys : List Int) (hn : xs.length ≤ maxLen) (h1 : IntsAt w aA xs) (h2 : IntsAt w aB ys) :
  Calls Try.prog 18 #[.slice aA xs.length cA,.slice aB ys.length cB] w fun e w' => e = .returned (.bool (eqBy (fun x y : Int => x == y) xs ys)) ∧ Below w.heap.size w w' := by
 have H1 := Lib.hid h1
 have H2 := Lib.hid h2
 unfold maxLen at hn
 obtain ⟨R,hR⟩ : ∃ R,eqBy (fun x y : Int => x == y) xs ys = R := ⟨_,rfl⟩
 rw [hR]
 have HR := Lib.hid hR
 clear h1 h2 hR
 by_cases hl : xs.length = ys.length
 ·rw [← hl]
  have HL := Lib.hid hl
  clear hl
  go_enter Try.func18,Try.ntmps18
  go_wp2_with fail
  go_loopw [5] (fun c wr => ∃ j n : Nat,j ≤ xs.length ∧ c = .int .i64 (j : Int) ∧ EqTo (fun x y : Int => x == y) xs ys j ∧ wr = w.drewN n) (fun c _ => xs.length - (intOf c).toNat)
  case atStart => exact ⟨0,0,Nat.zero_le _,rfl,EqTo.zero _ _ _,rfl⟩
  case round =>
   obtain ⟨j,n,hj,rfl,hz,rfl⟩ := hrel
   have HZ := Lib.hid hz
   clear hz
   by_cases hjl : j < xs.length
   ·obtain ⟨x,hx⟩ : ∃ x,xs[j]? = some x := ⟨_,List.getElem?_eq_getElem hjl⟩
    obtain ⟨y,hy⟩ : ∃ y,ys[j]? = some y := ⟨_,List.getElem?_eq_getElem (by have := HL.out; omega)⟩
    obtain ⟨g1,o1,rfl,hg1,q1⟩ := H1.out (by intro e; rw [e] at hjl; simp at hjl)
    obtain ⟨g2,o2,rfl,hg2,q2⟩ := H2.out (by intro e; rw [e] at hy; simp at hy)
    have d1 : w.cell? ⟨g1,o1 + j,none⟩ = some (.int .i64 x) := q1 j x hx
    have d2 : w.cell? ⟨g2,o2 + j,none⟩ = some (.int .i64 y) := q2 j y hy
    have hjI : (j : Int) < (xs.length : Int) := by omega
    obtain ⟨d,hd⟩ : ∃ d,(fun x y : Int => x == y) x y = d := ⟨_,rfl⟩
    have HX := Lib.hid hx
    have HY := Lib.hid hy
    have HD := Lib.hid hd
    clear hx hy q1 q2
    cases d with
    | true =>
     go_wp2
     go_quiet (fail)
     go_wp2
     go_roundw
     case rel => exact ⟨j + 1,_,by omega,by go_num,HZ.out.next HX.out HY.out HD.out,rfl⟩
     case measure => simp [intOf]; omega
    | false =>
     have HRR : Hid (R = false) := by unfold Hid; rw [← HR.out]; exact eqBy_false_at HX.out HY.out HD.out
     go_wp2
     go_quiet (fail)
     go_wp2
     go_ret
     rw [HRR.out]
     exact ⟨rfl,below_drewN (below_drewN (Below.refl _ _) _) _⟩
   ·have hje : j = xs.length := by omega
    subst hje
    have HRR : Hid (R = true) := by unfold Hid; rw [← HR.out]; exact EqTo.all HZ.out HL.out
    go_wp2
    go_ret
    rw [HRR.out]
    exact ⟨rfl,below_drewN (Below.refl _ _) _⟩
 ·have HRR : Hid (R = false) := by unfold Hid; rw [← HR.out]; exact eqBy_false_len hl
  have hlI : ¬ ((xs.length : Int) = (ys.length : Int)) := by omega
  go_enter Try.func18,Try.ntmps18
  go_wp2
  go_ret
  rw [HRR.out]
  exact ⟨rfl,Below.refl _ _⟩
end Go.Proofs.Ytlggjbopfnndbaa
namespace Go.Proofs.Ytlggjbopfnndbaa
open Go.RowKit
structure Fn.fitS (md : Ins → List Int) (w : World) (f : Fn) : Prop where
 inn : f.inn w
 mode : ∀ i ∈ f.c.ins,ModeAt w md i
 nfrm : f.frm.length ≤ 90000
 nvs : f.vs.length ≤ 90000
 nins : f.c.ins.length ≤ 90000
 args : ∀ i ∈ f.c.ins,i.args.length ≤ 90000 ∧ (md i).length ≤ 90000
theorem Fn.fitS.below {md : Ins → List Int} {w w' : World} {f : Fn} (h : f.fitS md w) (hb : Below w.heap.size w w') : f.fitS md w' :=
 ⟨h.inn.below hb,fun i hi => (h.mode i hi).below hb,h.nfrm,h.nvs,h.nins,h.args⟩
structure Mo.fitS (md : Ins → List Int) (w : World) (m : Mo) : Prop where
 inn : m.inn w
 fit : ∀ f ∈ m.fs,f.fitS md w
 ns : m.ss.length ≤ 90000
 nf : m.fs.length ≤ 90000
theorem Mo.fitS.below {md : Ins → List Int} {w w' : World} {m : Mo} (h : m.fitS md w) (hb : Below w.heap.size w w') : m.fitS md w' :=
 ⟨h.inn.below hb,fun f hf => (h.fit f hf).below hb,h.ns,h.nf⟩
end Go.Proofs.Ytlggjbopfnndbaa
