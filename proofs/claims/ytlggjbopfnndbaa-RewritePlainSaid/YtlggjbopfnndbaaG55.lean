import Derived.Test.YtlggjbopfnndbaaG53
import Derived.Test.YtlggjbopfnndbaaRfHB
import Derived.Test.YtlggjbopfnndbaaRfHC
import Derived.Test.YtlggjbopfnndbaaG54
import Derived.Test.YtlggjbopfnndbaaG51
import Derived.Test.YtlggjbopfnndbaaIrQ
import Derived.Test.YtlggjbopfnndbaaG19
namespace Go.Proofs.Ytlggjbopfnndbaa
open Go.RowKit
theorem refInstr_calls (m : Mo) (g : Fn) (i : Ins) (w : World) (h : JIn w m g) (hi : i.args_in w) (hal : i.args.length ≤ 40) (hkn : ∀ v,isVar g.vs.length v = true → m.known (tyAt g.vs v) = true) :
  Calls Try.prog 59 #[.agg m.cells,.agg g.cells,.agg i.cells] w fun e w' => e = .returned (.int .i64 (instrF m g i)) ∧ Below w.heap.size w w' := by
 by_cases h0 : i.op < 1 ∨ 18 < i.op
 ·exact rinstr0_calls m g i w h hi hal hkn h0
 by_cases h1 : i.op = 1 ∨ i.op = 2 ∨ i.op = 3 ∨ i.op = 5 ∨ i.op = 6
 ·exact rinstrA_calls m g i w h hi hal hkn h1
 by_cases h2 : i.op = 4 ∨ i.op = 13 ∨ i.op = 14 ∨ i.op = 16
 ·exact rinstrB_calls m g i w h hi hal hkn h2
 by_cases h3 : i.op = 9 ∨ i.op = 12 ∨ i.op = 18
 ·exact rinstrC_calls m g i w h hi hal hkn h3
 by_cases h4 : i.op = 15
 ·exact rinstrE_calls m g i w h hi hal hkn h4
 by_cases h5 : i.op = 17
 ·exact rinstrF_calls m g i w h hi hal hkn h5
 ·exact rinstrD_calls m g i w h hi hal hkn (by omega)
end Go.Proofs.Ytlggjbopfnndbaa
namespace Go.Proofs.Ytlggjbopfnndbaa
open Go.RowKit
set_option maxRecDepth 100000 in
set_option maxHeartbeats 16000000 in
theorem refRight_calls (m : Mo) (w : World) (h : RightIn w m) :
  Calls Try.prog 24 #[.agg m.cells] w fun e w' => e = .returned (.int .i64 (rightF m)) ∧ Below w.heap.size w w' := by
 obtain ⟨R,hR⟩ : ∃ R,rightF m = R := ⟨_,rfl⟩
 have HR : Hid (R = if 30 < m.ss.length ∨ 60 < m.fs.length then 2
  else if twiceF m = true then 6
  else if (typesF m).all m.known = false then 5
  else if firstF (codeF m) m.fs ≠ 0 then firstF (codeF m) m.fs
  else unl (decide (0 ≤ m.fnIx mainB) && (match m.fs[(m.fnIx mainB).toNat]? with
   | some g => decide (g.c.par = 0) && !g.c.rp
   | none => false)) 9) := hR.symm
 rw [hR]
 obtain ⟨N,hN⟩ : ∃ N,w.heap.size = N := ⟨_,rfl⟩
 obtain ⟨W1,hW1⟩ : ∃ W1,w.alloc (.cells m.cells 25) = W1 := ⟨_,rfl⟩
 have hb1 : Below N w W1 := by rw [← hW1,← hN]; exact (Below.refl _ _).alloc (Nat.le_refl _) _
 have hs1 : W1.heap.size = N + 1 := by rw [← hW1]; simp [hN]
 have hr1 : W1.heap[N]? = some (.cells m.cells 25 (0,0)) := by rw [← hW1,← hN]; exact alloc_at _ _
 have HMI : Hid (∀ W,Below N w W → RightIn W m) := fun W hW => ⟨h.mo.below (by rw [hN]; exact hW),h.sl,h.fl,h.fd,h.vl,h.al⟩
 have HK : Hid (∀ W,Below W1.heap.size W1 W → W.heap[N]? = some (.cells m.cells 25 (0,0)) ∧ W.cell? ⟨N,0,none⟩ = some (.slice m.sA m.ss.length m.sC) ∧ W.cell? ⟨N,1,none⟩ = some (.slice m.fA m.fs.length m.fC) ∧ RightIn W m ∧ Below N w W) := fun W hW => by
  have q1 := (hW.block N (by omega)).trans hr1
  have h3 := hb1.trans (hW.mono (show N ≤ W1.heap.size by omega))
  exact ⟨q1,by rw [cell_of_row _ _ _ _ _ _ q1]; rfl,by rw [cell_of_row _ _ _ _ _ _ q1]; rfl,HMI.out W h3,h3⟩
 have hW1' := hW1
 simp only [Mo.cells] at hW1'
 have HW1 := Lib.hid hW1'
 have HS1 := Lib.hid hs1
 have HNW : Hid (∀ W,Below N w W → N ≤ W.heap.size) := fun W hW => by have := hW.size; omega
 rw [hN]
 simp only [Mo.cells]
 clear h hW1 hW1' hb1 hr1 hR hs1
 obtain ⟨hr,c0,c1,_,_⟩ := HK.out W1 (Below.refl _ _)
 have HRR0 := Lib.hid hr
 clear hr
 go_enter Try.func24,Try.ntmps24
 go_upto_region 1 with (fail)
 rw [HW1.out]
 clear HW1 hN
 by_cases g1 : 30 < m.ss.length
 ·have HRR : Hid (R = 2) := by unfold Hid; rw [HR.out,if_pos (.inl g1)]
  clear HR
  go_wp2
  go_ret
  rw [HRR.out]
  exact ⟨rfl,(HK.out W1 (Below.refl _ _)).2.2.2.2⟩
 by_cases g2 : 60 < m.fs.length
 ·have HRR : Hid (R = 2) := by unfold Hid; rw [HR.out,if_pos (.inr g2)]
  clear HR
  go_wp2
  go_ret
  rw [HRR.out]
  exact ⟨rfl,(HK.out W1 (Below.refl _ _)).2.2.2.2⟩
 have HR2 : Hid (R = if twiceF m = true then 6
  else if (typesF m).all m.known = false then 5
  else if firstF (codeF m) m.fs ≠ 0 then firstF (codeF m) m.fs
  else unl (decide (0 ≤ m.fnIx mainB) && (match m.fs[(m.fnIx mainB).toNat]? with
   | some g => decide (g.c.par = 0) && !g.c.rp
   | none => false)) 9) := by unfold Hid; rw [HR.out,if_neg (by omega)]
 clear HR
 have HTW : Hid (Calls Try.prog 57 #[.agg m.cells] W1 fun e w' => e = .returned (.bool (twiceF m)) ∧ Below W1.heap.size W1 w') := by
  obtain ⟨_,_,_,h4,_⟩ := HK.out W1 (Below.refl _ _)
  exact rtwice_calls m W1 h4.mo h4.sl h4.fl h4.fd
 obtain ⟨tw,htw⟩ : ∃ t,twiceF m = t := ⟨_,rfl⟩
 rw [htw] at HTW HR2
 clear htw
 go_upto_region 3 with (fail)
 cases tw with
 | true =>
  have HRR : Hid (R = 6) := by unfold Hid; rw [HR2.out,if_pos rfl]
  clear HR2
  go_wp2_with (first
   | (refine wpList_load_row rfl 25 _ rfl N rfl 25 m.cells (0,0) _ HRR0.out Try.underlying25 rfl (by kernel_rfl) ?_)
   | (go_at_call 57; refine HTW.out.mono ?_; rintro e w3 ⟨rfl,hb3⟩; have HB3 := Lib.hid hb3; clear hb3))
  go_ret
  rw [HRR.out]
  exact ⟨rfl,(HK.out w3 HB3.out).2.2.2.2⟩
 | false =>
 have HR3 : Hid (R = if (typesF m).all m.known = false then 5
  else if firstF (codeF m) m.fs ≠ 0 then firstF (codeF m) m.fs
  else unl (decide (0 ≤ m.fnIx mainB) && (match m.fs[(m.fnIx mainB).toNat]? with
   | some g => decide (g.c.par = 0) && !g.c.rp
   | none => false)) 9) := by unfold Hid; rw [HR2.out,if_neg (by simp)]
 clear HR2
 go_upto_region 5 with (first
   | (refine wpList_load_row rfl 25 _ rfl N rfl 25 m.cells (0,0) _ HRR0.out Try.underlying25 rfl (by kernel_rfl) ?_)
   | (go_at_call 57; refine HTW.out.mono ?_; rintro e w3 ⟨rfl,hb3⟩; have HB3 := Lib.hid hb3; clear hb3))
 clear c0 c1 HTW
 obtain ⟨hr,c0,c1,h4,_⟩ := HK.out w3 HB3.out
 have HRR3 := Lib.hid hr
 have HUN : Hid (Calls Try.prog 58 #[.agg m.cells] w3 fun e w' => e = .returned (.bool (!(typesF m).all m.known)) ∧ Below w3.heap.size w3 w') := runknown_calls m w3 h4.mo h4.sl h4.fl h4.fd h4.vl
 clear hr h4
 obtain ⟨un,hun⟩ : ∃ t,(typesF m).all m.known = t := ⟨_,rfl⟩
 rw [hun] at HUN HR3
 cases un with
 | false =>
  have HRR : Hid (R = 5) := by unfold Hid; rw [HR3.out,if_pos rfl]
  clear HR3 hun
  rw [Bool.not_false] at HUN
  go_wp2_with (first
   | (refine wpList_load_row rfl 25 _ rfl N rfl 25 m.cells (0,0) _ HRR3.out Try.underlying25 rfl (by kernel_rfl) ?_)
   | (go_at_call 58; refine HUN.out.mono ?_; rintro e w4 ⟨rfl,hb4⟩; have HB4 := Lib.hid hb4; clear hb4))
  go_ret
  rw [HRR.out]
  exact ⟨rfl,(HK.out w4 (HB3.out.trans (HB4.out.mono HB3.out.size))).2.2.2.2⟩
 | true =>
 have HR4 : Hid (R = if firstF (codeF m) m.fs ≠ 0 then firstF (codeF m) m.fs
  else unl (decide (0 ≤ m.fnIx mainB) && (match m.fs[(m.fnIx mainB).toNat]? with
   | some g => decide (g.c.par = 0) && !g.c.rp
   | none => false)) 9) := by unfold Hid; rw [HR3.out,if_neg (by simp)]
 have HKN : Hid (∀ t ∈ typesF m,m.known t = true) := List.all_eq_true.1 hun
 clear HR3 hun
 rw [Bool.not_true] at HUN
 go_upto_region 7 with (first
   | (refine wpList_load_row rfl 25 _ rfl N rfl 25 m.cells (0,0) _ HRR3.out Try.underlying25 rfl (by kernel_rfl) ?_)
   | (go_at_call 58; refine HUN.out.mono ?_; rintro e w4 ⟨rfl,hb4⟩; have HB4 : Hid (Below W1.heap.size W1 w4) := HB3.out.trans (hb4.mono HB3.out.size); clear hb4))
 clear c0 c1 HUN HRR3 HB3
 go_wp2_with fail
 go_loopw [3] (fun k wr => ∃ j : Nat,j ≤ m.fs.length ∧ k = .int .i64 (j : Int) ∧ (∀ f ∈ m.fs.take j,codeF m f = 0) ∧ Below W1.heap.size W1 wr) (fun k _ => m.fs.length - (intOf k).toNat)
 case atStart => exact ⟨0,Nat.zero_le _,rfl,by simp,HB4.out⟩
 case round =>
  rename World => wo
  obtain ⟨j,hj,rfl,hz,hb⟩ := hrel
  obtain ⟨hr,c0,c1,hri,hbw⟩ := HK.out wo hb
  have HZ := Lib.hid hz
  have HB := Lib.hid hb
  have HBO := Lib.hid hbw
  have HRO := Lib.hid hr
  by_cases hjl : j < m.fs.length
  ·obtain ⟨f,hs⟩ : ∃ y,m.fs[j]? = some y := ⟨_,List.getElem?_eq_getElem hjl⟩
   have hfm := List.mem_of_getElem? hs
   obtain ⟨g1,off,hA,hg1,q1⟩ := hri.mo.frow (by intro e; rw [e] at hjl; simp at hjl)
   have HCC : Hid (∀ k u,f.cells.toList[k]? = some u → wo.cell? ((⟨g1,off + j * 8,none⟩ : Addr).add k) = some u) := fun k u hu => by rw [Addr.add_lit]; exact q1 j f hs k u hu
   have hst : ∀ (c : Array Value),c.size = 8 → (storeCells ⟨wo.heap.size,0,none⟩ f.cells.toList 0).run Try.prog (wo.alloc (.cells c 50)) = .ok () (wo.alloc (.cells f.cells 50)) := fun c hc =>
    run_storeCells_new (P := Try.prog) wo 50 c f.cells (by show _ = some 8; kernel_rfl) hc (fn_cells_one' f)
   obtain ⟨P,hP⟩ : ∃ P,wo.heap.size = P := ⟨_,rfl⟩
   obtain ⟨W3,hW3⟩ : ∃ W3,wo.alloc (.cells f.cells 50) = W3 := ⟨_,rfl⟩
   have hs3 : W3.heap.size = P + 1 := by rw [← hW3]; simp [hP]
   have hr3 : W3.heap[P]? = some (.cells f.cells 50 (0,0)) := by rw [← hW3,← hP]; exact alloc_at _ _
   have hb3 : Below W1.heap.size W1 W3 := by rw [← hW3]; exact hb.alloc hb.size _
   have hfi := hri.mo.fin f hfm
   have hvl := hri.vl f hfm
   have HF3 : Hid (∀ W,Below W3.heap.size W3 W → Below W1.heap.size W1 W ∧ W.heap[P]? = some (.cells f.cells 50 (0,0)) ∧ W.cell? ⟨P,1,none⟩ = some (.int .i64 f.c.par) ∧ W.cell? ⟨P,2,none⟩ = some (.slice f.c.varsA f.vs.length f.c.varsC) ∧ W.cell? ⟨P,7,none⟩ = some (.slice f.c.insA f.c.ins.length f.c.insC)) := fun W hW => by
    have q := (hW.block P (by omega)).trans hr3
    refine ⟨hb3.trans (hW.mono hb3.size),q,by rw [cell_of_row _ _ _ _ _ _ q]; rfl,?_,by rw [cell_of_row _ _ _ _ _ _ q]; rfl⟩
    rw [cell_of_row _ _ _ _ _ _ q,← hfi.nvars]; rfl
   have hjI : (j : Int) < (m.fs.length : Int) := by omega
   have HS := Lib.hid hs
   have HFM := Lib.hid hfm
   have HFI : Hid (∀ W,Below W3.heap.size W3 W → JIn W m f ∧ ∀ i ∈ f.c.ins,i.args_in W) := fun W hW => by
    obtain ⟨_,_,_,h4,_⟩ := HK.out W (HF3.out W hW).1
    have := h4.mo.fin f hfm
    exact ⟨jIn_of h4.mo this,fun i hi => this.code.args i hi⟩
   have HAL : Hid (∀ i ∈ f.c.ins,i.args.length ≤ 40) := hri.al f hfm
   have HKF : Hid (∀ v,isVar f.vs.length v = true → m.known (tyAt f.vs v) = true) := fun v hv => HKN.out _ (by
    obtain ⟨h0,h1⟩ := isVar_iff.1 hv
    obtain ⟨k,rfl⟩ : ∃ k : Nat,v = (k : Int) := ⟨v.toNat,by omega⟩
    obtain ⟨x,hx⟩ : ∃ x,f.vs[k]? = some x := ⟨_,List.getElem?_eq_getElem (by omega)⟩
    have e : tyAt f.vs (k : Int) = x.ty := by unfold tyAt; rw [Int.toNat_natCast,hx]
    rw [e]
    unfold typesF
    exact List.mem_append.2 (.inr (List.mem_flatMap.2 ⟨f,hfm,List.mem_cons_of_mem _ (List.mem_map.2 ⟨x,List.mem_of_getElem? hx,rfl⟩)⟩)))
   have HIROW : Hid (f.c.ins ≠ [] → ∃ b o,f.c.insA = some ⟨b,o,none⟩ ∧ ∀ W,Below W3.heap.size W3 W → b < W.heap.size ∧ ∀ (k : Nat) (i : Ins),f.c.ins[k]? = some i → ∀ q u,i.cells.toList[q]? = some u → W.cell? ⟨b,o + k * 13 + q,none⟩ = some u) := fun hne => by
    obtain ⟨b,o,hA,hb,hc⟩ := hfi.code.row hne
    refine ⟨b,o,hA,fun W hW => ?_⟩
    have hbo : Below wo.heap.size wo W := by
     have h0 : Below wo.heap.size wo W3 := by rw [← hW3]; exact (Below.refl _ _).alloc (Nat.le_refl _) _
     exact h0.trans (hW.mono h0.size)
    refine ⟨by have := hbo.size; omega,fun k i hi q u hu => ?_⟩
    rw [hbo.cell (p := ⟨b,_,none⟩) hb]; exact hc k i hi q u hu
   obtain ⟨z,hzz⟩ : ∃ z,codeF m f = z := ⟨_,rfl⟩
   have HZE : Hid (z = if 300 < f.vs.length ∨ f.c.ins.length < 1 ∨ 3000 < f.c.ins.length then 2
    else if f.c.par < 0 ∨ (f.vs.length : Int) < f.c.par then 15
    else if firstF (instrF m f) f.c.ins ≠ 0 then firstF (instrF m f) f.c.ins
    else unl (match f.c.ins.getLast? with
     | some i => decide (16 ≤ i.op)
     | none => false) 15) := hzz.symm
   have HZR : Hid (z ≠ 0 → R = z) := fun h0 => by
    have e := firstF_at (f := codeF m) hz hs (by rw [hzz]; exact h0)
    rw [HR4.out,e,hzz,if_pos h0]
   have HZN : Hid (z = 0 → ∀ f ∈ m.fs.take (j + 1),codeF m f = 0) := fun h0 => take_all (p := fun f => codeF m f = 0) hz hs (by rw [hzz]; exact h0)
   rw [hP] at hst
   rw [hW3] at hst
   rw [hA] at c1
   have HW3 := Lib.hid hW3
   have HP := Lib.hid hP
   clear hz hb hbw hs hfm hri hfi q1 hzz hr hA hb3 hr3 hs3 hW3
   go_upto_region 11 with (refine wpList_load_at rfl 50 _ rfl ⟨g1,off + j * 8,none⟩ rfl f.cells _ HCC.out Try.underlying50 rfl (by kernel_rfl) ?_)
   clear c0 c1 hst HW3
   have HB3W : Hid (Below N w W3) := (HK.out W3 (HF3.out W3 (Below.refl _ _)).1).2.2.2.2
   obtain ⟨_,_,p1,p2,p7⟩ := HF3.out W3 (Below.refl _ _)
   by_cases d1 : 300 < f.vs.length
   ·have HRR : Hid (R = 2) := by
     have e : z = 2 := by rw [HZE.out,if_pos (.inl d1)]
     unfold Hid; rw [HZR.out (by rw [e]; decide),e]
    clear HZE HZR HZN
    go_wp2
    go_ret
    rw [HRR.out]
    exact ⟨rfl,HB3W.out⟩
   by_cases d2 : f.c.ins.length < 1
   ·have HRR : Hid (R = 2) := by
     have e : z = 2 := by rw [HZE.out,if_pos (.inr (.inl d2))]
     unfold Hid; rw [HZR.out (by rw [e]; decide),e]
    clear HZE HZR HZN
    go_wp2
    go_ret
    rw [HRR.out]
    exact ⟨rfl,HB3W.out⟩
   by_cases d3 : 3000 < f.c.ins.length
   ·have HRR : Hid (R = 2) := by
     have e : z = 2 := by rw [HZE.out,if_pos (.inr (.inr d3))]
     unfold Hid; rw [HZR.out (by rw [e]; decide),e]
    clear HZE HZR HZN
    go_wp2
    go_ret
    rw [HRR.out]
    exact ⟨rfl,HB3W.out⟩
   by_cases d4 : f.c.par < 0
   ·have HRR : Hid (R = 15) := by
     have e : z = 15 := by rw [HZE.out,if_neg (by omega),if_pos (.inl d4)]
     unfold Hid; rw [HZR.out (by rw [e]; decide),e]
    clear HZE HZR HZN
    go_wp2
    go_ret
    rw [HRR.out]
    exact ⟨rfl,HB3W.out⟩
   by_cases d5 : (f.vs.length : Int) < f.c.par
   ·have HRR : Hid (R = 15) := by
     have e : z = 15 := by rw [HZE.out,if_neg (by omega),if_pos (.inr d5)]
     unfold Hid; rw [HZR.out (by rw [e]; decide),e]
    clear HZE HZR HZN
    go_wp2
    go_ret
    rw [HRR.out]
    exact ⟨rfl,HB3W.out⟩
   have HZF : Hid (z = if firstF (instrF m f) f.c.ins ≠ 0 then firstF (instrF m f) f.c.ins
    else unl (match f.c.ins.getLast? with
     | some i => decide (16 ≤ i.op)
     | none => false) 15) := by unfold Hid; rw [HZE.out,if_neg (by omega),if_neg (by omega)]
   clear HZE
   go_wp2_with fail
   clear p1 p2 p7
   go_loopw [6] (fun k wr => ∃ q : Nat,q ≤ f.c.ins.length ∧ k = .int .i64 (q : Int) ∧ (∀ i ∈ f.c.ins.take q,instrF m f i = 0) ∧ Below W3.heap.size W3 wr) (fun k _ => f.c.ins.length - (intOf k).toNat)
   case atStart => exact ⟨0,Nat.zero_le _,rfl,by simp,Below.refl _ _⟩
   case round =>
    obtain ⟨q,hq,rfl,hnd,hbr⟩ := hrel
    have HND := Lib.hid hnd
    have HBR := Lib.hid hbr
    by_cases hql : q < f.c.ins.length
    ·obtain ⟨i,hi⟩ : ∃ y,f.c.ins[q]? = some y := ⟨_,List.getElem?_eq_getElem hql⟩
     have him := List.mem_of_getElem? hi
     obtain ⟨ib,io,hiA,hirow⟩ := HIROW.out (by intro e; rw [e] at hql; simp at hql)
     have hqI : (q : Int) < (f.c.ins.length : Int) := by omega
     have HI := Lib.hid hi
     have HBQ : Hid (∀ p : BW wr,Below W3.heap.size W3 p.w) := fun p => HBR.out.trans (p.h.mono HBR.out.size)
     have HXM : Hid (∀ (p : BW wr) k u,m.cells.toList[k]? = some u → p.w.cell? ((⟨N,0,none⟩ : Addr).add k) = some u) := fun p => cells_at (HK.out p.w (HF3.out p.w (HBQ.out p)).1).1
     have HXF : Hid (∀ (p : BW wr) k u,f.cells.toList[k]? = some u → p.w.cell? ((⟨P,0,none⟩ : Addr).add k) = some u) := fun p => cells_at (HF3.out p.w (HBQ.out p)).2.1
     have HXI : Hid (∀ (p : BW wr) k u,i.cells.toList[k]? = some u → p.w.cell? ((⟨ib,io + q * 13,none⟩ : Addr).add k) = some u) := fun p k u hu => by
      rw [Addr.add_lit]; exact (hirow p.w (HBQ.out p)).2 q i hi k u hu
     have p7 : ∀ p : BW wr,p.w.cell? ⟨P,7,none⟩ = some (.slice (some ⟨ib,io,none⟩) f.c.ins.length f.c.insC) := fun p => by rw [← hiA]; exact (HF3.out p.w (HBQ.out p)).2.2.2.2
     obtain ⟨d,hd⟩ : ∃ d,instrF m f i = d := ⟨_,rfl⟩
     have HDD := Lib.hid hd
     have HIC : Hid (∀ p : BW wr,Calls Try.prog 59 #[.agg m.cells,.agg f.cells,.agg i.cells] p.w fun e w' => e = .returned (.int .i64 d) ∧ Below p.w.heap.size p.w w') := fun p => by
      obtain ⟨h1,h2⟩ := HFI.out p.w (HBQ.out p)
      rw [← hd]; exact refInstr_calls m f i p.w h1 (h2 i him) (HAL.out i him) HKF.out
     clear hnd hbr hi him hiA hirow hd
     go_wp2_with fail
     refine wp_region_quiet_bw (by kernel_rfl) (by kernel_rfl) ?_
     repeat (first
      | (go_big_quiet_want; (first
        | (refine quiet_load_bw 25 _ rfl ⟨N,0,none⟩ rfl m.cells _ HXM.out Try.underlying25 rfl (by kernel_rfl) ?_)
        | (refine quiet_load_bw 50 _ rfl ⟨P,0,none⟩ rfl f.cells _ HXF.out Try.underlying50 rfl (by kernel_rfl) ?_)
        | (refine quiet_load_bw 62 _ rfl ⟨ib,io + q * 13,none⟩ rfl i.cells _ HXI.out Try.underlying62 rfl (by kernel_rfl) ?_)); (simp only [Act.put,List.setIfInBounds_toArray,List.set_cons_zero,List.set_cons_succ]); go_big_quiet_on)
      | (go_big_quiet_step (first | (go_at_call 59; exact bw_of (HIC.out _)))))
     refine wpQuiet_nil ?_
     rintro _ ⟨p,rfl⟩
     have HBF : Hid (Below N w p.w) := (HK.out p.w (HF3.out p.w (HBQ.out p)).1).2.2.2.2
     clear p7
     by_cases hd0 : d = 0
     ·subst hd0
      go_wp2
      go_roundw
      case rel => exact ⟨q + 1,by omega,by go_num,take_all (p := fun i : Ins => instrF m f i = 0) HND.out HI.out HDD.out,HBQ.out p⟩
      case measure => simp [intOf]; omega
     ·have hdb : (d == 0) = false := by rw [beq_eq_false_iff_ne]; exact hd0
      have HRR : Hid (R = d) := by
       have e := firstF_at (f := instrF m f) HND.out HI.out (by rw [HDD.out]; exact hd0)
       have e2 : z = d := by rw [HZF.out,e,HDD.out,if_pos hd0]
       unfold Hid; rw [HZR.out (by rw [e2]; exact hd0),e2]
      go_wp2
      go_ret
      rw [HRR.out]
      exact ⟨rfl,HBF.out⟩
    ·have hqe : q = f.c.ins.length := by omega
     subst hqe
     rw [List.take_length] at hnd
     obtain ⟨i,hi⟩ : ∃ i,f.c.ins[f.c.ins.length - 1]? = some i := ⟨_,List.getElem?_eq_getElem (by omega)⟩
     have HZL : Hid (z = unl (decide (16 ≤ i.op)) 15) := by
      unfold Hid
      rw [HZF.out,firstF_zero hnd,if_neg (by simp),List.getLast?_eq_getElem?,hi]
     obtain ⟨ib,io,hiA,hirow⟩ := HIROW.out (by intro e; rw [e] at hi; simp at hi)
     obtain ⟨L,hL⟩ : ∃ L,f.c.ins.length = L + 1 := ⟨f.c.ins.length - 1,by omega⟩
     rw [hL,Nat.add_sub_cancel] at hi
     have i0 : wr.cell? ⟨ib,io + L * 13,none⟩ = some (.int .i64 i.op) := (hirow wr hbr).2 L i hi 0 _ rfl
     have p7 : wr.cell? ⟨P,7,none⟩ = some (.slice (some ⟨ib,io,none⟩) (L + 1) f.c.insC) := by rw [← hiA,← hL]; exact (HF3.out wr hbr).2.2.2.2
     have hLI : ((L + 1 : Nat) : Int) - 1 = (L : Int) := by omega
     have HBF : Hid (Below N w wr) := (HK.out wr (HF3.out wr hbr).1).2.2.2.2
     have HLL := Lib.hid hL
     have hL3 : L ≤ 3000 := by omega
     clear hnd hbr hi hirow HZF HND hiA
     rw [hL]
     by_cases hop : i.op < 16
     ·have HRR : Hid (R = 15) := by
       have e : z = 15 := by rw [HZL.out,decide_eq_false (by omega)]; rfl
       unfold Hid; rw [HZR.out (by rw [e]; decide),e]
      go_wp2
      go_ret
      rw [HRR.out]
      exact ⟨rfl,HBF.out⟩
     ·have HZ0 : Hid (z = 0) := by unfold Hid; rw [HZL.out,decide_eq_true (by omega)]; rfl
      have hopb : decide (i.op < 16) = false := decide_eq_false hop
      go_wp2
      go_roundw
      case rel => exact ⟨j + 1,by omega,by go_num,HZN.out HZ0.out,(HF3.out wr HBR.out).1⟩
      case measure => simp [intOf]; omega
  ·have hje : j = m.fs.length := by omega
   subst hje
   rw [List.take_length] at hz
   have HR5 : Hid (R = unl (decide (0 ≤ m.fnIx mainB) && (match m.fs[(m.fnIx mainB).toNat]? with
    | some g => decide (g.c.par = 0) && !g.c.rp
    | none => false)) 9) := by
    unfold Hid; rw [HR4.out,firstF_zero hz,if_neg (by simp)]
   obtain ⟨kx,hkx⟩ : ∃ k,m.fnIx mainB = k := ⟨_,rfl⟩
   rw [hkx] at HR5
   have HFN : Hid (Calls Try.prog 60 #[.agg m.cells,.string ⟨#[109,97,105,110]⟩] wo fun e w' => e = .returned (.int .i64 kx) ∧ Below wo.heap.size wo w') := by
    rw [← hkx]; exact refFunc_calls m mainB wo hri.mo.nf hri.mo.frow
   have HONE : Hid (∀ W b,Calls Try.prog 61 #[.bool b,.int .i64 9] W fun e w' => e = .returned (.int .i64 (unl (!b) 9)) ∧ Below W.heap.size W w') := fun W b => rone_calls b 9 W
   have HBT : Hid (∀ W W',Below wo.heap.size wo W → Below W.heap.size W W' → Below N w W') := fun W W' h1 h2 => HBO.out.trans ((h1.trans (h2.mono h1.size)).mono (HNW.out _ HBO.out))
   have HCF := Lib.hid hri.mo.frow
   clear hz hb hbw hr
   go_upto_region 25 with (first
    | (refine wpList_load_row rfl 25 _ rfl N rfl 25 m.cells (0,0) _ HRO.out Try.underlying25 rfl (by kernel_rfl) ?_)
    | (go_at_call 60; refine HFN.out.mono ?_; rintro e w8 ⟨rfl,hb8⟩; have HB8 := Lib.hid hb8; clear hb8))
   clear c0 c1 HFN
   rcases ixOf_cases (fun f : Fn => f.c.nm == mainB) m.fs with e | ⟨k,f,e,hf,_⟩
   ·have hk1 : kx = -1 := by rw [← hkx]; exact e
    subst hk1
    have HRR : Hid (R = 9) := by unfold Hid; rw [HR5.out]; rfl
    clear hri hkx HR4 HR5 e HCF
    go_wp2_with (go_at_call 61; refine (HONE.out _ _).mono ?_; rintro e w9 ⟨rfl,hb9⟩; have HB9 := Lib.hid hb9; clear hb9)
    go_ret
    rw [HRR.out]
    exact ⟨rfl,HBT.out _ _ HB8.out HB9.out⟩
   ·have hk1 : kx = (k : Int) := by rw [← hkx]; exact e
    subst hk1
    have hkl := (List.getElem?_eq_some_iff.1 hf).1
    have hkI : (k : Int) < (m.fs.length : Int) := by omega
    have HRR : Hid (R = unl (decide (f.c.par = 0) && !f.c.rp) 9) := by
     unfold Hid; rw [HR5.out,Int.toNat_natCast,hf,decide_eq_true (by omega)]; rfl
    obtain ⟨fb,foff,hfA,hfb,hfc⟩ := hri.mo.frow (by intro e; rw [e] at hkl; simp at hkl)
    have HFD : Hid (∀ W8,Below wo.heap.size wo W8 → W8.cell? ⟨fb,foff + k * 8 + 1,none⟩ = some (.int .i64 f.c.par) ∧ W8.cell? ⟨fb,foff + k * 8 + 3,none⟩ = some (.bool f.c.rp) ∧ W8.cell? ⟨N,1,none⟩ = some (.slice (some ⟨fb,foff,none⟩) m.fs.length m.fC)) := by
     intro W8 h8
     refine ⟨?_,?_,?_⟩
     ·rw [h8.cell (p := ⟨fb,_,none⟩) hfb]; exact hfc k f hf 1 _ rfl
     ·rw [h8.cell (p := ⟨fb,_,none⟩) hfb]; exact hfc k f hf 3 _ rfl
     ·rw [← hfA]; exact (HK.out W8 (HB.out.trans (h8.mono HB.out.size))).2.2.1
    have hmx : max (k : Int) 0 = (k : Int) := by omega
    have hk9 : k ≤ 60 := by omega
    have hkn : decide ((k : Int) < 0) = false := decide_eq_false (by omega)
    clear hri hkx HR4 HR5 e hfb hfc hf hfA
    obtain ⟨u1,u2,u3⟩ := HFD.out w8 HB8.out
    clear HFD
    by_cases hp : f.c.par = 0
    ·rw [hp] at u1
     have HRR2 : Hid (R = unl (!f.c.rp) 9) := by unfold Hid; rw [HRR.out,hp]; rfl
     go_wp2_with (go_at_call 61; refine (HONE.out _ _).mono ?_; rintro e w9 ⟨rfl,hb9⟩; have HB9 := Lib.hid hb9; clear hb9)
     go_ret
     rw [HRR2.out]
     exact ⟨rfl,HBT.out _ _ HB8.out HB9.out⟩
    ·have HRR2 : Hid (R = 9) := by unfold Hid; rw [HRR.out,decide_eq_false hp]; rfl
     have hpb : (f.c.par == 0) = false := by rw [beq_eq_false_iff_ne]; exact hp
     go_wp2_with (go_at_call 61; refine (HONE.out _ _).mono ?_; rintro e w9 ⟨rfl,hb9⟩; have HB9 := Lib.hid hb9; clear hb9)
     go_ret
     rw [HRR2.out]
     exact ⟨rfl,HBT.out _ _ HB8.out HB9.out⟩
end Go.Proofs.Ytlggjbopfnndbaa
