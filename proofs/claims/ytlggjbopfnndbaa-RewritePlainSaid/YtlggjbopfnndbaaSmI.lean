/- The reference's Same. -/
import Derived.Test.YtlggjbopfnndbaaSmH
import Derived.BigRegion
namespace Go.Proofs.Ytlggjbopfnndbaa
open Go.RowKit
set_option maxRecDepth 100000 in
set_option maxHeartbeats 8000000 in
theorem refSame_calls (w : World) (md : Ins → List Int) (m n : Mo) (hm : m.fitS md w) (hn : n.fitS md w) :
  Calls Try.prog 17 #[.agg m.cells,.agg n.cells] w fun e w' => e = .returned (.bool (sameM md m n)) ∧ Below w.heap.size w w' := by
 have HP : Hid (sameM md m n = (eqBy sameS m.ss n.ss && eqBy (sameC md) m.fs n.fs)) := rfl
 obtain ⟨R,hR⟩ : ∃ R,sameM md m n = R := ⟨_,rfl⟩
 rw [hR] at HP ⊢
 have HSR : Hid (∀ W,Below w.heap.size w W → RowOf St.cells 4 W W.heap.size m.sA m.ss ∧ RowOf St.cells 4 W W.heap.size n.sA n.ss) := fun W hW => ⟨hm.inn.srow.grow hW,hn.inn.srow.grow hW⟩
 have HFR : Hid (∀ W,Below w.heap.size w W → RowOf Fn.cells 8 W W.heap.size m.fA m.fs ∧ RowOf Fn.cells 8 W W.heap.size n.fA n.fs) := fun W hW => ⟨hm.inn.frow.grow hW,hn.inn.frow.grow hW⟩
 have HSI : Hid (∀ W,Below w.heap.size w W → (∀ x ∈ m.ss,x.inn W) ∧ (∀ x ∈ n.ss,x.inn W)) := fun W hW => ⟨(hm.below hW).inn.sin,(hn.below hW).inn.sin⟩
 have HC : Hid (∀ x ∈ m.fs,∀ y ∈ n.fs,∀ W,Below w.heap.size w W → Calls Try.prog 50 #[.agg x.cells,.agg y.cells] W fun e w' => e = .returned (.bool (sameC md x y)) ∧ Below W.heap.size W w') := fun x hx y hy W hW =>
  refSameC_calls W md x y ((hm.below hW).fit x hx) ((hn.below hW).fit y hy)
 have l1 := hm.ns
 have l2 := hm.nf
 obtain ⟨sA,sC,fA,fC,ss,fs⟩ := m
 obtain ⟨sA2,sC2,fA2,fC2,ss2,fs2⟩ := n
 simp only at HP HSR HFR HSI HC l1 l2
 simp only [Mo.cells]
 clear hm hn hR
 obtain ⟨N,hN⟩ : ∃ N,w.heap.size = N := ⟨_,rfl⟩
 obtain ⟨W1,hW1⟩ : ∃ W1,W1 = ((w.alloc (.cells #[.slice sA ss.length sC,.slice fA fs.length fC] 25)).alloc (.cells #[.slice sA2 ss2.length sC2,.slice fA2 fs2.length fC2] 25)) := ⟨_,rfl⟩
 have q1 : W1.heap[N]? = some (.cells #[.slice sA ss.length sC,.slice fA fs.length fC] 25 (0,0)) := by
  rw [hW1,Below.heap_alloc _ _ _ (by simp; omega),← hN]; exact alloc_at _ _
 have q2 : W1.heap[N + 1]? = some (.cells #[.slice sA2 ss2.length sC2,.slice fA2 fs2.length fC2] 25 (0,0)) := by
  rw [hW1]
  have := alloc_at (w.alloc (.cells #[.slice sA ss.length sC,.slice fA fs.length fC] 25)) (.cells #[.slice sA2 ss2.length sC2,.slice fA2 fs2.length fC2] 25)
  rwa [World.size_alloc,hN] at this
 have hs1 : W1.heap.size = N + 2 := by rw [hW1]; simp [hN]
 have HBX : Hid (Below w.heap.size w W1) := by unfold Hid; rw [hW1]; exact ((Below.refl _ _).alloc (Nat.le_refl _) _).alloc (by simp) _
 have HW1 := Lib.hid hW1
 by_cases k0 : ss.length = ss2.length
 rotate_left
 ·have HRR : Hid (R = false) := by unfold Hid; rw [HP.out,eqBy_false_len k0,Bool.false_and]
  have k0I : ¬ ((ss.length : Int) = (ss2.length : Int)) := by omega
  clear q1 q2 hW1
  go_enter Try.func17,Try.ntmps17
  go_wp2
  go_ret
  rw [HRR.out,← HW1.out]
  exact ⟨rfl,HBX.out⟩
 by_cases k1 : fs.length = fs2.length
 rotate_left
 ·have HRR : Hid (R = false) := by unfold Hid; rw [HP.out,eqBy_false_len k1,Bool.and_false]
  have k1I : ¬ ((fs.length : Int) = (fs2.length : Int)) := by omega
  rw [← k0] at hW1 ⊢
  have HW2 := Lib.hid hW1
  clear q1 q2 hW1 k0
  go_enter Try.func17,Try.ntmps17
  go_wp2
  go_ret
  rw [HRR.out,← HW2.out]
  exact ⟨rfl,HBX.out⟩
 rw [← k0,← k1]
 rw [← k0,← k1] at hW1 q2
 have HK0 := Lib.hid k0
 have HK1 := Lib.hid k1
 clear k0 k1 HW1
 obtain ⟨ns,hns⟩ : ∃ ns,ss.length = ns := ⟨_,rfl⟩
 obtain ⟨nf,hnf⟩ : ∃ nf,fs.length = nf := ⟨_,rfl⟩
 rw [hns,hnf]
 rw [hns,hnf] at hW1 q1 q2
 rw [hns] at HK0 l1
 rw [hnf] at HK1 l2
 have HNS := Lib.hid hns
 have HNF := Lib.hid hnf
 have HW1 := Lib.hid hW1
 have HS : Hid (∀ W,Below W1.heap.size W1 W → W.cell? ⟨N,0,none⟩ = some (.slice sA ns sC) ∧ W.cell? ⟨N,1,none⟩ = some (.slice fA nf fC) ∧ W.cell? ⟨N + 1,0,none⟩ = some (.slice sA2 ns sC2) ∧ W.cell? ⟨N + 1,1,none⟩ = some (.slice fA2 nf fC2)) := by
  intro W hW
  have p1 := (hW.block N (by omega)).trans q1
  have p2 := (hW.block (N + 1) (by omega)).trans q2
  exact ⟨(cell_of_row _ _ _ _ _ _ p1).trans rfl,(cell_of_row _ _ _ _ _ _ p1).trans rfl,(cell_of_row _ _ _ _ _ _ p2).trans rfl,(cell_of_row _ _ _ _ _ _ p2).trans rfl⟩
 clear hns hnf q1 q2 hW1
 go_enter Try.func17,Try.ntmps17
 go_upto_region 3 with (fail)
 rw [← HW1.out]
 obtain ⟨c1,c2,c3,c4⟩ := HS.out W1 (Below.refl _ _)
 go_wp2_with fail
 go_loopw [5] (fun k wr => ∃ j : Nat,j ≤ ns ∧ k = .int .i64 (j : Int) ∧ EqTo sameS ss ss2 j ∧ Below W1.heap.size W1 wr) (fun k _ => ns - (intOf k).toNat)
 case atStart => exact ⟨0,Nat.zero_le _,rfl,EqTo.zero _ _ _,Below.refl _ _⟩
 case round =>
  clear c1 c2 c3 c4
  obtain ⟨j,hj,rfl,hz,hbr⟩ := hrel
  obtain ⟨c1,c2,c3,c4⟩ := HS.out _ hbr
  have HZ := Lib.hid hz
  have HBR := Lib.hid hbr
  have HBW : Hid (Below w.heap.size w wr) := HBX.out.trans (hbr.mono HBX.out.size)
  clear hz hbr
  by_cases hjl : j < ns
  ·obtain ⟨x,hx⟩ : ∃ x,ss[j]? = some x := ⟨_,List.getElem?_eq_getElem (by have := HNS.out; omega)⟩
   obtain ⟨y,hy⟩ : ∃ y,ss2[j]? = some y := ⟨_,List.getElem?_eq_getElem (by have := HK0.out; omega)⟩
   obtain ⟨g1,o1,rfl,hg1,q1⟩ := (HSR.out wr HBW.out).1 (by intro e; rw [e] at hx; simp at hx)
   obtain ⟨g2,o2,rfl,hg2,q2⟩ := (HSR.out wr HBW.out).2 (by intro e; rw [e] at hy; simp at hy)
   have HIX : Hid (∀ W,Below wr.heap.size wr W → x.inn W) := fun W hW => (HSI.out W (HBW.out.trans (hW.mono HBW.out.size))).1 x (List.mem_of_getElem? hx)
   have HIY : Hid (∀ W,Below wr.heap.size wr W → y.inn W) := fun W hW => (HSI.out W (HBW.out.trans (hW.mono HBW.out.size))).2 y (List.mem_of_getElem? hy)
   have d1 : wr.cell? ⟨g1,o1 + j * 4,none⟩ = some (.string x.s.nm) := q1 j x hx 0 _ rfl
   have d2 : wr.cell? ⟨g1,o1 + j * 4 + 1,none⟩ = some (.slice x.s.fA x.s.nf x.s.fC) := q1 j x hx 1 _ rfl
   have d3 : wr.cell? ⟨g1,o1 + j * 4 + 2,none⟩ = some (.int .i64 x.s.ln) := q1 j x hx 2 _ rfl
   have d4 : wr.cell? ⟨g1,o1 + j * 4 + 3,none⟩ = some (.int .i64 x.s.cl) := q1 j x hx 3 _ rfl
   have e1 : wr.cell? ⟨g2,o2 + j * 4,none⟩ = some (.string y.s.nm) := q2 j y hy 0 _ rfl
   have e2 : wr.cell? ⟨g2,o2 + j * 4 + 1,none⟩ = some (.slice y.s.fA y.s.nf y.s.fC) := q2 j y hy 1 _ rfl
   have e3 : wr.cell? ⟨g2,o2 + j * 4 + 2,none⟩ = some (.int .i64 y.s.ln) := q2 j y hy 2 _ rfl
   have e4 : wr.cell? ⟨g2,o2 + j * 4 + 3,none⟩ = some (.int .i64 y.s.cl) := q2 j y hy 3 _ rfl
   have hjI : (j : Int) < (ns : Int) := by omega
   have z0 : N + 1 < wr.heap.size := by have := HBR.out.size; omega
   have z1 : N + 1 < wr.heap.size + 1 := by omega
   have z2 : N < wr.heap.size := by omega
   have z3 : N < wr.heap.size + 1 := by omega
   have z4 : g1 < wr.heap.size + 1 := by omega
   have z5 : g2 < wr.heap.size + 1 := by omega
   have HX := Lib.hid hx
   have HY := Lib.hid hy
   clear hx hy q1 q2
   have HA : Hid (∀ a b : Obj,((wr.alloc a).alloc b).drew.heap[wr.heap.size]? = some a ∧ ((wr.alloc a).alloc b).drew.heap[wr.heap.size + 1]? = some b ∧ Below wr.heap.size wr ((wr.alloc a).alloc b).drew) := by
    intro a b
    refine ⟨(Below.heap_alloc (wr.alloc a) b _ (by simp)).trans (alloc_at wr a),?_,(((Below.refl _ _).alloc (Nat.le_refl _) _).alloc (by simp) _).drew⟩
    have := alloc_at (wr.alloc a) b
    rwa [World.size_alloc] at this
   go_upto_region 6 with (fail)
   go_cut [6,7] from 33 to 43 (fun s6 s7 wc => ∃ p q,s6 = .pointer (some ⟨p,0,none⟩) ∧ s7 = .pointer (some ⟨q,0,none⟩) ∧ wc.heap[p]? = some (.cells x.cells 84 (0,0)) ∧ wc.heap[q]? = some (.cells y.cells 84 (0,0)) ∧ Below wr.heap.size wr wc)
   case first =>
    go_wp2_with fail
    go_region
    all_goals
     go_wp2
     go_meet
     case rel => first
      | exact ⟨_,_,rfl,rfl,(HA.out _ _).1,(HA.out _ _).2.1,(HA.out _ _).2.2⟩
      | exact ⟨_,_,rfl,rfl,(HA.out _ _).2.1,(HA.out _ _).1,(HA.out _ _).2.2⟩
   case rest =>
    obtain ⟨p,q,rfl,rfl,hp,hq,hbc⟩ := hcut
    clear c1 c2 c3 c4 d1 d2 d3 d4 e1 e2 e3 e4 z0 z1 z2 z3 z4 z5
    have hix := HIX.out wc hbc
    have hiy := HIY.out wc hbc
    have n1 := hix.nf
    have n2 := hiy.nf
    have HBC : Hid (Below W1.heap.size W1 wc) := HBR.out.trans (hbc.mono HBR.out.size)
    have HBCW : Hid (Below w.heap.size w wc) := HBW.out.trans (hbc.mono HBW.out.size)
    have lx := hix.len
    unfold maxLen at lx
    obtain ⟨⟨xnm,xfA,xnf,xfC,xln,xcl⟩,xfs⟩ := x
    obtain ⟨⟨ynm,yfA,ynf,yfC,yln,ycl⟩,yfs⟩ := y
    simp only at n1 n2 lx
    subst n1 n2
    have t1 : wc.cell? ⟨p,0,none⟩ = some (.string xnm) := (cell_of_row _ _ _ _ _ _ hp).trans rfl
    have t2 : wc.cell? ⟨p,1,none⟩ = some (.slice xfA xfs.length xfC) := (cell_of_row _ _ _ _ _ _ hp).trans rfl
    have t3 : wc.cell? ⟨q,0,none⟩ = some (.string ynm) := (cell_of_row _ _ _ _ _ _ hq).trans rfl
    have t4 : wc.cell? ⟨q,1,none⟩ = some (.slice yfA yfs.length yfC) := (cell_of_row _ _ _ _ _ _ hq).trans rfl
    have HRX : Hid (RowOf Fd.cells 5 wc wc.heap.size xfA xfs) := hix.row
    have HRY : Hid (RowOf Fd.cells 5 wc wc.heap.size yfA yfs) := hiy.row
    clear hp hq hbc hix hiy HIX HIY
    by_cases k2 : xnm = ynm
    rotate_left
    ·have k2' : ¬ (xnm.toList = ynm.toList) := fun e => k2 (eq_of_beq (by rw [beq_toListBytes,e]; simp))
     have HRR : Hid (R = false) := by
      unfold Hid; rw [HP.out,eqBy_false_at (p := sameS) HX.out HY.out (by simp [sameS,k2]),Bool.false_and]
     go_wp2
     go_ret
     rw [HRR.out]
     exact ⟨rfl,HBCW.out⟩
    subst k2
    by_cases k3 : xfs.length = yfs.length
    rotate_left
    ·have HRR : Hid (R = false) := by
      unfold Hid; rw [HP.out,eqBy_false_at (p := sameS) HX.out HY.out (by simp [sameS,eqBy_false_len k3]),Bool.false_and]
     have k3I : ¬ ((xfs.length : Int) = (yfs.length : Int)) := by omega
     go_wp2
     go_ret
     rw [HRR.out]
     exact ⟨rfl,HBCW.out⟩
    rw [← k3] at t4
    have HK3 := Lib.hid k3
    clear k3
    obtain ⟨nx,hnx⟩ : ∃ nx,xfs.length = nx := ⟨_,rfl⟩
    rw [hnx] at t2 t4 HK3 lx
    have HNX := Lib.hid hnx
    clear hnx
    go_wp2_with fail
    go_loopw [8] (fun k wq => ∃ i n : Nat,i ≤ nx ∧ k = .int .i64 (i : Int) ∧ EqTo Fd.same xfs yfs i ∧ wq = wc.drewN n) (fun k _ => nx - (intOf k).toNat)
    case atStart => exact ⟨0,0,Nat.zero_le _,rfl,EqTo.zero _ _ _,rfl⟩
    case round =>
     obtain ⟨i,n,hi,rfl,hz,rfl⟩ := hrel
     have HZ2 := Lib.hid hz
     clear hz
     by_cases hil : i < nx
     ·obtain ⟨a,ha⟩ : ∃ a,xfs[i]? = some a := ⟨_,List.getElem?_eq_getElem (by have := HNX.out; omega)⟩
      obtain ⟨b,hb⟩ : ∃ b,yfs[i]? = some b := ⟨_,List.getElem?_eq_getElem (by have := HK3.out; omega)⟩
      obtain ⟨h1,r1,rfl,hh1,w1⟩ := HRX.out (by intro e; rw [e] at ha; simp at ha)
      obtain ⟨h2,r2,rfl,hh2,w2⟩ := HRY.out (by intro e; rw [e] at hb; simp at hb)
      have d1 : wc.cell? ⟨h1,r1 + i * 5,none⟩ = some (.string a.nm) := w1 i a ha 0 _ rfl
      have d2 : wc.cell? ⟨h1,r1 + i * 5 + 1,none⟩ = some (.bool a.ptr) := w1 i a ha 1 _ rfl
      have d3 : wc.cell? ⟨h1,r1 + i * 5 + 2,none⟩ = some (.string a.tgt) := w1 i a ha 2 _ rfl
      have d3' : wc.cell? ⟨h1,r1 + i * 5 + 1 + 1,none⟩ = some (.string a.tgt) := w1 i a ha 2 _ rfl
      have e1 : wc.cell? ⟨h2,r2 + i * 5,none⟩ = some (.string b.nm) := w2 i b hb 0 _ rfl
      have e2 : wc.cell? ⟨h2,r2 + i * 5 + 1,none⟩ = some (.bool b.ptr) := w2 i b hb 1 _ rfl
      have e3 : wc.cell? ⟨h2,r2 + i * 5 + 2,none⟩ = some (.string b.tgt) := w2 i b hb 2 _ rfl
      have e3' : wc.cell? ⟨h2,r2 + i * 5 + 1 + 1,none⟩ = some (.string b.tgt) := w2 i b hb 2 _ rfl
      have hiI : (i : Int) < (nx : Int) := by omega
      have HA2 := Lib.hid ha
      have HB2 := Lib.hid hb
      clear ha hb w1 w2
      obtain ⟨anm,aptr,atgt,aln,acl⟩ := a
      obtain ⟨bnm,bptr,btgt,bln,bcl⟩ := b
      simp only at d1 d2 d3 d3' e1 e2 e3 e3'
      by_cases k4 : anm = bnm
      rotate_left
      ·have k4' : ¬ (anm.toList = bnm.toList) := fun e => k4 (eq_of_beq (by rw [beq_toListBytes,e]; simp))
       have HRR : Hid (R = false) := by
        unfold Hid; rw [HP.out,eqBy_false_at (p := sameS) HX.out HY.out (by simp [sameS,eqBy_false_at (p := Fd.same) HA2.out HB2.out (by simp [Fd.same,k4])]),Bool.false_and]
       go_wp2
       go_quiet (fail)
       go_wp2
       go_ret
       rw [HRR.out]
       exact ⟨rfl,below_drewN (below_drewN HBCW.out _) _⟩
      subst k4
      obtain ⟨d,hd⟩ : ∃ d,(((aptr,atgt) : Ty) == (bptr,btgt)) = d := ⟨_,rfl⟩
      have heq : ∀ w,(Op.equalIn 10000 45 (.agg #[.bool aptr,.string atgt]) (.agg #[.bool bptr,.string btgt])).run Try.prog w = .ok d w := fun w => by rw [ty_eqIn,hd]
      have HDD : Hid (Fd.same ⟨anm,aptr,atgt,aln,acl⟩ ⟨anm,bptr,btgt,bln,bcl⟩ = d) := by unfold Hid; rw [← hd]; simp [Fd.same,Fd.ty]
      clear hd
      cases d with
      | true =>
       go_wp2
       go_quiet (fail)
       go_wp2
       go_roundw
       case rel => exact ⟨i + 1,_,by omega,by go_num,HZ2.out.next HA2.out HB2.out HDD.out,rfl⟩
       case measure => simp [intOf]; omega
      | false =>
       have HRR : Hid (R = false) := by
        unfold Hid; rw [HP.out,eqBy_false_at (p := sameS) HX.out HY.out (by simp [sameS,eqBy_false_at (p := Fd.same) HA2.out HB2.out HDD.out]),Bool.false_and]
       go_wp2
       go_quiet (fail)
       go_wp2
       go_ret
       rw [HRR.out]
       exact ⟨rfl,below_drewN (below_drewN HBCW.out _) _⟩
     ·have hie : i = nx := by omega
      subst hie
      have HSS : Hid (EqTo sameS ss ss2 (j + 1)) := HZ.out.next HX.out HY.out (by
       have : eqBy Fd.same xfs yfs = true := EqTo.all (by rw [HNX.out]; exact HZ2.out) (by rw [HNX.out]; exact HK3.out)
       simp [sameS,this])
      go_wp2
      go_roundw
      case rel => exact ⟨j + 1,by omega,by go_num,HSS.out,below_drewN HBC.out _⟩
      case measure => simp [intOf]; omega
  ·have hje : j = ns := by omega
   subst hje
   have HPI : Hid (R = eqBy (sameC md) fs fs2) := by unfold Hid; rw [HP.out,EqTo.all (by rw [HNS.out]; exact HZ.out) (by rw [HNS.out]; exact HK0.out),Bool.true_and]
   go_wp2_with fail
   go_loopw [9] (fun k wq => ∃ j : Nat,j ≤ nf ∧ k = .int .i64 (j : Int) ∧ EqTo (sameC md) fs fs2 j ∧ Below W1.heap.size W1 wq) (fun k _ => nf - (intOf k).toNat)
   case atStart => exact ⟨0,Nat.zero_le _,rfl,EqTo.zero _ _ _,HBR.out⟩
   case round =>
    clear c1 c2 c3 c4
    obtain ⟨k,hk,rfl,hz,hbq⟩ := hrel
    obtain ⟨c1,c2,c3,c4⟩ := HS.out _ hbq
    have HZ2 := Lib.hid hz
    have HBQ := Lib.hid hbq
    have HBV : Hid (Below w.heap.size w wr) := HBX.out.trans (hbq.mono HBX.out.size)
    clear hz hbq
    by_cases hkl : k < nf
    ·obtain ⟨x,hx⟩ : ∃ x,fs[k]? = some x := ⟨_,List.getElem?_eq_getElem (by have := HNF.out; omega)⟩
     obtain ⟨y,hy⟩ : ∃ y,fs2[k]? = some y := ⟨_,List.getElem?_eq_getElem (by have := HK1.out; omega)⟩
     obtain ⟨g1,o1,rfl,hg1,q1⟩ := (HFR.out wr HBV.out).1 (by intro e; rw [e] at hx; simp at hx)
     obtain ⟨g2,o2,rfl,hg2,q2⟩ := (HFR.out wr HBV.out).2 (by intro e; rw [e] at hy; simp at hy)
     have HX1 : Hid (∀ (p : BW wr) (i : Nat) (u : Value),x.cells.toList[i]? = some u → p.w.cell? ((⟨g1,o1 + k * 8,none⟩ : Addr).add i) = some u) := fun p i u hu => by
      rw [Addr.add_lit,p.h.cell (p := ⟨g1,_,none⟩) hg1]; exact q1 k x hx i u hu
     have HX2 : Hid (∀ (p : BW wr) (i : Nat) (u : Value),y.cells.toList[i]? = some u → p.w.cell? ((⟨g2,o2 + k * 8,none⟩ : Addr).add i) = some u) := fun p i u hu => by
      rw [Addr.add_lit,p.h.cell (p := ⟨g2,_,none⟩) hg2]; exact q2 k y hy i u hu
     have b2 : ∀ p : BW wr,p.w.cell? ⟨N,1,none⟩ = some (.slice (some ⟨g1,o1,none⟩) nf fC) := fun p => (HS.out p.w (HBQ.out.trans (p.h.mono HBQ.out.size))).2.1
     have b4 : ∀ p : BW wr,p.w.cell? ⟨N + 1,1,none⟩ = some (.slice (some ⟨g2,o2,none⟩) nf fC2) := fun p => (HS.out p.w (HBQ.out.trans (p.h.mono HBQ.out.size))).2.2.2
     obtain ⟨d,hd⟩ : ∃ d,sameC md x y = d := ⟨_,rfl⟩
     have HCC : Hid (∀ p : BW wr,Calls Try.prog 50 #[.agg x.cells,.agg y.cells] p.w fun e w' => e = .returned (.bool d) ∧ Below p.w.heap.size p.w w') := fun p => by
      rw [← hd]; exact HC.out x (List.mem_of_getElem? hx) y (List.mem_of_getElem? hy) p.w (HBV.out.trans (p.h.mono HBV.out.size))
     have hkI : (k : Int) < (nf : Int) := by omega
     have HX := Lib.hid hx
     have HY := Lib.hid hy
     have HD := Lib.hid hd
     clear hd hx hy q1 q2
     go_wp2_with fail
     refine wp_region_quiet_bw (by kernel_rfl) (by kernel_rfl) ?_
     repeat (first
      | (go_big_quiet_want; (first
        | (refine quiet_load_bw 50 _ rfl ⟨g1,o1 + k * 8,none⟩ rfl x.cells _ HX1.out Try.underlying50 rfl (by kernel_rfl) ?_)
        | (refine quiet_load_bw 50 _ rfl ⟨g2,o2 + k * 8,none⟩ rfl y.cells _ HX2.out Try.underlying50 rfl (by kernel_rfl) ?_)); (simp only [Act.put,List.setIfInBounds_toArray,List.set_cons_zero,List.set_cons_succ]); go_big_quiet_on)
      | (go_big_quiet_step (first | (go_at_call 50; exact bw_of (HCC.out _)))))
     refine wpQuiet_nil ?_
     rintro _ ⟨p,rfl⟩
     cases d with
     | true =>
      go_wp2
      go_roundw
      case rel => exact ⟨k + 1,by omega,by go_num,HZ2.out.next HX.out HY.out HD.out,HBQ.out.trans (p.h.mono HBQ.out.size)⟩
      case measure => simp [intOf]; omega
     | false =>
      have HRR : Hid (R = false) := by unfold Hid; rw [HPI.out,eqBy_false_at HX.out HY.out HD.out]
      go_wp2
      go_ret
      rw [HRR.out]
      exact ⟨rfl,HBV.out.trans (p.h.mono HBV.out.size)⟩
    ·have hke : k = nf := by omega
     subst hke
     have HRR : Hid (R = true) := by unfold Hid; rw [HPI.out]; exact EqTo.all (by rw [HNF.out]; exact HZ2.out) (by rw [HNF.out]; exact HK1.out)
     go_wp2
     go_ret
     rw [HRR.out]
     exact ⟨rfl,HBV.out⟩
end Go.Proofs.Ytlggjbopfnndbaa
