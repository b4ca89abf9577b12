/- The reference's SameCode, Same. -/
import Derived.Test.YtlggjbopfnndbaaG16
import Derived.Test.YtlggjbopfnndbaaG19
namespace Go.Proofs.Ytlggjbopfnndbaa
open Go.RowKit
set_option maxRecDepth 100000 in
set_option maxHeartbeats 8000000 in
theorem refSameC_calls (w : World) (md : Ins → List Int) (f g : Fn) (hf : f.fitS md w) (hg : g.fitS md w) :
  Calls Try.prog 50 #[.agg f.cells,.agg g.cells] w fun e w' => e = .returned (.bool (sameC md f g)) ∧ Below w.heap.size w w' := by
 obtain ⟨R,hR⟩ : ∃ R,sameC md f g = R := ⟨_,rfl⟩
 rw [hR]
 have HE1 : Hid (∀ W,Below w.heap.size w W → Calls Try.prog 18 #[.slice f.c.fromA f.frm.length f.c.fromC,.slice g.c.fromA g.frm.length g.c.fromC] W fun e w' => e = .returned (.bool (eqI f.frm g.frm)) ∧ Below W.heap.size W w') := fun W hW =>
  refNums_calls W _ _ _ _ f.frm g.frm (by have := hf.nfrm; unfold maxLen; omega) (hf.inn.frm.at_.below hW) (hg.inn.frm.at_.below hW)
 have HV : Hid (∀ W,Below w.heap.size w W → RowOf Vr.cells 3 W W.heap.size f.c.varsA f.vs ∧ RowOf Vr.cells 3 W W.heap.size g.c.varsA g.vs) := fun W hW => ⟨hf.inn.vars.grow hW,hg.inn.vars.grow hW⟩
 have HI : Hid (∀ W,Below w.heap.size w W → RowOf Ins.cells 13 W W.heap.size f.c.insA f.c.ins ∧ RowOf Ins.cells 13 W W.heap.size g.c.insA g.c.ins) := fun W hW => ⟨(hf.below hW).inn.code.row,(hg.below hW).inn.code.row⟩
 have HC : Hid (∀ x ∈ f.c.ins,∀ y ∈ g.c.ins,∀ W,Below w.heap.size w W → Calls Try.prog 75 #[.agg x.cells,.agg y.cells] W fun e w' => e = .returned (.bool (sameI md x y)) ∧ Below W.heap.size W w') := fun x hx y hy W hW =>
  refSameI_calls W md x y ((hf.below hW).inn.code.args x hx) ((hg.below hW).inn.code.args y hy) ((hf.below hW).mode x hx) ((hg.below hW).mode y hy) (hf.args x hx).1 (hf.args x hx).2
 have n1 := hf.inn.nvars
 have n2 := hg.inn.nvars
 have n3 := hf.inn.nfrom
 have n4 := hg.inn.nfrom
 have l1 := hf.nvs
 have l2 := hf.nins
 have HP : Hid (sameC md f g = (f.c.nm == g.c.nm && f.c.par == g.c.par && (f.c.rp == g.c.rp && f.c.rto == g.c.rto && f.c.rcl == g.c.rcl) && eqI f.frm g.frm && eqBy Vr.same f.vs g.vs && eqBy (sameI md) f.c.ins g.c.ins)) := rfl
 rw [hR] at HP
 clear hf hg hR
 obtain ⟨⟨nm,par,varsA,nvars,varsC,rp,rto,rcl,fromA,nfrom,fromC,insA,insC,ins⟩,vs,frm,mds⟩ := f
 obtain ⟨⟨nm2,par2,varsA2,nvars2,varsC2,rp2,rto2,rcl2,fromA2,nfrom2,fromC2,insA2,insC2,ins2⟩,vs2,frm2,mds2⟩ := g
 simp only at n1 n2 n3 n4 l1 l2 HE1 HV HI HC HP
 subst n1 n2 n3 n4
 obtain ⟨r1,hr1⟩ : ∃ r,eqI frm frm2 = r := ⟨_,rfl⟩
 obtain ⟨d,hd⟩ : ∃ d,(rp == rp2 && rto == rto2 && rcl == rcl2) = d := ⟨_,rfl⟩
 have heq : ∀ w,(Op.equalIn 10000 47 (.agg #[.bool rp,.string rto,.int .i64 rcl]) (.agg #[.bool rp2,.string rto2,.int .i64 rcl2])).run Try.prog w = .ok d w := fun w => by rw [var_eqIn,hd]
 rw [hr1,hd] at HP
 rw [hr1] at HE1
 simp only [Fn.cells,Cod.cells]
 clear hr1 hd
 obtain ⟨N,hN⟩ : ∃ N,w.heap.size = N := ⟨_,rfl⟩
 obtain ⟨W1,hW1⟩ : ∃ W1,W1 = ((w.alloc (.cells #[.string nm,.int .i64 par,.slice varsA vs.length varsC,.bool rp,.string rto,.int .i64 rcl,.slice fromA frm.length fromC,.slice insA ins.length insC] 50)).alloc (.cells #[.string nm2,.int .i64 par2,.slice varsA2 vs2.length varsC2,.bool rp2,.string rto2,.int .i64 rcl2,.slice fromA2 frm2.length fromC2,.slice insA2 ins2.length insC2] 50)) := ⟨_,rfl⟩
 have q1 : W1.heap[N]? = some (.cells #[.string nm,.int .i64 par,.slice varsA vs.length varsC,.bool rp,.string rto,.int .i64 rcl,.slice fromA frm.length fromC,.slice insA ins.length insC] 50 (0,0)) := by
  rw [hW1,Below.heap_alloc _ _ _ (by simp; omega),← hN]; exact alloc_at _ _
 have q2 : W1.heap[N + 1]? = some (.cells #[.string nm2,.int .i64 par2,.slice varsA2 vs2.length varsC2,.bool rp2,.string rto2,.int .i64 rcl2,.slice fromA2 frm2.length fromC2,.slice insA2 ins2.length insC2] 50 (0,0)) := by
  rw [hW1]
  have := alloc_at (w.alloc (.cells #[.string nm,.int .i64 par,.slice varsA vs.length varsC,.bool rp,.string rto,.int .i64 rcl,.slice fromA frm.length fromC,.slice insA ins.length insC] 50)) (.cells #[.string nm2,.int .i64 par2,.slice varsA2 vs2.length varsC2,.bool rp2,.string rto2,.int .i64 rcl2,.slice fromA2 frm2.length fromC2,.slice insA2 ins2.length insC2] 50)
  rwa [World.size_alloc,hN] at this
 have hs1 : W1.heap.size = N + 2 := by rw [hW1]; simp [hN]
 have HBX : Hid (Below w.heap.size w W1) := by unfold Hid; rw [hW1]; exact ((Below.refl _ _).alloc (Nat.le_refl _) _).alloc (by simp) _
 have HS : Hid (∀ W,Below W1.heap.size W1 W → W.cell? ⟨N,2,none⟩ = some (.slice varsA vs.length varsC) ∧ W.cell? ⟨N,7,none⟩ = some (.slice insA ins.length insC) ∧ W.cell? ⟨N + 1,2,none⟩ = some (.slice varsA2 vs2.length varsC2) ∧ W.cell? ⟨N + 1,7,none⟩ = some (.slice insA2 ins2.length insC2)) := by
  intro W hW
  have p1 := (hW.block N (by omega)).trans q1
  have p2 := (hW.block (N + 1) (by omega)).trans q2
  exact ⟨(cell_of_row _ _ _ _ _ _ p1).trans rfl,(cell_of_row _ _ _ _ _ _ p1).trans rfl,(cell_of_row _ _ _ _ _ _ p2).trans rfl,(cell_of_row _ _ _ _ _ _ p2).trans rfl⟩
 have HW1 := Lib.hid hW1
 clear q1 q2 hW1
 by_cases k0 : nm = nm2
 rotate_left
 ·have HRR : Hid (R = false) := by unfold Hid; rw [HP.out]; simp [k0]
  have k0 : ¬ (nm.toList = nm2.toList) := fun e => k0 (eq_of_beq (by rw [beq_toListBytes,e]; simp))
  go_enter Try.func50,Try.ntmps50
  go_wp2
  go_ret
  rw [HRR.out,← HW1.out]
  exact ⟨rfl,HBX.out⟩
 subst k0
 by_cases k1 : par = par2
 rotate_left
 ·have HRR : Hid (R = false) := by unfold Hid; rw [HP.out]; simp [k1]
  go_enter Try.func50,Try.ntmps50
  go_wp2
  go_ret
  rw [HRR.out,← HW1.out]
  exact ⟨rfl,HBX.out⟩
 subst k1
 cases d with
 | false =>
  have HRR : Hid (R = false) := by unfold Hid; rw [HP.out]; simp
  go_enter Try.func50,Try.ntmps50
  go_wp2
  go_ret
  rw [HRR.out,← HW1.out]
  exact ⟨rfl,HBX.out⟩
 | true =>
  cases r1 with
  | false =>
   have HRR : Hid (R = false) := by unfold Hid; rw [HP.out]; simp
   go_enter Try.func50,Try.ntmps50
   go_wp2_with (go_at_call 18; rw [← HW1.out]; refine (HE1.out _ HBX.out).mono ?_; rintro e w2 ⟨rfl,hb2⟩; have HB2 := Lib.hid (HBX.out.trans (hb2.mono HBX.out.size)); clear hb2)
   go_ret
   rw [HRR.out]
   exact ⟨rfl,HB2.out⟩
  | true =>
   have HPP : Hid (R = (eqBy Vr.same vs vs2 && eqBy (sameI md) ins ins2)) := by unfold Hid; rw [HP.out]; simp
   clear HP
   by_cases k2 : vs.length = vs2.length
   rotate_left
   ·have HRR : Hid (R = false) := by unfold Hid; rw [HPP.out,eqBy_false_len k2]; rfl
    have k2I : ¬ ((vs.length : Int) = (vs2.length : Int)) := by omega
    go_enter Try.func50,Try.ntmps50
    go_wp2_with (go_at_call 18; rw [← HW1.out]; refine (HE1.out _ HBX.out).mono ?_; rintro e w2 ⟨rfl,hb2⟩; obtain ⟨c1,c2,c3,c4⟩ := HS.out _ hb2; have HB2 := Lib.hid (HBX.out.trans (hb2.mono HBX.out.size)); clear hb2)
    go_ret
    rw [HRR.out]
    exact ⟨rfl,HB2.out⟩
   rw [← k2]
   rw [← k2] at HS HW1
   have HK2 := Lib.hid k2
   clear k2
   obtain ⟨nv,hnv⟩ : ∃ nv,vs.length = nv := ⟨_,rfl⟩
   rw [hnv] at HS HW1
   rw [hnv] at HK2 l1
   rw [hnv]
   have HNV := Lib.hid hnv
   clear hnv
   by_cases k3 : ins.length = ins2.length
   rotate_left
   ·have HRR : Hid (R = false) := by unfold Hid; rw [HPP.out,eqBy_false_len k3,Bool.and_false]
    have k3I : ¬ ((ins.length : Int) = (ins2.length : Int)) := by omega
    go_enter Try.func50,Try.ntmps50
    go_wp2_with (go_at_call 18; rw [← HW1.out]; refine (HE1.out _ HBX.out).mono ?_; rintro e w2 ⟨rfl,hb2⟩; obtain ⟨c1,c2,c3,c4⟩ := HS.out _ hb2; have HB2 := Lib.hid (HBX.out.trans (hb2.mono HBX.out.size)); clear hb2)
    go_ret
    rw [HRR.out]
    exact ⟨rfl,HB2.out⟩
   rw [← k3]
   rw [← k3] at HS HW1
   have HK3 := Lib.hid k3
   clear k3
   obtain ⟨ni,hni⟩ : ∃ ni,ins.length = ni := ⟨_,rfl⟩
   rw [hni] at HS HW1
   rw [hni] at HK3 l2
   rw [hni]
   have HNI := Lib.hid hni
   clear hni
   go_enter Try.func50,Try.ntmps50
   go_upto_region 3 with (go_at_call 18; rw [← HW1.out]; refine (HE1.out _ HBX.out).mono ?_; rintro e w2 ⟨rfl,hb2⟩; obtain ⟨c1,c2,c3,c4⟩ := HS.out _ hb2; have HC2 := Lib.hid hb2; have HB2 := Lib.hid (HBX.out.trans (hb2.mono HBX.out.size)); clear hb2)
   go_wp2_with fail
   go_loopw [5] (fun k wr => ∃ j n : Nat,j ≤ nv ∧ k = .int .i64 (j : Int) ∧ EqTo Vr.same vs vs2 j ∧ wr = w2.drewN n) (fun k _ => nv - (intOf k).toNat)
   case atStart => exact ⟨0,0,Nat.zero_le _,rfl,EqTo.zero _ _ _,rfl⟩
   case round =>
    obtain ⟨j,n,hj,rfl,hz,rfl⟩ := hrel
    have HZ := Lib.hid hz
    clear hz
    by_cases hjl : j < nv
    ·obtain ⟨x,hx⟩ : ∃ x,vs[j]? = some x := ⟨_,List.getElem?_eq_getElem (by have := HNV.out; omega)⟩
     obtain ⟨y,hy⟩ : ∃ y,vs2[j]? = some y := ⟨_,List.getElem?_eq_getElem (by have := HK2.out; omega)⟩
     obtain ⟨g1,o1,rfl,hg1,q1⟩ := (HV.out w2 HB2.out).1 (by intro e; rw [e] at hx; simp at hx)
     obtain ⟨g2,o2,rfl,hg2,q2⟩ := (HV.out w2 HB2.out).2 (by intro e; rw [e] at hy; simp at hy)
     have d1 : w2.cell? ⟨g1,o1 + j * 3,none⟩ = some (.bool x.ptr) := q1 j x hx 0 _ rfl
     have d2 : w2.cell? ⟨g1,o1 + j * 3 + 1,none⟩ = some (.string x.tgt) := q1 j x hx 1 _ rfl
     have d3 : w2.cell? ⟨g1,o1 + j * 3 + 2,none⟩ = some (.int .i64 x.cls) := q1 j x hx 2 _ rfl
     have d4 : w2.cell? ⟨g2,o2 + j * 3,none⟩ = some (.bool y.ptr) := q2 j y hy 0 _ rfl
     have d5 : w2.cell? ⟨g2,o2 + j * 3 + 1,none⟩ = some (.string y.tgt) := q2 j y hy 1 _ rfl
     have d6 : w2.cell? ⟨g2,o2 + j * 3 + 2,none⟩ = some (.int .i64 y.cls) := q2 j y hy 2 _ rfl
     have hjI : (j : Int) < (nv : Int) := by omega
     obtain ⟨d,hd⟩ : ∃ d,Vr.same x y = d := ⟨_,rfl⟩
     have HX := Lib.hid hx
     have HY := Lib.hid hy
     have HD := Lib.hid hd
     have heq2 : ∀ w,(Op.equalIn 10000 47 (.agg #[.bool x.ptr,.string x.tgt,.int .i64 x.cls]) (.agg #[.bool y.ptr,.string y.tgt,.int .i64 y.cls])).run Try.prog w = .ok d w := fun w => by rw [var_eqIn,← hd]; rfl
     clear hd hx hy q1 q2
     cases d with
     | true =>
      go_wp2
      go_quiet (fail)
      go_wp2
      go_roundw
      case rel => exact ⟨j + 1,_,by omega,by go_num,HZ.out.next HX.out HY.out HD.out,rfl⟩
      case measure => simp [intOf]; omega
     | false =>
      have HRR : Hid (R = false) := by unfold Hid; rw [HPP.out,eqBy_false_at HX.out HY.out HD.out]; rfl
      go_wp2
      go_quiet (fail)
      go_wp2
      go_ret
      rw [HRR.out]
      exact ⟨rfl,below_drewN (below_drewN HB2.out _) _⟩
    ·have hje : j = nv := by omega
     subst hje
     have HPI : Hid (R = eqBy (sameI md) ins ins2) := by unfold Hid; rw [HPP.out,EqTo.all (by rw [HNV.out]; exact HZ.out) (by rw [HNV.out]; exact HK2.out),Bool.true_and]
     go_wp2_with fail
     go_loopw [6] (fun k wq => ∃ j : Nat,j ≤ ni ∧ k = .int .i64 (j : Int) ∧ EqTo (sameI md) ins ins2 j ∧ Below W1.heap.size W1 wq) (fun k _ => ni - (intOf k).toNat)
     case atStart => exact ⟨0,Nat.zero_le _,rfl,EqTo.zero _ _ _,below_drewN HC2.out _⟩
     case round =>
      clear c1 c2 c3 c4
      obtain ⟨k,hk,rfl,hz,hbq⟩ := hrel
      obtain ⟨c1,c2,c3,c4⟩ := HS.out _ hbq
      have HZ := Lib.hid hz
      have HBQ := Lib.hid hbq
      have HBW : Hid (Below w.heap.size w wr) := HBX.out.trans (hbq.mono HBX.out.size)
      clear hz hbq
      by_cases hkl : k < ni
      ·obtain ⟨x,hx⟩ : ∃ x,ins[k]? = some x := ⟨_,List.getElem?_eq_getElem (by have := HNI.out; omega)⟩
       obtain ⟨y,hy⟩ : ∃ y,ins2[k]? = some y := ⟨_,List.getElem?_eq_getElem (by have := HK3.out; omega)⟩
       obtain ⟨g1,o1,rfl,hg1,q1⟩ := (HI.out wr HBW.out).1 (by intro e; rw [e] at hx; simp at hx)
       obtain ⟨g2,o2,rfl,hg2,q2⟩ := (HI.out wr HBW.out).2 (by intro e; rw [e] at hy; simp at hy)
       have HX1 : Hid (∀ (p : BW wr) (i : Nat) (u : Value),x.cells.toList[i]? = some u → p.w.cell? ((⟨g1,o1 + k * 13,none⟩ : Addr).add i) = some u) := fun p i u hu => by
        rw [Addr.add_lit,p.h.cell (p := ⟨g1,_,none⟩) hg1]; exact q1 k x hx i u hu
       have HX2 : Hid (∀ (p : BW wr) (i : Nat) (u : Value),y.cells.toList[i]? = some u → p.w.cell? ((⟨g2,o2 + k * 13,none⟩ : Addr).add i) = some u) := fun p i u hu => by
        rw [Addr.add_lit,p.h.cell (p := ⟨g2,_,none⟩) hg2]; exact q2 k y hy i u hu
       have b2 : ∀ p : BW wr,p.w.cell? ⟨N,7,none⟩ = some (.slice (some ⟨g1,o1,none⟩) ni insC) := fun p => (HS.out p.w (HBQ.out.trans (p.h.mono HBQ.out.size))).2.1
       have b4 : ∀ p : BW wr,p.w.cell? ⟨N + 1,7,none⟩ = some (.slice (some ⟨g2,o2,none⟩) ni insC2) := fun p => (HS.out p.w (HBQ.out.trans (p.h.mono HBQ.out.size))).2.2.2
       obtain ⟨d,hd⟩ : ∃ d,sameI md x y = d := ⟨_,rfl⟩
       have HCC : Hid (∀ p : BW wr,Calls Try.prog 75 #[.agg x.cells,.agg y.cells] p.w fun e w' => e = .returned (.bool d) ∧ Below p.w.heap.size p.w w') := fun p => by
        rw [← hd]; exact HC.out x (List.mem_of_getElem? hx) y (List.mem_of_getElem? hy) p.w (HBW.out.trans (p.h.mono HBW.out.size))
       have hkI : (k : Int) < (ni : Int) := by omega
       have HX := Lib.hid hx
       have HY := Lib.hid hy
       have HD := Lib.hid hd
       clear hd hx hy q1 q2
       go_wp2_with fail
       refine wp_region_quiet_bw (by kernel_rfl) (by kernel_rfl) ?_
       repeat (first
        | (go_big_quiet_want; (first
          | (refine quiet_load_bw 62 _ rfl ⟨g1,o1 + k * 13,none⟩ rfl x.cells _ HX1.out Try.underlying62 rfl (by kernel_rfl) ?_)
          | (refine quiet_load_bw 62 _ rfl ⟨g2,o2 + k * 13,none⟩ rfl y.cells _ HX2.out Try.underlying62 rfl (by kernel_rfl) ?_)); (simp only [Act.put,List.setIfInBounds_toArray,List.set_cons_zero,List.set_cons_succ]); go_big_quiet_on)
        | (go_big_quiet_step (first | (go_at_call 75; exact bw_of (HCC.out _)))))
       refine wpQuiet_nil ?_
       rintro _ ⟨p,rfl⟩
       cases d with
       | true =>
        go_wp2
        go_roundw
        case rel => exact ⟨k + 1,by omega,by go_num,HZ.out.next HX.out HY.out HD.out,HBQ.out.trans (p.h.mono HBQ.out.size)⟩
        case measure => simp [intOf]; omega
       | false =>
        have HRR : Hid (R = false) := by unfold Hid; rw [HPI.out,eqBy_false_at HX.out HY.out HD.out]
        go_wp2
        go_ret
        rw [HRR.out]
        exact ⟨rfl,HBW.out.trans (p.h.mono HBW.out.size)⟩
      ·have hke : k = ni := by omega
       subst hke
       have HRR : Hid (R = true) := by unfold Hid; rw [HPI.out]; exact EqTo.all (by rw [HNI.out]; exact HZ.out) (by rw [HNI.out]; exact HK3.out)
       go_wp2
       go_ret
       rw [HRR.out]
       exact ⟨rfl,HBW.out⟩
end Go.Proofs.Ytlggjbopfnndbaa
