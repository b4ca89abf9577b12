import Derived.Test.YtlggjbopfnndbaaG04
import Derived.Test.YtlggjbopfnndbaaG16
import Derived.Test.YtlggjbopfnndbaaIrQ
import Derived.Test.YtlggjbopfnndbaaG08
namespace Go.Proofs.Ytlggjbopfnndbaa
open Go.RowKit
theorem rowOf_mapL {α β : Type} {f : α → β} {cells : β → Array Value} {stride : Nat} {w : World} {B : Nat} {ao : Option Addr} {xs : List α} (h : RowOf (fun a => cells (f a)) stride w B ao xs) : RowOf cells stride w B ao (xs.map f) := by
 intro hne
 obtain ⟨b,off,h1,h2,h3⟩ := h (fun e => hne (by rw [e]; rfl))
 refine ⟨b,off,h1,h2,fun i y hy k u hu => ?_⟩
 rw [List.getElem?_map] at hy
 obtain ⟨x,hx,rfl⟩ := Option.map_eq_some_iff.1 hy
 exact h3 i x hx k u hu
def Mo.lightL (m : Mo) : Prop := LightM (m.ss.map St.s) (m.fs.map Fn.c)
theorem lightL_calls (w : World) (m : Mo) (hm : m.inn w) : Calls Try.prog 73 #[.agg m.cells] w (SaysIf w w.heap.size m.lightL) := by
 have h := light5_calls w m.sA m.fA m.sC m.fC (m.ss.map St.s) (m.fs.map Fn.c) (rowOf_mapL hm.srow) (rowOf_mapL hm.frow) (by
  intro c hc; obtain ⟨f,hf,rfl⟩ := List.mem_map.1 hc; exact (hm.fin f hf).code.row) (by
  intro c hc x hx; obtain ⟨f,hf,rfl⟩ := List.mem_map.1 hc; exact ((hm.fin f hf).code.args x hx).1) (by have := hm.ns; unfold maxLen at this; simpa using this) (by have := hm.nf; unfold maxLen at this; simpa using this)
 simp only [List.length_map] at h
 exact h
def Mo.short17 (m : Mo) : Prop := m.fs.length ≤ 12 ∧ m.lightL
theorem short_right {w : World} {m : Mo} (hm : m.inn w) (hl : m.lightL) : RightIn w m := by
 obtain ⟨h1,h2,h3,h4,_⟩ := hl
 simp only [List.length_map] at h1 h2
 refine ⟨hm,by omega,by omega,fun s hs => ?_,fun f hf => ?_,fun f hf i hi => ?_⟩
 ·have h5 := h3 s.s (List.mem_map.2 ⟨s,hs,rfl⟩)
  have h6 := h5.1
  rw [← (hm.sin s hs).nf]; omega
 ·obtain ⟨g1,g2,_⟩ := h4 f.c (List.mem_map.2 ⟨f,hf,rfl⟩)
  rw [← (hm.fin f hf).nvars]; omega
 ·obtain ⟨g1,g2,_,g4,g5⟩ := h4 f.c (List.mem_map.2 ⟨f,hf,rfl⟩)
  exact (g5 i hi).1
noncomputable def mdOf (w : World) (i : Ins) : List Int := by
 classical
 exact if h : ∃ l : List Int,∃ ao cap,i.modeV = .slice ao l.length cap ∧ IntRow w ao l then h.choose else []
theorem mdOf_at {w : World} {i : Ins} (h : ∃ l : List Int,∃ ao cap,i.modeV = .slice ao l.length cap ∧ IntRow w ao l) : ModeAt w (mdOf w) i := by
 have e : mdOf w i = h.choose := by unfold mdOf; rw [dif_pos h]
 obtain ⟨ao,cap,h1,h2⟩ := h.choose_spec
 exact ⟨ao,cap,by rw [e]; exact h1,by rw [e]; exact h2⟩
set_option maxRecDepth 100000 in
set_option maxHeartbeats 4000000 in
theorem light12_calls (w : World) (m : Mo) (hm : m.inn w) : Calls Try.prog 41 #[.agg m.cells] w (SaysIf w w.heap.size m.short17) := by
 have HIN := Lib.hid hm
 obtain ⟨N,hN⟩ : ∃ N,w.heap.size = N := ⟨_,rfl⟩
 obtain ⟨W1,hW1⟩ : ∃ W1,w.alloc (.cells m.cells 25) = W1 := ⟨_,rfl⟩
 have hb1 : Below N w W1 := by rw [← hW1,← hN]; exact (Below.refl _ _).alloc (Nat.le_refl _) _
 have q1 : W1.heap[N]? = some (.cells m.cells 25 (0,0)) := by rw [← hW1,← hN]; exact alloc_at _ _
 have hm1 := hm.below (by rw [hN]; exact hb1)
 have c0 : W1.cell? ⟨N,0,none⟩ = some (.slice m.sA m.ss.length m.sC) := by rw [cell_of_row _ _ _ _ _ _ q1]; rfl
 have c1 : W1.cell? ⟨N,1,none⟩ = some (.slice m.fA m.fs.length m.fC) := by rw [cell_of_row _ _ _ _ _ _ q1]; rfl
 have HLI := Lib.hid (lightL_calls W1 m hm1)
 simp only [Mo.cells] at HLI
 have HFN : Hid (∀ j,j < m.fs.length → ∃ (fb fo : Nat) (g : Fn),m.fA = some ⟨fb,fo,none⟩ ∧ m.fs[j]? = some g ∧ g.c.ins.length ≤ maxLen ∧ W1.cell? ⟨fb,fo + j * 8 + 7,none⟩ = some (.slice g.c.insA g.c.ins.length g.c.insC)) := by
  intro j hj
  obtain ⟨fb,fo,hA,hb,hc⟩ := hm1.frow (by intro e; rw [e] at hj; simp at hj)
  obtain ⟨g,hg⟩ : ∃ g,m.fs[j]? = some g := ⟨_,List.getElem?_eq_getElem hj⟩
  have hgi := hm1.fin g (List.mem_of_getElem? hg)
  exact ⟨fb,fo,g,hA,hg,hgi.code.len,hc j g hg 7 _ rfl⟩
 have hW1' := hW1
 simp only [Mo.cells] at hW1'
 have HW1 := Lib.hid hW1'
 have HB1 := Lib.hid hb1
 have hnf := hm.nf
 simp only [Mo.cells]
 clear hm hm1 q1 hW1 hW1' hb1
 go_enter Try.func41,Try.ntmps41
 go_upto_region 1 with (fail)
 rw [HW1.out]
 go_wp2_with fail
 go_loop [3,4] (fun z c => ∃ (j : Nat) (s : Int),j ≤ 20 ∧ c = .int .i64 (j : Int) ∧ z = .int .i64 s) (fun _ c => 20 - (intOf c).toNat)
 case atStart => exact ⟨0,0,Nat.zero_le _,rfl,rfl⟩
 case round =>
  obtain ⟨j,s,hj,rfl,rfl⟩ := hrel
  by_cases hjl : j < m.fs.length
  ·by_cases hj20 : j < 20
   ·have hjI : (j : Int) < (m.fs.length : Int) := by omega
    obtain ⟨fb,fo,g,hA,hg,hgl,hc⟩ := HFN.out j hjl
    rw [hA] at c1
    have hd1 : decide (j < m.fs.length) = true := decide_eq_true hjl
    have hd2 : decide ((j : Int) < 20) = true := decide_eq_true (by omega)
    unfold maxLen at hgl
    clear hA hg
    go_wp2
    go_round
    case rel => exact ⟨j + 1,_,by omega,by go_num,rfl⟩
    case measure => simp [intOf]; omega
   ·have hd1 : decide (j < m.fs.length) = true := decide_eq_true hjl
    have hd2 : decide ((j : Int) < 20) = false := decide_eq_false (by omega)
    have hd3 : decide (m.fs.length ≤ 12) = false := decide_eq_false (by omega)
    go_wp2
    go_ret
    exact ⟨false,rfl,(fun h => by cases h),by first | exact HB1.out | (rw [hN]; exact HB1.out)⟩
  ·have hd1 : decide (j < m.fs.length) = false := decide_eq_false hjl
   skip
   by_cases h12 : m.fs.length ≤ 12
   ·by_cases h400 : s ≤ 400
    ·have hd4 : decide (s ≤ 400) = true := decide_eq_true (by omega)
     go_wp2_with (go_at_call 73; refine HLI.out.mono ?_; rintro e w2 ⟨b,rfl,hb,hb2⟩; have HBB := Lib.hid hb; have HB2 := Lib.hid hb2; clear hb hb2)
     go_ret
     exact ⟨b,by cases b <;> rfl,fun hb => ⟨h12,HBB.out hb⟩,by first | exact HB1.out.trans (HB2.out.mono (by have := HB1.out.size; omega)) | (rw [hN]; exact HB1.out.trans (HB2.out.mono (by have := HB1.out.size; omega)))⟩
    ·have hd4 : decide (s ≤ 400) = false := decide_eq_false (by omega)
     go_wp2
     go_ret
     exact ⟨false,rfl,(fun h => by cases h),by first | exact HB1.out | (rw [hN]; exact HB1.out)⟩
   ·have hd3 : decide (m.fs.length ≤ 12) = false := decide_eq_false h12
    go_wp2
    go_ret
    exact ⟨false,rfl,(fun h => by cases h),by first | exact HB1.out | (rw [hN]; exact HB1.out)⟩
set_option maxRecDepth 100000 in
set_option maxHeartbeats 4000000 in
theorem light17_calls (w : World) (m : Mo) (hm : m.inn w) : Calls Try.prog 11 #[.agg m.cells] w (SaysIf w w.heap.size m.short17) := by
 have HIN := Lib.hid hm
 obtain ⟨N,hN⟩ : ∃ N,w.heap.size = N := ⟨_,rfl⟩
 obtain ⟨W1,hW1⟩ : ∃ W1,w.alloc (.cells m.cells 25) = W1 := ⟨_,rfl⟩
 have hb1 : Below N w W1 := by rw [← hW1,← hN]; exact (Below.refl _ _).alloc (Nat.le_refl _) _
 have q1 : W1.heap[N]? = some (.cells m.cells 25 (0,0)) := by rw [← hW1,← hN]; exact alloc_at _ _
 have hm1 := hm.below (by rw [hN]; exact hb1)
 have c0 : W1.cell? ⟨N,0,none⟩ = some (.slice m.sA m.ss.length m.sC) := by rw [cell_of_row _ _ _ _ _ _ q1]; rfl
 have c1 : W1.cell? ⟨N,1,none⟩ = some (.slice m.fA m.fs.length m.fC) := by rw [cell_of_row _ _ _ _ _ _ q1]; rfl
 have HLI := Lib.hid (light12_calls W1 m hm1)
 simp only [Mo.cells] at HLI
 have HFN : Hid (∀ j,j < m.fs.length → ∃ (fb fo : Nat) (g : Fn),m.fA = some ⟨fb,fo,none⟩ ∧ m.fs[j]? = some g ∧ g.c.nvars ≤ maxLen ∧ W1.cell? ⟨fb,fo + j * 8 + 2,none⟩ = some (.slice g.c.varsA g.c.nvars g.c.varsC)) := by
  intro j hj
  obtain ⟨fb,fo,hA,hb,hc⟩ := hm1.frow (by intro e; rw [e] at hj; simp at hj)
  obtain ⟨g,hg⟩ : ∃ g,m.fs[j]? = some g := ⟨_,List.getElem?_eq_getElem hj⟩
  have hgi := hm1.fin g (List.mem_of_getElem? hg)
  exact ⟨fb,fo,g,hA,hg,hgi.code.nvars,hc j g hg 2 _ rfl⟩
 have hW1' := hW1
 simp only [Mo.cells] at hW1'
 have HW1 := Lib.hid hW1'
 have HB1 := Lib.hid hb1
 have hnf := hm.nf
 simp only [Mo.cells]
 clear hm hm1 q1 hW1 hW1' hb1
 go_enter Try.func11,Try.ntmps11
 go_upto_region 1 with (fail)
 rw [HW1.out]
 go_wp2_with fail
 go_loop [3,4] (fun z c => ∃ (j : Nat) (s : Int),j ≤ 20 ∧ c = .int .i64 (j : Int) ∧ z = .int .i64 s) (fun _ c => 20 - (intOf c).toNat)
 case atStart => exact ⟨0,0,Nat.zero_le _,rfl,rfl⟩
 case round =>
  obtain ⟨j,s,hj,rfl,rfl⟩ := hrel
  by_cases hjl : j < m.fs.length
  ·by_cases hj20 : j < 20
   ·have hjI : (j : Int) < (m.fs.length : Int) := by omega
    obtain ⟨fb,fo,g,hA,hg,hgl,hc⟩ := HFN.out j hjl
    rw [hA] at c1
    have hd1 : decide (j < m.fs.length) = true := decide_eq_true hjl
    have hd2 : decide ((j : Int) < 20) = true := decide_eq_true (by omega)
    unfold maxLen at hgl
    clear hA hg
    go_wp2
    go_round
    case rel => exact ⟨j + 1,_,by omega,by go_num,rfl⟩
    case measure => simp [intOf]; omega
   ·have hd1 : decide (j < m.fs.length) = true := decide_eq_true hjl
    have hd2 : decide ((j : Int) < 20) = false := decide_eq_false (by omega)
    by_cases h200 : s ≤ 200
    ·have hd4 : decide (s ≤ 200) = true := decide_eq_true (by omega)
     go_wp2_with (go_at_call 41; refine HLI.out.mono ?_; rintro e w2 ⟨b,rfl,hb,hb2⟩; have HBB := Lib.hid hb; have HB2 := Lib.hid hb2; clear hb hb2)
     go_ret
     exact ⟨b,by cases b <;> rfl,fun hb => HBB.out hb,by first | exact HB1.out.trans (HB2.out.mono (by have := HB1.out.size; omega)) | (rw [hN]; exact HB1.out.trans (HB2.out.mono (by have := HB1.out.size; omega)))⟩
    ·have hd4 : decide (s ≤ 200) = false := decide_eq_false (by omega)
     go_wp2
     go_ret
     exact ⟨false,rfl,(fun h => by cases h),by first | exact HB1.out | (rw [hN]; exact HB1.out)⟩
  ·have hd1 : decide (j < m.fs.length) = false := decide_eq_false hjl
   skip
   by_cases h200 : s ≤ 200
   ·have hd4 : decide (s ≤ 200) = true := decide_eq_true (by omega)
    go_wp2_with (go_at_call 41; refine HLI.out.mono ?_; rintro e w2 ⟨b,rfl,hb,hb2⟩; have HBB := Lib.hid hb; have HB2 := Lib.hid hb2; clear hb hb2)
    go_ret
    exact ⟨b,by cases b <;> rfl,fun hb => HBB.out hb,by first | exact HB1.out.trans (HB2.out.mono (by have := HB1.out.size; omega)) | (rw [hN]; exact HB1.out.trans (HB2.out.mono (by have := HB1.out.size; omega)))⟩
   ·have hd4 : decide (s ≤ 200) = false := decide_eq_false (by omega)
    go_wp2
    go_ret
    exact ⟨false,rfl,(fun h => by cases h),by first | exact HB1.out | (rw [hN]; exact HB1.out)⟩
end Go.Proofs.Ytlggjbopfnndbaa
namespace Go.Proofs.Ytlggjbopfnndbaa
open Go.RowKit
set_option maxRecDepth 100000 in
set_option maxHeartbeats 8000000 in
theorem refSameI_calls (w : World) (md : Ins → List Int) (a b : Ins) (ha : a.args_in w) (hb : b.args_in w) (hma : ModeAt w md a) (hmb : ModeAt w md b) (h1 : a.args.length ≤ 90000) (h2 : (md a).length ≤ 90000) :
  Calls Try.prog 75 #[.agg a.cells,.agg b.cells] w fun e w' => e = .returned (.bool (sameI md a b)) ∧ Below w.heap.size w w' := by
 obtain ⟨R,hR⟩ : ∃ R,sameI md a b = R := ⟨_,rfl⟩
 rw [hR]
 have HR := Lib.hid hR
 unfold sameI at hR
 obtain ⟨_,aoA,capA,eA,rA⟩ := ha
 obtain ⟨_,aoB,capB,eB,rB⟩ := hb
 obtain ⟨moA,mcA,fA,sA⟩ := hma
 obtain ⟨moB,mcB,fB,sB⟩ := hmb
 have HEQ : Hid (∀ W,Below w.heap.size w W → Calls Try.prog 18 #[.slice aoA a.args.length capA,.slice aoB b.args.length capB] W fun e w' => e = .returned (.bool (eqI a.args b.args)) ∧ Below W.heap.size W w') := fun W hW =>
  refNums_calls W aoA aoB capA capB a.args b.args (by unfold maxLen; omega) (rA.at_.below hW) (rB.at_.below hW)
 have HEM : Hid (∀ W,Below w.heap.size w W → Calls Try.prog 18 #[.slice moA (md a).length mcA,.slice moB (md b).length mcB] W fun e w' => e = .returned (.bool (eqI (md a) (md b))) ∧ Below W.heap.size W w') := fun W hW =>
  refNums_calls W moA moB mcA mcB (md a) (md b) (by unfold maxLen; omega) (sA.at_.below hW) (sB.at_.below hW)
 clear rA rB sA sB h1 h2
 obtain ⟨la,hla⟩ : ∃ la,md a = la := ⟨_,rfl⟩
 obtain ⟨lb,hlb⟩ : ∃ lb,md b = lb := ⟨_,rfl⟩
 rw [hla,hlb] at HEM hR
 rw [hla] at fA
 rw [hlb] at fB
 clear hla hlb HR
 obtain ⟨op,d,x,y,f,n,sign,argsV,modeV,tgt,els,ln,cl,args⟩ := a
 obtain ⟨op2,d2,x2,y2,f2,n2,sign2,argsV2,modeV2,tgt2,els2,ln2,cl2,args2⟩ := b
 simp only at eA eB fA fB hR HEQ HEM
 subst eA eB fA fB
 simp only [Ins.cells]
 have HR := Lib.hid hR
 clear hR
 have hbx : Below w.heap.size w ((w.alloc (.cells #[.int .i64 op,.int .i64 d,.int .i64 x,.int .i64 y,.int .i64 f,.int .i64 n,.string sign,.slice aoA args.length capA,.slice moA la.length mcA,.int .i64 tgt,.int .i64 els,.int .i64 ln,.int .i64 cl] 62)).alloc (.cells #[.int .i64 op2,.int .i64 d2,.int .i64 x2,.int .i64 y2,.int .i64 f2,.int .i64 n2,.string sign2,.slice aoB args2.length capB,.slice moB lb.length mcB,.int .i64 tgt2,.int .i64 els2,.int .i64 ln2,.int .i64 cl2] 62)) := ((Below.refl _ _).alloc (Nat.le_refl _) _).alloc (by simp) _
 have HBX := Lib.hid hbx
 clear hbx
 by_cases k0 : op = op2
 rotate_left
 ·have HRR : Hid (R = false) := by unfold Hid; rw [← HR.out]; simp [k0]
  clear HEQ HEM HR
  go_enter Try.func75,Try.ntmps75
  go_wp2
  go_ret
  rw [HRR.out]
  exact ⟨rfl,HBX.out⟩
 subst k0
 by_cases k1 : d = d2
 rotate_left
 ·have HRR : Hid (R = false) := by unfold Hid; rw [← HR.out]; simp [k1]
  clear HEQ HEM HR
  go_enter Try.func75,Try.ntmps75
  go_wp2
  go_ret
  rw [HRR.out]
  exact ⟨rfl,HBX.out⟩
 subst k1
 by_cases k2 : x = x2
 rotate_left
 ·have HRR : Hid (R = false) := by unfold Hid; rw [← HR.out]; simp [k2]
  clear HEQ HEM HR
  go_enter Try.func75,Try.ntmps75
  go_wp2
  go_ret
  rw [HRR.out]
  exact ⟨rfl,HBX.out⟩
 subst k2
 by_cases k3 : y = y2
 rotate_left
 ·have HRR : Hid (R = false) := by unfold Hid; rw [← HR.out]; simp [k3]
  clear HEQ HEM HR
  go_enter Try.func75,Try.ntmps75
  go_wp2
  go_ret
  rw [HRR.out]
  exact ⟨rfl,HBX.out⟩
 subst k3
 by_cases k4 : f = f2
 rotate_left
 ·have HRR : Hid (R = false) := by unfold Hid; rw [← HR.out]; simp [k4]
  clear HEQ HEM HR
  go_enter Try.func75,Try.ntmps75
  go_wp2
  go_ret
  rw [HRR.out]
  exact ⟨rfl,HBX.out⟩
 subst k4
 by_cases k5 : n = n2
 rotate_left
 ·have HRR : Hid (R = false) := by unfold Hid; rw [← HR.out]; simp [k5]
  clear HEQ HEM HR
  go_enter Try.func75,Try.ntmps75
  go_wp2
  go_ret
  rw [HRR.out]
  exact ⟨rfl,HBX.out⟩
 subst k5
 by_cases k6 : sign = sign2
 rotate_left
 ·have HRR : Hid (R = false) := by unfold Hid; rw [← HR.out]; simp [k6]
  have k6 : ¬ (sign.toList = sign2.toList) := fun e => k6 (eq_of_beq (by rw [beq_toListBytes,e]; simp))
  clear HEQ HEM HR
  go_enter Try.func75,Try.ntmps75
  go_wp2
  go_ret
  rw [HRR.out]
  exact ⟨rfl,HBX.out⟩
 subst k6
 by_cases k7 : tgt = tgt2
 rotate_left
 ·have HRR : Hid (R = false) := by unfold Hid; rw [← HR.out]; simp [k7]
  clear HEQ HEM HR
  go_enter Try.func75,Try.ntmps75
  go_wp2
  go_ret
  rw [HRR.out]
  exact ⟨rfl,HBX.out⟩
 subst k7
 by_cases k8 : els = els2
 rotate_left
 ·have HRR : Hid (R = false) := by unfold Hid; rw [← HR.out]; simp [k8]
  clear HEQ HEM HR
  go_enter Try.func75,Try.ntmps75
  go_wp2
  go_ret
  rw [HRR.out]
  exact ⟨rfl,HBX.out⟩
 subst k8
 obtain ⟨r1,hr1⟩ : ∃ r,eqI args args2 = r := ⟨_,rfl⟩
 obtain ⟨r2,hr2⟩ : ∃ r,eqI la lb = r := ⟨_,rfl⟩
 rw [hr1] at HEQ
 rw [hr2] at HEM
 have HRR : Hid (R = (r1 && r2)) := by unfold Hid; rw [← HR.out,hr1,hr2]; simp
 clear hr1 hr2 HR
 cases r1 with
 | false =>
  go_enter Try.func75,Try.ntmps75
  go_wp2_with (go_at_call 18; refine (HEQ.out _ HBX.out).mono ?_; rintro e w2 ⟨rfl,hb2⟩; have HB2 := Lib.hid (HBX.out.trans (hb2.mono HBX.out.size)); clear hb2)
  go_ret
  rw [HRR.out]
  exact ⟨rfl,HB2.out⟩
 | true =>
  obtain ⟨N,hN⟩ : ∃ N,w.heap.size = N := ⟨_,rfl⟩
  obtain ⟨W1,hW1⟩ : ∃ W1,W1 = ((w.alloc (.cells #[.int .i64 op,.int .i64 d,.int .i64 x,.int .i64 y,.int .i64 f,.int .i64 n,.string sign,.slice aoA args.length capA,.slice moA la.length mcA,.int .i64 tgt,.int .i64 els,.int .i64 ln,.int .i64 cl] 62)).alloc (.cells #[.int .i64 op,.int .i64 d,.int .i64 x,.int .i64 y,.int .i64 f,.int .i64 n,.string sign,.slice aoB args2.length capB,.slice moB lb.length mcB,.int .i64 tgt,.int .i64 els,.int .i64 ln2,.int .i64 cl2] 62)) := ⟨_,rfl⟩
  have c1 : W1.cell? ⟨N,8,none⟩ = some (.slice moA la.length mcA) := by
   rw [hW1,World.cell?_alloc_lt _ _ _ (by simp; omega),← hN]
   have := cells_new w [.int .i64 op,.int .i64 d,.int .i64 x,.int .i64 y,.int .i64 f,.int .i64 n,.string sign,.slice aoA args.length capA,.slice moA la.length mcA,.int .i64 tgt,.int .i64 els,.int .i64 ln,.int .i64 cl] 62 8 _ rfl
   rw [Addr.add_lit] at this
   simp
  have c2 : W1.cell? ⟨N + 1,8,none⟩ = some (.slice moB lb.length mcB) := by
   rw [hW1]
   have := cells_new (w.alloc (.cells #[.int .i64 op,.int .i64 d,.int .i64 x,.int .i64 y,.int .i64 f,.int .i64 n,.string sign,.slice aoA args.length capA,.slice moA la.length mcA,.int .i64 tgt,.int .i64 els,.int .i64 ln,.int .i64 cl] 62)) [.int .i64 op,.int .i64 d,.int .i64 x,.int .i64 y,.int .i64 f,.int .i64 n,.string sign,.slice aoB args2.length capB,.slice moB lb.length mcB,.int .i64 tgt,.int .i64 els,.int .i64 ln2,.int .i64 cl2] 62 8 _ rfl
   rw [Addr.add_lit,World.size_alloc,hN] at this
   simp at this ⊢
   exact this
  have hs1 : W1.heap.size = N + 2 := by rw [hW1]; simp [hN]
  have HW1 := Lib.hid hW1
  have HN := Lib.hid hN
  rw [← hW1] at HBX
  clear hW1
  go_enter Try.func75,Try.ntmps75
  go_wp2_with (first
   | (go_at_call 18; rw [← HW1.out]; refine (HEQ.out _ HBX.out).mono ?_; rintro e w2 ⟨rfl,hb2⟩; have d1 := (hb2.cell (p := ⟨N,8,none⟩) (by show N < _; omega)).trans c1; have d2 := (hb2.cell (p := ⟨N + 1,8,none⟩) (by show N + 1 < _; omega)).trans c2; have HB2 := Lib.hid (HBX.out.trans (hb2.mono HBX.out.size)); clear hb2 HEQ)
   | (go_at_call 18; refine (HEM.out _ HB2.out).mono ?_; rintro e w3 ⟨rfl,hb3⟩; have HB3 := Lib.hid (HB2.out.trans (hb3.mono HB2.out.size)); clear hb3))
  go_ret
  rw [HRR.out]
  exact ⟨rfl,HB3.out⟩
end Go.Proofs.Ytlggjbopfnndbaa
namespace Go.Proofs.Ytlggjbopfnndbaa
open Go.RowKit
theorem quiet_load_bw {P : Program} {W : World} {o : Oper} {a : Act} {K : Act → Prop} (ty : TypeId) (x : Operand) (ho : o.op = .load ty x)
  (ad : Addr) (hx : a.eval x = .pointer (some ad)) (cs : Array Value) (d : TypeDesc) (hcells : ∀ (p : BW W) (j : Nat) (u : Value),cs.toList[j]? = some u → p.w.cell? (ad.add j) = some u)
  (hu : P.underlying ty = some d) (hd : (match d with | .struct _ | .array _ _ => true | _ => false) = true) (hi : (P.info? ty).map (·.size) = some cs.size)
  (hk : K (a.put o.dst (.agg cs))) : o.quiet P a (fun w' => ∃ p : BW W,w' = p.w) K := by
 refine ⟨_,fun w hw => ?_,hk⟩
 obtain ⟨p,rfl⟩ := hw
 unfold Oper.quietAt execOp
 simp only [ho,hx,Instr.loadAt,Instr.sureAddr,Sem.run_bind,Sem.run_pure,Result.andThen_ok,run_loadVar_at p.w ad ty cs d (hcells p) hu hd hi]
 exact ⟨rfl,rfl⟩
end Go.Proofs.Ytlggjbopfnndbaa
