import Derived.Test.YtlggjbopfnndbaaRewR
import Derived.Test.YtlggjbopfnndbaaG61
namespace Go.Proofs.Ytlggjbopfnndbaa
open Go.RowKit
def ownOne (x : Int) : Int := if x = 1 then 1 else 0
def lentOne (x : Int) : Int := if x = 2 ∨ x = 3 then 1 else 0
def sumI (f : Int → Int) : List Int → Int
 | [] => 0
 | x :: r => f x + sumI f r
def sumL (f : Int → Int) : List (List Int) → Int
 | [] => 0
 | l :: r => sumI f l + sumL f r
def sumF (f : Int → Int) : List Fn → Int
 | [] => 0
 | g :: r => sumL f g.mds + sumF f r
theorem sumI_snoc (f : Int → Int) (x : Int) : ∀ l : List Int,sumI f (l ++ [x]) = sumI f l + f x
 | [] => by simp [sumI]
 | y :: r => by rw [List.cons_append,sumI,sumI,sumI_snoc f x r]; omega
theorem sumL_snoc (f : Int → Int) (x : List Int) : ∀ l : List (List Int),sumL f (l ++ [x]) = sumL f l + sumI f x
 | [] => by simp [sumL]
 | y :: r => by rw [List.cons_append,sumL,sumL,sumL_snoc f x r]; omega
theorem sumF_snoc (f : Int → Int) (x : Fn) : ∀ l : List Fn,sumF f (l ++ [x]) = sumF f l + sumL f x.mds
 | [] => by simp [sumF]
 | y :: r => by rw [List.cons_append,sumF,sumF,sumF_snoc f x r]; omega
theorem sumI_le {f : Int → Int} (h : ∀ x,0 ≤ f x ∧ f x ≤ 1) : ∀ l : List Int,0 ≤ sumI f l ∧ sumI f l ≤ l.length
 | [] => by simp [sumI]
 | x :: r => by have := sumI_le h r; have := h x; simp only [sumI,List.length_cons]; omega
theorem sumL_le {f : Int → Int} (h : ∀ x,0 ≤ f x ∧ f x ≤ 1) : ∀ l : List (List Int),(∀ x ∈ l,x.length ≤ 400) → 0 ≤ sumL f l ∧ sumL f l ≤ l.length * 400
 | [],_ => by simp [sumL]
 | x :: r,hl => by
  have h1 := sumL_le h r (fun y hy => hl y (by simp [hy]))
  have h2 := sumI_le h x
  have h3 := hl x (by simp)
  simp only [sumL,List.length_cons]; omega
theorem sumF_le {f : Int → Int} (h : ∀ x,0 ≤ f x ∧ f x ≤ 1) : ∀ l : List Fn,(∀ g ∈ l,g.mds.length ≤ 3000 ∧ ∀ x ∈ g.mds,x.length ≤ 400) → 0 ≤ sumF f l ∧ sumF f l ≤ l.length * 1200000
 | [],_ => by simp [sumF]
 | x :: r,hl => by
  have h1 := sumF_le h r (fun y hy => hl y (by simp [hy]))
  have h3 := hl x (by simp)
  have h2 := sumL_le h x.mds h3.2
  simp only [sumF,List.length_cons]; omega
theorem ownOne_b (x : Int) : 0 ≤ ownOne x ∧ ownOne x ≤ 1 := by unfold ownOne; split <;> omega
theorem lentOne_b (x : Int) : 0 ≤ lentOne x ∧ lentOne x ≤ 1 := by unfold lentOne; split <;> omega
def MovC (A : Nat) (a b : Int) (w : World) : Prop := w.heap[A]? = some (.cells #[.int .i64 a] 3 (0,0)) ∧ w.heap[A + 1]? = some (.cells #[.int .i64 b] 3 (0,0))
def CountP (A : Nat) (a b x : Int) (w : World) (e : Ending) (w' : World) : Prop := e = .returned (.tuple #[]) ∧ MovC A (a + ownOne x) (b + lentOne x) w' ∧ Ext (fun k => k = A ∨ k = A + 1) w w'
set_option maxRecDepth 100000 in
set_option maxHeartbeats 2000000 in
theorem count_calls (w : World) (A : Nat) (a b x : Int) (h : MovC A a b w) (ha : 0 ≤ a ∧ a ≤ 1000000000) (hb : 0 ≤ b ∧ b ≤ 1000000000) :
  Calls Try.prog 49 #[.int .i64 x,.pointer (some ⟨A,0,none⟩),.pointer (some ⟨A + 1,0,none⟩)] w (CountP A a b x w) := by
 obtain ⟨h1,h2⟩ := h
 have c1 : w.cell? ⟨A,0,none⟩ = some (.int .i64 a) := (cell_of_row _ _ _ _ _ _ h1).trans rfl
 have f1 : w.frozen? ⟨A,0,none⟩ = false := frozen_of_row _ _ _ _ _ h1
 have c2 : w.cell? ⟨A + 1,0,none⟩ = some (.int .i64 b) := (cell_of_row _ _ _ _ _ _ h2).trans rfl
 have f2 : w.frozen? ⟨A + 1,0,none⟩ = false := frozen_of_row _ _ _ _ _ h2
 obtain ⟨a0,a1⟩ := ha
 obtain ⟨b0,b1⟩ := hb
 have HA : Hid (∀ z,MovC A z b (w.setCell ⟨A,0,none⟩ (.int .i64 z)) ∧ Ext (fun k => k = A ∨ k = A + 1) w (w.setCell ⟨A,0,none⟩ (.int .i64 z))) := by
  intro z
  have hx : Ext (· = A) w (w.setCell ⟨A,0,none⟩ (.int .i64 z)) := Ext.set1 _ _ _ _
  have h3 := heap_setCell_same w A 0 _ _ (.int .i64 z) h1
  exact ⟨⟨by simpa using h3,hx.heap h2 (by omega)⟩,hx.mono (fun k hk => .inl hk)⟩
 have HB : Hid (∀ z,MovC A a z (w.setCell ⟨A + 1,0,none⟩ (.int .i64 z)) ∧ Ext (fun k => k = A ∨ k = A + 1) w (w.setCell ⟨A + 1,0,none⟩ (.int .i64 z))) := by
  intro z
  have hx : Ext (· = A + 1) w (w.setCell ⟨A + 1,0,none⟩ (.int .i64 z)) := Ext.set1 _ _ _ _
  have h3 := heap_setCell_same w (A + 1) 0 _ _ (.int .i64 z) h2
  exact ⟨⟨hx.heap h1 (by omega),by simpa using h3⟩,hx.mono (fun k hk => .inr hk)⟩
 have H0 : Hid (MovC A a b w) := ⟨h1,h2⟩
 clear h1 h2
 by_cases e1 : x = 1
 ·have HP : Hid (CountP A a b x w (.returned (.tuple #[])) (w.setCell ⟨A,0,none⟩ (.int .i64 (a + 1)))) := by
   refine ⟨rfl,?_,(HA.out _).2⟩
   have := (HA.out (a + 1)).1
   unfold ownOne lentOne; rw [if_pos e1,if_neg (by omega),Int.add_zero]; exact this
  subst e1
  go_enter Try.func49,Try.ntmps49
  go_wp2
  go_end0
  exact HP.out
 by_cases e2 : x = 2
 ·have HP : Hid (CountP A a b x w (.returned (.tuple #[])) (w.setCell ⟨A + 1,0,none⟩ (.int .i64 (b + 1)))) := by
   refine ⟨rfl,?_,(HB.out _).2⟩
   have := (HB.out (b + 1)).1
   unfold ownOne lentOne; rw [if_neg e1,if_pos (.inl e2),Int.add_zero]; exact this
  subst e2
  clear e1
  go_enter Try.func49,Try.ntmps49
  go_wp2
  go_end0
  exact HP.out
 by_cases e3 : x = 3
 ·have HP : Hid (CountP A a b x w (.returned (.tuple #[])) (w.setCell ⟨A + 1,0,none⟩ (.int .i64 (b + 1)))) := by
   refine ⟨rfl,?_,(HB.out _).2⟩
   have := (HB.out (b + 1)).1
   unfold ownOne lentOne; rw [if_neg e1,if_pos (.inr e3),Int.add_zero]; exact this
  subst e3
  clear e1 e2
  go_enter Try.func49,Try.ntmps49
  go_wp2
  go_end0
  exact HP.out
 have HP : Hid (CountP A a b x w (.returned (.tuple #[])) w) := by
  refine ⟨rfl,?_,Ext.refl _ _⟩
  unfold ownOne lentOne; rw [if_neg e1,if_neg (by omega),Int.add_zero,Int.add_zero]; exact H0.out
 have d1 : (x == 1) = false := by rw [beq_eq_false_iff_ne]; exact e1
 have d2 : (x == 2) = false := by rw [beq_eq_false_iff_ne]; exact e2
 have d3 : (x == 3) = false := by rw [beq_eq_false_iff_ne]; exact e3
 clear e1 e2 e3
 go_enter Try.func49,Try.ntmps49
 go_wp2
 go_end0
 exact HP.out
theorem moves_results (tmps : Array Value) (w : World) (A : Nat) (u v : Value) (ht : tmps[2]? = some (.pointer (some ⟨A,0,none⟩))) (h3 : tmps[3]? = some (.pointer (some ⟨A + 1,0,none⟩))) (hc : w.cell? ⟨A,0,none⟩ = some u) (hc2 : w.cell? ⟨A + 1,0,none⟩ = some v) :
  (results Try.f15 tmps).run Try.prog w = .ok (.tuple #[u,v]) w := by
 have h : Try.f15.results = #[.cell 2 3,.cell 3 3] := rfl
 have hu : Try.prog.underlying 3 = _ := Try.underlying3
 simp [results,go_sem,ht,h3,hc,hc2]
def MovI (A : Nat) (W3 : World) (a b : Int) (wr : World) : Prop := MovC A a b wr ∧ Ext (fun k => k = A ∨ k = A + 1) W3 wr
set_option maxRecDepth 100000 in
set_option maxHeartbeats 8000000 in
theorem moves_calls (w : World) (m : Mo) (hm : m.inn w) (hf : m.fs.length ≤ 90) (hl : ∀ g ∈ m.fs,g.mds.length ≤ 3000 ∧ ∀ x ∈ g.mds,x.length ≤ 400) :
  Calls Try.prog 15 #[.agg m.cells] w fun e w' => e = .returned (.tuple #[.int .i64 (sumF ownOne m.fs),.int .i64 (sumF lentOne m.fs)]) ∧ Below w.heap.size w w' := by
 obtain ⟨N,hN⟩ : ∃ N,w.heap.size = N := ⟨_,rfl⟩
 obtain ⟨W3,hW3⟩ : ∃ W3,((w.alloc (.cells m.cells 25)).alloc (.cells #[.int .i64 0] 3)).alloc (.cells #[.int .i64 0] 3) = W3 := ⟨_,rfl⟩
 have hb3 : Below N w W3 := by rw [← hW3,← hN]; exact (((Below.refl _ _).alloc (Nat.le_refl _) _).alloc (by simp) _).alloc (by simp; omega) _
 have hs3 : W3.heap.size = N + 3 := by rw [← hW3]; simp [hN]
 have hr1 : W3.heap[N]? = some (.cells m.cells 25 (0,0)) := by
  rw [← hW3,Below.heap_alloc _ _ _ (by simp; omega),← hN]; exact heap_alloc2_old _ _ _
 have hr2 : W3.heap[N + 1]? = some (.cells #[.int .i64 0] 3 (0,0)) := by
  rw [← hW3,Below.heap_alloc _ _ _ (by simp; omega),← hN]; exact heap_alloc2_new _ _ _
 have hr3 : W3.heap[N + 1 + 1]? = some (.cells #[.int .i64 0] 3 (0,0)) := by
  rw [← hW3,← hN]
  have := alloc_at ((w.alloc (.cells m.cells 25)).alloc (.cells #[.int .i64 0] 3)) (.cells #[.int .i64 0] 3)
  rw [World.size_alloc,World.size_alloc] at this
  exact this
 have c1 : W3.cell? ⟨N,1,none⟩ = some (.slice m.fA m.fs.length m.fC) := by rw [cell_of_row _ _ _ _ _ _ hr1]; rfl
 have HM : Hid (∀ W,Ext (fun k => k = N + 1 ∨ k = N + 1 + 1) W3 W → m.inn W ∧ Below N w W) := by
  intro W hW
  have h1 := hb3.trans (hW.below (by omega) (fun k hk => by omega))
  exact ⟨hm.below (by rw [hN]; exact h1),h1⟩
 obtain ⟨SO,hSO⟩ : ∃ s,sumF ownOne m.fs = s := ⟨_,rfl⟩
 obtain ⟨SL,hSL⟩ : ∃ s,sumF lentOne m.fs = s := ⟨_,rfl⟩
 have HSO := Lib.hid hSO
 have HSL := Lib.hid hSL
 rw [hSO,hSL]
 have H0 : Hid (MovI (N + 1) W3 0 0 W3) := ⟨⟨hr2,hr3⟩,Ext.refl _ _⟩
 have HLN := Lib.hid hl
 have HNN := Lib.hid hN
 have hW3' := hW3
 simp only [Mo.cells] at hW3'
 have HW3 := Lib.hid hW3'
 simp only [Mo.cells]
 have HLB : Hid (∀ j,(∀ g ∈ m.fs.take j,g.mds.length ≤ 3000 ∧ ∀ x ∈ g.mds,x.length ≤ 400) ∧ (m.fs.take j).length ≤ 90) := fun j => ⟨fun g hg => hl g (List.mem_of_mem_take hg),by rw [List.length_take]; omega⟩
 clear hm hl hb3 hs3 hr1 hr2 hr3 hW3 hW3' hSO hSL
 go_enter Try.func15,Try.ntmps15
 go_upto_region 1 with (fail)
 rw [HW3.out]
 go_wp2_with fail
 clear c1
 go_loopw [15] (fun c wr => ∃ j : Nat,j ≤ m.fs.length ∧ c = .int .i64 (j : Int) ∧ MovI (N + 1) W3 (sumF ownOne (m.fs.take j)) (sumF lentOne (m.fs.take j)) wr) (fun c _ => m.fs.length - (intOf c).toNat)
 case atStart => exact ⟨0,Nat.zero_le _,rfl,H0.out⟩
 case round =>
  obtain ⟨j,hj,rfl,hmv,hx⟩ := hrel
  by_cases hjl : j < m.fs.length
  ·have hjI : (j : Int) < (m.fs.length : Int) := by omega
   obtain ⟨g,hg⟩ : ∃ g,m.fs[j]? = some g := ⟨_,List.getElem?_eq_getElem hjl⟩
   have hgm := List.mem_of_getElem? hg
   obtain ⟨hmi,_⟩ := HM.out wr hx
   obtain ⟨fb,fo,hfA,hfb,hfc⟩ := hmi.frow (by intro e; rw [e] at hjl; simp at hjl)
   have HCA : Hid (∀ k u,g.cells.toList[k]? = some u → wr.cell? ((⟨fb,fo + j * 8,none⟩ : Addr).add k) = some u) := fun k u hu => by rw [Addr.add_lit]; exact hfc j g hg k u hu
   have hil : g.c.ins.length ≤ 3000 := by rw [← (hmi.fin g hgm).nmds]; exact (HLN.out g hgm).1
   obtain ⟨N4,hN4⟩ : ∃ N,wr.heap.size = N := ⟨_,rfl⟩
   have hst : ∀ c : Array Value,c.size = 8 → (storeCells ⟨wr.heap.size,0,none⟩ g.cells.toList).run Try.prog (wr.alloc (.cells c 50)) = .ok () (wr.alloc (.cells g.cells 50)) := fun c hc =>
    run_storeCells_new (P := Try.prog) wr 50 c g.cells (by show _ = some 8; kernel_rfl) hc (fnOne g)
   obtain ⟨W4,hW4⟩ : ∃ W4,wr.alloc (.cells g.cells 50) = W4 := ⟨_,rfl⟩
   rw [hW4,hN4] at hst
   have hx4 : Ext (fun _ => False) wr W4 := by rw [← hW4]; exact (Ext.refl _ _).alloc _
   have hr4 : W4.heap[N4]? = some (.cells g.cells 50 (0,0)) := by rw [← hW4,← hN4]; exact alloc_at _ _
   have e7 : W4.cell? ⟨N4,7,none⟩ = some (.slice g.c.insA g.c.ins.length g.c.insC) := by rw [cell_of_row _ _ _ _ _ _ hr4]; rfl
   have HST : Hid (MovI (N + 1) W3 (sumF ownOne (m.fs.take j) + sumL ownOne (g.mds.take 0)) (sumF lentOne (m.fs.take j) + sumL lentOne (g.mds.take 0)) W4) := by
    refine ⟨⟨?_,?_⟩,hx.trans hx4 (fun _ h => h.elim)⟩
    ·simp only [List.take_zero,sumL,Int.add_zero]; exact hx4.heap hmv.1 (fun h => h)
    ·simp only [List.take_zero,sumL,Int.add_zero]; exact hx4.heap hmv.2 (fun h => h)
   have HGG := Lib.hid hg
   have hga : 0 ≤ sumF ownOne (m.fs.take j) ∧ sumF ownOne (m.fs.take j) ≤ 108000000 := by have := sumF_le ownOne_b _ (HLB.out j).1; have := (HLB.out j).2; omega
   have hgb : 0 ≤ sumF lentOne (m.fs.take j) ∧ sumF lentOne (m.fs.take j) ≤ 108000000 := by have := sumF_le lentOne_b _ (HLB.out j).1; have := (HLB.out j).2; omega
   have HGA := Lib.hid hga
   have HGB := Lib.hid hgb
   clear hg hmi hfc hW4 hx4 hr4 hmv hx hga hgb
   rw [hfA]
   go_upto_region 5 with (first | (refine wpList_load_at rfl 50 _ rfl ⟨fb,fo + j * 8,none⟩ rfl g.cells _ HCA.out Try.underlying50 rfl (by kernel_rfl) ?_))
   clear hst
   go_wp2_with fail
   clear e7 HCA
   go_loopw [22] (fun c wq => ∃ k : Nat,k ≤ g.c.ins.length ∧ c = .int .i64 (k : Int) ∧ MovI (N + 1) W3 (sumF ownOne (m.fs.take j) + sumL ownOne (g.mds.take k)) (sumF lentOne (m.fs.take j) + sumL lentOne (g.mds.take k)) wq) (fun c _ => g.c.ins.length - (intOf c).toNat)
   case atStart => exact ⟨0,Nat.zero_le _,rfl,HST.out⟩
   case round =>
    clear HST
    obtain ⟨k,hk,rfl,hmv,hx⟩ := hrel
    obtain ⟨hmi,_⟩ := HM.out wr hx
    have hgi := hmi.fin g hgm
    by_cases hkl : k < g.c.ins.length
    ·have hkI : (k : Int) < (g.c.ins.length : Int) := by omega
     obtain ⟨i,hi⟩ : ∃ i,g.c.ins[k]? = some i := ⟨_,List.getElem?_eq_getElem hkl⟩
     obtain ⟨l,hl⟩ : ∃ l,g.mds[k]? = some l := ⟨_,List.getElem?_eq_getElem (by rw [hgi.nmds]; exact hkl)⟩
     obtain ⟨mo,mc,hmo,_⟩ := hgi.mds k i l hi hl
     have HROW : Hid (∀ W,Ext (fun k => k = N + 1 ∨ k = N + 1 + 1) W3 W → IntRow W mo l) := by
      intro W hW
      obtain ⟨mo2,mc2,h1,h2⟩ := ((HM.out W hW).1.fin g hgm).mds k i l hi hl
      rw [hmo] at h1
      simp only [Value.slice.injEq] at h1
      rw [h1.1]; exact h2
     have hll := (HLN.out g hgm).2 l (List.mem_of_getElem? hl)
     obtain ⟨b2,o2,hA2,hb2,hc2⟩ := hgi.code.row (by intro e; rw [e] at hkl; simp at hkl)
     have HCB : Hid (∀ q u,i.cells.toList[q]? = some u → wr.cell? ((⟨b2,o2 + k * 13,none⟩ : Addr).add q) = some u) := fun q u hu => by rw [Addr.add_lit]; exact hc2 k i hi q u hu
     obtain ⟨⟨⟨a1,c1,e1⟩,_⟩,_⟩ := hgi.code.args i (List.mem_of_getElem? hi)
     have hone : i.cells.all (·.oneCell') = true := insOne ⟨by rw [e1]; rfl,by rw [hmo]; rfl⟩
     obtain ⟨N5,hN5⟩ : ∃ N,wr.heap.size = N := ⟨_,rfl⟩
     have hst : ∀ c : Array Value,c.size = 13 → (storeCells ⟨wr.heap.size,0,none⟩ i.cells.toList).run Try.prog (wr.alloc (.cells c 62)) = .ok () (wr.alloc (.cells i.cells 62)) := fun c hc =>
      run_storeCells_new (P := Try.prog) wr 62 c i.cells (by show _ = some 13; kernel_rfl) hc hone
     obtain ⟨W5,hW5⟩ : ∃ W5,wr.alloc (.cells i.cells 62) = W5 := ⟨_,rfl⟩
     rw [hW5,hN5] at hst
     have hx5 : Ext (fun _ => False) wr W5 := by rw [← hW5]; exact (Ext.refl _ _).alloc _
     have hr5 : W5.heap[N5]? = some (.cells i.cells 62 (0,0)) := by rw [← hW5,← hN5]; exact alloc_at _ _
     have e8 : W5.cell? ⟨N5,8,none⟩ = some (.slice mo l.length mc) := by rw [cell_of_row _ _ _ _ _ _ hr5,← hmo]; rfl
     obtain ⟨qa,hqa⟩ : ∃ q,sumF ownOne (m.fs.take j) + sumL ownOne (g.mds.take k) = q := ⟨_,rfl⟩
     obtain ⟨qb,hqb⟩ : ∃ q,sumF lentOne (m.fs.take j) + sumL lentOne (g.mds.take k) = q := ⟨_,rfl⟩
     have hmt : ∀ x ∈ g.mds.take k,x.length ≤ 400 := fun x hx => (HLN.out g hgm).2 x (List.mem_of_mem_take hx)
     have hkt : (g.mds.take k).length ≤ 3000 := by rw [List.length_take,hgi.nmds]; omega
     have hqab : 0 ≤ qa ∧ qa ≤ 110000000 := by have := sumL_le ownOne_b _ hmt; have := HGA.out; omega
     have hqbb : 0 ≤ qb ∧ qb ≤ 110000000 := by have := sumL_le lentOne_b _ hmt; have := HGB.out; omega
     have HQA := Lib.hid hqab
     have HQB := Lib.hid hqbb
     rw [hqa,hqb] at hmv
     have HST : Hid (MovI (N + 1) W3 (qa + sumI ownOne (l.take 0)) (qb + sumI lentOne (l.take 0)) W5) := by
      refine ⟨⟨?_,?_⟩,hx.trans hx5 (fun _ h => h.elim)⟩
      ·simp only [List.take_zero,sumI,Int.add_zero]; exact hx5.heap hmv.1 (fun h => h)
      ·simp only [List.take_zero,sumI,Int.add_zero]; exact hx5.heap hmv.2 (fun h => h)
     have HNX : Hid (∀ wz,MovI (N + 1) W3 (qa + sumI ownOne l) (qb + sumI lentOne l) wz → MovI (N + 1) W3 (sumF ownOne (m.fs.take j) + sumL ownOne (g.mds.take (k + 1))) (sumF lentOne (m.fs.take j) + sumL lentOne (g.mds.take (k + 1))) wz) := by
      intro wz hz
      rw [take_snocI hl,sumL_snoc,sumL_snoc,← Int.add_assoc,← Int.add_assoc,hqa,hqb]
      exact hz
     clear hi hl hgi hmi hc2 e1 hone hmo hW5 hx5 hr5 hmv hx hqa hqb hmt hkt hqab hqbb
     rw [hA2]
     go_upto_region 8 with (first | (refine wpList_load_at rfl 62 _ rfl ⟨b2,o2 + k * 13,none⟩ rfl i.cells _ HCB.out Try.underlying62 rfl (by kernel_rfl) ?_))
     clear hst
     go_wp2_with fail
     clear e8 HCB
     go_loopw [29] (fun c wz => ∃ q : Nat,q ≤ l.length ∧ c = .int .i64 (q : Int) ∧ MovI (N + 1) W3 (qa + sumI ownOne (l.take q)) (qb + sumI lentOne (l.take q)) wz) (fun c _ => l.length - (intOf c).toNat)
     case atStart => exact ⟨0,Nat.zero_le _,rfl,HST.out⟩
     case round =>
      clear HST
      obtain ⟨q,hq,rfl,hmv,hx⟩ := hrel
      by_cases hql : q < l.length
      ·have hqI : (q : Int) < (l.length : Int) := by omega
       obtain ⟨v,hv⟩ : ∃ v,l[q]? = some v := ⟨_,List.getElem?_eq_getElem hql⟩
       obtain ⟨b3,o3,hA3,hb3,hc3⟩ := HROW.out wr hx (by intro e; rw [e] at hql; simp at hql)
       have d0 := hc3 q v hv 0 _ rfl
       simp only [Nat.mul_one,Nat.add_zero] at d0
       obtain ⟨za,hza⟩ : ∃ z,qa + sumI ownOne (l.take q) = z := ⟨_,rfl⟩
       obtain ⟨zb,hzb⟩ : ∃ z,qb + sumI lentOne (l.take q) = z := ⟨_,rfl⟩
       rw [hza,hzb] at hmv
       have htl : (l.take q).length ≤ 400 := by rw [List.length_take]; omega
       have HCT := Lib.hid (count_calls wr (N + 1) za zb v hmv (by have := sumI_le ownOne_b (l.take q); have := HQA.out; omega) (by have := sumI_le lentOne_b (l.take q); have := HQB.out; omega))
       have HNX2 : Hid (∀ wz,CountP (N + 1) za zb v wr (.returned (.tuple #[])) wz → MovI (N + 1) W3 (qa + sumI ownOne (l.take (q + 1))) (qb + sumI lentOne (l.take (q + 1))) wz) := by
        rintro wz ⟨_,h1,h2⟩
        rw [take_snocI hv,sumI_snoc,sumI_snoc,← Int.add_assoc,← Int.add_assoc,hza,hzb]
        exact ⟨h1,hx.trans h2 (fun k hk => .inl hk)⟩
       clear hv hc3 hza hzb htl hmv hx
       rw [hA3]
       go_wp2_with fail
       go_at_call 49
       refine HCT.out.mono ?_
       rintro e w6 hcp
       obtain ⟨e1,h1,h2⟩ := hcp
       subst e1
       have HR := Lib.hid (HNX2.out w6 ⟨rfl,h1,h2⟩)
       clear h1 h2
       go_wp2
       go_roundw
       case rel => exact ⟨q + 1,by omega,by go_num,HR.out⟩
       case measure => simp [intOf]; omega
      ·have HR : Hid (MovI (N + 1) W3 (sumF ownOne (m.fs.take j) + sumL ownOne (g.mds.take (k + 1))) (sumF lentOne (m.fs.take j) + sumL lentOne (g.mds.take (k + 1))) wr) := HNX.out wr (by rw [List.take_of_length_le (by omega)] at hmv; exact ⟨hmv,hx⟩)
       clear hmv hx
       go_wp2
       go_roundw
       case rel => exact ⟨k + 1,by omega,by go_num,HR.out⟩
       case measure => simp [intOf]; omega
    ·have HR : Hid (MovI (N + 1) W3 (sumF ownOne (m.fs.take (j + 1))) (sumF lentOne (m.fs.take (j + 1))) wr) := by
      have e : g.mds.take k = g.mds := List.take_of_length_le (by rw [hgi.nmds]; omega)
      rw [e] at hmv
      refine ⟨?_,hx⟩
      rw [take_snocI HGG.out,sumF_snoc,sumF_snoc]
      exact hmv
     clear hmv hx hmi hgi
     go_wp2
     go_roundw
     case rel => exact ⟨j + 1,by omega,by go_num,HR.out⟩
     case measure => simp [intOf]; omega
  ·rw [List.take_of_length_le (by omega),HSO.out,HSL.out] at hmv
   obtain ⟨h1,h2⟩ := hmv
   have y0 : wr.cell? ⟨N + 1,0,none⟩ = some (.int .i64 SO) := (cell_of_row _ _ _ _ _ _ h1).trans rfl
   have y1 : wr.cell? ⟨N + 1 + 1,0,none⟩ = some (.int .i64 SL) := (cell_of_row _ _ _ _ _ _ h2).trans rfl
   have f0 : wr.frozen? ⟨N + 1,0,none⟩ = false := frozen_of_row _ _ _ _ _ h1
   have f1 : wr.frozen? ⟨N + 1 + 1,0,none⟩ = false := frozen_of_row _ _ _ _ _ h2
   have n0 : wr.setCell ⟨N + 1,0,none⟩ (.int .i64 SO) = wr := setCell_noop h1 rfl
   have n1 : wr.setCell ⟨N + 1 + 1,0,none⟩ (.int .i64 SL) = wr := setCell_noop h2 rfl
   have HB := Lib.hid (HM.out wr hx).2
   clear h1 h2 hx
   go_wp2_with fail
   go_region
   go_wp2
   exact bodyPost_ret (moves_results _ _ _ _ _ rfl rfl (by exact y0) (by exact y1)) rfl ⟨rfl,by rw [HNN.out]; exact HB.out.trans ((Below.refl _ _).drew)⟩
end Go.Proofs.Ytlggjbopfnndbaa
namespace Go.Proofs.Ytlggjbopfnndbaa
open Go.RowKit
def modeF (m : Mo) (f a : Int) : List Int :=
 if rightF m = 0 ∧ 0 ≤ f ∧ 0 ≤ a then (match m.fs[f.toNat]? with
  | some g => (match g.c.ins[a.toNat]? with
   | some i => modesF m g i
   | none => [])
  | none => []) else []
set_option maxRecDepth 100000 in
set_option maxHeartbeats 16000000 in
theorem mode_calls (m : Mo) (w : World) (hin : RightIn w m) (f a : Int) : Calls Try.prog 19 #[.agg m.cells,.int .i64 f,.int .i64 a] w (GivesI w (modeF m f a)) := by
 have HIN := Lib.hid hin
 obtain ⟨N,hN⟩ : ∃ N,w.heap.size = N := ⟨_,rfl⟩
 obtain ⟨W2,hW2⟩ : ∃ W2,w.alloc (.cells m.cells 25) = W2 := ⟨_,rfl⟩
 have hb2 : Below N w W2 := by rw [← hW2,← hN]; exact (Below.refl _ _).alloc (Nat.le_refl _) _
 have hs2 : W2.heap.size = N + 1 := by rw [← hW2]; simp [hN]
 have hr1 : W2.heap[N]? = some (.cells m.cells 25 (0,0)) := by rw [← hW2,← hN]; exact alloc_at _ _
 have hin2 := hin.below (by rw [hN]; exact hb2)
 have HRI := Lib.hid (right_calls m W2 hin2)
 have HK : Hid (∀ W,Below W2.heap.size W2 W → W.cell? ⟨N,0,none⟩ = some (.slice m.sA m.ss.length m.sC) ∧ W.cell? ⟨N,1,none⟩ = some (.slice m.fA m.fs.length m.fC) ∧ Below N w W ∧ m.inn W) := fun W hW => by
  have h1 := (hW.block N (by omega)).trans hr1
  have h2 := hb2.trans (hW.mono (by omega))
  exact ⟨by rw [cell_of_row _ _ _ _ _ _ h1]; rfl,by rw [cell_of_row _ _ _ _ _ _ h1]; rfl,h2,hin.mo.below (by rw [hN]; exact h2)⟩
 obtain ⟨c0,c1,_,_⟩ := HK.out W2 (Below.refl _ _)
 obtain ⟨L,hL⟩ : ∃ L,modeF m f a = L := ⟨_,rfl⟩
 rw [hL]
 have HNIL : Hid (∀ W,Below W2.heap.size W2 W → L = [] → GivesI w L (.returned (.slice none 0 0)) W) := by
  intro W hW e
  rw [e]
  exact ⟨none,0,rfl,OwnI.nil _ _,by rw [hN]; exact (HK.out W hW).2.2.1⟩
 have HL := Lib.hid hL
 have hW2' := hW2
 simp only [Mo.cells] at hW2' HRI
 have HW2 := Lib.hid hW2'
 have HS2 := Lib.hid hs2
 have HB2 := Lib.hid hb2
 have HN := Lib.hid hN
 simp only [Mo.cells]
 clear hin hin2 hW2 hW2' hb2 hs2 hr1 hL
 go_enter Try.func19,Try.ntmps19
 go_upto_region 1 with (fail)
 rw [HW2.out]
 go_wp2_with fail
 go_at_call 51
 refine HRI.out.mono ?_
 rintro e w3 ⟨rfl,hb3⟩
 obtain ⟨F,hF⟩ : ∃ F,rightF m = F := ⟨_,rfl⟩
 rw [hF]
 clear c0 c1
 obtain ⟨c0,c1,hbw,hmi⟩ := HK.out w3 hb3
 by_cases h0 : F = 0
 rotate_left
 ·have d0 : (F != 0) = true := by rw [bne_iff_ne]; exact h0
  have HR := Lib.hid (HNIL.out w3 hb3 (by rw [← HL.out]; unfold modeF; rw [if_neg (by rw [hF]; omega)]))
  clear hbw hmi hb3 hF h0
  go_wp2
  go_ret
  exact HR.out
 subst h0
 have d0 : ((0 : Int) != 0) = false := rfl
 by_cases h1 : f < 0
 ·have HR := Lib.hid (HNIL.out w3 hb3 (by rw [← HL.out]; unfold modeF; rw [if_neg (by omega)]))
  clear hbw hmi hb3 hF
  go_wp2
  go_ret
  exact HR.out
 obtain ⟨f,rfl⟩ : ∃ n : Nat,f = (n : Int) := ⟨f.toNat,by omega⟩
 clear h1
 by_cases h2 : f < m.fs.length
 rotate_left
 ·have h2I : (m.fs.length : Int) ≤ (f : Int) := by omega
  have HR := Lib.hid (HNIL.out w3 hb3 (by rw [← HL.out]; unfold modeF; rw [Int.toNat_natCast,List.getElem?_eq_none (by omega)]; split <;> rfl))
  clear hbw hmi hb3 hF
  go_wp2
  go_ret
  exact HR.out
 have h2I : (f : Int) < (m.fs.length : Int) := by omega
 by_cases h3 : a < 0
 ·have HR := Lib.hid (HNIL.out w3 hb3 (by rw [← HL.out]; unfold modeF; rw [if_neg (by omega)]))
  clear hbw hmi hb3 hF
  go_wp2
  go_ret
  exact HR.out
 obtain ⟨a,rfl⟩ : ∃ n : Nat,a = (n : Int) := ⟨a.toNat,by omega⟩
 clear h3
 obtain ⟨g,hg⟩ : ∃ g,m.fs[f]? = some g := ⟨_,List.getElem?_eq_getElem h2⟩
 have hgm := List.mem_of_getElem? hg
 obtain ⟨fb,fo,hfA,hfb,hfc⟩ := hmi.frow (by intro e; rw [e] at h2; simp at h2)
 have e7 := hfc f g hg 7 _ rfl
 by_cases h4 : a < g.c.ins.length
 rotate_left
 ·have h4I : (g.c.ins.length : Int) ≤ (a : Int) := by omega
  have HR := Lib.hid (HNIL.out w3 hb3 (by rw [← HL.out]; unfold modeF; rw [Int.toNat_natCast,hg,Int.toNat_natCast]; dsimp only; rw [List.getElem?_eq_none (by omega)]; split <;> rfl))
  rw [hfA] at c1 ⊢
  clear hbw hmi hb3 hF hg hfc
  go_wp2
  go_ret
  exact HR.out
 have h4I : (a : Int) < (g.c.ins.length : Int) := by omega
 obtain ⟨i,hi⟩ : ∃ i,g.c.ins[a]? = some i := ⟨_,List.getElem?_eq_getElem h4⟩
 obtain ⟨b2,o2,hA2,hb2,hc2⟩ := (hmi.fin g hgm).code.row (by intro e; rw [e] at h4; simp at h4)
 have HOK := Lib.hid (OkR.of hF)
 have HMO : Hid (∀ p : BW w3,Calls Try.prog 44 #[.agg (jg m g),.agg i.cells] p.w (GivesI p.w (modesF m g i))) := fun p =>
  modes_calls p.w m (HK.out p.w (hb3.trans (p.h.mono hb3.size))).2.2.2 HOK.out f g hg i (List.mem_of_getElem? hi)
 have HLE : Hid (modesF m g i = L) := by rw [← HL.out]; unfold modeF; rw [if_pos ⟨hF,by omega,by omega⟩,Int.toNat_natCast,hg,Int.toNat_natCast]; dsimp only; rw [hi]; exact Lib.hid rfl
 rw [HLE.out] at HMO
 have HGL : Hid (∀ (p : BW w3) (k : Nat) (u : Value),(#[.string g.c.nm,.int .i64 g.c.par,.slice g.c.varsA g.c.nvars g.c.varsC,.bool g.c.rp,.string g.c.rto,.int .i64 g.c.rcl,.slice g.c.fromA g.c.nfrom g.c.fromC,.slice g.c.insA g.c.ins.length g.c.insC] : Array Value).toList[k]? = some u → p.w.cell? ((⟨fb,fo + f * 8,none⟩ : Addr).add k) = some u) := fun p k u hu => by
  obtain ⟨fb',fo',hfA',_,hfc'⟩ := (HK.out p.w (hb3.trans (p.h.mono hb3.size))).2.2.2.frow (by intro e; rw [e] at h2; simp at h2)
  rw [hfA] at hfA'
  simp only [Option.some.injEq,Addr.mk.injEq,and_true] at hfA'
  rw [Addr.add_lit,hfA'.1,hfA'.2]; exact hfc' f g hg k u hu
 have HIL : Hid (∀ (p : BW w3) k u,i.cells.toList[k]? = some u → p.w.cell? ((⟨b2,o2 + a * 13,none⟩ : Addr).add k) = some u) := fun p k u hu => by
  obtain ⟨fb',fo',hfA',_,hfc'⟩ := ((HK.out p.w (hb3.trans (p.h.mono hb3.size))).2.2.2.fin g hgm).code.row (by intro e; rw [e] at h4; simp at h4)
  rw [hA2] at hfA'
  simp only [Option.some.injEq,Addr.mk.injEq,and_true] at hfA'
  rw [Addr.add_lit,hfA'.1,hfA'.2]; exact hfc' a i hi k u hu
 have m0 : ∀ p : BW w3,p.w.cell? ⟨N,0,none⟩ = some (.slice m.sA m.ss.length m.sC) := fun p => (HK.out p.w (hb3.trans (p.h.mono hb3.size))).1
 have m1 : ∀ p : BW w3,p.w.cell? ⟨N,1,none⟩ = some (.slice (some ⟨fb,fo,none⟩) m.fs.length m.fC) := fun p => by rw [← hfA]; exact (HK.out p.w (hb3.trans (p.h.mono hb3.size))).2.1
 have m7 : ∀ p : BW w3,p.w.cell? ⟨fb,fo + f * 8 + 7,none⟩ = some (.slice (some ⟨b2,o2,none⟩) g.c.ins.length g.c.insC) := fun p => by
  have := HGL.out p 7 (.slice g.c.insA g.c.ins.length g.c.insC) rfl
  rw [Addr.add_lit,hA2] at this; exact this
 have HPOST : Hid (∀ (p : BW w3) e w',GivesI p.w L e w' → GivesI w L e w') := by
  rintro p e w' ⟨ao,cap,rfl,h1,h2⟩
  have hb := hb3.trans (p.h.mono hb3.size)
  refine ⟨ao,cap,rfl,h1.mono ?_,?_⟩
  ·have := hb.size; rw [HS2.out] at this; rw [HN.out]; omega
  ·rw [HN.out]; exact (HK.out p.w hb).2.2.1.trans (h2.mono (by have := hb.size; rw [HS2.out] at this; omega))
 unfold jg at HMO
 rw [hfA] at c1 HMO ⊢
 rw [hA2] at e7 HMO
 clear hmi hb3 hbw hF hg hfc hi hc2
 go_wp2_with fail
 clear e7 c0 c1
 refine wp_region_phase 16 1 rfl (by kernel_rfl) (by kernel_rfl) (by kernel_rfl) (fun w' => ∃ p : BW w3,w' = p.w) ⟨⟨w3.drew,(Below.refl _ _).drew⟩,rfl⟩ ?_
 dsimp only [List.take]
 repeat (first
  | (go_big_quiet_want; (refine quiet_load_bw 50 _ rfl ⟨fb,fo + f * 8,none⟩ rfl _ _ HGL.out Try.underlying50 rfl (by kernel_rfl) ?_); (simp only [Act.put,List.setIfInBounds_toArray,List.set_cons_zero,List.set_cons_succ]); go_big_quiet_on)
  | (go_big_quiet_want; (refine quiet_load_bw 62 _ rfl ⟨b2,o2 + a * 13,none⟩ rfl _ _ HIL.out Try.underlying62 rfl (by kernel_rfl) ?_); (simp only [Act.put,List.setIfInBounds_toArray,List.set_cons_zero,List.set_cons_succ]); go_big_quiet_on)
  | (go_big_quiet_step (fail)))
 refine wpQuiet_nil ?_
 rintro _ ⟨p,rfl⟩
 refine wpOp_step rfl fun K' hK => ?_
 rw [if_pos (by rfl)]
 go_simp
 go_at_call 44
 refine (HMO.out p).mono ?_
 intro e w4 hg4
 have HR := Lib.hid (HPOST.out p e w4 hg4)
 obtain ⟨ao,cap,rfl,_,_⟩ := hg4
 refine hK _ _ ?_
 clear hK
 try go_simp
 refine wpAny_end 17 rfl (by kernel_rfl) (by kernel_rfl) (· = w4) rfl ?_
 dsimp only [List.drop]
 repeat (go_big_quiet_step (fail))
 refine wpQuiet_nil ?_
 rintro _ rfl
 go_wp2
 go_ret
 exact HR.out
end Go.Proofs.Ytlggjbopfnndbaa
namespace Go.Proofs.Ytlggjbopfnndbaa
open Go.RowKit
def alG (N : Nat) : Fn := ⟨⟨mainB,0,some ⟨N + 1 + 1,0,none⟩,3,3,false,⟨#[]⟩,0,none,0,0,some ⟨N + 1 + 1 + 1 + 1,0,none⟩,4,[alI 12 0 0,alI 9 1 0,alI 1 2 0,alI 18 0 2]⟩,[alV true ⟨#[83]⟩ 1,alV true ⟨#[83]⟩ 1,alV false ⟨#[]⟩ 0],[],[[],[],[],[]]⟩
def alM (N : Nat) : Mo := ⟨some ⟨N + 1 + 1 + 1 + 1 + 1,0,none⟩,1,some ⟨N + 1 + 1 + 1 + 1 + 1 + 1,0,none⟩,1,[⟨⟨⟨#[83]⟩,none,0,0,0,0⟩,[]⟩],[alG N]⟩
theorem gives27_results (tmps : Array Value) (w : World) (b : Nat) (u v : Value) (ht : tmps[0]? = some (.pointer (some ⟨b,0,none⟩))) (hc : w.cell? ⟨b,0,none⟩ = some u) (hc2 : w.cell? ⟨b,1,none⟩ = some v) :
  (results Try.f42 tmps).run Try.prog w = .ok (.agg #[u,v]) w := by
 have h : Try.f42.results = #[.cell 0 25] := rfl
 have hu : Try.prog.underlying 25 = _ := Try.underlying25
 simp [results,go_sem,ht,hc,hc2]
theorem alM_in {w : World} {N : Nat} {t3 t5 t6 t7 : TypeId}
  (h2 : w.heap[N + 1 + 1]? = some (.cells (((alG N).vs.flatMap fun v => v.cells.toList)).toArray t3 (0,0)))
  (h4 : w.heap[N + 1 + 1 + 1 + 1]? = some (.cells (((alG N).c.ins.flatMap fun v => v.cells.toList)).toArray t5 (0,0)))
  (h5 : w.heap[N + 1 + 1 + 1 + 1 + 1]? = some (.cells (((alM N).ss.flatMap fun v => v.cells.toList)).toArray t6 (0,0)))
  (h6 : w.heap[N + 1 + 1 + 1 + 1 + 1 + 1]? = some (.cells (((alM N).fs.flatMap fun v => v.cells.toList)).toArray t7 (0,0))) : RightIn w (alM N) := by
 have hv : RowOf Vr.cells 3 w w.heap.size (some ⟨N + 1 + 1,0,none⟩) (alG N).vs := rowOf_heap vrLen h2 (by simp)
 have hi : RowOf Ins.cells 13 w w.heap.size (some ⟨N + 1 + 1 + 1 + 1,0,none⟩) (alG N).c.ins := rowOf_heap insLen h4 (by simp)
 have hs : RowOf St.cells 4 w w.heap.size (some ⟨N + 1 + 1 + 1 + 1 + 1,0,none⟩) (alM N).ss := rowOf_heap stLen h5 (by simp)
 have hf : RowOf Fn.cells 8 w w.heap.size (some ⟨N + 1 + 1 + 1 + 1 + 1 + 1,0,none⟩) (alM N).fs := rowOf_heap fnLen h6 (by simp)
 have hai : ∀ x ∈ (alG N).c.ins,x.args = [] ∧ x.argsV = .slice none 0 0 ∧ x.modeV = .slice none 0 0 := by
  intro x hx
  simp only [alG,List.mem_cons,List.not_mem_nil,or_false] at hx
  rcases hx with rfl | rfl | rfl | rfl <;> exact ⟨rfl,rfl,rfl⟩
 refine ⟨⟨hs,hf,?_,?_,Nat.le_of_ble_eq_true (by kernel_rfl),Nat.le_of_ble_eq_true (by kernel_rfl)⟩,Nat.le_of_ble_eq_true (by kernel_rfl),Nat.le_of_ble_eq_true (by kernel_rfl),?_,?_,?_⟩
 ·intro s hs'
  simp only [alM,List.mem_singleton] at hs'
  subst hs'
  exact ⟨rfl,rowOf_nil _ _ _ _ _,Nat.le_of_ble_eq_true (by kernel_rfl),Nat.le_of_ble_eq_true (by kernel_rfl),by simp⟩
 ·intro f hf'
  simp only [alM,List.mem_singleton] at hf'
  subst hf'
  refine ⟨⟨hi,?_,Nat.le_of_ble_eq_true (by kernel_rfl),⟨_,rfl,hv⟩,Nat.le_of_ble_eq_true (by kernel_rfl),Nat.le_of_ble_eq_true (by kernel_rfl),⟨[],rfl,rowOf_nil _ _ _ _ _⟩⟩,Nat.le_of_ble_eq_true (by kernel_rfl),rfl,hv,rfl,rowOf_nil _ _ _ _ _,rfl,?_⟩
  ·intro x hx
   obtain ⟨e1,e2,e3⟩ := hai x hx
   exact ⟨⟨⟨_,_,by rw [e1]; exact e2⟩,_,_,_,e3⟩,_,_,by rw [e1]; exact e2,by rw [e1]; exact rowOf_nil _ _ _ _ _⟩
  ·intro k i l h1 h2
   have e1 : l = [] := by
    have := List.mem_of_getElem? h2
    simpa [alG] using this
   rw [e1]
   exact ⟨_,_,(hai i (List.mem_of_getElem? h1)).2.2,rowOf_nil _ _ _ _ _⟩
 ·intro s hs'
  simp only [alM,List.mem_singleton] at hs'
  subst hs'; exact Nat.zero_le _
 ·intro f hf'
  simp only [alM,List.mem_singleton] at hf'
  subst hf'
  show 3 ≤ 90000
  decide
 ·intro f hf' i hi'
  simp only [alM,List.mem_singleton] at hf'
  subst hf'
  rw [(hai i hi').1]; decide
theorem alM_right (N : Nat) : rightF (alM N) = 0 := by kernel_rfl
theorem alM_classed (N : Nat) : classedF (alM N) = true := by kernel_rfl
theorem alM_mode (N : Nat) : modeF (alM N) 0 1 = [1] := by kernel_rfl
theorem alM_modes (N : Nat) : (alG N).c.ins.map (modesF (alM N) (alG N)) = [[],[1],[],[]] := by kernel_rfl
theorem alloc_at2 {w : World} {o : Obj} {n : Nat} (h : w.heap.size = n) : (w.alloc o).heap[n]? = some o := by rw [← h]; exact alloc_at _ _
def alW (w : World) (N : Nat) (t0 t3 t5 t6 t7 : TypeId) (o1 o3 : Obj) : World :=
 ((((((w.alloc (.cells (alM N).cells t0)).alloc o1).alloc (.cells (((alG N).vs.flatMap fun v => v.cells.toList)).toArray t3)).alloc o3).alloc (.cells (((alG N).c.ins.flatMap fun v => v.cells.toList)).toArray t5)).alloc (.cells (((alM N).ss.flatMap fun v => v.cells.toList)).toArray t6)).alloc (.cells (((alM N).fs.flatMap fun v => v.cells.toList)).toArray t7)
theorem alW_ok (w : World) (N : Nat) (hN : w.heap.size = N) (t0 t3 t5 t6 t7 : TypeId) (o1 o3 : Obj) :
  RightIn (alW w N t0 t3 t5 t6 t7 o1 o3) (alM N) ∧ Below w.heap.size w (alW w N t0 t3 t5 t6 t7 o1 o3) ∧ (alW w N t0 t3 t5 t6 t7 o1 o3).cell? ⟨N,0,none⟩ = some (.slice (alM N).sA 1 1) ∧ (alW w N t0 t3 t5 t6 t7 o1 o3).cell? ⟨N,1,none⟩ = some (.slice (alM N).fA 1 1) := by
 have g0 : (alW w N t0 t3 t5 t6 t7 o1 o3).heap[N]? = some (.cells (alM N).cells t0 (0,0)) := by
  unfold alW
  rw [Below.heap_alloc _ _ _ (by simp only [World.size_alloc]; omega),Below.heap_alloc _ _ _ (by simp only [World.size_alloc]; omega),Below.heap_alloc _ _ _ (by simp only [World.size_alloc]; omega),Below.heap_alloc _ _ _ (by simp only [World.size_alloc]; omega),Below.heap_alloc _ _ _ (by simp only [World.size_alloc]; omega),Below.heap_alloc _ _ _ (by simp only [World.size_alloc]; omega)]
  exact alloc_at2 hN
 refine ⟨alM_in (t3 := t3) (t5 := t5) (t6 := t6) (t7 := t7) ?_ ?_ ?_ ?_,?_,?_,?_⟩
 ·unfold alW
  rw [Below.heap_alloc _ _ _ (by simp only [World.size_alloc]; omega),Below.heap_alloc _ _ _ (by simp only [World.size_alloc]; omega),Below.heap_alloc _ _ _ (by simp only [World.size_alloc]; omega),Below.heap_alloc _ _ _ (by simp only [World.size_alloc]; omega)]
  exact alloc_at2 (by simp only [World.size_alloc]; omega)
 ·unfold alW
  rw [Below.heap_alloc _ _ _ (by simp only [World.size_alloc]; omega),Below.heap_alloc _ _ _ (by simp only [World.size_alloc]; omega)]
  exact alloc_at2 (by simp only [World.size_alloc]; omega)
 ·unfold alW
  rw [Below.heap_alloc _ _ _ (by simp only [World.size_alloc]; omega)]
  exact alloc_at2 (by simp only [World.size_alloc]; omega)
 ·unfold alW
  exact alloc_at2 (by simp only [World.size_alloc]; omega)
 ·unfold alW
  exact (((((((Below.refl _ _).alloc (Nat.le_refl _) _).alloc (by simp only [World.size_alloc]; omega) _).alloc (by simp only [World.size_alloc]; omega) _).alloc (by simp only [World.size_alloc]; omega) _).alloc (by simp only [World.size_alloc]; omega) _).alloc (by simp only [World.size_alloc]; omega) _).alloc (by simp only [World.size_alloc]; omega) _
 ·rw [cell_of_row _ _ _ _ _ _ g0]; rfl
 ·rw [cell_of_row _ _ _ _ _ _ g0]; rfl
set_option maxRecDepth 100000 in
set_option maxHeartbeats 16000000 in
theorem gives27_calls (w : World) : Calls Try.prog 42 #[] w fun e w' => ∃ N,e = .returned (.agg (alM N).cells) ∧ RightIn w' (alM N) ∧ Below w.heap.size w w' := by
 obtain ⟨N,hN⟩ : ∃ N,w.heap.size = N := ⟨_,rfl⟩
 have HF := Lib.hid (fun t0 t3 t5 t6 t7 o1 o3 => alW_ok w N hN t0 t3 t5 t6 t7 o1 o3)
 go_enter Try.func42,Try.ntmps42
 go_wp2
 exact bodyPost_ret (gives27_results _ _ N _ _ rfl (HF.out 25 _ _ _ _ _ _).2.2.1 (HF.out 25 _ _ _ _ _ _).2.2.2) rfl ⟨N,rfl,(HF.out 25 _ _ _ _ _ _).1,(HF.out 25 _ _ _ _ _ _).2.1⟩
end Go.Proofs.Ytlggjbopfnndbaa
namespace Go.Proofs.Ytlggjbopfnndbaa
open Go.RowKit
theorem alive_sums {N : Nat} {n : Mo} (h : RewOf (alM N) n) : n.fs.length = 1 ∧ sumF ownOne n.fs = 1 ∧ sumF lentOne n.fs = 0 ∧ ∀ g ∈ n.fs,g.mds.length ≤ 3000 ∧ ∀ x ∈ g.mds,x.length ≤ 400 := by
 obtain ⟨_,hl,k,_,hf⟩ := h
 obtain ⟨g',h1,h2⟩ := hf 0 (alG N) rfl
 have e := h2.mds
 rw [alM_modes] at e
 have hl' : n.fs.length = 1 := hl
 obtain ⟨x,hx⟩ := List.length_eq_one_iff.1 hl'
 rw [hx] at h1 ⊢
 have e2 : x = g' := by simpa using h1
 subst e2
 refine ⟨rfl,?_,?_,?_⟩
 ·simp only [sumF,e]; decide
 ·simp only [sumF,e]; decide
 ·intro g hg
  have e3 : g = x := by simpa using hg
  rw [e3,e]
  refine ⟨by decide,fun y hy => ?_⟩
  simp only [List.mem_cons,List.not_mem_nil,or_false] at hy
  rcases hy with rfl | rfl | rfl | rfl <;> decide
set_option maxRecDepth 100000 in
set_option maxHeartbeats 16000000 in
theorem alive27_calls (w : World) : Calls Try.prog 12 #[] w fun e w' => e = .returned (.bool true) ∧ Below w.heap.size w w' := by
 go_enter Try.func12,Try.ntmps12
 go_wp2_with fail
 go_at_call 42
 refine (gives27_calls w).mono ?_
 rintro e w1 ⟨N1,rfl,hin1,hb1⟩
 have HRW := Lib.hid (rewrite_calls (alM N1) w1 hin1)
 have HB1 := Lib.hid hb1
 clear hin1 hb1
 go_wp2_with fail
 go_at_call 13
 refine HRW.out.mono ?_
 rintro e w2 (⟨h,_⟩ | ⟨_,h,_⟩ | ⟨_,_,n,rfl,hn,hrw,hb2⟩)
 ·exact (h (alM_right N1)).elim
 ·rw [alM_classed] at h; exact absurd h (by simp)
 clear HRW
 obtain ⟨hl,hso,hsl,hmx⟩ := alive_sums hrw
 obtain ⟨N2,hN2⟩ : ∃ N,w2.heap.size = N := ⟨_,rfl⟩
 obtain ⟨W3,hW3⟩ : ∃ W3,w2.alloc (.cells n.cells 25) = W3 := ⟨_,rfl⟩
 have hb3 : Below w2.heap.size w2 W3 := by rw [← hW3]; exact (Below.refl _ _).alloc (Nat.le_refl _) _
 have hs3 : W3.heap.size = N2 + 1 := by rw [← hW3]; simp [hN2]
 have hr3 : W3.heap[N2]? = some (.cells n.cells 25 (0,0)) := by rw [← hW3,← hN2]; exact alloc_at _ _
 have hb13 : Below w.heap.size w W3 := (HB1.out.trans (hb2.mono HB1.out.size)).trans (hb3.mono (by have := HB1.out.size; have := hb2.size; omega))
 have HK : Hid (∀ W,Below W3.heap.size W3 W → W.cell? ⟨N2,0,none⟩ = some (.slice n.sA n.ss.length n.sC) ∧ W.cell? ⟨N2,1,none⟩ = some (.slice n.fA n.fs.length n.fC) ∧ n.inn W ∧ Below w.heap.size w W) := fun W hW => by
  have h1 := (hW.block N2 (by omega)).trans hr3
  exact ⟨by rw [cell_of_row _ _ _ _ _ _ h1]; rfl,by rw [cell_of_row _ _ _ _ _ _ h1]; rfl,(hn.below hb3).below hW,hb13.trans (hW.mono hb13.size)⟩
 have hW3' := hW3
 simp only [Mo.cells] at hW3'
 have HW3 := Lib.hid hW3'
 have HHL := Lib.hid hl
 have HSO := Lib.hid hso
 have HSL := Lib.hid hsl
 have HMX := Lib.hid hmx
 have HN2 := Lib.hid hN2
 obtain ⟨c0,c1,_,_⟩ := HK.out W3 (Below.refl _ _)
 clear hW3 hW3' hb13 hr3 hs3 hb3 hn hrw hb2 hl hso hsl hmx HB1
 simp only [Mo.cells]
 go_upto_region 2 with (fail)
 rw [HW3.out]
 clear c0 c1
 go_wp2_with fail
 go_at_call 42
 refine (gives27_calls W3).mono ?_
 rintro e w4 ⟨N4,rfl,hin4,hb4⟩
 have HMD := Lib.hid (mode_calls (alM N4) w4 hin4 0 1)
 have HB4 := Lib.hid hb4
 rw [alM_mode] at HMD
 clear hin4 hb4
 go_wp2_with fail
 go_at_call 19
 refine HMD.out.mono ?_
 rintro e w5 ⟨ao,cap,rfl,hown,hb5⟩
 clear HMD
 have hir : IntRow w5 ao [1] := intRow_own (M := fun _ => False) hown (Ext.refl _ _) (fun _ _ h => h)
 have hb5' := HB4.out.trans (hb5.mono HB4.out.size)
 obtain ⟨c0,c1,hn5,_⟩ := HK.out w5 hb5'
 have HMV := Lib.hid (moves_calls w5 n hn5 (by rw [HHL.out]; decide) HMX.out)
 rw [HSO.out,HSL.out] at HMV
 simp only [Mo.cells] at HMV
 have HB5 := Lib.hid hb5'
 have HIR := Lib.hid hir
 clear hown hb5 hb5' hn5 hir
 go_wp2_with fail
 go_at_call 15
 refine HMV.out.mono ?_
 rintro e w6 ⟨rfl,hb6⟩
 have hb6' := HB5.out.trans (hb6.mono HB5.out.size)
 clear c0 c1
 obtain ⟨_,c1,_,hbw⟩ := HK.out w6 hb6'
 have hir6 : IntRow w6 ao [1] := RowOf.grow HIR.out hb6
 obtain ⟨b,o,rfl,hb,hc⟩ := hir6 (by simp)
 have d0 := hc 0 1 rfl 0 _ rfl
 simp only [Nat.mul_one,Nat.add_zero] at d0
 have HR := Lib.hid hbw
 rw [HHL.out] at c1
 clear hb6 hb6' hbw hc hb
 go_wp2
 go_ret
 exact ⟨rfl,HR.out⟩
end Go.Proofs.Ytlggjbopfnndbaa
