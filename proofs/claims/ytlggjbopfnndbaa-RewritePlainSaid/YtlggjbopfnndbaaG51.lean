import Derived.Test.YtlggjbopfnndbaaG50
namespace Go.Proofs.Ytlggjbopfnndbaa
open Go.RowKit
theorem ix_first {α : Type} {nm : α → ByteArray} {xs : List α} (h : ∀ (q : Nat) (x : α),xs[q]? = some x → ixOf (fun y => nm y == nm x) xs = (q : Int)) : (xs.map nm).Nodup := by
 rw [List.Nodup,List.pairwise_map,List.pairwise_iff_getElem]
 intro i j hi hj hij e
 have h1 := h j xs[j] (List.getElem?_eq_getElem hj)
 unfold ixOf at h1
 have h2 : xs.findIdx (fun y => nm y == nm xs[j]) ≤ i := by
  apply Nat.le_of_not_lt
  intro hlt
  have := List.not_of_lt_findIdx hlt
  simp [e] at this
 rw [if_pos (by omega)] at h1
 omega
theorem ix_second {α : Type} {nm : α → ByteArray} {xs : List α} {q : Nat} {x : α} (hx : xs[q]? = some x) (h : ixOf (fun y => nm y == nm x) xs ≠ (q : Int)) : ¬ (xs.map nm).Nodup := by
 intro hn
 rw [List.Nodup,List.pairwise_map,List.pairwise_iff_getElem] at hn
 obtain ⟨hq,e⟩ := List.getElem?_eq_some_iff.1 hx
 refine h (ixOf_at (j := q) (y := x) (fun z hz => ?_) hx (by simp))
 obtain ⟨i,hi,ez⟩ := List.mem_take_iff_getElem.1 hz
 have := hn i q (by omega) hq (by omega)
 rw [← ez,beq_eq_false_iff_ne,← e]
 exact this
def NdTo (l : List Fd) (k : Nat) : Prop := ((l.take k).map Fd.nm).Nodup
theorem NdTo.next {l : List Fd} {k : Nat} {x : Fd} (h : NdTo l k) (hx : l[k]? = some x) (hz : ∀ z ∈ l.take k,(z.nm == x.nm) = false) : NdTo l (k + 1) := by
 unfold NdTo
 obtain ⟨hk,e⟩ := List.getElem?_eq_some_iff.1 hx
 rw [List.take_add_one,hx,List.map_append,List.nodup_append]
 refine ⟨h,by simp,fun a ha b hb => ?_⟩
 obtain ⟨z,hz',rfl⟩ := List.mem_map.1 ha
 simp only [Option.toList_some,List.map_cons,List.map_nil,List.mem_singleton] at hb
 subst hb
 have := hz z hz'
 rwa [beq_eq_false_iff_ne] at this
theorem twice_field {m : Mo} {s : St} {j k : Nat} {x y : Fd} (hs : s ∈ m.ss) (hx : s.fs[j]? = some x) (hy : s.fs[k]? = some y) (hjk : j < k) (e : x.nm = y.nm) : twiceF m = true := by
 have hn : ¬ (s.fs.map Fd.nm).Nodup := by
  intro hn
  rw [List.Nodup,List.pairwise_map,List.pairwise_iff_getElem] at hn
  obtain ⟨h1,e1⟩ := List.getElem?_eq_some_iff.1 hx
  obtain ⟨h2,e2⟩ := List.getElem?_eq_some_iff.1 hy
  exact hn j k h1 h2 hjk (by rw [e1,e2]; exact e)
 unfold twiceF
 rw [Bool.or_eq_true,Bool.or_eq_true,List.any_eq_true]
 exact .inl (.inl ⟨s,hs,decide_eq_true hn⟩)
theorem twice_struct {m : Mo} (h : ¬ (m.ss.map fun s => s.s.nm).Nodup) : twiceF m = true := by
 unfold twiceF
 rw [Bool.or_eq_true,Bool.or_eq_true]
 exact .inl (.inr (decide_eq_true h))
theorem twice_func {m : Mo} (h : ¬ (m.fs.map fun f => f.c.nm).Nodup) : twiceF m = true := by
 unfold twiceF
 rw [Bool.or_eq_true,Bool.or_eq_true]
 exact .inr (decide_eq_true h)
theorem twice_none {m : Mo} (h1 : ∀ s ∈ m.ss,NdTo s.fs s.fs.length) (h2 : (m.ss.map fun s => s.s.nm).Nodup) (h3 : (m.fs.map fun f => f.c.nm).Nodup) : twiceF m = false := by
 unfold twiceF
 rw [decide_eq_false (not_not_intro h2),decide_eq_false (not_not_intro h3),Bool.or_false,Bool.or_false,List.any_eq_false]
 intro s hs
 have := h1 s hs
 unfold NdTo at this
 rw [List.take_length] at this
 simp [this]
set_option maxRecDepth 100000 in
set_option maxHeartbeats 8000000 in
theorem rtwice_calls (m : Mo) (w : World) (hmo : m.inn w) (hsl : m.ss.length ≤ 90000) (hfl : m.fs.length ≤ 90000) (hfd : ∀ s ∈ m.ss,s.fs.length ≤ 90000) :
  Calls Try.prog 57 #[.agg m.cells] w fun e w' => e = .returned (.bool (twiceF m)) ∧ Below w.heap.size w w' := by
 obtain ⟨R,hR⟩ : ∃ R,twiceF m = R := ⟨_,rfl⟩
 rw [hR]
 have HR : Hid (twiceF m = R) := hR
 obtain ⟨N,hN⟩ : ∃ N,w.heap.size = N := ⟨_,rfl⟩
 obtain ⟨W1,hW1⟩ : ∃ W1,w.alloc (.cells m.cells 25) = W1 := ⟨_,rfl⟩
 have hb1 : Below w.heap.size w W1 := by rw [← hW1]; exact (Below.refl _ _).alloc (Nat.le_refl _) _
 have hs1 : W1.heap.size = N + 1 := by rw [← hW1]; simp [hN]
 have hr1 : W1.heap[N]? = some (.cells m.cells 25 (0,0)) := by rw [← hW1,← hN]; exact alloc_at _ _
 have HK : Hid (∀ W,Below W1.heap.size W1 W → W.cell? ⟨N,0,none⟩ = some (.slice m.sA m.ss.length m.sC) ∧ W.cell? ⟨N,1,none⟩ = some (.slice m.fA m.fs.length m.fC) ∧ m.inn W ∧ Below w.heap.size w W) := fun W hW => by
  have q1 := (hW.block N (by omega)).trans hr1
  have h3 := hb1.trans (hW.mono hb1.size)
  exact ⟨by rw [cell_of_row _ _ _ _ _ _ q1]; rfl,by rw [cell_of_row _ _ _ _ _ _ q1]; rfl,hmo.below h3,h3⟩
 have HST : Hid (∀ W,Below W1.heap.size W1 W → ∀ nm,Calls Try.prog 83 #[.agg #[.slice m.sA m.ss.length m.sC,.slice m.fA m.fs.length m.fC],.string nm] W fun e w' => e = .returned (.int .i64 (m.stIx nm)) ∧ Below W.heap.size W w') := fun W hW nm => refStruct_calls m nm W hmo.ns (HK.out W hW).2.2.1.srow
 have HFU : Hid (∀ W,Below W1.heap.size W1 W → ∀ nm,Calls Try.prog 60 #[.agg #[.slice m.sA m.ss.length m.sC,.slice m.fA m.fs.length m.fC],.string nm] W fun e w' => e = .returned (.int .i64 (m.fnIx nm)) ∧ Below W.heap.size W w') := fun W hW nm => refFunc_calls m nm W hmo.nf (HK.out W hW).2.2.1.frow
 have HFD := Lib.hid hfd
 have hW1' := hW1
 simp only [Mo.cells] at hW1'
 have HW1 := Lib.hid hW1'
 have HS1 := Lib.hid hs1
 simp only [Mo.cells]
 clear hmo hfd hW1 hW1' hb1 hr1 hR hs1
 obtain ⟨c0,c1,_,_⟩ := HK.out W1 (Below.refl _ _)
 go_enter Try.func57,Try.ntmps57
 go_upto_region 1 with (fail)
 rw [HW1.out]
 go_wp2_with fail
 go_loopw [3] (fun k wr => ∃ j : Nat,j ≤ m.ss.length ∧ k = .int .i64 (j : Int) ∧ (∀ (q : Nat) (s : St),q < j → m.ss[q]? = some s → m.stIx s.s.nm = (q : Int) ∧ NdTo s.fs s.fs.length) ∧ Below W1.heap.size W1 wr) (fun k _ => m.ss.length - (intOf k).toNat)
 case atStart => exact ⟨0,Nat.zero_le _,rfl,fun q s hq => absurd hq (Nat.not_lt_zero _),Below.refl _ _⟩
 case round =>
  rename World => wo
  clear c0 c1
  obtain ⟨j,hj,rfl,hz,hb⟩ := hrel
  obtain ⟨c0,c1,hmi,hbw⟩ := HK.out wo hb
  have HZ := Lib.hid hz
  have HB := Lib.hid hb
  have HBW := Lib.hid hbw
  by_cases hjl : j < m.ss.length
  ·obtain ⟨s,hs⟩ : ∃ y,m.ss[j]? = some y := ⟨_,List.getElem?_eq_getElem hjl⟩
   have hsm := List.mem_of_getElem? hs
   obtain ⟨g1,off,hA,hg1,q1⟩ := hmi.srow (by intro e; rw [e] at hjl; simp at hjl)
   have HD : Hid (∀ W,Below wo.heap.size wo W → W.cell? ⟨N,0,none⟩ = some (.slice (some ⟨g1,off,none⟩) m.ss.length m.sC) ∧ W.cell? ⟨N,1,none⟩ = some (.slice m.fA m.fs.length m.fC) ∧ W.cell? ⟨g1,off + j * 4,none⟩ = some (.string s.s.nm) ∧ W.cell? ⟨g1,off + j * 4 + 1,none⟩ = some (.slice s.s.fA s.fs.length s.s.fC) ∧ Below W1.heap.size W1 W ∧ s.inn W) := fun W hW => by
    have h := HB.out.trans (hW.mono HB.out.size)
    obtain ⟨k0,k1,k2,_⟩ := HK.out W h
    refine ⟨by rw [← hA]; exact k0,k1,by rw [hW.cell (p := ⟨g1,_,none⟩) hg1]; exact q1 j s hs 0 _ rfl,?_,h,k2.sin s hsm⟩
    rw [hW.cell (p := ⟨g1,_,none⟩) hg1,← (hmi.sin s hsm).nf]
    exact q1 j s hs 1 _ rfl
   have hjI : (j : Int) < (m.ss.length : Int) := by omega
   have HS := Lib.hid hs
   have HSM := Lib.hid hsm
   have hfd := HFD.out s hsm
   obtain ⟨x,hx⟩ : ∃ x,m.stIx s.s.nm = x := ⟨_,rfl⟩
   have HX := Lib.hid hx
   have HC : Hid (∀ p : BW wo,Calls Try.prog 83 #[.agg #[.slice (some ⟨g1,off,none⟩) m.ss.length m.sC,.slice m.fA m.fs.length m.fC],.string s.s.nm] p.w fun e w' => e = .returned (.int .i64 x) ∧ Below p.w.heap.size p.w w') := fun p => by
    rw [← hA,← hx]; exact HST.out p.w (HD.out p.w p.h).2.2.2.2.1 s.s.nm
   have m0 : ∀ p : BW wo,p.w.cell? ⟨N,0,none⟩ = some (.slice (some ⟨g1,off,none⟩) m.ss.length m.sC) := fun p => (HD.out p.w p.h).1
   have m1 : ∀ p : BW wo,p.w.cell? ⟨N,1,none⟩ = some (.slice m.fA m.fs.length m.fC) := fun p => (HD.out p.w p.h).2.1
   have m2 : ∀ p : BW wo,p.w.cell? ⟨g1,off + j * 4,none⟩ = some (.string s.s.nm) := fun p => (HD.out p.w p.h).2.2.1
   clear hz hb hbw hs hsm hmi hx
   go_wp2_with fail
   clear c0 c1 q1
   refine wp_region_quiet_bw (by kernel_rfl) (by kernel_rfl) ?_
   repeat (go_big_quiet_step (first | (go_at_call 83; exact bw_of (HC.out _))))
   refine wpQuiet_nil ?_
   rintro _ ⟨p,rfl⟩
   by_cases hxj : x = (j : Int)
   ·subst hxj
    obtain ⟨W2,h2w⟩ := p
    show Exit.then _ _ _ _ W2
    obtain ⟨c0,c1,c2,c3,hb2,hsi⟩ := HD.out W2 h2w
    have HB2 := Lib.hid hb2
    have H2W := Lib.hid h2w
    clear m0 m1 m2 hb2 h2w hsi
    go_wp2_with fail
    go_loopw [5] (fun k wr2 => ∃ i : Nat,i ≤ s.fs.length ∧ k = .int .i64 (i : Int) ∧ NdTo s.fs i ∧ Below wo.heap.size wo wr2) (fun k _ => s.fs.length - (intOf k).toNat)
    case atStart => exact ⟨0,Nat.zero_le _,rfl,by unfold NdTo; simp,H2W.out⟩
    case round =>
     obtain ⟨i,hi,rfl,hnd,hbr⟩ := hrel
     have HND := Lib.hid hnd
     have HBR := Lib.hid hbr
     clear c0 c1 c2 c3 hnd
     by_cases hil : i < s.fs.length
     ·obtain ⟨y,hy⟩ : ∃ y,s.fs[i]? = some y := ⟨_,List.getElem?_eq_getElem hil⟩
      obtain ⟨f1,fo,hfA,_,_⟩ := (HD.out wr hbr).2.2.2.2.2.row (by intro e; rw [e] at hil; simp at hil)
      have HFC : Hid (∀ W,Below wo.heap.size wo W → ∀ (q : Nat) (z : Fd),s.fs[q]? = some z → W.cell? ⟨f1,fo + q * 5,none⟩ = some (.string z.nm)) := fun W hW q z hz => by
       obtain ⟨f2,fo2,hfA2,_,q2⟩ := (HD.out W hW).2.2.2.2.2.row (by intro e; rw [e] at hil; simp at hil)
       rw [hfA] at hfA2
       simp only [Option.some.injEq,Addr.mk.injEq,and_true] at hfA2
       rw [hfA2.1,hfA2.2]; exact q2 q z hz 0 _ rfl
      have hiI : (i : Int) < (s.fs.length : Int) := by omega
      have HY := Lib.hid hy
      have HFA := Lib.hid hfA
      rw [hfA]
      clear hy hbr hfA
      go_wp2_with fail
      go_loopw [6] (fun k wr3 => ∃ q : Nat,q ≤ i ∧ k = .int .i64 (q : Int) ∧ (∀ z ∈ s.fs.take q,(z.nm == y.nm) = false) ∧ Below wo.heap.size wo wr3) (fun k _ => i - (intOf k).toNat)
      case atStart => exact ⟨0,Nat.zero_le _,rfl,by simp,HBR.out⟩
      case round =>
       obtain ⟨q,hq,rfl,hz,hb3⟩ := hrel
       have HZ3 := Lib.hid hz
       have HB3 := Lib.hid hb3
       by_cases hql : q < i
       ·obtain ⟨x,hx⟩ : ∃ y,s.fs[q]? = some y := ⟨_,List.getElem?_eq_getElem (by omega)⟩
        have d0 : wr.cell? ⟨f1,fo + q * 5,none⟩ = some (.string x.nm) := HFC.out wr hb3 q x hx
        have d1 : wr.cell? ⟨f1,fo + i * 5,none⟩ = some (.string y.nm) := HFC.out wr hb3 i y HY.out
        have hqI : (q : Int) < (i : Int) := by omega
        have hqI2 : (q : Int) < (s.fs.length : Int) := by omega
        have HX3 := Lib.hid hx
        by_cases hd : x.nm = y.nm
        ·have HRR : Hid (R = true) := by unfold Hid; rw [← HR.out]; exact twice_field HSM.out HX3.out HY.out hql hd
         have HBF : Hid (Below w.heap.size w wr) := (HK.out wr (HB.out.trans (hb3.mono HB.out.size))).2.2.2
         rw [hd] at d0
         clear hz hx hb3
         go_wp2
         go_quiet (fail)
         go_wp2
         go_ret
         rw [HRR.out]
         exact ⟨rfl,below_drewN HBF.out _⟩
        ·have hd' : ¬ (x.nm.toList = y.nm.toList) := fun e => hd (eq_of_beq (by rw [beq_toListBytes,e]; simp))
         have hd1 : (x.nm.toList == y.nm.toList) = false := by simpa using hd'
         clear hd'
         have HDD : Hid ((x.nm == y.nm) = false) := by unfold Hid; simp [hd]
         clear hz hx hb3 hd
         go_wp2
         go_quiet (fail)
         go_wp2
         go_roundw
         case rel => exact ⟨q + 1,by omega,by go_num,take_false (p := fun z : Fd => z.nm == y.nm) HZ3.out HX3.out HDD.out,below_drewN HB3.out _⟩
         case measure => simp [intOf]; omega
       ·have hqe : q = i := by omega
        subst hqe
        clear hz hb3
        go_wp2
        go_roundw
        case rel => exact ⟨q + 1,by omega,by go_num,HND.out.next HY.out HZ3.out,HB3.out⟩
        case measure => simp [intOf]; omega
     ·have hie : i = s.fs.length := by omega
      subst hie
      clear hbr
      go_wp2
      go_roundw
      case rel => exact ⟨j + 1,by omega,by go_num,fun q t hq ht => by
       rcases Nat.lt_or_ge q j with h | h
       ·exact HZ.out q t h ht
       ·have e : q = j := by omega
        rw [e,HS.out] at ht
        rw [← Option.some.inj ht,e]
        exact ⟨HX.out,HND.out⟩,HB.out.trans (HBR.out.mono HB.out.size)⟩
      case measure => simp [intOf]; omega
   ·have HRR : Hid (R = true) := by unfold Hid; rw [← HR.out]; exact twice_struct (ix_second (nm := fun t : St => t.s.nm) HS.out (fun e => hxj (by rw [← HX.out]; exact e)))
    have hxj' : (x != (j : Int)) = true := by rw [bne_iff_ne]; exact hxj
    have HBF : Hid (Below w.heap.size w p.w) := (HK.out p.w (HD.out p.w p.h).2.2.2.2.1).2.2.2
    clear m0 m1 m2
    go_wp2
    go_ret
    rw [HRR.out]
    exact ⟨rfl,HBF.out⟩
  ·have hje : j = m.ss.length := by omega
   subst hje
   clear hz hb hbw hmi
   go_wp2_with fail
   clear c0 c1
   go_loopw [7] (fun k wr => ∃ i : Nat,i ≤ m.fs.length ∧ k = .int .i64 (i : Int) ∧ (∀ (q : Nat) (f : Fn),q < i → m.fs[q]? = some f → m.fnIx f.c.nm = (q : Int)) ∧ Below W1.heap.size W1 wr) (fun k _ => m.fs.length - (intOf k).toNat)
   case atStart => exact ⟨0,Nat.zero_le _,rfl,fun q s hq => absurd hq (Nat.not_lt_zero _),HB.out⟩
   case round =>
    obtain ⟨i,hi,rfl,hz,hb⟩ := hrel
    obtain ⟨c0,c1,hmi,hbw⟩ := HK.out wr hb
    have HZ2 := Lib.hid hz
    have HB2 := Lib.hid hb
    have HBW2 := Lib.hid hbw
    by_cases hil : i < m.fs.length
    ·obtain ⟨f,hs⟩ : ∃ y,m.fs[i]? = some y := ⟨_,List.getElem?_eq_getElem hil⟩
     obtain ⟨g1,off,hA,hg1,q1⟩ := hmi.frow (by intro e; rw [e] at hil; simp at hil)
     have HD : Hid (∀ W,Below wr.heap.size wr W → W.cell? ⟨N,0,none⟩ = some (.slice m.sA m.ss.length m.sC) ∧ W.cell? ⟨N,1,none⟩ = some (.slice (some ⟨g1,off,none⟩) m.fs.length m.fC) ∧ W.cell? ⟨g1,off + i * 8,none⟩ = some (.string f.c.nm) ∧ Below W1.heap.size W1 W) := fun W hW => by
      have h := HB2.out.trans (hW.mono HB2.out.size)
      obtain ⟨k0,k1,_,_⟩ := HK.out W h
      exact ⟨k0,by rw [← hA]; exact k1,by rw [hW.cell (p := ⟨g1,_,none⟩) hg1]; exact q1 i f hs 0 _ rfl,h⟩
     have hiI : (i : Int) < (m.fs.length : Int) := by omega
     have HS := Lib.hid hs
     obtain ⟨x,hx⟩ : ∃ x,m.fnIx f.c.nm = x := ⟨_,rfl⟩
     have HX := Lib.hid hx
     have HC : Hid (∀ p : BW wr,Calls Try.prog 60 #[.agg #[.slice m.sA m.ss.length m.sC,.slice (some ⟨g1,off,none⟩) m.fs.length m.fC],.string f.c.nm] p.w fun e w' => e = .returned (.int .i64 x) ∧ Below p.w.heap.size p.w w') := fun p => by
      rw [← hA,← hx]; exact HFU.out p.w (HD.out p.w p.h).2.2.2 f.c.nm
     have m0 : ∀ p : BW wr,p.w.cell? ⟨N,0,none⟩ = some (.slice m.sA m.ss.length m.sC) := fun p => (HD.out p.w p.h).1
     have m1 : ∀ p : BW wr,p.w.cell? ⟨N,1,none⟩ = some (.slice (some ⟨g1,off,none⟩) m.fs.length m.fC) := fun p => (HD.out p.w p.h).2.1
     have m2 : ∀ p : BW wr,p.w.cell? ⟨g1,off + i * 8,none⟩ = some (.string f.c.nm) := fun p => (HD.out p.w p.h).2.2.1
     clear hz hb hbw hs hmi hx
     go_wp2_with fail
     clear c0 c1 q1
     refine wp_region_quiet_bw (by kernel_rfl) (by kernel_rfl) ?_
     repeat (go_big_quiet_step (first | (go_at_call 60; exact bw_of (HC.out _))))
     refine wpQuiet_nil ?_
     rintro _ ⟨p,rfl⟩
     by_cases hxj : x = (i : Int)
     ·subst hxj
      clear m0 m1 m2
      go_wp2
      go_roundw
      case rel => exact ⟨i + 1,by omega,by go_num,fun q t hq ht => by
       rcases Nat.lt_or_ge q i with h | h
       ·exact HZ2.out q t h ht
       ·have e : q = i := by omega
        rw [e,HS.out] at ht
        rw [← Option.some.inj ht,e]
        exact HX.out,(HD.out p.w p.h).2.2.2⟩
      case measure => simp [intOf]; omega
     ·have HRR : Hid (R = true) := by unfold Hid; rw [← HR.out]; exact twice_func (ix_second (nm := fun t : Fn => t.c.nm) HS.out (fun e => hxj (by rw [← HX.out]; exact e)))
      have hxj' : (x != (i : Int)) = true := by rw [bne_iff_ne]; exact hxj
      have HBF : Hid (Below w.heap.size w p.w) := (HK.out p.w (HD.out p.w p.h).2.2.2).2.2.2
      clear m0 m1 m2
      go_wp2
      go_ret
      rw [HRR.out]
      exact ⟨rfl,HBF.out⟩
    ·have hie : i = m.fs.length := by omega
     subst hie
     have HRR : Hid (R = false) := by
      unfold Hid
      rw [← HR.out]
      refine twice_none (fun s hs => ?_) (ix_first (nm := fun t : St => t.s.nm) fun q s hs => ?_) (ix_first (nm := fun t : Fn => t.c.nm) fun q f hf => ?_)
      ·obtain ⟨q,hq⟩ := List.mem_iff_getElem?.1 hs
       exact (HZ.out q s (List.getElem?_eq_some_iff.1 hq).1 hq).2
      ·exact (HZ.out q s (List.getElem?_eq_some_iff.1 hs).1 hs).1
      ·exact HZ2.out q f (List.getElem?_eq_some_iff.1 hf).1 hf
     clear hz hb hbw hmi
     go_wp2
     go_ret
     rw [HRR.out]
     exact ⟨rfl,HBW2.out⟩
end Go.Proofs.Ytlggjbopfnndbaa
namespace Go.Proofs.Ytlggjbopfnndbaa
open Go.RowKit
theorem known_field {m : Mo} {s : St} {y : Fd} (hs : s ∈ m.ss) (hy : y ∈ s.fs) (h : m.known y.ty = false) : (!(typesF m).all m.known) = true := by
 rw [Bool.not_eq_true',List.all_eq_false]
 exact ⟨y.ty,List.mem_append.2 (.inl (List.mem_flatMap.2 ⟨s,hs,List.mem_map.2 ⟨y,hy,rfl⟩⟩)),by simp [h]⟩
theorem known_ret {m : Mo} {f : Fn} (hs : f ∈ m.fs) (h : m.known f.ret = false) : (!(typesF m).all m.known) = true := by
 rw [Bool.not_eq_true',List.all_eq_false]
 exact ⟨f.ret,List.mem_append.2 (.inr (List.mem_flatMap.2 ⟨f,hs,by simp⟩)),by simp [h]⟩
theorem known_var {m : Mo} {f : Fn} {y : Vr} (hs : f ∈ m.fs) (hy : y ∈ f.vs) (h : m.known y.ty = false) : (!(typesF m).all m.known) = true := by
 rw [Bool.not_eq_true',List.all_eq_false]
 exact ⟨y.ty,List.mem_append.2 (.inr (List.mem_flatMap.2 ⟨f,hs,List.mem_cons_of_mem _ (List.mem_map.2 ⟨y,hy,rfl⟩)⟩)),by simp [h]⟩
theorem known_all {m : Mo} (h1 : ∀ s ∈ m.ss,∀ y ∈ s.fs,m.known y.ty = true) (h2 : ∀ f ∈ m.fs,m.known f.ret = true ∧ ∀ y ∈ f.vs,m.known y.ty = true) : (!(typesF m).all m.known) = false := by
 rw [Bool.not_eq_false',List.all_eq_true]
 intro t ht
 rcases List.mem_append.1 ht with h | h
 ·obtain ⟨s,hs,ht⟩ := List.mem_flatMap.1 h
  obtain ⟨y,hy,rfl⟩ := List.mem_map.1 ht
  exact h1 s hs y hy
 ·obtain ⟨f,hf,ht⟩ := List.mem_flatMap.1 h
  rcases List.mem_cons.1 ht with rfl | ht
  ·exact (h2 f hf).1
  ·obtain ⟨y,hy,rfl⟩ := List.mem_map.1 ht
   exact (h2 f hf).2 y hy
set_option maxRecDepth 100000 in
set_option maxHeartbeats 8000000 in
theorem runknown_calls (m : Mo) (w : World) (hmo : m.inn w) (hsl : m.ss.length ≤ 90000) (hfl : m.fs.length ≤ 90000) (hfd : ∀ s ∈ m.ss,s.fs.length ≤ 90000) (hvl : ∀ f ∈ m.fs,f.vs.length ≤ 90000) :
  Calls Try.prog 58 #[.agg m.cells] w fun e w' => e = .returned (.bool (!(typesF m).all m.known)) ∧ Below w.heap.size w w' := by
 obtain ⟨R,hR⟩ : ∃ R,(!(typesF m).all m.known) = R := ⟨_,rfl⟩
 rw [hR]
 have HR : Hid ((!(typesF m).all m.known) = R) := hR
 obtain ⟨N,hN⟩ : ∃ N,w.heap.size = N := ⟨_,rfl⟩
 obtain ⟨W1,hW1⟩ : ∃ W1,w.alloc (.cells m.cells 25) = W1 := ⟨_,rfl⟩
 have hb1 : Below w.heap.size w W1 := by rw [← hW1]; exact (Below.refl _ _).alloc (Nat.le_refl _) _
 have hs1 : W1.heap.size = N + 1 := by rw [← hW1]; simp [hN]
 have hr1 : W1.heap[N]? = some (.cells m.cells 25 (0,0)) := by rw [← hW1,← hN]; exact alloc_at _ _
 have HK : Hid (∀ W,Below W1.heap.size W1 W → W.cell? ⟨N,0,none⟩ = some (.slice m.sA m.ss.length m.sC) ∧ W.cell? ⟨N,1,none⟩ = some (.slice m.fA m.fs.length m.fC) ∧ m.inn W ∧ Below w.heap.size w W) := fun W hW => by
  have q1 := (hW.block N (by omega)).trans hr1
  have h3 := hb1.trans (hW.mono hb1.size)
  exact ⟨by rw [cell_of_row _ _ _ _ _ _ q1]; rfl,by rw [cell_of_row _ _ _ _ _ _ q1]; rfl,hmo.below h3,h3⟩
 have HKN : Hid (∀ W,Below W1.heap.size W1 W → ∀ t : Ty,Calls Try.prog 84 #[.agg #[.slice m.sA m.ss.length m.sC,.slice m.fA m.fs.length m.fC],.agg #[.bool t.1,.string t.2]] W fun e w' => e = .returned (.bool (m.known t)) ∧ Below W.heap.size W w') := fun W hW t => rknown_calls m t.1 t.2 W hmo.ns (HK.out W hW).2.2.1.srow
 have HFD := Lib.hid hfd
 have HVL := Lib.hid hvl
 have hW1' := hW1
 simp only [Mo.cells] at hW1'
 have HW1 := Lib.hid hW1'
 have HS1 := Lib.hid hs1
 simp only [Mo.cells]
 clear hmo hfd hvl hW1 hW1' hb1 hr1 hR hs1
 obtain ⟨c0,c1,_,_⟩ := HK.out W1 (Below.refl _ _)
 go_enter Try.func58,Try.ntmps58
 go_upto_region 1 with (fail)
 rw [HW1.out]
 go_wp2_with fail
 go_loopw [3] (fun k wr => ∃ j : Nat,j ≤ m.ss.length ∧ k = .int .i64 (j : Int) ∧ (∀ s ∈ m.ss.take j,∀ y ∈ s.fs,m.known y.ty = true) ∧ Below W1.heap.size W1 wr) (fun k _ => m.ss.length - (intOf k).toNat)
 case atStart => exact ⟨0,Nat.zero_le _,rfl,by simp,Below.refl _ _⟩
 case round =>
  rename World => wo
  clear c0 c1
  obtain ⟨j,hj,rfl,hz,hb⟩ := hrel
  obtain ⟨c0,c1,hmi,hbw⟩ := HK.out wo hb
  have HZ := Lib.hid hz
  have HB := Lib.hid hb
  by_cases hjl : j < m.ss.length
  ·obtain ⟨s,hs⟩ : ∃ y,m.ss[j]? = some y := ⟨_,List.getElem?_eq_getElem hjl⟩
   have hsm := List.mem_of_getElem? hs
   obtain ⟨g1,off,hA,hg1,q1⟩ := hmi.srow (by intro e; rw [e] at hjl; simp at hjl)
   have HD : Hid (∀ W,Below W1.heap.size W1 W → W.cell? ⟨N,0,none⟩ = some (.slice (some ⟨g1,off,none⟩) m.ss.length m.sC) ∧ W.cell? ⟨N,1,none⟩ = some (.slice m.fA m.fs.length m.fC) ∧ W.cell? ⟨g1,off + j * 4 + 1,none⟩ = some (.slice s.s.fA s.fs.length s.s.fC) ∧ s.inn W) := fun W hW => by
    obtain ⟨k0,k1,k2,_⟩ := HK.out W hW
    obtain ⟨g2,off2,hA2,_,q2⟩ := k2.srow (by intro e; rw [e] at hjl; simp at hjl)
    rw [hA] at hA2
    simp only [Option.some.injEq,Addr.mk.injEq,and_true] at hA2
    refine ⟨by rw [← hA]; exact k0,k1,?_,k2.sin s hsm⟩
    rw [← (k2.sin s hsm).nf,hA2.1,hA2.2]
    exact q2 j s hs 1 _ rfl
   have hjI : (j : Int) < (m.ss.length : Int) := by omega
   have HS := Lib.hid hs
   have HSM := Lib.hid hsm
   have hfd := HFD.out s hsm
   have HA := Lib.hid hA
   clear hz hb hbw hs hsm hmi c0 c1 q1 hA
   obtain ⟨c0,c1,c2,_⟩ := HD.out wo HB.out
   go_wp2_with fail
   clear c0 c1 c2
   go_loopw [4] (fun k wr => ∃ i : Nat,i ≤ s.fs.length ∧ k = .int .i64 (i : Int) ∧ (∀ y ∈ s.fs.take i,m.known y.ty = true) ∧ Below W1.heap.size W1 wr) (fun k _ => s.fs.length - (intOf k).toNat)
   case atStart => exact ⟨0,Nat.zero_le _,rfl,by simp,HB.out⟩
   case round =>
    obtain ⟨i,hi,rfl,hnd,hbr⟩ := hrel
    have HND := Lib.hid hnd
    have HBR := Lib.hid hbr
    obtain ⟨c0,c1,c2,hsi⟩ := HD.out wr hbr
    by_cases hil : i < s.fs.length
    ·obtain ⟨y,hy⟩ : ∃ y,s.fs[i]? = some y := ⟨_,List.getElem?_eq_getElem hil⟩
     obtain ⟨f1,fo,hfA,hf1,q2⟩ := hsi.row (by intro e; rw [e] at hil; simp at hil)
     have hiI : (i : Int) < (s.fs.length : Int) := by omega
     have HY := Lib.hid hy
     obtain ⟨d,hd⟩ : ∃ d,m.known y.ty = d := ⟨_,rfl⟩
     have HDD := Lib.hid hd
     have HBP : Hid (∀ p : BW wr,Below W1.heap.size W1 p.w) := fun p => HBR.out.trans (p.h.mono HBR.out.size)
     have HC : Hid (∀ p : BW wr,Calls Try.prog 84 #[.agg #[.slice (some ⟨g1,off,none⟩) m.ss.length m.sC,.slice m.fA m.fs.length m.fC],.agg #[.bool y.ptr,.string y.tgt]] p.w fun e w' => e = .returned (.bool d) ∧ Below p.w.heap.size p.w w') := fun p => by
      rw [← HA.out,← hd]; exact HKN.out p.w (HBP.out p) y.ty
     have m0 : ∀ p : BW wr,p.w.cell? ⟨N,0,none⟩ = some (.slice (some ⟨g1,off,none⟩) m.ss.length m.sC) := fun p => (HD.out p.w (HBP.out p)).1
     have m1 : ∀ p : BW wr,p.w.cell? ⟨N,1,none⟩ = some (.slice m.fA m.fs.length m.fC) := fun p => (HD.out p.w (HBP.out p)).2.1
     have m2 : ∀ p : BW wr,p.w.cell? ⟨g1,off + j * 4 + 1,none⟩ = some (.slice (some ⟨f1,fo,none⟩) s.fs.length s.s.fC) := fun p => by rw [← hfA]; exact (HD.out p.w (HBP.out p)).2.2.1
     have m3 : ∀ p : BW wr,p.w.cell? ⟨f1,fo + i * 5 + 1,none⟩ = some (.bool y.ptr) := fun p => by rw [p.h.cell (p := ⟨f1,_,none⟩) hf1]; exact q2 i y hy 1 _ rfl
     have m4 : ∀ p : BW wr,p.w.cell? ⟨f1,fo + i * 5 + 1 + 1,none⟩ = some (.string y.tgt) := fun p => by rw [p.h.cell (p := ⟨f1,_,none⟩) hf1]; exact q2 i y hy 2 _ rfl
     clear hnd hbr hsi hy hd hfA q2
     go_wp2_with fail
     clear c0 c1 c2
     refine wp_region_quiet_bw (by kernel_rfl) (by kernel_rfl) ?_
     repeat (go_big_quiet_step (first | (go_at_call 84; exact bw_of (HC.out _))))
     refine wpQuiet_nil ?_
     rintro _ ⟨p,rfl⟩
     have HBF : Hid (Below w.heap.size w p.w) := (HK.out p.w (HBP.out p)).2.2.2
     clear m0 m1 m2 m3 m4
     cases d with
     | false =>
      have HRR : Hid (R = true) := by unfold Hid; rw [← HR.out]; exact known_field HSM.out (List.mem_of_getElem? HY.out) HDD.out
      go_wp2
      go_ret
      rw [HRR.out]
      exact ⟨rfl,HBF.out⟩
     | true =>
      go_wp2
      go_roundw
      case rel => exact ⟨i + 1,by omega,by go_num,take_all (p := fun y : Fd => m.known y.ty = true) HND.out HY.out HDD.out,HBP.out p⟩
      case measure => simp [intOf]; omega
    ·have hie : i = s.fs.length := by omega
     subst hie
     rw [List.take_length] at hnd
     have HND2 := Lib.hid hnd
     clear hbr hnd hsi
     go_wp2
     go_roundw
     case rel => exact ⟨j + 1,by omega,by go_num,take_all (p := fun s : St => ∀ y ∈ s.fs,m.known y.ty = true) HZ.out HS.out HND2.out,HBR.out⟩
     case measure => simp [intOf]; omega
  ·have hje : j = m.ss.length := by omega
   subst hje
   rw [List.take_length] at hz
   have HZ := Lib.hid hz
   clear hz hb hbw hmi
   go_wp2_with fail
   clear c0 c1
   go_loopw [5] (fun k wr => ∃ i : Nat,i ≤ m.fs.length ∧ k = .int .i64 (i : Int) ∧ (∀ f ∈ m.fs.take i,m.known f.ret = true ∧ ∀ y ∈ f.vs,m.known y.ty = true) ∧ Below W1.heap.size W1 wr) (fun k _ => m.fs.length - (intOf k).toNat)
   case atStart => exact ⟨0,Nat.zero_le _,rfl,by simp,HB.out⟩
   case round =>
    rename World => wp
    obtain ⟨i,hi,rfl,hz,hb⟩ := hrel
    obtain ⟨c0,c1,hmi,hbw⟩ := HK.out wp hb
    have HZ2 := Lib.hid hz
    have HB2 := Lib.hid hb
    have HBW2 := Lib.hid hbw
    by_cases hil : i < m.fs.length
    ·obtain ⟨f,hs⟩ : ∃ y,m.fs[i]? = some y := ⟨_,List.getElem?_eq_getElem hil⟩
     have hfm := List.mem_of_getElem? hs
     obtain ⟨g1,off,hA,hg1,q1⟩ := hmi.frow (by intro e; rw [e] at hil; simp at hil)
     have HD : Hid (∀ W,Below W1.heap.size W1 W → W.cell? ⟨N,0,none⟩ = some (.slice m.sA m.ss.length m.sC) ∧ W.cell? ⟨N,1,none⟩ = some (.slice (some ⟨g1,off,none⟩) m.fs.length m.fC) ∧ W.cell? ⟨g1,off + i * 8 + 2,none⟩ = some (.slice f.c.varsA f.vs.length f.c.varsC) ∧ W.cell? ⟨g1,off + i * 8 + 3,none⟩ = some (.bool f.c.rp) ∧ W.cell? ⟨g1,off + i * 8 + 3 + 1,none⟩ = some (.string f.c.rto) ∧ f.inn W) := fun W hW => by
      obtain ⟨k0,k1,k2,_⟩ := HK.out W hW
      obtain ⟨g2,off2,hA2,_,q2⟩ := k2.frow (by intro e; rw [e] at hil; simp at hil)
      rw [hA] at hA2
      simp only [Option.some.injEq,Addr.mk.injEq,and_true] at hA2
      refine ⟨k0,by rw [← hA]; exact k1,?_,by rw [hA2.1,hA2.2]; exact q2 i f hs 3 _ rfl,by rw [hA2.1,hA2.2]; exact q2 i f hs 4 _ rfl,k2.fin f hfm⟩
      rw [← (k2.fin f hfm).nvars,hA2.1,hA2.2]
      exact q2 i f hs 2 _ rfl
     have hiI : (i : Int) < (m.fs.length : Int) := by omega
     have HS := Lib.hid hs
     have HFM := Lib.hid hfm
     have HA := Lib.hid hA
     have hvl := HVL.out f hfm
     obtain ⟨d,hd⟩ : ∃ d,m.known f.ret = d := ⟨_,rfl⟩
     have HDD := Lib.hid hd
     have HBP : Hid (∀ p : BW wp,Below W1.heap.size W1 p.w) := fun p => HB2.out.trans (p.h.mono HB2.out.size)
     have HC : Hid (∀ p : BW wp,Calls Try.prog 84 #[.agg #[.slice m.sA m.ss.length m.sC,.slice (some ⟨g1,off,none⟩) m.fs.length m.fC],.agg #[.bool f.c.rp,.string f.c.rto]] p.w fun e w' => e = .returned (.bool d) ∧ Below p.w.heap.size p.w w') := fun p => by
      rw [← HA.out,← hd]; exact HKN.out p.w (HBP.out p) f.ret
     have m0 : ∀ p : BW wp,p.w.cell? ⟨N,0,none⟩ = some (.slice m.sA m.ss.length m.sC) := fun p => (HD.out p.w (HBP.out p)).1
     have m1 : ∀ p : BW wp,p.w.cell? ⟨N,1,none⟩ = some (.slice (some ⟨g1,off,none⟩) m.fs.length m.fC) := fun p => (HD.out p.w (HBP.out p)).2.1
     have m3 : ∀ p : BW wp,p.w.cell? ⟨g1,off + i * 8 + 3,none⟩ = some (.bool f.c.rp) := fun p => (HD.out p.w (HBP.out p)).2.2.2.1
     have m4 : ∀ p : BW wp,p.w.cell? ⟨g1,off + i * 8 + 3 + 1,none⟩ = some (.string f.c.rto) := fun p => (HD.out p.w (HBP.out p)).2.2.2.2.1
     clear hz hb hbw hs hmi hd hfm hA q1
     go_wp2_with fail
     clear c0 c1
     refine wp_region_quiet_bw (by kernel_rfl) (by kernel_rfl) ?_
     repeat (go_big_quiet_step (first | (go_at_call 84; exact bw_of (HC.out _))))
     refine wpQuiet_nil ?_
     rintro _ ⟨p,rfl⟩
     have HBF : Hid (Below w.heap.size w p.w) := (HK.out p.w (HBP.out p)).2.2.2
     clear m0 m1 m3 m4
     cases d with
     | false =>
      have HRR : Hid (R = true) := by unfold Hid; rw [← HR.out]; exact known_ret HFM.out HDD.out
      go_wp2
      go_ret
      rw [HRR.out]
      exact ⟨rfl,HBF.out⟩
     | true =>
      go_wp2_with fail
      go_loopw [6] (fun k wr => ∃ q : Nat,q ≤ f.vs.length ∧ k = .int .i64 (q : Int) ∧ (∀ y ∈ f.vs.take q,m.known y.ty = true) ∧ Below W1.heap.size W1 wr) (fun k _ => f.vs.length - (intOf k).toNat)
      case atStart => exact ⟨0,Nat.zero_le _,rfl,by simp,HBP.out p⟩
      case round =>
       obtain ⟨q,hq,rfl,hnd,hbr⟩ := hrel
       have HND := Lib.hid hnd
       have HBR := Lib.hid hbr
       obtain ⟨c0,c1,c2,_,_,hfi⟩ := HD.out wr hbr
       by_cases hql : q < f.vs.length
       ·obtain ⟨y,hy⟩ : ∃ y,f.vs[q]? = some y := ⟨_,List.getElem?_eq_getElem hql⟩
        obtain ⟨f1,fo,hfA,hf1,q2⟩ := hfi.vars (by intro e; rw [e] at hql; simp at hql)
        have hqI : (q : Int) < (f.vs.length : Int) := by omega
        have HY := Lib.hid hy
        obtain ⟨d,hd⟩ : ∃ d,m.known y.ty = d := ⟨_,rfl⟩
        have HDY := Lib.hid hd
        have HBQ : Hid (∀ p : BW wr,Below W1.heap.size W1 p.w) := fun p => HBR.out.trans (p.h.mono HBR.out.size)
        have HCY : Hid (∀ p : BW wr,Calls Try.prog 84 #[.agg #[.slice m.sA m.ss.length m.sC,.slice (some ⟨g1,off,none⟩) m.fs.length m.fC],.agg #[.bool y.ptr,.string y.tgt]] p.w fun e w' => e = .returned (.bool d) ∧ Below p.w.heap.size p.w w') := fun p => by
         rw [← HA.out,← hd]; exact HKN.out p.w (HBQ.out p) y.ty
        have m0 : ∀ p : BW wr,p.w.cell? ⟨N,0,none⟩ = some (.slice m.sA m.ss.length m.sC) := fun p => (HD.out p.w (HBQ.out p)).1
        have m1 : ∀ p : BW wr,p.w.cell? ⟨N,1,none⟩ = some (.slice (some ⟨g1,off,none⟩) m.fs.length m.fC) := fun p => (HD.out p.w (HBQ.out p)).2.1
        have m2 : ∀ p : BW wr,p.w.cell? ⟨g1,off + i * 8 + 2,none⟩ = some (.slice (some ⟨f1,fo,none⟩) f.vs.length f.c.varsC) := fun p => by rw [← hfA]; exact (HD.out p.w (HBQ.out p)).2.2.1
        have m3 : ∀ p : BW wr,p.w.cell? ⟨f1,fo + q * 3,none⟩ = some (.bool y.ptr) := fun p => by rw [p.h.cell (p := ⟨f1,_,none⟩) hf1]; exact q2 q y hy 0 _ rfl
        have m4 : ∀ p : BW wr,p.w.cell? ⟨f1,fo + q * 3 + 1,none⟩ = some (.string y.tgt) := fun p => by rw [p.h.cell (p := ⟨f1,_,none⟩) hf1]; exact q2 q y hy 1 _ rfl
        clear hnd hbr hfi hy hd hfA q2
        go_wp2_with fail
        clear c0 c1 c2
        refine wp_region_quiet_bw (by kernel_rfl) (by kernel_rfl) ?_
        repeat (go_big_quiet_step (first | (go_at_call 84; exact bw_of (HCY.out _))))
        refine wpQuiet_nil ?_
        rintro _ ⟨p,rfl⟩
        have HBF2 : Hid (Below w.heap.size w p.w) := (HK.out p.w (HBQ.out p)).2.2.2
        clear m0 m1 m2 m3 m4
        cases d with
        | false =>
         have HRR : Hid (R = true) := by unfold Hid; rw [← HR.out]; exact known_var HFM.out (List.mem_of_getElem? HY.out) HDY.out
         go_wp2
         go_ret
         rw [HRR.out]
         exact ⟨rfl,HBF2.out⟩
        | true =>
         go_wp2
         go_roundw
         case rel => exact ⟨q + 1,by omega,by go_num,take_all (p := fun y : Vr => m.known y.ty = true) HND.out HY.out HDY.out,HBQ.out p⟩
         case measure => simp [intOf]; omega
       ·have hqe : q = f.vs.length := by omega
        subst hqe
        rw [List.take_length] at hnd
        have HND2 := Lib.hid hnd
        clear hbr hnd hfi
        go_wp2
        go_roundw
        case rel => exact ⟨i + 1,by omega,by go_num,take_all (p := fun f : Fn => m.known f.ret = true ∧ ∀ y ∈ f.vs,m.known y.ty = true) HZ2.out HS.out ⟨HDD.out,HND2.out⟩,HBR.out⟩
        case measure => simp [intOf]; omega
    ·have hie : i = m.fs.length := by omega
     subst hie
     rw [List.take_length] at hz
     have HRR : Hid (R = false) := by unfold Hid; rw [← HR.out]; exact known_all HZ.out hz
     clear hz hb hbw hmi
     go_wp2
     go_ret
     rw [HRR.out]
     exact ⟨rfl,HBW2.out⟩
end Go.Proofs.Ytlggjbopfnndbaa
