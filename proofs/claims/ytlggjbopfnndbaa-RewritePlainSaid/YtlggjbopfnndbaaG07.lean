import Derived.Test.YtlggjbopfnndbaaG06
import Derived.Laws.StructEq
namespace Go.Proofs.Ytlggjbopfnndbaa
open Go.RowKit
theorem ixOf_at {α : Type} {p : α → Bool} {xs : List α} {j : Nat} {y : α} (hz : ∀ z ∈ xs.take j,p z = false) (hy : xs[j]? = some y) (hp : p y = true) : ixOf p xs = (j : Int) := by
 obtain ⟨hj,e⟩ := List.getElem?_eq_some_iff.1 hy
 have h : xs.findIdx p = j := (List.findIdx_eq hj).2 ⟨by rw [e]; exact hp,fun i hi => by
  have := hz xs[i] (by rw [List.mem_take_iff_getElem]; exact ⟨i,by omega,rfl⟩)
  simpa using this⟩
 unfold ixOf
 rw [h,if_pos hj]
theorem ixOf_none {α : Type} {p : α → Bool} {xs : List α} (hz : ∀ z ∈ xs,p z = false) : ixOf p xs = -1 := by
 have h : xs.findIdx p = xs.length := List.findIdx_eq_length.2 (by simpa using hz)
 unfold ixOf
 rw [h,if_neg (by omega)]
theorem ixOf_any {α : Type} {p : α → Bool} {xs : List α} : decide (0 ≤ ixOf p xs) = xs.any p := by
 unfold ixOf
 by_cases h : xs.findIdx p < xs.length
 ·rw [if_pos h,decide_eq_true (by omega)]
  obtain ⟨x,hx,hp⟩ := List.findIdx_lt_length.1 h
  exact (List.any_eq_true.2 ⟨x,hx,hp⟩).symm
 ·rw [if_neg h]
  have h2 := (List.findIdx_eq_length (p := p) (xs := xs)).1 (by have := List.findIdx_le_length (p := p) (xs := xs); omega)
  symm
  rw [decide_eq_false (by omega),List.any_eq_false]
  intro x hx; have := h2 x hx; simpa using this
theorem take_false {α : Type} {p : α → Bool} {xs : List α} {j : Nat} {y : α} (hz : ∀ z ∈ xs.take j,p z = false) (hy : xs[j]? = some y) (hp : p y = false) : ∀ z ∈ xs.take (j + 1),p z = false := take_all (p := fun z => p z = false) hz hy hp
set_option maxRecDepth 100000 in
set_option maxHeartbeats 1000000 in
theorem ixThere_calls (w : World) (ao : Option Addr) (xs : List Int) (c B : Nat) (p : Int → Bool) (hn : xs.length ≤ maxLen) (h : IntsAt w ao xs)
  (hf : ∀ W,Below w.heap.size w W → ∀ z ∈ xs,Calls Try.prog 134 #[.int .i64 z,.pointer (some ⟨B,0,none⟩)] W fun e w' => e = .returned (.bool (p z)) ∧ Below W.heap.size W w') :
  Calls Try.prog 138 #[.slice ao xs.length c,.func (.func 134) #[] #[.pointer (some ⟨B,0,none⟩)]] w fun e w' => e = .returned (.int .i64 (ixOf p xs)) ∧ Below w.heap.size w w' := by
 have H := Lib.hid h
 have HF := Lib.hid hf
 unfold maxLen at hn
 clear h hf
 go_enter Try.func138,Try.ntmps138
 go_wp2_with fail
 go_loopw [8] (fun k wr => ∃ j : Nat,j ≤ xs.length ∧ k = .int .i64 (j : Int) ∧ (∀ z ∈ xs.take j,p z = false) ∧ Below w.heap.size w wr) (fun k _ => xs.length - (intOf k).toNat)
 case atStart => exact ⟨0,Nat.zero_le _,rfl,by simp,Below.refl _ _⟩
 case round =>
  obtain ⟨j,hj,rfl,hz,hb⟩ := hrel
  by_cases hjl : j < xs.length
  ·obtain ⟨y,hy⟩ : ∃ y,xs[j]? = some y := ⟨_,List.getElem?_eq_getElem hjl⟩
   obtain ⟨g1,off,rfl,hg1,q1⟩ := H.out.below hb (by intro e; rw [e] at hjl; simp at hjl)
   have d1 : wr.cell? ⟨g1,off + j,none⟩ = some (.int .i64 y) := q1 j y hy
   have hjI : (j : Int) < (xs.length : Int) := by omega
   have HC := Lib.hid (HF.out wr hb y (List.mem_of_getElem? hy))
   obtain ⟨d,hd⟩ : ∃ d,p y = d := ⟨_,rfl⟩
   rw [hd] at HC
   have HB := Lib.hid hb
   have HZ := Lib.hid hz
   have HY := Lib.hid hy
   have HD := Lib.hid hd
   clear hb hz hy hd q1
   cases d with
   | true =>
    go_wp2_with (go_at_call 134; refine HC.out.mono ?_; rintro e w2 ⟨rfl,hb2⟩; have HB2 := Lib.hid hb2; clear hb2)
    go_ret
    exact ⟨by rw [ixOf_at HZ.out HY.out HD.out]; rfl,HB.out.trans (HB2.out.mono HB.out.size)⟩
   | false =>
    go_wp2_with (go_at_call 134; refine HC.out.mono ?_; rintro e w2 ⟨rfl,hb2⟩; have HB2 := Lib.hid hb2; clear hb2)
    go_roundw
    case rel => exact ⟨j + 1,by omega,by go_num,take_false HZ.out HY.out HD.out,HB.out.trans (HB2.out.mono HB.out.size)⟩
    case measure => simp [intOf]; omega
  ·have hje : j = xs.length := by omega
   subst hje
   rw [List.take_length] at hz
   have HM := Lib.hid (ixOf_none hz)
   have HB := Lib.hid hb
   clear hz hb
   go_wp2
   go_ret
   exact ⟨by rw [HM.out]; rfl,HB.out⟩
set_option maxRecDepth 100000 in
set_option maxHeartbeats 1000000 in
theorem ixNums_calls (w : World) (ao : Option Addr) (xs : List Int) (c B : Nat) (p : Int → Bool) (hn : xs.length ≤ maxLen) (h : IntsAt w ao xs)
  (hf : ∀ W,Below w.heap.size w W → ∀ z ∈ xs,Calls Try.prog 135 #[.int .i64 z,.pointer (some ⟨B,0,none⟩)] W fun e w' => e = .returned (.bool (p z)) ∧ Below W.heap.size W w') :
  Calls Try.prog 138 #[.slice ao xs.length c,.func (.func 135) #[] #[.pointer (some ⟨B,0,none⟩)]] w fun e w' => e = .returned (.int .i64 (ixOf p xs)) ∧ Below w.heap.size w w' := by
 have H := Lib.hid h
 have HF := Lib.hid hf
 unfold maxLen at hn
 clear h hf
 go_enter Try.func138,Try.ntmps138
 go_wp2_with fail
 go_loopw [8] (fun k wr => ∃ j : Nat,j ≤ xs.length ∧ k = .int .i64 (j : Int) ∧ (∀ z ∈ xs.take j,p z = false) ∧ Below w.heap.size w wr) (fun k _ => xs.length - (intOf k).toNat)
 case atStart => exact ⟨0,Nat.zero_le _,rfl,by simp,Below.refl _ _⟩
 case round =>
  obtain ⟨j,hj,rfl,hz,hb⟩ := hrel
  by_cases hjl : j < xs.length
  ·obtain ⟨y,hy⟩ : ∃ y,xs[j]? = some y := ⟨_,List.getElem?_eq_getElem hjl⟩
   obtain ⟨g1,off,rfl,hg1,q1⟩ := H.out.below hb (by intro e; rw [e] at hjl; simp at hjl)
   have d1 : wr.cell? ⟨g1,off + j,none⟩ = some (.int .i64 y) := q1 j y hy
   have hjI : (j : Int) < (xs.length : Int) := by omega
   have HC := Lib.hid (HF.out wr hb y (List.mem_of_getElem? hy))
   obtain ⟨d,hd⟩ : ∃ d,p y = d := ⟨_,rfl⟩
   rw [hd] at HC
   have HB := Lib.hid hb
   have HZ := Lib.hid hz
   have HY := Lib.hid hy
   have HD := Lib.hid hd
   clear hb hz hy hd q1
   cases d with
   | true =>
    go_wp2_with (go_at_call 135; refine HC.out.mono ?_; rintro e w2 ⟨rfl,hb2⟩; have HB2 := Lib.hid hb2; clear hb2)
    go_ret
    exact ⟨by rw [ixOf_at HZ.out HY.out HD.out]; rfl,HB.out.trans (HB2.out.mono HB.out.size)⟩
   | false =>
    go_wp2_with (go_at_call 135; refine HC.out.mono ?_; rintro e w2 ⟨rfl,hb2⟩; have HB2 := Lib.hid hb2; clear hb2)
    go_roundw
    case rel => exact ⟨j + 1,by omega,by go_num,take_false HZ.out HY.out HD.out,HB.out.trans (HB2.out.mono HB.out.size)⟩
    case measure => simp [intOf]; omega
  ·have hje : j = xs.length := by omega
   subst hje
   rw [List.take_length] at hz
   have HM := Lib.hid (ixOf_none hz)
   have HB := Lib.hid hb
   clear hz hb
   go_wp2
   go_ret
   exact ⟨by rw [HM.out]; rfl,HB.out⟩
theorem not_any_all (xs : List Int) (p : Int → Bool) : (!(xs.any p)) = xs.all fun v => !p v := by
 induction xs with
 | nil => rfl
 | cons x r ih => simp [Bool.not_or,ih]
theorem any_not_all {xs : List Int} {p : Int → Bool} : (xs.any fun v => !p v) = !xs.all p := by
 induction xs with
 | nil => rfl
 | cons x r ih => simp [ih,Bool.not_and]
set_option maxRecDepth 100000 in
set_option maxHeartbeats 1000000 in
theorem there_calls (m : Mo) (g : Fn) (ao : Option Addr) (xs : List Int) (c : Nat) (w : World) (hn : g.c.nvars = g.vs.length) (hl : xs.length ≤ maxLen) (h : IntsAt w ao xs) :
  Calls Try.prog 121 #[.agg (jg m g),.slice ao xs.length c] w fun e w' => e = .returned (.bool (thereF g.vs.length xs)) ∧ Below w.heap.size w w' := by
 obtain ⟨N,hN⟩ : ∃ N,w.heap.size = N := ⟨_,rfl⟩
 have HCF : Hid (Calls Try.prog 133 #[.slice ao xs.length c,.func (.func 134) #[] #[.pointer (some ⟨N,0,none⟩)]] (w.alloc (.cells (jg m g) 113)) fun e w' => e = .returned (.bool (!thereF g.vs.length xs)) ∧ Below (w.alloc (.cells (jg m g) 113)).heap.size (w.alloc (.cells (jg m g) 113)) w') := by
  have HIX := Lib.hid (ixThere_calls (w.alloc (.cells (jg m g) 113)) ao xs c N (fun v => !isVar g.vs.length v) hl (h.below ((Below.refl _ _).alloc (Nat.le_refl _) _)) (fun W hW z _ => by
   have hB : W.heap[N]? = some (.cells (jg m g) 113 (0,0)) := by
    rw [hW.block N (by simp [hN]),← hN]; exact alloc_at _ _
   refine (there1_calls m g N z W hB hn).mono ?_
   rintro e w' ⟨rfl,rfl⟩
   exact ⟨rfl,Below.refl _ _⟩))
  have HE : Hid (decide (0 ≤ ixOf (fun v => !isVar g.vs.length v) xs) = !thereF g.vs.length xs) := by
   unfold Hid thereF; rw [ixOf_any,any_not_all]
  obtain ⟨W1,hW1⟩ : ∃ W1,w.alloc (.cells (jg m g) 113) = W1 := ⟨_,rfl⟩
  rw [hW1] at HIX ⊢
  obtain ⟨z,hz⟩ : ∃ z,ixOf (fun v => !isVar g.vs.length v) xs = z := ⟨_,rfl⟩
  rw [hz] at HIX HE
  clear hW1 h hz
  go_enter Try.func133,Try.ntmps133
  go_wp2_with (go_at_call 138; refine HIX.out.mono ?_; rintro e w2 ⟨rfl,hb2⟩; have HB2 := Lib.hid hb2; clear hb2)
  go_ret
  rw [← HE.out]
  exact ⟨rfl,HB2.out⟩
 clear h hn
 obtain ⟨W1,hW1⟩ : ∃ W1,w.alloc (.cells (jg m g) 113) = W1 := ⟨_,rfl⟩
 have HW1 := Lib.hid hW1
 have HBW : Hid (Below N w W1) := by rw [← hW1,← hN]; exact (Below.refl _ _).alloc (Nat.le_refl _) _
 rw [hW1] at HCF
 obtain ⟨J,hJ⟩ : ∃ J,jg m g = J := ⟨_,rfl⟩
 rw [hJ] at hW1 ⊢
 clear hJ HW1
 obtain ⟨d,hd⟩ : ∃ d,thereF g.vs.length xs = d := ⟨_,rfl⟩
 rw [hd] at HCF ⊢
 clear hd
 go_enter Try.func121,Try.ntmps121
 go_wp2_with (go_at_call 133; refine HCF.out.mono ?_; rintro e w2 ⟨rfl,hb2⟩; have HB2 := Lib.hid hb2; clear hb2)
 go_ret
 exact ⟨by cases d <;> rfl,by rw [hN]; exact HBW.out.trans (HB2.out.mono (by have := HBW.out.size; omega))⟩
set_option maxRecDepth 100000 in
set_option maxHeartbeats 1000000 in
theorem numbers_calls5 (m : Mo) (g : Fn) (ao : Option Addr) (xs : List Int) (c : Nat) (w : World) (hr : RowOf Vr.cells 3 w w.heap.size g.c.varsA g.vs) (hn : g.c.nvars = g.vs.length) (hlv : g.vs.length ≤ maxLen) (hl : xs.length ≤ maxLen) (h : IntsAt w ao xs) (hx : ∀ z ∈ xs,isVar g.vs.length z = true) :
  Calls Try.prog 124 #[.agg (jg m g),.slice ao xs.length c] w fun e w' => e = .returned (.int .i64 (numsF g.vs xs)) ∧ Below w.heap.size w w' := by
 obtain ⟨N,hN⟩ : ∃ N,w.heap.size = N := ⟨_,rfl⟩
 have HCF : Hid (Calls Try.prog 133 #[.slice ao xs.length c,.func (.func 135) #[] #[.pointer (some ⟨N,0,none⟩)]] (w.alloc (.cells (jg m g) 113)) fun e w' => e = .returned (.bool (xs.any fun v => (tyAt g.vs v).1)) ∧ Below (w.alloc (.cells (jg m g) 113)).heap.size (w.alloc (.cells (jg m g) 113)) w') := by
  have hb0 : Below w.heap.size w (w.alloc (.cells (jg m g) 113)) := (Below.refl _ _).alloc (Nat.le_refl _) _
  have HIX := Lib.hid (ixNums_calls (w.alloc (.cells (jg m g) 113)) ao xs c N (fun v => (tyAt g.vs v).1) hl (h.below hb0) (fun W hW z hz => by
   have hB : W.heap[N]? = some (.cells (jg m g) 113 (0,0)) := by
    rw [hW.block N (by simp [hN]),← hN]; exact alloc_at _ _
   exact numbers1_calls m g N z W hB ((hr.grow hb0).grow hW) hn hlv (hx z hz)))
  have HE : Hid (decide (0 ≤ ixOf (fun v => (tyAt g.vs v).1) xs) = (xs.any fun v => (tyAt g.vs v).1)) := ixOf_any
  obtain ⟨W1,hW1⟩ : ∃ W1,w.alloc (.cells (jg m g) 113) = W1 := ⟨_,rfl⟩
  rw [hW1] at HIX ⊢
  obtain ⟨z,hz⟩ : ∃ z,ixOf (fun v => (tyAt g.vs v).1) xs = z := ⟨_,rfl⟩
  rw [hz] at HIX HE
  obtain ⟨d,hd⟩ : ∃ d,(xs.any fun v => (tyAt g.vs v).1) = d := ⟨_,rfl⟩
  rw [hd] at HE ⊢
  clear hW1 h hz hb0 hd hr hx
  go_enter Try.func133,Try.ntmps133
  go_wp2_with (go_at_call 138; refine HIX.out.mono ?_; rintro e w2 ⟨rfl,hb2⟩; have HB2 := Lib.hid hb2; clear hb2)
  go_ret
  rw [← HE.out]
  exact ⟨rfl,HB2.out⟩
 clear h hn hr hx
 have HE : Hid (unl (!(xs.any fun v => (tyAt g.vs v).1)) 7 = numsF g.vs xs) := by
  unfold Hid numsF
  congr 1
  exact not_any_all xs _
 obtain ⟨W1,hW1⟩ : ∃ W1,w.alloc (.cells (jg m g) 113) = W1 := ⟨_,rfl⟩
 have HBW : Hid (Below N w W1) := by rw [← hW1,← hN]; exact (Below.refl _ _).alloc (Nat.le_refl _) _
 rw [hW1] at HCF
 obtain ⟨J,hJ⟩ : ∃ J,jg m g = J := ⟨_,rfl⟩
 rw [hJ] at hW1 ⊢
 clear hJ
 obtain ⟨d,hd⟩ : ∃ d,(xs.any fun v => (tyAt g.vs v).1) = d := ⟨_,rfl⟩
 rw [hd] at HCF HE
 clear hd
 go_enter Try.func124,Try.ntmps124
 go_wp2_with (first
  | (go_at_call 133; refine HCF.out.mono ?_; rintro e w2 ⟨rfl,hb2⟩; have HB2 := Lib.hid hb2; clear hb2)
  | (go_at_call 81; refine (unless_calls _ _ _).mono ?_; rintro e w3 ⟨rfl,rfl⟩))
 go_ret
 exact ⟨by rw [← HE.out]; cases d <;> rfl,by rw [hN]; exact HBW.out.trans (HB2.out.mono (by have := HBW.out.size; omega))⟩
def StrsAt (w : World) (ao : Option Addr) (xs : List ByteArray) : Prop :=
 xs ≠ [] → ∃ g off,ao = some ⟨g,off,none⟩ ∧ g < w.heap.size ∧ ∀ i z,xs[i]? = some z → w.cell? ⟨g,off + i,none⟩ = some (.string z)
theorem StrsAt.below {w w' : World} {ao : Option Addr} {xs : List ByteArray} (h : StrsAt w ao xs) (hb : Below w.heap.size w w') : StrsAt w' ao xs := by
 intro hne
 obtain ⟨g,off,e,hg,hc⟩ := h hne
 exact ⟨g,off,e,Nat.lt_of_lt_of_le hg hb.size,fun i z hz => by rw [hb.cell (p := ⟨g,_,none⟩) hg]; exact hc i z hz⟩
set_option maxRecDepth 100000 in
set_option maxHeartbeats 1000000 in
theorem strIndex_calls (w : World) (c : Nat) (ao : Option Addr) (xs : List ByteArray) (z : ByteArray) (hn : xs.length ≤ maxLen) (h : StrsAt w ao xs) :
  Calls Try.prog 141 #[.slice ao xs.length c,.string z] w fun e w' => e = .returned (.int .i64 (ixOf (fun x => z == x) xs)) ∧ w = w' := by
 have H := Lib.hid h
 unfold maxLen at hn
 clear h
 go_enter Try.func141,Try.ntmps141
 go_wp2_with fail
 go_loop [8] (fun k => ∃ j : Nat,j ≤ xs.length ∧ k = .int .i64 (j : Int) ∧ ∀ x ∈ xs.take j,(z == x) = false) (fun k => xs.length - (intOf k).toNat)
 case atStart => exact ⟨0,Nat.zero_le _,rfl,by simp⟩
 case round =>
  obtain ⟨j,hj,rfl,hz⟩ := hrel
  by_cases hjl : j < xs.length
  ·obtain ⟨y,hy⟩ : ∃ y,xs[j]? = some y := ⟨_,List.getElem?_eq_getElem hjl⟩
   obtain ⟨g1,off,rfl,hg1,q1⟩ := H.out (by intro e; rw [e] at hjl; simp at hjl)
   have d1 : w.cell? ⟨g1,off + j,none⟩ = some (.string y) := q1 j y hy
   have hjI : (j : Int) < (xs.length : Int) := by omega
   obtain ⟨d,hd0⟩ : ∃ d,(z == y) = d := ⟨_,rfl⟩
   have hd : (z.toList == y.toList) = d := by rw [← beq_toListBytes]; exact hd0
   have HZ := Lib.hid hz
   have HY := Lib.hid hy
   have HD := Lib.hid hd0
   clear hy q1 hz hd0
   cases d with
   | true =>
    go_wp2
    go_ret
    exact ⟨by rw [ixOf_at HZ.out HY.out HD.out]; rfl,rfl⟩
   | false =>
    go_wp2
    go_round
    case rel => exact ⟨j + 1,by omega,by go_num,take_false (p := fun x => z == x) HZ.out HY.out HD.out⟩
    case measure => simp [intOf]; omega
  ·have hje : j = xs.length := by omega
   subst hje
   rw [List.take_length] at hz
   have HM := Lib.hid (ixOf_none (p := fun x => z == x) hz)
   clear hz
   go_wp2
   go_ret
   exact ⟨by rw [HM.out]; rfl,rfl⟩
set_option maxRecDepth 100000 in
theorem signed_calls (f : Int) (s : ByteArray) (xs : List ByteArray) (ao : Option Addr) (c : Nat) (w : World) (hn : xs.length ≤ maxLen) (h : StrsAt w ao xs) :
  Calls Try.prog 136 #[.int .i64 f,.string s,.slice ao xs.length c] w fun e w' => e = .returned (.int .i64 (signedF f s xs)) ∧ w = w' := by
 by_cases hf : f = 0
 ·subst hf
  have HC : Hid (Calls Try.prog 139 #[.slice ao xs.length c,.string s] w fun e w' => e = .returned (.bool (xs.any fun x => x == s)) ∧ w = w') := by
   have HI := Lib.hid (strIndex_calls w c ao xs s hn h)
   have HE : Hid (decide (0 ≤ ixOf (fun x => s == x) xs) = (xs.any fun x => x == s)) := by
    unfold Hid; rw [ixOf_any]; congr 1; funext x; exact BEq.comm
   obtain ⟨z,hz⟩ : ∃ z,ixOf (fun x => s == x) xs = z := ⟨_,rfl⟩
   rw [hz] at HI HE
   clear h hz
   go_enter Try.func139,Try.ntmps139
   go_wp2_with (go_at_call 141; refine HI.out.mono ?_; rintro e w2 ⟨rfl,rfl⟩)
   go_ret
   rw [← HE.out]
   exact ⟨rfl,rfl⟩
  have HE : Hid (unl (xs.any fun x => x == s) 3 = signedF 0 s xs) := rfl
  obtain ⟨d,hd⟩ : ∃ d,(xs.any fun x => x == s) = d := ⟨_,rfl⟩
  rw [hd] at HC HE
  clear h hd
  go_enter Try.func136,Try.ntmps136
  go_wp2_with (first
   | (go_at_call 139; refine HC.out.mono ?_; rintro e w2 ⟨rfl,rfl⟩)
   | (go_at_call 81; refine (unless_calls _ _ _).mono ?_; rintro e w3 ⟨rfl,rfl⟩))
  go_ret
  exact ⟨by rw [← HE.out]; rfl,rfl⟩
 ·have HE : Hid (signedF f s xs = f) := if_pos hf
  have hb : (f == 0) = false := by rw [beq_eq_false_iff_ne]; exact hf
  clear hf h
  go_enter Try.func136,Try.ntmps136
  go_wp2
  go_ret
  exact ⟨by rw [HE.out]; rfl,rfl⟩
end Go.Proofs.Ytlggjbopfnndbaa
namespace Go.Proofs.Ytlggjbopfnndbaa
open Go.RowKit
set_option maxRecDepth 100000 in
set_option maxHeartbeats 1000000 in
theorem func1_calls (f : Fn) (B : Nat) (nm : ByteArray) (w : World) (hB : w.heap[B]? = some (.cells #[.string nm] 9 (0,0))) :
  Calls Try.prog 104 #[.agg f.cells,.pointer (some ⟨B,0,none⟩)] w fun e w' => e = .returned (.bool (f.c.nm == nm)) ∧ Below w.heap.size w w' := by
 have q : w.cell? ⟨B,0,none⟩ = some (.string nm) := by rw [cell_of_row _ _ _ _ _ _ hB]; rfl
 have hBl := (Array.getElem?_eq_some_iff.1 hB).1
 have HE : Hid ((f.c.nm.toList == nm.toList) = (f.c.nm == nm)) := (beq_toListBytes _ _).symm
 simp only [Fn.cells,Cod.cells]
 clear hB
 go_enter Try.func104,Try.ntmps104
 go_wp2
 go_ret
 rw [← HE.out]
 exact ⟨rfl,(Below.refl _ _).alloc (Nat.le_refl _) _⟩
set_option maxRecDepth 100000 in
set_option maxHeartbeats 1000000 in
theorem ixFn_calls (w : World) (ao : Option Addr) (xs : List Fn) (c B : Nat) (nm : ByteArray) (hn : xs.length ≤ maxLen) (h : RowOf Fn.cells 8 w w.heap.size ao xs) (hB : w.heap[B]? = some (.cells #[.string nm] 9 (0,0))) :
  Calls Try.prog 103 #[.slice ao xs.length c,.func (.func 104) #[] #[.pointer (some ⟨B,0,none⟩)]] w fun e w' => e = .returned (.int .i64 (ixOf (fun f => f.c.nm == nm) xs)) ∧ Below w.heap.size w w' := by
 have H := Lib.hid h
 have HBB := Lib.hid hB
 unfold maxLen at hn
 have hBl := (Array.getElem?_eq_some_iff.1 hB).1
 clear h hB
 go_enter Try.func103,Try.ntmps103
 go_wp2_with fail
 go_loopw [8] (fun k wr => ∃ j : Nat,j ≤ xs.length ∧ k = .int .i64 (j : Int) ∧ (∀ f ∈ xs.take j,(f.c.nm == nm) = false) ∧ Below w.heap.size w wr) (fun k _ => xs.length - (intOf k).toNat)
 case atStart => exact ⟨0,Nat.zero_le _,rfl,by simp,Below.refl _ _⟩
 case round =>
  obtain ⟨j,hj,rfl,hz,hb⟩ := hrel
  by_cases hjl : j < xs.length
  ·obtain ⟨f,hy⟩ : ∃ y,xs[j]? = some y := ⟨_,List.getElem?_eq_getElem hjl⟩
   obtain ⟨g1,off,rfl,hg1,q1⟩ := (H.out.grow hb) (by intro e; rw [e] at hjl; simp at hjl)
   have HCA : Hid (∀ k u,f.cells.toList[k]? = some u → wr.cell? ((⟨g1,off + j * 8,none⟩ : Addr).add k) = some u) := fun k u hu => by rw [Addr.add_lit]; exact q1 j f hy k u hu
   have d0 : wr.cell? ⟨g1,off + j * 8,none⟩ = some (.string f.c.nm) := q1 j f hy 0 _ rfl
   have hjI : (j : Int) < (xs.length : Int) := by omega
   have HC := Lib.hid (func1_calls f B nm wr ((hb.block B hBl).trans HBB.out))
   obtain ⟨d,hd⟩ : ∃ d,(f.c.nm == nm) = d := ⟨_,rfl⟩
   rw [hd] at HC
   have HB := Lib.hid hb
   have HZ := Lib.hid hz
   have HY := Lib.hid hy
   have HD := Lib.hid hd
   clear hb hz hy hd q1
   cases d with
   | true =>
    go_wp2_with (first
     | (refine wpList_load_at rfl 50 _ rfl ⟨g1,off + j * 8,none⟩ rfl f.cells _ HCA.out Try.underlying50 rfl (by kernel_rfl) ?_)
     | (go_at_call 104; refine HC.out.mono ?_; rintro e w2 ⟨rfl,hb2⟩; have HB2 := Lib.hid hb2; clear hb2))
    go_ret
    exact ⟨by rw [ixOf_at (p := fun f : Fn => f.c.nm == nm) HZ.out HY.out HD.out]; rfl,HB.out.trans (HB2.out.mono HB.out.size)⟩
   | false =>
    go_wp2_with (first
     | (refine wpList_load_at rfl 50 _ rfl ⟨g1,off + j * 8,none⟩ rfl f.cells _ HCA.out Try.underlying50 rfl (by kernel_rfl) ?_)
     | (go_at_call 104; refine HC.out.mono ?_; rintro e w2 ⟨rfl,hb2⟩; have HB2 := Lib.hid hb2; clear hb2))
    go_roundw
    case rel => exact ⟨j + 1,by omega,by go_num,take_false (p := fun f : Fn => f.c.nm == nm) HZ.out HY.out HD.out,HB.out.trans (HB2.out.mono HB.out.size)⟩
    case measure => simp [intOf]; omega
  ·have hje : j = xs.length := by omega
   subst hje
   rw [List.take_length] at hz
   have HM := Lib.hid (ixOf_none (p := fun f : Fn => f.c.nm == nm) hz)
   have HB := Lib.hid hb
   clear hz hb
   go_wp2
   go_ret
   exact ⟨by rw [HM.out]; rfl,HB.out⟩
set_option maxRecDepth 100000 in
set_option maxHeartbeats 1000000 in
theorem func_calls5 (m : Mo) (nm : ByteArray) (w : World) (hn : m.fs.length ≤ maxLen) (h : RowOf Fn.cells 8 w w.heap.size m.fA m.fs) :
  Calls Try.prog 80 #[.agg m.cells,.string nm] w fun e w' => e = .returned (.int .i64 (m.fnIx nm)) ∧ Below w.heap.size w w' := by
 obtain ⟨N,hN⟩ : ∃ N,w.heap.size = N := ⟨_,rfl⟩
 have HIX : Hid (Calls Try.prog 103 #[.slice m.fA m.fs.length m.fC,.func (.func 104) #[] #[.pointer (some ⟨N + 1,0,none⟩)]] ((w.alloc (.cells m.cells 25)).alloc (.cells #[.string nm] 9)) fun e w' => e = .returned (.int .i64 (m.fnIx nm)) ∧ Below N w w') := by
  have hb : Below w.heap.size w ((w.alloc (.cells m.cells 25)).alloc (.cells #[.string nm] 9)) := ((Below.refl _ _).alloc (Nat.le_refl _) _).alloc (by simp) _
  refine (ixFn_calls _ m.fA m.fs m.fC (N + 1) nm hn (h.grow hb) (by subst hN; exact heap_alloc2_new _ _ _)).mono ?_
  rintro e w' ⟨rfl,hb'⟩
  exact ⟨rfl,by rw [← hN]; exact hb.trans (hb'.mono hb.size)⟩
 simp only [Mo.cells] at HIX ⊢
 clear h hn
 obtain ⟨z,hz⟩ : ∃ z,m.fnIx nm = z := ⟨_,rfl⟩
 rw [hz] at HIX ⊢
 clear hz
 go_enter Try.func80,Try.ntmps80
 go_wp2_with (go_at_call 103; (first | refine HIX.out.mono ?_ | (rw [hN]; refine HIX.out.mono ?_)); rintro e w2 ⟨rfl,hb2⟩; have HB2 := Lib.hid hb2; clear hb2)
 go_ret
 exact ⟨rfl,by rw [hN]; exact HB2.out⟩
set_option maxRecDepth 100000 in
set_option maxHeartbeats 1000000 in
theorem struct1_calls (f : St) (B : Nat) (nm : ByteArray) (w : World) (hB : w.heap[B]? = some (.cells #[.string nm] 9 (0,0))) :
  Calls Try.prog 117 #[.agg f.cells,.pointer (some ⟨B,0,none⟩)] w fun e w' => e = .returned (.bool (f.s.nm == nm)) ∧ Below w.heap.size w w' := by
 have q : w.cell? ⟨B,0,none⟩ = some (.string nm) := by rw [cell_of_row _ _ _ _ _ _ hB]; rfl
 have hBl := (Array.getElem?_eq_some_iff.1 hB).1
 have HE : Hid ((f.s.nm.toList == nm.toList) = (f.s.nm == nm)) := (beq_toListBytes _ _).symm
 simp only [St.cells,Stc.cells]
 clear hB
 go_enter Try.func117,Try.ntmps117
 go_wp2
 go_ret
 rw [← HE.out]
 exact ⟨rfl,(Below.refl _ _).alloc (Nat.le_refl _) _⟩
set_option maxRecDepth 100000 in
set_option maxHeartbeats 1000000 in
theorem ixSt_calls (w : World) (ao : Option Addr) (xs : List St) (c B : Nat) (nm : ByteArray) (hn : xs.length ≤ maxLen) (h : RowOf St.cells 4 w w.heap.size ao xs) (hB : w.heap[B]? = some (.cells #[.string nm] 9 (0,0))) :
  Calls Try.prog 116 #[.slice ao xs.length c,.func (.func 117) #[] #[.pointer (some ⟨B,0,none⟩)]] w fun e w' => e = .returned (.int .i64 (ixOf (fun f => f.s.nm == nm) xs)) ∧ Below w.heap.size w w' := by
 have H := Lib.hid h
 have HBB := Lib.hid hB
 unfold maxLen at hn
 have hBl := (Array.getElem?_eq_some_iff.1 hB).1
 clear h hB
 go_enter Try.func116,Try.ntmps116
 go_wp2_with fail
 go_loopw [8] (fun k wr => ∃ j : Nat,j ≤ xs.length ∧ k = .int .i64 (j : Int) ∧ (∀ f ∈ xs.take j,(f.s.nm == nm) = false) ∧ Below w.heap.size w wr) (fun k _ => xs.length - (intOf k).toNat)
 case atStart => exact ⟨0,Nat.zero_le _,rfl,by simp,Below.refl _ _⟩
 case round =>
  obtain ⟨j,hj,rfl,hz,hb⟩ := hrel
  by_cases hjl : j < xs.length
  ·obtain ⟨f,hy⟩ : ∃ y,xs[j]? = some y := ⟨_,List.getElem?_eq_getElem hjl⟩
   obtain ⟨g1,off,rfl,hg1,q1⟩ := (H.out.grow hb) (by intro e; rw [e] at hjl; simp at hjl)
   have HCA : Hid (∀ k u,f.cells.toList[k]? = some u → wr.cell? ((⟨g1,off + j * 4,none⟩ : Addr).add k) = some u) := fun k u hu => by rw [Addr.add_lit]; exact q1 j f hy k u hu
   have d0 : wr.cell? ⟨g1,off + j * 4,none⟩ = some (.string f.s.nm) := q1 j f hy 0 _ rfl
   have hjI : (j : Int) < (xs.length : Int) := by omega
   have HC := Lib.hid (struct1_calls f B nm wr ((hb.block B hBl).trans HBB.out))
   obtain ⟨d,hd⟩ : ∃ d,(f.s.nm == nm) = d := ⟨_,rfl⟩
   rw [hd] at HC
   have HB := Lib.hid hb
   have HZ := Lib.hid hz
   have HY := Lib.hid hy
   have HD := Lib.hid hd
   clear hb hz hy hd q1
   cases d with
   | true =>
    go_wp2_with (first
     | (refine wpList_load_at rfl 84 _ rfl ⟨g1,off + j * 4,none⟩ rfl f.cells _ HCA.out Try.underlying84 rfl (by kernel_rfl) ?_)
     | (go_at_call 117; refine HC.out.mono ?_; rintro e w2 ⟨rfl,hb2⟩; have HB2 := Lib.hid hb2; clear hb2))
    go_ret
    exact ⟨by rw [ixOf_at (p := fun f : St => f.s.nm == nm) HZ.out HY.out HD.out]; rfl,HB.out.trans (HB2.out.mono HB.out.size)⟩
   | false =>
    go_wp2_with (first
     | (refine wpList_load_at rfl 84 _ rfl ⟨g1,off + j * 4,none⟩ rfl f.cells _ HCA.out Try.underlying84 rfl (by kernel_rfl) ?_)
     | (go_at_call 117; refine HC.out.mono ?_; rintro e w2 ⟨rfl,hb2⟩; have HB2 := Lib.hid hb2; clear hb2))
    go_roundw
    case rel => exact ⟨j + 1,by omega,by go_num,take_false (p := fun f : St => f.s.nm == nm) HZ.out HY.out HD.out,HB.out.trans (HB2.out.mono HB.out.size)⟩
    case measure => simp [intOf]; omega
  ·have hje : j = xs.length := by omega
   subst hje
   rw [List.take_length] at hz
   have HM := Lib.hid (ixOf_none (p := fun f : St => f.s.nm == nm) hz)
   have HB := Lib.hid hb
   clear hz hb
   go_wp2
   go_ret
   exact ⟨by rw [HM.out]; rfl,HB.out⟩
set_option maxRecDepth 100000 in
set_option maxHeartbeats 1000000 in
theorem struct_calls5 (m : Mo) (nm : ByteArray) (w : World) (hn : m.ss.length ≤ maxLen) (h : RowOf St.cells 4 w w.heap.size m.sA m.ss) :
  Calls Try.prog 101 #[.agg m.cells,.string nm] w fun e w' => e = .returned (.int .i64 (m.stIx nm)) ∧ Below w.heap.size w w' := by
 obtain ⟨N,hN⟩ : ∃ N,w.heap.size = N := ⟨_,rfl⟩
 have HIX : Hid (Calls Try.prog 116 #[.slice m.sA m.ss.length m.sC,.func (.func 117) #[] #[.pointer (some ⟨N + 1,0,none⟩)]] ((w.alloc (.cells m.cells 25)).alloc (.cells #[.string nm] 9)) fun e w' => e = .returned (.int .i64 (m.stIx nm)) ∧ Below N w w') := by
  have hb : Below w.heap.size w ((w.alloc (.cells m.cells 25)).alloc (.cells #[.string nm] 9)) := ((Below.refl _ _).alloc (Nat.le_refl _) _).alloc (by simp) _
  refine (ixSt_calls _ m.sA m.ss m.sC (N + 1) nm hn (h.grow hb) (by subst hN; exact heap_alloc2_new _ _ _)).mono ?_
  rintro e w' ⟨rfl,hb'⟩
  exact ⟨rfl,by rw [← hN]; exact hb.trans (hb'.mono hb.size)⟩
 simp only [Mo.cells] at HIX ⊢
 clear h hn
 obtain ⟨z,hz⟩ : ∃ z,m.stIx nm = z := ⟨_,rfl⟩
 rw [hz] at HIX ⊢
 clear hz
 go_enter Try.func101,Try.ntmps101
 go_wp2_with (go_at_call 116; (first | refine HIX.out.mono ?_ | (rw [hN]; refine HIX.out.mono ?_)); rintro e w2 ⟨rfl,hb2⟩; have HB2 := Lib.hid hb2; clear hb2)
 go_ret
 exact ⟨rfl,by rw [hN]; exact HB2.out⟩
end Go.Proofs.Ytlggjbopfnndbaa
