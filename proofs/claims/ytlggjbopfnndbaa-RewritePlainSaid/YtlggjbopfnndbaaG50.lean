import Derived.Test.YtlggjbopfnndbaaG08
namespace Go.Proofs.Ytlggjbopfnndbaa
open Go.RowKit
set_option maxRecDepth 100000 in
set_option maxHeartbeats 2000000 in
theorem refFunc_calls (m : Mo) (nm : ByteArray) (w : World) (hn : m.fs.length ≤ maxLen) (h : RowOf Fn.cells 8 w w.heap.size m.fA m.fs) :
  Calls Try.prog 60 #[.agg m.cells,.string nm] w fun e w' => e = .returned (.int .i64 (m.fnIx nm)) ∧ Below w.heap.size w w' := by
 obtain ⟨R,hR⟩ : ∃ R,m.fnIx nm = R := ⟨_,rfl⟩
 rw [hR]
 have HR : Hid (R = ixOf (fun f : Fn => f.c.nm == nm) m.fs) := by rw [← hR]; rfl
 obtain ⟨sA,sC,fA,fC,ss,fs⟩ := m
 simp only at hn h HR
 have H := Lib.hid h
 unfold maxLen at hn
 simp only [Mo.cells]
 clear hR h
 obtain ⟨N,hN⟩ : ∃ N,w.heap.size = N := ⟨_,rfl⟩
 obtain ⟨W1,hW1⟩ : ∃ W1,w.alloc (.cells #[.slice sA ss.length sC,.slice fA fs.length fC] 25) = W1 := ⟨_,rfl⟩
 have q1 : W1.heap[N]? = some (.cells #[.slice sA ss.length sC,.slice fA fs.length fC] 25 (0,0)) := by rw [← hW1,← hN]; exact alloc_at _ _
 have c1 : W1.cell? ⟨N,0,none⟩ = some (.slice sA ss.length sC) := (cell_of_row _ _ _ _ _ _ q1).trans rfl
 have c2 : W1.cell? ⟨N,1,none⟩ = some (.slice fA fs.length fC) := (cell_of_row _ _ _ _ _ _ q1).trans rfl
 have hb1 : Below w.heap.size w W1 := by rw [← hW1]; exact (Below.refl _ _).alloc (Nat.le_refl _) _
 have HB := Lib.hid hb1
 have HW1 := Lib.hid hW1
 have H1 := Lib.hid (H.out.grow hb1)
 clear q1 hb1 hW1
 go_enter Try.func60,Try.ntmps60
 go_upto_region 1 with (fail)
 rw [HW1.out]
 go_wp2_with fail
 go_loopw [5] (fun k wr => ∃ j : Nat,j ≤ fs.length ∧ k = .int .i64 (j : Int) ∧ (∀ f ∈ fs.take j,(f.c.nm == nm) = false) ∧ wr = W1) (fun k _ => fs.length - (intOf k).toNat)
 case atStart => exact ⟨0,Nat.zero_le _,rfl,by simp,rfl⟩
 case round =>
  obtain ⟨j,hj,rfl,hz,rfl⟩ := hrel
  by_cases hjl : j < fs.length
  ·obtain ⟨f,hy⟩ : ∃ y,fs[j]? = some y := ⟨_,List.getElem?_eq_getElem hjl⟩
   obtain ⟨g1,off,rfl,hg1,q1⟩ := H1.out (by intro e; rw [e] at hjl; simp at hjl)
   have d0 : wr.cell? ⟨g1,off + j * 8,none⟩ = some (.string f.c.nm) := q1 j f hy 0 _ rfl
   have hjI : (j : Int) < (fs.length : Int) := by omega
   have HZ := Lib.hid hz
   have HY := Lib.hid hy
   by_cases hd : f.c.nm = nm
   ·subst hd
    have HRR : Hid (R = (j : Int)) := by unfold Hid; rw [HR.out]; exact ixOf_at (p := fun g : Fn => g.c.nm == f.c.nm) HZ.out HY.out (by simp)
    clear hz hy q1
    go_wp2
    go_ret
    rw [HRR.out]
    exact ⟨rfl,HB.out⟩
   ·have hd' : ¬ (f.c.nm.toList = nm.toList) := fun e => hd (eq_of_beq (by rw [beq_toListBytes,e]; simp))
    have hd1 : (f.c.nm.toList == nm.toList) = false := by simpa using hd'
    clear hd'
    have HD : Hid ((f.c.nm == nm) = false) := by unfold Hid; simp [hd]
    clear hz hy q1 hd
    go_wp2
    exact ⟨⟨j + 1,by omega,by go_num,take_false (p := fun f : Fn => f.c.nm == nm) HZ.out HY.out HD.out,by first | rfl | trivial⟩,by simp [intOf]; omega⟩
  ·have hje : j = fs.length := by omega
   subst hje
   rw [List.take_length] at hz
   have HRR : Hid (R = -1) := by unfold Hid; rw [HR.out]; exact ixOf_none (p := fun f : Fn => f.c.nm == nm) hz
   clear hz
   go_wp2
   go_ret
   rw [HRR.out]
   exact ⟨rfl,HB.out⟩
set_option maxRecDepth 100000 in
set_option maxHeartbeats 2000000 in
theorem refStruct_calls (m : Mo) (nm : ByteArray) (w : World) (hn : m.ss.length ≤ maxLen) (h : RowOf St.cells 4 w w.heap.size m.sA m.ss) :
  Calls Try.prog 83 #[.agg m.cells,.string nm] w fun e w' => e = .returned (.int .i64 (m.stIx nm)) ∧ Below w.heap.size w w' := by
 obtain ⟨R,hR⟩ : ∃ R,m.stIx nm = R := ⟨_,rfl⟩
 rw [hR]
 have HR : Hid (R = ixOf (fun f : St => f.s.nm == nm) m.ss) := by rw [← hR]; rfl
 obtain ⟨sA,sC,fA,fC,ss,fs⟩ := m
 simp only at hn h HR
 have H := Lib.hid h
 unfold maxLen at hn
 simp only [Mo.cells]
 clear hR h
 obtain ⟨N,hN⟩ : ∃ N,w.heap.size = N := ⟨_,rfl⟩
 obtain ⟨W1,hW1⟩ : ∃ W1,w.alloc (.cells #[.slice sA ss.length sC,.slice fA fs.length fC] 25) = W1 := ⟨_,rfl⟩
 have q1 : W1.heap[N]? = some (.cells #[.slice sA ss.length sC,.slice fA fs.length fC] 25 (0,0)) := by rw [← hW1,← hN]; exact alloc_at _ _
 have c1 : W1.cell? ⟨N,0,none⟩ = some (.slice sA ss.length sC) := (cell_of_row _ _ _ _ _ _ q1).trans rfl
 have c2 : W1.cell? ⟨N,1,none⟩ = some (.slice fA fs.length fC) := (cell_of_row _ _ _ _ _ _ q1).trans rfl
 have hb1 : Below w.heap.size w W1 := by rw [← hW1]; exact (Below.refl _ _).alloc (Nat.le_refl _) _
 have HB := Lib.hid hb1
 have HW1 := Lib.hid hW1
 have H1 := Lib.hid (H.out.grow hb1)
 clear q1 hb1 hW1
 go_enter Try.func83,Try.ntmps83
 go_upto_region 1 with (fail)
 rw [HW1.out]
 go_wp2_with fail
 go_loopw [5] (fun k wr => ∃ j : Nat,j ≤ ss.length ∧ k = .int .i64 (j : Int) ∧ (∀ f ∈ ss.take j,(f.s.nm == nm) = false) ∧ wr = W1) (fun k _ => ss.length - (intOf k).toNat)
 case atStart => exact ⟨0,Nat.zero_le _,rfl,by simp,rfl⟩
 case round =>
  obtain ⟨j,hj,rfl,hz,rfl⟩ := hrel
  by_cases hjl : j < ss.length
  ·obtain ⟨f,hy⟩ : ∃ y,ss[j]? = some y := ⟨_,List.getElem?_eq_getElem hjl⟩
   obtain ⟨g1,off,rfl,hg1,q1⟩ := H1.out (by intro e; rw [e] at hjl; simp at hjl)
   have d0 : wr.cell? ⟨g1,off + j * 4,none⟩ = some (.string f.s.nm) := q1 j f hy 0 _ rfl
   have hjI : (j : Int) < (ss.length : Int) := by omega
   have HZ := Lib.hid hz
   have HY := Lib.hid hy
   by_cases hd : f.s.nm = nm
   ·subst hd
    have HRR : Hid (R = (j : Int)) := by unfold Hid; rw [HR.out]; exact ixOf_at (p := fun g : St => g.s.nm == f.s.nm) HZ.out HY.out (by simp)
    clear hz hy q1
    go_wp2
    go_ret
    rw [HRR.out]
    exact ⟨rfl,HB.out⟩
   ·have hd' : ¬ (f.s.nm.toList = nm.toList) := fun e => hd (eq_of_beq (by rw [beq_toListBytes,e]; simp))
    have hd1 : (f.s.nm.toList == nm.toList) = false := by simpa using hd'
    clear hd'
    have HD : Hid ((f.s.nm == nm) = false) := by unfold Hid; simp [hd]
    clear hz hy q1 hd
    go_wp2
    exact ⟨⟨j + 1,by omega,by go_num,take_false (p := fun f : St => f.s.nm == nm) HZ.out HY.out HD.out,by first | rfl | trivial⟩,by simp [intOf]; omega⟩
  ·have hje : j = ss.length := by omega
   subst hje
   rw [List.take_length] at hz
   have HRR : Hid (R = -1) := by unfold Hid; rw [HR.out]; exact ixOf_none (p := fun f : St => f.s.nm == nm) hz
   clear hz
   go_wp2
   go_ret
   rw [HRR.out]
   exact ⟨rfl,HB.out⟩
set_option maxRecDepth 100000 in
theorem rone_calls (b : Bool) (f : Int) (w : World) : Calls Try.prog 61 #[.bool b,.int .i64 f] w fun e w' => e = .returned (.int .i64 (unl (!b) f)) ∧ Below w.heap.size w w' := by
 cases b with
 | true =>
  go_enter Try.func61,Try.ntmps61
  go_wp2
  go_ret
  exact ⟨rfl,Below.refl _ _⟩
 | false =>
  go_enter Try.func61,Try.ntmps61
  go_wp2
  go_ret
  exact ⟨rfl,Below.refl _ _⟩
theorem all_false_at {α : Type} {p : α → Bool} {xs : List α} {y : α} {j : Nat} (hy : xs[j]? = some y) (hp : p y = false) : xs.all p = false := by
 rw [List.all_eq_false]
 exact ⟨y,List.mem_of_getElem? hy,by simp [hp]⟩
set_option maxRecDepth 100000 in
set_option maxHeartbeats 2000000 in
theorem rhas_calls (g : Fn) (w : World) (ao : Option Addr) (cap : Nat) (xs : List Int) (hn : g.c.nvars = g.vs.length) (hl : xs.length ≤ maxLen) (h : IntsAt w ao xs) :
  Calls Try.prog 86 #[.agg g.cells,.slice ao xs.length cap] w fun e w' => e = .returned (.bool (thereF g.vs.length xs)) ∧ Below w.heap.size w w' := by
 obtain ⟨R,hR⟩ : ∃ R,thereF g.vs.length xs = R := ⟨_,rfl⟩
 rw [hR]
 have HR : Hid (R = xs.all (isVar g.vs.length)) := by rw [← hR]; rfl
 unfold maxLen at hl
 simp only [Fn.cells,Cod.cells]
 rw [hn]
 clear hR hn
 obtain ⟨N,hN⟩ : ∃ N,w.heap.size = N := ⟨_,rfl⟩
 obtain ⟨W1,hW1⟩ : ∃ W1,w.alloc (.cells #[.string g.c.nm,.int .i64 g.c.par,.slice g.c.varsA g.vs.length g.c.varsC,.bool g.c.rp,.string g.c.rto,.int .i64 g.c.rcl,.slice g.c.fromA g.c.nfrom g.c.fromC,.slice g.c.insA g.c.ins.length g.c.insC] 50) = W1 := ⟨_,rfl⟩
 have q1 : W1.heap[N]? = some (.cells #[.string g.c.nm,.int .i64 g.c.par,.slice g.c.varsA g.vs.length g.c.varsC,.bool g.c.rp,.string g.c.rto,.int .i64 g.c.rcl,.slice g.c.fromA g.c.nfrom g.c.fromC,.slice g.c.insA g.c.ins.length g.c.insC] 50 (0,0)) := by rw [← hW1,← hN]; exact alloc_at _ _
 have HC2 : Hid (W1.cell? ⟨N,2,none⟩ = some (.slice g.c.varsA g.vs.length g.c.varsC)) := (cell_of_row _ _ _ _ _ _ q1).trans rfl
 have hb1 : Below w.heap.size w W1 := by rw [← hW1]; exact (Below.refl _ _).alloc (Nat.le_refl _) _
 have HB := Lib.hid hb1
 have HW1 := Lib.hid hW1
 have H1 := Lib.hid (h.below hb1)
 obtain ⟨n,hnn⟩ : ∃ n,g.vs.length = n := ⟨_,rfl⟩
 rw [hnn] at HR HC2 HW1 ⊢
 clear q1 hb1 hW1 hnn h
 go_enter Try.func86,Try.ntmps86
 go_upto_region 1 with (fail)
 rw [HW1.out]
 go_wp2_with fail
 go_loopw [5] (fun k wr => ∃ j n' : Nat,j ≤ xs.length ∧ k = .int .i64 (j : Int) ∧ (∀ x ∈ xs.take j,isVar n x = true) ∧ wr = W1.drewN n') (fun k _ => xs.length - (intOf k).toNat)
 case atStart => exact ⟨0,0,Nat.zero_le _,rfl,by simp,rfl⟩
 case round =>
  obtain ⟨j,n',hj,rfl,hz,rfl⟩ := hrel
  by_cases hjl : j < xs.length
  ·obtain ⟨x,hy⟩ : ∃ y,xs[j]? = some y := ⟨_,List.getElem?_eq_getElem hjl⟩
   obtain ⟨g1,off,rfl,hg1,q1⟩ := H1.out (by intro e; rw [e] at hjl; simp at hjl)
   have d0 : W1.cell? ⟨g1,off + j,none⟩ = some (.int .i64 x) := q1 j x hy
   have c2 := HC2.out
   have hjI : (j : Int) < (xs.length : Int) := by omega
   have HZ := Lib.hid hz
   have HY := Lib.hid hy
   by_cases hx0 : x < 0
   ·have HRR : Hid (R = false) := by unfold Hid; rw [HR.out]; exact all_false_at HY.out (by unfold isVar; rw [decide_eq_false (by omega)]; rfl)
    have e0 : decide (x < 0) = true := decide_eq_true hx0
    clear hz hy q1
    go_wp2
    go_quiet (fail)
    go_wp2
    go_ret
    rw [HRR.out]
    exact ⟨rfl,below_drewN (below_drewN HB.out _) _⟩
   by_cases hxn : (n : Int) ≤ x
   ·have HRR : Hid (R = false) := by unfold Hid; rw [HR.out]; exact all_false_at HY.out (by unfold isVar; rw [decide_eq_false (show ¬ x < (n : Int) by omega),Bool.and_false])
    have e0 : decide (x < 0) = false := decide_eq_false hx0
    clear hz hy q1
    go_wp2
    go_quiet (fail)
    go_wp2
    go_ret
    rw [HRR.out]
    exact ⟨rfl,below_drewN (below_drewN HB.out _) _⟩
   ·have HD : Hid (isVar n x = true) := by unfold Hid isVar; rw [decide_eq_true (by omega),decide_eq_true (by omega)]; rfl
    have e0 : decide (x < 0) = false := decide_eq_false hx0
    have e1 : decide ((n : Int) ≤ x) = false := decide_eq_false hxn
    clear hz hy q1
    go_wp2
    go_quiet (fail)
    go_wp2
    go_roundw
    case rel => exact ⟨j + 1,_,by omega,by go_num,take_all (p := fun z => isVar n z = true) HZ.out HY.out HD.out,rfl⟩
    case measure => simp [intOf]; omega
  ·have hje : j = xs.length := by omega
   subst hje
   rw [List.take_length] at hz
   have HRR : Hid (R = true) := by unfold Hid; rw [HR.out,List.all_eq_true]; exact hz
   clear hz
   go_wp2
   go_ret
   rw [HRR.out]
   exact ⟨rfl,below_drewN HB.out _⟩
end Go.Proofs.Ytlggjbopfnndbaa
namespace Go.Proofs.Ytlggjbopfnndbaa
open Go.RowKit
theorem strsAt_lit {w : World} {B : Nat} {xs : List ByteArray} (hB : B = w.heap.size) : StrsAt (w.alloc (.cells (xs.map Value.string).toArray 9)) (some ⟨B,0,none⟩) xs := by
 subst hB
 intro _
 refine ⟨w.heap.size,0,rfl,by simp,fun k u hk => ?_⟩
 rw [Nat.zero_add,World.cell?_alloc_new]
 simp [hk]
theorem any_false_at {α : Type} {p : α → Bool} {xs : List α} (h : ∀ z ∈ xs,p z = false) : xs.any p = false := by
 rw [List.any_eq_false]
 intro x hx; rw [h x hx]; simp
set_option maxRecDepth 100000 in
set_option maxHeartbeats 2000000 in
theorem rsign_calls (s : ByteArray) (w : World) : Calls Try.prog 88 #[.string s] w fun e w' => e = .returned (.bool (signsB.any fun x => x == s)) ∧ Below w.heap.size w w' := by
 obtain ⟨R,hR⟩ : ∃ R,(signsB.any fun x => x == s) = R := ⟨_,rfl⟩
 rw [hR]
 obtain ⟨N,hN⟩ : ∃ N,w.heap.size = N := ⟨_,rfl⟩
 obtain ⟨W1,hW1⟩ : ∃ W1,w.alloc (.cells #[.string ⟨#[43]⟩,.string ⟨#[45]⟩,.string ⟨#[42]⟩,.string ⟨#[47]⟩,.string ⟨#[37]⟩,.string ⟨#[60]⟩,.string ⟨#[60,61]⟩,.string ⟨#[62]⟩,.string ⟨#[62,61]⟩,.string ⟨#[61,61]⟩,.string ⟨#[33,61]⟩] 9) = W1 := ⟨_,rfl⟩
 have hst : StrsAt W1 (some ⟨N,0,none⟩) signsB := by rw [← hW1]; exact strsAt_lit hN.symm
 have hb1 : Below w.heap.size w W1 := by rw [← hW1]; exact (Below.refl _ _).alloc (Nat.le_refl _) _
 obtain ⟨xs,hxs⟩ : ∃ xs,signsB = xs := ⟨_,rfl⟩
 have hl : xs.length = 11 := by rw [← hxs]; rfl
 rw [hxs] at hst hR
 have HS := Lib.hid hst
 have HR := Lib.hid hR
 have HB := Lib.hid hb1
 have HW1 := Lib.hid hW1
 clear hst hR hb1 hW1 hxs
 go_enter Try.func88,Try.ntmps88
 go_upto_region 2 with (fail)
 rw [HW1.out]
 go_wp2_with fail
 go_loopw [4] (fun k wr => ∃ j : Nat,j ≤ 11 ∧ k = .int .i64 (j : Int) ∧ (∀ x ∈ xs.take j,(x == s) = false) ∧ wr = W1) (fun k _ => 11 - (intOf k).toNat)
 case atStart => exact ⟨0,Nat.zero_le _,rfl,by simp,rfl⟩
 case round =>
  obtain ⟨j,hj,rfl,hz,rfl⟩ := hrel
  by_cases hjl : j < 11
  ·obtain ⟨x,hy⟩ : ∃ y,xs[j]? = some y := ⟨_,List.getElem?_eq_getElem (by omega)⟩
   obtain ⟨g1,off,hA,hg1,q1⟩ := HS.out (by intro e; rw [e] at hl; simp at hl)
   simp only [Option.some.injEq,Addr.mk.injEq,and_true] at hA
   obtain ⟨rfl,rfl⟩ := hA
   have d0 : wr.cell? ⟨N,j,none⟩ = some (.string x) := by have := q1 j x hy; rwa [Nat.zero_add] at this
   have hjI : (j : Int) < 11 := by omega
   have HZ := Lib.hid hz
   have HY := Lib.hid hy
   by_cases hd : x = s
   ·subst hd
    have HRR : Hid (R = true) := by unfold Hid; rw [← HR.out,List.any_eq_true]; exact ⟨x,List.mem_of_getElem? HY.out,by simp⟩
    clear hz hy q1
    go_wp2
    go_ret
    rw [HRR.out]
    exact ⟨rfl,HB.out⟩
   ·have hd' : ¬ (x.toList = s.toList) := fun e => hd (eq_of_beq (by rw [beq_toListBytes,e]; simp))
    have hd1 : (x.toList == s.toList) = false := by simpa using hd'
    clear hd'
    have HD : Hid ((x == s) = false) := by unfold Hid; simp [hd]
    clear hz hy q1 hd
    go_wp2
    exact ⟨⟨j + 1,by omega,by go_num,take_false (p := fun z : ByteArray => z == s) HZ.out HY.out HD.out,by first | rfl | trivial⟩,by simp [intOf]; omega⟩
  ·have hje : j = 11 := by omega
   subst hje
   rw [show (11 : Nat) = xs.length from hl.symm,List.take_length] at hz
   have HRR : Hid (R = false) := by unfold Hid; rw [← HR.out]; exact any_false_at hz
   clear hz
   go_wp2
   go_ret
   rw [HRR.out]
   exact ⟨rfl,HB.out⟩
set_option maxRecDepth 100000 in
set_option maxHeartbeats 4000000 in
theorem rknown_calls (m : Mo) (p : Bool) (s : ByteArray) (w : World) (hn : m.ss.length ≤ maxLen) (h : RowOf St.cells 4 w w.heap.size m.sA m.ss) :
  Calls Try.prog 84 #[.agg m.cells,.agg #[.bool p,.string s]] w fun e w' => e = .returned (.bool (m.known (p,s))) ∧ Below w.heap.size w w' := by
 obtain ⟨R,hR⟩ : ∃ R,m.known (p,s) = R := ⟨_,rfl⟩
 rw [hR]
 have HR : Hid (R = if p = true then decide (0 ≤ m.stIx s) else s == ByteArray.empty) := by rw [← hR]; rfl
 have HEQ := Lib.hid (ty_eqIn p false s ByteArray.empty)
 obtain ⟨N,hN⟩ : ∃ N,w.heap.size = N := ⟨_,rfl⟩
 obtain ⟨W1,hW1⟩ : ∃ W1,(w.alloc (.cells m.cells 25)).alloc (.cells #[.bool p,.string s] 45) = W1 := ⟨_,rfl⟩
 have hb1 : Below w.heap.size w W1 := by rw [← hW1]; exact ((Below.refl _ _).alloc (Nat.le_refl _) _).alloc (by simp) _
 have hs1 : W1.heap.size = N + 2 := by rw [← hW1]; simp [hN]
 have hr1 : W1.heap[N]? = some (.cells m.cells 25 (0,0)) := by rw [← hW1,← hN]; exact heap_alloc2_old _ _ _
 have hr2 : W1.heap[N + 1]? = some (.cells #[.bool p,.string s] 45 (0,0)) := by rw [← hW1,← hN]; exact heap_alloc2_new _ _ _
 have HK : Hid (∀ W,Below W1.heap.size W1 W → W.cell? ⟨N,0,none⟩ = some (.slice m.sA m.ss.length m.sC) ∧ W.cell? ⟨N,1,none⟩ = some (.slice m.fA m.fs.length m.fC) ∧ W.cell? ⟨N + 1,0,none⟩ = some (.bool p) ∧ W.cell? ⟨N + 1,1,none⟩ = some (.string s) ∧ Below w.heap.size w W) := fun W hW => by
  have q1 := (hW.block N (by omega)).trans hr1
  have q2 := (hW.block (N + 1) (by omega)).trans hr2
  exact ⟨by rw [cell_of_row _ _ _ _ _ _ q1]; rfl,by rw [cell_of_row _ _ _ _ _ _ q1]; rfl,by rw [cell_of_row _ _ _ _ _ _ q2]; rfl,by rw [cell_of_row _ _ _ _ _ _ q2]; rfl,hb1.trans (hW.mono hb1.size)⟩
 obtain ⟨c0,c1,c2,c3,_⟩ := HK.out W1 (Below.refl _ _)
 have HST := Lib.hid (refStruct_calls m s W1 hn (h.grow hb1))
 have HB := Lib.hid hb1
 have hW1' := hW1
 simp only [Mo.cells] at hW1' HST
 have HW1 := Lib.hid hW1'
 simp only [Mo.cells]
 clear hb1 hr1 hr2 hW1 hW1' h hR
 cases p with
 | false =>
  have he : (ByteArray.empty).toList = ([] : List UInt8) := by simp [ByteArray.toList,ByteArray.toList.loop]
  by_cases hs : s.toList = []
  ·have HRR : Hid (R = true) := by unfold Hid; rw [HR.out,if_neg (by simp),beq_toListBytes,he,hs]; rfl
   clear HR HEQ
   go_enter Try.func84,Try.ntmps84
   go_upto_region 1 with (fail)
   rw [HW1.out]
   go_wp2
   go_ret
   rw [HRR.out]
   exact ⟨rfl,HB.out⟩
  ·have HRR : Hid (R = false) := by unfold Hid; rw [HR.out,if_neg (by simp),beq_toListBytes,he,beq_eq_false_iff_ne]; exact hs
   clear HR HEQ
   go_enter Try.func84,Try.ntmps84
   go_upto_region 1 with (fail)
   rw [HW1.out]
   go_wp2
   go_ret
   rw [HRR.out]
   exact ⟨rfl,HB.out⟩
 | true =>
  have HRR : Hid (R = decide (0 ≤ m.stIx s)) := by unfold Hid; rw [HR.out,if_pos rfl]
  obtain ⟨x,hx⟩ : ∃ x,m.stIx s = x := ⟨_,rfl⟩
  rw [hx] at HST HRR
  clear HR HEQ hx
  by_cases hx0 : 0 ≤ x
  ·go_enter Try.func84,Try.ntmps84
   go_upto_region 1 with (fail)
   rw [HW1.out]
   go_wp2_with fail
   go_at_call 83
   refine HST.out.mono ?_
   rintro e w2 ⟨rfl,hb2⟩
   have HB2 := Lib.hid (HB.out.trans (hb2.mono HB.out.size))
   clear hb2 c0 c1 c2 c3
   go_wp2
   go_ret
   rw [HRR.out]
   exact ⟨by simp [hx0],HB2.out⟩
  ·go_enter Try.func84,Try.ntmps84
   go_upto_region 1 with (fail)
   rw [HW1.out]
   go_wp2_with fail
   go_at_call 83
   refine HST.out.mono ?_
   rintro e w2 ⟨rfl,hb2⟩
   have HB2 := Lib.hid (HB.out.trans (hb2.mono HB.out.size))
   clear c0 c1 c2 c3
   obtain ⟨_,_,c2,c3,_⟩ := HK.out w2 hb2
   clear hb2
   go_wp2
   go_ret
   rw [HRR.out]
   exact ⟨by simp,HB2.out⟩
end Go.Proofs.Ytlggjbopfnndbaa
namespace Go.Proofs.Ytlggjbopfnndbaa
open Go.RowKit
set_option maxRecDepth 100000 in
set_option maxHeartbeats 8000000 in
theorem rfield_calls (m : Mo) (g : Fn) (v f : Int) (w : World) (h : JIn w m g) (hv : isVar g.vs.length v = true) (hk : m.known (tyAt g.vs v) = true) :
  Calls Try.prog 109 #[.agg m.cells,.agg g.cells,.int .i64 v,.int .i64 f] w fun e w' => e = .returned (.tuple #[tyV (fieldF m g.vs v f).1,.int .i64 (fieldF m g.vs v f).2]) ∧ Below w.heap.size w w' := by
 have HS : Hid (∀ W s,Below w.heap.size w W → Calls Try.prog 83 #[.agg m.cells,.string s] W fun e w' => e = .returned (.int .i64 (m.stIx s)) ∧ Below W.heap.size W w') :=
  fun W s hW => refStruct_calls m s W h.mo.ns (h.mo.below hW).srow
 simp only [Mo.cells] at HS
 have HF : Hid (fieldF m g.vs v f = (if (tyAt g.vs v).1 = false then (noTy,7) else match m.ss[(m.stIx (tyAt g.vs v).2).toNat]? with
  | none => (noTy,15)
  | some s => if f < 0 then (noTy,15) else match s.fs[f.toNat]? with
   | none => (noTy,15)
   | some x => (x.ty,0) : Ty × Int)) := rfl
 have HJ := Lib.hid h
 have HK := Lib.hid hk
 obtain ⟨kv,vb,vo,xv,rfl,hkv,hvA,hvb,htv,hv0,hv1⟩ := var_at h.vars hv
 obtain ⟨⟨b,s⟩,ht⟩ : ∃ t,tyAt g.vs (kv : Int) = t := ⟨_,rfl⟩
 rw [ht] at htv
 simp only [Prod.mk.injEq] at htv
 rw [← htv.1] at hv0
 rw [← htv.2] at hv1
 rw [ht] at HF HK
 obtain ⟨F,hF⟩ : ∃ F,fieldF m g.vs (kv : Int) f = F := ⟨_,rfl⟩
 rw [hF] at HF ⊢
 have hst : ∀ (w : World) (c : Array Value),c.size = 2 → (storeCells ⟨w.heap.size,0,none⟩ [.bool b,.string s] 0).run Try.prog (w.alloc (.cells c 45)) = .ok () (w.alloc (.cells #[.bool b,.string s] 45)) := fun w c hc =>
  run_storeCells_new (P := Try.prog) w 45 c #[.bool b,.string s] (by show _ = some 2; kernel_rfl) hc (by simp [Value.oneCell'])
 have hnv := h.nv
 have hvl := h.vl
 unfold maxLen at hvl
 have hkvI : (kv : Int) < (g.vs.length : Int) := by omega
 simp only [Mo.cells,Fn.cells,Cod.cells]
 rw [hnv,hvA]
 clear h hv hk ht hF htv hnv hvA
 obtain ⟨N,hN⟩ : ∃ N,w.heap.size = N := ⟨_,rfl⟩
 obtain ⟨Wa,hWa⟩ : ∃ Wa,w.alloc (.cells #[.slice m.sA m.ss.length m.sC,.slice m.fA m.fs.length m.fC] 25) = Wa := ⟨_,rfl⟩
 have hba : Below N w Wa := by rw [← hWa,← hN]; exact (Below.refl _ _).alloc (Nat.le_refl _) _
 have hsa : Wa.heap.size = N + 1 := by rw [← hWa]; simp [hN]
 have hra : Wa.heap[N]? = some (.cells #[.slice m.sA m.ss.length m.sC,.slice m.fA m.fs.length m.fC] 25 (0,0)) := by rw [← hWa,← hN]; exact alloc_at _ _
 obtain ⟨Wb,hWb⟩ : ∃ Wb,Wa.alloc (.cells #[.string g.c.nm,.int .i64 g.c.par,.slice (some ⟨vb,vo,none⟩) g.vs.length g.c.varsC,.bool g.c.rp,.string g.c.rto,.int .i64 g.c.rcl,.slice g.c.fromA g.c.nfrom g.c.fromC,.slice g.c.insA g.c.ins.length g.c.insC] 50) = Wb := ⟨_,rfl⟩
 have hbb : Below (N + 1) Wa Wb := by rw [← hWb,← hsa]; exact (Below.refl _ _).alloc (Nat.le_refl _) _
 have hsb : Wb.heap.size = N + 2 := by rw [← hWb]; simp [hsa]
 have hrb : Wb.heap[N + 1]? = some (.cells #[.string g.c.nm,.int .i64 g.c.par,.slice (some ⟨vb,vo,none⟩) g.vs.length g.c.varsC,.bool g.c.rp,.string g.c.rto,.int .i64 g.c.rcl,.slice g.c.fromA g.c.nfrom g.c.fromC,.slice g.c.insA g.c.ins.length g.c.insC] 50 (0,0)) := by rw [← hWb,← hsa]; exact alloc_at _ _
 obtain ⟨W1,hW1⟩ : ∃ W1,Wb.alloc (.cells #[.bool false,.string ⟨#[]⟩] 45) = W1 := ⟨_,rfl⟩
 have hbc : Below (N + 2) Wb W1 := by rw [← hW1,← hsb]; exact (Below.refl _ _).alloc (Nat.le_refl _) _
 have hs1 : W1.heap.size = N + 3 := by rw [← hW1]; simp [hsb]
 have hr2 : W1.heap[N + 2]? = some (.cells #[.bool false,.string ⟨#[]⟩] 45 (0,0)) := by rw [← hW1,← hsb]; exact alloc_at _ _
 have hr1 : W1.heap[N + 1]? = _ := (hbc.block (N + 1) (by omega)).trans hrb
 have hr0 : W1.heap[N]? = _ := (hbc.block N (by omega)).trans ((hbb.block N (by omega)).trans hra)
 have hb1 : Below N w W1 := (hba.trans (hbb.mono (by omega))).trans (hbc.mono (by omega))
 have c0 : W1.cell? ⟨N + 1,2,none⟩ = some (.slice (some ⟨vb,vo,none⟩) g.vs.length g.c.varsC) := by rw [cell_of_row _ _ _ _ _ _ hr1]; rfl
 have c1 : W1.cell? ⟨vb,vo + kv * 3,none⟩ = some (.bool b) := by rw [hb1.cell (p := ⟨vb,_,none⟩) (show vb < N by omega)]; exact hv0
 have c2 : W1.cell? ⟨vb,vo + kv * 3 + 1,none⟩ = some (.string s) := by rw [hb1.cell (p := ⟨vb,_,none⟩) (show vb < N by omega)]; exact hv1
 obtain ⟨W3,hW3⟩ : ∃ W3,W1.alloc (.cells #[.bool b,.string s] 45) = W3 := ⟨_,rfl⟩
 have hb13 : Below W1.heap.size W1 W3 := by rw [← hW3]; exact (Below.refl _ _).alloc (Nat.le_refl _) _
 have hs3 : W3.heap.size = N + 4 := by rw [← hW3]; simp [hs1]
 have hr3 : W3.heap[N]? = some (.cells #[.slice m.sA m.ss.length m.sC,.slice m.fA m.fs.length m.fC] 25 (0,0)) := (hb13.block N (by omega)).trans hr0
 have hr4 : W3.heap[N + 2]? = some (.cells #[.bool false,.string ⟨#[]⟩] 45 (0,0)) := (hb13.block (N + 2) (by omega)).trans hr2
 have hr5 : W3.heap[N + 3]? = some (.cells #[.bool b,.string s] 45 (0,0)) := by rw [← hW3,← hs1]; exact alloc_at _ _
 have HB3 : Hid (Below N w W3) := hb1.trans (hb13.mono (by omega))
 have HKEEP : Hid (∀ W,Below W3.heap.size W3 W → W.cell? ⟨N,0,none⟩ = some (.slice m.sA m.ss.length m.sC) ∧ W.cell? ⟨N,1,none⟩ = some (.slice m.fA m.fs.length m.fC) ∧ W.cell? ⟨N + 3,0,none⟩ = some (.bool b) ∧ W.cell? ⟨N + 3,1,none⟩ = some (.string s) ∧
   W.cell? ⟨N + 2,0,none⟩ = some (.bool false) ∧ W.cell? ⟨N + 2,1,none⟩ = some (.string ⟨#[]⟩) ∧ W.frozen? ⟨N + 2,0,none⟩ = false ∧ W.frozen? ⟨N + 2,1,none⟩ = false ∧ N + 2 < W.heap.size) := by
  intro W hW
  have q3 := (hW.block N (by omega)).trans hr3
  have q4 := (hW.block (N + 2) (by omega)).trans hr4
  have q5 := (hW.block (N + 3) (by omega)).trans hr5
  refine ⟨?_,?_,?_,?_,?_,?_,?_,?_,(Array.getElem?_eq_some_iff.1 q4).1⟩
  ·rw [cell_of_row _ _ _ _ _ _ q3]; rfl
  ·rw [cell_of_row _ _ _ _ _ _ q3]; rfl
  ·rw [cell_of_row _ _ _ _ _ _ q5]; rfl
  ·rw [cell_of_row _ _ _ _ _ _ q5]; rfl
  ·rw [cell_of_row _ _ _ _ _ _ q4]; rfl
  ·rw [cell_of_row _ _ _ _ _ _ q4]; rfl
  ·exact frozen_of_row _ _ _ _ _ q4
  ·exact frozen_of_row _ _ _ _ _ q4
 have HR4 : Hid (∀ W,Below W3.heap.size W3 W → W.heap[N + 2]? = some (.cells #[.bool false,.string ⟨#[]⟩] 45 (0,0))) := fun W hW => (hW.block (N + 2) (by omega)).trans hr4
 have HN := Lib.hid hN
 have HW3 := Lib.hid hW3
 have HW1 : Hid (((w.alloc (.cells #[.slice m.sA m.ss.length m.sC,.slice m.fA m.fs.length m.fC] 25)).alloc (.cells #[.string g.c.nm,.int .i64 g.c.par,.slice (some ⟨vb,vo,none⟩) g.vs.length g.c.varsC,.bool g.c.rp,.string g.c.rto,.int .i64 g.c.rcl,.slice g.c.fromA g.c.nfrom g.c.fromC,.slice g.c.insA g.c.ins.length g.c.insC] 50)).alloc (.cells #[.bool false,.string ⟨#[]⟩] 45) = W1) := by unfold Hid; rw [hWa,hWb,hW1]
 clear hWa hba hsa hra hWb hbb hsb hrb hW1 hbc hr0 hr1 hr2 hb1 hW3 hb13 hr3 hr4 hr5 hv0 hv1 hvb
 go_enter Try.func109,Try.ntmps109
 go_upto_region 1 with (fail)
 rw [HW1.out]
 clear HW1 hN
 go_upto_region 2 with (fail)
 rw [HW3.out]
 clear HW3 hst c0 c1 c2 hs1
 obtain ⟨k0,k1,k2,k3,k4,k5,k6,k7,hN1⟩ := HKEEP.out W3 (Below.refl _ _)
 cases b with
 | false =>
  have HFF : Hid (F = (noTy,7)) := by rw [HF.out]; rfl
  clear HF
  go_wp2
  (try simp only [Exit.inBlock,Exit.then])
  refine bodyPost_ret (results_cell_row_tmp rfl _ _ (N + 2) 45 _ (0,0) _ rfl (set2_row (HR4.out W3 (Below.refl _ _))) Try.underlying45 (by kernel_rfl)) rfl ?_
  rw [HFF.out,HN.out]
  exact ⟨rfl,(HB3.out.setCell (by show N ≤ N + 2; omega) _).setCell (by show N ≤ N + 2; omega) _⟩
 | true =>
  obtain ⟨k,st,hk1,hk2⟩ := known_st HK.out rfl
  obtain ⟨b0,off,hA,hb0,hc0⟩ := HJ.out.mo.srow (by intro e; rw [e] at hk2; simp at hk2)
  have hkl := (List.getElem?_eq_some_iff.1 hk2).1
  have hkI : (k : Int) < (m.ss.length : Int) := by omega
  have hb0N : b0 < N := by have := HN.out; omega
  have m4 : ∀ p : BW W3,p.w.cell? ⟨b0,off + k * 4 + 1,none⟩ = some (.slice st.s.fA st.fs.length st.s.fC) := fun p => by
   rw [(HB3.out.trans (p.h.mono (by omega))).cell (p := ⟨b0,_,none⟩) hb0N]
   have := hc0 k st hk2 1 _ rfl
   rw [(HJ.out.mo.sin st (List.mem_of_getElem? hk2)).nf] at this
   exact this
  have HSC : Hid (∀ p : BW W3,Calls Try.prog 83 #[.agg #[.slice (some ⟨b0,off,none⟩) m.ss.length m.sC,.slice m.fA m.fs.length m.fC],.string s] p.w fun e w' => e = .returned (.int .i64 (k : Int)) ∧ Below p.w.heap.size p.w w') := by
   intro p
   have := HS.out p.w s (by rw [HN.out]; exact HB3.out.trans (p.h.mono (by omega)))
   rw [hk1,hA] at this
   exact this
  have HFS : Hid (F = (if f < 0 then (noTy,15) else match st.fs[f.toNat]? with
   | none => (noTy,15)
   | some x => (x.ty,0) : Ty × Int)) := by
   unfold Hid
   rw [HF.out,if_neg (by simp)]
   show (match m.ss[(m.stIx s).toNat]? with
    | none => (noTy,15)
    | some s => if f < 0 then (noTy,15) else match s.fs[f.toNat]? with
     | none => (noTy,15)
     | some x => (x.ty,0) : Ty × Int) = _
   rw [hk1,Int.toNat_natCast,hk2]
  have HIN : Hid (st.inn w) := HJ.out.mo.sin st (List.mem_of_getElem? hk2)
  have hfl90 := HIN.out.len
  unfold maxLen at hfl90
  rw [hA] at k0 HKEEP
  have m0 : ∀ p : BW W3,p.w.cell? ⟨N,0,none⟩ = some (.slice (some ⟨b0,off,none⟩) m.ss.length m.sC) := fun p => (HKEEP.out p.w p.h).1
  have m1 : ∀ p : BW W3,p.w.cell? ⟨N,1,none⟩ = some (.slice m.fA m.fs.length m.fC) := fun p => (HKEEP.out p.w p.h).2.1
  have m2 : ∀ p : BW W3,p.w.cell? ⟨N + 3,0,none⟩ = some (.bool true) := fun p => (HKEEP.out p.w p.h).2.2.1
  have m3 : ∀ p : BW W3,p.w.cell? ⟨N + 3,1,none⟩ = some (.string s) := fun p => (HKEEP.out p.w p.h).2.2.2.1
  clear HF HK hk1 hk2 hA hb0 hc0 HJ HS
  go_wp2_with fail
  clear k0 k1 k2 k3 k4 k5 k6 k7 hN1
  refine wp_region_quiet_bw (by kernel_rfl) (by kernel_rfl) ?_
  repeat (go_big_quiet_step (first | (go_at_call 83; exact bw_of (HSC.out _))))
  refine wpQuiet_nil ?_
  rintro _ ⟨p,rfl⟩
  obtain ⟨w11,h11⟩ := p
  show Exit.then _ _ _ _ w11
  obtain ⟨_,_,_,_,j4,j5,j6,j7,hN2⟩ := HKEEP.out w11 h11
  have hr11 := HR4.out w11 h11
  have HB11 : Hid (Below N w w11) := HB3.out.trans (h11.mono (by omega))
  have HR11 := Lib.hid hr11
  clear h11 HKEEP HR4 HSC hr11 m0 m1 m2 m3 m4
  by_cases hf0 : f < 0
  ·have HFF : Hid (F = (noTy,15)) := by unfold Hid; rw [HFS.out,if_pos hf0]
   clear HFS
   go_wp2
   (try simp only [Exit.inBlock,Exit.then])
   refine bodyPost_ret (results_cell_row_tmp rfl _ _ (N + 2) 45 _ (0,0) _ rfl (set2_row HR11.out) Try.underlying45 (by kernel_rfl)) rfl ?_
   rw [HFF.out,HN.out]
   exact ⟨rfl,(HB11.out.setCell (by show N ≤ N + 2; omega) _).setCell (by show N ≤ N + 2; omega) _⟩
  obtain ⟨q,rfl⟩ : ∃ q : Nat,f = (q : Int) := ⟨f.toNat,by omega⟩
  rw [if_neg hf0,Int.toNat_natCast] at HFS
  by_cases hfl : q < st.fs.length
  ·obtain ⟨x,hx⟩ : ∃ x,st.fs[q]? = some x := ⟨_,List.getElem?_eq_getElem hfl⟩
   have HFF : Hid (F = (x.ty,0)) := by unfold Hid; rw [HFS.out,hx]
   obtain ⟨b1,off1,hA1,hb1,hc1⟩ := HIN.out.row (by intro e; rw [e] at hfl; simp at hfl)
   have hb1N : b1 < N := by have := HN.out; omega
   have e1 : w11.cell? ⟨b1,off1 + q * 5 + 1,none⟩ = some (.bool x.ptr) := by rw [HB11.out.cell (p := ⟨b1,_,none⟩) hb1N]; exact hc1 q x hx 1 _ rfl
   have e2 : w11.cell? ⟨b1,off1 + q * 5 + 1 + 1,none⟩ = some (.string x.tgt) := by rw [HB11.out.cell (p := ⟨b1,_,none⟩) hb1N]; exact hc1 q x hx 2 _ rfl
   have hqI : (q : Int) < (st.fs.length : Int) := by omega
   rw [hA1]
   clear HFS hx hc1 hb1 hA1 hf0 hfl
   go_wp2
   (try simp only [Exit.inBlock,Exit.then])
   refine bodyPost_ret (results_cell_row_tmp rfl _ _ (N + 2) 45 _ (0,0) _ rfl (set2_row HR11.out) Try.underlying45 (by kernel_rfl)) rfl ?_
   rw [HFF.out,HN.out]
   exact ⟨rfl,(HB11.out.setCell (by show N ≤ N + 2; omega) _).setCell (by show N ≤ N + 2; omega) _⟩
  ·have HFF : Hid (F = (noTy,15)) := by unfold Hid; rw [HFS.out,List.getElem?_eq_none (by omega)]
   have hqI : (st.fs.length : Int) ≤ (q : Int) := by omega
   clear HFS hf0 hfl
   go_wp2
   (try simp only [Exit.inBlock,Exit.then])
   refine bodyPost_ret (results_cell_row_tmp rfl _ _ (N + 2) 45 _ (0,0) _ rfl (set2_row HR11.out) Try.underlying45 (by kernel_rfl)) rfl ?_
   rw [HFF.out,HN.out]
   exact ⟨rfl,(HB11.out.setCell (by show N ≤ N + 2; omega) _).setCell (by show N ≤ N + 2; omega) _⟩
end Go.Proofs.Ytlggjbopfnndbaa
