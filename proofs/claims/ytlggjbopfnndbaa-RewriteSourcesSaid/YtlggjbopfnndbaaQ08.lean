import Derived.Test.YtlggjbopfnndbaaQ07
import Derived.Test.YtlggjbopfnndbaaSep
import Derived.Test.YtlggjbopfnndbaaOpen

namespace Go.Proofs.Ytlggjbopfnndbaa
open Go.RowKit

theorem info_u64 : (Try.prog.info? 125).map (fun i => (i.zero, i.size, i.bytes)) = some (some (.int .u64 0), 1, 8) := by kernel_rfl

theorem wordCells_rep (n : Nat) : Array.replicate n (Value.int .u64 0) = wordCells n (fun _ => 0) := by
  apply Array.ext_getElem?
  intro j
  by_cases hj : j < n
  · rw [wordCells_get _ hj]; simp [hj]
  · rw [Array.getElem?_eq_none (by simp; omega), Array.getElem?_eq_none (by rw [wordCells_size]; omega)]

set_option maxRecDepth 100000 in
theorem newBits_calls (w : World) (n : Nat) (hn : n ≤ 90000) : Calls Try.prog 62 #[.int .i64 (n : Int)] w fun e w' =>
    e = .returned (.slice (some ⟨w.heap.size, 0, none⟩) ((n + 63) / 64) ((n + 63) / 64)) ∧ w' = w.alloc (.cells (wordCells ((n + 63) / 64) (fun _ => 0)) 125) := by
  obtain ⟨q, hq⟩ : ∃ q, (n + 63) / 64 = q := ⟨_, rfl⟩
  have hqI : ((n : Int) + 63).tdiv 64 = (q : Int) := by rw [← hq, Int.tdiv_eq_ediv_of_nonneg (by omega)]; omega
  have hq2 : ((n : Int) + 63) / 64 = (q : Int) := by omega
  have hqb : q ≤ 90000 := by omega
  obtain ⟨i1, hi, hz0, hz1, hz2⟩ := info_parts info_u64
  rw [hq]
  go_enter Try.func62, Try.ntmps62
  go_wp2_with (at_make; refine wpList_make_at rfl (.tmp 5) (.tmp 5) 99 rfl 125 i1 (.int .u64 0) Try.underlying99 hi hz0 hz1 rfl .i64 .i64 _ _ q rfl rfl rfl rfl (by rw [hz2]; omega) (by unfold maxLen; omega) ?_; (try simp only [List.toArray_replicate]); rw [wordCells_rep])
  go_ret
  exact ⟨rfl, rfl⟩
end Go.Proofs.Ytlggjbopfnndbaa


namespace Go.Proofs.Ytlggjbopfnndbaa
open Go.RowKit

def encN (x : Nat) : List Value := [.int .i64 (x : Int)]
def encB (b : Bool) : List Value := [.bool b]

theorem flat_one {α β : Type} (f : α → β) : ∀ l : List α, (l.flatMap fun x => [f x]) = l.map f
  | [] => rfl
  | x :: r => by rw [List.flatMap_cons, flat_one f r]; rfl
theorem encN_flat (l : List Nat) : l.flatMap encN = l.map (fun x : Nat => Value.int .i64 (x : Int)) := flat_one _ l
theorem encN_len (l : List Nat) : (l.flatMap encN).length = l.length := by rw [encN_flat]; simp
theorem encB_flat (l : List Bool) : l.flatMap encB = l.map Value.bool := flat_one _ l

theorem rf_succ (p : Nat → Bool) (j : Nat) : (List.range (j + 1)).filter p = if p j = true then (List.range j).filter p ++ [j] else (List.range j).filter p := by
  rw [List.range_succ, List.filter_append, List.filter_cons]
  split <;> simp
theorem rf_len (p : Nat → Bool) (j : Nat) : ((List.range j).filter p).length ≤ j := Nat.le_trans (List.length_filter_le _ _) (by simp)

def truC (n : Nat) (f : Nat → Bool) : Array Value := ((List.range n).map fun i => Value.bool (f i)).toArray
theorem truC_size (n : Nat) (f : Nat → Bool) : (truC n f).size = n := by simp [truC]
theorem truC_get {n i : Nat} (f : Nat → Bool) (h : i < n) : (truC n f)[i]? = some (.bool (f i)) := by simp [truC, h]
theorem truC_set (n i : Nat) (v : Bool) (f : Nat → Bool) : (truC n f).setIfInBounds i (.bool v) = truC n (fun x => if x = i then v else f x) := by
  apply Array.ext_getElem?
  intro j
  rw [Array.getElem?_setIfInBounds]
  by_cases hj : j < n
  · rw [truC_get _ hj, truC_get _ hj]
    by_cases h : i = j
    · subst h; simp [truC_size, hj]
    · rw [if_neg h, if_neg (fun e => h e.symm)]
  · have e : ∀ g, (truC n g)[j]? = none := fun g => Array.getElem?_eq_none (by rw [truC_size]; omega)
    rw [e, e]
    by_cases h : i = j
    · subst h; rw [if_pos rfl, if_neg (by rw [truC_size]; omega)]
    · rw [if_neg h]
theorem truC_rep (n : Nat) : Array.replicate n (Value.bool false) = truC n (fun _ => false) := by
  apply Array.ext_getElem?
  intro j
  by_cases hj : j < n
  · rw [truC_get _ hj]; simp [hj]
  · rw [Array.getElem?_eq_none (by simp; omega), Array.getElem?_eq_none (by rw [truC_size]; omega)]
theorem truC_same {n : Nat} {f g : Nat → Bool} (h : ∀ x, x < n → f x = g x) : truC n f = truC n g := by
  apply Array.ext_getElem?
  intro j
  by_cases hj : j < n
  · rw [truC_get _ hj, truC_get _ hj, h j hj]
  · rw [Array.getElem?_eq_none (by rw [truC_size]; omega), Array.getElem?_eq_none (by rw [truC_size]; omega)]

section
variable {w : World} {e : TypeId} {size : Nat}

/-- A row, as what comes behind the dots of an append. -/
theorem row_news {base sz m cap : Nat} {ao : Option Addr} {xs : List Value} (h : w.ownsRow base e sz (.slice ao m cap) m xs) : (ao = none → m = 0) ∧ ∀ ad, ao = some ad → ∀ j u, xs[j]? = some u → w.cell? (ad.add j) = some u := by
  refine ⟨fun e => ?_, fun ad e j u hu => ?_⟩
  · rcases h.2 with ⟨h1, h2⟩ | ⟨g', cap', cur, h1, _⟩
    · exact h2
    · subst e; cases h1
  · subst e
    rcases h.2 with ⟨h1, h2⟩ | ⟨g', cap', cur, h1, _⟩
    · cases h1
    · simp only [Value.slice.injEq, Option.some.injEq] at h1
      obtain ⟨rfl, _⟩ := h1
      exact h.cells (g := g') rfl j u hu

/-- A row's things. -/
theorem ownsRow_get {base m cap : Nat} {ao : Option Addr} {xs : List Value} (h : w.ownsRow base e size (.slice ao m cap) m xs) {j : Nat} {u : Value} (hu : xs[j]? = some u) : ∃ g, ao = some ⟨g, 0, none⟩ ∧ g < w.heap.size ∧ w.cell? ⟨g, j, none⟩ = some u := by
  rcases h.2 with ⟨h1, h2⟩ | ⟨g, cap', cur, h1, h2, h3, h4, h5, h6, h7⟩
  · have := h.1
    subst h2
    have := (List.getElem?_eq_some_iff.1 hu).1
    omega
  · have hs : ao = some ⟨g, 0, none⟩ := by simp only [Value.slice.injEq] at h1; exact h1.1
    refine ⟨g, hs, (Array.getElem?_eq_some_iff.1 h3).1, ?_⟩
    rw [cell_of_row _ _ _ _ _ _ h3]
    rw [← h7, List.getElem?_take] at hu
    split at hu
    · simpa using hu
    · simp at hu

theorem ownsRow_slice {base m sz : Nat} {v : Value} {xs : List Value} (h : w.ownsRow base e sz v m xs) : ∃ ao cap, v = .slice ao m cap := by
  rcases h.2 with ⟨h1, h2⟩ | ⟨g, cap, cur, h1, _⟩
  · exact ⟨none, 0, by rw [h2]; exact h1⟩
  · exact ⟨_, _, h1⟩
end

/-- A row that is picked. -/
def PkI (p : Nat → Bool) (B : Nat) (w0 : World) (j : Nat) (v : Value) (wr : World) : Prop :=
  wr.ownsRow B 3 1 v ((List.range j).filter p).length (((List.range j).filter p).flatMap encN) ∧ Below B w0 wr ∧ B ≤ wr.heap.size

theorem PkI.skip {p : Nat → Bool} {B j : Nat} {w0 wr : World} {v : Value} (h : PkI p B w0 j v wr) (hp : p j = false) : PkI p B w0 (j + 1) v wr := by
  unfold PkI
  rw [rf_succ, hp]; exact h

theorem PkI.app {p : Nat → Bool} {B j : Nat} {w0 wr wA w5 : World} {v v5 : Value} (h : PkI p B w0 j v wr) (hp : p j = true) (hA : Below B wr wA) (hs : wr.heap.size ≤ wA.heap.size) (hown : w5.ownsRow B 3 1 v5 (((List.range j).filter p).length + 1) (((List.range j).filter p).flatMap encN ++ [.int .i64 (j : Int)]))
    (hg : wA.grownBy w5 v.ownBlock) : PkI p B w0 (j + 1) v5 w5 := by
  unfold PkI
  rw [rf_succ, hp, if_pos rfl, List.length_append, List.flatMap_append]
  have hx : Ext (fun k => B ≤ k) wA w5 := Ext.of_grown (M := fun k => B ≤ k) hg (fun k hk => .inl (h.1.lt k hk).1)
  exact ⟨hown, (h.2.1.trans hA).trans (hx.below (by have := h.2.2; omega) (fun _ h => h)), by have := h.2.2; have := hx.size; omega⟩

/-- Behind a function that makes a row of numbers. -/
def GivesN (w : World) (xs : List Nat) (e : Ending) (w' : World) : Prop :=
  ∃ v, e = .returned v ∧ w'.ownsRow w.heap.size 3 1 v xs.length (xs.flatMap encN) ∧ Below w.heap.size w w'
end Go.Proofs.Ytlggjbopfnndbaa


namespace Go.Proofs.Ytlggjbopfnndbaa

theorem bytes_inj {x y : ByteArray} (h : x.data.toList = y.data.toList) : x = y := by
  obtain ⟨a⟩ := x
  obtain ⟨b⟩ := y
  have : a = b := Array.ext' h
  rw [this]

instance lawfulBytes : LawfulBEq ByteArray where
  eq_of_beq {a b} h := bytes_inj (by have : a.data = b.data := eq_of_beq (show (a.data == b.data) = true from h); rw [this])
  rfl {a} := show (a.data == a.data) = true from BEq.rfl

theorem lit_ne {x y : ByteArray} (h : x ≠ y) : Lit.string x.data.toList ≠ Lit.string y.data.toList := fun e => h (bytes_inj (by simpa using e))
end Go.Proofs.Ytlggjbopfnndbaa


namespace Go.Proofs.Ytlggjbopfnndbaa
open Go.RowKit

abbrev Ty := Bool × ByteArray
def noTy : Ty := (false, ByteArray.empty)

/-- A field's cells. -/
structure Fd where
  nm : ByteArray
  ptr : Bool
  tgt : ByteArray
  ln : Int
  cl : Int
def Fd.cells (f : Fd) : Array Value := #[.string f.nm, .bool f.ptr, .string f.tgt, .int .i64 f.ln, .int .i64 f.cl]
def Fd.ty (f : Fd) : Ty := (f.ptr, f.tgt)
def Vr.ty (v : Vr) : Ty := (v.ptr, v.tgt)

/-- A struct, with its fields. -/
structure St where
  s : Stc
  fs : List Fd
def St.cells (s : St) : Array Value := s.s.cells

/-- A function, with its variables, origins, and the modes of its instructions. -/
structure Fn where
  c : Cod
  vs : List Vr
  frm : List Int
  mds : List (List Int)
def Fn.cells (f : Fn) : Array Value := f.c.cells
def Fn.ret (f : Fn) : Ty := (f.c.rp, f.c.rto)

/-- A module. -/
structure Mo where
  sA : Option Addr
  sC : Nat
  fA : Option Addr
  fC : Nat
  ss : List St
  fs : List Fn
def Mo.cells (m : Mo) : Array Value := #[.slice m.sA m.ss.length m.sC, .slice m.fA m.fs.length m.fC]

/-- A function lies in memory. -/
structure Fn.inn (w : World) (f : Fn) : Prop where
  code : f.c.inn w
  nm : f.c.nm.size ≤ maxLen
  nvars : f.c.nvars = f.vs.length
  vars : RowOf Vr.cells 3 w w.heap.size f.c.varsA f.vs
  nfrom : f.c.nfrom = f.frm.length
  frm : IntRow w f.c.fromA f.frm
  nmds : f.mds.length = f.c.ins.length
  mds : ∀ (k : Nat) (i : Ins) (l : List Int), f.c.ins[k]? = some i → f.mds[k]? = some l → ∃ ao cap, i.modeV = .slice ao l.length cap ∧ IntRow w ao l

structure St.inn (w : World) (s : St) : Prop where
  nf : s.s.nf = s.fs.length
  row : RowOf Fd.cells 5 w w.heap.size s.s.fA s.fs
  len : s.fs.length ≤ maxLen
  nm : s.s.nm.size ≤ maxLen
  fnm : ∀ f ∈ s.fs, f.nm.size ≤ maxLen

structure Mo.inn (w : World) (m : Mo) : Prop where
  srow : RowOf St.cells 4 w w.heap.size m.sA m.ss
  frow : RowOf Fn.cells 8 w w.heap.size m.fA m.fs
  sin : ∀ s ∈ m.ss, s.inn w
  fin : ∀ f ∈ m.fs, f.inn w
  ns : m.ss.length ≤ maxLen
  nf : m.fs.length ≤ maxLen

theorem Fn.inn.below {w w' : World} {f : Fn} (h : f.inn w) (hb : Below w.heap.size w w') : f.inn w' :=
  ⟨h.code.below hb, h.nm, h.nvars, h.vars.grow hb, h.nfrom, RowOf.grow h.frm hb, h.nmds, fun k i l h1 h2 => by
    obtain ⟨ao, cap, e1, e2⟩ := h.mds k i l h1 h2
    exact ⟨ao, cap, e1, RowOf.grow e2 hb⟩⟩

theorem St.inn.below {w w' : World} {s : St} (h : s.inn w) (hb : Below w.heap.size w w') : s.inn w' := ⟨h.nf, h.row.grow hb, h.len, h.nm, h.fnm⟩

theorem Mo.inn.below {w w' : World} {m : Mo} (h : m.inn w) (hb : Below w.heap.size w w') : m.inn w' :=
  ⟨h.srow.grow hb, h.frow.grow hb, fun s hs => (h.sin s hs).below hb, fun f hf => (h.fin f hf).below hb, h.ns, h.nf⟩

end Go.Proofs.Ytlggjbopfnndbaa


namespace Go.Proofs.Ytlggjbopfnndbaa
open Go.RowKit

def lentC (ptr : Bool) (cls : Int) : Bool := ptr && (cls == 2 || cls == 3)
def Vr.lent (v : Vr) : Bool := lentC v.ptr v.cls
def Fn.lentAt (g : Fn) (v : Int) : Bool := decide (0 ≤ v) && (match g.vs[v.toNat]? with
  | some x => x.lent
  | none => false)
def Fn.lentRet (g : Fn) : Bool := lentC g.c.rp g.c.rcl

/-- Origins: x f u n: has variable u of function f (u the number of its variables: its result) parameter n? And: was something new? -/
structure RS where
  x : Nat → Nat → Nat → Bool
  is : Bool

def newR (P : Nat) (x : Nat → Nat → Nat → Bool) (f d a : Nat) : Bool := (List.range P).any fun n => x f a n && !x f d n
def orR (x : Nat → Nat → Nat → Bool) (f d a : Nat) : Nat → Nat → Nat → Bool := fun g u n => if g = f ∧ u = d then x f d n || x f a n else x g u n

/-- All of a to d. -/
def RS.join (P : Nat) (s : RS) (f d a : Nat) : RS := ⟨orR s.x f d a, newR P s.x f d a || s.is⟩

/-- A call of h with these arguments, of which the first is number n. -/
def callR (ml : Nat → Nat) (f : Nat) (g : Fn) (d : Int) (h : Nat) : Nat → List Int → RS → RS
  | _, [], s => s
  | n, a :: r, s => callR ml f g d h (n + 1) r (if (g.lentAt d && g.lentAt a && s.x h (ml h) n) = true then s.join g.c.par.toNat f d.toNat a.toNat else s)

/-- An instruction. ml: how many variables each function has. -/
def insR (ml : Nat → Nat) (f : Nat) (g : Fn) (i : Ins) (s : RS) : RS :=
  if i.op = 9 ∨ i.op = 10 then (if (g.lentAt i.d && g.lentAt i.a) = true then s.join g.c.par.toNat f i.d.toNat i.a.toNat else s)
  else if i.op = 15 then callR ml f g i.d i.f.toNat 0 i.args s
  else if i.op = 18 then (if (g.lentRet && g.lentAt i.a) = true then s.join g.c.par.toNat f g.vs.length i.a.toNat else s)
  else s

def codeR (ml : Nat → Nat) (f : Nat) (g : Fn) (l : List Ins) (s : RS) : RS := l.foldl (fun s i => insR ml f g i s) s
def funcsR (ml : Nat → Nat) : Nat → List Fn → RS → RS
  | _, [], s => s
  | f, g :: r, s => funcsR ml (f + 1) r (codeR ml f g g.c.ins s)

def Mo.nv (m : Mo) (f : Nat) : Nat := match m.fs[f]? with
  | some g => g.vs.length
  | none => 0

/-- A round. -/
def passR (m : Mo) (x : Nat → Nat → Nat → Bool) : RS := funcsR m.nv 0 m.fs ⟨x, false⟩

/-- Each lent parameter is of itself. -/
def initR (m : Mo) : Nat → Nat → Nat → Bool := fun f u n => match m.fs[f]? with
  | some g => decide (u = n) && decide ((u : Int) < g.c.par) && decide (u < g.vs.length) && g.lentAt (u : Int)
  | none => false

def roundsR (m : Mo) : Nat → Nat → Nat → Nat → Bool
  | 0 => initR m
  | k + 1 => (passR m (roundsR m k)).x

/-- One has all that the other has. -/
def leR (x y : Nat → Nat → Nat → Bool) : Prop := ∀ f u n, x f u n = true → y f u n = true
theorem leR.refl (x : Nat → Nat → Nat → Bool) : leR x x := fun _ _ _ h => h
theorem leR.trans {x y z : Nat → Nat → Nat → Bool} (h1 : leR x y) (h2 : leR y z) : leR x z := fun f u n h => h2 f u n (h1 f u n h)

theorem leR_or (x : Nat → Nat → Nat → Bool) (f d a : Nat) : leR x (orR x f d a) := by
  intro g u n h
  unfold orR
  split
  · rename_i e; rw [← e.1, ← e.2, h]; rfl
  · exact h

/-- What a step keeps: no less is there; and where nothing was new, nothing has changed below the numbers of parameters, and nothing was new ahead of it either. -/
structure StepR (B V : Nat → Nat) (s t : RS) : Prop where
  le : leR s.x t.x
  was : t.is = false → s.is = false ∧ ∀ f u n, n < B f → t.x f u n = s.x f u n
  new : s.is = false → t.is = true → ∃ f u n, n < B f ∧ u ≤ V f ∧ s.x f u n = false ∧ t.x f u n = true

theorem StepR.refl (B V : Nat → Nat) (s : RS) : StepR B V s s := ⟨leR.refl _, fun h => ⟨h, fun _ _ _ _ => rfl⟩, fun h1 h2 => absurd (h1.symm.trans h2) (by decide)⟩

theorem StepR.trans {B V : Nat → Nat} {s t q : RS} (h1 : StepR B V s t) (h2 : StepR B V t q) : StepR B V s q := by
  refine ⟨h1.le.trans h2.le, fun h => ?_, fun h3 h4 => ?_⟩
  · obtain ⟨a1, a2⟩ := h2.was h
    obtain ⟨b1, b2⟩ := h1.was a1
    exact ⟨b1, fun f u n hn => (a2 f u n hn).trans (b2 f u n hn)⟩
  · cases ht : t.is with
    | true =>
      obtain ⟨f, u, n, e1, e0, e2, e3⟩ := h1.new h3 ht
      exact ⟨f, u, n, e1, e0, e2, h2.le f u n e3⟩
    | false =>
      obtain ⟨f, u, n, e1, e0, e2, e3⟩ := h2.new ht h4
      obtain ⟨_, b2⟩ := h1.was ht
      exact ⟨f, u, n, e1, e0, by rw [← b2 f u n e1]; exact e2, e3⟩

theorem StepR.join {B V : Nat → Nat} {P : Nat} (s : RS) (f d a : Nat) (hP : P = B f) (hd : d ≤ V f) : StepR B V s (s.join P f d a) := by
  refine ⟨leR_or _ _ _ _, fun h => ?_, fun h1 h2 => ?_⟩
  · unfold RS.join at h
    simp only [Bool.or_eq_false_iff] at h
    refine ⟨h.2, fun g u n hn => ?_⟩
    show orR s.x f d a g u n = s.x g u n
    unfold orR
    split
    · rename_i e
      obtain ⟨rfl, rfl⟩ := e
      have h3 := h.1
      unfold newR at h3
      rw [List.any_eq_false] at h3
      have h4 := h3 n (by rw [List.mem_range, hP]; exact hn)
      cases e1 : s.x g u n <;> cases e2 : s.x g a n <;> simp_all
    · rfl
  · unfold RS.join at h2
    simp only [h1, Bool.or_false] at h2
    unfold newR at h2
    rw [List.any_eq_true] at h2
    obtain ⟨n, hn, hx⟩ := h2
    rw [List.mem_range, hP] at hn
    simp only [Bool.and_eq_true, Bool.not_eq_true'] at hx
    refine ⟨f, d, n, hn, hd, hx.2, ?_⟩
    show orR s.x f d a f d n = true
    unfold orR
    rw [if_pos ⟨rfl, rfl⟩, hx.1, Bool.or_true]

theorem lentAt_lt {g : Fn} {v : Int} (h : g.lentAt v = true) : 0 ≤ v ∧ v.toNat < g.vs.length := by
  unfold Fn.lentAt at h
  rw [Bool.and_eq_true, decide_eq_true_eq] at h
  refine ⟨h.1, ?_⟩
  rcases Nat.lt_or_ge v.toNat g.vs.length with q | q
  · exact q
  · rw [List.getElem?_eq_none q] at h; exact absurd h.2 (by simp)

theorem StepR.call {B V ml : Nat → Nat} {f : Nat} {g : Fn} (hP : g.c.par.toNat = B f) (hV : g.vs.length = V f) (d : Int) (h : Nat) : ∀ (l : List Int) (n : Nat) (s : RS), StepR B V s (callR ml f g d h n l s)
  | [], _, s => StepR.refl B V s
  | a :: r, n, s => by
    unfold callR
    split
    · rename_i hc
      simp only [Bool.and_eq_true] at hc
      exact (StepR.join s f _ _ hP (by have := (lentAt_lt hc.1.1).2; omega)).trans (StepR.call hP hV d h r (n + 1) _)
    · exact StepR.call hP hV d h r (n + 1) _

theorem StepR.ins {B V ml : Nat → Nat} {f : Nat} {g : Fn} (hP : g.c.par.toNat = B f) (hV : g.vs.length = V f) (i : Ins) (s : RS) : StepR B V s (insR ml f g i s) := by
  unfold insR
  split
  · split
    · rename_i hc
      simp only [Bool.and_eq_true] at hc
      exact StepR.join s _ _ _ hP (by have := (lentAt_lt hc.1).2; omega)
    · exact StepR.refl B V s
  · split
    · exact StepR.call hP hV _ _ _ _ _
    · split
      · split
        · exact StepR.join s _ _ _ hP (by omega)
        · exact StepR.refl B V s
      · exact StepR.refl B V s

theorem StepR.code {B V ml : Nat → Nat} {f : Nat} {g : Fn} (hP : g.c.par.toNat = B f) (hV : g.vs.length = V f) : ∀ (l : List Ins) (s : RS), StepR B V s (codeR ml f g l s)
  | [], s => StepR.refl B V s
  | i :: r, s => (StepR.ins hP hV i s).trans (StepR.code hP hV r _)

theorem StepR.funcs {B V ml : Nat → Nat} : ∀ (l : List Fn) (f : Nat) (s : RS), (∀ (k : Nat) (g : Fn), l[k]? = some g → g.c.par.toNat = B (f + k) ∧ g.vs.length = V (f + k)) → StepR B V s (funcsR ml f l s)
  | [], _, s, _ => StepR.refl B V s
  | g :: r, f, s, h => (StepR.code (h 0 g rfl).1 (h 0 g rfl).2 g.c.ins s).trans (StepR.funcs r (f + 1) _ (fun k x hx => by rw [show f + 1 + k = f + (k + 1) from by omega]; exact h (k + 1) x (by simpa using hx)))

def Mo.np (m : Mo) (f : Nat) : Nat := match m.fs[f]? with
  | some g => g.c.par.toNat
  | none => 0

/-- **A round**: it takes nothing away; where it says false nothing has changed; where it says true something is new. -/
theorem passR_step (m : Mo) (x : Nat → Nat → Nat → Bool) : StepR m.np m.nv ⟨x, false⟩ (passR m x) :=
  StepR.funcs m.fs 0 _ fun k g hg => by unfold Mo.np Mo.nv; rw [Nat.zero_add, hg]; exact ⟨rfl, rfl⟩

/-- All places of sets. -/
def Mo.places (m : Mo) : List (Nat × Nat × Nat) := (List.range m.fs.length).flatMap fun f => (List.range (m.nv f + 1)).flatMap fun u => (List.range (m.np f)).map fun n => (f, u, n)

theorem mem_places {m : Mo} {f u n : Nat} (hu : u ≤ m.nv f) (hn : n < m.np f) : (f, u, n) ∈ m.places := by
  have hf : f < m.fs.length := by
    rcases Nat.lt_or_ge f m.fs.length with h | h
    · exact h
    · unfold Mo.np at hn; rw [List.getElem?_eq_none h] at hn; exact absurd hn (Nat.not_lt_zero _)
  unfold Mo.places
  simp only [List.mem_flatMap, List.mem_range, List.mem_map]
  exact ⟨f, hf, u, by omega, n, hn, rfl⟩

/-- How many are not there. -/
def Mo.lack (m : Mo) (x : Nat → Nat → Nat → Bool) : Nat := (m.places.filter fun p => !x p.1 p.2.1 p.2.2).length

theorem filter_len_le {α : Type} {p q : α → Bool} (h : ∀ a, p a = true → q a = true) : ∀ l : List α, (l.filter p).length ≤ (l.filter q).length
  | [] => Nat.le_refl _
  | a :: r => by
    have ih := filter_len_le h r
    rw [List.filter_cons, List.filter_cons]
    cases hp : p a with
    | true => rw [h a hp]; simp; exact ih
    | false =>
      cases hq : q a with
      | true => simp; omega
      | false => simpa using ih

theorem filter_len_lt {α : Type} {p q : α → Bool} (h : ∀ a, p a = true → q a = true) {b : α} (hp : p b = false) (hq : q b = true) : ∀ l : List α, b ∈ l → (l.filter p).length < (l.filter q).length
  | [], hb => absurd hb (by simp)
  | a :: r, hb => by
    rw [List.filter_cons, List.filter_cons]
    rcases List.mem_cons.1 hb with e | e
    · subst e
      rw [hp, hq]
      have := filter_len_le h r
      simp; omega
    · have ih := filter_len_lt h hp hq r e
      cases h1 : p a with
      | true => rw [h a h1]; simp; exact ih
      | false =>
        cases h2 : q a with
        | true => simp; omega
        | false => simpa using ih

/-- A round in which something was new leaves less to come. -/
theorem passR_less (m : Mo) (x : Nat → Nat → Nat → Bool) (h : (passR m x).is = true) : m.lack (passR m x).x < m.lack x := by
  obtain ⟨f, u, n, e1, e2, e3, e4⟩ := (passR_step m x).new rfl h
  refine filter_len_lt (b := (f, u, n)) (fun p hp => ?_) (by simp only [e4, Bool.not_true]) (by simp only [show x f u n = false from e3, Bool.not_false]) m.places (mem_places e2 e1)
  cases hx : x p.1 p.2.1 p.2.2 with
  | false => rfl
  | true => rw [(passR_step m x).le _ _ _ hx] at hp; exact absurd hp (by simp)
end Go.Proofs.Ytlggjbopfnndbaa
