import Derived.Test.YtlggjbopfnndbaaQ08
import Derived.Test.YtlggjbopfnndbaaReads
import Derived.Test.YtlggjbopfnndbaaQ03
import Derived.BigQuiet

namespace Go.Proofs.Ytlggjbopfnndbaa
open Go.RowKit

/-- The first place where p holds, or -1. -/
def ixOf {α : Type} (p : α → Bool) (l : List α) : Int := if l.findIdx p < l.length then ((l.findIdx p : Nat) : Int) else -1

def Mo.stIx (m : Mo) (nm : ByteArray) : Int := ixOf (fun s => s.s.nm == nm) m.ss
def Mo.fnIx (m : Mo) (nm : ByteArray) : Int := ixOf (fun f => f.c.nm == nm) m.fs

def Mo.known (m : Mo) (t : Ty) : Bool := if t.1 = true then decide (0 ≤ m.stIx t.2) else t.2 == ByteArray.empty

def tyAt (vs : List Vr) (v : Int) : Ty := match vs[v.toNat]? with
  | some x => x.ty
  | none => noTy

def isVar (n : Nat) (v : Int) : Bool := decide (0 ≤ v) && decide (v < (n : Int))
def thereF (n : Nat) (l : List Int) : Bool := l.all (isVar n)

def unl (b : Bool) (f : Int) : Int := if b = true then 0 else f

def fieldF (m : Mo) (vs : List Vr) (v f : Int) : Ty × Int :=
  if (tyAt vs v).1 = false then (noTy, 7)
  else match m.ss[(m.stIx (tyAt vs v).2).toNat]? with
    | none => (noTy, 15)
    | some s => if f < 0 then (noTy, 15) else match s.fs[f.toNat]? with
      | none => (noTy, 15)
      | some x => (x.ty, 0)

def heapF (m : Mo) (vs : List Vr) (i : Ins) (other : Int) (ptr : Bool) : Int :=
  if (fieldF m vs i.a i.f).2 ≠ 0 then (fieldF m vs i.a i.f).2
  else unl ((fieldF m vs i.a i.f).1 == tyAt vs other && (fieldF m vs i.a i.f).1.1 == ptr) 7

def argsF (vs gs : List Vr) : Nat → List Int → Bool
  | _, [] => true
  | k, a :: r => tyAt vs a == tyAt gs (k : Int) && argsF vs gs (k + 1) r

def callF (m : Mo) (vs : List Vr) (i : Ins) : Int :=
  if i.f < 0 then 15 else match m.fs[i.f.toNat]? with
    | none => 15
    | some g => if (i.args.length : Int) ≠ g.c.par ∨ (g.vs.length : Int) < g.c.par then 7
      else if argsF vs g.vs 0 i.args = false then 7 else unl (tyAt vs i.d == g.ret) 7

def numsF (vs : List Vr) (l : List Int) : Int := unl (l.all fun v => !(tyAt vs v).1) 7
def signedF (f : Int) (s : ByteArray) (l : List ByteArray) : Int := if f ≠ 0 then f else unl (l.any fun x => x == s) 3

def signsB : List ByteArray := [⟨#[43]⟩, ⟨#[45]⟩, ⟨#[42]⟩, ⟨#[47]⟩, ⟨#[37]⟩, ⟨#[60]⟩, ⟨#[60, 61]⟩, ⟨#[62]⟩, ⟨#[62, 61]⟩, ⟨#[61, 61]⟩, ⟨#[33, 61]⟩]
def signsN : List ByteArray := [⟨#[61, 61]⟩, ⟨#[33, 61]⟩]

def plainF (m : Mo) (vs : List Vr) (i : Ins) : Int :=
  if i.op = 1 ∨ i.op = 5 then numsF vs [i.d]
  else if i.op = 3 then numsF vs [i.d, i.a]
  else if i.op = 4 then signedF (numsF vs [i.d, i.a, i.b]) i.sign signsB
  else if i.op = 6 then numsF vs [i.a]
  else if i.op = 2 then unl (tyAt vs i.d).1 7
  else if i.op = 13 then unl (tyAt vs i.a).1 7
  else if i.op = 14 then signedF (unl (!(tyAt vs i.d).1 && (tyAt vs i.a).1) 7) i.sign signsN
  else if i.op = 9 then unl ((tyAt vs i.a).1 && tyAt vs i.a == tyAt vs i.d) 7
  else if i.op = 7 ∨ i.op = 10 then heapF m vs i i.d (decide (i.op = 10))
  else if i.op = 8 ∨ i.op = 11 then heapF m vs i i.b (decide (i.op = 11))
  else if i.f < 0 then 15 else match m.ss[i.f.toNat]? with
    | none => 15
    | some s => unl (tyAt vs i.d == (true, s.s.nm)) 7

def instrF (m : Mo) (g : Fn) (i : Ins) : Int :=
  if i.op < 1 ∨ 18 < i.op then 3
  else if thereF g.vs.length (readsOf i ++ (if shD i.op then [i.d] else [])) = false then 15
  else if i.op = 15 then callF m g.vs i
  else if i.op = 16 then unl (isVar g.c.ins.length i.to) 15
  else if i.op = 17 then (if isVar g.c.ins.length i.to && isVar g.c.ins.length i.els then numsF g.vs [i.a] else 15)
  else if i.op = 18 then unl (tyAt g.vs i.a == g.ret) 7
  else plainF m g.vs i

/-- The first that is not 0. -/
def firstF {α : Type} (f : α → Int) : List α → Int
  | [] => 0
  | x :: r => if f x = 0 then firstF f r else f x

def codeF (m : Mo) (g : Fn) : Int :=
  if 300 < g.vs.length ∨ g.c.ins.length < 1 ∨ 3000 < g.c.ins.length then 2
  else if g.c.par < 0 ∨ (g.vs.length : Int) < g.c.par then 15
  else if firstF (instrF m g) g.c.ins ≠ 0 then firstF (instrF m g) g.c.ins
  else unl (match g.c.ins.getLast? with
    | some i => decide (16 ≤ i.op)
    | none => false) 15

def twiceF (m : Mo) : Bool := (m.ss.any fun s => decide (¬ (s.fs.map Fd.nm).Nodup)) || decide (¬ (m.ss.map fun s => s.s.nm).Nodup) || decide (¬ (m.fs.map fun f => f.c.nm).Nodup)

/-- All types that a module names. -/
def typesF (m : Mo) : List Ty := (m.ss.flatMap fun s => s.fs.map Fd.ty) ++ (m.fs.flatMap fun f => f.ret :: f.vs.map Vr.ty)

def mainB : ByteArray := ⟨#[109, 97, 105, 110]⟩

def rightF (m : Mo) : Int :=
  if 30 < m.ss.length ∨ 60 < m.fs.length then 2
  else if twiceF m = true then 6
  else if (typesF m).all m.known = false then 5
  else if firstF (codeF m) m.fs ≠ 0 then firstF (codeF m) m.fs
  else unl (decide (0 ≤ m.fnIx mainB) && (match m.fs[(m.fnIx mainB).toNat]? with
    | some g => decide (g.c.par = 0) && !g.c.rp
    | none => false)) 9
end Go.Proofs.Ytlggjbopfnndbaa


namespace Go.Proofs.Ytlggjbopfnndbaa
open Go.RowKit

theorem firstR_zero {α : Type} {f : α → Int} : ∀ {l : List α}, firstF f l = 0 → ∀ x ∈ l, f x = 0
  | [], _, x, hx => absurd hx (by simp)
  | y :: r, h, x, hx => by
    unfold firstF at h
    by_cases hy : f y = 0
    · rw [if_pos hy] at h
      rcases List.mem_cons.1 hx with e | e
      · rw [e]; exact hy
      · exact firstR_zero h x e
    · rw [if_neg hy] at h; exact absurd h hy

theorem unlR_zero {b : Bool} {f : Int} (hf : f ≠ 0) (h : unl b f = 0) : b = true := by
  unfold unl at h
  cases b with
  | true => rfl
  | false => rw [if_neg (by simp)] at h; exact absurd h hf

theorem isVarR_iff {n : Nat} {v : Int} : isVar n v = true ↔ 0 ≤ v ∧ v < (n : Int) := by
  unfold isVar; simp

/-- What origins ask of a module. -/
structure OkR (m : Mo) : Prop where
  nf : m.fs.length ≤ 60
  fn : ∀ g ∈ m.fs, 0 ≤ g.c.par ∧ g.c.par ≤ (g.vs.length : Int) ∧ g.vs.length ≤ 300 ∧ g.c.ins.length ≤ 3000
  mv : ∀ g ∈ m.fs, ∀ i ∈ g.c.ins, i.op = 9 ∨ i.op = 10 → isVar g.vs.length i.d = true ∧ isVar g.vs.length i.a = true
  call : ∀ g ∈ m.fs, ∀ i ∈ g.c.ins, i.op = 15 → isVar g.vs.length i.d = true ∧ (∀ a ∈ i.args, isVar g.vs.length a = true) ∧ 0 ≤ i.f ∧ ∃ h, m.fs[i.f.toNat]? = some h ∧ (i.args.length : Int) = h.c.par
  ret : ∀ g ∈ m.fs, ∀ i ∈ g.c.ins, i.op = 18 → isVar g.vs.length i.a = true

theorem right_parts {m : Mo} (h : rightF m = 0) : m.fs.length ≤ 60 ∧ m.ss.length ≤ 30 ∧ twiceF m = false ∧ (typesF m).all m.known = true ∧ (∀ g ∈ m.fs, codeF m g = 0) ∧ 0 ≤ m.fnIx mainB := by
  unfold rightF at h
  by_cases h1 : 30 < m.ss.length ∨ 60 < m.fs.length
  · rw [if_pos h1] at h; exact absurd h (by decide)
  · rw [if_neg h1] at h
    by_cases h2 : twiceF m = true
    · rw [if_pos h2] at h; exact absurd h (by decide)
    · rw [if_neg h2] at h
      by_cases h3 : (typesF m).all m.known = false
      · rw [if_pos h3] at h; exact absurd h (by decide)
      · rw [if_neg h3] at h
        by_cases h4 : firstF (codeF m) m.fs ≠ 0
        · rw [if_pos h4] at h; exact absurd h h4
        · rw [if_neg h4] at h
          have h5 := unlR_zero (by decide) h
          rw [Bool.and_eq_true, decide_eq_true_eq] at h5
          exact ⟨by omega, by omega, by simpa using h2, by simpa using h3, firstR_zero (Classical.byContradiction h4), h5.1⟩

theorem code_parts {m : Mo} {g : Fn} (h : codeF m g = 0) : g.vs.length ≤ 300 ∧ 1 ≤ g.c.ins.length ∧ g.c.ins.length ≤ 3000 ∧ 0 ≤ g.c.par ∧ g.c.par ≤ (g.vs.length : Int) ∧ (∀ i ∈ g.c.ins, instrF m g i = 0) := by
  unfold codeF at h
  by_cases h1 : 300 < g.vs.length ∨ g.c.ins.length < 1 ∨ 3000 < g.c.ins.length
  · rw [if_pos h1] at h; exact absurd h (by decide)
  · rw [if_neg h1] at h
    by_cases h2 : g.c.par < 0 ∨ (g.vs.length : Int) < g.c.par
    · rw [if_pos h2] at h; exact absurd h (by decide)
    · rw [if_neg h2] at h
      by_cases h3 : firstF (instrF m g) g.c.ins ≠ 0
      · rw [if_pos h3] at h; exact absurd h h3
      · exact ⟨by omega, by omega, by omega, by omega, by omega, firstR_zero (Classical.byContradiction h3)⟩

theorem instr_parts {m : Mo} {g : Fn} {i : Ins} (h : instrF m g i = 0) : 1 ≤ i.op ∧ i.op ≤ 18 ∧ (∀ v ∈ readsOf i, isVar g.vs.length v = true) ∧ (shD i.op = true → isVar g.vs.length i.d = true) ∧ (i.op = 15 → callF m g.vs i = 0) := by
  unfold instrF at h
  by_cases h1 : i.op < 1 ∨ 18 < i.op
  · rw [if_pos h1] at h; exact absurd h (by decide)
  · rw [if_neg h1] at h
    by_cases h2 : thereF g.vs.length (readsOf i ++ (if shD i.op then [i.d] else [])) = false
    · rw [if_pos h2] at h; exact absurd h (by decide)
    · rw [if_neg h2] at h
      have h3 : thereF g.vs.length (readsOf i ++ (if shD i.op then [i.d] else [])) = true := by simpa using h2
      unfold thereF at h3
      rw [List.all_append, Bool.and_eq_true, List.all_eq_true] at h3
      refine ⟨by omega, by omega, h3.1, fun hd => ?_, fun hop => ?_⟩
      · have h4 := h3.2
        rw [hd] at h4
        simpa using h4
      · rw [if_pos hop] at h; exact h

theorem call_parts {m : Mo} {vs : List Vr} {i : Ins} (h : callF m vs i = 0) : 0 ≤ i.f ∧ ∃ g, m.fs[i.f.toNat]? = some g ∧ (i.args.length : Int) = g.c.par ∧ g.c.par ≤ (g.vs.length : Int) ∧ argsF vs g.vs 0 i.args = true ∧ tyAt vs i.d = g.ret := by
  unfold callF at h
  by_cases h1 : i.f < 0
  · rw [if_pos h1] at h; exact absurd h (by decide)
  · rw [if_neg h1] at h
    cases hg : m.fs[i.f.toNat]? with
    | none => rw [hg] at h; exact absurd h (by simp)
    | some g =>
      rw [hg] at h
      simp only at h
      by_cases h2 : (i.args.length : Int) ≠ g.c.par ∨ (g.vs.length : Int) < g.c.par
      · rw [if_pos h2] at h; exact absurd h (by decide)
      · rw [if_neg h2] at h
        by_cases h3 : argsF vs g.vs 0 i.args = false
        · rw [if_pos h3] at h; exact absurd h (by decide)
        · rw [if_neg h3] at h
          have h4 := unlR_zero (by decide) h
          exact ⟨by omega, g, rfl, by omega, by omega, by simpa using h3, by simpa using h4⟩

theorem OkR.of {m : Mo} (h : rightF m = 0) : OkR m := by
  obtain ⟨h1, _, _, _, h5, _⟩ := right_parts h
  refine ⟨h1, fun g hg => ?_, fun g hg i hi ho => ?_, fun g hg i hi ho => ?_, fun g hg i hi ho => ?_⟩
  · obtain ⟨a, b, c, d, e, _⟩ := code_parts (h5 g hg)
    exact ⟨d, e, a, c⟩
  · obtain ⟨_, _, h3, h4, _⟩ := instr_parts ((code_parts (h5 g hg)).2.2.2.2.2 i hi)
    refine ⟨h4 (by rcases ho with e | e <;> rw [e] <;> rfl), h3 i.a ?_⟩
    unfold readsOf
    rcases ho with e | e <;> rw [e] <;> simp [shA]
  · obtain ⟨_, _, h3, h4, h6⟩ := instr_parts ((code_parts (h5 g hg)).2.2.2.2.2 i hi)
    obtain ⟨c1, q, c2, c3, _⟩ := call_parts (h6 ho)
    refine ⟨h4 (by rw [ho]; rfl), fun a ha => h3 a ?_, c1, q, c2, c3⟩
    unfold readsOf
    rw [if_pos ho]
    simp [ha]
  · obtain ⟨_, _, h3, _⟩ := instr_parts ((code_parts (h5 g hg)).2.2.2.2.2 i hi)
    refine h3 i.a ?_
    unfold readsOf
    rw [ho]; simp [shA]
end Go.Proofs.Ytlggjbopfnndbaa


namespace Go.Proofs.Ytlggjbopfnndbaa
open Go.RowKit

set_option maxRecDepth 100000 in
theorem lent19_calls (v : Vr) (w : World) : Calls Try.prog 29 #[.agg v.cells] w fun e w' => e = .returned (.bool v.lent) ∧ Below w.heap.size w w' := by
  obtain ⟨ptr, tgt, cls⟩ := v
  obtain ⟨b, hb⟩ : ∃ b, Vr.lent ⟨ptr, tgt, cls⟩ = b := ⟨_, rfl⟩
  have HBB : Hid (b = (ptr && (cls == 2 || cls == 3))) := by rw [← hb]; rfl
  rw [hb]
  clear hb
  simp only [Vr.cells]
  obtain ⟨N, hN⟩ : ∃ N, w.heap.size = N := ⟨_, rfl⟩
  obtain ⟨W1, hW1⟩ : ∃ W1, w.alloc (.cells #[.bool ptr, .string tgt, .int .i64 cls] 47) = W1 := ⟨_, rfl⟩
  have q1 : W1.heap[N]? = some (.cells #[.bool ptr, .string tgt, .int .i64 cls] 47 (0, 0)) := by rw [← hW1, ← hN]; exact alloc_at _ _
  have HB1 : Hid (Below w.heap.size w W1) := by rw [← hW1]; exact (Below.refl _ _).alloc (Nat.le_refl _) _
  have c0 : W1.cell? ⟨N, 0, none⟩ = some (.bool ptr) := by rw [cell_of_row _ _ _ _ _ _ q1]; rfl
  have c2 : W1.cell? ⟨N, 2, none⟩ = some (.int .i64 cls) := by rw [cell_of_row _ _ _ _ _ _ q1]; rfl
  have HW1 := Lib.hid hW1
  clear q1 hW1
  go_enter Try.func29, Try.ntmps29
  go_upto_region 1 with (fail)
  rw [HW1.out]
  cases ptr with
  | false =>
    go_wp2
    go_ret
    rw [hN] at HB1
    rw [HBB.out]
    exact ⟨rfl, by first | exact HB1.out | (rw [hN]; exact HB1.out)⟩
  | true =>
    by_cases h2 : cls = 2
    · subst h2
      go_wp2
      go_ret
      rw [HBB.out]
      exact ⟨rfl, by first | exact HB1.out | (rw [← hN]; exact HB1.out)⟩
    · have e2 : (cls == 2) = false := by rw [beq_eq_false_iff_ne]; exact h2
      obtain ⟨c3, hc3⟩ : ∃ c3, (cls == 3) = c3 := ⟨_, rfl⟩
      have HC3 := Lib.hid hc3
      go_wp2
      go_ret
      rw [HBB.out, e2, HC3.out]
      exact ⟨by simp, by first | exact HB1.out | (rw [← hN]; exact HB1.out)⟩
set_option maxRecDepth 100000 in
theorem rlent19_calls (v : Vr) (w : World) : Calls Try.prog 40 #[.agg v.cells] w fun e w' => e = .returned (.bool v.lent) ∧ Below w.heap.size w w' := by
  obtain ⟨ptr, tgt, cls⟩ := v
  obtain ⟨b, hb⟩ : ∃ b, Vr.lent ⟨ptr, tgt, cls⟩ = b := ⟨_, rfl⟩
  have HBB : Hid (b = (ptr && (cls == 2 || cls == 3))) := by rw [← hb]; rfl
  rw [hb]
  clear hb
  simp only [Vr.cells]
  obtain ⟨N, hN⟩ : ∃ N, w.heap.size = N := ⟨_, rfl⟩
  obtain ⟨W1, hW1⟩ : ∃ W1, w.alloc (.cells #[.bool ptr, .string tgt, .int .i64 cls] 47) = W1 := ⟨_, rfl⟩
  have q1 : W1.heap[N]? = some (.cells #[.bool ptr, .string tgt, .int .i64 cls] 47 (0, 0)) := by rw [← hW1, ← hN]; exact alloc_at _ _
  have HB1 : Hid (Below w.heap.size w W1) := by rw [← hW1]; exact (Below.refl _ _).alloc (Nat.le_refl _) _
  have c0 : W1.cell? ⟨N, 0, none⟩ = some (.bool ptr) := by rw [cell_of_row _ _ _ _ _ _ q1]; rfl
  have c2 : W1.cell? ⟨N, 2, none⟩ = some (.int .i64 cls) := by rw [cell_of_row _ _ _ _ _ _ q1]; rfl
  have HW1 := Lib.hid hW1
  clear q1 hW1
  go_enter Try.func40, Try.ntmps40
  go_upto_region 1 with (fail)
  rw [HW1.out]
  cases ptr with
  | false =>
    go_wp2
    go_ret
    rw [hN] at HB1
    rw [HBB.out]
    exact ⟨rfl, by first | exact HB1.out | (rw [hN]; exact HB1.out)⟩
  | true =>
    by_cases h2 : cls = 2
    · subst h2
      go_wp2
      go_ret
      rw [HBB.out]
      exact ⟨rfl, by first | exact HB1.out | (rw [← hN]; exact HB1.out)⟩
    · have e2 : (cls == 2) = false := by rw [beq_eq_false_iff_ne]; exact h2
      obtain ⟨c3, hc3⟩ : ∃ c3, (cls == 3) = c3 := ⟨_, rfl⟩
      have HC3 := Lib.hid hc3
      go_wp2
      go_ret
      rw [HBB.out, e2, HC3.out]
      exact ⟨by simp, by first | exact HB1.out | (rw [← hN]; exact HB1.out)⟩
end Go.Proofs.Ytlggjbopfnndbaa


namespace Go.Proofs.Ytlggjbopfnndbaa
open Go.RowKit

/-- A world that has grown from W. -/
structure BW (W : World) where
  w : World
  h : Below W.heap.size W w

instance {W : World} : Inhabited (BW W) := ⟨⟨W, Below.refl _ _⟩⟩

theorem wp_region_quiet_bw {P : Program} {id : Nat} {Q : Exit → Act → World → Prop} {a : Act} {W : World} {l : List Oper} (hm : P.follows .mixedOrders = true) (hB : Region.lexB .any l.toArray = true)
    (h : wpQuiet P l.toArray (fun w' => ∃ p : BW W, w' = p.w) (fun a' => ∀ w', (∃ p : BW W, w' = p.w) → Q .normal a' w') l a) : (Code.region id l.toArray true).wp P Q a W :=
  wp_region_quiet (C := fun w' => ∃ p : BW W, w' = p.w) hm hB ⟨⟨W.drew, (Below.refl _ _).drew⟩, rfl⟩ (by simpa using h)

theorem bw_of {P : Program} {f : FuncId} {args : Array Value} {W : World} {p : BW W} {v : Value} (h : Calls P f args p.w fun e w' => e = .returned v ∧ Below p.w.heap.size p.w w') :
    Calls P f args p.w fun e w'' => e = .returned v ∧ ∃ q : BW W, w'' = q.w :=
  h.mono fun _ w' ⟨he, hb⟩ => ⟨he, ⟨w', p.h.trans (hb.mono p.h.size)⟩, rfl⟩

theorem bw_same {P : Program} {f : FuncId} {args : Array Value} {W : World} {p : BW W} {v : Value} (h : Calls P f args p.w fun e w' => e = .returned v ∧ p.w = w') :
    Calls P f args p.w fun e w'' => e = .returned v ∧ ∃ q : BW W, w'' = q.w :=
  h.mono fun _ w' ⟨he, hb⟩ => ⟨he, p, hb.symm⟩
end Go.Proofs.Ytlggjbopfnndbaa


namespace Go.Proofs.Ytlggjbopfnndbaa
open Go.RowKit

theorem quiet_load_bw {P : Program} {W : World} {o : Oper} {a : Act} {K : Act → Prop} (ty : TypeId) (x : Operand) (ho : o.op = .load ty x)
    (ad : Addr) (hx : a.eval x = .pointer (some ad)) (cs : Array Value) (d : TypeDesc) (hcells : ∀ (p : BW W) (j : Nat) (u : Value), cs.toList[j]? = some u → p.w.cell? (ad.add j) = some u)
    (hu : P.underlying ty = some d) (hd : (match d with | .struct _ | .array _ _ => true | _ => false) = true) (hi : (P.info? ty).map (·.size) = some cs.size)
    (hk : K (a.put o.dst (.agg cs))) : o.quiet P a (fun w' => ∃ p : BW W, w' = p.w) K := by
  refine ⟨_, fun w hw => ?_, hk⟩
  obtain ⟨p, rfl⟩ := hw
  unfold Oper.quietAt execOp
  simp only [ho, hx, Instr.loadAt, Instr.sureAddr, Sem.run_bind, Sem.run_pure, Result.andThen_ok, run_loadVar_at p.w ad ty cs d (hcells p) hu hd hi]
  exact ⟨rfl, rfl⟩
end Go.Proofs.Ytlggjbopfnndbaa
