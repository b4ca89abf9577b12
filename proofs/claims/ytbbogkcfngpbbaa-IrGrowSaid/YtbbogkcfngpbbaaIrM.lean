/- What ir.Right says of a module, plain. -/
import Derived.Test.YtbbogkcfngpbbaaMoD
import Derived.Test.YtbbogkcfngpbbaaReads
namespace Go.Proofs.Ytbbogkcfngpbbaa
open Go.RowKit

/-- The first place where p holds, or -1. -/
def ixOf {α : Type} (p : α → Bool) (l : List α) : Int := if l.findIdx p < l.length then ((l.findIdx p : Nat) : Int) else -1

def Mo.stIx (m : Mo) (nm : ByteArray) : Int := ixOf (fun s => s.s.nm == nm) m.ss
def Mo.fnIx (m : Mo) (nm : ByteArray) : Int := ixOf (fun f => f.c.nm == nm) m.fs

def Mo.known (m : Mo) (t : Ty) : Bool := if t.1 = true then decide (0 ≤ m.stIx t.2) else t.2 == ByteArray.empty

def tyAt (vs : List Vr) (v : Int) : Ty := match vs[v.toNat]? with
  | some x => x.ty
  | none => noTy

def isVar (n : Nat) (v : Int) : Bool := decide (0 ≤ v) && decide (v < (n : Int))
def thereF (n : Nat) (l : List Int) : Bool := l.all (isVar n)

def unl (b : Bool) (f : Int) : Int := if b = true then 0 else f

def fieldF (m : Mo) (vs : List Vr) (v f : Int) : Ty × Int :=
  if (tyAt vs v).1 = false then (noTy, 7)
  else match m.ss[(m.stIx (tyAt vs v).2).toNat]? with
    | none => (noTy, 15)
    | some s => if f < 0 then (noTy, 15) else match s.fs[f.toNat]? with
      | none => (noTy, 15)
      | some x => (x.ty, 0)

def heapF (m : Mo) (vs : List Vr) (i : Ins) (other : Int) (ptr : Bool) : Int :=
  if (fieldF m vs i.a i.f).2 ≠ 0 then (fieldF m vs i.a i.f).2
  else unl ((fieldF m vs i.a i.f).1 == tyAt vs other && (fieldF m vs i.a i.f).1.1 == ptr) 7

def argsF (vs gs : List Vr) : Nat → List Int → Bool
  | _, [] => true
  | k, a :: r => tyAt vs a == tyAt gs (k : Int) && argsF vs gs (k + 1) r

def callF (m : Mo) (vs : List Vr) (i : Ins) : Int :=
  if i.f < 0 then 15 else match m.fs[i.f.toNat]? with
    | none => 15
    | some g => if (i.args.length : Int) ≠ g.c.par ∨ (g.vs.length : Int) < g.c.par then 7
      else if argsF vs g.vs 0 i.args = false then 7 else unl (tyAt vs i.d == g.ret) 7

def numsF (vs : List Vr) (l : List Int) : Int := unl (l.all fun v => !(tyAt vs v).1) 7
def signedF (f : Int) (s : ByteArray) (l : List ByteArray) : Int := if f ≠ 0 then f else unl (l.any fun x => x == s) 3

def signsB : List ByteArray := [⟨#[43]⟩, ⟨#[45]⟩, ⟨#[42]⟩, ⟨#[47]⟩, ⟨#[37]⟩, ⟨#[60]⟩, ⟨#[60, 61]⟩, ⟨#[62]⟩, ⟨#[62, 61]⟩, ⟨#[61, 61]⟩, ⟨#[33, 61]⟩]
def signsN : List ByteArray := [⟨#[61, 61]⟩, ⟨#[33, 61]⟩]

def plainF (m : Mo) (vs : List Vr) (i : Ins) : Int :=
  if i.op = 1 ∨ i.op = 5 then numsF vs [i.d]
  else if i.op = 3 then numsF vs [i.d, i.a]
  else if i.op = 4 then signedF (numsF vs [i.d, i.a, i.b]) i.sign signsB
  else if i.op = 6 then numsF vs [i.a]
  else if i.op = 2 then unl (tyAt vs i.d).1 7
  else if i.op = 13 then unl (tyAt vs i.a).1 7
  else if i.op = 14 then signedF (unl (!(tyAt vs i.d).1 && (tyAt vs i.a).1) 7) i.sign signsN
  else if i.op = 9 then unl ((tyAt vs i.a).1 && tyAt vs i.a == tyAt vs i.d) 7
  else if i.op = 7 ∨ i.op = 10 then heapF m vs i i.d (decide (i.op = 10))
  else if i.op = 8 ∨ i.op = 11 then heapF m vs i i.b (decide (i.op = 11))
  else if i.f < 0 then 15 else match m.ss[i.f.toNat]? with
    | none => 15
    | some s => unl (tyAt vs i.d == (true, s.s.nm)) 7

def instrF (m : Mo) (g : Fn) (i : Ins) : Int :=
  if i.op < 1 ∨ 18 < i.op then 3
  else if thereF g.vs.length (readsOf i ++ (if shD i.op then [i.d] else [])) = false then 15
  else if i.op = 15 then callF m g.vs i
  else if i.op = 16 then unl (isVar g.c.ins.length i.to) 15
  else if i.op = 17 then (if isVar g.c.ins.length i.to && isVar g.c.ins.length i.els then numsF g.vs [i.a] else 15)
  else if i.op = 18 then unl (tyAt g.vs i.a == g.ret) 7
  else plainF m g.vs i

/-- The first that is not 0. -/
def firstF {α : Type} (f : α → Int) : List α → Int
  | [] => 0
  | x :: r => if f x = 0 then firstF f r else f x

def codeF (m : Mo) (g : Fn) : Int :=
  if 300 < g.vs.length ∨ g.c.ins.length < 1 ∨ 3000 < g.c.ins.length then 2
  else if g.c.par < 0 ∨ (g.vs.length : Int) < g.c.par then 15
  else if firstF (instrF m g) g.c.ins ≠ 0 then firstF (instrF m g) g.c.ins
  else unl (match g.c.ins.getLast? with
    | some i => decide (16 ≤ i.op)
    | none => false) 15

def twiceF (m : Mo) : Bool := (m.ss.any fun s => decide (¬ (s.fs.map Fd.nm).Nodup)) || decide (¬ (m.ss.map fun s => s.s.nm).Nodup) || decide (¬ (m.fs.map fun f => f.c.nm).Nodup)

/-- All types that a module names. -/
def typesF (m : Mo) : List Ty := (m.ss.flatMap fun s => s.fs.map Fd.ty) ++ (m.fs.flatMap fun f => f.ret :: f.vs.map Vr.ty)

def mainB : ByteArray := ⟨#[109, 97, 105, 110]⟩

def rightF (m : Mo) : Int :=
  if 30 < m.ss.length ∨ 60 < m.fs.length then 2
  else if twiceF m = true then 6
  else if (typesF m).all m.known = false then 5
  else if firstF (codeF m) m.fs ≠ 0 then firstF (codeF m) m.fs
  else unl (decide (0 ≤ m.fnIx mainB) && (match m.fs[(m.fnIx mainB).toNat]? with
    | some g => decide (g.c.par = 0) && !g.c.rp
    | none => false)) 9
end Go.Proofs.Ytbbogkcfngpbbaa
