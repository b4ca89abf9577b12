/- Modules in memory. -/
import Derived.Test.YtbbogkcfngpbbaaOpen
import Derived.Test.YtbbogkcfngpbbaaStr
namespace Go.Proofs.Ytbbogkcfngpbbaa
open Go.RowKit

abbrev Ty := Bool × ByteArray
def noTy : Ty := (false, ByteArray.empty)

/-- A field's cells. -/
structure Fd where
  nm : ByteArray
  ptr : Bool
  tgt : ByteArray
  ln : Int
  cl : Int
def Fd.cells (f : Fd) : Array Value := #[.string f.nm, .bool f.ptr, .string f.tgt, .int .i64 f.ln, .int .i64 f.cl]
def Fd.ty (f : Fd) : Ty := (f.ptr, f.tgt)
def Vr.ty (v : Vr) : Ty := (v.ptr, v.tgt)

/-- A struct, with its fields. -/
structure St where
  s : Stc
  fs : List Fd
def St.cells (s : St) : Array Value := s.s.cells

/-- A function, with its variables, origins, and the modes of its instructions. -/
structure Fn where
  c : Cod
  vs : List Vr
  frm : List Int
  mds : List (List Int)
def Fn.cells (f : Fn) : Array Value := f.c.cells
def Fn.ret (f : Fn) : Ty := (f.c.rp, f.c.rto)

/-- A module. -/
structure Mo where
  sA : Option Addr
  sC : Nat
  fA : Option Addr
  fC : Nat
  ss : List St
  fs : List Fn
def Mo.cells (m : Mo) : Array Value := #[.slice m.sA m.ss.length m.sC, .slice m.fA m.fs.length m.fC]

/-- A function lies in memory. -/
structure Fn.inn (w : World) (f : Fn) : Prop where
  code : f.c.inn w
  nm : f.c.nm.size ≤ maxLen
  nvars : f.c.nvars = f.vs.length
  vars : RowOf Vr.cells 3 w w.heap.size f.c.varsA f.vs
  nfrom : f.c.nfrom = f.frm.length
  frm : IntRow w f.c.fromA f.frm
  nmds : f.mds.length = f.c.ins.length
  mds : ∀ (k : Nat) (i : Ins) (l : List Int), f.c.ins[k]? = some i → f.mds[k]? = some l → ∃ ao cap, i.modeV = .slice ao l.length cap ∧ IntRow w ao l

structure St.inn (w : World) (s : St) : Prop where
  nf : s.s.nf = s.fs.length
  row : RowOf Fd.cells 5 w w.heap.size s.s.fA s.fs
  len : s.fs.length ≤ maxLen
  nm : s.s.nm.size ≤ maxLen
  fnm : ∀ f ∈ s.fs, f.nm.size ≤ maxLen

structure Mo.inn (w : World) (m : Mo) : Prop where
  srow : RowOf St.cells 4 w w.heap.size m.sA m.ss
  frow : RowOf Fn.cells 8 w w.heap.size m.fA m.fs
  sin : ∀ s ∈ m.ss, s.inn w
  fin : ∀ f ∈ m.fs, f.inn w
  ns : m.ss.length ≤ maxLen
  nf : m.fs.length ≤ maxLen

theorem Fn.inn.below {w w' : World} {f : Fn} (h : f.inn w) (hb : Below w.heap.size w w') : f.inn w' :=
  ⟨h.code.below hb, h.nm, h.nvars, h.vars.grow hb, h.nfrom, RowOf.grow h.frm hb, h.nmds, fun k i l h1 h2 => by
    obtain ⟨ao, cap, e1, e2⟩ := h.mds k i l h1 h2
    exact ⟨ao, cap, e1, RowOf.grow e2 hb⟩⟩

theorem St.inn.below {w w' : World} {s : St} (h : s.inn w) (hb : Below w.heap.size w w') : s.inn w' := ⟨h.nf, h.row.grow hb, h.len, h.nm, h.fnm⟩

theorem Mo.inn.below {w w' : World} {m : Mo} (h : m.inn w) (hb : Below w.heap.size w w') : m.inn w' :=
  ⟨h.srow.grow hb, h.frow.grow hb, fun s hs => (h.sin s hs).below hb, fun f hf => (h.fin f hf).below hb, h.ns, h.nf⟩

end Go.Proofs.Ytbbogkcfngpbbaa
