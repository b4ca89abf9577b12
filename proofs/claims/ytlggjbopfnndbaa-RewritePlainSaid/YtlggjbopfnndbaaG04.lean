import Derived.Test.YtlggjbopfnndbaaOpen
import Derived.Test.YtlggjbopfnndbaaRows
import Derived.ProofKit
import Derived.ChangeSame
import Derived.Test.YtlggjbopfnndbaaG01
import Derived.Deep.AppendLies
namespace Go.Proofs.Ytlggjbopfnndbaa
open Go.ChangeShapes Go.WideShapes Go.ChangeAt Go.RowKit
theorem own_ : ownKnob Try.prog.godebug = none := by kernel_rfl
theorem laidOut_ : laidOutB Try.prog = true := by kernel_rfl
theorem law_post {H : Type} {enc : TypeId × Value → H} {P : Program} {f : Func} {s : ChangeSpec} {W W' : World} {args : Array Value} {v : Value} {ds gs : List (DataW H)} {before pa pv : List MemPlace}
  (hW : DataW.Whole enc P f.params.toList s.vars false W args.toList ds gs before)
  (hres : ∀ (b : Nat) (sp : Nat → Bool) (hd : Bool),DataW.TrodAll enc P W' b sp hd f.resultTypes.toList (v.resultList f.resultTypes.size) (s.fn H (ds ++ gs)).results [])
  (hargs : DataW.TrodAll enc P W' 0 (fun b => decide (b < W.heap.size)) true f.params.toList args.toList (s.fn H (ds ++ gs)).args pa)
  (hvars : DataW.TrodVars enc P W' (fun b => decide (b < W.heap.size)) s.vars (s.fn H (ds ++ gs)).vars pv)
  (hps : before = pa ++ pv) (hb : Below W.heap.size W W') :
  s.post enc P f false true false false W args v W' := by
 refine ⟨ds,gs,before,[],pa,pv,hW,hres _ _ _,hargs,hvars,World.keptBut_mono (fun p hp => ⟨hp,?_⟩) (hb.frame (· ∈ before)),fun h => ?_⟩
 ·rw [hps,List.mem_append] at hp
  exact Or.inr hp
 ·exact absurd h (by decide)
theorem shut_true {H : Type} {enc : TypeId × Value → H} {W : World} {base : Nat} {sp : Nat → Bool} {held : Bool} (b : Bool) : DataW.Trod enc Try.prog W base sp held 4 (.bool b) (.lit (.bool b)) [] := ⟨1,by simp [DataW.trod,Value.cells,Try.underlying4]⟩
end Go.Proofs.Ytlggjbopfnndbaa
namespace Go.Proofs.Ytlggjbopfnndbaa
theorem bytes_inj {x y : ByteArray} (h : x.data.toList = y.data.toList) : x = y := by
 obtain ⟨a⟩ := x
 obtain ⟨b⟩ := y
 have : a = b := Array.ext' h
 rw [this]
instance lawfulBytes : LawfulBEq ByteArray where
 eq_of_beq {a b} h := bytes_inj (by have : a.data = b.data := eq_of_beq (show (a.data == b.data) = true from h); rw [this])
 rfl {a} := show (a.data == a.data) = true from BEq.rfl
theorem lit_ne {x y : ByteArray} (h : x ≠ y) : Lit.string x.data.toList ≠ Lit.string y.data.toList := fun e => h (bytes_inj (by simpa using e))
end Go.Proofs.Ytlggjbopfnndbaa
namespace Go.Proofs.Ytlggjbopfnndbaa
open Go.RowKit
abbrev Ty := Bool × ByteArray
def noTy : Ty := (false,ByteArray.empty)
structure Fd where
 nm : ByteArray
 ptr : Bool
 tgt : ByteArray
 ln : Int
 cl : Int
def Fd.cells (f : Fd) : Array Value := #[.string f.nm,.bool f.ptr,.string f.tgt,.int .i64 f.ln,.int .i64 f.cl]
def Fd.ty (f : Fd) : Ty := (f.ptr,f.tgt)
def Vr.ty (v : Vr) : Ty := (v.ptr,v.tgt)
structure St where
 s : Stc
 fs : List Fd
def St.cells (s : St) : Array Value := s.s.cells
structure Fn where
 c : Cod
 vs : List Vr
 frm : List Int
 mds : List (List Int)
def Fn.cells (f : Fn) : Array Value := f.c.cells
def Fn.ret (f : Fn) : Ty := (f.c.rp,f.c.rto)
structure Mo where
 sA : Option Addr
 sC : Nat
 fA : Option Addr
 fC : Nat
 ss : List St
 fs : List Fn
def Mo.cells (m : Mo) : Array Value := #[.slice m.sA m.ss.length m.sC,.slice m.fA m.fs.length m.fC]
structure Fn.inn (w : World) (f : Fn) : Prop where
 code : f.c.inn w
 nm : f.c.nm.size ≤ maxLen
 nvars : f.c.nvars = f.vs.length
 vars : RowOf Vr.cells 3 w w.heap.size f.c.varsA f.vs
 nfrom : f.c.nfrom = f.frm.length
 frm : IntRow w f.c.fromA f.frm
 nmds : f.mds.length = f.c.ins.length
 mds : ∀ (k : Nat) (i : Ins) (l : List Int),f.c.ins[k]? = some i → f.mds[k]? = some l → ∃ ao cap,i.modeV = .slice ao l.length cap ∧ IntRow w ao l
structure St.inn (w : World) (s : St) : Prop where
 nf : s.s.nf = s.fs.length
 row : RowOf Fd.cells 5 w w.heap.size s.s.fA s.fs
 len : s.fs.length ≤ maxLen
 nm : s.s.nm.size ≤ maxLen
 fnm : ∀ f ∈ s.fs,f.nm.size ≤ maxLen
structure Mo.inn (w : World) (m : Mo) : Prop where
 srow : RowOf St.cells 4 w w.heap.size m.sA m.ss
 frow : RowOf Fn.cells 8 w w.heap.size m.fA m.fs
 sin : ∀ s ∈ m.ss,s.inn w
 fin : ∀ f ∈ m.fs,f.inn w
 ns : m.ss.length ≤ maxLen
 nf : m.fs.length ≤ maxLen
theorem Fn.inn.below {w w' : World} {f : Fn} (h : f.inn w) (hb : Below w.heap.size w w') : f.inn w' :=
 ⟨h.code.below hb,h.nm,h.nvars,h.vars.grow hb,h.nfrom,RowOf.grow h.frm hb,h.nmds,fun k i l h1 h2 => by
  obtain ⟨ao,cap,e1,e2⟩ := h.mds k i l h1 h2
  exact ⟨ao,cap,e1,RowOf.grow e2 hb⟩⟩
theorem St.inn.below {w w' : World} {s : St} (h : s.inn w) (hb : Below w.heap.size w w') : s.inn w' := ⟨h.nf,h.row.grow hb,h.len,h.nm,h.fnm⟩
theorem Mo.inn.below {w w' : World} {m : Mo} (h : m.inn w) (hb : Below w.heap.size w w') : m.inn w' :=
 ⟨h.srow.grow hb,h.frow.grow hb,fun s hs => (h.sin s hs).below hb,fun f hf => (h.fin f hf).below hb,h.ns,h.nf⟩
end Go.Proofs.Ytlggjbopfnndbaa
namespace Go.Proofs.Ytlggjbopfnndbaa
open Go.RowKit Go.ChangeShapes Go.WideShapes Go.Deep
section
variable {H : Type} {enc : TypeId × Value → H} {w : World} {base : Nat} {spare : Nat → Bool} {held : Bool}
def Ins.mode_in (w : World) (i : Ins) : Prop := ∃ (l : List Int) (ao : Option Addr) (cap : Nat),i.modeV = .slice ao l.length cap ∧ IntRow w ao l
theorem open_ins2 {n : Nat} {cs : List Value} {x : DataW H × List MemPlace} (h : DataW.trod enc Try.prog w base spare held n 62 cs = some x) : ∃ i : Ins,i.cells.toList = cs ∧ i.args_in w ∧ i.mode_in w := by
 obtain ⟨i,h1,h2⟩ := open_ins h
 refine ⟨i,h1,h2,?_⟩
 obtain ⟨xs,m,_,_,hlen,hxl,hf⟩ := DataW.trod_struct Try.underlying62 h
 have hxl' : xs.length = 12 := hxl
 have g8 := (hf 8 _ rfl).trans (List.getElem?_eq_getElem (show 8 < xs.length by omega))
 obtain ⟨A,L,C,r8,_,hR,_⟩ := open_intRow g8
 refine ⟨L,A,C,?_,hR⟩
 rw [← h1] at r8
 simpa [Ins.cells,show Try.prog.cellsOf 35 = 1 from by kernel_rfl] using r8
theorem open_fd {n : Nat} {cs : List Value} {x : DataW H × List MemPlace} (h : DataW.trod enc Try.prog w base spare held n 86 cs = some x) : ∃ f : Fd,f.cells.toList = cs ∧ f.nm.size ≤ maxLen := by
 obtain ⟨xs,m,_,_,hlen,hxl,hf⟩ := DataW.trod_struct Try.underlying86 h
 have hc : Try.prog.cellsOf 86 = 5 := by kernel_rfl
 have hxl' : xs.length = 3 := hxl
 rw [hc] at hlen
 obtain ⟨c0,cs1,e0⟩ := List.exists_cons_of_length_eq_add_one (show cs.length = 4 + 1 from by rw [hlen])
 have hl1 : cs1.length = 4 := by rw [e0] at hlen; simpa using hlen
 obtain ⟨c1,cs2,e1⟩ := List.exists_cons_of_length_eq_add_one (show cs1.length = 3 + 1 from by simpa using hl1)
 have hl2 : cs2.length = 3 := by rw [e1] at hl1; simpa using hl1
 obtain ⟨c2,cs3,e2⟩ := List.exists_cons_of_length_eq_add_one (show cs2.length = 2 + 1 from by simpa using hl2)
 have hl3 : cs3.length = 2 := by rw [e2] at hl2; simpa using hl2
 obtain ⟨c3,cs4,e3⟩ := List.exists_cons_of_length_eq_add_one (show cs3.length = 1 + 1 from by simpa using hl3)
 have hl4 : cs4.length = 1 := by rw [e3] at hl3; simpa using hl3
 obtain ⟨c4,cs5,e4⟩ := List.exists_cons_of_length_eq_add_one (show cs4.length = 0 + 1 from by simpa using hl4)
 have hl5 : cs5.length = 0 := by rw [e4] at hl4; simpa using hl4
 obtain rfl := List.eq_nil_of_length_eq_zero hl5
 subst e4 e3 e2 e1 e0
 have z1 : Try.prog.cellsOf 4 = 1 := by kernel_rfl
 have z2 : Try.prog.cellsOf 9 = 1 := by kernel_rfl
 have z3 : Try.prog.cellsOf 3 = 1 := by kernel_rfl
 have z4 : Try.prog.cellsOf 45 = 2 := by kernel_rfl
 have z5 : Try.prog.cellsOf 55 = 2 := by kernel_rfl
 have g0 := (hf 0 _ rfl).trans (List.getElem?_eq_getElem (show 0 < xs.length by omega))
 obtain ⟨nm,r0,_,hsz⟩ := DataW.trod_string Try.underlying9 g0
 obtain rfl : c0 = .string nm := by simpa [z2] using r0
 have g1 := (hf 1 _ rfl).trans (List.getElem?_eq_getElem (show 1 < xs.length by omega))
 obtain ⟨ys,m',_,_,_,hyl,hf'⟩ := DataW.trod_struct Try.underlying45 g1
 have hyl' : ys.length = 2 := hyl
 have p0 := (hf' 0 _ rfl).trans (List.getElem?_eq_getElem (show 0 < ys.length by omega))
 have p1 := (hf' 1 _ rfl).trans (List.getElem?_eq_getElem (show 1 < ys.length by omega))
 obtain ⟨rp,s0,_⟩ := DataW.trod_bool Try.underlying4 p0
 obtain ⟨rto,s1,_,_⟩ := DataW.trod_string Try.underlying9 p1
 obtain rfl : c1 = .bool rp := by simpa [z1,z4] using s0
 obtain rfl : c2 = .string rto := by simpa [z2,z4] using s1
 have g2 := (hf 2 _ rfl).trans (List.getElem?_eq_getElem (show 2 < xs.length by omega))
 obtain ⟨us,m'',_,_,_,hul,hf''⟩ := DataW.trod_struct Try.underlying55 g2
 have hul' : us.length = 2 := hul
 have u0 := (hf'' 0 _ rfl).trans (List.getElem?_eq_getElem (show 0 < us.length by omega))
 have u1 := (hf'' 1 _ rfl).trans (List.getElem?_eq_getElem (show 1 < us.length by omega))
 obtain ⟨ln,v0,_,_⟩ := DataW.trod_int Try.underlying3 u0
 obtain ⟨cl,v1,_,_⟩ := DataW.trod_int Try.underlying3 u1
 obtain rfl : c3 = .int .i64 ln := by simpa [z3,z5] using v0
 obtain rfl : c4 = .int .i64 cl := by simpa [z3,z5] using v1
 exact ⟨⟨nm,rp,rto,ln,cl⟩,rfl,hsz⟩
theorem open_st {n : Nat} {cs : List Value} {x : DataW H × List MemPlace} (h : DataW.trod enc Try.prog w base spare held n 84 cs = some x) : ∃ s : St,s.cells.toList = cs ∧ s.inn w := by
 obtain ⟨xs,m,_,_,hlen,hxl,hf⟩ := DataW.trod_struct Try.underlying84 h
 have hc : Try.prog.cellsOf 84 = 4 := by kernel_rfl
 have hxl' : xs.length = 3 := hxl
 rw [hc] at hlen
 obtain ⟨c0,cs1,e0⟩ := List.exists_cons_of_length_eq_add_one (show cs.length = 3 + 1 from by rw [hlen])
 have hl1 : cs1.length = 3 := by rw [e0] at hlen; simpa using hlen
 obtain ⟨c1,cs2,e1⟩ := List.exists_cons_of_length_eq_add_one (show cs1.length = 2 + 1 from by simpa using hl1)
 have hl2 : cs2.length = 2 := by rw [e1] at hl1; simpa using hl1
 obtain ⟨c2,cs3,e2⟩ := List.exists_cons_of_length_eq_add_one (show cs2.length = 1 + 1 from by simpa using hl2)
 have hl3 : cs3.length = 1 := by rw [e2] at hl2; simpa using hl2
 obtain ⟨c3,cs4,e3⟩ := List.exists_cons_of_length_eq_add_one (show cs3.length = 0 + 1 from by simpa using hl3)
 have hl4 : cs4.length = 0 := by rw [e3] at hl3; simpa using hl3
 obtain rfl := List.eq_nil_of_length_eq_zero hl4
 subst e3 e2 e1 e0
 have z2 : Try.prog.cellsOf 9 = 1 := by kernel_rfl
 have z3 : Try.prog.cellsOf 3 = 1 := by kernel_rfl
 have z5 : Try.prog.cellsOf 55 = 2 := by kernel_rfl
 have z6 : Try.prog.cellsOf 82 = 1 := by kernel_rfl
 have g0 := (hf 0 _ rfl).trans (List.getElem?_eq_getElem (show 0 < xs.length by omega))
 obtain ⟨nm,r0,_,hsz⟩ := DataW.trod_string Try.underlying9 g0
 obtain rfl : c0 = .string nm := by simpa [z2] using r0
 have g1 := (hf 1 _ rfl).trans (List.getElem?_eq_getElem (show 1 < xs.length by omega))
 obtain ⟨fA,fs,fC,r1,hfl,hfr,hfq⟩ := open_row Fd.cells (fun f : Fd => f.nm.size ≤ maxLen) 5 (by decide) Try.underlying82 (by kernel_rfl) (fun n cs x hx => open_fd hx) g1
 obtain rfl : c1 = .slice fA fs.length fC := by simpa [z6] using r1
 have g2 := (hf 2 _ rfl).trans (List.getElem?_eq_getElem (show 2 < xs.length by omega))
 obtain ⟨us,m'',_,_,_,hul,hf''⟩ := DataW.trod_struct Try.underlying55 g2
 have hul' : us.length = 2 := hul
 have u0 := (hf'' 0 _ rfl).trans (List.getElem?_eq_getElem (show 0 < us.length by omega))
 have u1 := (hf'' 1 _ rfl).trans (List.getElem?_eq_getElem (show 1 < us.length by omega))
 obtain ⟨ln,v0,_,_⟩ := DataW.trod_int Try.underlying3 u0
 obtain ⟨cl,v1,_,_⟩ := DataW.trod_int Try.underlying3 u1
 obtain rfl : c2 = .int .i64 ln := by simpa [z3,z5] using v0
 obtain rfl : c3 = .int .i64 cl := by simpa [z3,z5] using v1
 exact ⟨⟨⟨nm,fA,fs.length,fC,ln,cl⟩,fs⟩,rfl,rfl,hfr,hfl,hsz,hfq⟩
set_option maxRecDepth 100000 in
theorem open_fn {n : Nat} {cs : List Value} {x : DataW H × List MemPlace} (h : DataW.trod enc Try.prog w base spare held n 50 cs = some x) : ∃ f : Fn,f.cells.toList = cs ∧ f.inn w := by
 obtain ⟨xs,m,_,_,hlen,hxl,hf⟩ := DataW.trod_struct Try.underlying50 h
 have hc : Try.prog.cellsOf 50 = 8 := by kernel_rfl
 have hxl' : xs.length = 6 := hxl
 rw [hc] at hlen
 obtain ⟨c0,cs1,e0⟩ := List.exists_cons_of_length_eq_add_one (show cs.length = 7 + 1 from by rw [hlen])
 have hl1 : cs1.length = 7 := by rw [e0] at hlen; simpa using hlen
 obtain ⟨c1,cs2,e1⟩ := List.exists_cons_of_length_eq_add_one (show cs1.length = 6 + 1 from by simpa using hl1)
 have hl2 : cs2.length = 6 := by rw [e1] at hl1; simpa using hl1
 obtain ⟨c2,cs3,e2⟩ := List.exists_cons_of_length_eq_add_one (show cs2.length = 5 + 1 from by simpa using hl2)
 have hl3 : cs3.length = 5 := by rw [e2] at hl2; simpa using hl2
 obtain ⟨c3,cs4,e3⟩ := List.exists_cons_of_length_eq_add_one (show cs3.length = 4 + 1 from by simpa using hl3)
 have hl4 : cs4.length = 4 := by rw [e3] at hl3; simpa using hl3
 obtain ⟨c4,cs5,e4⟩ := List.exists_cons_of_length_eq_add_one (show cs4.length = 3 + 1 from by simpa using hl4)
 have hl5 : cs5.length = 3 := by rw [e4] at hl4; simpa using hl4
 obtain ⟨c5,cs6,e5⟩ := List.exists_cons_of_length_eq_add_one (show cs5.length = 2 + 1 from by simpa using hl5)
 have hl6 : cs6.length = 2 := by rw [e5] at hl5; simpa using hl5
 obtain ⟨c6,cs7,e6⟩ := List.exists_cons_of_length_eq_add_one (show cs6.length = 1 + 1 from by simpa using hl6)
 have hl7 : cs7.length = 1 := by rw [e6] at hl6; simpa using hl6
 obtain ⟨c7,cs8,e7⟩ := List.exists_cons_of_length_eq_add_one (show cs7.length = 0 + 1 from by simpa using hl7)
 have hl8 : cs8.length = 0 := by rw [e7] at hl7; simpa using hl7
 obtain rfl := List.eq_nil_of_length_eq_zero hl8
 subst e7 e6 e5 e4 e3 e2 e1 e0
 have g0 := (hf 0 _ rfl).trans (List.getElem?_eq_getElem (show 0 < xs.length by omega))
 obtain ⟨nm,r0,_,hsz⟩ := DataW.trod_string Try.underlying9 g0
 obtain rfl : c0 = .string nm := by simpa [show Try.prog.cellsOf 9 = 1 from by kernel_rfl] using r0
 have g1 := (hf 1 _ rfl).trans (List.getElem?_eq_getElem (show 1 < xs.length by omega))
 obtain ⟨par,r1,_,_⟩ := DataW.trod_int Try.underlying3 g1
 obtain rfl : c1 = .int .i64 par := by simpa [show Try.prog.cellsOf 3 = 1 from by kernel_rfl] using r1
 have g2 := (hf 2 _ rfl).trans (List.getElem?_eq_getElem (show 2 < xs.length by omega))
 obtain ⟨varsA,vs,varsC,r2,hvl,hvr,_⟩ := open_row Vr.cells (fun _ => True) 3 (by decide) Try.underlying43 (by kernel_rfl) (fun n cs x hx => open_vr hx) g2
 obtain rfl : c2 = .slice varsA vs.length varsC := by simpa [show Try.prog.cellsOf 43 = 1 from by kernel_rfl] using r2
 have g3 := (hf 3 _ rfl).trans (List.getElem?_eq_getElem (show 3 < xs.length by omega))
 obtain ⟨v,hv,_⟩ := open_vr g3
 have z4 : Try.prog.cellsOf 47 = 3 := by kernel_rfl
 simp [Vr.cells,z4] at hv
 obtain ⟨rfl,rfl,rfl⟩ := hv
 have g4 := (hf 4 _ rfl).trans (List.getElem?_eq_getElem (show 4 < xs.length by omega))
 obtain ⟨frmA,frmL,frmC,r4,hfl,frmR,_⟩ := open_intRow g4
 obtain rfl : c6 = .slice frmA frmL.length frmC := by simpa [show Try.prog.cellsOf 35 = 1 from by kernel_rfl] using r4
 have g5 := (hf 5 _ rfl).trans (List.getElem?_eq_getElem (show 5 < xs.length by omega))
 obtain ⟨insA,ins,insC,r5,hil,hir,hia⟩ := open_row Ins.cells (fun i => i.args_in w ∧ i.mode_in w) 13 (by decide) Try.underlying48 (by kernel_rfl) (fun n cs x hx => open_ins2 hx) g5
 obtain rfl : c7 = .slice insA ins.length insC := by simpa [show Try.prog.cellsOf 48 = 1 from by kernel_rfl] using r5
 obtain ⟨mds,hml,hmp⟩ := exists_list (fun k (l : List Int) => ∀ i,ins[k]? = some i → ∃ ao cap,i.modeV = .slice ao l.length cap ∧ IntRow w ao l) ins.length (fun k hk => by
  obtain ⟨i,hi⟩ : ∃ i,ins[k]? = some i := ⟨_,List.getElem?_eq_getElem hk⟩
  obtain ⟨l,ao,cap,h1,h2⟩ := (hia i (List.mem_of_getElem? hi)).2
  exact ⟨l,fun j hj => by rw [hi] at hj; obtain rfl := Option.some.inj hj; exact ⟨ao,cap,h1,h2⟩⟩)
 exact ⟨⟨⟨nm,par,varsA,vs.length,varsC,v.ptr,v.tgt,v.cls,frmA,frmL.length,frmC,insA,insC,ins⟩,vs,frmL,mds⟩,rfl,⟨hir,fun x hx => (hia x hx).1,hil,⟨vs,rfl,hvr⟩,hvl,hfl,⟨frmL,rfl,frmR⟩⟩,hsz,rfl,hvr,rfl,frmR,hml,fun k i l h1 h2 => hmp k l h2 i h1⟩
set_option maxRecDepth 100000 in
theorem open_mo {r : Reach} {b0 : Nat} {v : Value} {d : DataW H} {p : List MemPlace} (hv : Value.okWide Try.prog w r b0 25 v) (h : DataW.Trod enc Try.prog w base spare held 25 v d p) :
  ∃ m : Mo,v = .agg m.cells ∧ m.inn w := by
 obtain ⟨cs,fuel,hv',hfu⟩ := agg_of Try.underlying25 hv h
 obtain ⟨xs,m,_,_,hlen,hxl,hf⟩ := DataW.trod_struct Try.underlying25 hfu
 have hc : Try.prog.cellsOf 25 = 2 := by kernel_rfl
 have hxl' : xs.length = 2 := hxl
 rw [hc] at hlen
 obtain ⟨c0,cs1,e0⟩ := List.exists_cons_of_length_eq_add_one (show cs.toList.length = 1 + 1 from by rw [hlen])
 have hl1 : cs1.length = 1 := by rw [e0] at hlen; simpa using hlen
 obtain ⟨c1,cs2,e1⟩ := List.exists_cons_of_length_eq_add_one (show cs1.length = 0 + 1 from by simpa using hl1)
 have hl2 : cs2.length = 0 := by rw [e1] at hl1; simpa using hl1
 obtain rfl := List.eq_nil_of_length_eq_zero hl2
 subst e1
 have g0 := (hf 0 _ rfl).trans (List.getElem?_eq_getElem (show 0 < xs.length by omega))
 have g1 := (hf 1 _ rfl).trans (List.getElem?_eq_getElem (show 1 < xs.length by omega))
 obtain ⟨sA,ss,sC,r0,hsl,hsr,hsq⟩ := open_row St.cells (fun s => s.inn w) 4 (by decide) Try.underlying22 (by kernel_rfl) (fun n cs x hx => open_st hx) g0
 obtain ⟨fA,fs,fC,r1,hfl,hfr,hfq⟩ := open_row Fn.cells (fun f => f.inn w) 8 (by decide) Try.underlying23 (by kernel_rfl) (fun n cs x hx => open_fn hx) g1
 rw [e0] at r0 r1
 obtain rfl : c0 = .slice sA ss.length sC := by simpa [show Try.prog.cellsOf 22 = 1 from by kernel_rfl] using r0
 obtain rfl : c1 = .slice fA fs.length fC := by simpa [show Try.prog.cellsOf 22 = 1 from by kernel_rfl,show Try.prog.cellsOf 23 = 1 from by kernel_rfl] using r1
 have e : cs = (⟨sA,sC,fA,fC,ss,fs⟩ : Mo).cells := Array.ext' e0
 exact ⟨⟨sA,sC,fA,fC,ss,fs⟩,by rw [hv',e],hsr,hfr,hsq,hfq,hsl,hfl⟩
end
end Go.Proofs.Ytlggjbopfnndbaa
namespace Go.Proofs.Ytlggjbopfnndbaa
open Go.RowKit
section
variable {α : Type} {enc : α → List Value} {size : Nat} {st e : TypeId} {w w' w5 : World} {R n : Nat} {F : Nat → Prop} {rows : Nat → List α}
theorem ownsRow_ext {M : Nat → Prop} {base sz m : Nat} {v : Value} {xs : List Value} (h : w.ownsRow base e sz v m xs) (hx : Ext M w w') (hM : ∀ k,v.ownBlock = some k → ¬ M k) : w'.ownsRow base e sz v m xs := by
 refine ⟨h.1,?_⟩
 rcases h.2 with h' | ⟨g,cap,cur,e1,e2,e3,e4⟩
 ·exact .inl h'
 ·exact .inr ⟨g,cap,cur,e1,e2,hx.heap e3 (hM g (by rw [e1]; rfl)),e4⟩
theorem ownsRow_base {base base' sz m : Nat} {v : Value} {xs : List Value} (h : w.ownsRow base e sz v m xs) (hb : ∀ k,v.ownBlock = some k → base' ≤ k) : w.ownsRow base' e sz v m xs := by
 refine ⟨h.1,?_⟩
 rcases h.2 with h' | ⟨g,cap,cur,e1,e2,e3⟩
 ·exact .inl h'
 ·exact .inr ⟨g,cap,cur,e1,hb g (by rw [e1]; rfl),e3⟩
end
theorem ext_grown {w wA w5 : World} {v : Value} (hA : Ext (fun _ => False) w wA) (hg : wA.grownBy w5 v.ownBlock) : Ext (fun k => v.ownBlock = some k) w w5 :=
 (hA.mono (fun _ h => h.elim)).trans (Ext.of_grown (M := fun k => v.ownBlock = some k) hg (fun _ hk => .inl hk)) (fun _ hj => .inl hj)
end Go.Proofs.Ytlggjbopfnndbaa
