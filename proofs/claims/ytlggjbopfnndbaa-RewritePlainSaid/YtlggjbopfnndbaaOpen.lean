/- A code that came in, read in memory. -/
import Derived.Test.YtlggjbopfnndbaaG02
import Derived.Deep.Slices
import Derived.Carry
namespace Go.Proofs.Ytlggjbopfnndbaa
open Go.RowKit Go.ChangeShapes Go.WideShapes Go.Deep
theorem exists_list {α : Type} (p : Nat → α → Prop) : ∀ n,(∀ i,i < n → ∃ a,p i a) → ∃ xs : List α,xs.length = n ∧ ∀ i x,xs[i]? = some x → p i x
 | 0,_ => ⟨[],rfl,fun i x h => by simp at h⟩
 | n + 1,h => by
  obtain ⟨xs,hl,hx⟩ := exists_list p n (fun i hi => h i (by omega))
  obtain ⟨a,ha⟩ := h n (by omega)
  refine ⟨xs ++ [a],by simp [hl],fun i x hi => ?_⟩
  rcases Nat.lt_or_ge i n with hlt | hge
  ·rw [List.getElem?_append_left (by omega)] at hi; exact hx i x hi
  ·have hin : i < (xs ++ [a]).length := (List.getElem?_eq_some_iff.1 hi).1
   simp [hl] at hin
   obtain rfl : i = n := by omega
   rw [List.getElem?_append_right (by omega),hl] at hi
   simp at hi
   subst hi; exact ha
theorem spot_of_cell {w : World} {a : Addr} {v : Value} (h : w.cell? a = some v) : a = ⟨a.block,a.off,none⟩ ∧ a.block < w.heap.size := by
 unfold World.cell? at h
 split at h
 ·rename_i hg
  have hlt := (Array.getElem?_eq_some_iff.1 hg).1
  obtain ⟨b,o,s⟩ := a
  cases s with
  | none => exact ⟨rfl,hlt⟩
  | some s => simp at h
 ·simp at h
section
variable {H : Type} {enc : TypeId × Value → H} {P : Program} {w : World} {base : Nat} {spare : Nat → Bool} {held : Bool}
theorem open_row {α : Type} (cells : α → Array Value) (Q : α → Prop) {t e : TypeId} {fuel : Nat} {cs : List Value} {x : DataW H × List MemPlace} (stride : Nat) (hst : 0 < stride) (ht : P.underlying t = some (.slice e)) (hc : P.cellsOf e = stride)
  (leaf : ∀ (n : Nat) (cs : List Value) (x : DataW H × List MemPlace),DataW.trod enc P w base spare held n e cs = some x → ∃ a : α,(cells a).toList = cs ∧ Q a)
  (h : DataW.trod enc P w base spare held fuel t cs = some x) :
  ∃ (ao : Option Addr) (xs : List α) (cap : Nat),cs = [.slice ao xs.length cap] ∧ xs.length ≤ maxLen ∧ RowOf cells stride w w.heap.size ao xs ∧ ∀ a ∈ xs,Q a := by
 rcases open_slice ht h with ⟨rfl,_⟩ | ⟨a,len,cap,m,n,D,Pl,rfl,hb,hl,hm,hmm,hx,hi⟩
 ·exact ⟨none,[],0,rfl,Nat.zero_le _,fun hne => absurd rfl hne,fun a ha => absurd ha (by simp)⟩
 ·have hlm : len ≤ m := by rw [hmm]; split <;> omega
  obtain ⟨xs,hxl,hxp⟩ := exists_list (fun i (x : α) => Q x ∧ ∀ k u,(cells x).toList[k]? = some u → w.cell? (a.add (i * stride + k)) = some u) len (by
   intro i hil
   obtain ⟨cs',hcs,htr⟩ := hi i (by omega)
   obtain ⟨x,hx1,hx2⟩ := leaf n cs' _ htr
   obtain ⟨_,hcl,hat⟩ := World.cells?_some hcs
   rw [hc] at hcl hat
   refine ⟨x,hx2,fun k u hk => ?_⟩
   have hk' : k < stride := by rw [← hcl,← hx1]; exact (List.getElem?_eq_some_iff.1 hk).1
   have := hat k hk'
   rw [← Go.Deep.add_add,this,← hx1]; exact hk)
  refine ⟨some a,xs,cap,by rw [hxl],by omega,fun hne => ?_,fun x hx => ?_⟩
  ·have hpos : 0 < xs.length := List.length_pos_iff.2 hne
   obtain ⟨cs',hcs,htr⟩ := hi 0 (by omega)
   obtain ⟨_,hcl,hat⟩ := World.cells?_some hcs
   rw [hc] at hcl hat
   have h0 := hat 0 hst
   rw [List.getElem?_eq_getElem (by omega),Nat.zero_mul] at h0
   obtain ⟨ha,hlt⟩ := spot_of_cell h0
   have ha2 : a = ⟨a.block,a.off,none⟩ := by
    obtain ⟨b,o,s⟩ := a
    simp [Addr.add] at ha ⊢; exact ha
   refine ⟨a.block,a.off,by rw [← ha2],by simpa [Addr.add] using hlt,fun i x hix k u hu => ?_⟩
   have := (hxp i x hix).2 k u hu
   rw [ha2,Addr.add_lit,← Nat.add_assoc] at this
   exact this
  ·obtain ⟨i,hix⟩ := List.mem_iff_getElem?.1 hx
   exact (hxp i x hix).1
end
theorem agg_of {H : Type} {enc : TypeId × Value → H} {P : Program} {w : World} {base : Nat} {spare : Nat → Bool} {held : Bool} {r : Reach} {b0 : Nat} {t : TypeId} {fs : Array Field} {v : Value} {d : DataW H} {p : List MemPlace} (hs : P.underlying t = some (.struct fs))
  (hv : Value.okWide P w r b0 t v) (h : DataW.Trod enc P w base spare held t v d p) : ∃ (cs : Array Value) (fuel : Nat),v = .agg cs ∧ DataW.trod enc P w base spare held fuel t cs.toList = some (d,p) := by
 obtain ⟨cs,rfl,_⟩ := okWide_struct hs hv
 obtain ⟨fuel,hf⟩ := h
 exact ⟨cs,fuel,rfl,by simpa [Value.cells] using hf⟩
section
variable {H : Type} {enc : TypeId × Value → H} {w : World} {base : Nat} {spare : Nat → Bool} {held : Bool}
def IntRow (w : World) (ao : Option Addr) (xs : List Int) : Prop := RowOf (fun z : Int => #[.int .i64 z]) 1 w w.heap.size ao xs
theorem open_intRow {fuel : Nat} {cs : List Value} {x : DataW H × List MemPlace} (h : DataW.trod enc Try.prog w base spare held fuel 35 cs = some x) :
  ∃ (ao : Option Addr) (xs : List Int) (cap : Nat),cs = [.slice ao xs.length cap] ∧ xs.length ≤ maxLen ∧ IntRow w ao xs ∧ ∀ z ∈ xs,(Lit.int .i64 z).wf = true := by
 refine open_row _ (fun z => (Lit.int .i64 z).wf = true) 1 (by decide) Try.underlying35 (by kernel_rfl) (fun n cs x hx => ?_) h
 obtain ⟨z,rfl,_,hw⟩ := DataW.trod_int Try.underlying3 hx
 exact ⟨z,rfl,hw⟩
def Ins.args_in (w : World) (i : Ins) : Prop := i.ok ∧ ∃ ao cap,i.argsV = .slice ao i.args.length cap ∧ IntRow w ao i.args
theorem open_ins {n : Nat} {cs : List Value} {x : DataW H × List MemPlace} (h : DataW.trod enc Try.prog w base spare held n 62 cs = some x) : ∃ i : Ins,i.cells.toList = cs ∧ i.args_in w := by
 obtain ⟨xs,m,_,_,hlen,hxl,hf⟩ := DataW.trod_struct Try.underlying62 h
 have hc : Try.prog.cellsOf 62 = 13 := by kernel_rfl
 have hxl' : xs.length = 12 := hxl
 rw [hc] at hlen
 obtain ⟨c0,cs1,e0⟩ := List.exists_cons_of_length_eq_add_one (show cs.length = 12 + 1 from by rw [hlen])
 have hl1 : cs1.length = 12 := by rw [e0] at hlen; simpa using hlen
 obtain ⟨c1,cs2,e1⟩ := List.exists_cons_of_length_eq_add_one (show cs1.length = 11 + 1 from by simpa using hl1)
 have hl2 : cs2.length = 11 := by rw [e1] at hl1; simpa using hl1
 obtain ⟨c2,cs3,e2⟩ := List.exists_cons_of_length_eq_add_one (show cs2.length = 10 + 1 from by simpa using hl2)
 have hl3 : cs3.length = 10 := by rw [e2] at hl2; simpa using hl2
 obtain ⟨c3,cs4,e3⟩ := List.exists_cons_of_length_eq_add_one (show cs3.length = 9 + 1 from by simpa using hl3)
 have hl4 : cs4.length = 9 := by rw [e3] at hl3; simpa using hl3
 obtain ⟨c4,cs5,e4⟩ := List.exists_cons_of_length_eq_add_one (show cs4.length = 8 + 1 from by simpa using hl4)
 have hl5 : cs5.length = 8 := by rw [e4] at hl4; simpa using hl4
 obtain ⟨c5,cs6,e5⟩ := List.exists_cons_of_length_eq_add_one (show cs5.length = 7 + 1 from by simpa using hl5)
 have hl6 : cs6.length = 7 := by rw [e5] at hl5; simpa using hl5
 obtain ⟨c6,cs7,e6⟩ := List.exists_cons_of_length_eq_add_one (show cs6.length = 6 + 1 from by simpa using hl6)
 have hl7 : cs7.length = 6 := by rw [e6] at hl6; simpa using hl6
 obtain ⟨c7,cs8,e7⟩ := List.exists_cons_of_length_eq_add_one (show cs7.length = 5 + 1 from by simpa using hl7)
 have hl8 : cs8.length = 5 := by rw [e7] at hl7; simpa using hl7
 obtain ⟨c8,cs9,e8⟩ := List.exists_cons_of_length_eq_add_one (show cs8.length = 4 + 1 from by simpa using hl8)
 have hl9 : cs9.length = 4 := by rw [e8] at hl8; simpa using hl8
 obtain ⟨c9,cs10,e9⟩ := List.exists_cons_of_length_eq_add_one (show cs9.length = 3 + 1 from by simpa using hl9)
 have hl10 : cs10.length = 3 := by rw [e9] at hl9; simpa using hl9
 obtain ⟨c10,cs11,e10⟩ := List.exists_cons_of_length_eq_add_one (show cs10.length = 2 + 1 from by simpa using hl10)
 have hl11 : cs11.length = 2 := by rw [e10] at hl10; simpa using hl10
 obtain ⟨c11,cs12,e11⟩ := List.exists_cons_of_length_eq_add_one (show cs11.length = 1 + 1 from by simpa using hl11)
 have hl12 : cs12.length = 1 := by rw [e11] at hl11; simpa using hl11
 obtain ⟨c12,cs13,e12⟩ := List.exists_cons_of_length_eq_add_one (show cs12.length = 0 + 1 from by simpa using hl12)
 have hl13 : cs13.length = 0 := by rw [e12] at hl12; simpa using hl12
 obtain rfl := List.eq_nil_of_length_eq_zero hl13
 subst e12 e11 e10 e9 e8 e7 e6 e5 e4 e3 e2 e1 e0
 have g0 := (hf 0 _ rfl).trans (List.getElem?_eq_getElem (show 0 < xs.length by omega))
 obtain ⟨op,r0,_,_⟩ := DataW.trod_int Try.underlying3 g0
 obtain rfl : c0 = .int .i64 op := by simpa [show Try.prog.cellsOf 3 = 1 from by kernel_rfl] using r0
 have g1 := (hf 1 _ rfl).trans (List.getElem?_eq_getElem (show 1 < xs.length by omega))
 obtain ⟨d,r1,_,_⟩ := DataW.trod_int Try.underlying3 g1
 obtain rfl : c1 = .int .i64 d := by simpa [show Try.prog.cellsOf 3 = 1 from by kernel_rfl] using r1
 have g2 := (hf 2 _ rfl).trans (List.getElem?_eq_getElem (show 2 < xs.length by omega))
 obtain ⟨a,r2,_,_⟩ := DataW.trod_int Try.underlying3 g2
 obtain rfl : c2 = .int .i64 a := by simpa [show Try.prog.cellsOf 3 = 1 from by kernel_rfl] using r2
 have g3 := (hf 3 _ rfl).trans (List.getElem?_eq_getElem (show 3 < xs.length by omega))
 obtain ⟨b,r3,_,_⟩ := DataW.trod_int Try.underlying3 g3
 obtain rfl : c3 = .int .i64 b := by simpa [show Try.prog.cellsOf 3 = 1 from by kernel_rfl] using r3
 have g4 := (hf 4 _ rfl).trans (List.getElem?_eq_getElem (show 4 < xs.length by omega))
 obtain ⟨f,r4,_,_⟩ := DataW.trod_int Try.underlying3 g4
 obtain rfl : c4 = .int .i64 f := by simpa [show Try.prog.cellsOf 3 = 1 from by kernel_rfl] using r4
 have g5 := (hf 5 _ rfl).trans (List.getElem?_eq_getElem (show 5 < xs.length by omega))
 obtain ⟨n,r5,_,_⟩ := DataW.trod_int Try.underlying2 g5
 obtain rfl : c5 = .int .i64 n := by simpa [show Try.prog.cellsOf 2 = 1 from by kernel_rfl] using r5
 have g6 := (hf 6 _ rfl).trans (List.getElem?_eq_getElem (show 6 < xs.length by omega))
 obtain ⟨sign,r6,_,_⟩ := DataW.trod_string Try.underlying9 g6
 obtain rfl : c6 = .string sign := by simpa [show Try.prog.cellsOf 9 = 1 from by kernel_rfl] using r6
 have g7 := (hf 7 _ rfl).trans (List.getElem?_eq_getElem (show 7 < xs.length by omega))
 obtain ⟨argsVA,argsVL,argsVC,r7,_,argsVR,_⟩ := open_intRow g7
 obtain rfl : c7 = .slice argsVA argsVL.length argsVC := by simpa [show Try.prog.cellsOf 35 = 1 from by kernel_rfl] using r7
 have g8 := (hf 8 _ rfl).trans (List.getElem?_eq_getElem (show 8 < xs.length by omega))
 obtain ⟨modeVA,modeVL,modeVC,r8,_,modeVR,_⟩ := open_intRow g8
 obtain rfl : c8 = .slice modeVA modeVL.length modeVC := by simpa [show Try.prog.cellsOf 35 = 1 from by kernel_rfl] using r8
 have g9 := (hf 9 _ rfl).trans (List.getElem?_eq_getElem (show 9 < xs.length by omega))
 obtain ⟨tgt,r9,_,_⟩ := DataW.trod_int Try.underlying3 g9
 obtain rfl : c9 = .int .i64 tgt := by simpa [show Try.prog.cellsOf 3 = 1 from by kernel_rfl] using r9
 have g10 := (hf 10 _ rfl).trans (List.getElem?_eq_getElem (show 10 < xs.length by omega))
 obtain ⟨els,r10,_,_⟩ := DataW.trod_int Try.underlying3 g10
 obtain rfl : c10 = .int .i64 els := by simpa [show Try.prog.cellsOf 3 = 1 from by kernel_rfl] using r10
 have g11 := (hf 11 _ rfl).trans (List.getElem?_eq_getElem (show 11 < xs.length by omega))
 obtain ⟨ys,m',_,_,_,hyl,hf'⟩ := DataW.trod_struct Try.underlying55 g11
 have hyl' : ys.length = 2 := hyl
 have p0 := (hf' 0 _ rfl).trans (List.getElem?_eq_getElem (show 0 < ys.length by omega))
 have p1 := (hf' 1 _ rfl).trans (List.getElem?_eq_getElem (show 1 < ys.length by omega))
 obtain ⟨ln,s0,_,_⟩ := DataW.trod_int Try.underlying3 p0
 obtain ⟨cl,s1,_,_⟩ := DataW.trod_int Try.underlying3 p1
 obtain rfl : c11 = .int .i64 ln := by simpa [show Try.prog.cellsOf 3 = 1 from by kernel_rfl,show Try.prog.cellsOf 55 = 2 from by kernel_rfl] using s0
 obtain rfl : c12 = .int .i64 cl := by simpa [show Try.prog.cellsOf 3 = 1 from by kernel_rfl,show Try.prog.cellsOf 55 = 2 from by kernel_rfl] using s1
 exact ⟨⟨op,d,a,b,f,n,sign,.slice argsVA argsVL.length argsVC,.slice modeVA modeVL.length modeVC,tgt,els,ln,cl,argsVL⟩,rfl,⟨⟨_,_,rfl⟩,_,_,_,rfl⟩,_,_,rfl,argsVR⟩
structure Vr where
 ptr : Bool
 tgt : ByteArray
 cls : Int
def Vr.cells (v : Vr) : Array Value := #[.bool v.ptr,.string v.tgt,.int .i64 v.cls]
theorem open_vr {n : Nat} {cs : List Value} {x : DataW H × List MemPlace} (h : DataW.trod enc Try.prog w base spare held n 47 cs = some x) : ∃ v : Vr,v.cells.toList = cs ∧ True := by
 obtain ⟨xs,m,_,_,hlen,hxl,hf⟩ := DataW.trod_struct Try.underlying47 h
 have hc : Try.prog.cellsOf 47 = 3 := by kernel_rfl
 have hxl' : xs.length = 2 := hxl
 rw [hc] at hlen
 obtain ⟨c0,cs1,e0⟩ := List.exists_cons_of_length_eq_add_one (show cs.length = 2 + 1 from by rw [hlen])
 have hl1 : cs1.length = 2 := by rw [e0] at hlen; simpa using hlen
 obtain ⟨c1,cs2,e1⟩ := List.exists_cons_of_length_eq_add_one (show cs1.length = 1 + 1 from by simpa using hl1)
 have hl2 : cs2.length = 1 := by rw [e1] at hl1; simpa using hl1
 obtain ⟨c2,cs3,e2⟩ := List.exists_cons_of_length_eq_add_one (show cs2.length = 0 + 1 from by simpa using hl2)
 have hl3 : cs3.length = 0 := by rw [e2] at hl2; simpa using hl2
 obtain rfl := List.eq_nil_of_length_eq_zero hl3
 subst e2 e1 e0
 have g0 := (hf 0 _ rfl).trans (List.getElem?_eq_getElem (show 0 < xs.length by omega))
 have g1 := (hf 1 _ rfl).trans (List.getElem?_eq_getElem (show 1 < xs.length by omega))
 obtain ⟨ys,m',_,_,_,hyl,hf'⟩ := DataW.trod_struct Try.underlying45 g0
 have hyl' : ys.length = 2 := hyl
 have p0 := (hf' 0 _ rfl).trans (List.getElem?_eq_getElem (show 0 < ys.length by omega))
 have p1 := (hf' 1 _ rfl).trans (List.getElem?_eq_getElem (show 1 < ys.length by omega))
 obtain ⟨rp,s0,_⟩ := DataW.trod_bool Try.underlying4 p0
 obtain ⟨rto,s1,_,_⟩ := DataW.trod_string Try.underlying9 p1
 obtain ⟨rcl,s2,_,_⟩ := DataW.trod_int Try.underlying3 g1
 have z1 : Try.prog.cellsOf 4 = 1 := by kernel_rfl
 have z2 : Try.prog.cellsOf 9 = 1 := by kernel_rfl
 have z3 : Try.prog.cellsOf 3 = 1 := by kernel_rfl
 have z4 : Try.prog.cellsOf 45 = 2 := by kernel_rfl
 obtain rfl : c0 = .bool rp := by simpa [z1,z4] using s0
 obtain rfl : c1 = .string rto := by simpa [z2,z4] using s1
 obtain rfl : c2 = .int .i64 rcl := by simpa [z3] using s2
 exact ⟨⟨rp,rto,rcl⟩,rfl,trivial⟩
structure Cod.inn (w : World) (c : Cod) : Prop where
 row : InsRow w w.heap.size c.insA c.ins
 args : ∀ x ∈ c.ins,x.args_in w
 len : c.ins.length ≤ maxLen
 vars : ∃ vs : List Vr,vs.length = c.nvars ∧ RowOf Vr.cells 3 w w.heap.size c.varsA vs
 nvars : c.nvars ≤ maxLen
 nfrom : c.nfrom ≤ maxLen
 froms : ∃ fs : List Int,fs.length = c.nfrom ∧ IntRow w c.fromA fs
end
theorem Ins.args_in.below {w w' : World} {i : Ins} (h : i.args_in w) (hb : Below w.heap.size w w') : i.args_in w' := by
 obtain ⟨h1,ao,cap,h2,h3⟩ := h
 refine ⟨h1,ao,cap,h2,fun hne => ?_⟩
 obtain ⟨b,off,e1,e2,e3⟩ := RowOf.below h3 hb (Nat.le_refl _) hne
 exact ⟨b,off,e1,Nat.lt_of_lt_of_le e2 hb.size,e3⟩
theorem RowOf.grow {α : Type} {cells : α → Array Value} {stride : Nat} {w w' : World} {ao : Option Addr} {xs : List α} (h : RowOf cells stride w w.heap.size ao xs) (hb : Below w.heap.size w w') : RowOf cells stride w' w'.heap.size ao xs := by
 intro hne
 obtain ⟨b,off,e1,e2,e3⟩ := h.below hb (Nat.le_refl _) hne
 exact ⟨b,off,e1,Nat.lt_of_lt_of_le e2 hb.size,e3⟩
theorem Cod.inn.below {w w' : World} {c : Cod} (h : c.inn w) (hb : Below w.heap.size w w') : c.inn w' :=
 ⟨RowOf.grow (cells := Ins.cells) h.row hb,fun x hx => (h.args x hx).below hb,h.len,let ⟨vs,a,b⟩ := h.vars; ⟨vs,a,b.grow hb⟩,h.nvars,h.nfrom,let ⟨fs,a,b⟩ := h.froms; ⟨fs,a,RowOf.grow b hb⟩⟩
end Go.Proofs.Ytlggjbopfnndbaa
