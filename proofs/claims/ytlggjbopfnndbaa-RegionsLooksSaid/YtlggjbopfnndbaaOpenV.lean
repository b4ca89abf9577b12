/- A variable's type and class that come in. -/
import Derived.Test.YtlggjbopfnndbaaG04

namespace Go.Proofs.Ytlggjbopfnndbaa
open Go.ChangeShapes Go.WideShapes Go.ChangeAt Go.RowKit

set_option maxRecDepth 100000 in
theorem open_var {H : Type} {enc : TypeId × Value → H} {w : World} {base : Nat} {spare : Nat → Bool} {held : Bool} {r : Reach} {b0 : Nat} {v : Value} {d : DataW H} {p : List MemPlace} (hv : Value.okWide Try.prog w r b0 47 v) (h : DataW.Trod enc Try.prog w base spare held 47 v d p) :
    ∃ m : Vr, v = .agg m.cells ∧ True := by
  obtain ⟨cs, fuel, hv', hfu⟩ := agg_of Try.underlying47 hv h
  obtain ⟨xs, m, _, _, hlen, hxl, hf⟩ := DataW.trod_struct Try.underlying47 hfu
  have hc : Try.prog.cellsOf 47 = 3 := by kernel_rfl
  have hxl' : xs.length = 2 := hxl
  rw [hc] at hlen
  obtain ⟨c0, cs1, e0⟩ := List.exists_cons_of_length_eq_add_one (show cs.toList.length = 2 + 1 from by rw [hlen])
  have hl1 : cs1.length = 2 := by rw [e0] at hlen; simpa using hlen
  obtain ⟨c1, cs2, e1⟩ := List.exists_cons_of_length_eq_add_one (show cs1.length = 1 + 1 from by simpa using hl1)
  have hl2 : cs2.length = 1 := by rw [e1] at hl1; simpa using hl1
  obtain ⟨c2, cs3, e2⟩ := List.exists_cons_of_length_eq_add_one (show cs2.length = 0 + 1 from by simpa using hl2)
  have hl3 : cs3.length = 0 := by rw [e2] at hl2; simpa using hl2
  obtain rfl := List.eq_nil_of_length_eq_zero hl3
  subst e2 e1
  have z1 : Try.prog.cellsOf 4 = 1 := by kernel_rfl
  have z3 : Try.prog.cellsOf 9 = 1 := by kernel_rfl
  have z5 : Try.prog.cellsOf 45 = 2 := by kernel_rfl
  have z7 : Try.prog.cellsOf 3 = 1 := by kernel_rfl
  have g0 := (hf 0 _ rfl).trans (List.getElem?_eq_getElem (show 0 < xs.length by omega))
  have g1 := (hf 1 _ rfl).trans (List.getElem?_eq_getElem (show 1 < xs.length by omega))
  obtain ⟨us, m'', _, _, _, hul, hf''⟩ := DataW.trod_struct Try.underlying45 g0
  obtain ⟨cl, r2, _, _⟩ := DataW.trod_int Try.underlying3 g1
  have hul' : us.length = 2 := hul
  have u0 := (hf'' 0 _ rfl).trans (List.getElem?_eq_getElem (show 0 < us.length by omega))
  have u1 := (hf'' 1 _ rfl).trans (List.getElem?_eq_getElem (show 1 < us.length by omega))
  obtain ⟨rp, s0, _⟩ := DataW.trod_bool Try.underlying4 u0
  obtain ⟨rto, s1, _, _⟩ := DataW.trod_string Try.underlying9 u1
  rw [e0] at r2 s0 s1
  obtain rfl : c0 = .bool rp := by simpa [z1, z3, z5] using s0
  obtain rfl : c1 = .string rto := by simpa [z1, z3, z5] using s1
  obtain rfl : c2 = .int .i64 cl := by simpa [z1, z3, z5, z7] using r2
  have e : cs = (⟨rp, rto, cl⟩ : Vr).cells := Array.ext' e0
  exact ⟨⟨rp, rto, cl⟩, by rw [hv', e], trivial⟩
end Go.Proofs.Ytlggjbopfnndbaa
