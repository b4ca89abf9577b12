/- Sets of strings in memory (map[string]bool, all true). -/
import Derived.Test.YtbbogkcfngpbbaaStr
import Derived.Maps.OwnOps
import Derived.Maps.Views
namespace Go.Proofs.Ytbbogkcfngpbbaa
open Go.RowKit Go.Maps

theorem stringKeyed : Keyed Try.prog 9 := string_keyed Try.underlying9
theorem zeroBoolS (w : World) : (zeroValue 4).run Try.prog w = .ok (.bool false) w := by kernel_rfl

theorem plainElem_boolS {P : Program} {e : TypeId} (he : P.underlying e = some .bool) {v : Value} {z : DataW Unit × List MemPlace} (h : plainElem P e v = some z) : ∃ x, v = .bool x ∧ z = (.lit (.bool x), []) := by
  unfold plainElem at h
  rw [he] at h
  cases v <;> simp at h
  exact ⟨_, rfl, h.symm⟩

/-- Block B is a set of strings: at most n entries, those of S. -/
def SetS (w : World) (B n : Nat) (S : List ByteArray) : Prop := ∃ D : DataW Unit, w.ownsMap Try.prog 9 (plainElem Try.prog 4) B n D ∧ IsMap D ∧
  ∀ x : ByteArray, D.atKey (.string x.data.toList) (.lit (.bool false)) = .lit (.bool (decide (x ∈ S)))

theorem SetS.made (w : World) : SetS (w.alloc (.map #[] 0)) w.heap.size 0 [] :=
  ⟨.map [], World.ownsMap_made _ _ _ _, isMap_empty, fun x => by simp [DataW.atKey]⟩

theorem SetS.ext {w w' : World} {B n : Nat} {S : List ByteArray} {M : Nat → Prop} (h : SetS w B n S) (hx : Ext M w w') (hM : ¬ M B) : SetS w' B n S := by
  obtain ⟨D, ⟨es, clock, q1, q2⟩, h2⟩ := h
  exact ⟨D, ⟨es, clock, hx.heap q1 hM, q2⟩, h2⟩

theorem SetS.lt {w : World} {B n : Nat} {S : List ByteArray} (h : SetS w B n S) : B < w.heap.size := by
  obtain ⟨D, h1, h2⟩ := h
  exact h1.lt

theorem SetS.look {w : World} {B n : Nat} {S : List ByteArray} (h : SetS w B n S) {x : ByteArray} (hx : x.size ≤ maxLen) :
    (Instr.lookup 128 (.map (some B)) (.string x) false).run Try.prog w = .ok (.bool (decide (x ∈ S))) w := by
  obtain ⟨D, h1, h2, h3⟩ := h
  obtain ⟨v, ps, hrun, hv⟩ := h1.lookup stringKeyed Try.underlying128 (zeroBoolS w) (plainElem_bool Try.underlying4 false) (WideMaps.keyOf_string_mk Try.underlying9 hx)
  obtain ⟨y, rfl, hy⟩ := plainElem_boolS Try.underlying4 hv
  rw [h3 x] at hy
  simp only [Prod.mk.injEq, DataW.lit.injEq, Lit.bool.injEq] at hy
  rw [hrun, ← hy.1]

theorem SetS.add {w : World} {B n : Nat} {S : List ByteArray} (h : SetS w B n S) {x : ByteArray} (hx : x.size ≤ maxLen) (hn : n < maxLen) :
    ∃ w', (Instr.mapUpdate 128 (.map (some B)) (.string x) (.bool true)).run Try.prog w = .ok () w' ∧ SetS w' B (n + 1) (x :: S) ∧ Ext (· = B) w w' := by
  obtain ⟨D, h1, h2, h3⟩ := h
  obtain ⟨w', hrun, r1, r2⟩ := h1.update stringKeyed Try.underlying128 hn (WideMaps.keyOf_string_mk Try.underlying9 hx) (plainElem_bool Try.underlying4 true)
  refine ⟨w', hrun, ⟨_, r1, h2.put _ _, fun y => ?_⟩, Ext.of_grown r2 (fun k hk => .inl (by simpa using hk.symm))⟩
  by_cases e : y = x
  · subst e
    rw [atKey_put_same h2 (by simp [WideAt.IsKeyLit])]; simp
  · rw [atKey_put_other (lit_ne e), h3 y]; simp [e]
end Go.Proofs.Ytbbogkcfngpbbaa
