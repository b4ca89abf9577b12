/- Sets of ints: map[int]bool whose entries are all true. -/
import Derived.Test.YtpbkkajgcdahcaaOrder2
import Derived.Maps.OwnOps
import Derived.Maps.Views
namespace Go.Proofs.Ytpbkkajgcdahcaa
open Go.RowKit Go.Maps

theorem setKeyed : Keyed Try.prog 3 := int_keyed Try.underlying3
theorem zeroBool (w : World) : (zeroValue 4).run Try.prog w = .ok (.bool false) w := by kernel_rfl

/-- Block B is a set: at most n entries, those of S. -/
def SetM (w : World) (B n : Nat) (S : List Int) : Prop :=
  ∃ D : DataW Unit, w.ownsMap Try.prog 3 (plainElem Try.prog 4) B n D ∧ IsMap D ∧ ∀ x : Int, D.atKey (.int .i64 x) (.lit (.bool false)) = .lit (.bool (decide (x ∈ S)))

theorem SetM.made (w : World) : SetM (w.alloc (.map #[] 0)) w.heap.size 0 [] :=
  ⟨.map [], World.ownsMap_made _ _ _ _, isMap_empty, fun x => by simp [DataW.atKey]⟩

theorem SetM.kept {w w' : World} {B n : Nat} {S : List Int} {row : Option Nat} (h : SetM w B n S) (hg : w.grownBy w' row) (hne : some B ≠ row) : SetM w' B n S := by
  obtain ⟨D, h1, h2⟩ := h
  exact ⟨D, h1.kept hg hne, h2⟩

theorem SetM.heap {w w' : World} {B n : Nat} {S : List Int} (h : SetM w B n S) (he : w'.heap[B]? = w.heap[B]?) : SetM w' B n S := by
  obtain ⟨D, ⟨es, clock, q1, q2⟩, h2⟩ := h
  exact ⟨D, ⟨es, clock, he.trans q1, q2⟩, h2⟩

theorem SetM.ext {w w' : World} {B n : Nat} {S : List Int} {M : Nat → Prop} (h : SetM w B n S) (hx : Ext M w w') (hM : ¬ M B) : SetM w' B n S := by
  obtain ⟨D, ⟨es, clock, q1, q2⟩, h2⟩ := h
  exact ⟨D, ⟨es, clock, hx.heap q1 hM, q2⟩, h2⟩

theorem SetM.mono {w : World} {B n n' : Nat} {S : List Int} (h : SetM w B n S) (hn : n ≤ n') : SetM w B n' S := by
  obtain ⟨D, h1, h2⟩ := h
  exact ⟨D, h1.mono hn, h2⟩

theorem SetM.lt {w : World} {B n : Nat} {S : List Int} (h : SetM w B n S) : B < w.heap.size := by
  obtain ⟨D, h1, h2⟩ := h
  exact h1.lt

theorem plainElem_bool_inv {P : Program} {e : TypeId} (he : P.underlying e = some .bool) {v : Value} {z : DataW Unit × List MemPlace} (h : plainElem P e v = some z) : ∃ x, v = .bool x ∧ z = (.lit (.bool x), []) := by
  unfold plainElem at h
  rw [he] at h
  cases v <;> simp at h
  exact ⟨_, rfl, h.symm⟩

theorem SetM.look {w : World} {B n : Nat} {S : List Int} (h : SetM w B n S) {x : Int} (hx : -9223372036854775808 ≤ x ∧ x ≤ 9223372036854775807) :
    (Instr.lookup 84 (.map (some B)) (.int .i64 x) false).run Try.prog w = .ok (.bool (decide (x ∈ S))) w := by
  obtain ⟨D, h1, _, h3⟩ := h
  obtain ⟨v, ps, hrun, hv⟩ := h1.lookup setKeyed Try.underlying84 (zeroBool w) (plainElem_bool Try.underlying4 false) (keyOf_int_mk Try.underlying3 (WalkArith.wf_i64 hx))
  obtain ⟨y, rfl, hy⟩ := plainElem_bool_inv Try.underlying4 hv
  rw [h3 x] at hy
  simp only [Prod.mk.injEq, DataW.lit.injEq, Lit.bool.injEq] at hy
  rw [hrun, ← hy.1]

theorem SetM.add {w : World} {B n : Nat} {S : List Int} (h : SetM w B n S) {x : Int} (hx : -9223372036854775808 ≤ x ∧ x ≤ 9223372036854775807) (hn : n ≤ 1000000000) :
    ∃ w', (Instr.mapUpdate 84 (.map (some B)) (.int .i64 x) (.bool true)).run Try.prog w = .ok () w' ∧ SetM w' B (n + 1) (x :: S) ∧ Ext (· = B) w w' := by
  obtain ⟨D, h1, h2, h3⟩ := h
  obtain ⟨w', hrun, r1, r2⟩ := h1.update setKeyed Try.underlying84 (by unfold maxLen; omega) (keyOf_int_mk Try.underlying3 (WalkArith.wf_i64 hx)) (plainElem_bool Try.underlying4 true)
  refine ⟨w', hrun, ⟨_, r1, h2.put _ _, fun y => ?_⟩, Ext.of_grown r2 (fun k hk => .inl (by simpa using hk.symm))⟩
  by_cases e : y = x
  · subst e
    rw [atKey_put_same h2 (by simp [WideAt.IsKeyLit])]; simp
  · rw [atKey_put_other (by simpa using e), h3 y]; simp [e]
end Go.Proofs.Ytpbkkajgcdahcaa
