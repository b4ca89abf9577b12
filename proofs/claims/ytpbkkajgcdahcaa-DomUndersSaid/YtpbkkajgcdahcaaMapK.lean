/- Sets of ints in memory (map[int]bool, all true), that can be ranged over. -/
import Derived.Test.YtpbkkajgcdahcaaSep
import Derived.Maps.OwnOps
import Derived.Maps.Views
import Derived.Maps.RangeWalk
namespace Go.Proofs.Ytpbkkajgcdahcaa
open Go.RowKit Go.Maps

theorem setKeyedK : Keyed Try.prog 3 := int_keyed Try.underlying3
theorem zeroBoolK (w : World) : (zeroValue 4).run Try.prog w = .ok (.bool false) w := by kernel_rfl

/-- What a map says, as a set. -/
structure IsSet (D : DataW Unit) (S : List Int) : Prop where
  map : IsMap D
  at_ : ∀ x : Int, D.atKey (.int .i64 x) (.lit (.bool false)) = .lit (.bool (decide (x ∈ S)))
  key : ∀ kl, Maps.has D kl = true → ∃ x, kl = .int .i64 x ∧ x ∈ S
  has : ∀ x ∈ S, Maps.has D (.int .i64 x) = true

/-- Block B is a set: at most n entries, those of S. -/
def SetK (w : World) (B n : Nat) (S : List Int) : Prop := ∃ D : DataW Unit, w.ownsMap Try.prog 3 (plainElem Try.prog 4) B n D ∧ IsSet D S

theorem SetK.made (w : World) : SetK (w.alloc (.map #[] 0)) w.heap.size 0 [] :=
  ⟨.map [], World.ownsMap_made _ _ _ _, isMap_empty, fun x => by simp [DataW.atKey], fun kl h => by simp [Maps.has] at h, fun x h => by simp at h⟩

theorem SetK.ext {w w' : World} {B n : Nat} {S : List Int} {M : Nat → Prop} (h : SetK w B n S) (hx : Ext M w w') (hM : ¬ M B) : SetK w' B n S := by
  obtain ⟨D, ⟨es, clock, q1, q2⟩, h2⟩ := h
  exact ⟨D, ⟨es, clock, hx.heap q1 hM, q2⟩, h2⟩

theorem SetK.lt {w : World} {B n : Nat} {S : List Int} (h : SetK w B n S) : B < w.heap.size := by
  obtain ⟨D, h1, h2⟩ := h
  exact h1.lt

theorem plainElem_boolK {P : Program} {e : TypeId} (he : P.underlying e = some .bool) {v : Value} {z : DataW Unit × List MemPlace} (h : plainElem P e v = some z) : ∃ x, v = .bool x ∧ z = (.lit (.bool x), []) := by
  unfold plainElem at h
  rw [he] at h
  cases v <;> simp at h
  exact ⟨_, rfl, h.symm⟩

theorem SetK.look {w : World} {B n : Nat} {S : List Int} (h : SetK w B n S) {x : Int} (hx : -9223372036854775808 ≤ x ∧ x ≤ 9223372036854775807) :
    (Instr.lookup 84 (.map (some B)) (.int .i64 x) false).run Try.prog w = .ok (.bool (decide (x ∈ S))) w := by
  obtain ⟨D, h1, h2⟩ := h
  obtain ⟨v, ps, hrun, hv⟩ := h1.lookup setKeyedK Try.underlying84 (zeroBoolK w) (plainElem_bool Try.underlying4 false) (keyOf_int_mk Try.underlying3 (WalkArith.wf_i64 hx))
  obtain ⟨y, rfl, hy⟩ := plainElem_boolK Try.underlying4 hv
  rw [h2.at_ x] at hy
  simp only [Prod.mk.injEq, DataW.lit.injEq, Lit.bool.injEq] at hy
  rw [hrun, ← hy.1]

theorem SetK.add {w : World} {B n : Nat} {S : List Int} (h : SetK w B n S) {x : Int} (hx : -9223372036854775808 ≤ x ∧ x ≤ 9223372036854775807) (hn : n ≤ 1000000000) :
    ∃ w', (Instr.mapUpdate 84 (.map (some B)) (.int .i64 x) (.bool true)).run Try.prog w = .ok () w' ∧ SetK w' B (n + 1) (x :: S) ∧ Ext (· = B) w w' := by
  obtain ⟨D, h1, h2⟩ := h
  obtain ⟨w', hrun, r1, r2⟩ := h1.update setKeyedK Try.underlying84 (by unfold maxLen; omega) (keyOf_int_mk Try.underlying3 (WalkArith.wf_i64 hx)) (plainElem_bool Try.underlying4 true)
  refine ⟨w', hrun, ⟨_, r1, h2.map.put _ _, fun y => ?_, fun kl hk => ?_, fun y hy => ?_⟩, Ext.of_grown r2 (fun k hk => .inl (by simpa using hk.symm))⟩
  · by_cases e : y = x
    · subst e
      rw [atKey_put_same h2.map (by simp [WideAt.IsKeyLit])]; simp
    · rw [atKey_put_other (by simpa using e), h2.at_ y]; simp [e]
  · by_cases e : kl = .int .i64 x
    · exact ⟨x, e, by simp⟩
    · rw [has_put_other e] at hk
      obtain ⟨z, e1, e2⟩ := h2.key kl hk
      exact ⟨z, e1, List.mem_cons_of_mem _ e2⟩
  · by_cases e : y = x
    · subst e
      exact has_put_same h2.map (by simp [WideAt.IsKeyLit]) _
    · rw [has_put_other (by simpa using e)]
      rcases List.mem_cons.1 hy with h | h
      · exact absurd h e
      · exact h2.has y h

/-- Two rows that rise, and have the same numbers, are one. -/
theorem rise_ext : ∀ (a b : List Int), a.Pairwise (· < ·) → b.Pairwise (· < ·) → (∀ x, x ∈ a ↔ x ∈ b) → a = b
  | [], [], _, _, _ => rfl
  | [], y :: b, _, _, h => by have := (h y).2 (by simp); simp at this
  | x :: a, [], _, _, h => by have := (h x).1 (by simp); simp at this
  | x :: a, y :: b, ha, hb, h => by
    rw [List.pairwise_cons] at ha hb
    have hxy : x = y := by
      rcases List.mem_cons.1 ((h x).1 (by simp)) with e | e
      · exact e
      · rcases List.mem_cons.1 ((h y).2 (by simp)) with e' | e'
        · exact e'.symm
        · have := hb.1 x e; have := ha.1 y e'; omega
    subst hxy
    congr 1
    refine rise_ext a b ha.2 hb.2 fun z => ⟨fun hz => ?_, fun hz => ?_⟩
    · rcases List.mem_cons.1 ((h z).1 (by simp [hz])) with e | e
      · subst e; have := ha.1 z hz; omega
      · exact e
    · rcases List.mem_cons.1 ((h z).2 (by simp [hz])) with e | e
      · subst e; have := hb.1 z hz; omega
      · exact e

theorem sorted_rise {ks : List Int} (hn : ks.Nodup) : (ks.mergeSort fun x y => decide (x ≤ y)).Pairwise (· < ·) := by
  have h1 : (ks.mergeSort fun x y => decide (x ≤ y)).Pairwise (fun x y => decide (x ≤ y) = true) := List.pairwise_mergeSort (fun a b c h1 h2 => by simp only [decide_eq_true_eq] at *; omega) (fun a b => by simp; omega) ks
  have h2 : (ks.mergeSort fun x y => decide (x ≤ y)).Nodup := (List.mergeSort_perm ks _).nodup_iff.2 hn
  exact (List.pairwise_and_iff.2 ⟨h1, h2⟩ : List.Pairwise (fun a b => decide (a ≤ b) = true ∧ a ≠ b) _).imp (fun ⟨h, hne⟩ => by simp only [decide_eq_true_eq] at h; omega)

/-- The sorted keys of a set are its numbers, in order. -/
theorem sorted_keys {ks : List Int} {n : Nat} {p : Nat → Bool} (hn : ks.Nodup) (hk : ∀ x, x ∈ ks ↔ ∃ i : Nat, x = (i : Int) ∧ i < n ∧ p i = true) : (ks.mergeSort fun x y => decide (x ≤ y)) = ((List.range n).filter p).map (fun i : Nat => (i : Int)) := by
  refine rise_ext _ _ (sorted_rise hn) ?_ fun x => ?_
  · rw [List.pairwise_map]
    exact (List.pairwise_lt_range.filter p).imp (fun h => by omega)
  · rw [List.mem_mergeSort, hk x, List.mem_map]
    constructor
    · rintro ⟨i, rfl, h1, h2⟩; exact ⟨i, List.mem_filter.2 ⟨List.mem_range.2 h1, h2⟩, rfl⟩
    · rintro ⟨i, h1, rfl⟩
      have := List.mem_filter.1 h1
      exact ⟨i, rfl, List.mem_range.1 this.1, this.2⟩
end Go.Proofs.Ytpbkkajgcdahcaa
