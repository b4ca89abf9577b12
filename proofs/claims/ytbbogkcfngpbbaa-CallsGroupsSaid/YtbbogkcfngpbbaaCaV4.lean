/- A slice of numbers in a cell of its own; what groups tell of each function. -/
import Derived.Test.YtbbogkcfngpbbaaCaT
namespace Go.Proofs.Ytbbogkcfngpbbaa
open Go.RowKit

/-- In block P lies the slice xs. -/
def OneI (w : World) (P : Nat) (xs : List Nat) (v : Value) : Prop :=
  w.heap[P]? = some (.cells #[v] 22 (0, 0)) ∧ w.ownsRow (P + 1) 3 1 v xs.length (xs.flatMap encN)

theorem OneI.ext {w w' : World} {P : Nat} {xs : List Nat} {v : Value} {M : Nat → Prop} (h : OneI w P xs v) (hx : Ext M w w') (h0 : ∀ k, P ≤ k → k < w.heap.size → ¬ M k) : OneI w' P xs v :=
  ⟨hx.heap h.1 (h0 P (Nat.le_refl _) (Array.getElem?_eq_some_iff.1 h.1).1), ownsRow_ext h.2 hx (fun k hk => h0 k (by have := (h.2.lt k hk).1; omega) (h.2.lt k hk).2)⟩

/-- Behind 'xs = append(xs, x)', ahead of the store, and behind it. -/
theorem OneI.push {w wA w5 : World} {P : Nat} {xs : List Nat} {v : Value} {x : Nat} {g5 cap5 : Nat} (h : OneI w P xs v) (hA : Ext (fun _ => False) w wA)
    (hown : w5.ownsRow (P + 1) 3 1 (.slice (some ⟨g5, 0, none⟩) (xs.length + 1) cap5) (xs.length + 1) (xs.flatMap encN ++ [.int .i64 (x : Int)])) (hgrow : wA.grownBy w5 v.ownBlock) :
    w5.cell? ⟨P, 0, none⟩ = some v ∧ w5.frozen? ⟨P, 0, none⟩ = false ∧ OneI (w5.setCell ⟨P, 0, none⟩ (.slice (some ⟨g5, 0, none⟩) (xs.length + 1) cap5)) P (xs ++ [x]) (.slice (some ⟨g5, 0, none⟩) (xs.length + 1) cap5) ∧
      Ext (fun k => P ≤ k) w (w5.setCell ⟨P, 0, none⟩ (.slice (some ⟨g5, 0, none⟩) (xs.length + 1) cap5)) := by
  have hx5 : Ext (fun k => v.ownBlock = some k) w w5 := ext_grown hA hgrow
  have hp1 := hx5.heap h.1 (fun e => by have := (h.2.lt _ e).1; omega)
  have hxs : Ext (· = P) w5 (w5.setCell ⟨P, 0, none⟩ (.slice (some ⟨g5, 0, none⟩) (xs.length + 1) cap5)) := Ext.set1 _ _ _ _
  refine ⟨by rw [cell_of_row _ _ _ _ _ _ hp1]; rfl, frozen_of_row _ _ _ _ _ hp1, ⟨?_, ?_⟩, ?_⟩
  · rw [heap_setCell_same _ _ _ _ _ _ hp1]; rfl
  · rw [List.length_append, List.flatMap_append]
    exact ownsRow_ext hown hxs (fun k hk => by have := (hown.lt k hk).1; omega)
  · exact (hx5.mono (M' := fun k => P ≤ k) (fun k hk => by have := (h.2.lt _ hk).1; omega)).trans hxs (fun k hk => .inl (by omega))

theorem take_snoc {α : Type} {l : List α} {k : Nat} {x : α} (h : l[k]? = some x) : l.take (k + 1) = l.take k ++ [x] := by
  rw [List.take_add_one, h]; rfl

theorem groups_num (m : Mo) {i : Nat} {l : List Nat} {x : Nat} (hl : (groupsF m).2[i]? = some l) (hx : x ∈ l) : x < m.fs.length ∧ (groupsF m).1 x = (i : Int) := by
  obtain ⟨⟨f, _, rfl⟩, h2⟩ := (groupsF_inv m).of i l hl
  exact ⟨(mem_grp.1 hx).1, h2 x hx⟩
end Go.Proofs.Ytbbogkcfngpbbaa
