/- Two rows of numbers of one's own, each in a cell, that grow side by side. -/
import Derived.Test.YtbbogkcfngpbbaaSep
namespace Go.Proofs.Ytbbogkcfngpbbaa
open Go.RowKit

/-- In block P lies the slice fs, in block P + 1 the slice ts. -/
def TwoI (w : World) (P : Nat) (fs ts : List Int) (v1 v2 : Value) : Prop :=
  w.heap[P]? = some (.cells #[v1] 22 (0, 0)) ∧ w.heap[P + 1]? = some (.cells #[v2] 22 (0, 0)) ∧ OwnI w (P + 2) v1 fs ∧ OwnI w (P + 2) v2 ts ∧ ∀ g, v1.ownBlock = some g → v2.ownBlock ≠ some g

theorem TwoI.ext {w w' : World} {P : Nat} {fs ts : List Int} {v1 v2 : Value} {M : Nat → Prop} (h : TwoI w P fs ts v1 v2) (hx : Ext M w w') (h0 : ¬ M P) (h1 : ¬ M (P + 1)) (h2 : ∀ g, v1.ownBlock = some g → ¬ M g) (h3 : ∀ g, v2.ownBlock = some g → ¬ M g) : TwoI w' P fs ts v1 v2 := by
  obtain ⟨q1, q2, q3, q4, q5⟩ := h
  have own : ∀ (v : Value) (xs : List Int), OwnI w (P + 2) v xs → (∀ g, v.ownBlock = some g → ¬ M g) → OwnI w' (P + 2) v xs := by
    intro v xs ho hn
    refine ⟨ho.1, ?_⟩
    rcases ho.2 with h' | ⟨g, cap, cur, e1, e2, e3, e4⟩
    · exact .inl h'
    · exact .inr ⟨g, cap, cur, e1, e2, hx.heap e3 (hn g (by rw [e1]; rfl)), e4⟩
  exact ⟨hx.heap q1 h0, hx.heap q2 h1, own _ _ q3 h2, own _ _ q4 h3, q5⟩

/-- Behind 'fs = append(fs, x)', ahead of the store, and behind it. -/
theorem TwoI.push1 {w wA w5 : World} {P : Nat} {fs ts : List Int} {v1 v2 : Value} {x : Int} {g5 cap5 : Nat} (h : TwoI w P fs ts v1 v2) (hA : Ext (fun _ => False) w wA)
    (hown : w5.ownsRow (P + 2) 3 1 (.slice (some ⟨g5, 0, none⟩) (fs.length + 1) cap5) (fs.length + 1) (fs.map (Value.int .i64) ++ [.int .i64 x])) (hgrow : wA.grownBy w5 v1.ownBlock) (hat : v1.ownBlock = some g5 ∨ g5 = wA.heap.size) :
    w5.cell? ⟨P, 0, none⟩ = some v1 ∧ w5.frozen? ⟨P, 0, none⟩ = false ∧ TwoI (w5.setCell ⟨P, 0, none⟩ (.slice (some ⟨g5, 0, none⟩) (fs.length + 1) cap5)) P (fs ++ [x]) ts (.slice (some ⟨g5, 0, none⟩) (fs.length + 1) cap5) v2 ∧
      Ext (fun k => P ≤ k) w (w5.setCell ⟨P, 0, none⟩ (.slice (some ⟨g5, 0, none⟩) (fs.length + 1) cap5)) ∧
      Ext (fun k => v1.ownBlock = some k ∨ k = P) w (w5.setCell ⟨P, 0, none⟩ (.slice (some ⟨g5, 0, none⟩) (fs.length + 1) cap5)) := by
  obtain ⟨q1, q2, q3, q4, q5⟩ := h
  have hx5 : Ext (fun k => v1.ownBlock = some k) w w5 := (hA.mono (fun _ h => h.elim)).trans (Ext.of_grown (M := fun k => v1.ownBlock = some k) hgrow (fun k hk => .inl hk)) (fun j hj => .inl hj)
  have hp1 := hx5.heap q1 (fun e => by have := (q3.lt _ e).1; omega)
  have hp2 := hx5.heap q2 (fun e => by have := (q3.lt _ e).1; omega)
  have hg5 : P + 2 ≤ g5 := (hown.lt g5 rfl).1
  have hxs : Ext (· = P) w5 (w5.setCell ⟨P, 0, none⟩ (.slice (some ⟨g5, 0, none⟩) (fs.length + 1) cap5)) := Ext.set1 _ _ _ _
  have hn2 : ∀ g, v2.ownBlock = some g → g ≠ g5 := by
    rintro g hg rfl
    rcases hat with h | h
    · exact q5 _ h hg
    · have := (q4.lt _ hg).2
      have := hA.size
      omega
  refine ⟨by rw [cell_of_row _ _ _ _ _ _ hp1]; rfl, frozen_of_row _ _ _ _ _ hp1, ⟨?_, hxs.heap hp2 (by omega), ?_, ?_, ?_⟩, ?_, (hx5.mono (fun k hk => .inl hk)).trans hxs (fun k hk => .inl (.inr hk))⟩
  · rw [heap_setCell_same _ _ _ _ _ _ hp1]; rfl
  · have := OwnI.app hown
    refine ⟨this.1, ?_⟩
    rcases this.2 with h' | ⟨g, cap, cur, e1, e2, e3, e4⟩
    · exact .inl h'
    · exact .inr ⟨g, cap, cur, e1, e2, hxs.heap e3 (by omega), e4⟩
  · refine ⟨q4.1, ?_⟩
    rcases q4.2 with h' | ⟨g, cap, cur, e1, e2, e3, e4⟩
    · exact .inl h'
    · exact .inr ⟨g, cap, cur, e1, e2, hxs.heap (hx5.heap e3 (fun h => q5 g h (by rw [e1]; rfl))) (by omega), e4⟩
  · intro g hg h2
    simp [Value.ownBlock] at hg
    exact hn2 g h2 hg.symm
  · exact (hx5.mono (M' := fun k => P ≤ k) (fun k hk => by have := (q3.lt _ hk).1; omega)).trans hxs (fun k hk => .inl (by omega))

/-- The same for the second. -/
theorem TwoI.push2 {w wA w5 : World} {P : Nat} {fs ts : List Int} {v1 v2 : Value} {x : Int} {g5 cap5 : Nat} (h : TwoI w P fs ts v1 v2) (hA : Ext (fun _ => False) w wA)
    (hown : w5.ownsRow (P + 2) 3 1 (.slice (some ⟨g5, 0, none⟩) (ts.length + 1) cap5) (ts.length + 1) (ts.map (Value.int .i64) ++ [.int .i64 x])) (hgrow : wA.grownBy w5 v2.ownBlock) (hat : v2.ownBlock = some g5 ∨ g5 = wA.heap.size) :
    w5.cell? ⟨P + 1, 0, none⟩ = some v2 ∧ w5.frozen? ⟨P + 1, 0, none⟩ = false ∧ TwoI (w5.setCell ⟨P + 1, 0, none⟩ (.slice (some ⟨g5, 0, none⟩) (ts.length + 1) cap5)) P fs (ts ++ [x]) v1 (.slice (some ⟨g5, 0, none⟩) (ts.length + 1) cap5) ∧
      Ext (fun k => P ≤ k) w (w5.setCell ⟨P + 1, 0, none⟩ (.slice (some ⟨g5, 0, none⟩) (ts.length + 1) cap5)) ∧
      Ext (fun k => v2.ownBlock = some k ∨ k = P + 1) w (w5.setCell ⟨P + 1, 0, none⟩ (.slice (some ⟨g5, 0, none⟩) (ts.length + 1) cap5)) := by
  obtain ⟨q1, q2, q3, q4, q5⟩ := h
  have hx5 : Ext (fun k => v2.ownBlock = some k) w w5 := (hA.mono (fun _ h => h.elim)).trans (Ext.of_grown (M := fun k => v2.ownBlock = some k) hgrow (fun k hk => .inl hk)) (fun j hj => .inl hj)
  have hp1 := hx5.heap q1 (fun e => by have := (q4.lt _ e).1; omega)
  have hp2 := hx5.heap q2 (fun e => by have := (q4.lt _ e).1; omega)
  have hg5 : P + 2 ≤ g5 := (hown.lt g5 rfl).1
  have hxs : Ext (· = P + 1) w5 (w5.setCell ⟨P + 1, 0, none⟩ (.slice (some ⟨g5, 0, none⟩) (ts.length + 1) cap5)) := Ext.set1 _ _ _ _
  have hn2 : ∀ g, v1.ownBlock = some g → g ≠ g5 := by
    rintro g hg rfl
    rcases hat with h | h
    · exact q5 _ hg h
    · have := (q3.lt _ hg).2
      have := hA.size
      omega
  refine ⟨by rw [cell_of_row _ _ _ _ _ _ hp2]; rfl, frozen_of_row _ _ _ _ _ hp2, ⟨hxs.heap hp1 (by omega), ?_, ?_, ?_, ?_⟩, ?_, (hx5.mono (fun k hk => .inl hk)).trans hxs (fun k hk => .inl (.inr hk))⟩
  · rw [heap_setCell_same _ _ _ _ _ _ hp2]; rfl
  · refine ⟨q3.1, ?_⟩
    rcases q3.2 with h' | ⟨g, cap, cur, e1, e2, e3, e4⟩
    · exact .inl h'
    · exact .inr ⟨g, cap, cur, e1, e2, hxs.heap (hx5.heap e3 (fun h => q5 g (by rw [e1]; rfl) h)) (by omega), e4⟩
  · have := OwnI.app hown
    refine ⟨this.1, ?_⟩
    rcases this.2 with h' | ⟨g, cap, cur, e1, e2, e3, e4⟩
    · exact .inl h'
    · exact .inr ⟨g, cap, cur, e1, e2, hxs.heap e3 (by omega), e4⟩
  · intro g hg h2
    simp [Value.ownBlock] at h2
    exact hn2 g hg h2.symm
  · exact (hx5.mono (M' := fun k => P ≤ k) (fun k hk => by have := (q4.lt _ hk).1; omega)).trans hxs (fun k hk => .inl (by omega))
end Go.Proofs.Ytbbogkcfngpbbaa
