/- A row of rows of numbers, each its own. -/
import Derived.Test.YtpbkkajgcdahcaaLite
namespace Go.Proofs.Ytpbkkajgcdahcaa
open Go.RowKit

/-- Block R holds n slices; the i-th is a row of its own, of rows i; blocks from base on, no two of one block, none of A. -/
def RowsI (w : World) (R n base : Nat) (A : Nat → Prop) (rows : Nat → List Nat) : Prop :=
  ∃ vals : Array Value, (∀ (i : Nat) (v : Value) (k : Nat), vals[i]? = some v → v.ownBlock = some k → ¬ A k) ∧ vals.size = n ∧ w.heap[R]? = some (.cells vals 27 (0, 0)) ∧ R < base ∧ (∀ i v, vals[i]? = some v → OwnI w base v (ints (rows i))) ∧
    ∀ (i j k : Nat) (vi vj : Value), i ≠ j → vals[i]? = some vi → vals[j]? = some vj → vi.ownBlock = some k → vj.ownBlock ≠ some k

theorem RowsI.ext {w w' : World} {R n base : Nat} {A : Nat → Prop} {rows : Nat → List Nat} {M : Nat → Prop} (h : RowsI w R n base A rows) (hx : Ext M w w') (hM : ∀ k, k = R ∨ base ≤ k → k < w.heap.size → ¬ M k)   : RowsI w' R n base A rows := by
  obtain ⟨vals, hA, h1, h2, h3, h4, h5⟩ := h
  refine ⟨vals, hA, h1, hx.heap h2 (hM R (.inl rfl) (Array.getElem?_eq_some_iff.1 h2).1), h3, fun i v hv => ?_, h5⟩
  have ho := h4 i v hv
  refine ⟨ho.1, ?_⟩
  rcases ho.2 with h' | ⟨g, cap, cur, e1, e2, e3, e4⟩
  · exact .inl h'
  · exact .inr ⟨g, cap, cur, e1, e2, hx.heap e3 (hM g (.inr e2) (Array.getElem?_eq_some_iff.1 e3).1), e4⟩

theorem RowsI.fresh {w : World} {R n base : Nat} {A A' : Nat → Prop} {rows : Nat → List Nat} (h : RowsI w R n base A rows) (hA' : ∀ k, A' k → w.heap.size ≤ k) : RowsI w R n base A' rows := by
  obtain ⟨vals, hA, h1, h2, h3, h4, h5⟩ := h
  exact ⟨vals, fun i v k hv hk hAk => by have := ((h4 i v hv).lt k hk).2; have := hA' k hAk; omega, h1, h2, h3, h4, h5⟩

theorem RowsI.weaken {w : World} {R n base : Nat} {A A' : Nat → Prop} {rows : Nat → List Nat} (h : RowsI w R n base A rows) (hA' : ∀ k, A' k → A k) : RowsI w R n base A' rows := by
  obtain ⟨vals, hA, h1⟩ := h
  exact ⟨vals, fun i v k hv hk hAk => hA i v k hv hk (hA' k hAk), h1⟩

/-- Behind 'out[i] = append(out[i], x)': w1 behind the append, then the store. -/
theorem RowsI.app {w w1 : World} {R n base i x g cap : Nat} {rows : Nat → List Nat} {vi : Value} {vals : Array Value} {A : Nat → Prop} (hAl : ∀ k, A k → k < w.heap.size) (hA : ∀ (i : Nat) (v : Value) (k : Nat), vals[i]? = some v → v.ownBlock = some k → ¬ A k) (hvals : vals.size = n) (hR : w.heap[R]? = some (.cells vals 27 (0, 0))) (hb : R < base)
    (hown : ∀ i v, vals[i]? = some v → OwnI w base v (ints (rows i))) (hdis : ∀ (i j k : Nat) (vi vj : Value), i ≠ j → vals[i]? = some vi → vals[j]? = some vj → vi.ownBlock = some k → vj.ownBlock ≠ some k)
    (hi : vals[i]? = some vi) (hx : Ext (fun k => vi.ownBlock = some k) w w1) (hnew : OwnI w1 base (.slice (some ⟨g, 0, none⟩) ((rows i).length + 1) cap) (ints (rows i ++ [x])))
    (hat : vi.ownBlock = some g ∨ w.heap.size ≤ g) :
    RowsI (w1.setCell ⟨R, i, none⟩ (.slice (some ⟨g, 0, none⟩) ((rows i).length + 1) cap)) R n base A (fun j => if j = i then rows i ++ [x] else rows j) := by
  have hRlt : R < w.heap.size := (Array.getElem?_eq_some_iff.1 hR).1
  have hRn : ¬ vi.ownBlock = some R := fun e => by have := ((hown i vi hi).lt R e).1; omega
  have hR1 := hx.heap hR hRn
  have hx2 : Ext (· = R) w1 (w1.setCell ⟨R, i, none⟩ (.slice (some ⟨g, 0, none⟩) ((rows i).length + 1) cap)) := Ext.set1 _ _ _ _
  have hil : i < vals.size := (Array.getElem?_eq_some_iff.1 hi).1
  refine ⟨_, ?_, by simpa using hvals, heap_setCell_same _ _ _ _ _ _ hR1, hb, fun j v hv => ?_, ?_⟩
  · intro j v k hv hk hAk
    rw [Array.getElem?_setIfInBounds] at hv
    by_cases e : i = j
    · subst e
      rw [if_pos rfl, if_pos hil] at hv
      obtain rfl := Option.some.inj hv
      have e2 : g = k := by simpa [Value.ownBlock] using hk
      subst e2
      rcases hat with h' | h'
      · exact hA i vi g hi h' hAk
      · have := hAl g hAk; omega
    · rw [if_neg e] at hv
      exact hA j v k hv hk hAk
  · rw [Array.getElem?_setIfInBounds] at hv
    by_cases e : i = j
    · subst e
      rw [if_pos rfl, if_pos hil] at hv
      obtain rfl := Option.some.inj hv
      show OwnI _ _ _ (ints (if i = i then _ else _))
      rw [if_pos rfl]
      refine ⟨hnew.1, ?_⟩
      rcases hnew.2 with h' | ⟨g', cap', cur, e1, e2, e3, e4⟩
      · exact .inl h'
      · exact .inr ⟨g', cap', cur, e1, e2, hx2.heap e3 (by omega), e4⟩
    · rw [if_neg e] at hv
      show OwnI _ _ _ (ints (if j = i then _ else _))
      rw [if_neg (fun h : j = i => e h.symm)]
      have ho := hown j v hv
      refine ⟨ho.1, ?_⟩
      rcases ho.2 with h' | ⟨g', cap', cur, e1, e2, e3, e4⟩
      · exact .inl h'
      · have hg' : ¬ vi.ownBlock = some g' := fun h => hdis i j g' vi v e hi hv h (by rw [e1]; rfl)
        exact .inr ⟨g', cap', cur, e1, e2, hx2.heap (hx.heap e3 hg') (by omega), e4⟩
  · intro a b k va vb hab ha hb' hka hkb
    rw [Array.getElem?_setIfInBounds] at ha hb'
    have hgl : ∀ (j : Nat) (v : Value), j ≠ i → vals[j]? = some v → v.ownBlock ≠ some g := by
      intro j v hj hv h
      rcases hat with h' | h'
      · exact hdis i j g vi v (fun e => hj e.symm) hi hv h' h
      · have := ((hown j v hv).lt g h).2; omega
    by_cases ea : i = a
    · subst ea
      rw [if_pos rfl, if_pos hil] at ha
      obtain rfl := Option.some.inj ha
      rw [if_neg hab] at hb'
      have : g = k := by simpa [Value.ownBlock] using hka
      subst this
      exact hgl b vb (fun e => hab e.symm) hb' hkb
    · rw [if_neg ea] at ha
      by_cases eb : i = b
      · subst eb
        rw [if_pos rfl, if_pos hil] at hb'
        obtain rfl := Option.some.inj hb'
        have : g = k := by simpa [Value.ownBlock] using hkb
        subst this
        exact hgl a va (fun e => ea e.symm) ha hka
      · rw [if_neg eb] at hb'
        exact hdis a b k va vb hab ha hb' hka hkb
end Go.Proofs.Ytpbkkajgcdahcaa
