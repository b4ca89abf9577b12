/- Tables of rows: block R holds n slices, each a row of its own, in blocks of a set F. -/
import Derived.Test.YtbbogkcfngpbbaaSep
import Derived.Deep.AppendLies
namespace Go.Proofs.Ytbbogkcfngpbbaa
open Go.RowKit

structure TabOf {α : Type} (enc : α → List Value) (size : Nat) (st e : TypeId) (w : World) (R n : Nat) (F : Nat → Prop) (rows : Nat → List α) : Prop where
  vals : ∃ vals : Array Value, vals.size = n ∧ w.heap[R]? = some (.cells vals st (0, 0)) ∧
    (∀ (i : Nat) (v : Value), vals[i]? = some v → w.ownsRow 0 e size v (rows i).length ((rows i).flatMap enc)) ∧
    (∀ (i : Nat) (v : Value) (k : Nat), vals[i]? = some v → v.ownBlock = some k → F k ∧ k ≠ R) ∧
    (∀ (i j k : Nat) (vi vj : Value), i ≠ j → vals[i]? = some vi → vals[j]? = some vj → vi.ownBlock = some k → vj.ownBlock ≠ some k)
  own : F R
  lt : ∀ k, F k → k < w.heap.size

section
variable {α : Type} {enc : α → List Value} {size : Nat} {st e : TypeId} {w w' w5 : World} {R n : Nat} {F : Nat → Prop} {rows : Nat → List α}

theorem ownsRow_ext {M : Nat → Prop} {base sz m : Nat} {v : Value} {xs : List Value} (h : w.ownsRow base e sz v m xs) (hx : Ext M w w') (hM : ∀ k, v.ownBlock = some k → ¬ M k) : w'.ownsRow base e sz v m xs := by
  refine ⟨h.1, ?_⟩
  rcases h.2 with h' | ⟨g, cap, cur, e1, e2, e3, e4⟩
  · exact .inl h'
  · exact .inr ⟨g, cap, cur, e1, e2, hx.heap e3 (hM g (by rw [e1]; rfl)), e4⟩

theorem ownsRow_base {base base' sz m : Nat} {v : Value} {xs : List Value} (h : w.ownsRow base e sz v m xs) (hb : ∀ k, v.ownBlock = some k → base' ≤ k) : w.ownsRow base' e sz v m xs := by
  refine ⟨h.1, ?_⟩
  rcases h.2 with h' | ⟨g, cap, cur, e1, e2, e3⟩
  · exact .inl h'
  · exact .inr ⟨g, cap, cur, e1, hb g (by rw [e1]; rfl), e3⟩

theorem TabOf.ext {M : Nat → Prop} (h : TabOf enc size st e w R n F rows) (hx : Ext M w w') (hM : ∀ k, F k → ¬ M k) : TabOf enc size st e w' R n F rows := by
  obtain ⟨⟨vals, h1, h2, h3, h4, h5⟩, hR, hl⟩ := h
  exact ⟨⟨vals, h1, hx.heap h2 (hM R hR), fun i v hv => ownsRow_ext (h3 i v hv) hx (fun k hk => hM k (h4 i v k hv hk).1), h4, h5⟩, hR, fun k hk => Nat.lt_of_lt_of_le (hl k hk) hx.size⟩

theorem TabOf.below (h : TabOf enc size st e w R n F rows) (hb : Below w.heap.size w w') : TabOf enc size st e w' R n F rows :=
  h.ext (M := fun _ => False) (Ext.of_below_size hb) (fun _ _ h => h)

/-- A row. -/
theorem TabOf.at_ (h : TabOf enc size st e w R n F rows) {i : Nat} (hi : i < n) : ∃ v, w.cell? ⟨R, i, none⟩ = some v ∧ w.frozen? ⟨R, i, none⟩ = false ∧ w.ownsRow 0 e size v (rows i).length ((rows i).flatMap enc) ∧ ∀ k, v.ownBlock = some k → F k ∧ k ≠ R := by
  obtain ⟨⟨vals, h1, h2, h3, h4, h5⟩, hR, hl⟩ := h
  obtain ⟨v, hv⟩ : ∃ v, vals[i]? = some v := ⟨_, Array.getElem?_eq_getElem (by omega)⟩
  exact ⟨v, by rw [cell_of_row _ _ _ _ _ _ h2]; exact hv, frozen_of_row _ _ _ _ _ h2, h3 i v hv, fun k hk => h4 i v k hv hk⟩

theorem TabOf.start {vals : Array Value} (hn : vals.size = n) (hR : w.heap[R]? = some (.cells vals st (0, 0))) (hv : ∀ (i : Nat) (v : Value), vals[i]? = some v → v = .slice none 0 0) : TabOf enc size st e w R n (· = R) (fun _ => []) :=
  ⟨⟨vals, hn, hR, fun i v h => by rw [hv i v h]; exact World.ownsRow_nil _ _ _ _, fun i v k h hk => by rw [hv i v h] at hk; simp [Value.ownBlock] at hk, fun i j k vi vj _ hi _ hk => by rw [hv i vi hi] at hk; simp [Value.ownBlock] at hk⟩, rfl, fun k hk => by rw [hk]; exact (Array.getElem?_eq_some_iff.1 hR).1⟩

theorem TabOf.mono {F' : Nat → Prop} (h : TabOf enc size st e w R n F rows) (hF : ∀ k, F k → F' k) (hl : ∀ k, F' k → k < w.heap.size) : TabOf enc size st e w R n F' rows := by
  obtain ⟨⟨vals, h1, h2, h3, h4, h5⟩, hR, _⟩ := h
  exact ⟨⟨vals, h1, h2, h3, fun i v k hv hk => ⟨hF _ (h4 i v k hv hk).1, (h4 i v k hv hk).2⟩, h5⟩, hF _ hR, hl⟩

/-- A row put into its place: v was there, v' is put. -/
theorem TabOf.put (h : TabOf enc size st e w R n F rows) {i : Nat} {v v' : Value} {ys : List α} (hv : w.cell? ⟨R, i, none⟩ = some v) (hx : Ext (fun k => v.ownBlock = some k) w w5)
    (hnew : w5.ownsRow 0 e size v' ys.length (ys.flatMap enc)) (hat : ∀ k, v'.ownBlock = some k → v.ownBlock = some k ∨ w.heap.size ≤ k) :
    w5.cell? ⟨R, i, none⟩ = some v ∧ w5.frozen? ⟨R, i, none⟩ = false ∧ TabOf enc size st e (w5.setCell ⟨R, i, none⟩ v') R n (fun k => F k ∨ (w.heap.size ≤ k ∧ k < w5.heap.size)) (fun j => if j = i then ys else rows j) ∧
      Ext F w (w5.setCell ⟨R, i, none⟩ v') := by
  obtain ⟨⟨vals, h1, h2, h3, h4, h5⟩, hR, hl⟩ := h
  have hvi : vals[i]? = some v := by rw [cell_of_row _ _ _ _ _ _ h2] at hv; exact hv
  have hil : i < vals.size := (Array.getElem?_eq_some_iff.1 hvi).1
  have hRn : ¬ v.ownBlock = some R := fun e => (h4 i v R hvi e).2 rfl
  have hR5 := hx.heap h2 hRn
  have hxs : Ext (· = R) w5 (w5.setCell ⟨R, i, none⟩ v') := Ext.set1 _ _ _ _
  have hnR : ∀ k, v'.ownBlock = some k → k ≠ R := by
    rintro k hk rfl
    rcases hat _ hk with h | h
    · exact hRn h
    · have := hl _ hR; omega
  have hoth : ∀ (j : Nat) (vj : Value) (k : Nat), j ≠ i → vals[j]? = some vj → vj.ownBlock = some k → v'.ownBlock ≠ some k := by
    intro j vj k hj hvj hk hk'
    rcases hat k hk' with h | h
    · exact h5 j i k vj v hj hvj hvi hk h
    · have := hl k (h4 j vj k hvj hk).1; omega
  refine ⟨by rw [cell_of_row _ _ _ _ _ _ hR5]; exact hvi, frozen_of_row _ _ _ _ _ hR5, ⟨⟨_, by simpa using h1, heap_setCell_same _ _ _ _ _ _ hR5, ?_, ?_, ?_⟩, .inl hR, ?_⟩, ?_⟩
  · intro j u hu
    rw [Array.getElem?_setIfInBounds] at hu
    by_cases ej : i = j
    · subst ej
      rw [if_pos rfl, if_pos hil] at hu
      obtain rfl := Option.some.inj hu
      show World.ownsRow _ _ _ _ _ (if i = i then ys else rows i).length ((if i = i then ys else rows i).flatMap enc)
      rw [if_pos rfl]
      exact ownsRow_ext hnew hxs (fun k hk => hnR k hk)
    · rw [if_neg ej] at hu
      show World.ownsRow _ _ _ _ _ (if j = i then ys else rows j).length ((if j = i then ys else rows j).flatMap enc)
      rw [if_neg (fun e : j = i => ej e.symm)]
      refine ownsRow_ext (ownsRow_ext (h3 j u hu) hx fun k hk hk' => h5 j i k u v (fun e => ej e.symm) hu hvi hk hk') hxs fun k hk => (h4 j u k hu hk).2
  · intro j u k hu hk
    rw [Array.getElem?_setIfInBounds] at hu
    by_cases ej : i = j
    · subst ej
      rw [if_pos rfl, if_pos hil] at hu
      obtain rfl := Option.some.inj hu
      refine ⟨?_, hnR k hk⟩
      rcases hat k hk with h | h
      · exact .inl (h4 i v k hvi h).1
      · exact .inr ⟨h, (hnew.lt k hk).2⟩
    · rw [if_neg ej] at hu
      exact ⟨.inl (h4 j u k hu hk).1, (h4 j u k hu hk).2⟩
  · intro a b k va vb hab ha hb hka hkb
    rw [Array.getElem?_setIfInBounds] at ha hb
    by_cases ea : i = a
    · subst ea
      rw [if_pos rfl, if_pos hil] at ha
      obtain rfl := Option.some.inj ha
      rw [if_neg hab] at hb
      exact hoth b vb k (fun e => hab e.symm) hb hkb hka
    · rw [if_neg ea] at ha
      by_cases eb : i = b
      · subst eb
        rw [if_pos rfl, if_pos hil] at hb
        obtain rfl := Option.some.inj hb
        exact hoth a va k (fun e => ea e.symm) ha hka hkb
      · rw [if_neg eb] at hb
        exact h5 a b k va vb hab ha hb hka hkb
  · rintro k (hk | hk)
    · rw [World.size_setCell]; exact Nat.lt_of_lt_of_le (hl k hk) hx.size
    · rw [World.size_setCell]; exact hk.2
  · exact (hx.mono (M' := F) (fun k hk => (h4 i v k hvi hk).1)).trans hxs (fun k hk => .inl (by rw [hk]; exact hR))
end

/-- The world behind an append to row v, whatever lay ahead of it. -/
theorem ext_grown {w wA w5 : World} {v : Value} (hA : Ext (fun _ => False) w wA) (hg : wA.grownBy w5 v.ownBlock) : Ext (fun k => v.ownBlock = some k) w w5 :=
  (hA.mono (fun _ h => h.elim)).trans (Ext.of_grown (M := fun k => v.ownBlock = some k) hg (fun k hk => .inl hk)) (fun j hj => .inl hj)
end Go.Proofs.Ytbbogkcfngpbbaa
