/- All functions into groups. -/
import Derived.Test.YtbbogkcfngpbbaaCaG2
namespace Go.Proofs.Ytbbogkcfngpbbaa
open Go.RowKit

/-- The row of groups: each a row of its own. -/
structure GrpI (w : World) (H : Nat) (gv : Value) (ls : List (List Nat)) : Prop where
  ex : ∃ vals : List Value, vals.length = ls.length ∧ w.ownsRow H 22 1 gv ls.length vals ∧ ∀ (j : Nat) (v : Value) (l : List Nat), vals[j]? = some v → ls[j]? = some l → w.ownsRow H 3 1 v l.length (l.flatMap encN) ∧ ∀ k, v.ownBlock = some k → gv.ownBlock ≠ some k

theorem GrpI.nil (w : World) (H : Nat) : GrpI w H (.slice none 0 0) [] := ⟨[], rfl, World.ownsRow_nil _ _ _ _, fun j v l h => by simp at h⟩

theorem GrpI.ext {w w' : World} {H : Nat} {gv : Value} {ls : List (List Nat)} {M : Nat → Prop} (h : GrpI w H gv ls) (hx : Ext M w w') (hM : ∀ k, H ≤ k → k < w.heap.size → ¬ M k) : GrpI w' H gv ls := by
  obtain ⟨vals, h1, h2, h3⟩ := h.ex
  refine ⟨vals, h1, ownsRow_ext h2 hx (fun k hk => hM k (h2.lt k hk).1 (h2.lt k hk).2), fun j v l hv hl => ?_⟩
  obtain ⟨q1, q2⟩ := h3 j v l hv hl
  exact ⟨ownsRow_ext q1 hx (fun k hk => hM k (q1.lt k hk).1 (q1.lt k hk).2), q2⟩

theorem GrpI.below {w w' : World} {H : Nat} {gv : Value} {ls : List (List Nat)} (h : GrpI w H gv ls) (hb : Below w.heap.size w w') : GrpI w' H gv ls :=
  h.ext (M := fun _ => False) (Ext.of_below_size hb) (fun _ _ _ h => h)

/-- Behind 'g.groups = append(g.groups, l)'. -/
theorem GrpI.app {w wA w5 : World} {H : Nat} {gv gv' v : Value} {ls : List (List Nat)} {l : List Nat} (h : GrpI w H gv ls) (hv : w.ownsRow H 3 1 v l.length (l.flatMap encN)) (hne : ∀ k, v.ownBlock = some k → gv.ownBlock ≠ some k)
    (hA : Ext (fun _ => False) w wA) (hgrow : wA.grownBy w5 gv.ownBlock) (vals : List Value) (h1 : vals.length = ls.length) (h3 : ∀ (j : Nat) (v : Value) (l : List Nat), vals[j]? = some v → ls[j]? = some l → w.ownsRow H 3 1 v l.length (l.flatMap encN) ∧ ∀ k, v.ownBlock = some k → gv.ownBlock ≠ some k)
    (hown : w5.ownsRow H 22 1 gv' (ls.length + 1) (vals ++ [v])) (hat : ∀ k, gv'.ownBlock = some k → gv.ownBlock = some k ∨ wA.heap.size ≤ k) : GrpI w5 H gv' (ls ++ [l]) := by
  have hx : Ext (fun k => gv.ownBlock = some k) w w5 := ext_grown hA hgrow
  refine ⟨vals ++ [v], by simp [h1], by rw [List.length_append]; exact hown, fun j x m hx' hm => ?_⟩
  have key : w.ownsRow H 3 1 x m.length (m.flatMap encN) ∧ ∀ k, x.ownBlock = some k → gv.ownBlock ≠ some k := by
    rcases Nat.lt_or_ge j ls.length with hlt | hge
    · rw [List.getElem?_append_left (by omega)] at hx' hm
      exact h3 j x m hx' hm
    · have hj : j = ls.length := by
        have := (List.getElem?_eq_some_iff.1 hm).1
        simp at this; omega
      subst hj
      rw [List.getElem?_append_right (by omega), h1] at hx'
      rw [List.getElem?_append_right (by omega)] at hm
      simp at hx' hm
      subst hx' hm
      exact ⟨hv, hne⟩
  refine ⟨ownsRow_ext key.1 hx key.2, fun k hk hk' => ?_⟩
  rcases hat k hk' with e | e
  · exact key.2 k hk e
  · have := (key.1.lt k hk).2
    have := hA.size
    omega

theorem pickF_at {n : Nat} {D : Nat → List Nat} {T : Nat → Nat → Bool} {gi : Nat → Int} {f : Nat} (hf : f < n) (h0 : ∀ x, x < f → (gi x == -1 && readyF D gi (grp n T x)) = false) (h1 : gi f = -1) (h2 : readyF D gi (grp n T f) = true) : pickF n D T gi = some f := by
  unfold pickF
  rw [List.find?_eq_some_iff_append]
  refine ⟨by rw [h1, h2]; rfl, List.range f, (List.range (n - f - 1)).map (fun i => i + f + 1), ?_, fun a ha => ?_⟩
  · apply List.ext_getElem?
    intro i
    by_cases hi : i < n
    · rw [List.getElem?_range hi]
      by_cases h3 : i < f
      · rw [List.getElem?_append_left (by simpa using h3), List.getElem?_range h3]
      · rw [List.getElem?_append_right (by simp; omega)]
        simp only [List.length_range]
        by_cases h4 : i = f
        · subst h4; simp
        · rw [show i - f = (i - f - 1) + 1 from by omega, List.getElem?_cons_succ, List.getElem?_map, List.getElem?_range (by omega)]
          simp; omega
    · rw [List.getElem?_eq_none (by simp; omega), List.getElem?_eq_none (by simp; omega)]
  · have := h0 a (by simpa using ha)
    rw [this]; rfl

theorem pickF_none {n : Nat} {D : Nat → List Nat} {T : Nat → Nat → Bool} {gi : Nat → Int} (h0 : ∀ x, x < n → (gi x == -1 && readyF D gi (grp n T x)) = false) : pickF n D T gi = none := by
  unfold pickF
  rw [List.find?_eq_none]
  intro x hx
  rw [h0 x (by simpa using hx)]; simp

theorem setF_take {gi : Nat → Int} {l : List Nat} {k : Int} {q h : Nat} (hq : l[q]? = some h) : setF gi (l.take (q + 1)) k = fun x => if x = h then k else setF gi (l.take q) k x := by
  funext x
  unfold setF
  rw [show l.take (q + 1) = l.take q ++ [h] from by rw [List.take_add_one, hq]; rfl]
  by_cases e : x = h
  · subst e; simp
  · simp [e]

section
variable {w w' : World} {N G n DN UP ST RE GP : Nat} {gv : Value} {tag : Nat → Nat} {d u : Nat → List Nat} {s : Nat → List (Nat × Nat)} {r : Nat → List Bool} {gi gi' : Nat → Int}
theorem GM.num (h : GM w N G n DN UP ST RE GP gv tag d u s r gi) (he : ∀ x, x < n → gi x = gi' x) : GM w N G n DN UP ST RE GP gv tag d u s r gi' :=
  ⟨h.g, h.D, h.U, h.S, h.R, by
    rw [h.gp]
    congr 2
    apply Array.ext_getElem?
    intro j
    by_cases hj : j < n
    · rw [numsC_get _ hj, numsC_get _ hj, he j hj]
    · rw [Array.getElem?_eq_none (by rw [numsC_size]; omega), Array.getElem?_eq_none (by rw [numsC_size]; omega)], h.tg, h.tp, h.ne, h.lowG, h.lowP, h.low, h.le⟩

theorem GM.tagLt (h : GM w N G n DN UP ST RE GP gv tag d u s r gi) : ∀ k, tag k ≠ 0 → k < w.heap.size := by
  intro k h0
  have := h.le k
  rcases (by omega : tag k = 1 ∨ tag k = 2 ∨ tag k = 3 ∨ tag k = 4) with e | e | e | e
  · exact h.D.lt k e
  · exact h.U.lt k e
  · exact h.S.lt k e
  · exact h.R.lt k e
end
end Go.Proofs.Ytbbogkcfngpbbaa
