/- The reference's reach: a walk as broad as it can. -/
import Derived.Test.YtpbkkajgcdahcaaWlkM
namespace Go.Proofs.Ytpbkkajgcdahcaa
open Go.RowKit

theorem todoStep_spec {succ : Nat → List Nat} {a n : Nat} (ys : List Nat) : ∀ (t : List Nat), t.Nodup → (∀ x ∈ t, x < n) → (∀ x ∈ t, Leads succ a x) → (∀ y ∈ ys, y < n ∧ Leads succ a y) → t.length + unmet n t ≤ n →
    (todoStep t ys).Nodup ∧ (∀ x ∈ todoStep t ys, x < n) ∧ (∀ x ∈ todoStep t ys, Leads succ a x) ∧ (∀ y ∈ ys, y ∈ todoStep t ys) ∧ t <+: todoStep t ys ∧ (todoStep t ys).length + unmet n (todoStep t ys) ≤ n := by
  induction ys with
  | nil => intro t h1 h2 h3 _ h5; exact ⟨h1, h2, h3, by simp, List.prefix_rfl, h5⟩
  | cons y ys ih =>
    intro t h1 h2 h3 h4 h5
    have e : todoStep t (y :: ys) = todoStep (if y ∈ t then t else t ++ [y]) ys := rfl
    rw [e]
    by_cases hy : y ∈ t
    · rw [if_pos hy]
      obtain ⟨q1, q2, q3, q4, q5, q6⟩ := ih t h1 h2 h3 (fun z hz => h4 z (List.mem_cons_of_mem _ hz)) h5
      refine ⟨q1, q2, q3, fun z hz => ?_, q5, q6⟩
      rcases List.mem_cons.1 hz with rfl | hz
      · exact q5.subset hy
      · exact q4 z hz
    · rw [if_neg hy]
      have hyn := h4 y (by simp)
      have hu := unmet_snoc hyn.1 hy
      obtain ⟨q1, q2, q3, q4, q5, q6⟩ := ih (t ++ [y]) (by
          rw [List.nodup_append]
          exact ⟨h1, by simp, by intro z hz u hu; simp at hu; subst hu; intro e; subst e; exact hy hz⟩)
        (by intro x hx; rcases List.mem_append.1 hx with hx | hx; exact h2 x hx; simp at hx; subst hx; exact hyn.1)
        (by intro x hx; rcases List.mem_append.1 hx with hx | hx; exact h3 x hx; simp at hx; subst hx; exact hyn.2)
        (fun z hz => h4 z (List.mem_cons_of_mem _ hz)) (by simp; omega)
      refine ⟨q1, q2, q3, fun z hz => ?_, (List.prefix_append t [y]).trans q5, q6⟩
      rcases List.mem_cons.1 hz with rfl | hz
      · exact q5.subset (by simp)
      · exact q4 z hz

theorem bfs_end {succ : Nat → List Nat} {a n : Nat} (hlt : ∀ x y, y ∈ succ x → y < n) : ∀ (k : Nat) (t : List Nat) (i : Nat), n ≤ k + i → i ≤ t.length → t.Nodup → (∀ x ∈ t, x < n) → (∀ x ∈ t, Leads succ a x) → t.length + unmet n t ≤ n →
    (∀ x ∈ t.take i, ∀ y ∈ succ x, y ∈ t) → ∃ T, bfs succ (k + 1) t i = some T ∧ (∀ x ∈ T, x < n) ∧ (∀ x ∈ T, Leads succ a x) ∧ (∀ x ∈ T, ∀ y ∈ succ x, y ∈ T) ∧ t <+: T ∧ T.length ≤ n
  | k, t, i, hk, hi, h1, h2, h3, h5, h6 => by
    by_cases h : i < t.length
    · have hx : t[i]? = some t[i] := List.getElem?_eq_getElem h
      have hmem : t[i] ∈ t := List.getElem_mem h
      cases k with
      | zero => omega
      | succ k =>
        obtain ⟨q1, q2, q3, q4, q5, q6⟩ := todoStep_spec (succ := succ) (a := a) (n := n) (succ t[i]) t h1 h2 h3 (fun y hy => ⟨hlt _ y hy, .step (h3 _ hmem) hy⟩) h5
        have hlen := q5.length_le
        obtain ⟨T, r1, r2, r3, r4, r5, r6⟩ := bfs_end hlt k (todoStep t (succ t[i])) (i + 1) (by omega) (by omega) q1 q2 q3 q6 (by
          intro x hx' y hy
          obtain ⟨s, hs⟩ := q5
          rw [← hs, List.take_append_of_le_length (by omega), List.take_add_one, hx] at hx'
          rcases List.mem_append.1 hx' with h' | h'
          · rw [← hs]; exact List.mem_append.2 (.inl (h6 x h' y hy))
          · simp at h'; subst h'; exact q4 y hy)
        exact ⟨T, by rw [bfs, hx]; exact r1, r2, r3, r4, q5.trans r5, r6⟩
    · have hx : t[i]? = none := List.getElem?_eq_none (by omega)
      have ht : t.take i = t := List.take_of_length_le (by omega)
      rw [ht] at h6
      exact ⟨t, by rw [bfs, hx], h2, h3, h6, List.prefix_rfl, by omega⟩

/-- The walk as broad as it can meets what is reached. -/
theorem bfs_from {succ : Nat → List Nat} {a n : Nat} (hlt : ∀ x y, y ∈ succ x → y < n) (ha : a < n) : ∃ T, bfs succ (n + 1) [a] 0 = some T ∧ (∀ x, x ∈ T ↔ Leads succ a x) ∧ T.length ≤ n ∧ ∀ x ∈ T, x < n := by
  have hu := unmet_snoc (m := []) ha (by simp)
  have hn : unmet n [] ≤ n := by unfold unmet; exact Nat.le_trans (List.length_filter_le _ _) (by simp)
  obtain ⟨T, h, h2, h3, h4, h5, h6⟩ := bfs_end (a := a) (succ := succ) (n := n) hlt n [a] 0 (by omega) (by simp) (by simp) (by simpa using ha) (by intro x hx; simp at hx; subst hx; exact .here) (by simp at hu ⊢; omega) (by simp)
  refine ⟨T, h, fun x => ⟨h3 x, fun hx => ?_⟩, h6, h2⟩
  induction hx with
  | here => exact h5.subset (by simp)
  | step _ hy ih => exact h4 _ ih _ hy
end Go.Proofs.Ytpbkkajgcdahcaa
