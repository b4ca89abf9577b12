/- The plain law of a walk as deep as it can: it ends; what it met is what is reached, once each. -/
import Derived.Test.YtpbkkajgcdahcaaWalkD
namespace Go.Proofs.Ytpbkkajgcdahcaa

/-- One leads to another, over edges. -/
inductive Leads (succ : Nat → List Nat) (a : Nat) : Nat → Prop
  | here : Leads succ a a
  | step {x y : Nat} : Leads succ a x → y ∈ succ x → Leads succ a y

structure WlkI (succ : Nat → List Nat) (a n : Nat) (st : List (Nat × List Nat)) (m l : List Nat) : Prop where
  nodup : m.Nodup
  lt : ∀ x ∈ m, x < n
  perm : (st.map Prod.fst ++ l).Perm m
  left : ∀ x ∈ l, ∀ y ∈ succ x, y ∈ m
  stay : ∀ e ∈ st, (∀ y ∈ e.2, y ∈ succ e.1) ∧ ∀ y ∈ succ e.1, y ∈ m ∨ y ∈ e.2
  leads : ∀ x ∈ m, Leads succ a x
  few : m.length + unmet n m ≤ n

theorem wlk_end {succ : Nat → List Nat} {a n : Nat} (hlt : ∀ x y, y ∈ succ x → y < n) (h2 : ∀ x, (succ x).length ≤ 2) : ∀ (μ : Nat) (st : List (Nat × List Nat)) (m l : List Nat),
    4 * unmet n m + (st.map fun e => e.2.length + 1).sum ≤ μ → WlkI succ a n st m l → ∃ k M L, wlk succ k st m l = some (M, L) ∧ WlkI succ a n [] M L
  | μ, [], m, l, _, hi => ⟨1, m, l, rfl, hi⟩
  | 0, e :: st, m, l, hμ, _ => by simp at hμ
  | μ + 1, (x, []) :: st, m, l, hμ, hi => by
    obtain ⟨k, M, L, h, hI⟩ := wlk_end hlt h2 μ st m (l ++ [x]) (by simp at hμ ⊢; omega)
      ⟨hi.nodup, hi.lt, (by
        refine List.Perm.trans ?_ hi.perm
        rw [← List.append_assoc]
        refine (List.perm_append_comm (l₁ := st.map Prod.fst ++ l) (l₂ := [x])).trans ?_
        simp), (fun y hy z hz => by
        rcases List.mem_append.1 hy with hy | hy
        · exact hi.left y hy z hz
        · simp at hy; subst hy
          rcases (hi.stay (y, []) (by simp)).2 z hz with h | h
          · exact h
          · simp at h), fun e he => hi.stay e (List.mem_cons_of_mem _ he), hi.leads, hi.few⟩
    exact ⟨k + 1, M, L, by simpa [wlk] using h, hI⟩
  | μ + 1, (x, b :: r) :: st, m, l, hμ, hi => by
    have hs := hi.stay (x, b :: r) (by simp)
    by_cases hb : b ∈ m
    · obtain ⟨k, M, L, h, hI⟩ := wlk_end hlt h2 μ ((x, r) :: st) m l (by simp at hμ ⊢; omega)
        ⟨hi.nodup, hi.lt, by simpa using hi.perm, hi.left, (fun e he => by
          rcases List.mem_cons.1 he with rfl | he
          · refine ⟨fun y hy => hs.1 y (List.mem_cons_of_mem _ hy), fun y hy => ?_⟩
            rcases hs.2 y hy with h | h
            · exact .inl h
            · rcases List.mem_cons.1 h with rfl | h
              · exact .inl hb
              · exact .inr h
          · exact hi.stay e (List.mem_cons_of_mem _ he)), hi.leads, hi.few⟩
      exact ⟨k + 1, M, L, by simpa [wlk, hb] using h, hI⟩
    · have hbs : b ∈ succ x := hs.1 b (by simp)
      have hbn := hlt x b hbs
      have hu := unmet_snoc hbn hb
      have hx : x ∈ m := hi.perm.subset (by simp)
      obtain ⟨k, M, L, h, hI⟩ := wlk_end hlt h2 μ ((b, succ b) :: (x, r) :: st) (m ++ [b]) l (by have := h2 b; simp at hμ ⊢; omega)
        ⟨(by
          rw [List.nodup_append]
          exact ⟨hi.nodup, by simp, by intro y hy z hz; simp at hz; subst hz; intro e; subst e; exact hb hy⟩), (fun y hy => by
          rcases List.mem_append.1 hy with hy | hy
          · exact hi.lt y hy
          · simp at hy; subst hy; exact hbn), (by
          refine List.Perm.trans ?_ ((hi.perm.cons b).trans (List.perm_append_comm (l₁ := [b]) (l₂ := m)))
          simp), (fun y hy z hz => List.mem_append.2 (.inl (hi.left y hy z hz))), (fun e he => by
          rcases List.mem_cons.1 he with rfl | he
          · exact ⟨fun y hy => hy, fun y hy => .inr hy⟩
          · rcases List.mem_cons.1 he with rfl | he
            · refine ⟨fun y hy => hs.1 y (List.mem_cons_of_mem _ hy), fun y hy => ?_⟩
              rcases hs.2 y hy with h | h
              · exact .inl (by simp [h])
              · rcases List.mem_cons.1 h with rfl | h
                · exact .inl (by simp)
                · exact .inr h
            · have := hi.stay e (List.mem_cons_of_mem _ he)
              exact ⟨this.1, fun y hy => (this.2 y hy).imp (fun h => by simp [h]) id⟩), (fun y hy => by
          rcases List.mem_append.1 hy with hy | hy
          · exact hi.leads y hy
          · simp at hy; subst hy; exact .step (hi.leads x hx) hbs), (by have := hi.few; simp; omega)⟩
      exact ⟨k + 1, M, L, by simpa [wlk, hb] using h, hI⟩

/-- The walk from a. -/
theorem wlk_from {succ : Nat → List Nat} {a n : Nat} (hlt : ∀ x y, y ∈ succ x → y < n) (h2 : ∀ x, (succ x).length ≤ 2) (ha : a < n) :
    ∃ k M L, wlk succ k [(a, succ a)] [a] [] = some (M, L) ∧ M.Nodup ∧ (∀ x ∈ M, x < n) ∧ L.Perm M ∧ (∀ x, x ∈ M ↔ Leads succ a x) ∧ M.length ≤ n := by
  have hu := unmet_snoc (m := []) ha (by simp)
  have hn : unmet n [] ≤ n := by unfold unmet; exact Nat.le_trans (List.length_filter_le _ _) (by simp)
  obtain ⟨k, M, L, h, hI⟩ := wlk_end (a := a) hlt h2 _ [(a, succ a)] [a] [] (Nat.le_refl _)
    ⟨by simp, by simpa using ha, by simp, by simp, by intro e he; simp at he; subst he; exact ⟨fun y hy => hy, fun y hy => .inr hy⟩, by intro x hx; simp at hx; subst hx; exact .here, by simp at hu ⊢; omega⟩
  have hp : L.Perm M := by simpa using hI.perm
  refine ⟨k, M, L, h, hI.nodup, hI.lt, hp, fun x => ⟨hI.leads x, fun hx => ?_⟩, by have := hI.few; omega⟩
  induction hx with
  | here => exact (wlk_prefix _ _ _ _ h).1.subset (by simp)
  | step _ hy ih => exact hI.left _ (hp.symm.subset ih) _ hy
end Go.Proofs.Ytpbkkajgcdahcaa
