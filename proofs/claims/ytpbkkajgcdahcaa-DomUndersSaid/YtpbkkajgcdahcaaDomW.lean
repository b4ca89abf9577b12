/- The plain law of a walk's order: who is met has an edge from one that is left later. -/
import Derived.Test.YtpbkkajgcdahcaaWlkM
namespace Go.Proofs.Ytpbkkajgcdahcaa

structure WlkP (succ : Nat → List Nat) (a : Nat) (st : List (Nat × List Nat)) (m l : List Nat) : Prop where
  stay : ∀ e ∈ st, ∀ y ∈ e.2, y ∈ succ e.1
  last : (l ++ st.map Prod.fst).getLast? = some a
  par : ∀ b ∈ m, b ≠ a → ∃ u, b ∈ succ u ∧ [b, u].Sublist (l ++ st.map Prod.fst)

theorem wlk_par {succ : Nat → List Nat} {a : Nat} {M L : List Nat} : ∀ (k : Nat) (st : List (Nat × List Nat)) (m l : List Nat), WlkP succ a st m l → wlk succ k st m l = some (M, L) → WlkP succ a [] M L
  | 0, _, _, _, _, h => by simp [wlk] at h
  | _ + 1, [], m, l, hi, h => by simp [wlk] at h; obtain ⟨rfl, rfl⟩ := h; exact hi
  | k + 1, (x, []) :: st, m, l, hi, h => by
    refine wlk_par k st m (l ++ [x]) ⟨fun e he => hi.stay e (List.mem_cons_of_mem _ he), ?_, ?_⟩ (by simpa [wlk] using h)
    · have := hi.last; simpa using this
    · intro b hb hne
      obtain ⟨u, h1, h2⟩ := hi.par b hb hne
      exact ⟨u, h1, by simpa using h2⟩
  | k + 1, (x, b :: r) :: st, m, l, hi, h => by
    simp only [wlk] at h
    split at h
    · refine wlk_par k ((x, r) :: st) m l ⟨fun e he => ?_, hi.last, hi.par⟩ h
      rcases List.mem_cons.1 he with rfl | he
      · exact fun y hy => hi.stay (x, b :: r) (by simp) y (List.mem_cons_of_mem _ hy)
      · exact hi.stay e (List.mem_cons_of_mem _ he)
    · refine wlk_par k ((b, succ b) :: (x, r) :: st) (m ++ [b]) l ⟨fun e he => ?_, ?_, ?_⟩ h
      · rcases List.mem_cons.1 he with rfl | he
        · exact fun y hy => hy
        · rcases List.mem_cons.1 he with rfl | he
          · exact fun y hy => hi.stay (x, b :: r) (by simp) y (List.mem_cons_of_mem _ hy)
          · exact hi.stay e (List.mem_cons_of_mem _ he)
      · have := hi.last
        simp only [List.map_cons] at this ⊢
        rw [List.getLast?_append] at this ⊢
        simpa using this
      · intro c hc hne
        rcases List.mem_append.1 hc with hc | hc
        · obtain ⟨u, h1, h2⟩ := hi.par c hc hne
          refine ⟨u, h1, h2.trans ?_⟩
          simp only [List.map_cons]
          exact List.Sublist.append (List.Sublist.refl l) (List.sublist_cons_self _ _)
        · simp at hc
          subst hc
          refine ⟨x, hi.stay (x, c :: r) (by simp) c (by simp), ?_⟩
          simp only [List.map_cons]
          refine List.Sublist.trans ?_ (List.sublist_append_right l _)
          exact List.Sublist.cons_cons _ (List.Sublist.cons_cons _ (List.nil_sublist _))

/-- The walk from a: its last is a; of any other that is met there is an edge from one that is left later. -/
theorem wlk_later {succ : Nat → List Nat} {a k : Nat} {M L : List Nat} (h : wlk succ k [(a, succ a)] [a] [] = some (M, L)) : L.getLast? = some a ∧ ∀ b ∈ M, b ≠ a → ∃ u, b ∈ succ u ∧ [b, u].Sublist L := by
  have hi := wlk_par (a := a) k _ _ _ (⟨by simp, by simp, by simp⟩ : WlkP succ a [(a, succ a)] [a] []) h
  exact ⟨by simpa using hi.last, fun b hb hne => by simpa using hi.par b hb hne⟩
end Go.Proofs.Ytpbkkajgcdahcaa
