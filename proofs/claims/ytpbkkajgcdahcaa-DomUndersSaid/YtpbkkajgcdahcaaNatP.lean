/- The loop of a head: plain words, and the state of its walks. -/
import Derived.Test.YtpbkkajgcdahcaaOver9
import Derived.Test.YtpbkkajgcdahcaaDomOf
namespace Go.Proofs.Ytpbkkajgcdahcaa
open Go.RowKit

/-- What comes next of one in the walk backwards: nothing of the head; the head is met. -/
def succN (P : Nat → List Nat) (hd x : Nat) : List Nat := if x = hd then [] else (P x).filter fun y => decide (y ≠ hd)

/-- The first of the walk. -/
def natI (P : Nat → List Nat) (dm : Nat → Bool) (hd : Nat) : List Nat := todoStep [] ((P hd).filter dm)

/-- What is in the loop. -/
def natL (n hd : Nat) (I T : List Nat) : List Nat := if I = [] then [] else (List.range n).filter fun i => decide (i ∈ T ∨ i = hd)

theorem todoStep_nodup (ys : List Nat) : ∀ t : List Nat, t.Nodup → (todoStep t ys).Nodup := by
  induction ys with
  | nil => intro t h; exact h
  | cons y ys ih =>
    intro t h
    unfold todoStep at *
    simp only [List.foldl_cons]
    split
    · exact ih t h
    · next hy =>
      refine ih _ ?_
      rw [List.nodup_append]
      exact ⟨h, by simp, by intro a ha b hb; simp at hb; subst hb; rintro rfl; exact hy ha⟩

theorem todoStep_in (ys : List Nat) : ∀ (t : List Nat) (x : Nat), x ∈ todoStep t ys → x ∈ t ∨ x ∈ ys := by
  induction ys with
  | nil => intro t x h; exact .inl h
  | cons y ys ih =>
    intro t x h
    unfold todoStep at *
    simp only [List.foldl_cons] at h
    split at h
    · rcases ih t x h with h | h
      · exact .inl h
      · exact .inr (by simp [h])
    · rcases ih _ x h with h | h
      · rcases List.mem_append.1 h with h | h
        · exact .inl h
        · simp at h; exact .inr (by simp [h])
      · exact .inr (by simp [h])

theorem todoStep_keeps (ys : List Nat) : ∀ t : List Nat, t <+: todoStep t ys := by
  induction ys with
  | nil => intro t; exact List.prefix_rfl
  | cons y ys ih =>
    intro t
    unfold todoStep at *
    simp only [List.foldl_cons]
    split
    · exact ih t
    · exact (List.prefix_append _ _).trans (ih _)

theorem nodup_len_le' : ∀ (a b : List Nat), a.Nodup → (∀ x ∈ a, x ∈ b) → a.length ≤ b.length
  | [], _, _, _ => Nat.zero_le _
  | x :: a, b, hn, h => by
    rw [List.nodup_cons] at hn
    have hx : x ∈ b := h x (by simp)
    have ih := nodup_len_le' a (b.erase x) hn.2 (fun y hy => (List.mem_erase_of_ne (fun e => hn.1 (by rw [← e]; exact hy))).2 (h y (by simp [hy])))
    rw [List.length_erase_of_mem hx] at ih
    have := List.length_pos_of_mem hx
    simp; omega

theorem nodup_lt_len {t : List Nat} {n : Nat} (h : t.Nodup) (hl : ∀ x ∈ t, x < n) : t.length ≤ n := by
  have := nodup_len_le' t (List.range n) h (fun x hx => List.mem_range.2 (hl x hx))
  simpa using this

/-- A walk over what is to be done ends. -/
theorem bfs_ends {succ : Nat → List Nat} {n : Nat} (hlt : ∀ x y, y ∈ succ x → y < n) : ∀ (k : Nat) (t : List Nat) (i : Nat), n ≤ k + i → t.Nodup → (∀ x ∈ t, x < n) → ∃ T, bfs succ (k + 1) t i = some T ∧ T.Nodup ∧ (∀ x ∈ T, x < n) ∧ t <+: T
  | k, t, i, hk, h1, h2 => by
    by_cases h : i < t.length
    · have hx : t[i]? = some t[i] := List.getElem?_eq_getElem h
      have := nodup_lt_len h1 h2
      cases k with
      | zero => omega
      | succ k =>
        obtain ⟨T, r1, r2, r3, r4⟩ := bfs_ends hlt k (todoStep t (succ t[i])) (i + 1) (by omega) (todoStep_nodup _ _ h1) (fun x hx => by
          rcases todoStep_in _ _ x hx with h | h
          · exact h2 x h
          · exact hlt _ x h)
        exact ⟨T, by rw [bfs, hx]; exact r1, r2, r3, (todoStep_keeps _ _).trans r4⟩
    · exact ⟨t, by rw [bfs, List.getElem?_eq_none (by omega)], h1, h2, List.prefix_rfl⟩

theorem nat_exists {P : Nat → List Nat} {dm : Nat → Bool} {hd n : Nat} (hP : ∀ x y, y ∈ P x → y < n) : (natI P dm hd).Nodup ∧ (∀ x ∈ natI P dm hd, x < n) ∧ ∃ T, bfs (succN P hd) (n + 1) (natI P dm hd) 0 = some T ∧ T.Nodup ∧ ∀ x ∈ T, x < n := by
  have h1 : (natI P dm hd).Nodup := todoStep_nodup _ _ (by simp)
  have h2 : ∀ x ∈ natI P dm hd, x < n := fun x hx => by
    rcases todoStep_in _ _ x hx with h | h
    · simp at h
    · exact hP hd x (List.mem_filter.1 h).1
  have hlt : ∀ x y, y ∈ succN P hd x → y < n := by
    intro x y hy
    unfold succN at hy
    split at hy
    · simp at hy
    · exact hP x y (List.mem_filter.1 hy).1
  obtain ⟨T, r1, r2, r3, _⟩ := bfs_ends hlt n (natI P dm hd) 0 (by omega) h1 h2
  exact ⟨h1, h2, T, r1, r2, r3⟩

/-- The state of the reference's walk. -/
structure NatS (W6 wr : World) (Bn H n : Nat) (t m : List Nat) (v : Value) : Prop where
  own : OwnI wr H v (ints t)
  row : wr.heap[Bn]? = some (.cells (seenCells n m) 4 (0, 0))
  ext : Ext (fun k => k = Bn ∨ H ≤ k) W6 wr
  size : H ≤ wr.heap.size

variable {W6 wr w4 : World} {Bn H n : Nat} {t m : List Nat} {v : Value}

theorem NatS.set (h : NatS W6 wr Bn H n t m v) (hB : Bn < H) (y : Nat) : NatS W6 (wr.setCell ⟨Bn, y, none⟩ (.bool true)) Bn H n t (m ++ [y]) v := by
  have hx : Ext (· = Bn) wr (wr.setCell ⟨Bn, y, none⟩ (.bool true)) := Ext.set1 _ _ _ _
  refine ⟨⟨h.own.1, ?_⟩, ?_, h.ext.trans hx (fun k hk => .inl (.inl hk)), by rw [World.size_setCell]; exact h.size⟩
  · rcases h.own.2 with h' | ⟨g, cap', cur, e1, e2, e3, e4⟩
    · exact .inl h'
    · exact .inr ⟨g, cap', cur, e1, e2, hx.heap e3 (by omega), e4⟩
  · rw [← seenCells_set]; exact heap_setCell_same _ _ _ _ _ _ h.row

theorem NatS.app {ao : Option Addr} {cap g cap4 y : Nat} {o : Obj} (h : NatS W6 wr Bn H n t m (.slice ao t.length cap)) (hB : Bn < H)
    (hown : w4.ownsRow H 3 1 (.slice (some ⟨g, 0, none⟩) (t.length + 1) cap4) (t.length + 1) ((ints t).map (Value.int .i64) ++ [.int .i64 (y : Int)]))
    (hg : (wr.alloc o).grownBy w4 (Value.slice ao t.length cap).ownBlock) : NatS W6 w4 Bn H n (t ++ [y]) m (.slice (some ⟨g, 0, none⟩) (t.length + 1) cap4) := by
  have hob : ∀ k, (Value.slice ao t.length cap).ownBlock = some k → H ≤ k ∧ k < wr.heap.size := fun k hk => h.own.lt k hk
  have hx : Ext (fun k => (Value.slice ao t.length cap).ownBlock = some k) wr w4 := ((Ext.refl _ wr).alloc _).trans (Ext.of_grown (M := fun k => (Value.slice ao t.length cap).ownBlock = some k) hg (fun k hk => .inl hk)) (fun j hj => .inl hj)
  refine ⟨?_, hx.heap h.row (fun e => by have := (hob _ e).1; omega), h.ext.trans hx (fun k hk => .inl (.inr (hob _ hk).1)), by have := hx.size; have := h.size; omega⟩
  unfold OwnI
  have e1 : (ints (t ++ [y])).length = t.length + 1 := by simp [ints]
  have e2 : (ints (t ++ [y])).map (Value.int .i64) = (ints t).map (Value.int .i64) ++ [.int .i64 (y : Int)] := by simp [ints]
  rw [e1, e2]
  exact hown
end Go.Proofs.Ytpbkkajgcdahcaa
