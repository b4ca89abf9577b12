/- A tree of who is over whom: in memory, and what is known of one that is made. -/
import Derived.Test.YtpbkkajgcdahcaaDomP
import Derived.Test.YtpbkkajgcdahcaaBase
import Derived.Test.YtpbkkajgcdahcaaSep
namespace Go.Proofs.Ytpbkkajgcdahcaa
open Go.RowKit

def iCells (n : Nat) (f : Nat → Int) : Array Value := ((List.range n).map fun i => Value.int .i64 (f i)).toArray

theorem iCells_size (n : Nat) (f : Nat → Int) : (iCells n f).size = n := by simp [iCells]

theorem iCells_get {n i : Nat} (f : Nat → Int) (h : i < n) : (iCells n f)[i]? = some (.int .i64 (f i)) := by
  simp [iCells, h]

theorem iCells_congr {n : Nat} {f g : Nat → Int} (h : ∀ x, x < n → f x = g x) : iCells n f = iCells n g := by
  apply Array.ext_getElem?
  intro j
  by_cases hj : j < n
  · rw [iCells_get _ hj, iCells_get _ hj, h j hj]
  · rw [Array.getElem?_eq_none (by rw [iCells_size]; omega), Array.getElem?_eq_none (by rw [iCells_size]; omega)]

theorem iCells_set (n i : Nat) (v : Int) (f : Nat → Int) : (iCells n f).setIfInBounds i (.int .i64 v) = iCells n (fun x => if x = i then v else f x) := by
  apply Array.ext_getElem?
  intro j
  rw [Array.getElem?_setIfInBounds]
  by_cases hj : j < n
  · rw [iCells_get _ hj, iCells_get _ hj]
    by_cases h : i = j
    · subst h; simp [iCells_size, hj]
    · rw [if_neg h, if_neg (fun e => h e.symm)]
  · have e : ∀ g, (iCells n g)[j]? = none := fun g => Array.getElem?_eq_none (by rw [iCells_size]; omega)
    rw [e, e]
    by_cases h : i = j
    · subst h; rw [if_pos rfl, if_neg (by rw [iCells_size]; omega)]
    · rw [if_neg h]

theorem iCells_zero (n : Nat) : (List.replicate n (Value.int .i64 0)).toArray = iCells n (fun _ => 0) := by
  apply Array.ext_getElem?
  intro j
  by_cases hj : j < n
  · rw [iCells_get _ hj]; simp [hj]
  · rw [Array.getElem?_eq_none (by simp; omega), Array.getElem?_eq_none (by rw [iCells_size]; omega)]

/-- Who is over one, as a number. -/
def oI : Option Nat → Int
  | none => -1
  | some p => (p : Int)

/-- One's place in an order, as a number. -/
def plI (q : List Nat) (x : Nat) : Int := if x ∈ q then ((q.idxOf x : Nat) : Int) else -1

theorem plI_mem {q : List Nat} {x : Nat} (h : x ∈ q) : plI q x = ((q.idxOf x : Nat) : Int) := by unfold plI; rw [if_pos h]
theorem plI_not {q : List Nat} {x : Nat} (h : ¬ x ∈ q) : plI q x = -1 := by unfold plI; rw [if_neg h]

theorem plI_take {q : List Nat} {i x : Nat} (hn : q.Nodup) (hx : q[i]? = some x) (y : Nat) : plI (q.take (i + 1)) y = if y = x then (i : Int) else plI (q.take i) y := by
  have hi : i < q.length := (List.getElem?_eq_some_iff.1 hx).1
  have ht : q.take (i + 1) = q.take i ++ [x] := by rw [List.take_add_one, hx]; rfl
  have hxn : x ∉ q.take i := by
    have h1 := hn.sublist (List.take_sublist (i + 1) q)
    rw [ht, List.nodup_append] at h1
    exact fun h => h1.2.2 x h x (by simp) rfl
  by_cases hy : y = x
  · subst hy
    rw [if_pos rfl, ht, plI_mem (by simp), List.idxOf_append, if_neg hxn]
    simp; omega
  · rw [if_neg hy, ht]
    by_cases hm : y ∈ q.take i
    · rw [plI_mem (List.mem_append.2 (.inl hm)), plI_mem hm, List.idxOf_append, if_pos hm]
    · rw [plI_not hm, plI_not]
      intro h
      rcases List.mem_append.1 h with h | h
      · exact hm h
      · simp at h; exact hy h

/-- A tree in memory. -/
structure TreeI (w : World) (T O PL R n : Nat) (o : Nat → Option Nat) (q : List Nat) : Prop where
  tree : w.heap[T]? = some (.cells #[.slice (some ⟨O, 0, none⟩) n n, .slice (some ⟨PL, 0, none⟩) n n, .slice (some ⟨R, 0, none⟩) n n] 90 (0, 0))
  over : w.heap[O]? = some (.cells (iCells n (fun v => oI (o v))) 3 (0, 0))
  place : w.heap[PL]? = some (.cells (iCells n (plI q)) 3 (0, 0))

variable {w w' : World} {T O PL R n : Nat} {o : Nat → Option Nat} {q : List Nat}

theorem TreeI.ext {M : Nat → Prop} (h : TreeI w T O PL R n o q) (hx : Ext M w w') (h1 : ¬ M T) (h2 : ¬ M O) (h3 : ¬ M PL) : TreeI w' T O PL R n o q :=
  ⟨hx.heap h.tree h1, hx.heap h.over h2, hx.heap h.place h3⟩

theorem TreeI.below (h : TreeI w T O PL R n o q) (hb : Below w.heap.size w w') : TreeI w' T O PL R n o q :=
  h.ext (M := fun _ => False) (Ext.of_below_size hb) (fun h => h) (fun h => h) (fun h => h)

theorem TreeI.c0 (h : TreeI w T O PL R n o q) : w.cell? ⟨T, 0, none⟩ = some (.slice (some ⟨O, 0, none⟩) n n) := by rw [cell_of_row _ _ _ _ _ _ h.tree]; rfl
theorem TreeI.c1 (h : TreeI w T O PL R n o q) : w.cell? ⟨T, 1, none⟩ = some (.slice (some ⟨PL, 0, none⟩) n n) := by rw [cell_of_row _ _ _ _ _ _ h.tree]; rfl
theorem TreeI.c2 (h : TreeI w T O PL R n o q) : w.cell? ⟨T, 2, none⟩ = some (.slice (some ⟨R, 0, none⟩) n n) := by rw [cell_of_row _ _ _ _ _ _ h.tree]; rfl
theorem TreeI.co (h : TreeI w T O PL R n o q) {v : Nat} (hv : v < n) : w.cell? ⟨O, v, none⟩ = some (.int .i64 (oI (o v))) := by rw [cell_of_row _ _ _ _ _ _ h.over, iCells_get _ hv]
theorem TreeI.cp (h : TreeI w T O PL R n o q) {v : Nat} (hv : v < n) : w.cell? ⟨PL, v, none⟩ = some (.int .i64 (plI q v)) := by rw [cell_of_row _ _ _ _ _ _ h.place, iCells_get _ hv]

/-- An order: the first is 0, once each, all in range. -/
structure Ord (n : Nat) (q : List Nat) : Prop where
  nodup : q.Nodup
  lt : ∀ x ∈ q, x < n
  first : ∀ x ∈ q, q[0]? = some 0
  len : q.length ≤ n

abbrev plN (q : List Nat) (x : Nat) : Nat := q.idxOf x

theorem Ord.zero (h : Ord n q) {x : Nat} (hx : x ∈ q) : plN q 0 = 0 := by
  have h0 := h.first x hx
  cases q with
  | nil => simp at hx
  | cons a l => simp at h0; subst h0; simp [plN]

theorem Ord.mem0 (h : Ord n q) {x : Nat} (hx : x ∈ q) : 0 ∈ q := List.mem_of_getElem? (h.first x hx)

theorem Ord.inj (h : Ord n q) : ∀ x ∈ q, ∀ y ∈ q, plN q x = plN q y → x = y := by
  intro x hx y hy e
  have h1 := List.getElem_idxOf (List.idxOf_lt_length_of_mem hx)
  have h2 := List.getElem_idxOf (List.idxOf_lt_length_of_mem hy)
  rw [← h1, ← h2]
  simp only [plN] at e
  simp only [e]

theorem some_up (hq : Ord n q) {x y : Nat} (hx : Proc o x ∧ x ∈ q) (hlt : plN q y < plN q x) : ∃ p, o x = some p := by
  rcases hx.1 with h | h
  · subst h; have := hq.zero hx.2; omega
  · cases e : o x with
    | none => exact absurd e h
    | some p => exact ⟨p, rfl⟩
end Go.Proofs.Ytpbkkajgcdahcaa
