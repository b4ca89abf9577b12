/- Small words that many texts share: rows of numbers, rows of truths, edges, a search. -/
import Derived.Test.YtbbogkcfngpbbaaSep
import Derived.Deep.QuietTactic
import Derived.BigQuiet
import Derived.Deep.AppendLies
import Derived.Deep.LoopGhost
import Derived.Deep.RegionHeld3
import Derived.Deep.DeepCutAuto
import Derived.RegionTactic
import Derived.Laws.OwnMore
import Derived.Laws.IdiomCopy
import Derived.WalkMore
namespace Go.Proofs.Ytbbogkcfngpbbaa
open Go.RowKit

def ints (xs : List Nat) : List Int := xs.map (fun x : Nat => (x : Int))

theorem ints_get {xs : List Nat} {k : Nat} {z : Int} (h : (ints xs)[k]? = some z) : ∃ y : Nat, xs[k]? = some y ∧ z = (y : Int) := by
  simp only [ints, List.getElem?_map, Option.map_eq_some_iff] at h
  obtain ⟨y, h1, h2⟩ := h
  exact ⟨y, h1, h2.symm⟩

def seenCells (n : Nat) (m : List Nat) : Array Value := ((List.range n).map fun k => Value.bool (decide (k ∈ m))).toArray

theorem seenCells_get {n : Nat} (m : List Nat) {k : Nat} (h : k < n) : (seenCells n m)[k]? = some (.bool (decide (k ∈ m))) := by
  simp [seenCells, h]

theorem seenCells_set {n : Nat} (m : List Nat) {x : Nat} : (seenCells n m).setIfInBounds x (.bool true) = seenCells n (m ++ [x]) := by
  apply Array.ext_getElem?
  intro i
  rw [Array.getElem?_setIfInBounds]
  by_cases h : i < n
  · rw [seenCells_get _ h, seenCells_get _ h]
    by_cases e : x = i
    · subst e; simp [seenCells, h]
    · rw [if_neg e]; simp; omega
  · have e1 : (seenCells n m)[i]? = none := by simp [seenCells]; omega
    have e2 : (seenCells n (m ++ [x]))[i]? = none := by simp [seenCells]; omega
    rw [e1, e2]
    by_cases e : x = i
    · subst e; simp [seenCells, h]
    · rw [if_neg e]

theorem InsRow.ext {w w' : World} {B : Nat} {ao : Option Addr} {ins : List Ins} {M : Nat → Prop} (h : InsRow w B ao ins) (hx : Ext M w w') (hB : B ≤ w.heap.size) (hM : ∀ a, ins ≠ [] → ao = some a → ¬ M a.block) : InsRow w' B ao ins := by
  intro hne
  obtain ⟨b, off, h1, h2, h3⟩ := h hne
  exact ⟨b, off, h1, h2, fun i x hi k u hu => by rw [hx.cell (a := ⟨b, off + i * 13 + k, none⟩) (by show b < _; omega) (show ¬ M b from hM _ hne h1)]; exact h3 i x hi k u hu⟩

theorem nextN_lt {ins : List Ins} {x y : Nat} (h : y ∈ nextN ins x) : y < ins.length := by
  unfold nextN at h
  split at h
  · simp at h
  · simp only [List.mem_map, List.mem_filter, inR, decide_eq_true_eq] at h
    obtain ⟨z, ⟨_, hz⟩, rfl⟩ := h
    omega

theorem nextN_length (ins : List Ins) (x : Nat) : (nextN ins x).length ≤ 2 := by
  unfold nextN
  split
  · simp
  · rename_i i _
    have h : (nextOf i x).length ≤ 2 := by unfold nextOf; repeat' split
                                           all_goals simp
    simp only [List.length_map]
    exact Nat.le_trans (List.length_filter_le _ _) h

theorem ints_nextN {ins : List Ins} {x : Nat} {xi : Ins} (h : ins[x]? = some xi) : ints (nextN ins x) = (nextOf xi x).filter (inR ins.length) := by
  unfold nextN
  rw [h]
  exact map_toNat_cast _ _

theorem seenCells_nil (n : Nat) : seenCells n [] = (List.replicate n (.bool false)).toArray := by
  apply Array.ext_getElem?
  intro i
  by_cases h : i < n
  · rw [seenCells_get _ h]; simp [h]
  · rw [Array.getElem?_eq_none (by simp [seenCells]; omega), Array.getElem?_eq_none (by simp; omega)]

theorem alloc_at (w : World) (o : Obj) : (w.alloc o).heap[w.heap.size]? = some o := World.alloc_heap_new w o

/-- Behind Reach: a row of its own. -/
def Truthed (w : World) (n : Nat) (M : List Nat) (e : Ending) (w' : World) : Prop :=
  ∃ b, e = .returned (.slice (some ⟨b, 0, none⟩) n n) ∧ w.heap.size ≤ b ∧ w'.heap[b]? = some (.cells (seenCells n M) 4 (0, 0)) ∧ Below w.heap.size w w'

/-- How many are not met. -/
def unmet (n : Nat) (m : List Nat) : Nat := ((List.range n).filter fun x => decide (x ∉ m)).length

theorem unmet_snoc {n b : Nat} {m : List Nat} (hb : b < n) (hm : b ∉ m) : unmet n (m ++ [b]) + 1 ≤ unmet n m := by
  unfold unmet
  have h : (List.range n).filter (fun x => decide (x ∉ m ++ [b])) = ((List.range n).filter fun x => decide (x ∉ m)).filter fun x => decide (x ≠ b) := by
    rw [List.filter_filter]
    apply List.filter_congr
    intro x _
    simp [not_or, and_comm]
  rw [h]
  exact List.length_filter_lt_length_iff_exists.2 ⟨b, by simp [hb, hm], by simp⟩

/-- What is still to be done, after x's edges. -/
def todoStep (t : List Nat) (ys : List Nat) : List Nat := ys.foldl (fun t y => if y ∈ t then t else t ++ [y]) t

theorem todoStep_snoc (t ys : List Nat) (y : Nat) : todoStep t (ys ++ [y]) = if y ∈ todoStep t ys then todoStep t ys else todoStep t ys ++ [y] := by
  unfold todoStep; rw [List.foldl_append]; rfl

def bfs (succ : Nat → List Nat) : Nat → List Nat → Nat → Option (List Nat)
  | 0, _, _ => none
  | k + 1, t, i => match t[i]? with
    | none => some t
    | some x => bfs succ k (todoStep t (succ x)) (i + 1)

theorem todoStep_prefix (ys : List Nat) : ∀ t : List Nat, t <+: todoStep t ys := by
  induction ys with
  | nil => intro t; exact List.prefix_rfl
  | cons y ys ih =>
    intro t
    have e : todoStep t (y :: ys) = todoStep (if y ∈ t then t else t ++ [y]) ys := rfl
    rw [e]
    split
    · exact ih t
    · exact (List.prefix_append t [y]).trans (ih _)

theorem todoStep_mem (ys : List Nat) : ∀ (t : List Nat) (z : Nat), z ∈ todoStep t ys → z ∈ t ∨ z ∈ ys := by
  induction ys with
  | nil => intro t z h; exact .inl h
  | cons y ys ih =>
    intro t z h
    have e : todoStep t (y :: ys) = todoStep (if y ∈ t then t else t ++ [y]) ys := rfl
    rw [e] at h
    rcases ih _ z h with h | h
    · split at h
      · exact .inl h
      · rcases List.mem_append.1 h with h | h
        · exact .inl h
        · simp at h; subst h; exact .inr (by simp)
    · exact .inr (List.mem_cons_of_mem _ h)

theorem bfs_prefix {succ : Nat → List Nat} {T : List Nat} : ∀ (k : Nat) (t : List Nat) (i : Nat), bfs succ k t i = some T → t <+: T
  | 0, _, _, h => by simp [bfs] at h
  | k + 1, t, i, h => by
    rw [bfs] at h
    split at h
    · simp at h; subst h; exact List.prefix_rfl
    · exact (todoStep_prefix _ t).trans (bfs_prefix k _ _ h)

theorem mem_ints {x : Nat} {xs : List Nat} : (x : Int) ∈ ints xs ↔ x ∈ xs := by
  unfold ints
  rw [List.mem_map]
  constructor
  · rintro ⟨a, h1, h2⟩
    have : a = x := by omega
    subst this; exact h1
  · exact fun h => ⟨x, h, rfl⟩

theorem any_take {α : Type} (l : List α) (p : α → Bool) {q : Nat} {x : α} (h : l[q]? = some x) : (l.take (q + 1)).any p = ((l.take q).any p || p x) := by
  rw [List.take_add_one, h, List.any_append]; simp
end Go.Proofs.Ytbbogkcfngpbbaa
