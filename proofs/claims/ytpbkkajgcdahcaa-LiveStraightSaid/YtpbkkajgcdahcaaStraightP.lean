/- Straight code of sums, in plain words. -/
import Derived.Test.YtpbkkajgcdahcaaAlive10
namespace Go.Proofs.Ytpbkkajgcdahcaa
open Go.RowKit

structure Tri where
  x : Int
  y : Int
  z : Int

def Tri.cells (t : Tri) : Array Value := #[.int .i64 t.x, .int .i64 t.y, .int .i64 t.z]
def Tri.fit (t : Tri) : Prop := (0 ≤ t.x ∧ t.x ≤ 7) ∧ (0 ≤ t.y ∧ t.y ≤ 7) ∧ (0 ≤ t.z ∧ t.z ≤ 7)

def plusS : ByteArray := { data := #[43] }
def sIns (t : Tri) : Ins := ⟨4, t.x, t.y, t.z, 0, 0, plusS, .slice none 0 0, .slice none 0 0, 0, 0, 0, 0, []⟩
def strCode (l : List Tri) (last : Int) : List Ins := l.map sIns ++ [insOf4 18 0 last 0]

theorem strCode_len (l : List Tri) (last : Int) : (strCode l last).length = l.length + 1 := by simp [strCode]

theorem strCode_get (l : List Tri) (last : Int) {i : Nat} {t : Tri} (h : l[i]? = some t) : (strCode l last)[i]? = some (sIns t) := by
  have hi := (List.getElem?_eq_some_iff.1 h).1
  unfold strCode
  rw [List.getElem?_append_left (by simpa using hi)]
  simp [h]

theorem strCode_last (l : List Tri) (last : Int) : (strCode l last)[l.length]? = some (insOf4 18 0 last 0) := by
  unfold strCode
  rw [List.getElem?_append_right (by simp)]
  simp

theorem str_next (l : List Tri) (last : Int) {i : Nat} (h : i < l.length) : nextN (strCode l last) i = [i + 1] := by
  obtain ⟨t, ht⟩ : ∃ t, l[i]? = some t := ⟨_, List.getElem?_eq_getElem h⟩
  unfold nextN
  rw [strCode_get l last ht]
  have e : nextOf (sIns t) (i : Int) = [(i : Int) + 1] := rfl
  simp only [e, strCode_len]
  have hr : inR (l.length + 1) ((i : Int) + 1) = true := by simp only [inR, decide_eq_true_eq]; omega
  simp only [List.filter_cons, hr, if_true, List.filter_nil, List.map_cons, List.map_nil]
  congr 1

theorem str_end (l : List Tri) (last : Int) : nextN (strCode l last) l.length = [] := by
  unfold nextN
  rw [strCode_last]
  rfl

theorem str_behind (l : List Tri) (last : Int) (v : Nat) {i : Nat} (h : i < l.length) : AskedBehind (strCode l last) v i ↔ Asked (strCode l last) v (i + 1) := by
  unfold AskedBehind; rw [str_next l last h]; simp

theorem str_behind_end (l : List Tri) (last : Int) (v : Nat) : ¬ AskedBehind (strCode l last) v l.length := by
  rintro ⟨y, hy, _⟩; rw [str_end] at hy; simp at hy

theorem str_asked (l : List Tri) (last : Int) (v : Nat) {i : Nat} {t : Tri} (h : l[i]? = some t) : Asked (strCode l last) v i ↔ ((v : Int) = t.y ∨ (v : Int) = t.z) ∨ ((v : Int) ≠ t.x ∧ AskedBehind (strCode l last) v i) := by
  rw [asked_iff (strCode_get l last h)]
  rw [show readsOf (sIns t) = [t.y, t.z] from rfl, show writesOf (sIns t) = (t.x, true) from rfl]
  simp only [List.mem_cons, List.not_mem_nil, or_false, true_and]
  refine or_congr Iff.rfl (and_congr ?_ Iff.rfl)
  exact not_congr eq_comm

theorem str_asked_end (l : List Tri) (last : Int) (v : Nat) : Asked (strCode l last) v l.length ↔ (v : Int) = last := by
  rw [asked_iff (strCode_last l last)]
  rw [show readsOf (insOf4 18 0 last 0) = [last] from rfl]
  have := str_behind_end l last v
  simp [this]

theorem str_fits {l : List Tri} {last : Int} (hl : ∀ t ∈ l, t.fit) (h0 : 0 ≤ last ∧ last ≤ 7) : Fits (strCode l last) 8 := by
  intro i hi
  unfold strCode at hi
  rcases List.mem_append.1 hi with hi | hi
  · obtain ⟨t, ht, rfl⟩ := List.mem_map.1 hi
    obtain ⟨h1, h2, h3⟩ := hl t ht
    rw [show readsOf (sIns t) = [t.y, t.z] from rfl, show writesOf (sIns t) = (t.x, true) from rfl]
    simp
    omega
  · simp at hi
    subst hi
    rw [show readsOf (insOf4 18 0 last 0) = [last] from rfl, show writesOf (insOf4 18 0 last 0) = (0, false) from rfl]
    simp
    omega

theorem str_plain (l : List Tri) (last : Int) : ∀ i ∈ strCode l last, i.argsV = .slice none 0 0 ∧ i.modeV = .slice none 0 0 ∧ i.args = [] := by
  intro i hi
  unfold strCode at hi
  rcases List.mem_append.1 hi with hi | hi
  · obtain ⟨t, ht, rfl⟩ := List.mem_map.1 hi
    exact ⟨rfl, rfl, rfl⟩
  · simp at hi
    subst hi
    exact ⟨rfl, rfl, rfl⟩

theorem str_sign (l : List Tri) (last : Int) : ∀ i ∈ strCode l last, i.sign.size ≤ 20 := by
  intro i hi
  unfold strCode at hi
  rcases List.mem_append.1 hi with hi | hi
  · obtain ⟨t, ht, rfl⟩ := List.mem_map.1 hi
    show plusS.size ≤ 20
    decide
  · simp at hi
    subst hi
    show ByteArray.empty.size ≤ 20
    decide

/-- An own row of instructions, as cells. -/
theorem insRow_owns {w : World} {base n cap : Nat} {ao : Option Addr} {ins : List Ins} (h : w.ownsRow base 61 13 (.slice ao n cap) n (ins.flatMap fun i => i.cells.toList)) : InsRow w w.heap.size ao ins := by
  intro hne
  have hlen : (ins.flatMap fun i => i.cells.toList).length = ins.length * 13 := by
    have : ∀ l : List Ins, (l.flatMap fun i => i.cells.toList).length = l.length * 13 := by
      intro l
      induction l with
      | nil => rfl
      | cons a l ih => rw [List.flatMap_cons, List.length_append, Ins.cells_len, ih, List.length_cons]; omega
    exact this ins
  have hpos : 0 < ins.length := List.length_pos_iff.2 hne
  rcases h.2 with ⟨_, e2⟩ | ⟨g, cap', cur, e, hg, h3, h4, h5, h6, h7⟩
  · have := h.1; rw [hlen, e2] at this; omega
  · simp only [Value.slice.injEq] at e
    refine ⟨g, 0, e.1, (Array.getElem?_eq_some_iff.1 h3).1, fun i x hx k u hu => ?_⟩
    have hk : k < 13 := (List.getElem?_eq_some_iff.1 hu).1
    have hi : i < ins.length := (List.getElem?_eq_some_iff.1 hx).1
    rw [cell_of_row _ _ _ _ _ _ h3, Nat.zero_add]
    have e2 : (cur.toList.take (n * 13))[i * 13 + k]? = some u := by rw [h7, flat_get x k hk ins i hx]; exact hu
    have hn : n * 13 = ins.length * 13 := by rw [← hlen]; exact h.1.symm
    rw [List.getElem?_take, if_pos (by rw [hn]; omega)] at e2
    simpa using e2

/-- Eight truths. -/
def bools8 (f : Nat → Bool) : Array Value := ((List.range 8).map fun v => Value.bool (f v)).toArray
theorem bools8_get (f : Nat → Bool) {v : Nat} (h : v < 8) : (bools8 f)[v]? = some (.bool (f v)) := by simp [bools8, h]
theorem bools8_set (f : Nat → Bool) (v : Nat) (b : Bool) (h : v < 8) : (bools8 f).setIfInBounds v (.bool b) = bools8 (fun u => if u = v then b else f u) := by
  apply Array.ext_getElem?
  intro u
  rw [Array.getElem?_setIfInBounds]
  by_cases hu : u < 8
  · rw [bools8_get _ hu, bools8_get _ hu]
    by_cases e : v = u
    · subst e; rw [if_pos rfl, if_pos (by simp [bools8]; exact h)]; simp
    · rw [if_neg e, if_neg (fun h => e h.symm)]
  · rw [Array.getElem?_eq_none (by simp [bools8]; omega), Array.getElem?_eq_none (by simp [bools8]; omega), if_neg (by omega)]
theorem bools8_false : Array.replicate 8 (Value.bool false) = bools8 (fun _ => false) := by rfl
end Go.Proofs.Ytpbkkajgcdahcaa
