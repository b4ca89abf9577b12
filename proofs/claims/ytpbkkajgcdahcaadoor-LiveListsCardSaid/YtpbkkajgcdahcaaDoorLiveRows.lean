/- Empty rows of words. -/
import Derived.Test.YtpbkkajgcdahcaaDoorCount
namespace Go.Proofs.YtpbkkajgcdahcaaDoor
open Go.RowKit

theorem info_word : (Tryd.prog.info? 79).map (fun i => (i.zero, i.size, i.bytes)) = some (some (.int .u64 0), 1, 8) := by kernel_rfl
theorem info_liveRow : (Tryd.prog.info? 65).map (fun i => (i.zero, i.size, i.bytes)) = some (some (.slice none 0 0), 1, 24) := by kernel_rfl

/-- n slices of k words each, the first j laid, one block behind the other. -/
def rowVals (n k R j : Nat) : Array Value := ((List.range n).map fun i => if i < j then Value.slice (some ⟨R + 1 + i, 0, none⟩) k k else .slice none 0 0).toArray

theorem wordCells_zero (n : Nat) : (List.replicate n (Value.int .u64 0)).toArray = wordCells n (fun _ => 0) := by
  apply Array.ext_getElem?
  intro j
  by_cases hj : j < n
  · rw [wordCells_get _ hj]; simp [hj]
  · rw [Array.getElem?_eq_none (by simp; omega), Array.getElem?_eq_none (by rw [wordCells_size]; omega)]

theorem rowVals_size (n k R j : Nat) : (rowVals n k R j).size = n := by simp [rowVals]

theorem rowVals_get {n i : Nat} (k R j : Nat) (h : i < n) : (rowVals n k R j)[i]? = some (if i < j then Value.slice (some ⟨R + 1 + i, 0, none⟩) k k else .slice none 0 0) := by
  simp [rowVals, h]

theorem rowVals_set {n k R j : Nat} (hj : j < n) : (rowVals n k R j).setIfInBounds j (.slice (some ⟨R + 1 + j, 0, none⟩) k k) = rowVals n k R (j + 1) := by
  apply Array.ext_getElem?
  intro i
  rw [Array.getElem?_setIfInBounds]
  by_cases hi : i < n
  · rw [rowVals_get _ _ _ hi, rowVals_get _ _ _ hi]
    by_cases h : j = i
    · subst h; simp [rowVals_size, hj]
    · rw [if_neg h]
      by_cases h2 : i < j
      · rw [if_pos h2, if_pos (by omega)]
      · rw [if_neg h2, if_neg (by omega)]
  · rw [Array.getElem?_eq_none (by rw [rowVals_size]; omega), Array.getElem?_eq_none (by rw [rowVals_size]; omega), if_neg (by omega)]

def RowsL (w : World) (n k R : Nat) (c : Value) (wr : World) : Prop :=
  ∃ j : Nat, j ≤ n ∧ c = .int .i64 (j : Int) ∧ wr.heap.size = R + 1 + j ∧ wr.heap[R]? = some (.cells (rowVals n k R j) 65 (0, 0)) ∧ (∀ i, i < j → wr.heap[R + 1 + i]? = some (.cells (wordCells k (fun _ => 0)) 79 (0, 0))) ∧ Below R w wr

/-- Behind rows: n rows of k words, all empty. -/
def RowsMade (w : World) (n k R : Nat) (e : Ending) (w' : World) : Prop :=
  e = .returned (.slice (some ⟨R, 0, none⟩) n n) ∧ w'.heap[R]? = some (.cells (rowVals n k R n) 65 (0, 0)) ∧ (∀ i, i < n → w'.heap[R + 1 + i]? = some (.cells (wordCells k (fun _ => 0)) 79 (0, 0))) ∧ w'.heap.size = R + 1 + n ∧ Below R w w'

set_option maxRecDepth 100000 in
set_option maxHeartbeats 2000000 in
theorem liveRows_calls (w : World) (n width : Nat) (hn : n ≤ 90000) (hk : width ≤ 90000) :
    Calls Tryd.prog 22 #[.int .i64 (n : Int), .int .i64 (width : Int)] w (RowsMade w n ((width + 63) / 64) w.heap.size) := by
  obtain ⟨i0, hi, hz0, hz1, hz2⟩ := info_parts info_liveRow
  obtain ⟨j0, hj, hj0, hj1, hj2⟩ := info_parts info_word
  obtain ⟨R, hR⟩ : ∃ R, w.heap.size = R := ⟨_, rfl⟩
  go_enter Tryd.func22, Tryd.ntmps22
  go_wp2_with (at_make; refine wpList_make_at rfl (.tmp 7) (.tmp 7) 57 rfl 65 i0 (.slice none 0 0) Tryd.underlying57 hi hz0 hz1 rfl .i64 .i64 _ _ n rfl rfl rfl rfl (by rw [hz2]; omega) (by unfold maxLen; omega) ?_)
  obtain ⟨W1, hW1⟩ : ∃ W1, w.alloc (.cells (Array.replicate n (Value.slice none 0 0)) 65) = W1 := ⟨_, rfl⟩
  have hb1 : Below R w W1 := by rw [← hW1, ← hR]; exact (Below.refl _ _).alloc (Nat.le_refl _) _
  have hs1 : W1.heap.size = R + 1 := by rw [← hW1]; simp [hR]
  have hr1 : W1.heap[R]? = some (.cells (rowVals n ((width + 63) / 64) R 0) 65 (0, 0)) := by
    have e : Array.replicate n (Value.slice none 0 0) = rowVals n ((width + 63) / 64) R 0 := by
      apply Array.ext_getElem?
      intro i
      by_cases hi : i < n
      · rw [rowVals_get _ _ _ hi]; simp [hi]
      · rw [Array.getElem?_eq_none (by simp; omega), Array.getElem?_eq_none (by rw [rowVals_size]; omega)]
    rw [← e, ← hW1, ← hR]; exact alloc_at _ _
  rw [hW1]
  try rw [hR]
  have H0 : Hid (RowsL w n ((width + 63) / 64) R (.int .i64 0) W1) := ⟨0, Nat.zero_le _, rfl, by omega, hr1, fun i h => by omega, hb1⟩
  clear hW1 hb1 hs1 hr1
  go_loopw [11] (fun c wr => RowsL w n ((width + 63) / 64) R c wr) (fun c _ => n - (intOf c).toNat)
  case atStart => exact H0.out
  case round =>
    obtain ⟨j, hjn, rfl, hs, hr, hall, hb⟩ := hrel
    by_cases hjl : j < n
    · obtain ⟨k, hk⟩ : ∃ k, k = (width + 63) / 64 := ⟨_, rfl⟩
      have hkI : ((width : Int) + 63) / 64 = (k : Int) := by omega
      have hkb : k ≤ 2000 := by omega
      have HKI := Lib.hid hkI
      rw [← hk] at hr hall
      have c1 : wr.cell? ⟨R, j, none⟩ = some (.slice none 0 0) := by rw [cell_of_row _ _ _ _ _ _ hr, rowVals_get _ _ _ hjl]; simp
      have c2 : wr.frozen? ⟨R, j, none⟩ = false := frozen_of_row _ _ _ _ _ hr
      have hjI : (j : Int) < (n : Int) := by omega
      have hRlt : R < wr.heap.size := by omega
      have HS : Hid (RowsL w n ((width + 63) / 64) R (.int .i64 ((j : Int) + 1)) ((wr.setCell ⟨R, j, none⟩ (.slice (some ⟨wr.heap.size, 0, none⟩) k k)).alloc (.cells (Array.replicate k (Value.int .u64 0)) 79))) := by
        rw [← hk]
        have hxs : Ext (· = R) wr (wr.setCell ⟨R, j, none⟩ (.slice (some ⟨wr.heap.size, 0, none⟩) k k)) := Ext.set1 _ _ _ _
        have hxa : Ext (fun _ => False) (wr.setCell ⟨R, j, none⟩ (.slice (some ⟨wr.heap.size, 0, none⟩) k k)) ((wr.setCell ⟨R, j, none⟩ (.slice (some ⟨wr.heap.size, 0, none⟩) k k)).alloc (.cells (Array.replicate k (Value.int .u64 0)) 79)) := (Ext.refl _ _).alloc _
        refine ⟨j + 1, by omega, by simp, by rw [World.size_alloc, World.size_setCell]; omega, ?_, fun i hi => ?_, ?_⟩
        · refine hxa.heap ?_ (fun h => h)
          rw [heap_setCell_same _ _ _ _ _ _ hr, hs, rowVals_set hjl]
        · by_cases hij : i < j
          · exact hxa.heap (hxs.heap (hall i hij) (by omega)) (fun h => h)
          · have : i = j := by omega
            subst this
            have h2 := alloc_at (wr.setCell ⟨R, i, none⟩ (.slice (some ⟨wr.heap.size, 0, none⟩) k k)) (.cells (Array.replicate k (Value.int .u64 0)) 79)
            rw [World.size_setCell, hs] at h2
            rw [← wordCells_zero, List.toArray_replicate, ← h2, hs]
        · exact (hb.setCell (by show R ≤ R; omega) _).alloc (by rw [World.size_setCell]; omega) _
      clear hr hall hb hk hkI hs
      go_wp2_with (at_make; refine wpList_make_at rfl (.tmp 18) (.tmp 18) 65 rfl 79 j0 (.int .u64 0) Tryd.underlying65 hj hj0 hj1 rfl .i64 .i64 _ _ k rfl rfl HKI.out HKI.out (by rw [hj2]; omega) (by unfold maxLen; omega) ?_)
      exact ⟨HS.out, by simp [intOf]; omega⟩
    · have hje : j = n := by omega
      subst hje
      have HP : Hid (RowsMade w j ((width + 63) / 64) R (.returned (.slice (some ⟨R, 0, none⟩) j j)) wr) := ⟨rfl, hr, hall, hs, hb⟩
      clear hr hall hb hs
      go_wp2
      go_ret
      first | exact HP.out | (rw [hR]; exact HP.out)
end Go.Proofs.YtpbkkajgcdahcaaDoor
