/- A row of one's own is sorted, and loses its doubles. -/
import Derived.Test.YtbbogkcfngpbbaaCompL
import Derived.Test.YtbbogkcfngpbbaaSortL
import Derived.Test.YtbbogkcfngpbbaaCaM
import Derived.Sort.OwnSortedInts
namespace Go.Proofs.Ytbbogkcfngpbbaa
open Go.RowKit Go.Sort

theorem nums_toNat {l : List Int} (h : ∀ z ∈ l, 0 ≤ z) : nums (l.map Int.toNat) = l := by
  unfold nums
  rw [List.map_map]
  conv => rhs; rw [← List.map_id l]
  exact List.map_congr_left fun z hz => by have := h z hz; simp; omega

theorem nums_pos (l : List Nat) : ∀ z ∈ nums l, 0 ≤ z := by
  intro z hz
  obtain ⟨x, _, rfl⟩ := List.mem_map.1 hz
  exact Int.natCast_nonneg x

theorem sortN_calls (w : World) (v : Value) (xs : List Nat) (hown : w.ownsRow 0 3 1 v xs.length (xs.flatMap encN)) (hl : xs.length ≤ 90000) :
    Calls Try.prog 75 #[v] w fun e w' => e = .returned (.tuple #[]) ∧ ∃ ys : List Nat, nums ys = (nums xs).mergeSort (fun x y => decide (x ≤ y)) ∧ ys.length = xs.length ∧
      Ext (fun k => v.ownBlock = some k) w w' ∧ w'.ownsRow 0 3 1 v ys.length (ys.flatMap encN) := by
  have hnl : (nums xs).length = xs.length := by simp [nums]
  have hml : ((nums xs).mergeSort fun x y => decide (x ≤ y)).length = xs.length := by rw [List.length_mergeSort, hnl]
  have hys : nums (((nums xs).mergeSort fun x y => decide (x ≤ y)).map Int.toNat) = (nums xs).mergeSort (fun x y => decide (x ≤ y)) := nums_toNat fun z hz => nums_pos xs z (List.mem_mergeSort.1 hz)
  rcases hown.2 with ⟨rfl, h0⟩ | ⟨g, cap, cur, rfl, h2, h3, h4, h5, h6, h7⟩
  · have hx : xs = [] := List.eq_nil_of_length_eq_zero h0
    subst hx
    refine (Any.slices_Sort_int_none sort_lays none 0 w).mono ?_
    rintro e w' ⟨he, rfl⟩
    exact ⟨he, [], by simp [nums], rfl, Ext.refl _ _, World.ownsRow_nil _ _ _ _⟩
  · rw [encN_flat, Nat.mul_one] at h7
    have hg : g < w.heap.size := (Array.getElem?_eq_some_iff.1 h3).1
    have h := sort_ints g 0 cap (nums xs) w (holds_of_blockI h3 (by rw [hnl]; exact h7)) hg (by omega)
    rw [hnl] at h
    refine h.mono ?_
    rintro e w' ⟨he, n, os, rfl⟩
    refine ⟨he, _, hys, by rw [List.length_map, hml], Ext.of_grown (grownBy_sortedI _) (fun k hk => .inl (by rw [← hk]; rfl)), ?_⟩
    rw [encN_flat, hys, List.length_map, hml]
    have := ownsRow_sortedI (w := w) (base := 0) (g := g) (cap := cap) (n := n) (os := os) (ss := nums xs) (ts := (nums xs).mergeSort fun x y => decide (x ≤ y)) (by rw [hml, hnl]) (Nat.zero_le _) h3 (by omega) h5 (by rw [h6])
    rw [hnl] at this
    exact this

theorem compact_len (zs : List Int) : (Lib.compact zs).length ≤ zs.length := by
  unfold Lib.compact Lib.compactUpTo
  rw [List.length_map]
  have := List.length_filter_le (Lib.keeps zs.toArray) (List.range zs.toArray.size)
  simpa using this

theorem compN_calls (w : World) (v : Value) (xs : List Nat) (hown : w.ownsRow 0 3 1 v xs.length (xs.flatMap encN)) (hl : xs.length ≤ 90000) :
    Calls Try.prog 53 #[v] w fun e w' => ∃ (v' : Value) (ys : List Nat), e = .returned v' ∧ nums ys = Lib.compact (nums xs) ∧
      Ext (fun k => v.ownBlock = some k) w w' ∧ v'.ownBlock = v.ownBlock ∧ w'.ownsRow 0 3 1 v' ys.length (ys.flatMap encN) := by
  have hnl : (nums xs).length = xs.length := by simp [nums]
  have hcl := compact_len (nums xs)
  have hys : nums ((Lib.compact (nums xs)).map Int.toNat) = Lib.compact (nums xs) := nums_toNat fun z hz => nums_pos xs z (compact_mem.1 hz)
  rcases hown.2 with ⟨rfl, h0⟩ | ⟨g, cap, cur, rfl, h2, h3, h4, h5, h6, h7⟩
  · have hx : xs = [] := List.eq_nil_of_length_eq_zero h0
    subst hx
    refine (comp_empty none 0 w).mono ?_
    rintro e w' ⟨he, rfl⟩
    exact ⟨_, [], he, rfl, Ext.refl _ _, rfl, World.ownsRow_nil _ _ _ _⟩
  · rw [encN_flat, Nat.mul_one] at h7
    have hg : g < w.heap.size := (Array.getElem?_eq_some_iff.1 h3).1
    have h := comp_ints g 0 cap (nums xs) w (holds_of_blockI h3 (by rw [hnl]; exact h7)) (by omega) (by omega)
    rw [hnl] at h
    refine h.mono ?_
    rintro e w' ⟨he, q, rfl⟩
    obtain ⟨zs, hzs⟩ : ∃ zs, Lib.compact (nums xs) ++ List.replicate (xs.length - (Lib.compact (nums xs)).length) 0 = zs := ⟨_, rfl⟩
    have hzl : zs.length = xs.length := by rw [← hzs]; simp; omega
    have hge : putRow (Value.int .i64) (Sort.ahead w q) g 0 zs.toArray = grow (putRow (Value.int .i64) (Sort.ahead w q) g 0 zs.toArray) #[] := by rw [grow_empty]
    rw [hzs, hge]
    refine ⟨_, _, he, hys, Ext.of_grown (grownBy_sortedI _) (fun k hk => .inl (by rw [← hk]; rfl)), rfl, ?_⟩
    rw [encN_flat, hys, List.length_map]
    refine ⟨by simp, .inr ⟨g, cap, _, rfl, Nat.zero_le _, heap_sortedI _ h3, by omega, h5, by simp [putCells, h6], ?_⟩⟩
    rw [Nat.mul_one]
    have h8 := take_putCellsI cur zs (by omega)
    have h9 := congrArg (List.take (Lib.compact (nums xs)).length) h8
    rw [List.take_take, Nat.min_eq_left (by omega)] at h9
    rw [h9, ← List.map_take, ← hzs, List.take_left]
end Go.Proofs.Ytbbogkcfngpbbaa
