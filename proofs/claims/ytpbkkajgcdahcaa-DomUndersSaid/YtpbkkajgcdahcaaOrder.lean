/- The order of a code's instructions. -/
import Derived.Test.YtpbkkajgcdahcaaWalk
import Derived.Test.YtpbkkajgcdahcaaRev
import Derived.Laws.IdiomCopy
namespace Go.Proofs.Ytpbkkajgcdahcaa
open Go.RowKit

/-! ### Cells of a row, one after the other -/

def setL (cur : Array Value) : Nat → List Value → Array Value
  | _, [] => cur
  | o, v :: r => setL (cur.setIfInBounds o v) (o + 1) r

theorem setL_size : ∀ (vs : List Value) (o : Nat) (cur : Array Value), (setL cur o vs).size = cur.size
  | [], _, _ => rfl
  | v :: r, o, cur => by rw [setL, setL_size r]; simp

theorem setL_get : ∀ (vs : List Value) (o : Nat) (cur : Array Value) (i : Nat), o + vs.length ≤ cur.size → (setL cur o vs)[i]? = if o ≤ i ∧ i < o + vs.length then vs[i - o]? else cur[i]?
  | [], o, cur, i, _ => by simp [setL]; omega
  | v :: r, o, cur, i, h => by
    simp at h
    rw [setL, setL_get r (o + 1) _ i (by simp; omega), Array.getElem?_setIfInBounds]
    by_cases h1 : o + 1 ≤ i ∧ i < o + 1 + r.length
    · rw [if_pos h1, if_pos (by simp; omega)]
      have : i - o = (i - (o + 1)) + 1 := by omega
      rw [this]; simp
    · rw [if_neg h1]
      by_cases h2 : o = i
      · subst h2; rw [if_pos rfl, if_pos (by omega), if_pos (by simp)]; simp
      · rw [if_neg h2, if_neg (by simp; omega)]

theorem heap_setCells (b : Nat) : ∀ (vs : List Value) (o : Nat) (w : World) (cur : Array Value) (t : TypeId), w.heap[b]? = some (.cells cur t (0, 0)) → (w.setCells b o vs).heap[b]? = some (.cells (setL cur o vs) t (0, 0))
  | [], _, _, _, _, h => h
  | v :: r, o, w, cur, t, h => heap_setCells b r (o + 1) _ _ t (heap_setCell_same _ _ _ _ _ _ h)

theorem Ext.setCells (b : Nat) : ∀ (vs : List Value) (o : Nat) (w : World), Ext (· = b) w (w.setCells b o vs)
  | [], _, _ => Ext.refl _ _
  | v :: r, o, w => (Ext.set1 w b o v).trans (Ext.setCells b r (o + 1) _) (fun _ h => .inl h)

/-- slices.Reverse of what is owned. -/
theorem reverse_own (w : World) (base n cap : Nat) (ao : Option Addr) (xs : List Int) (h : OwnI w base (.slice ao xs.length cap) xs) (hn : xs.length ≤ 90000) :
    Calls Try.prog 55 #[.slice ao xs.length cap] w fun e w' => e = .returned (.tuple #[]) ∧ OwnI w' base (.slice ao xs.length cap) xs.reverse ∧ Below base w w' := by
  by_cases hne : 0 < xs.length
  · rcases h.2 with ⟨h1, h2⟩ | ⟨g, cap', cur, h1, h2, h3, h4, h5, h6, h7⟩
    · omega
    · simp only [Value.slice.injEq] at h1
      obtain ⟨rfl, _, rfl⟩ := h1
      have hc : ∀ j, j < xs.length → w.cell? ⟨g, 0 + j, none⟩ = some (.int .i64 (xs.getD j 0)) := by
        intro j hj
        rw [Nat.zero_add, cell_of_row _ _ _ _ _ _ h3]
        have e : (cur.toList.take (xs.length * 1))[j]? = some (.int .i64 (xs.getD j 0)) := by rw [h7]; simp [hj]
        rw [List.getElem?_take, if_pos (by omega)] at e
        simpa using e
      refine (rev_cells g 0 xs.length cap xs w (Nat.le_refl _) (by omega) hc (fun j _ => frozen_of_row _ _ _ _ _ h3)).mono ?_
      rintro e w' ⟨rfl, q, rfl⟩
      rw [List.take_length]
      have hlv : (xs.reverse.map (Value.int .i64)).length = xs.length := by simp
      refine ⟨rfl, ⟨by simp, .inr ⟨g, cap, _, by simp, h2, heap_setCells g _ 0 (w.drewN q) cur _ h3, by simpa using h4, h5, by rw [setL_size]; exact h6, ?_⟩⟩, ?_⟩
      · apply List.ext_getElem?
        intro i
        simp only [List.length_reverse]
        rw [List.getElem?_take]
        have q1 := setL_get (xs.reverse.map (Value.int .i64)) 0 cur i (by rw [hlv]; omega)
        by_cases hi : i < xs.length * 1
        · rw [if_pos hi, Array.getElem?_toList, q1, if_pos (by rw [hlv]; omega)]; simp
        · rw [if_neg hi, List.getElem?_eq_none (by simp; omega)]
      · have := ((Ext.refl (· = g) w).drewN q).trans (Ext.setCells g (xs.reverse.map (Value.int .i64)) 0 (w.drewN q)) (fun _ h => .inl h)
        have hg : g < w.heap.size := (Array.getElem?_eq_some_iff.1 h3).1
        exact this.below (by omega) (by rintro k rfl; exact h2)
  · have hx : xs = [] := List.eq_nil_of_length_eq_zero (by omega)
    subst hx
    refine (rev_empty ao cap w).mono ?_
    rintro e w' ⟨rfl, rfl⟩
    exact ⟨rfl, h, Below.refl _ _⟩

/-! ### What is left, row by row -/

/-- The result's variable holds what was left. -/
def OrdI (N : Nat) (l : List Nat) (C : Nat → Prop) (W : World) : Prop :=
  ∃ v, W.heap[N + 1]? = some (.cells #[v] 27 (0, 0)) ∧ OwnI W (N + 2) v (ints l) ∧ ∀ k, C k ↔ k = N + 1 ∨ v.ownBlock = some k

theorem order1_meets (x : Nat) (W : World) {R : World → Prop} (h : R W) : Meets Try.prog (.func (.func 53) #[] #[]) #[.int .i64 (x : Int)] W fun v W' => v = .bool true ∧ R W' := by
  refine meets_of_calls Try.func53 (by rfl) rfl ?_
  go_enter Try.func53, Try.ntmps53
  go_wp2
  go_ret
  exact ⟨_, rfl, rfl, h⟩

set_option maxRecDepth 100000 in
set_option maxHeartbeats 1000000 in
theorem order2_meets (x N : Nat) (l : List Nat) (C : Nat → Prop) (W : World) (h : OrdI N l C W) (hl : l.length ≤ 90000) : Meets Try.prog (.func (.func 54) #[] #[.pointer (some ⟨N + 1, 0, none⟩)]) #[.int .i64 (x : Int)] W
    fun _ W' => ∃ C' : Nat → Prop, (∀ k, C' k → C k ∨ W.heap.size ≤ k) ∧ OrdI N (l ++ [x]) C' W' ∧ Ext C W W' := by
  refine meets_of_calls Try.func54 (by rfl) rfl ?_
  obtain ⟨v, h1, h2, h3⟩ := h
  have hN : N + 1 < W.heap.size := (Array.getElem?_eq_some_iff.1 h1).1
  have hc : W.cell? ⟨N + 1, 0, none⟩ = some v := by rw [cell_of_row _ _ _ _ _ _ h1]; rfl
  have hf : W.frozen? ⟨N + 1, 0, none⟩ = false := frozen_of_row _ _ _ _ _ h1
  have hne : v.ownBlock ≠ some (N + 1) := fun e => by have := (h2.lt _ e).1; omega
  have hll : (ints l).length = l.length := by simp [ints]
  obtain ⟨i0, hi, hz0, hz1, hz2⟩ := info_parts info_int
  have H1 := Lib.hid h1
  have H3 := Lib.hid h3
  have H2 := Lib.hid h2
  clear h1 h2 h3
  show Calls _ _ #[.int .i64 (x : Int), .pointer (some ⟨N + 1, 0, none⟩)] _ _
  go_enter Try.func54, Try.ntmps54
  go_wp2_with (at_builtin; refine wpList_append_lies _ rfl _ _ 27 rfl (N + 2) 3 i0 (.int .i64 0) 1 8 Try.underlying27 hi hz0 hz1 hz2 rfl (by decide) v (ints l).length _ rfl (ownsRow_below H2.out ((Below.refl W.heap.size W).alloc (Nat.le_refl _) _)) ⟨W.heap.size, 0, none⟩ 1 1 [.int .i64 (x : Int)] rfl rfl (cells_new _ _ _) (by simp [Value.oneCell']) (by decide) ?c1 ?c2 ?c3 _ rfl ?_)
  case c1 => unfold maxLen; omega
  case c2 => omega
  case c3 => rw [World.size_alloc]; omega
  intro g cap w2 hown hgrow hat hlt
  have hg1 : Ext (fun k => v.ownBlock = some k) W w2 := ((Ext.refl _ W).alloc _).trans (Ext.of_grown (M := fun k => v.ownBlock = some k) hgrow (fun k hk => .inl hk)) (fun j hj => .inl hj)
  have hr2 : w2.heap[N + 1]? = some (.cells #[v] 27 (0, 0)) := hg1.heap H1.out hne
  have hc2 : w2.cell? ⟨N + 1, 0, none⟩ = some v := by rw [cell_of_row _ _ _ _ _ _ hr2]; rfl
  have hf2 : w2.frozen? ⟨N + 1, 0, none⟩ = false := frozen_of_row _ _ _ _ _ hr2
  have HP : Hid (∃ C' : Nat → Prop, (∀ k, C' k → C k ∨ W.heap.size ≤ k) ∧ OrdI N (l ++ [x]) C' (w2.setCell ⟨N + 1, 0, none⟩ (.slice (some ⟨g, 0, none⟩) (l.length + 1) cap)) ∧ Ext C W (w2.setCell ⟨N + 1, 0, none⟩ (.slice (some ⟨g, 0, none⟩) (l.length + 1) cap))) := by
    have hxx : Ext C W (w2.setCell ⟨N + 1, 0, none⟩ (.slice (some ⟨g, 0, none⟩) (l.length + 1) cap)) :=
      (hg1.mono fun k hk => (H3.out k).2 (.inr hk)).setCell (a := ⟨N + 1, 0, none⟩) (.inl ((H3.out (N + 1)).2 (.inl rfl))) _
    refine ⟨fun k => k = N + 1 ∨ k = g, ?_, ⟨_, heap_setCell_same _ _ _ _ _ _ hr2, ?_, fun k => by simp [Value.ownBlock, eq_comm]⟩, hxx⟩
    · rintro k (rfl | rfl)
      · exact .inl ((H3.out _).2 (.inl rfl))
      · rcases hat with e | e
        · exact .inl ((H3.out _).2 (.inr e))
        · right; rw [e]; simp
    · have := OwnI.app (xs := ints l) (z := (x : Int)) (by rw [hll]; exact hown)
      have hgN : N + 2 ≤ g := (hown.lt g rfl).1
      have e : ints (l ++ [x]) = ints l ++ [(x : Int)] := by simp [ints]
      rw [e]
      refine ⟨this.1, ?_⟩
      rcases this.2 with ⟨h', _⟩ | ⟨g', cap', cur, e1, e2, e3, e4⟩
      · simp at h'
      · refine .inr ⟨g', cap', cur, by simpa using e1, e2, ?_, e4⟩
        simp only [Value.slice.injEq, Option.some.injEq, Addr.mk.injEq] at e1
        obtain ⟨⟨rfl, _⟩, _⟩ := e1
        rw [heap_setCell_other _ _ _ _ (by show g ≠ N + 1; omega)]; exact e3
  clear hgrow hat hlt hg1 hr2 hown hi hz0 hz1 hz2
  go_wp2
  ((try simp only [Exit.inBlock, Exit.then]); (try rw [Exit.noGoto_ret]); (first | refine bodyPost_ret (results_none rfl _ _ _) rfl ?_ | refine bodyPost_end (results_none rfl _ _ _) rfl ?_))
  exact ⟨_, rfl, HP.out⟩
end Go.Proofs.Ytpbkkajgcdahcaa
