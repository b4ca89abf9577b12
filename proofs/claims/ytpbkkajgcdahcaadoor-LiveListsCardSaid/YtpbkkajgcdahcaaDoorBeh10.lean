/- The reference's Behind and Table of layer 10. -/
import Derived.Test.YtpbkkajgcdahcaaDoorAhead10
namespace Go.Proofs.YtpbkkajgcdahcaaDoor
open Go.RowKit

def anyIn (T : List Nat) (ys : List Nat) : Bool := ys.any fun y => decide (y ∈ T)
/-- Behind which one of T comes next. -/
def behs (ins : List Ins) (T : List Nat) (j : Nat) : List Nat := (List.range j).filter fun x => anyIn T (nextN ins x)

theorem mem_behs {ins : List Ins} {T : List Nat} {j x : Nat} : x ∈ behs ins T j ↔ x < j ∧ anyIn T (nextN ins x) = true := by
  unfold behs; rw [List.mem_filter, List.mem_range]

/-- The truths, the first j reckoned, the j-th so far b. -/
def part10 (n : Nat) (ins : List Ins) (T : List Nat) (j : Nat) (b : Bool) : Array Value := ((List.range n).map fun x => Value.bool (if x < j then anyIn T (nextN ins x) else if x = j then b else false)).toArray

theorem part10_get {n : Nat} (ins : List Ins) (T : List Nat) (j : Nat) (b : Bool) {x : Nat} (h : x < n) : (part10 n ins T j b)[x]? = some (.bool (if x < j then anyIn T (nextN ins x) else if x = j then b else false)) := by
  simp [part10, h]

theorem part10_size (n : Nat) (ins : List Ins) (T : List Nat) (j : Nat) (b : Bool) : (part10 n ins T j b).size = n := by simp [part10]

theorem part10_set {n : Nat} (ins : List Ins) (T : List Nat) (j : Nat) (b b' : Bool) (h : j < n) : (part10 n ins T j b).setIfInBounds j (.bool b') = part10 n ins T j b' := by
  apply Array.ext_getElem?
  intro x
  rw [Array.getElem?_setIfInBounds]
  by_cases hx : x < n
  · rw [part10_get _ _ _ _ hx, part10_get _ _ _ _ hx]
    by_cases e : j = x
    · subst e; rw [if_pos rfl, if_pos (by rw [part10_size]; exact h)]; simp
    · rw [if_neg e]
      by_cases h2 : x < j
      · rw [if_pos h2, if_pos h2]
      · rw [if_neg h2, if_neg h2, if_neg (fun h => e h.symm), if_neg (fun h => e h.symm)]
  · rw [Array.getElem?_eq_none (by rw [part10_size]; omega), Array.getElem?_eq_none (by rw [part10_size]; omega), if_neg (by omega)]

theorem part10_next (n : Nat) (ins : List Ins) (T : List Nat) (j : Nat) : part10 n ins T j (anyIn T (nextN ins j)) = part10 n ins T (j + 1) false := by
  unfold part10
  congr 1
  apply List.map_congr_left
  intro x _
  congr 1
  by_cases h : x < j
  · rw [if_pos h, if_pos (by omega)]
  · rw [if_neg h]
    by_cases e : x = j
    · rw [if_pos e, if_pos (by omega), e]
    · rw [if_neg e, if_neg (by omega)]; simp

theorem part10_zero (n : Nat) (ins : List Ins) (T : List Nat) : Array.replicate n (Value.bool false) = part10 n ins T 0 false := by
  apply Array.ext_getElem?
  intro x
  by_cases hx : x < n
  · rw [part10_get _ _ _ _ hx]; simp [hx]
  · rw [Array.getElem?_eq_none (by simp; omega), Array.getElem?_eq_none (by rw [part10_size]; omega)]

theorem part10_all (n : Nat) (ins : List Ins) (T : List Nat) : part10 n ins T n false = seenCells n (behs ins T n) := by
  apply Array.ext_getElem?
  intro x
  by_cases hx : x < n
  · rw [part10_get _ _ _ _ hx, seenCells_get _ hx, if_pos hx]
    congr 2
    rw [Bool.eq_iff_iff, decide_eq_true_eq, mem_behs]
    simp [hx]
  · rw [Array.getElem?_eq_none (by rw [part10_size]; omega), Array.getElem?_eq_none (by simp [seenCells]; omega)]

theorem anyIn_snoc (T ys : List Nat) {q y : Nat} (h : ys[q]? = some y) : anyIn T (ys.take (q + 1)) = (anyIn T (ys.take q) || decide (y ∈ T)) := by
  unfold anyIn; exact any_take ys _ h

set_option maxRecDepth 100000 in
set_option maxHeartbeats 8000000 in
theorem behind10_calls (c : Cod) (w : World) (v : Nat) (T : List Nat) (hin : c.inn w) (hargs : ∀ i ∈ c.ins, i.args.length ≤ 40) (hn : c.ins.length ≤ 400) (hT : bfs (succ10 c.ins v) (c.ins.length + 1) (start10 c.ins v c.ins.length) 0 = some T) (hTl : T.length ≤ 90000) :
    Calls Tryd.prog 26 #[.agg c.cells, .int .i64 (v : Int)] w (Truthed w c.ins.length (behs c.ins T c.ins.length)) := by
  have HIN := Lib.hid hin
  obtain ⟨C, hC⟩ : ∃ C, c = C := ⟨_, rfl⟩
  have HC := Lib.hid hC
  have HAH : Hid (∀ W, C.inn W → Calls Tryd.prog 42 #[.agg C.cells, .int .i64 (v : Int)] W (Truthed W C.ins.length T)) := by
    intro W h; rw [← hC] at h ⊢; exact ahead10_calls c W v T h hargs hn hT hTl
  clear hin hargs hT
  obtain ⟨nm, par, varsA, nvars, varsC, rp, rto, rcl, fromA, nfrom, fromC, insA, insC, ins⟩ := c
  simp only at hn
  simp only [Cod.cells]
  obtain ⟨n, hnn⟩ : ∃ n, ins.length = n := ⟨_, rfl⟩
  have HN' := Lib.hid hnn
  have hcc : C.cells = #[.string nm, .int .i64 par, .slice varsA nvars varsC, .bool rp, .string rto, .int .i64 rcl, .slice fromA nfrom fromC, .slice insA n insC] := by rw [← hC, ← hnn]; rfl
  rw [hcc, show C.ins = ins by rw [← hC], hnn] at HAH
  obtain ⟨i0, hi0, hz0, hz1, hz2⟩ := info_parts info_bool
  obtain ⟨N, hN⟩ : ∃ N, w.heap.size = N := ⟨_, rfl⟩
  obtain ⟨W0, hW0⟩ : ∃ W0, w.alloc (.cells #[.string nm, .int .i64 par, .slice varsA nvars varsC, .bool rp, .string rto, .int .i64 rcl, .slice fromA nfrom fromC, .slice insA n insC] 30) = W0 := ⟨_, rfl⟩
  have hb0 : Below N w W0 := by rw [← hW0, ← hN]; exact (Below.refl _ _).alloc (Nat.le_refl _) _
  have hcode : W0.heap[N]? = some (.cells #[.string nm, .int .i64 par, .slice varsA nvars varsC, .bool rp, .string rto, .int .i64 rcl, .slice fromA nfrom fromC, .slice insA n insC] 30 (0, 0)) := by
    rw [← hW0, ← hN]; exact alloc_at _ _
  have hs0 : W0.heap.size = N + 1 := by rw [← hW0]; simp [hN]
  have HK : Hid (∀ W, Below (N + 1) W0 W → (W.cell? ⟨N, 0, none⟩ = some (.string nm) ∧ W.cell? ⟨N, 1, none⟩ = some (.int .i64 par) ∧ W.cell? ⟨N, 2, none⟩ = some (.slice varsA nvars varsC) ∧ W.cell? ⟨N, 3, none⟩ = some (.bool rp) ∧ W.cell? ⟨N, 4, none⟩ = some (.string rto) ∧ W.cell? ⟨N, 5, none⟩ = some (.int .i64 rcl) ∧ W.cell? ⟨N, 6, none⟩ = some (.slice fromA nfrom fromC) ∧ W.cell? ⟨N, 7, none⟩ = some (.slice insA n insC)) ∧
      C.inn W ∧ Below N w W ∧ N + 1 ≤ W.heap.size) := by
    intro W hx
    have h4 := (hx.block N (by omega)).trans hcode
    have hb : Below N w W := hb0.trans (hx.mono (by omega))
    refine ⟨⟨?_, ?_, ?_, ?_, ?_, ?_, ?_, ?_⟩, by rw [← hC]; exact HIN.out.below (by rw [hN]; exact hb), hb, by have := hx.size; omega⟩ <;> (rw [cell_of_row _ _ _ _ _ _ h4]; rfl)
  have HNX : Hid (∀ W x, Below (N + 1) W0 W → x < n → Calls Tryd.prog 43 #[.agg #[.string nm, .int .i64 par, .slice varsA nvars varsC, .bool rp, .string rto, .int .i64 rcl, .slice fromA nfrom fromC, .slice insA n insC], .int .i64 (x : Int)] W (GivesI W (ints (nextN ins x)))) := by
    intro W x hb hx
    have h1 := (HK.out W hb).2.1.row
    have h2 := ref08_nextN C x W h1 (by rw [← hC]; show x < ins.length; omega) (by rw [← hC]; show ins.length ≤ 90000; omega)
    rw [hcc, show C.ins = ins by rw [← hC]] at h2
    exact h2
  have HW0 := Lib.hid hW0
  have HS0 := Lib.hid hs0
  have hsl : N + 1 ≤ W0.heap.size := by omega
  obtain ⟨⟨k0, k1, k2, k3, k4, k5, k6, k7⟩, hin0, _, _⟩ := HK.out W0 (Below.refl _ _)
  have HA0 := Lib.hid (HAH.out W0 hin0)
  rw [hnn]
  rw [hnn] at hn
  clear hcode hs0 hW0 hnn hb0 hcc hC hin0 HIN HAH
  go_enter Tryd.func26, Tryd.ntmps26
  go_upto_region 2 with (go_at_call 42; rw [HW0.out]; refine HA0.out.mono ?_; rintro e w2 ⟨ba, rfl, hba, hrow, hbel⟩)
  have hb2 : Below (N + 1) W0 w2 := by rw [HS0.out] at hbel; exact hbel
  obtain ⟨⟨k0, k1, k2, k3, k4, k5, k6, k7⟩, _, _, hsz2⟩ := HK.out w2 hb2
  have hbal : ba < w2.heap.size := (Array.getElem?_eq_some_iff.1 hrow).1
  rw [HS0.out] at hba
  have HROW := Lib.hid hrow
  have HB2 := Lib.hid hb2
  clear hbel hrow hb2
  go_wp2_with (at_make; refine wpList_make_at rfl (.tmp 15) (.tmp 15) 67 rfl 4 i0 (.bool false) Tryd.underlying67 hi0 hz0 hz1 rfl .i64 .i64 _ _ n rfl rfl rfl rfl (by rw [hz2]; omega) (by unfold maxLen; omega) ?_)
  obtain ⟨O, hO⟩ : ∃ O, w2.heap.size = O := ⟨_, rfl⟩
  obtain ⟨W3, hW3⟩ : ∃ W3, w2.alloc (.cells (Array.replicate n (.bool false)) 4) = W3 := ⟨_, rfl⟩
  have hx3 : Ext (fun _ => False) w2 W3 := by rw [← hW3]; exact (Ext.refl _ _).alloc _
  have hr3 : W3.heap[O]? = some (.cells (part10 n ins T 0 false) 4 (0, 0)) := by rw [← hW3, ← hO, ← part10_zero]; exact alloc_at _ _
  have ha3 : W3.heap[ba]? = some (.cells (seenCells n T) 4 (0, 0)) := hx3.heap HROW.out (fun h => h)
  have hb3 : Below (N + 1) W0 W3 := HB2.out.trans ((hx3.below (Nat.le_refl _) (fun _ h => h.elim)).mono hsz2)
  have hs3 : W3.heap.size = O + 1 := by rw [← hW3]; simp [hO]
  rw [hW3, hO]
  have HR3 := Lib.hid hr3
  have HA3 := Lib.hid ha3
  have HB3 := Lib.hid hb3
  clear hW3 hx3 hr3 ha3 hb3 k0 k1 k2 k3 k4 k5 k6 k7 HROW HB2 hi0 hz0 hz1 hz2
  rw [hO] at hbal hsz2
  go_loopw [7] (fun c wr => ∃ j : Nat, j ≤ n ∧ c = .int .i64 (j : Int) ∧ wr.heap[O]? = some (.cells (part10 n ins T j false) 4 (0, 0)) ∧ Ext (· = O) W3 wr) (fun c _ => n - (intOf c).toNat)
  case atStart => exact ⟨0, Nat.zero_le _, rfl, HR3.out, Ext.refl _ _⟩
  case round =>
    obtain ⟨j, hj, rfl, hrow, hx⟩ := hrel
    have hbr : Below (N + 1) W0 wr := HB3.out.trans (hx.below (B := N + 1) (by omega) (fun k hk => by omega))
    obtain ⟨⟨k0, k1, k2, k3, k4, k5, k6, k7⟩, _, hbN, _⟩ := HK.out wr hbr
    by_cases hjl : j < n
    · have HNJ := HNX.out wr j hbr hjl
      obtain ⟨L, hL⟩ : ∃ L, nextN ins j = L := ⟨_, rfl⟩
      have HL := Lib.hid hL
      rw [hL] at HNJ
      have hil : (ints L).length = L.length := by simp [ints]
      have HNJ2 : Hid (Calls Tryd.prog 43 #[.agg #[.string nm, .int .i64 par, .slice varsA nvars varsC, .bool rp, .string rto, .int .i64 rcl, .slice fromA nfrom fromC, .slice insA n insC], .int .i64 (j : Int)] wr fun e w' => ∃ ao cap, e = .returned (.slice ao L.length cap) ∧ OwnI w' wr.heap.size (.slice ao L.length cap) (ints L) ∧ Below wr.heap.size wr w') := by
        unfold GivesI at HNJ; rw [hil] at HNJ; exact HNJ
      have hLn : ∀ y ∈ L, y < n := fun y hy => by rw [← HL.out] at hy; have := nextN_lt hy; have := HN'.out; omega
      have HLN := Lib.hid hLn
      have hLl : L.length ≤ 2 := by rw [← HL.out]; exact nextN_length ins j
      have HROW := Lib.hid hrow
      have HX := Lib.hid hx
      have hjI : (j : Int) < (n : Int) := by omega
      have hszr := hx.size
      clear HNJ hL hLn hrow hx hbr hbN hil
      go_wp2_with (go_at_call 43; refine HNJ2.out.mono ?_; rintro e w4 ⟨ao4, cap4, rfl, hown4, hb4⟩)
      have hx4 : Ext (fun _ => False) wr w4 := Ext.of_below_size hb4
      obtain ⟨B4, hB4⟩ : ∃ B4, wr.heap.size = B4 := ⟨_, rfl⟩
      rw [hB4] at hown4
      have HO4 := Lib.hid hown4
      have HR4 : Hid (w4.heap[O]? = some (.cells (part10 n ins T j (anyIn T (L.take 0))) 4 (0, 0))) := by
        have := hx4.heap HROW.out (fun h => h)
        unfold Hid; simpa [anyIn] using this
      have HX4 : Hid (Ext (· = O) W3 w4) := HX.out.trans hx4 (fun _ h => h.elim)
      have hsz4 := hb4.size
      clear hown4 hb4 hx4 HROW HX k0 k1 k2 k3 k4 k5 k6 k7
      go_loopw [9] (fun c wr2 => ∃ q : Nat, q ≤ L.length ∧ c = .int .i64 (q : Int) ∧ wr2.heap[O]? = some (.cells (part10 n ins T j (anyIn T (L.take q))) 4 (0, 0)) ∧ Ext (· = O) w4 wr2) (fun c _ => L.length - (intOf c).toNat)
      case atStart => exact ⟨0, Nat.zero_le _, rfl, HR4.out, Ext.refl _ _⟩
      case round =>
        obtain ⟨q, hq, rfl, hrow, hx⟩ := hrel
        by_cases hql : q < L.length
        · obtain ⟨y, hy⟩ : ∃ y, L[q]? = some y := ⟨_, List.getElem?_eq_getElem hql⟩
          have hyn := HLN.out y (List.mem_of_getElem? hy)
          have hil : (ints L).length = L.length := by simp [ints]
          have hol : OwnI w4 B4 (.slice ao4 (ints L).length cap4) (ints L) := by rw [hil]; exact HO4.out
          obtain ⟨g2, rfl, hg2a, hg2b, hgc⟩ := hol.shape (by rw [hil]; omega)
          have hcy : wr.cell? ⟨g2, q, none⟩ = some (.int .i64 (y : Int)) := by rw [hx.cell (a := ⟨g2, q, none⟩) hg2b (by show ¬ g2 = O; omega)]; exact hgc q y (by simp [ints, hy])
          have hxa : Ext (· = O) W3 wr := HX4.out.trans hx (fun _ h => .inl h)
          have ca : wr.cell? ⟨ba, y, none⟩ = some (.bool (decide (y ∈ T))) := by rw [cell_of_row _ _ _ _ _ _ (hxa.heap HA3.out (by omega)), seenCells_get _ hyn]
          have c1 : wr.cell? ⟨O, j, none⟩ = some (.bool (anyIn T (L.take q))) := by rw [cell_of_row _ _ _ _ _ _ hrow, part10_get _ _ _ _ hjl]; simp
          have c2 : wr.frozen? ⟨O, j, none⟩ = false := frozen_of_row _ _ _ _ _ hrow
          have hyI : (y : Int) < (n : Int) := by omega
          have hqI : (q : Int) < (L.length : Int) := by omega
          have HN2 : Hid (∀ b, b = anyIn T (L.take (q + 1)) → (wr.setCell ⟨O, j, none⟩ (.bool b)).heap[O]? = some (.cells (part10 n ins T j (anyIn T (L.take (q + 1)))) 4 (0, 0)) ∧ Ext (· = O) w4 (wr.setCell ⟨O, j, none⟩ (.bool b))) := by
            rintro b rfl
            exact ⟨by rw [heap_setCell_same _ _ _ _ _ _ hrow, part10_set _ _ _ _ _ hjl], hx.trans (Ext.set1 _ _ _ _) (fun _ h => .inl h)⟩
          have hsn := anyIn_snoc T L hy
          clear hrow hx hgc hol hil hy hxa
          obtain ⟨s, hs⟩ : ∃ s, anyIn T (L.take q) = s := ⟨_, rfl⟩
          rw [hs] at hsn c1
          have HSN := Lib.hid hsn
          clear hsn hs
          cases s with
          | true =>
            have HR := Lib.hid (HN2.out true (by rw [HSN.out]; rfl))
            clear HN2
            go_wp2
            exact ⟨⟨q + 1, by omega, by simp, HR.out.1, HR.out.2⟩, by simp [intOf]; omega⟩
          | false =>
            have HR := Lib.hid (HN2.out (decide (y ∈ T)) (by rw [HSN.out]; simp))
            clear HN2
            go_wp2
            exact ⟨⟨q + 1, by omega, by simp, HR.out.1, HR.out.2⟩, by simp [intOf]; omega⟩
        · have hqe : q = L.length := by omega
          subst hqe
          rw [List.take_length, ← HL.out, part10_next] at hrow
          have HR : Hid (wr.heap[O]? = some (.cells (part10 n ins T (j + 1) false) 4 (0, 0)) ∧ Ext (· = O) W3 wr) := ⟨hrow, HX4.out.trans hx (fun _ h => .inl h)⟩
          clear hrow hx
          go_wp2
          exact ⟨⟨j + 1, by omega, by simp, HR.out.1, HR.out.2⟩, by simp [intOf]; omega⟩
    · have hje : j = n := by omega
      subst hje
      rw [part10_all] at hrow
      have HP : Hid (Truthed w j (behs ins T j) (.returned (.slice (some ⟨O, 0, none⟩) j j)) wr) := ⟨O, rfl, by omega, hrow, by rw [hN]; exact hbN⟩
      clear hrow hx hbr hbN
      go_wp2
      go_ret
      exact HP.out
end Go.Proofs.YtpbkkajgcdahcaaDoor
