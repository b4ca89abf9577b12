/- The reference's table of who dominates whom. -/
import Derived.Test.YtpbkkajgcdahcaaWithout
import Derived.Test.YtpbkkajgcdahcaaDomAl
import Derived.BigRegion
namespace Go.Proofs.Ytpbkkajgcdahcaa
open Go.RowKit

def bCells (n : Nat) (f : Nat → Bool) : Array Value := ((List.range n).map fun i => Value.bool (f i)).toArray

theorem bCells_size (n : Nat) (f : Nat → Bool) : (bCells n f).size = n := by simp [bCells]
theorem bCells_get {n i : Nat} (f : Nat → Bool) (h : i < n) : (bCells n f)[i]? = some (.bool (f i)) := by simp [bCells, h]
theorem bCells_congr {n : Nat} {f g : Nat → Bool} (h : ∀ x, x < n → f x = g x) : bCells n f = bCells n g := by
  apply Array.ext_getElem?
  intro j
  by_cases hj : j < n
  · rw [bCells_get _ hj, bCells_get _ hj, h j hj]
  · rw [Array.getElem?_eq_none (by rw [bCells_size]; omega), Array.getElem?_eq_none (by rw [bCells_size]; omega)]
theorem bCells_set (n i : Nat) (v : Bool) (f : Nat → Bool) : (bCells n f).setIfInBounds i (.bool v) = bCells n (fun x => if x = i then v else f x) := by
  apply Array.ext_getElem?
  intro j
  rw [Array.getElem?_setIfInBounds]
  by_cases hj : j < n
  · rw [bCells_get _ hj, bCells_get _ hj]
    by_cases h : i = j
    · subst h; simp [bCells_size, hj]
    · rw [if_neg h, if_neg (fun e => h e.symm)]
  · have e : ∀ g, (bCells n g)[j]? = none := fun g => Array.getElem?_eq_none (by rw [bCells_size]; omega)
    rw [e, e]
    by_cases h : i = j
    · subst h; rw [if_pos rfl, if_neg (by rw [bCells_size]; omega)]
    · rw [if_neg h]

def sCells (n : Nat) (f : Nat → Value) : Array Value := ((List.range n).map f).toArray
theorem sCells_size (n : Nat) (f : Nat → Value) : (sCells n f).size = n := by simp [sCells]
theorem sCells_get {n i : Nat} (f : Nat → Value) (h : i < n) : (sCells n f)[i]? = some (f i) := by simp [sCells, h]
theorem sCells_set (n i : Nat) (v : Value) (f : Nat → Value) : (sCells n f).setIfInBounds i v = sCells n (fun x => if x = i then v else f x) := by
  apply Array.ext_getElem?
  intro j
  rw [Array.getElem?_setIfInBounds]
  by_cases hj : j < n
  · rw [sCells_get _ hj, sCells_get _ hj]
    by_cases h : i = j
    · subst h; simp [sCells_size, hj]
    · rw [if_neg h, if_neg (fun e => h e.symm)]
  · have e : ∀ g, (sCells n g)[j]? = none := fun g => Array.getElem?_eq_none (by rw [sCells_size]; omega)
    rw [e, e]
    by_cases h : i = j
    · subst h; rw [if_pos rfl, if_neg (by rw [sCells_size]; omega)]
    · rw [if_neg h]
theorem sCells_congr {n : Nat} {f g : Nat → Value} (h : ∀ x, x < n → f x = g x) : sCells n f = sCells n g := by
  apply Array.ext_getElem?
  intro j
  by_cases hj : j < n
  · rw [sCells_get _ hj, sCells_get _ hj, h j hj]
  · rw [Array.getElem?_eq_none (by rw [sCells_size]; omega), Array.getElem?_eq_none (by rw [sCells_size]; omega)]

/-- A table that is being made: the first j rows. -/
structure TabJ (w : World) (R n j : Nat) (bs : Nat → Nat) (f : Nat → Nat → Bool) : Prop where
  rows : w.heap[R]? = some (.cells (sCells n fun a => if a < j then .slice (some ⟨bs a, 0, none⟩) n n else .slice none 0 0) 34 (0, 0))
  row : ∀ a, a < j → R < bs a ∧ w.heap[bs a]? = some (.cells (bCells n (f a)) 4 (0, 0))

theorem TabJ.below {w w' : World} {R n j : Nat} {bs : Nat → Nat} {f : Nat → Nat → Bool} (h : TabJ w R n j bs f) (hb : Below w.heap.size w w') : TabJ w' R n j bs f :=
  ⟨(hb.block R (Array.getElem?_eq_some_iff.1 h.rows).1).trans h.rows, fun a ha => ⟨(h.row a ha).1, (hb.block _ (Array.getElem?_eq_some_iff.1 (h.row a ha).2).1).trans (h.row a ha).2⟩⟩

theorem TabJ.read {w : World} {R n : Nat} {bs : Nat → Nat} {f : Nat → Nat → Bool} (h : TabJ w R n n bs f) {a : Nat} (ha : a < n) : w.cell? ⟨R, a, none⟩ = some (.slice (some ⟨bs a, 0, none⟩) n n) ∧ ∀ b, b < n → w.cell? ⟨bs a, b, none⟩ = some (.bool (f a b)) :=
  ⟨by rw [cell_of_row _ _ _ _ _ _ h.rows, sCells_get _ ha, if_pos ha], fun b hb => by rw [cell_of_row _ _ _ _ _ _ (h.row a ha).2, bCells_get _ hb]⟩

theorem without_T (ins : List Ins) (g : Nat) : ∃ T, (ins = [] ∨ g = 0 → T = []) ∧ (ins ≠ [] → g ≠ 0 → bfs (nextG ins g) (ins.length + 1) [0] 0 = some T) ∧ T.length ≤ ins.length ∧ (ins ≠ [] → ∀ x, x ∈ T ↔ RW (nextN ins) g x) := by
  by_cases h0 : ins = []
  · exact ⟨[], fun _ => rfl, fun h => absurd h0 h, by simp, fun h => absurd h0 h⟩
  · by_cases hg : g = 0
    · refine ⟨[], fun _ => rfl, fun _ h => absurd hg h, by simp, fun _ x => ⟨fun h => by simp at h, fun h => ?_⟩⟩
      exfalso
      induction h with
      | here h => exact h hg
      | step _ _ _ ih => exact ih
    · obtain ⟨T, t1, t2, t3, t4⟩ := bfs_from (succ := nextG ins g) (a := 0) (n := ins.length) (fun x y h => nextG_lt h) (List.length_pos_iff.2 h0)
      refine ⟨T, fun h => h.elim (fun h => absurd h h0) (fun h => absurd h hg), fun _ _ => t1, t3, fun _ x => (t2 x).trans ⟨fun h => ?_, fun h => ?_⟩⟩
      · induction h with
        | here => exact .here hg
        | step _ hy ih =>
          have := List.mem_filter.1 hy
          exact .step ih this.1 (of_decide_eq_true this.2)
      · induction h with
        | here _ => exact .here
        | step _ hv hne ih => exact .step ih (List.mem_filter.2 ⟨hv, decide_eq_true hne⟩)

theorem run_make_bools (n : Nat) (hn : n ≤ 90000) (W : World) : (Instr.makeSlice 34 (.int .i64 (n : Int)) (.int .i64 (n : Int))).run Try.prog W = .ok (.slice (some ⟨W.heap.size, 0, none⟩) n n) (W.alloc (.cells (bCells n (fun _ => false)) 4)) := by
  obtain ⟨i, h2, h3, h4, h5⟩ := info_parts info_bool
  have hr := run_make (P := Try.prog) W 34 4 i (.bool false) Try.underlying34 h2 h3 .i64 .i64 n n (by omega) (Int.le_refl _) (by rw [h5]; omega) (by omega)
  have hzc : (Value.bool false).cells = #[.bool false] := rfl
  simp only [Int.toNat_natCast, h4, hzc, Nat.mul_one] at hr
  have hm : madeCells #[.bool false] n = bCells n (fun _ => false) := by
    apply Array.ext'
    rw [toList_madeCells_one]
    show List.replicate n (Value.bool false) = (List.range n).map (fun _ => Value.bool false)
    rw [List.map_const', List.length_range]
  rw [hm] at hr
  exact hr

theorem info_rowBool : (Try.prog.info? 34).map (fun i => (i.zero, i.size, i.bytes)) = some (some (.slice none 0 0), 1, 24) := by kernel_rfl

theorem run_make_rowsB (n : Nat) (hn : n ≤ 90000) (W : World) : (Instr.makeSlice 50 (.int .i64 (n : Int)) (.int .i64 (n : Int))).run Try.prog W = .ok (.slice (some ⟨W.heap.size, 0, none⟩) n n) (W.alloc (.cells (sCells n (fun _ => .slice none 0 0)) 34)) := by
  obtain ⟨i, h2, h3, h4, h5⟩ := info_parts info_rowBool
  have hr := run_make (P := Try.prog) W 50 34 i (.slice none 0 0) Try.underlying50 h2 h3 .i64 .i64 n n (by omega) (Int.le_refl _) (by rw [h5]; omega) (by omega)
  have hzc : (Value.slice none 0 0).cells = #[.slice none 0 0] := rfl
  simp only [Int.toNat_natCast, h4, hzc, Nat.mul_one] at hr
  have hm : madeCells #[.slice none 0 0] n = sCells n (fun _ => .slice none 0 0) := by
    apply Array.ext'
    rw [toList_madeCells_one]
    show List.replicate n (Value.slice none 0 0) = (List.range n).map (fun _ => Value.slice none 0 0)
    rw [List.map_const', List.length_range]
  rw [hm] at hr
  exact hr

/-- Behind the reference's Table. -/
def Tab9P (ins : List Ins) (q : List Nat) (w : World) (e : Ending) (w' : World) : Prop :=
  ∃ R bs f, e = .returned (.slice (some ⟨R, 0, none⟩) ins.length ins.length) ∧ w.heap.size ≤ R ∧ TabJ w' R ins.length ins.length bs f ∧ (∀ a b, a < ins.length → b < ins.length → (f a b = true ↔ a ∈ q ∧ b ∈ q ∧ ¬ RW (nextN ins) a b)) ∧ Below w.heap.size w w'

set_option maxRecDepth 100000 in
set_option maxHeartbeats 4000000 in
theorem table9_calls (c : Cod) (w : World) (hin : c.inn w) (hfit : c.ins.length ≤ 60) (q : List Nat) (hq : OrdT c.ins q) : Calls Try.prog 31 #[.agg c.cells] w (Tab9P c.ins q w) := by
  obtain ⟨C, hC⟩ : ∃ C, c = C := ⟨_, rfl⟩
  have HC := Lib.hid hC
  have HIN := Lib.hid hin
  clear hin
  obtain ⟨nm, par, varsA, nvars, varsC, rp, rto, rcl, fromA, nfrom, fromC, insA, insC, ins⟩ := c
  simp only at hfit hq
  simp only [Cod.cells]
  obtain ⟨n, hn⟩ : ∃ n, ins.length = n := ⟨_, rfl⟩
  have HN' := Lib.hid hn
  obtain ⟨N, hN⟩ : ∃ N, w.heap.size = N := ⟨_, rfl⟩
  obtain ⟨W1, hW1⟩ : ∃ W1, w.alloc (.cells #[.string nm, .int .i64 par, .slice varsA nvars varsC, .bool rp, .string rto, .int .i64 rcl, .slice fromA nfrom fromC, .slice insA n insC] 30) = W1 := ⟨_, rfl⟩
  have hb1 : Below N w W1 := by rw [← hW1, ← hN]; exact (Below.refl _ _).alloc (Nat.le_refl _) _
  have hs1 : W1.heap.size = N + 1 := by rw [← hW1]; simp [hN]
  have hrow : W1.heap[N]? = some (.cells #[.string nm, .int .i64 par, .slice varsA nvars varsC, .bool rp, .string rto, .int .i64 rcl, .slice fromA nfrom fromC, .slice insA n insC] 30 (0, 0)) := by
    rw [← hW1, ← hN]; exact alloc_at _ _
  have hin1 := HIN.out.below (by rw [hN]; exact hb1)
  have HS : Hid (∀ W, Below (N + 1) W1 W → W.cell? ⟨N, 0, none⟩ = some (.string nm) ∧ W.cell? ⟨N, 1, none⟩ = some (.int .i64 par) ∧ W.cell? ⟨N, 2, none⟩ = some (.slice varsA nvars varsC) ∧ W.cell? ⟨N, 3, none⟩ = some (.bool rp) ∧ W.cell? ⟨N, 4, none⟩ = some (.string rto) ∧ W.cell? ⟨N, 5, none⟩ = some (.int .i64 rcl) ∧ W.cell? ⟨N, 6, none⟩ = some (.slice fromA nfrom fromC) ∧ W.cell? ⟨N, 7, none⟩ = some (.slice insA n insC) ∧ Below (N + 1) W1 W) := by
    intro W hW
    have h4 := (hW.block N (by omega)).trans hrow
    refine ⟨?_, ?_, ?_, ?_, ?_, ?_, ?_, ?_, hW⟩ <;> (rw [cell_of_row _ _ _ _ _ _ h4]; rfl)
  have HK : Hid (∀ W, Below (N + 1) W1 W → C.inn W ∧ Below N w W ∧ N + 1 ≤ W.heap.size) := by
    intro W hW
    exact ⟨by rw [← hC]; exact hin1.below (by rw [hs1]; exact hW), hb1.trans (hW.mono (by omega)), by have := hW.size; omega⟩
  obtain ⟨Tq, tq1, tq2, tq3⟩ : ∃ Tq, ((ins = [] → Tq = []) ∧ (ins ≠ [] → bfs (nextN ins) (ins.length + 1) [0] 0 = some Tq)) ∧ Tq.length ≤ ins.length ∧ ∀ z, z ∈ Tq ↔ z ∈ q := by
    by_cases h0 : ins = []
    · exact ⟨[], ⟨fun _ => rfl, fun h => absurd h0 h⟩, by simp, fun z => by rw [hq.nil h0]⟩
    · obtain ⟨Tq, t1, t2, t3, t4⟩ := bfs_from (succ := nextN ins) (a := 0) (n := ins.length) (fun x y h => nextN_lt h) (List.length_pos_iff.2 h0)
      exact ⟨Tq, ⟨fun h => absurd h h0, fun _ => t1⟩, t3, fun z => (t2 z).trans (hq.mem h0 z).symm⟩
  have HR : Hid (∀ W, Below (N + 1) W1 W → Calls Try.prog 22 #[.agg #[.string nm, .int .i64 par, .slice varsA nvars varsC, .bool rp, .string rto, .int .i64 rcl, .slice fromA nfrom fromC, .slice insA n insC]] W (Truthed W n Tq)) := by
    intro W hb
    have h1 := (HK.out W hb).1.row
    rw [← hC] at h1
    have h := rreach_calls ⟨nm, par, varsA, nvars, varsC, rp, rto, rcl, fromA, nfrom, fromC, insA, insC, ins⟩ W Tq h1 (by show ins.length ≤ 90000; omega) (by omega) tq1
    simp only [Cod.cells, hn] at h
    exact h
  obtain ⟨TG, hTG⟩ := Classical.axiomOfChoice (fun g => without_T ins g)
  have HG : Hid (∀ W, Below (N + 1) W1 W → ∀ g : Nat, g < n → Calls Try.prog 63 #[.agg #[.string nm, .int .i64 par, .slice varsA nvars varsC, .bool rp, .string rto, .int .i64 rcl, .slice fromA nfrom fromC, .slice insA n insC], .int .i64 (g : Int)] W (Truthed W n (TG g))) := by
    intro W hb g hg
    have h1 := (HK.out W hb).1.row
    rw [← hC] at h1
    obtain ⟨g1, g2, g3, _⟩ := hTG g
    have h := without_calls ⟨nm, par, varsA, nvars, varsC, rp, rto, rcl, fromA, nfrom, fromC, insA, insC, ins⟩ g W (TG g) h1 (by show ins.length ≤ 90000; omega) (by omega) (by omega) ⟨g1, g2⟩
    simp only [Cod.cells, hn] at h
    exact h
  obtain ⟨f, hf⟩ : ∃ f : Nat → Nat → Bool, (fun a b => decide (a ∈ Tq) && decide (b ∈ Tq) && !decide (b ∈ TG a)) = f := ⟨_, rfl⟩
  have HFS : Hid (∀ a b, a < ins.length → b < ins.length → (f a b = true ↔ a ∈ q ∧ b ∈ q ∧ ¬ RW (nextN ins) a b)) := by
    intro a b ha hb
    rw [← hf]
    have h0 : ins ≠ [] := fun e => by rw [e] at ha; simp at ha
    simp only [Bool.and_eq_true, decide_eq_true_eq, Bool.not_eq_true', decide_eq_false_iff_not, tq3, (hTG a).2.2.2 h0 b]
    exact ⟨fun h => ⟨h.1.1, h.1.2, h.2⟩, fun h => ⟨⟨h.1, h.2.1⟩, h.2.2⟩⟩
  have HF : Hid (∀ a b, f a b = (decide (a ∈ Tq) && decide (b ∈ Tq) && !decide (b ∈ TG a))) := fun a b => by rw [← hf]
  have HW1 := Lib.hid hW1
  have HS1 := Lib.hid hs1
  have hsl : N + 1 ≤ W1.heap.size := by omega
  have hn9 : n ≤ 60 := by omega
  obtain ⟨k0, k1, k2, k3, k4, k5, k6, k7, _⟩ := HS.out W1 (Below.refl _ _)
  clear hb1 hs1 hrow hin1 hW1 HIN hC hq tq1 tq2 tq3 hTG hf
  rw [hn]
  clear hn hfit
  have hmk := run_make_bools n (by omega)
  have hmr := run_make_rowsB n (by omega)
  go_enter Try.func31, Try.ntmps31
  go_upto_region 1 with (fail)
  rw [HW1.out]
  go_wp2_with fail
  go_at_call 22
  refine (HR.out W1 (Below.refl _ _)).mono ?_
  rintro e w3 ⟨B, rfl, hB, hrowB, hb3⟩
  have hb3' : Below (N + 1) W1 w3 := hb3.mono hsl
  have hR3 : N + 1 ≤ w3.heap.size := (HK.out w3 hb3').2.2
  obtain ⟨R, hR⟩ : ∃ R, w3.heap.size = R := ⟨_, rfl⟩
  obtain ⟨W4, hW4⟩ : ∃ W4, w3.alloc (.cells (sCells n (fun _ => .slice none 0 0)) 34) = W4 := ⟨_, rfl⟩
  have hb4 : Below (N + 1) W1 W4 := by rw [← hW4]; exact hb3'.alloc hR3 _
  have hBlt : B < R := by rw [← hR]; exact (Array.getElem?_eq_some_iff.1 hrowB).1
  have hrow4 : W4.heap[R]? = some (.cells (sCells n (fun _ => .slice none 0 0)) 34 (0, 0)) := by rw [← hW4, ← hR]; exact alloc_at _ _
  have hrowB4 : W4.heap[B]? = some (.cells (seenCells n Tq) 4 (0, 0)) := by rw [← hW4, Below.heap_alloc _ _ _ (by omega)]; exact hrowB
  have HB4 := Lib.hid hb4
  have HRB := Lib.hid hrowB4
  have HR4 := Lib.hid hrow4
  have hs4 : W4.heap.size = R + 1 := by rw [← hW4]; simp [hR]
  clear hb3 hb3' hrowB hb4 hrow4 hrowB4 k0 k1 k2 k3 k4 k5 k6 k7
  go_upto_region 4 with (fail)
  clear hW4
  go_wp2_with fail
  go_loopw [6] (fun c wr => ∃ (j : Nat) (bs : Nat → Nat), j ≤ n ∧ c = .int .i64 (j : Int) ∧ TabJ wr R n j bs f ∧ Ext (fun k => R ≤ k) W4 wr) (fun c _ => n - (intOf c).toNat)
  case atStart => exact ⟨0, fun _ => 0, Nat.zero_le _, rfl, ⟨by rw [HR4.out, sCells_congr (f := fun _ => Value.slice none 0 0)]; intro x _; rw [if_neg (Nat.not_lt_zero x)], fun a ha => absurd ha (Nat.not_lt_zero a)⟩, Ext.refl _ _⟩
  case round =>
    obtain ⟨j, bs, hj, rfl, htj, hx⟩ := hrel
    have hbW : Below (N + 1) W1 wr := HB4.out.trans (hx.below (by omega) (fun k hk => by omega))
    have hsW := hx.size
    have HBW := Lib.hid hbW
    have HTJ := Lib.hid htj
    have HX := Lib.hid hx
    by_cases hjn : j < n
    · have hjI : (j : Int) < (n : Int) := by omega
      obtain ⟨k0, k1, k2, k3, k4, k5, k6, k7, _⟩ := HS.out wr hbW
      clear hbW htj hx
      go_wp2_with fail
      go_at_call 63
      refine (HG.out wr HBW.out j hjn).mono ?_
      rintro e w5 ⟨Bw, rfl, hBw, hrowW, hb5⟩
      obtain ⟨Z, hZ⟩ : ∃ Z, w5.heap.size = Z := ⟨_, rfl⟩
      have hs5 := hb5.size
      have hBwl : Bw < Z := by rw [← hZ]; exact (Array.getElem?_eq_some_iff.1 hrowW).1
      obtain ⟨W6, hW6⟩ : ∃ W6, w5.alloc (.cells (bCells n (fun _ => false)) 4) = W6 := ⟨_, rfl⟩
      have hb6 : Below wr.heap.size wr W6 := by rw [← hW6]; exact hb5.alloc hs5 _
      have ht6 := HTJ.out.below hb6
      have hRW : R < wr.heap.size := (Array.getElem?_eq_some_iff.1 HTJ.out.rows).1
      have cR : W6.cell? ⟨R, j, none⟩ = some (.slice none 0 0) := by rw [cell_of_row _ _ _ _ _ _ ht6.rows, sCells_get _ hjn, if_neg (Nat.lt_irrefl j)]
      have fR : W6.frozen? ⟨R, j, none⟩ = false := frozen_of_row _ _ _ _ _ ht6.rows
      obtain ⟨W7, hW7⟩ : ∃ W7, W6.setCell ⟨R, j, none⟩ (.slice (some ⟨Z, 0, none⟩) n n) = W7 := ⟨_, rfl⟩
      have hx7 : Ext (· = R) W6 W7 := by rw [← hW7]; exact Ext.set1 _ _ _ _
      have hZ6 : W6.heap[Z]? = some (.cells (bCells n (fun _ => false)) 4 (0, 0)) := by rw [← hW6, ← hZ]; exact alloc_at _ _
      have hZ7 := hx7.heap hZ6 (by omega)
      have hr7 : W7.heap[R]? = some (.cells (sCells n fun a => if a < j + 1 then .slice (some ⟨if a = j then Z else bs a, 0, none⟩) n n else .slice none 0 0) 34 (0, 0)) := by
        rw [← hW7, heap_setCell_same _ _ _ _ _ _ ht6.rows, sCells_set, sCells_congr]
        intro x hx
        by_cases h1 : x = j
        · subst h1; simp
        · by_cases h2 : x < j
          · rw [if_neg h1, if_pos h2, if_pos (by omega), if_neg h1]
          · rw [if_neg h1, if_neg h2, if_neg (by omega)]
      have hx47 : Ext (fun k => R ≤ k) W4 W7 := (HX.out.trans (Ext.of_below hb6) (fun k hk => .inl (by omega))).trans hx7 (fun k hk => .inl (by omega))
      have hrB7 : W7.heap[B]? = some (.cells (seenCells n Tq) 4 (0, 0)) := hx47.heap HRB.out (by omega)
      have hrW7 : W7.heap[Bw]? = some (.cells (seenCells n (TG j)) 4 (0, 0)) := hx7.heap (by rw [← hW6, Below.heap_alloc _ _ _ (by omega)]; exact hrowW) (by omega)
      have HR7 := Lib.hid hr7
      have HX47 := Lib.hid hx47
      have HB7 := Lib.hid hrB7
      have HW7 := Lib.hid hrW7
      have HZ7 := Lib.hid hZ7
      have HROW : Hid (∀ a, a < j → R < bs a ∧ bs a ≠ Z ∧ W7.heap[bs a]? = some (.cells (bCells n (f a)) 4 (0, 0))) := fun a ha => by
        obtain ⟨h1, h2⟩ := HTJ.out.row a ha
        have hl := (Array.getElem?_eq_some_iff.1 h2).1
        exact ⟨h1, by omega, hx7.heap (ht6.row a ha).2 (by omega)⟩
      have hRZ : R < Z := by omega
      clear hrowW hb5 hb6 ht6 hx7 hZ6 hZ7 hr7 hx47 hrB7 hrW7 k0 k1 k2 k3 k4 k5 k6 k7
      go_wp2_with fail
      go_loopw [8] (fun c wr2 => ∃ k : Nat, k ≤ n ∧ c = .int .i64 (k : Int) ∧ wr2.heap[Z]? = some (.cells (bCells n fun b => if b < k then f j b else false) 4 (0, 0)) ∧ Ext (· = Z) W7 wr2) (fun c _ => n - (intOf c).toNat)
      case atStart => exact ⟨0, Nat.zero_le _, rfl, by rw [HZ7.out, bCells_congr (f := fun _ => false)]; intro x _; rw [if_neg (Nat.not_lt_zero x)], Ext.refl _ _⟩
      case round =>
        obtain ⟨k, hk, rfl, hz, hxz⟩ := hrel
        have HZZ := Lib.hid hz
        have HXZ := Lib.hid hxz
        by_cases hkn : k < n
        · have hkI : (k : Int) < (n : Int) := by omega
          have cR' : wr.cell? ⟨R, j, none⟩ = some (.slice (some ⟨Z, 0, none⟩) n n) := by
            rw [cell_of_row _ _ _ _ _ _ (hxz.heap HR7.out (by omega)), sCells_get _ hjn]; simp
          have cBj : wr.cell? ⟨B, j, none⟩ = some (.bool (decide (j ∈ Tq))) := by rw [cell_of_row _ _ _ _ _ _ (hxz.heap HB7.out (by omega)), seenCells_get _ hjn]
          have cBk : wr.cell? ⟨B, k, none⟩ = some (.bool (decide (k ∈ Tq))) := by rw [cell_of_row _ _ _ _ _ _ (hxz.heap HB7.out (by omega)), seenCells_get _ hkn]
          have cW : wr.cell? ⟨Bw, k, none⟩ = some (.bool (decide (k ∈ TG j))) := by rw [cell_of_row _ _ _ _ _ _ (hxz.heap HW7.out (by omega)), seenCells_get _ hkn]
          have cZ : wr.cell? ⟨Z, k, none⟩ = some (.bool (if k < k then f j k else false)) := by rw [cell_of_row _ _ _ _ _ _ hz, bCells_get _ hkn]
          have fZ : wr.frozen? ⟨Z, k, none⟩ = false := frozen_of_row _ _ _ _ _ hz
          have hff := HF.out j k
          obtain ⟨dj, hdj⟩ : ∃ d, decide (j ∈ Tq) = d := ⟨_, rfl⟩
          obtain ⟨dk, hdk⟩ : ∃ d, decide (k ∈ Tq) = d := ⟨_, rfl⟩
          obtain ⟨dw, hdw⟩ : ∃ d, decide (k ∈ TG j) = d := ⟨_, rfl⟩
          rw [hdj] at cBj hff
          rw [hdk] at cBk hff
          rw [hdw] at cW hff
          have HFF := Lib.hid hff
          have HST : Hid (∀ v m, v = f j k → ((wr.setCell ⟨Z, k, none⟩ (.bool v)).drewN m).heap[Z]? = some (.cells (bCells n fun b => if b < k + 1 then f j b else false) 4 (0, 0)) ∧ Ext (· = Z) W7 ((wr.setCell ⟨Z, k, none⟩ (.bool v)).drewN m)) := by
            rintro v m rfl
            refine ⟨?_, (hxz.setCell (a := ⟨Z, k, none⟩) (.inl rfl) _).drewN m⟩
            show (wr.setCell ⟨Z, k, none⟩ (.bool (f j k))).heap[Z]? = _
            rw [heap_setCell_same _ _ _ _ _ _ hz, bCells_set, bCells_congr]
            intro x _
            by_cases h1 : x = k
            · subst h1; simp
            · by_cases h2 : x < k
              · rw [if_neg h1, if_pos h2, if_pos (by omega)]
              · rw [if_neg h1, if_neg h2, if_neg (by omega)]
          clear hz hxz hff hdj hdk hdw cR fR
          cases dj with
          | false =>
            have HV : Hid (false = f j k) := by unfold Hid; rw [HFF.out]; rfl
            go_wp2
            go_region
            go_wp2
            go_roundw
            case rel => exact ⟨k + 1, by omega, by go_num, (HST.out false 1 HV.out).1, (HST.out false 1 HV.out).2⟩
            case measure => simp [intOf]; omega
          | true =>
            cases dk with
            | false =>
              have HV : Hid (false = f j k) := by unfold Hid; rw [HFF.out]; rfl
              go_wp2
              go_region
              go_wp2
              go_roundw
              case rel => exact ⟨k + 1, by omega, by go_num, (HST.out false 1 HV.out).1, (HST.out false 1 HV.out).2⟩
              case measure => simp [intOf]; omega
            | true =>
              cases dw with
              | false =>
                have HV : Hid (true = f j k) := by unfold Hid; rw [HFF.out]; rfl
                go_wp2
                go_region
                go_wp2
                go_roundw
                case rel => exact ⟨k + 1, by omega, by go_num, (HST.out true 1 HV.out).1, (HST.out true 1 HV.out).2⟩
                case measure => simp [intOf]; omega
              | true =>
                have HV : Hid (false = f j k) := by unfold Hid; rw [HFF.out]; rfl
                go_wp2
                go_region
                go_wp2
                go_roundw
                case rel => exact ⟨k + 1, by omega, by go_num, (HST.out false 1 HV.out).1, (HST.out false 1 HV.out).2⟩
                case measure => simp [intOf]; omega
        · have hke : k = n := by omega
          subst hke
          have hG : Hid (TabJ wr R k (j + 1) (fun a => if a = j then Z else bs a) f ∧ Ext (fun q => R ≤ q) W4 wr) := by
            refine ⟨⟨hxz.heap HR7.out (by omega), fun a ha => ?_⟩, HX47.out.trans hxz (fun q hq => .inl (by omega))⟩
            by_cases haj : a = j
            · subst haj
              rw [if_pos rfl]
              refine ⟨hRZ, ?_⟩
              rw [hz, bCells_congr]
              intro x hx; rw [if_pos hx]
            · obtain ⟨h1, h2, h3⟩ := HROW.out a (by omega)
              rw [if_neg haj]
              exact ⟨h1, hxz.heap h3 h2⟩
          clear hz hxz
          go_wp2
          go_roundw
          case rel => exact ⟨j + 1, _, by omega, by go_num, hG.out.1, hG.out.2⟩
          case measure => simp [intOf]; omega
    · have hje : j = n := by omega
      subst hje
      have HG : Hid (Tab9P ins q w (.returned (.slice (some ⟨R, 0, none⟩) j j)) wr) := by
        refine ⟨R, bs, f, by rw [HN'.out], by omega, by rw [HN'.out]; exact htj, HFS.out, by rw [hN]; exact (HK.out wr hbW).2.1⟩
      clear hbW htj hx
      go_wp2
      go_ret
      exact HG.out
end Go.Proofs.Ytpbkkajgcdahcaa
