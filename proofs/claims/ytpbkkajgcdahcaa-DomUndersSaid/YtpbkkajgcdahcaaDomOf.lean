/- dom.Of: of any code, the tree of who is over whom. -/
import Derived.Test.YtpbkkajgcdahcaaDomPa
import Derived.Test.YtpbkkajgcdahcaaDomT
import Derived.Test.YtpbkkajgcdahcaaLight8
import Derived.Deep.RegionHeld3
namespace Go.Proofs.Ytpbkkajgcdahcaa
open Go.RowKit

theorem run_make_ints (n : Nat) (hn : n ≤ 90000) (W : World) : (Instr.makeSlice 27 (.int .i64 (n : Int)) (.int .i64 (n : Int))).run Try.prog W = .ok (.slice (some ⟨W.heap.size, 0, none⟩) n n) (W.alloc (.cells (iCells n (fun _ => 0)) 3)) := by
  obtain ⟨i, h2, h3, h4, h5⟩ := info_parts info_int
  have hr := run_make (P := Try.prog) W 27 3 i (.int .i64 0) Try.underlying27 h2 h3 .i64 .i64 n n (by omega) (Int.le_refl _) (by rw [h5]; omega) (by omega)
  have hzc : (Value.int .i64 0).cells = #[.int .i64 0] := rfl
  simp only [Int.toNat_natCast, h4, hzc, Nat.mul_one] at hr
  have hm : madeCells #[.int .i64 0] n = iCells n (fun _ => 0) := by
    rw [← iCells_zero, ← toList_madeCells_one]
  rw [hm] at hr
  exact hr

/-- A row of rows that was made up to block H, and lies there. -/
def RowsB (w : World) (R H n : Nat) (rows : Nat → List Nat) : Prop :=
  ∃ w3 : World, w3.heap.size = H ∧ RowsI w3 R n (R + 1) (fun _ => False) rows ∧ H ≤ w.heap.size ∧ ∀ k, R ≤ k → k < H → w.heap[k]? = w3.heap[k]?

theorem RowsB.ext {w w' : World} {R H n : Nat} {rows : Nat → List Nat} {M : Nat → Prop} (h : RowsB w R H n rows) (hx : Ext M w w') (hM : ∀ k, R ≤ k → k < H → ¬ M k) : RowsB w' R H n rows := by
  obtain ⟨w3, h1, h2, h3, h4⟩ := h
  exact ⟨w3, h1, h2, by have := hx.size; omega, fun k q1 q2 => (hx.block k (by omega) (hM k q1 q2)).trans (h4 k q1 q2)⟩

theorem RowsB.read {w : World} {R H n : Nat} {rows : Nat → List Nat} (h : RowsB w R H n rows) {y : Nat} (hy : y < n) : ∃ ao cap, w.cell? ⟨R, y, none⟩ = some (.slice ao (rows y).length cap) ∧ ∀ (q z : Nat), (rows y)[q]? = some z → ∃ g, ao = some ⟨g, 0, none⟩ ∧ R < g ∧ g < H ∧ w.cell? ⟨g, q, none⟩ = some (.int .i64 (z : Int)) := by
  obtain ⟨w3, e1, ⟨vals, _, v1, v2, _, v4, _⟩, e3, e4⟩ := h
  obtain ⟨v, hv⟩ : ∃ v, vals[y]? = some v := ⟨_, Array.getElem?_eq_getElem (by omega)⟩
  have ho := v4 y v hv
  obtain ⟨ao, cap, rfl⟩ := ho.isSlice
  have hl : (ints (rows y)).length = (rows y).length := by simp [ints]
  have hR : R < H := by rw [← e1]; exact (Array.getElem?_eq_some_iff.1 v2).1
  refine ⟨ao, cap, by rw [cell_of_row _ _ _ _ _ _ ((e4 R (Nat.le_refl _) hR).trans v2), hv, hl], fun q z hz => ?_⟩
  obtain ⟨g, e, h1, h2, h3⟩ := ho.shape (by rw [hl]; have := (List.getElem?_eq_some_iff.1 hz).1; omega)
  refine ⟨g, e, by omega, by omega, ?_⟩
  rw [World.cell?_of_block (w := w3) (a := ⟨g, q, none⟩) (e4 g (by omega) (by omega))]
  exact h3 q z (by simp [ints, hz])

theorem alloc_eq {w : World} {k : Nat} {o : Obj} (h : k = w.heap.size) : (w.alloc o).heap[k]? = some o := by subst h; exact alloc_at _ _
theorem alloc_lt {w : World} {k : Nat} {o o' : Obj} (hk : w.heap[k]? = some o') : (w.alloc o).heap[k]? = some o' := (Below.heap_alloc _ _ _ (Array.getElem?_eq_some_iff.1 hk).1).trans hk
theorem lt_alloc {w : World} {k : Nat} {o : Obj} (h : k < w.heap.size) : k < (w.alloc o).heap.size := by rw [World.size_alloc]; omega
theorem le_alloc {w : World} {k : Nat} {o : Obj} (h : k ≤ w.heap.size) : k ≤ (w.alloc o).heap.size := by rw [World.size_alloc]; omega
theorem drew_at {w : World} {k : Nat} {o : Obj} (h : w.heap[k]? = some o) : w.drew.heap[k]? = some o := h
theorem below_at {w w' : World} {k : Nat} {o : Obj} (hb : Below w.heap.size w w') (h : w.heap[k]? = some o) : w'.heap[k]? = some o := (hb.block k (Array.getElem?_eq_some_iff.1 h).1).trans h

/-- What the start of dom.Of lays. -/
structure DomL (W1 wc : World) (N n T O PL R H : Nat) (rows : Nat → List Nat) (f g : Nat → Int) : Prop where
  tree : wc.heap[T]? = some (.cells #[.slice (some ⟨O, 0, none⟩) n n, .slice (some ⟨PL, 0, none⟩) n n, .slice (some ⟨R, 0, none⟩) n n] 90 (0, 0))
  over : wc.heap[O]? = some (.cells (iCells n f) 3 (0, 0))
  place : wc.heap[PL]? = some (.cells (iCells n g) 3 (0, 0))
  rows : RowsB wc R H n rows
  oR : O < R ∨ H ≤ O
  pR : PL < R ∨ H ≤ PL
  tR : H ≤ T
  op : O ≠ PL
  tO : T ≠ O
  tP : T ≠ PL
  lowO : N + 1 ≤ O
  lowP : N + 1 ≤ PL
  lowR : N + 1 ≤ R
  RH : R < H
  below : Below (N + 1) W1 wc

section doml
variable {W1 wc wd : World} {N n T O PL R H : Nat} {rows : Nat → List Nat} {f g f' g' : Nat → Int}

theorem DomL.ext {M : Nat → Prop} (h : DomL W1 wc N n T O PL R H rows f g) (hx : Ext M wc wd) (hT : ¬ M T) (hO : ¬ M O) (hP : ¬ M PL) (hR : ∀ k, R ≤ k → k < H → ¬ M k) (hM : ∀ k, M k → N + 1 ≤ k) (hs : N + 1 ≤ wc.heap.size) : DomL W1 wd N n T O PL R H rows f g :=
  ⟨hx.heap h.tree hT, hx.heap h.over hO, hx.heap h.place hP, h.rows.ext hx hR, h.oR, h.pR, h.tR, h.op, h.tO, h.tP, h.lowO, h.lowP, h.lowR, h.RH, h.below.trans (hx.below hs hM)⟩

theorem DomL.more (h : DomL W1 wc N n T O PL R H rows f g) (hb : Below wc.heap.size wc wd) (hs : N + 1 ≤ wc.heap.size) : DomL W1 wd N n T O PL R H rows f g :=
  h.ext (M := fun _ => False) (Ext.of_below_size hb) (fun h => h) (fun h => h) (fun h => h) (fun _ _ _ h => h) (fun _ h => h.elim) hs

theorem DomL.drewN (h : DomL W1 wc N n T O PL R H rows f g) (m : Nat) : DomL W1 (wc.drewN m) N n T O PL R H rows f g :=
  ⟨h.tree, h.over, h.place, h.rows.ext ((Ext.refl (fun _ => False) wc).drewN m) (fun _ _ _ h => h), h.oR, h.pR, h.tR, h.op, h.tO, h.tP, h.lowO, h.lowP, h.lowR, h.RH, below_drewN h.below m⟩

theorem DomL.cong (h : DomL W1 wc N n T O PL R H rows f g) (hf : ∀ x, x < n → f x = f' x) (hg : ∀ x, x < n → g x = g' x) : DomL W1 wc N n T O PL R H rows f' g' :=
  ⟨h.tree, by rw [← iCells_congr hf]; exact h.over, by rw [← iCells_congr hg]; exact h.place, h.rows, h.oR, h.pR, h.tR, h.op, h.tO, h.tP, h.lowO, h.lowP, h.lowR, h.RH, h.below⟩

theorem DomL.hlow (h : DomL W1 wc N n T O PL R H rows f g) : N + 1 ≤ wc.heap.size := by
  have := (Array.getElem?_eq_some_iff.1 h.over).1
  have := h.lowO
  omega

theorem DomL.setO (h : DomL W1 wc N n T O PL R H rows f g) (v : Nat) (z : Int) : DomL W1 (wc.setCell ⟨O, v, none⟩ (.int .i64 z)) N n T O PL R H rows (fun x => if x = v then z else f x) g := by
  have hx : Ext (· = O) wc (wc.setCell ⟨O, v, none⟩ (.int .i64 z)) := Ext.set1 _ _ _ _
  have h1 := h.oR
  have h2 := h.op
  have h3 := h.tO
  refine ⟨hx.heap h.tree (by omega), ?_, hx.heap h.place (by omega), h.rows.ext hx (fun k q1 q2 => by omega), h.oR, h.pR, h.tR, h.op, h.tO, h.tP, h.lowO, h.lowP, h.lowR, h.RH, h.below.trans (hx.below h.hlow (fun k hk => by rw [hk]; exact h.lowO))⟩
  rw [← iCells_set]; exact heap_setCell_same _ _ _ _ _ _ h.over

theorem DomL.setP (h : DomL W1 wc N n T O PL R H rows f g) (v : Nat) (z : Int) : DomL W1 (wc.setCell ⟨PL, v, none⟩ (.int .i64 z)) N n T O PL R H rows f (fun x => if x = v then z else g x) := by
  have hx : Ext (· = PL) wc (wc.setCell ⟨PL, v, none⟩ (.int .i64 z)) := Ext.set1 _ _ _ _
  have h1 := h.pR
  have h2 := h.op
  have h3 := h.tP
  refine ⟨hx.heap h.tree (by omega), hx.heap h.over (by omega), ?_, h.rows.ext hx (fun k q1 q2 => by omega), h.oR, h.pR, h.tR, h.op, h.tO, h.tP, h.lowO, h.lowP, h.lowR, h.RH, h.below.trans (hx.below h.hlow (fun k hk => by rw [hk]; exact h.lowP))⟩
  rw [← iCells_set]; exact heap_setCell_same _ _ _ _ _ _ h.place

theorem DomL.c0 (h : DomL W1 wc N n T O PL R H rows f g) : wc.cell? ⟨T, 0, none⟩ = some (.slice (some ⟨O, 0, none⟩) n n) := by rw [cell_of_row _ _ _ _ _ _ h.tree]; rfl
theorem DomL.c1 (h : DomL W1 wc N n T O PL R H rows f g) : wc.cell? ⟨T, 1, none⟩ = some (.slice (some ⟨PL, 0, none⟩) n n) := by rw [cell_of_row _ _ _ _ _ _ h.tree]; rfl
theorem DomL.c2 (h : DomL W1 wc N n T O PL R H rows f g) : wc.cell? ⟨T, 2, none⟩ = some (.slice (some ⟨R, 0, none⟩) n n) := by rw [cell_of_row _ _ _ _ _ _ h.tree]; rfl
theorem DomL.co (h : DomL W1 wc N n T O PL R H rows f g) {v : Nat} (hv : v < n) : wc.cell? ⟨O, v, none⟩ = some (.int .i64 (f v)) ∧ wc.frozen? ⟨O, v, none⟩ = false := ⟨by rw [cell_of_row _ _ _ _ _ _ h.over, iCells_get _ hv], frozen_of_row _ _ _ _ _ h.over⟩
theorem DomL.cp (h : DomL W1 wc N n T O PL R H rows f g) {v : Nat} (hv : v < n) : wc.cell? ⟨PL, v, none⟩ = some (.int .i64 (g v)) ∧ wc.frozen? ⟨PL, v, none⟩ = false := ⟨by rw [cell_of_row _ _ _ _ _ _ h.place, iCells_get _ hv], frozen_of_row _ _ _ _ _ h.place⟩
end doml

theorem DomL.treeI {W1 wc : World} {N n T O PL R H : Nat} {rows : Nat → List Nat} {o : Nat → Option Nat} {q : List Nat} (h : DomL W1 wc N n T O PL R H rows (fun v => oI (o v)) (plI q)) : TreeI wc T O PL R n o q := ⟨h.tree, h.over, h.place⟩

theorem idx_at : ∀ (q : List Nat) (i x : Nat), q.Nodup → q[i]? = some x → q.idxOf x = i
  | [], _, _, _, h => by simp at h
  | a :: q, 0, x, _, h => by simp at h; subst h; simp
  | a :: q, i + 1, x, hn, h => by
    rw [List.nodup_cons] at hn
    simp only [List.getElem?_cons_succ] at h
    have hx : x ∈ q := List.mem_of_getElem? h
    have h1 : (a == x) = false := by rw [beq_eq_false_iff_ne]; rintro rfl; exact hn.1 hx
    rw [List.idxOf_cons, h1, cond_false, idx_at q i x hn.2 h]

/-- Behind dom.Of. -/
def DomMade (c : Cod) (w : World) (e : Ending) (w' : World) : Prop :=
  ∃ T O PL R H o q, e = .returned (.pointer (some ⟨T, 0, none⟩)) ∧ w.heap.size ≤ T ∧ TreeI w' T O PL R c.ins.length o q ∧ DomT c.ins q o ∧ RowsB w' R H c.ins.length (behindOf c.ins) ∧ Below w.heap.size w w'

set_option maxRecDepth 100000 in
set_option maxHeartbeats 4000000 in
theorem domOf_calls (c : Cod) (w : World) (hin : c.inn w) (hfit : c.ins.length ≤ 60) : Calls Try.prog 30 #[.agg c.cells] w (DomMade c w) := by
  obtain ⟨C, hC⟩ : ∃ C, c = C := ⟨_, rfl⟩
  have HC := Lib.hid hC
  have HIN := Lib.hid hin
  clear hin
  obtain ⟨nm, par, varsA, nvars, varsC, rp, rto, rcl, fromA, nfrom, fromC, insA, insC, ins⟩ := c
  simp only at hfit
  simp only [Cod.cells]
  obtain ⟨n, hn⟩ : ∃ n, ins.length = n := ⟨_, rfl⟩
  have HN' := Lib.hid hn
  obtain ⟨N, hN⟩ : ∃ N, w.heap.size = N := ⟨_, rfl⟩
  obtain ⟨W1, hW1⟩ : ∃ W1, w.alloc (.cells #[.string nm, .int .i64 par, .slice varsA nvars varsC, .bool rp, .string rto, .int .i64 rcl, .slice fromA nfrom fromC, .slice insA n insC] 30) = W1 := ⟨_, rfl⟩
  have hb1 : Below N w W1 := by rw [← hW1, ← hN]; exact (Below.refl _ _).alloc (Nat.le_refl _) _
  have hs1 : W1.heap.size = N + 1 := by rw [← hW1]; simp [hN]
  have hrow : W1.heap[N]? = some (.cells #[.string nm, .int .i64 par, .slice varsA nvars varsC, .bool rp, .string rto, .int .i64 rcl, .slice fromA nfrom fromC, .slice insA n insC] 30 (0, 0)) := by
    rw [← hW1, ← hN]; exact alloc_at _ _
  have hin1 := HIN.out.below (by rw [hN]; exact hb1)
  have HS : Hid (∀ W, Below (N + 1) W1 W → W.cell? ⟨N, 0, none⟩ = some (.string nm) ∧ W.cell? ⟨N, 1, none⟩ = some (.int .i64 par) ∧ W.cell? ⟨N, 2, none⟩ = some (.slice varsA nvars varsC) ∧ W.cell? ⟨N, 3, none⟩ = some (.bool rp) ∧ W.cell? ⟨N, 4, none⟩ = some (.string rto) ∧ W.cell? ⟨N, 5, none⟩ = some (.int .i64 rcl) ∧ W.cell? ⟨N, 6, none⟩ = some (.slice fromA nfrom fromC) ∧ W.cell? ⟨N, 7, none⟩ = some (.slice insA n insC) ∧ Below (N + 1) W1 W) := by
    intro W hW
    have h4 := (hW.block N (by omega)).trans hrow
    refine ⟨?_, ?_, ?_, ?_, ?_, ?_, ?_, ?_, hW⟩ <;> (rw [cell_of_row _ _ _ _ _ _ h4]; rfl)
  have HK : Hid (∀ W, Below (N + 1) W1 W → C.inn W ∧ Below N w W ∧ N + 1 ≤ W.heap.size) := by
    intro W hW
    exact ⟨by rw [← hC]; exact hin1.below (by rw [hs1]; exact hW), hb1.trans (hW.mono (by omega)), by have := hW.size; omega⟩
  have HBE : Hid (∀ W, Below (N + 1) W1 W → Calls Try.prog 24 #[.agg #[.string nm, .int .i64 par, .slice varsA nvars varsC, .bool rp, .string rto, .int .i64 rcl, .slice fromA nfrom fromC, .slice insA n insC]] W (GivesR W n (behindOf ins))) := by
    intro W hb
    rw [← hn]
    have h1 := (HK.out W hb).1.row
    rw [← hC] at h1
    exact behind_calls ⟨nm, par, varsA, nvars, varsC, rp, rto, rcl, fromA, nfrom, fromC, insA, insC, ins⟩ W h1 (by show ins.length ≤ 90000; omega)
  obtain ⟨q, hq⟩ := ordT_of ins (by omega)
  have HOR : Hid (∀ W, Below (N + 1) W1 W → Calls Try.prog 16 #[.agg #[.string nm, .int .i64 par, .slice varsA nvars varsC, .bool rp, .string rto, .int .i64 rcl, .slice fromA nfrom fromC, .slice insA n insC]] W (GivesI W (ints q))) := by
    intro W hb
    have h1 := (HK.out W hb).1.row
    rw [← hC] at h1
    have h := order_calls ⟨nm, par, varsA, nvars, varsC, rp, rto, rcl, fromA, nfrom, fromC, insA, insC, ins⟩ W q.reverse h1 (by show ins.length ≤ 90000; omega) hq.order
    rw [List.reverse_reverse] at h
    rw [← hn]
    exact h
  have HS2 : Hid (∀ W W', Below (N + 1) W1 W → Below W.heap.size W W' → W'.cell? ⟨N, 0, none⟩ = some (.string nm) ∧ W'.cell? ⟨N, 1, none⟩ = some (.int .i64 par) ∧ W'.cell? ⟨N, 2, none⟩ = some (.slice varsA nvars varsC) ∧ W'.cell? ⟨N, 3, none⟩ = some (.bool rp) ∧ W'.cell? ⟨N, 4, none⟩ = some (.string rto) ∧ W'.cell? ⟨N, 5, none⟩ = some (.int .i64 rcl) ∧ W'.cell? ⟨N, 6, none⟩ = some (.slice fromA nfrom fromC) ∧ W'.cell? ⟨N, 7, none⟩ = some (.slice insA n insC) ∧ Below (N + 1) W1 W') :=
    fun W W' h1 h2 => HS.out W' (h1.trans (h2.mono (HK.out W h1).2.2))
  have HQ := Lib.hid hq
  have HW1 := Lib.hid hW1
  have HS1 := Lib.hid hs1
  have hsl : N + 1 ≤ W1.heap.size := by omega
  obtain ⟨k0, k1, k2, k3, k4, k5, k6, k7, _⟩ := HS.out W1 (Below.refl _ _)
  have hn9 : n ≤ 60 := by omega
  clear hb1 hs1 hrow hin1 hW1 HIN hC hq
  rw [hn]
  clear hn hfit
  have hmk := run_make_ints n (by omega)
  go_enter Try.func30, Try.ntmps30
  go_wp2
  rw [HW1.out]
  go_step3
  go_upto_region 2 with (fail)
  go_cut [4] (fun s4 wc => ∃ T O PL R H, s4 = .pointer (some ⟨T, 0, none⟩) ∧ DomL W1 wc N n T O PL R H (behindOf ins) (fun _ => 0) (fun _ => 0))
  case first =>
    go_region_held3 (fun w' => w'.cell? ⟨N, 0, none⟩ = some (.string nm) ∧ w'.cell? ⟨N, 1, none⟩ = some (.int .i64 par) ∧ w'.cell? ⟨N, 2, none⟩ = some (.slice varsA nvars varsC) ∧ w'.cell? ⟨N, 3, none⟩ = some (.bool rp) ∧ w'.cell? ⟨N, 4, none⟩ = some (.string rto) ∧ w'.cell? ⟨N, 5, none⟩ = some (.int .i64 rcl) ∧ w'.cell? ⟨N, 6, none⟩ = some (.slice fromA nfrom fromC) ∧ w'.cell? ⟨N, 7, none⟩ = some (.slice insA n insC) ∧ Below (N + 1) W1 w')
      (first | (exact hS) | (exact HS.out _ (below_drewN (Below.refl _ _) 1)) | (exact HS2.out _ _ (by go_split_ands; assumption) ((Below.refl _ _).alloc (Nat.le_refl _) _)))
      (first
        | (go_at_call 24; refine (HBE.out _ (by go_split_ands; assumption)).mono ?_; rintro e w3 ⟨R, rfl, hR, hrows, hb3⟩; have hS := HS2.out _ _ (by go_split_ands; assumption) hb3))
    all_goals
      (have hbw3 : Below (N + 1) W1 w3 := hS.2.2.2.2.2.2.2.2
       have hs3 : N + 1 ≤ w3.heap.size := (HK.out _ hbw3).2.2
       have hsz3 := hb3.size
       have hRH : R < w3.heap.size := by obtain ⟨vals, _, _, v2, _⟩ := hrows; exact (Array.getElem?_eq_some_iff.1 v2).1
       have HROWS := Lib.hid hrows
       have HB3 := Lib.hid hb3
       have HBW3 := Lib.hid hbw3
       have e1 : ∀ W : World, W.drew.heap.size = W.heap.size := fun _ => rfl
       simp only [e1, World.size_alloc] at hsz3 hR
       clear hS hrows hb3 hbw3 e1
       go_wp2
       go_meet
       case rel =>
         refine ⟨_, _, _, _, w3.heap.size, rfl, alloc_eq (by simp), ?_, ?_, ⟨w3, rfl, HROWS.out, by simp only [World.size_alloc]; omega, fun k _ hk => ?_⟩, by omega, by omega, by omega, by omega, by omega, by omega, by omega, by omega, by omega, hRH, ?_⟩
         · first
             | exact alloc_lt (alloc_eq rfl)
             | exact alloc_lt (alloc_lt (alloc_eq rfl))
             | exact alloc_lt (below_at HB3.out (drew_at (alloc_eq rfl)))
             | exact alloc_lt (below_at HB3.out (drew_at (alloc_lt (alloc_eq rfl))))
             | exact alloc_lt (alloc_lt (below_at HB3.out (drew_at (alloc_eq rfl))))
             | exact alloc_lt (alloc_eq (World.size_alloc _ _).symm)
             | exact alloc_lt (alloc_lt (alloc_eq (World.size_alloc _ _).symm))
             | exact alloc_lt (below_at HB3.out (drew_at (alloc_eq (World.size_alloc _ _).symm)))
             | exact alloc_lt (below_at HB3.out (drew_at (alloc_lt (alloc_eq (World.size_alloc _ _).symm))))
             | exact alloc_lt (alloc_lt (below_at HB3.out (drew_at (alloc_eq (World.size_alloc _ _).symm))))
         · first
             | exact alloc_lt (alloc_eq rfl)
             | exact alloc_lt (alloc_lt (alloc_eq rfl))
             | exact alloc_lt (below_at HB3.out (drew_at (alloc_eq rfl)))
             | exact alloc_lt (below_at HB3.out (drew_at (alloc_lt (alloc_eq rfl))))
             | exact alloc_lt (alloc_lt (below_at HB3.out (drew_at (alloc_eq rfl))))
             | exact alloc_lt (alloc_eq (World.size_alloc _ _).symm)
             | exact alloc_lt (alloc_lt (alloc_eq (World.size_alloc _ _).symm))
             | exact alloc_lt (below_at HB3.out (drew_at (alloc_eq (World.size_alloc _ _).symm)))
             | exact alloc_lt (below_at HB3.out (drew_at (alloc_lt (alloc_eq (World.size_alloc _ _).symm))))
             | exact alloc_lt (alloc_lt (below_at HB3.out (drew_at (alloc_eq (World.size_alloc _ _).symm))))
         · first
             | exact Below.heap_alloc _ _ _ hk
             | exact (Below.heap_alloc _ _ _ (lt_alloc hk)).trans (Below.heap_alloc _ _ _ hk)
             | exact (Below.heap_alloc _ _ _ (lt_alloc (lt_alloc hk))).trans ((Below.heap_alloc _ _ _ (lt_alloc hk)).trans (Below.heap_alloc _ _ _ hk))
         · first
             | exact HBW3.out.alloc hs3 _
             | exact (HBW3.out.alloc hs3 _).alloc (le_alloc hs3) _
             | exact ((HBW3.out.alloc hs3 _).alloc (le_alloc hs3) _).alloc (le_alloc (le_alloc hs3)) _)
  case rest =>
    obtain ⟨T, O, PL, R, H, rfl, hL⟩ := hcut
    have HL := Lib.hid hL
    clear hL k0 k1 k2 k3 k4 k5 k6 k7
    go_wp2_with fail
    go_loopw [28] (fun c wr => ∃ j : Nat, j ≤ n ∧ c = .int .i64 (j : Int) ∧ DomL W1 wr N n T O PL R H (behindOf ins) (fun x => if x < j then -1 else 0) (fun x => if x < j then -1 else 0)) (fun c _ => n - (intOf c).toNat)
    case atStart => exact ⟨0, Nat.zero_le _, rfl, HL.out.cong (fun x _ => by simp) (fun x _ => by simp)⟩
    case round =>
      obtain ⟨j, hj, rfl, hl⟩ := hrel
      have HL2 := Lib.hid hl
      by_cases hjl : j < n
      · have hjI : (j : Int) < (n : Int) := by omega
        have c0 := hl.c0
        have c1 := hl.c1
        obtain ⟨d1, d2⟩ := hl.co hjl
        obtain ⟨d3, d4⟩ := hl.cp hjl
        have hne := hl.op
        have hT1 := hl.tO
        have hT2 := hl.tP
        clear hl
        have HG : Hid (DomL W1 (((wr.setCell ⟨O, j, none⟩ (.int .i64 (-1))).setCell ⟨PL, j, none⟩ (.int .i64 (-1))).drewN 1) N n T O PL R H (behindOf ins) (fun x => if x < j + 1 then -1 else 0) (fun x => if x < j + 1 then -1 else 0)) :=
          (((HL2.out.setO j (-1)).setP j (-1)).drewN 1).cong (fun x _ => by by_cases h1 : x = j <;> by_cases h2 : x < j <;> by_cases h3 : x < j + 1 <;> simp [h1, h2, h3] <;> omega) (fun x _ => by by_cases h1 : x = j <;> by_cases h2 : x < j <;> by_cases h3 : x < j + 1 <;> simp [h1, h2, h3] <;> omega)
        go_wp2
        go_region
        go_wp2
        go_roundw
        case rel => exact ⟨j + 1, by omega, by go_num, HG.out⟩
        case measure => simp [intOf]; omega
      · have hje : j = n := by omega
        subst hje
        have hb2 := hl.below
        obtain ⟨k0, k1, k2, k3, k4, k5, k6, k7, _⟩ := HS.out wr hb2
        have hjq := HQ.out.ord.len
        rw [HN'.out] at hjq
        have HB2 := Lib.hid hb2
        have HL3 : Hid (DomL W1 wr N j T O PL R H (behindOf ins) (fun _ => -1) (plI [])) := hl.cong (fun x hx => by rw [if_pos hx]) (fun x hx => by rw [if_pos hx]; rfl)
        clear hl hb2
        go_wp2_with fail
        go_at_call 16
        refine (HOR.out wr HB2.out).mono ?_
        rintro e w4 ⟨aoq, capq, rfl, hown, hb4⟩
        have hil : (ints q).length = q.length := by simp [ints]
        have hO2 := (Array.getElem?_eq_some_iff.1 HL3.out.over).1
        have hP2 := (Array.getElem?_eq_some_iff.1 HL3.out.place).1
        have HORD : Hid (∀ W, Ext (fun k => k = O ∨ k = PL) w4 W → ∀ (k x : Nat), q[k]? = some x → ∃ g, aoq = some ⟨g, 0, none⟩ ∧ W.cell? ⟨g, k, none⟩ = some (.int .i64 (x : Int))) := by
          intro W hx k x hk
          obtain ⟨g, e1, e2, e3, e4⟩ := hown.shape (by rw [hil]; have := (List.getElem?_eq_some_iff.1 hk).1; omega)
          exact ⟨g, e1, by rw [hx.cell (a := ⟨g, k, none⟩) e3 (by rintro (h | h) <;> (simp only at h; omega))]; exact e4 k x (by simp [ints, hk])⟩
        rw [hil]
        have HL4 : Hid (DomL W1 w4 N j T O PL R H (behindOf ins) (fun _ => -1) (plI [])) := HL3.out.more hb4 HL3.out.hlow
        clear hown hb4 k0 k1 k2 k3 k4 k5 k6 k7
        go_wp2_with fail
        go_loopw [48] (fun c wr => ∃ i : Nat, i ≤ q.length ∧ c = .int .i64 (i : Int) ∧ DomL W1 wr N j T O PL R H (behindOf ins) (fun _ => -1) (plI (q.take i)) ∧ Ext (fun k => k = O ∨ k = PL) w4 wr) (fun c _ => q.length - (intOf c).toNat)
        case atStart => exact ⟨0, Nat.zero_le _, rfl, by simpa using HL4.out, Ext.refl _ _⟩
        case round =>
          rename_i wr0 _
          obtain ⟨i, hi, rfl, hl, hx⟩ := hrel
          have HLi := Lib.hid hl
          have HXi := Lib.hid hx
          by_cases hil2 : i < q.length
          · have hiI : (i : Int) < (q.length : Int) := by omega
            obtain ⟨x, hqx⟩ : ∃ x, q[i]? = some x := ⟨_, List.getElem?_eq_getElem hil2⟩
            have hxn : x < j := by have := HQ.out.ord.lt x (List.mem_of_getElem? hqx); rw [HN'.out] at this; exact this
            have hxI : (x : Int) < (j : Int) := by omega
            obtain ⟨g, hg, hcg⟩ := HORD.out wr hx i x hqx
            have c1 := hl.c1
            obtain ⟨d3, d4⟩ := hl.cp hxn
            have HQX := Lib.hid hqx
            have hcl : Hid (DomL W1 (wr.setCell ⟨PL, x, none⟩ (.int .i64 (i : Int))) N j T O PL R H (behindOf ins) (fun _ => -1) (plI (q.take (i + 1))) ∧ Ext (fun k => k = O ∨ k = PL) w4 (wr.setCell ⟨PL, x, none⟩ (.int .i64 (i : Int)))) :=
              ⟨(hl.setP x (i : Int)).cong (fun _ _ => rfl) (fun y _ => (plI_take HQ.out.ord.nodup hqx y).symm), hx.setCell (a := ⟨PL, x, none⟩) (.inl (.inr rfl)) _⟩
            subst hg
            clear hl hx hqx
            go_wp2
            go_roundw
            case rel => exact ⟨i + 1, by omega, by go_num, hcl.out.1, hcl.out.2⟩
            case measure => simp [intOf]; omega
          · have hie : i = q.length := by omega
            subst hie
            rw [List.take_length] at hl
            clear HLi
            obtain ⟨u0, hgr⟩ := HQ.out.gr
            have HGR := Lib.hid hgr
            have hmf : ∀ (fn : Fn) (first cap : Array Value) (w : World), (Instr.makeFunc fn first cap).run Try.prog w = .ok (.func fn first cap) w := fun _ _ _ _ => rfl
            have HL5 := Lib.hid hl
            clear hl hx hgr
            go_wp2_with fail
            go_step3
            go_wp2
            go_loopg [10] (leftOf q j (fun _ => none)) (fun m s10 wr => ∃ o, Sw ins q u0 0 o ∧ DomL W1 wr N j T O PL R H (behindOf ins) (fun v => oI (o v)) (plI q) ∧ Ext (fun k => k = O ∨ k = PL) w4 wr ∧ leftOf q j o ≤ m)
            case atStart => exact ⟨_, sw_start u0, HL5.out, HXi.out, Nat.le_refl _⟩
            case round =>
              obtain ⟨o0, hsw0, hl0, hx0, hm0⟩ := hrel
              have H0 := Lib.hid (And.intro hsw0 (And.intro hl0 (And.intro hx0 hm0)))
              clear hsw0 hl0 hx0 hm0
              go_wp2_with fail
              go_loopw [10, 65] (fun ch c wr2 => ∃ (i : Nat) (b : Bool) (o : Nat → Option Nat), i ≤ q.length ∧ ch = .bool b ∧ c = .int .i64 (i : Int) ∧ Sw ins q u0 i o ∧ DomL W1 wr2 N j T O PL R H (behindOf ins) (fun v => oI (o v)) (plI q) ∧ Ext (fun k => k = O ∨ k = PL) w4 wr2 ∧ leftOf q j o ≤ leftOf q j o0 ∧ (b = true → leftOf q j o < leftOf q j o0) ∧ (b = false → o = o0 ∧ ∀ k v, k < i → q[k]? = some v → v ≠ 0 → FixAt (behindOf ins) o v)) (fun _ c _ => q.length - (intOf c).toNat)
              case atStart => exact ⟨0, false, o0, Nat.zero_le _, rfl, rfl, H0.out.1, H0.out.2.1, H0.out.2.2.1, Nat.le_refl _, (fun h => by cases h), fun _ => ⟨rfl, fun k v h => absurd h (Nat.not_lt_zero _)⟩⟩
              case round =>
                obtain ⟨i, b, o, hi, rfl, rfl, hsw, hl, hx, hlf, hbt, hbf⟩ := hrel
                have HSW := Lib.hid hsw
                have HLI := Lib.hid hl
                have HXI := Lib.hid hx
                have HLF := Lib.hid hlf
                have HBT := Lib.hid hbt
                have HBF := Lib.hid hbf
                clear hsw hx hlf hbt hbf
                by_cases hil2 : i < q.length
                · have hiI : (i : Int) < (q.length : Int) := by omega
                  obtain ⟨x, hqx⟩ : ∃ x, q[i]? = some x := ⟨_, List.getElem?_eq_getElem hil2⟩
                  have hxq : x ∈ q := List.mem_of_getElem? hqx
                  have hxn : x < j := by have := HQ.out.ord.lt x hxq; rw [HN'.out] at this; exact this
                  have hxI : (x : Int) < (j : Int) := by omega
                  have HPX : Hid (plN q x = i) := idx_at q i x HQ.out.ord.nodup hqx
                  obtain ⟨g, hg, hcg⟩ := HORD.out _ HXI.out i x hqx
                  subst hg
                  have HQX := Lib.hid hqx
                  have HXQ := Lib.hid hxq
                  have c0 := hl.c0
                  have c2 := hl.c2
                  obtain ⟨d1, d2⟩ := hl.co hxn
                  obtain ⟨aor, capr, dr, hrd⟩ := hl.rows.read hxn
                  have HRD := Lib.hid hrd
                  clear hqx hxq hl hrd
                  by_cases hx0 : x = 0
                  · subst hx0
                    have hi0 : i = 0 := by have := HPX.out; have := HQ.out.ord.zero HXQ.out; omega
                    have HG : Hid (Sw ins q u0 (i + 1) o) := by subst hi0; exact sw_first HQ.out.ord HSW.out
                    have HF : Hid (b = false → o = o0 ∧ ∀ k v, k < i + 1 → q[k]? = some v → v ≠ 0 → FixAt (behindOf ins) o v) := fun hb => ⟨(HBF.out hb).1, fun k v hk hv hv0 => by
                      have hk0 : k = i := by omega
                      subst hk0
                      have := HQX.out.symm.trans hv
                      exact absurd (Option.some.inj this).symm hv0⟩
                    clear hi0
                    go_wp2
                    go_roundw
                    case rel => exact ⟨i + 1, b, o, by omega, rfl, by go_num, HG.out, HLI.out, HXI.out, HLF.out, HBT.out, HF.out⟩
                    case measure => simp [intOf]; omega
                  · have hxne : ((x : Int) == 0) = false := by rw [beq_eq_false_iff_ne]; omega
                    have HX0 := Lib.hid hx0
                    clear hx0
                    go_wp2_with fail
                    obtain ⟨P, hP⟩ : ∃ P, behindOf ins x = P := ⟨_, rfl⟩
                    rw [hP] at HRD dr ⊢
                    have hPl : P.length ≤ 120 := by rw [← hP]; have := behindOf_len ins x; have := HN'.out; omega
                    have HP := Lib.hid hP
                    clear hP
                    go_loopw [13, 79] (fun ov c wr3 => ∃ (k : Nat) (r : Option Nat), k ≤ P.length ∧ c = .int .i64 (k : Int) ∧ ov = .int .i64 (oI r) ∧ MeetL o (P.take k) r ∧ ∃ m, wr3 = wr.drewN m) (fun _ c _ => P.length - (intOf c).toNat)
                    case atStart => exact ⟨0, none, Nat.zero_le _, rfl, rfl, MeetL.nil, 0, rfl⟩
                    case round =>
                      obtain ⟨k, r, hk, rfl, rfl, hml, m, rfl⟩ := hrel
                      have HML := Lib.hid hml
                      clear hml
                      by_cases hkl : k < P.length
                      · have hkI : (k : Int) < (P.length : Int) := by omega
                        obtain ⟨u, hu⟩ : ∃ u, P[k]? = some u := ⟨_, List.getElem?_eq_getElem hkl⟩
                        obtain ⟨gu, hgu, _, _, hcu⟩ := HRD.out k u hu
                        have hun : u < j := by have := ((mem_behindOf ins u x).1 (by rw [HP.out]; exact List.mem_of_getElem? hu)).1; have := HN'.out; omega
                        have huI : (u : Int) < (j : Int) := by omega
                        obtain ⟨eu1, _⟩ := HLI.out.co hun
                        have htk : P.take (k + 1) = P.take k ++ [u] := by rw [List.take_add_one, hu]; rfl
                        have HTK := Lib.hid htk
                        have HM : Hid (Proc o u → Calls Try.prog 62 #[.pointer (some ⟨T, 0, none⟩), .int .i64 (oI r), .int .i64 (u : Int)] (wr.drewN m) fun e w' => ∃ r', e = .returned (.int .i64 (oI r')) ∧ MeetL o (P.take (k + 1)) r' ∧ ∃ m', w' = wr.drewN m') := by
                          intro hpu
                          have h0q := HQ.out.ord.mem0 HXQ.out
                          refine (meet_calls (wr.drewN m) (HLI.out.drewN m).treeI (by rw [← HN'.out]; exact HQ.out.ord) HSW.out.tr (by omega) r u ⟨hpu, HSW.out.tr.inL h0q hpu⟩ (fun z hz => ?_)).mono ?_
                          · rw [hz] at HML
                            have := HML.out.proc HSW.out.tr
                            exact ⟨this, HSW.out.tr.inL h0q this⟩
                          · rintro e w' ⟨m1, rfl, g1, g2, k2, rfl⟩
                            refine ⟨some m1, rfl, ?_, m + k2, World.drewN_drewN _ _ _⟩
                            rw [HTK.out]
                            cases r with
                            | none => rw [g1 rfl]; exact HML.out.first hpu
                            | some z => exact HML.out.more hpu (g2 z rfl)
                        have HSK : Hid (¬ Proc o u → MeetL o (P.take (k + 1)) r) := fun hnp => by rw [HTK.out]; exact HML.out.skip hnp
                        subst hgu
                        clear hu htk
                        by_cases hu0 : u = 0
                        · have HPU : Hid (Proc o u) := .inl hu0
                          subst hu0
                          go_wp2_with fail
                          go_at_call 62
                          refine (HM.out HPU.out).mono ?_
                          rintro e w' ⟨r', rfl, hml', m', rfl⟩
                          have HML' := Lib.hid hml'
                          clear hml'
                          go_wp2
                          go_roundw
                          case rel => exact ⟨k + 1, r', by omega, by go_num, rfl, HML'.out, m', rfl⟩
                          case measure => simp [intOf]; omega
                        · have hune : ((u : Int) == 0) = false := by rw [beq_eq_false_iff_ne]; omega
                          have HU0 := Lib.hid hu0
                          clear hu0
                          obtain ⟨ou, hou⟩ : ∃ ou, o u = ou := ⟨_, rfl⟩
                          rw [hou] at eu1
                          have HOU := Lib.hid hou
                          clear hou
                          cases ou with
                          | none =>
                            replace eu1 : wr.cell? ⟨O, u, none⟩ = some (.int .i64 (-1)) := eu1
                            have HG : Hid (MeetL o (P.take (k + 1)) r) := HSK.out (by rintro (h | h); exact HU0.out h; exact h HOU.out)
                            go_wp2
                            go_roundw
                            case rel => exact ⟨k + 1, r, by omega, by go_num, rfl, HG.out, m, rfl⟩
                            case measure => simp [intOf]; omega
                          | some pu =>
                            replace eu1 : wr.cell? ⟨O, u, none⟩ = some (.int .i64 (pu : Int)) := eu1
                            have hpne : ((pu : Int) != -1) = true := by rw [bne_iff_ne]; omega
                            have HPU : Hid (Proc o u) := .inr (by rw [HOU.out]; simp)
                            go_wp2_with fail
                            go_at_call 62
                            refine (HM.out HPU.out).mono ?_
                            rintro e w' ⟨r', rfl, hml', m', rfl⟩
                            have HML' := Lib.hid hml'
                            clear hml'
                            go_wp2
                            go_roundw
                            case rel => exact ⟨k + 1, r', by omega, by go_num, rfl, HML'.out, m', rfl⟩
                            case measure => simp [intOf]; omega
                      · have hke : k = P.length := by omega
                        subst hke
                        rw [List.take_length] at HML
                        cases r with
                        | none =>
                          obtain ⟨v1, v2, v3⟩ := HGR.out.u0 x HXQ.out HX0.out
                          rw [HP.out] at v1
                          exact absurd (HSW.out.met _ v2 (by have := HPX.out; omega)) (HML.out _ v1)
                        | some m1 =>
                          have HUP := Lib.hid (SwI.update HGR.out HSW.out (dm_pred HQ.out) dm_zero HXQ.out HX0.out HPX.out (by rw [HP.out]; exact HML.out))
                          have h0q := HQ.out.ord.mem0 HXQ.out
                          have hm1q : m1 ∈ q := HSW.out.tr.inL h0q (HML.out.proc HSW.out.tr)
                          have hqj : Ord j q := by rw [← HN'.out]; exact HQ.out.ord
                          have HLE := Lib.hid (left_fall hqj HSW.out.tr HXQ.out hm1q HUP.out.2)
                          have HG1 : Hid (DomL W1 ((wr.drewN m).setCell ⟨O, x, none⟩ (.int .i64 (m1 : Int))) N j T O PL R H (behindOf ins) (fun v => oI (upd o x m1 v)) (plI q) ∧ Ext (fun k => k = O ∨ k = PL) w4 ((wr.drewN m).setCell ⟨O, x, none⟩ (.int .i64 (m1 : Int)))) :=
                            ⟨((HLI.out.drewN m).setO x (m1 : Int)).cong (fun y _ => by by_cases hy : y = x <;> simp [upd, hy, oI]) (fun _ _ => rfl), (HXI.out.drewN m).setCell (a := ⟨O, x, none⟩) (.inl (.inl rfl)) _⟩
                          have HG2 : Hid (∀ b' : Bool, (b' = (b || decide (o x ≠ some m1))) → leftOf q j (upd o x m1) ≤ leftOf q j o0 ∧ (b' = true → leftOf q j (upd o x m1) < leftOf q j o0) ∧ (b' = false → upd o x m1 = o0 ∧ ∀ k v, k < i + 1 → q[k]? = some v → v ≠ 0 → FixAt (behindOf ins) (upd o x m1) v)) := by
                            intro b' hb'
                            have h1 := HLE.out.1
                            have h2 := HLF.out
                            refine ⟨by omega, fun hb => ?_, fun hb => ?_⟩
                            · rw [hb'] at hb
                              rcases Bool.or_eq_true_iff.1 hb with hb | hb
                              · have := HBT.out hb; omega
                              · have := HLE.out.2 (of_decide_eq_true hb); omega
                            · rw [hb'] at hb
                              obtain ⟨hb1, hb2⟩ := Bool.or_eq_false_iff.1 hb
                              have hox : o x = some m1 := Classical.byContradiction (of_decide_eq_false hb2)
                              rw [upd_id hox]
                              obtain ⟨e1, e2⟩ := HBF.out hb1
                              refine ⟨e1, fun k v hk hv hv0 => ?_⟩
                              by_cases hki : k < i
                              · exact e2 k v hki hv hv0
                              · have hk' : k = i := by omega
                                subst hk'
                                have := HQX.out.symm.trans hv
                                obtain rfl := Option.some.inj this
                                exact ⟨m1, hox, by rw [HP.out]; exact HML.out⟩
                          rw [show oI (some m1) = (m1 : Int) from rfl]
                          clear HLE hm1q hqj
                          cases b with
                          | true =>
                            go_wp2
                            go_roundw
                            case rel =>
                              obtain ⟨f1, f2, f3⟩ := HG2.out true rfl
                              exact ⟨i + 1, true, upd o x m1, by omega, rfl, by go_num, HUP.out.1, HG1.out.1, HG1.out.2, f1, f2, f3⟩
                            case measure => simp [intOf]; omega
                          | false =>
                            obtain ⟨z, hz⟩ : ∃ z, oI (o x) = z := ⟨_, rfl⟩
                            rw [hz] at d1
                            have HZ : Hid (((m1 : Int) != z) = (false || decide (o x ≠ some m1))) := by
                              unfold Hid
                              rw [← hz]
                              cases e : o x with
                              | none => simp [oI]
                              | some p =>
                                by_cases hpm : p = m1
                                · subst hpm; simp [oI]
                                · simp [oI, hpm]; omega
                            clear hz
                            go_wp2
                            go_roundw
                            case rel =>
                              obtain ⟨f1, f2, f3⟩ := HG2.out _ HZ.out
                              exact ⟨i + 1, _, upd o x m1, by omega, rfl, by go_num, HUP.out.1, HG1.out.1, HG1.out.2, f1, f2, f3⟩
                            case measure => simp [intOf]; omega
                · have hie : i = q.length := by omega
                  subst hie
                  have HRST := Lib.hid (sw_again (Nat.le_refl _) HSW.out)
                  clear hl
                  cases b with
                  | true =>
                    go_wp2
                    go_roundg (leftOf q j o)
                    case measure => have := HBT.out (by trivial); have := H0.out.2.2.2; omega
                    case rel => exact ⟨o, HRST.out, HLI.out, HXI.out, Nat.le_refl _⟩
                  | false =>
                    have HG : Hid (DomMade ⟨nm, par, varsA, nvars, varsC, rp, rto, rcl, fromA, nfrom, fromC, insA, insC, ins⟩ w (.returned (.pointer (some ⟨T, 0, none⟩))) wr) := by
                      have hdt : DomT ins q o := domT_of HQ.out (Nat.le_refl _) HSW.out (fun v hv hv0 => by
                        obtain ⟨e1, e2⟩ := HBF.out rfl
                        exact e2 (q.idxOf v) v (List.idxOf_lt_length_of_mem hv) (by rw [List.getElem?_eq_getElem (List.idxOf_lt_length_of_mem hv), List.getElem_idxOf]) hv0)
                      have hbl := (HK.out wr HLI.out.below).2.1
                      have h1 := HLI.out.tR
                      have h2 := HLI.out.lowR
                      have h3 := HLI.out.RH
                      refine ⟨T, O, PL, R, H, o, q, rfl, by omega, ?_, hdt, ?_, by rw [hN]; exact hbl⟩
                      · show TreeI wr T O PL R ins.length o q
                        rw [HN'.out]; exact HLI.out.treeI
                      · show RowsB wr R H ins.length (behindOf ins)
                        rw [HN'.out]; exact HLI.out.rows
                    go_wp2
                    try rw [Exit.noGoto_ret]
                    go_ret
                    exact HG.out
end Go.Proofs.Ytpbkkajgcdahcaa
