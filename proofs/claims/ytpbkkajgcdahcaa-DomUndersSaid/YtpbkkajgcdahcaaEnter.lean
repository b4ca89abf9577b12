/- A walk's step into an instruction: walk's first closure. -/
import Derived.Test.YtpbkkajgcdahcaaWalkD
import Derived.Deep.RegionHeld3
import Derived.Deep.AppendLies
import Derived.Deep.DeepCutAuto
namespace Go.Proofs.Ytpbkkajgcdahcaa
open Go.RowKit

theorem WS.cells {c : Cod} {met : Value} {N0 : Nat} {D : Nat → Prop} {es : List Ent} {m : List Nat} {W : World} (h : WS c met N0 D es m W) :
    W.cell? ⟨N0, 0, none⟩ = some (.string c.nm) ∧ W.cell? ⟨N0, 1, none⟩ = some (.int .i64 c.par) ∧ W.cell? ⟨N0, 2, none⟩ = some (.slice c.varsA c.nvars c.varsC) ∧ W.cell? ⟨N0, 3, none⟩ = some (.bool c.rp) ∧
    W.cell? ⟨N0, 4, none⟩ = some (.string c.rto) ∧ W.cell? ⟨N0, 5, none⟩ = some (.int .i64 c.rcl) ∧ W.cell? ⟨N0, 6, none⟩ = some (.slice c.fromA c.nfrom c.fromC) ∧ W.cell? ⟨N0, 7, none⟩ = some (.slice c.insA c.ins.length c.insC) := by
  refine ⟨?_, ?_, ?_, ?_, ?_, ?_, ?_, ?_⟩ <;> rw [cell_of_row _ _ _ _ _ _ h.code] <;> rfl

/-- Behind the step into x. -/
def Entered (c : Cod) (met : Value) (N0 : Nat) (es : List Ent) (m l : List Nat) (x : Nat) (J : List Nat → List Nat → (Nat → Prop) → World → Prop) (Jx : World → Prop) (e : Ending) (W' : World) : Prop :=
  (e = .returned (.bool true) ∧ ∃ (D' C' : Nat → Prop) (ao : Option Addr) (cap : Nat), WS c met N0 D' (⟨x, nextN c.ins x, ao, cap⟩ :: es) (m ++ [x]) W' ∧ J (m ++ [x]) l C' W' ∧ ∀ k, C' k → ¬ D' k) ∨ (e = .returned (.bool false) ∧ Jx W')

set_option maxRecDepth 100000 in
set_option maxHeartbeats 2000000 in
theorem enter_calls (c : Cod) (met : Value) (N0 : Nat) (D : Nat → Prop) (es : List Ent) (m l : List Nat) (x : Nat) (xi : Ins) (J : List Nat → List Nat → (Nat → Prop) → World → Prop) (Jx : World → Prop) (C : Nat → Prop) (W : World)
    (hws : WS c met N0 D es m W) (hJ : J m l C W) (hCd : ∀ k, C k → ¬ D k) (hJC : ∀ m l C W, J m l C W → ∀ k, C k → k < W.heap.size ∧ ∀ a, c.insA = some a → a.block ≠ k)
    (hst : ∀ m l C W W', J m l C W → Ext (fun k => N0 ≤ k ∧ ¬ C k) W W' → J m l C W')
    (hx : c.ins[x]? = some xi) (hn : c.ins.length ≤ 90000) (hel : es.length ≤ 90000)
    (hmeet : ∀ C W, J m l C W → Meets Try.prog met #[.int .i64 (x : Int)] W fun v W' => (v = .bool true ∧ ∃ C' : Nat → Prop, (∀ k, C' k → C k ∨ W.heap.size ≤ k) ∧ J (m ++ [x]) l C' W' ∧ Ext C W W') ∨ (v = .bool false ∧ Jx W')) :
    Calls Try.prog 77 #[.int .i64 (x : Int), .pointer (some ⟨N0 + 3, 0, none⟩), .pointer (some ⟨N0 + 4, 0, none⟩), .pointer (some ⟨N0, 0, none⟩), .pointer (some ⟨N0 + 1, 0, none⟩)] W (Entered c met N0 es m l x J Jx) := by
  have hxl : x < c.ins.length := (List.getElem?_eq_some_iff.1 hx).1
  have hxI : (x : Int) < (c.ins.length : Int) := by omega
  obtain ⟨k0, k1, k2, k3, k4, k5, k6, k7⟩ := hws.cells
  have hsv : W.cell? ⟨N0 + 3, 0, none⟩ = some (.slice (some ⟨N0 + 2, 0, none⟩) c.ins.length c.ins.length) := by rw [cell_of_row _ _ _ _ _ _ hws.seenv]; rfl
  have hsc : W.cell? ⟨N0 + 2, x, none⟩ = some (.bool (decide (x ∈ m))) := by rw [cell_of_row _ _ _ _ _ _ hws.seen]; exact seenCells_get m hxl
  have hsf : W.frozen? ⟨N0 + 2, x, none⟩ = false := frozen_of_row _ _ _ _ _ hws.seen
  obtain ⟨sv, hstk, hrow, hblk⟩ := hws.stk
  have hstc : W.cell? ⟨N0 + 4, 0, none⟩ = some sv := by rw [cell_of_row _ _ _ _ _ _ hstk]; rfl
  have HW := Lib.hid hws
  have HX := Lib.hid hx
  have HST := Lib.hid hstk
  have HROW := Lib.hid hrow
  have HBLK := Lib.hid hblk
  have HJ := Lib.hid hJ
  have HCD := Lib.hid hCd
  have HJC := Lib.hid hJC
  have HS := Lib.hid hst
  have HM := Lib.hid hmeet
  clear hws hx hstk hrow hblk hJ hCd hJC hst hmeet
  obtain ⟨nm, par, varsA, nvars, varsC, rp, rto, rcl, fromA, nfrom, fromC, insA, insC, ins⟩ := c
  simp only at k0 k1 k2 k3 k4 k5 k6 k7 hsv hsc hxl hxI hn
  go_enter Try.func77, Try.ntmps77
  go_upto_region 2 with (fail)
  obtain ⟨W1, hW1⟩ : ∃ W1, W.setCell ⟨N0 + 2, x, none⟩ (.bool true) = W1 := ⟨_, rfl⟩
  rw [hW1]
  have hws1 := HW.out.mark x
  rw [hW1] at hws1
  have hx1 : Ext (· = N0 + 2) W W1 := by rw [← hW1]; exact Ext.set1 _ _ _ _
  have HJ1 : Hid (J m l C W1) := HS.out _ _ _ _ _ HJ.out (hx1.mono fun k hk => by subst hk; exact ⟨by omega, fun h => HCD.out _ h (HW.out.dB 2 (by omega))⟩)
  clear k0 k1 k2 k3 k4 k5 k6 k7 hsv hsc hsf hstc HST HROW HBLK HJ hW1 hx1
  have HW1 := Lib.hid hws1
  obtain ⟨sv1, hstk, hrow, hblk⟩ := hws1.stk
  have HROW := Lib.hid hrow
  have HBLK := Lib.hid hblk
  have HSTK := Lib.hid hstk
  have HSW : Hid (∀ w', Below W1.heap.size W1 w' → w'.cell? ⟨N0 + 4, 0, none⟩ = some sv1 ∧ w'.cell? ⟨N0, 0, none⟩ = some (.string nm) ∧ w'.cell? ⟨N0, 1, none⟩ = some (.int .i64 par) ∧ w'.cell? ⟨N0, 2, none⟩ = some (.slice varsA nvars varsC) ∧ w'.cell? ⟨N0, 3, none⟩ = some (.bool rp) ∧
    w'.cell? ⟨N0, 4, none⟩ = some (.string rto) ∧ w'.cell? ⟨N0, 5, none⟩ = some (.int .i64 rcl) ∧ w'.cell? ⟨N0, 6, none⟩ = some (.slice fromA nfrom fromC) ∧ w'.cell? ⟨N0, 7, none⟩ = some (.slice insA ins.length insC)) := by
    intro w' hb
    obtain ⟨k0, k1, k2, k3, k4, k5, k6, k7⟩ := hws1.cells
    have hl0 := hws1.hi _ (hws1.dB 0 (by omega))
    have hl4 := hws1.hi _ (hws1.dB 4 (by omega))
    have q : ∀ j, w'.cell? ⟨N0, j, none⟩ = W1.cell? ⟨N0, j, none⟩ := fun j => hb.cell (p := ⟨N0, j, none⟩) (by show N0 < _; omega)
    refine ⟨?_, ?_, ?_, ?_, ?_, ?_, ?_, ?_, ?_⟩
    · rw [hb.cell (p := ⟨N0 + 4, 0, none⟩) hl4, cell_of_row _ _ _ _ _ _ hstk]; rfl
    all_goals (rw [q]; assumption)
  have HF : Hid (Calls Try.prog 57 #[.agg #[.string nm, .int .i64 par, .slice varsA nvars varsC, .bool rp, .string rto, .int .i64 rcl, .slice fromA nfrom fromC, .slice insA ins.length insC], .int .i64 (x : Int)] W1.drew (GivesI W1.drew (ints (nextN ins x)))) :=
    flow_nextN ⟨nm, par, varsA, nvars, varsC, rp, rto, rcl, fromA, nfrom, fromC, insA, insC, ins⟩ x W1.drew (hws1.ins.mono (Nat.le_of_lt (hws1.hi _ (hws1.dB 0 (by omega))))) hxl hn
  have HFZ : Hid (∀ (w2 : World) (g cap3 : Nat) (w3 : World) (o : Obj), Below W1.heap.size W1 w2 → (w2.alloc o).grownBy w3 sv1.ownBlock → w3.frozen? ⟨N0 + 4, 0, none⟩ = false) := by
    intro w2 g cap3 w3 o hb hg
    have hl4 := hws1.hi _ (hws1.dB 4 (by omega))
    have hsz := hb.size
    rw [World.frozen?_of_block (w := w2.alloc o) (hg.block (N0 + 4) (by rw [World.size_alloc]; omega) (fun e => by have := (hrow.lt _ e.symm).1; omega)),
      World.frozen?_of_block (w := w2) (a := ⟨N0 + 4, 0, none⟩) (Below.heap_alloc _ _ _ (by show N0 + 4 < _; omega)), hb.frozen (p := ⟨N0 + 4, 0, none⟩) hl4]
    exact frozen_of_row _ _ _ _ _ hstk
  clear hstk hrow hblk hws1
  obtain ⟨i6, hi6, hz6, hsz6, hby6⟩ := info_parts info_stop
  have hS1 := HSW.out W1 (Below.refl _ _)
  have hN04 : N0 + 4 < W1.heap.size := HW1.out.hi _ (HW1.out.dB 4 (by omega))
  obtain ⟨q0, q1, q2, q3, q4, q5, q6, q7, q8⟩ := hS1
  obtain ⟨Mid, hMid⟩ : ∃ Mid : World → Prop, Mid = fun w => ∃ (D' : Nat → Prop) (ao : Option Addr) (cap : Nat), WS ⟨nm, par, varsA, nvars, varsC, rp, rto, rcl, fromA, nfrom, fromC, insA, insC, ins⟩ met N0 D' (⟨x, nextN ins x, ao, cap⟩ :: es) (m ++ [x]) w ∧ (∀ k, D' k → D k ∨ W1.heap.size ≤ k) ∧ Ext D W1 w := ⟨_, rfl⟩
  have HMP : Hid (∀ (w2 w3 : World) (g cap cap3 : Nat) (ao : Option Addr) (o : Obj), Below W1.heap.size W1 w2 → OwnI w2 W1.heap.size (.slice ao (ints (nextN ins x)).length cap) (ints (nextN ins x)) → (w2.alloc o).grownBy w3 sv1.ownBlock →
      w3.ownsRow (N0 + 5) 106 2 (.slice (some ⟨g, 0, none⟩) (es.length + 1) cap3) (es.length + 1) (entCells es ++ [.int .i64 (x : Int), .slice ao (ints (nextN ins x)).length cap]) →
      (sv1.ownBlock = some g ∨ g = (w2.alloc o).heap.size) → g < w3.heap.size → Mid (w3.setCell ⟨N0 + 4, 0, none⟩ (.slice (some ⟨g, 0, none⟩) (es.length + 1) cap3))) := by
    intro w2 w3 g cap cap3 ao o h1 h2 h3 h4 h5 h6
    have h := HW1.out.push (x := x) (xs := nextN ins x) HSTK.out HROW.out HBLK.out h1 h2 h3 h4 h5 h6
    rw [hMid]
    exact ⟨_, ao, cap, h.1, fun k hk => hk.imp id And.left, h.2⟩
  have HMI := Lib.hid hMid
  clear hMid
  refine wp_normal (fun a w => (∃ u10 u11 u12 u13 u14 u15 u16 u17 : Value, a = { tmps := #[.int .i64 (x : Int), .pointer (some ⟨N0 + 3, 0, none⟩), .pointer (some ⟨N0 + 4, 0, none⟩), .pointer (some ⟨N0, 0, none⟩), .pointer (some ⟨N0 + 1, 0, none⟩), undef, .bool false,
    .slice (some ⟨N0 + 2, 0, none⟩) ins.length ins.length, .int .i64 (x : Int), .pointer (some ⟨N0 + 2, x, none⟩), u10, u11, u12, u13, u14, u15, u16, u17, undef, undef, undef], defers := [] }) ∧ Mid w) ?_ ?_
  · rintro a w ⟨⟨u10, u11, u12, u13, u14, u15, u16, u17, rfl⟩, hm⟩
    rw [HMI.out] at hm
    obtain ⟨D', ao, cap, hws2, hD', hx2⟩ := hm
    have hmb : w.cell? ⟨N0 + 1, 0, none⟩ = some met := by rw [cell_of_row _ _ _ _ _ _ hws2.metb]; rfl
    have HW2 := Lib.hid hws2
    have HD' := Lib.hid hD'
    have HX2 := Lib.hid hx2
    clear hws2 hD' hx2 HMP HF HFZ HSW HROW HBLK hi6 hz6 hsz6 hby6 q0 q1 q2 q3 q4 q5 q6 q7 q8
    go_upto_region 3 with (fail)
    refine (wpIn_wide (n := 0)).1 ?_
    have HCD2 : Hid (∀ k, C k → ¬ D' k) := fun k hk hd => by
      rcases HD'.out k hd with h | h
      · exact HCD.out k hk h
      · have := (HJC.out _ _ _ _ HJ1.out k hk).1; omega
    have HMM : Hid (Meets Try.prog met #[.int .i64 (x : Int)] w fun v W' => (v = .bool true ∧ ∃ C' : Nat → Prop, (∀ k, C' k → C k ∨ w.heap.size ≤ k) ∧ J (m ++ [x]) l C' W' ∧ Ext C w W') ∨ (v = .bool false ∧ Jx W')) :=
      HM.out _ _ (HS.out _ _ _ _ _ HJ1.out (HX2.out.mono fun k hk => ⟨HW1.out.lo k hk, fun h => HCD.out k h hk⟩))
    refine wpIn_region_lit (wpListIn_ok rfl (by simp) met (w' := w) (by simp [go_sem, hmb]) ?_)
    simp only [Act.put, List.setIfInBounds_toArray, List.set_cons_zero, List.set_cons_succ]
    refine wpListIn_ok rfl (by simp) (.int .i64 (x : Int)) (w' := w) rfl ?_
    simp only [Act.put, List.setIfInBounds_toArray, List.set_cons_zero, List.set_cons_succ]
    refine wpListIn_meets (fv := met) (args := #[.int .i64 (x : Int)]) rfl (.tmp 18) #[.tmp 19] _ rfl rfl (by simp [Act.eval]) HMM.out ?_
    intro v w3 hv
    simp only [Act.put, List.setIfInBounds_toArray, List.set_cons_zero, List.set_cons_succ]
    refine wpListIn_ok rfl (by simp) v (w' := w3) rfl ?_
    simp only [Act.put, List.setIfInBounds_toArray, List.set_cons_zero, List.set_cons_succ]
    refine wpListIn_nil ?_
    have HV := Lib.hid hv
    clear hv
    go_wp2
    go_ret
    rcases HV.out with ⟨rfl, C', hC', hJ', hx'⟩ | ⟨rfl, hJ'⟩
    · left
      refine ⟨rfl, D', C', ao, cap, HW2.out.ext hx' (fun k hk h => HCD2.out k h hk) (fun a _ ha h => (HJC.out _ _ _ _ HJ1.out _ h).2 a ha rfl), hJ', fun k hk hd => ?_⟩
      rcases hC' k hk with h | h
      · exact HCD2.out k h hd
      · have := HW2.out.hi k hd; omega
    · exact .inr ⟨rfl, hJ'⟩
  go_region_law
    (first
      | (refine step_append_lies _ (by rfl) (.tmp 10) (.tmp 16) 104 (by rfl) (N0 + 5) 106 i6 _ 2 32 Try.underlying104 hi6 hz6 hsz6 hby6 rfl (by decide) sv1 es.length (entCells es) (by rfl) (ownsRow_below HROW.out (hbel.alloc hbel.size _)) ⟨w2.heap.size, 0, none⟩ 1 1 [.int .i64 (x : Int), .slice ao (ints (nextN ins x)).length cap] (by rfl) rfl (cells_new _ _ _) (by simp [Value.oneCell']) (by decide) (by unfold maxLen; omega) (by omega) (by have := hbel.size; rw [World.size_alloc]; omega) _ rfl ?_
         intro g cap3 w3 hown3 hgrow3 hat3 hlt3
         have hsc3 : w3.cell? ⟨N0 + 4, 0, none⟩ = some sv1 := hgrow3.cell (a := ⟨N0 + 4, 0, none⟩) (HSW.out _ (hbel.alloc hbel.size _)).1 (fun e => by have := (HROW.out.lt _ e.symm).1; simp at this)
         have hsf3 : w3.frozen? ⟨N0 + 4, 0, none⟩ = false := HFZ.out w2 g cap3 w3 _ hbel hgrow3)
      | (go_simp; go_at_call 57; refine HF.out.mono ?_; rintro e w2 ⟨ao, cap, rfl, hown, hbel0⟩; have hbel : Below W1.heap.size W1 w2 := (Below.refl _ W1).drew.trans hbel0; obtain ⟨r0, r1, r2, r3, r4, r5, r6, r7, r8⟩ := HSW.out w2 hbel; have hlt4 : N0 + 4 < w2.heap.size := Nat.lt_of_lt_of_le hN04 hbel.size))
  all_goals exact ⟨⟨_, _, _, _, _, _, _, _, rfl⟩, HMP.out _ _ _ _ _ _ _ hbel hown hgrow3 hown3 hat3 hlt3⟩
end Go.Proofs.Ytpbkkajgcdahcaa
