/- The chapter's example. -/
import Derived.Test.YtpbkkajgcdahcaaBlocks
namespace Go.Proofs.Ytpbkkajgcdahcaa
open Go.RowKit Go.Maps

def plainIns (op : Int) : Ins := ⟨op, 0, 0, 0, 0, 0, { data := #[] }, .slice none 0 0, .slice none 0 0, 0, 0, 0, 0, []⟩
def aliveIns : List Ins := [plainIns 1, plainIns 1, plainIns 18]

theorem alive_next : nextN aliveIns 0 = [1] ∧ nextN aliveIns 1 = [2] ∧ nextN aliveIns 2 = [] := by
  refine ⟨?_, ?_, ?_⟩ <;> simp [nextN, aliveIns, plainIns, nextOf, inR]

theorem alive_wlk : wlk (nextN aliveIns) 10 [(0, nextN aliveIns 0)] [0] [] = some ([0, 1, 2], [2, 1, 0]) := by
  obtain ⟨h0, h1, h2⟩ := alive_next
  simp [wlk, h0, h1, h2]

theorem alive_order : OrderL aliveIns [2, 1, 0] := ⟨fun h => by simp [aliveIns] at h, fun _ => ⟨10, [0, 1, 2], alive_wlk, by simp, by simp⟩⟩

theorem alive_from : FromL aliveIns 0 [0, 1, 2] := ⟨fun _ => ⟨10, 0, [2, 1, 0], rfl, alive_wlk⟩, fun h => by simp [inR, aliveIns] at h⟩

theorem alive_loops : loopsOf aliveIns [2, 1, 0] = [] := by
  obtain ⟨h0, h1, h2⟩ := alive_next
  simp [loopsOf, headsOf, headStep, ints, h0, h1, h2, addHeads]

theorem alive_blocks : (blocksOf aliveIns [0, 1, 2]).length = 1 := by
  obtain ⟨h0, h1, h2⟩ := alive_next
  have hl : List.range aliveIns.length = [0, 1, 2] := rfl
  have hb : beginsOf aliveIns [0, 1, 2] = [3] := by
    unfold beginsOf
    rw [hl]
    simp only [List.foldl_cons, List.foldl_nil, beginStep, h0, h1, h2]
    simp [aliveIns, plainIns, leapOp, ints]
  unfold blocksOf
  rw [hb, hl]
  simp [blockStep, setEnd]

def aliveRow : Array Value := #[.int .i64 1, .int .i64 0, .int .i64 0, .int .i64 0, .int .i64 0, .int .i64 0, .string { data := #[] }, .slice none 0 0, .slice none 0 0, .int .i64 0, .int .i64 0, .int .i64 0, .int .i64 0,
  .int .i64 1, .int .i64 0, .int .i64 0, .int .i64 0, .int .i64 0, .int .i64 0, .string { data := #[] }, .slice none 0 0, .slice none 0 0, .int .i64 0, .int .i64 0, .int .i64 0, .int .i64 0,
  .int .i64 18, .int .i64 0, .int .i64 0, .int .i64 0, .int .i64 0, .int .i64 0, .string { data := #[] }, .slice none 0 0, .slice none 0 0, .int .i64 0, .int .i64 0, .int .i64 0, .int .i64 0]

def aliveCod (N : Nat) : Cod := ⟨{ data := #[] }, 0, none, 0, 0, false, { data := #[] }, 0, none, 0, 0, some ⟨N, 0, none⟩, 3, aliveIns⟩

theorem alive_row (w : World) (N : Nat) (h : w.heap[N]? = some (.cells aliveRow 61 (0, 0))) : InsRow w w.heap.size (some ⟨N, 0, none⟩) aliveIns := by
  intro _
  refine ⟨N, 0, rfl, (Array.getElem?_eq_some_iff.1 h).1, fun i x hx k u hu => ?_⟩
  rw [cell_of_row _ _ _ _ _ _ h]
  have hi : i < 3 := (List.getElem?_eq_some_iff.1 hx).1
  have hk : k < 13 := by
    have hl : x.cells.toList.length = 13 := rfl
    have := (List.getElem?_eq_some_iff.1 hu).1; omega
  obtain rfl | rfl | rfl : i = 0 ∨ i = 1 ∨ i = 2 := by omega
  all_goals
    simp [aliveIns] at hx
    subst hx
    obtain rfl | rfl | rfl | rfl | rfl | rfl | rfl | rfl | rfl | rfl | rfl | rfl | rfl : k = 0 ∨ k = 1 ∨ k = 2 ∨ k = 3 ∨ k = 4 ∨ k = 5 ∨ k = 6 ∨ k = 7 ∨ k = 8 ∨ k = 9 ∨ k = 10 ∨ k = 11 ∨ k = 12 := by omega
    all_goals (simp [plainIns, Ins.cells] at hu; subst hu; rfl)

set_option maxRecDepth 100000 in
set_option maxHeartbeats 2000000 in
theorem alive_calls (w : World) : Calls Try.prog 15 #[] w fun e w' => e = .returned (.bool true) ∧ Below w.heap.size w w' := by
  obtain ⟨N, hN⟩ : ∃ N, w.heap.size = N := ⟨_, rfl⟩
  obtain ⟨W1, hW1⟩ : ∃ W1, (w.alloc (.cells aliveRow 61)).alloc (.cells (aliveCod N).cells 30) = W1 := ⟨_, rfl⟩
  have h0 : W1.heap[N]? = some (.cells aliveRow 61 (0, 0)) := by
    rw [← hW1, ← hN, Below.heap_alloc _ _ _ (by simp)]; exact alloc_at _ _
  have h1 : W1.heap[N + 1]? = some (.cells (aliveCod N).cells 30 (0, 0)) := by
    rw [← hW1, ← hN]
    have := alloc_at (w.alloc (.cells aliveRow 61)) (.cells (aliveCod w.heap.size).cells 30)
    rwa [World.size_alloc] at this
  have hx1 : Ext (fun _ => False) w W1 := by rw [← hW1]; exact ((Ext.refl _ w).alloc _).alloc _
  have HK : Hid (∀ W, Below W1.heap.size W1 W → InsRow W W.heap.size (some ⟨N, 0, none⟩) aliveIns ∧ (W.cell? ⟨N + 1, 0, none⟩ = some (.string { data := #[] }) ∧ W.cell? ⟨N + 1, 1, none⟩ = some (.int .i64 0) ∧ W.cell? ⟨N + 1, 2, none⟩ = some (.slice none 0 0) ∧ W.cell? ⟨N + 1, 3, none⟩ = some (.bool false) ∧
      W.cell? ⟨N + 1, 4, none⟩ = some (.string { data := #[] }) ∧ W.cell? ⟨N + 1, 5, none⟩ = some (.int .i64 0) ∧ W.cell? ⟨N + 1, 6, none⟩ = some (.slice none 0 0) ∧ W.cell? ⟨N + 1, 7, none⟩ = some (.slice (some ⟨N, 0, none⟩) 3 3))) := by
    intro W hb
    have g0 := (hb.block N (Array.getElem?_eq_some_iff.1 h0).1).trans h0
    have g1 := (hb.block (N + 1) (Array.getElem?_eq_some_iff.1 h1).1).trans h1
    refine ⟨alive_row W N g0, ?_, ?_, ?_, ?_, ?_, ?_, ?_, ?_⟩ <;> (rw [cell_of_row _ _ _ _ _ _ g1]; rfl)
  have HX1 := Lib.hid hx1
  have HW1 := Lib.hid hW1
  have HO : Hid (∀ W, Below W1.heap.size W1 W → Calls Try.prog 16 #[.agg #[.string { data := #[] }, .int .i64 0, .slice none 0 0, .bool false, .string { data := #[] }, .int .i64 0, .slice none 0 0, .slice (some ⟨N, 0, none⟩) 3 3]] W (GivesI W (ints [0, 1, 2]))) :=
    fun W hb => order_calls (aliveCod N) W [2, 1, 0] (HK.out W hb).1 (by show 3 ≤ 90000; omega) alive_order
  have HB : Hid (∀ W, Below W1.heap.size W1 W → Calls Try.prog 20 #[.agg #[.string { data := #[] }, .int .i64 0, .slice none 0 0, .bool false, .string { data := #[] }, .int .i64 0, .slice none 0 0, .slice (some ⟨N, 0, none⟩) 3 3]] W (GivesP W (blocksOf aliveIns [0, 1, 2]))) :=
    fun W hb => blocks_calls (aliveCod N) W [0, 1, 2] (by intro x hx; simp [aliveCod, aliveIns] at hx; rcases hx with rfl | rfl <;> exact ⟨rfl, rfl⟩) (HK.out W hb).1 (by show 3 ≤ 90000; omega) alive_from (by simp)
  have HL : Hid (∀ W, Below W1.heap.size W1 W → Calls Try.prog 18 #[.agg #[.string { data := #[] }, .int .i64 0, .slice none 0 0, .bool false, .string { data := #[] }, .int .i64 0, .slice none 0 0, .slice (some ⟨N, 0, none⟩) 3 3]] W (GivesI W [])) := by
    intro W hb
    have := loops_calls (aliveCod N) W [2, 1, 0] (HK.out W hb).1 (by show 3 ≤ 90000; omega) alive_order (by simp) (by show ∀ x ∈ [2, 1, 0], x < 3; simp)
    have e : loopsOf (aliveCod N).ins [2, 1, 0] = [] := alive_loops
    rw [e] at this
    exact this
  clear h0 h1 hx1 hW1
  go_enter Try.func15, Try.ntmps15
  go_wp2_with fail
  go_at_call 16
  try rw [hN]
  have HO1 := HO.out W1 (Below.refl _ _)
  rw [← HW1.out] at HO1
  refine HO1.mono ?_
  rw [HW1.out]
  clear HO1
  rintro e W2 ⟨ao, cap, rfl, hown, hb2⟩
  obtain ⟨g, rfl, hg1, hg2, hgc⟩ := hown.shape (by simp [ints])
  have c0 : W2.cell? ⟨g, 0, none⟩ = some (.int .i64 0) := hgc 0 0 rfl
  have c2 : W2.cell? ⟨g, 2, none⟩ = some (.int .i64 2) := hgc 2 2 rfl
  have hl3 : (ints [0, 1, 2]).length = 3 := rfl
  rw [hl3]
  obtain ⟨_, k0, k1, k2, k3, k4, k5, k6, k7⟩ := HK.out W2 hb2
  have HB2 := Lib.hid (HB.out W2 hb2)
  have HBB := Lib.hid hb2
  have HLE := Lib.hid alive_blocks
  clear hown hgc hl3 hg1 hg2 hb2
  go_wp2_with fail
  go_at_call 20
  refine HB2.out.mono ?_
  rintro e W3 ⟨ao3, cap3, rfl, _, hb3⟩
  rw [HLE.out]
  have hb13 : Below W1.heap.size W1 W3 := HBB.out.trans (hb3.mono HBB.out.size)
  obtain ⟨_, k0, k1, k2, k3, k4, k5, k6, k7⟩ := HK.out W3 hb13
  have HL3 := Lib.hid (HL.out W3 hb13)
  have HB13 := Lib.hid hb13
  clear hb3 hb13
  go_wp2_with fail
  go_at_call 18
  refine HL3.out.mono ?_
  rintro e W4 ⟨ao4, cap4, rfl, _, hb4⟩
  have HB14 := Lib.hid (HB13.out.trans (hb4.mono HB13.out.size))
  clear hb4
  simp only [List.length_nil]
  go_wp2
  go_ret
  refine ⟨rfl, ?_⟩
  have := HX1.out.trans (M' := fun k => W1.heap.size ≤ k) (Ext.of_below HB14.out) (fun k hk => .inr (by have := HX1.out.size; omega))
  exact this.below (by omega) (fun _ h => h.elim)
end Go.Proofs.Ytpbkkajgcdahcaa
