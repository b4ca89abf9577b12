/- rewrite.Source: where a report is of. -/
import Derived.Test.YtlggjbopfnndbaaG39

namespace Go.Proofs.Ytlggjbopfnndbaa
open Go.RowKit

def diagC (st wh l c : Int) : Array Value := #[.int .i64 st, .int .i64 wh, .int .i64 l, .int .i64 c]

/-- What Source says. -/
def srcF (m : Mo) (st wh l c : Int) : Array Value :=
  if st < 22 ∨ l < 1 ∨ c < 1 then diagC st wh l c
  else match m.fs[(l - 1).toNat]? with
    | none => diagC st wh l c
    | some g => match g.c.ins[(c - 1).toNat]? with
      | none => diagC st wh l c
      | some i => diagC st wh i.ln i.cl

theorem src_results (tmps : Array Value) (w : World) (b : Nat) (u v x y : Value) (ht : tmps[4]? = some (.pointer (some ⟨b, 0, none⟩))) (h0 : w.cell? ⟨b, 0, none⟩ = some u) (h1 : w.cell? ⟨b, 1, none⟩ = some v) (h2 : w.cell? ⟨b, 2, none⟩ = some x) (h3 : w.cell? ⟨b, 3, none⟩ = some y) :
    (results Try.f30 tmps).run Try.prog w = .ok (.agg #[u, v, x, y]) w := by
  have h : Try.f30.results = #[.cell 4 57] := rfl
  have hu : Try.prog.underlying 57 = _ := Try.underlying57
  have hu2 : Try.prog.underlying 55 = _ := Try.underlying55
  simp [results, go_sem, ht, h0, h1, h2, h3]

/-- Behind the store of a report. -/
theorem src_fin {w W : World} {N : Nat} {t : TypeId} {a b c d : Value} (hb : Below N w W) (h : W.heap[N + 1 + 1]? = some (.cells #[a, b, c, d] t (0, 0))) (u v x y : Value) :
    let X := (((W.setCell ⟨N + 1 + 1, 0, none⟩ u).setCell ⟨N + 1 + 1, 1, none⟩ v).setCell ⟨N + 1 + 1, 2, none⟩ x).setCell ⟨N + 1 + 1, 3, none⟩ y
    X.cell? ⟨N + 1 + 1, 0, none⟩ = some u ∧ X.cell? ⟨N + 1 + 1, 1, none⟩ = some v ∧ X.cell? ⟨N + 1 + 1, 2, none⟩ = some x ∧ X.cell? ⟨N + 1 + 1, 3, none⟩ = some y ∧ Below N w X := by
  intro X
  have h1 := heap_setCell_same W (N + 1 + 1) 0 _ _ u h
  have h2 := heap_setCell_same _ (N + 1 + 1) 1 _ _ v h1
  have h3 := heap_setCell_same _ (N + 1 + 1) 2 _ _ x h2
  have h4 := heap_setCell_same _ (N + 1 + 1) 3 _ _ y h3
  have hx : Ext (fun k => k = N + 1 + 1) W X := (((Ext.set1 _ _ _ _).trans (Ext.set1 _ _ _ _) (fun j hj => .inl hj)).trans (Ext.set1 _ _ _ _) (fun j hj => .inl hj)).trans (Ext.set1 _ _ _ _) (fun j hj => .inl hj)
  have hN := (Array.getElem?_eq_some_iff.1 h).1
  exact ⟨by rw [cell_of_row _ _ _ _ _ _ h4]; rfl, by rw [cell_of_row _ _ _ _ _ _ h4]; rfl, by rw [cell_of_row _ _ _ _ _ _ h4]; rfl, by rw [cell_of_row _ _ _ _ _ _ h4]; rfl, hb.trans (hx.below (by omega) (fun k hk => by omega))⟩

set_option maxRecDepth 100000 in
set_option maxHeartbeats 8000000 in
theorem src_calls (m : Mo) (w : World) (hm : m.inn w) (st wh l c : Int) (hl : -9223372036854775808 ≤ l ∧ l ≤ 9223372036854775807) (hc : -9223372036854775808 ≤ c ∧ c ≤ 9223372036854775807) :
    Calls Try.prog 30 #[.agg m.cells, .agg (diagC st wh l c)] w fun e w' => e = .returned (.agg (srcF m st wh l c)) ∧ Below w.heap.size w w' := by
  obtain ⟨N, hN⟩ : ∃ N, w.heap.size = N := ⟨_, rfl⟩
  obtain ⟨W3, hW3⟩ : ∃ W3, ((w.alloc (.cells m.cells 25)).alloc (.cells (diagC st wh l c) 57)).alloc (.cells #[.int .i64 0, .int .i64 0, .int .i64 0, .int .i64 0] 57) = W3 := ⟨_, rfl⟩
  have hb3 : Below N w W3 := by rw [← hW3, ← hN]; exact (((Below.refl _ _).alloc (Nat.le_refl _) _).alloc (by simp) _).alloc (by simp; omega) _
  have hs3 : W3.heap.size = N + 3 := by rw [← hW3]; simp [hN]
  have hr1 : W3.heap[N]? = some (.cells m.cells 25 (0, 0)) := by
    rw [← hW3, Below.heap_alloc _ _ _ (by simp; omega), ← hN]; exact heap_alloc2_old _ _ _
  have hr2 : W3.heap[N + 1]? = some (.cells (diagC st wh l c) 57 (0, 0)) := by
    rw [← hW3, Below.heap_alloc _ _ _ (by simp; omega), ← hN]; exact heap_alloc2_new _ _ _
  have hr3 : W3.heap[N + 1 + 1]? = some (.cells #[.int .i64 0, .int .i64 0, .int .i64 0, .int .i64 0] 57 (0, 0)) := by
    rw [← hW3, ← hN]
    have := alloc_at ((w.alloc (.cells m.cells 25)).alloc (.cells (diagC st wh l c) 57)) (.cells #[.int .i64 0, .int .i64 0, .int .i64 0, .int .i64 0] 57)
    rw [World.size_alloc, World.size_alloc] at this
    exact this
  have c0 : W3.cell? ⟨N, 0, none⟩ = some (.slice m.sA m.ss.length m.sC) := by rw [cell_of_row _ _ _ _ _ _ hr1]; rfl
  have c1 : W3.cell? ⟨N, 1, none⟩ = some (.slice m.fA m.fs.length m.fC) := by rw [cell_of_row _ _ _ _ _ _ hr1]; rfl
  have d0 : W3.cell? ⟨N + 1, 0, none⟩ = some (.int .i64 st) := by rw [cell_of_row _ _ _ _ _ _ hr2]; rfl
  have d1 : W3.cell? ⟨N + 1, 1, none⟩ = some (.int .i64 wh) := by rw [cell_of_row _ _ _ _ _ _ hr2]; rfl
  have d2 : W3.cell? ⟨N + 1, 2, none⟩ = some (.int .i64 l) := by rw [cell_of_row _ _ _ _ _ _ hr2]; rfl
  have d3 : W3.cell? ⟨N + 1, 3, none⟩ = some (.int .i64 c) := by rw [cell_of_row _ _ _ _ _ _ hr2]; rfl
  have y0 : W3.cell? ⟨N + 1 + 1, 0, none⟩ = some (.int .i64 0) := by rw [cell_of_row _ _ _ _ _ _ hr3]; rfl
  have y1 : W3.cell? ⟨N + 1 + 1, 1, none⟩ = some (.int .i64 0) := by rw [cell_of_row _ _ _ _ _ _ hr3]; rfl
  have y2 : W3.cell? ⟨N + 1 + 1, 2, none⟩ = some (.int .i64 0) := by rw [cell_of_row _ _ _ _ _ _ hr3]; rfl
  have y3 : W3.cell? ⟨N + 1 + 1, 3, none⟩ = some (.int .i64 0) := by rw [cell_of_row _ _ _ _ _ _ hr3]; rfl
  have f2 : W3.frozen? ⟨N + 1, 2, none⟩ = false := frozen_of_row _ _ _ _ _ hr2
  have f3 : W3.frozen? ⟨N + 1, 3, none⟩ = false := frozen_of_row _ _ _ _ _ hr2
  have g0 : W3.frozen? ⟨N + 1 + 1, 0, none⟩ = false := frozen_of_row _ _ _ _ _ hr3
  have g1 : W3.frozen? ⟨N + 1 + 1, 1, none⟩ = false := frozen_of_row _ _ _ _ _ hr3
  have g2 : W3.frozen? ⟨N + 1 + 1, 2, none⟩ = false := frozen_of_row _ _ _ _ _ hr3
  have g3 : W3.frozen? ⟨N + 1 + 1, 3, none⟩ = false := frozen_of_row _ _ _ _ _ hr3
  have HFIN : Hid (∀ (nq : Nat) (u v x y : Value), let X := ((((W3.drewN nq).setCell ⟨N + 1 + 1, 0, none⟩ u).setCell ⟨N + 1 + 1, 1, none⟩ v).setCell ⟨N + 1 + 1, 2, none⟩ x).setCell ⟨N + 1 + 1, 3, none⟩ y
      X.cell? ⟨N + 1 + 1, 0, none⟩ = some u ∧ X.cell? ⟨N + 1 + 1, 1, none⟩ = some v ∧ X.cell? ⟨N + 1 + 1, 2, none⟩ = some x ∧ X.cell? ⟨N + 1 + 1, 3, none⟩ = some y ∧ Below N w X) := fun nq u v x y =>
    src_fin (below_drewN hb3 nq) (((below_drewN (Below.refl W3.heap.size W3) nq).block (N + 1 + 1) (by omega)).trans hr3) u v x y
  have HFIN2 : Hid (∀ (nq : Nat) (p q u v x y : Value), let X := ((((((W3.drewN nq).setCell ⟨N + 1, 2, none⟩ p).setCell ⟨N + 1, 3, none⟩ q).setCell ⟨N + 1 + 1, 0, none⟩ u).setCell ⟨N + 1 + 1, 1, none⟩ v).setCell ⟨N + 1 + 1, 2, none⟩ x).setCell ⟨N + 1 + 1, 3, none⟩ y
      X.cell? ⟨N + 1 + 1, 0, none⟩ = some u ∧ X.cell? ⟨N + 1 + 1, 1, none⟩ = some v ∧ X.cell? ⟨N + 1 + 1, 2, none⟩ = some x ∧ X.cell? ⟨N + 1 + 1, 3, none⟩ = some y ∧ Below N w X) := fun nq p q u v x y => by
    have hx : Ext (fun k => k = N + 1) (W3.drewN nq) (((W3.drewN nq).setCell ⟨N + 1, 2, none⟩ p).setCell ⟨N + 1, 3, none⟩ q) := (Ext.set1 _ _ _ _).trans (Ext.set1 _ _ _ _) (fun j hj => .inl hj)
    have hq := ((below_drewN (Below.refl W3.heap.size W3) nq).block (N + 1 + 1) (by omega)).trans hr3
    exact src_fin ((below_drewN hb3 nq).trans (hx.below (by have := (below_drewN hb3 nq).size; have := (below_drewN (Below.refl W3.heap.size W3) nq).size; omega) (fun k hk => by omega))) (hx.heap hq (by omega)) u v x y
  have HM : Hid (m.inn W3) := hm.below (by rw [hN]; exact hb3)
  have hW3' := hW3
  simp only [Mo.cells, diagC] at hW3'
  have HW3 := Lib.hid hW3'
  rw [hN]
  clear hW3 hW3' hs3 hr1 hr2 hr3 hb3 hm
  obtain ⟨R, hR⟩ : ∃ R, srcF m st wh l c = R := ⟨_, rfl⟩
  rw [hR]
  by_cases hs : st < 22
  · have HE : Hid (Ending.returned (.agg (diagC st wh l c)) = Ending.returned (.agg R)) := by rw [← hR]; unfold srcF; rw [if_pos (.inl hs)]; exact Lib.hid rfl
    clear hR
    simp only [Mo.cells, diagC] at HE ⊢
    go_enter Try.func30, Try.ntmps30
    go_upto_region 1 with (fail)
    go_quiet (fail)
    rw [HW3.out]
    go_wp2
    exact bodyPost_ret (src_results _ _ _ _ _ _ _ rfl (HFIN.out _ _ _ _ _).1 (HFIN.out _ _ _ _ _).2.1 (HFIN.out _ _ _ _ _).2.2.1 (HFIN.out _ _ _ _ _).2.2.2.1) rfl ⟨HE.out, (HFIN.out _ _ _ _ _).2.2.2.2⟩
  by_cases h1 : l < 1
  · have HE : Hid (Ending.returned (.agg (diagC st wh l c)) = Ending.returned (.agg R)) := by rw [← hR]; unfold srcF; rw [if_pos (.inr (.inl h1))]; exact Lib.hid rfl
    clear hR
    simp only [Mo.cells, diagC] at HE ⊢
    go_enter Try.func30, Try.ntmps30
    go_upto_region 1 with (fail)
    go_quiet (fail)
    rw [HW3.out]
    go_wp2
    exact bodyPost_ret (src_results _ _ _ _ _ _ _ rfl (HFIN.out _ _ _ _ _).1 (HFIN.out _ _ _ _ _).2.1 (HFIN.out _ _ _ _ _).2.2.1 (HFIN.out _ _ _ _ _).2.2.2.1) rfl ⟨HE.out, (HFIN.out _ _ _ _ _).2.2.2.2⟩
  by_cases h2 : c < 1
  · have HE : Hid (Ending.returned (.agg (diagC st wh l c)) = Ending.returned (.agg R)) := by rw [← hR]; unfold srcF; rw [if_pos (.inr (.inr h2))]; exact Lib.hid rfl
    clear hR
    simp only [Mo.cells, diagC] at HE ⊢
    go_enter Try.func30, Try.ntmps30
    go_upto_region 1 with (fail)
    go_quiet (fail)
    rw [HW3.out]
    go_wp2
    exact bodyPost_ret (src_results _ _ _ _ _ _ _ rfl (HFIN.out _ _ _ _ _).1 (HFIN.out _ _ _ _ _).2.1 (HFIN.out _ _ _ _ _).2.2.1 (HFIN.out _ _ _ _ _).2.2.2.1) rfl ⟨HE.out, (HFIN.out _ _ _ _ _).2.2.2.2⟩
  obtain ⟨f, hf⟩ : ∃ f : Nat, l = (f : Int) + 1 := ⟨(l - 1).toNat, by omega⟩
  obtain ⟨k, hk⟩ : ∃ k : Nat, c = (k : Int) + 1 := ⟨(c - 1).toNat, by omega⟩
  have hwl : wrap64 (l - 1) = (f : Int) := by unfold wrap64; omega
  have hwc : wrap64 (c - 1) = (k : Int) := by unfold wrap64; omega
  have hlf : (l - 1).toNat = f := by omega
  have hck : (c - 1).toNat = k := by omega
  clear hf hk hl hc
  by_cases h3 : (m.fs.length : Int) ≤ (f : Int)
  · have HE : Hid (Ending.returned (.agg (diagC st wh l c)) = Ending.returned (.agg R)) := by rw [← hR]; unfold srcF; rw [if_neg (by omega), hlf, List.getElem?_eq_none (by omega)]; exact Lib.hid rfl
    clear hR
    simp only [Mo.cells, diagC] at HE ⊢
    go_enter Try.func30, Try.ntmps30
    go_upto_region 1 with (fail)
    go_quiet (fail)
    rw [HW3.out]
    go_wp2
    exact bodyPost_ret (src_results _ _ _ _ _ _ _ rfl (HFIN.out _ _ _ _ _).1 (HFIN.out _ _ _ _ _).2.1 (HFIN.out _ _ _ _ _).2.2.1 (HFIN.out _ _ _ _ _).2.2.2.1) rfl ⟨HE.out, (HFIN.out _ _ _ _ _).2.2.2.2⟩
  have h3I : (f : Int) < (m.fs.length : Int) := by omega
  have h3N : f < m.fs.length := by omega
  obtain ⟨g, hg⟩ : ∃ g, m.fs[f]? = some g := ⟨_, List.getElem?_eq_getElem h3N⟩
  have hgm := List.mem_of_getElem? hg
  obtain ⟨fb, fo, hfA, hfb, hfc⟩ := HM.out.frow (by intro e; rw [e] at h3N; simp at h3N)
  have e7 := hfc f g hg 7 _ rfl
  clear hfc
  rw [hfA] at c1
  have HFA := Lib.hid hfA
  clear hfA
  by_cases h4 : (g.c.ins.length : Int) ≤ (k : Int)
  · have HE : Hid (Ending.returned (.agg (diagC st wh l c)) = Ending.returned (.agg R)) := by rw [← hR]; unfold srcF; rw [if_neg (by omega), hlf, hg, hck]; dsimp only; rw [List.getElem?_eq_none (by omega)]; exact Lib.hid rfl
    clear hR
    simp only [Mo.cells, diagC] at HE ⊢
    rw [HFA.out] at HW3 ⊢
    clear hg
    go_enter Try.func30, Try.ntmps30
    go_upto_region 1 with (fail)
    go_quiet (fail)
    rw [HW3.out]
    go_wp2
    exact bodyPost_ret (src_results _ _ _ _ _ _ _ rfl (HFIN.out _ _ _ _ _).1 (HFIN.out _ _ _ _ _).2.1 (HFIN.out _ _ _ _ _).2.2.1 (HFIN.out _ _ _ _ _).2.2.2.1) rfl ⟨HE.out, (HFIN.out _ _ _ _ _).2.2.2.2⟩
  have h4I : (k : Int) < (g.c.ins.length : Int) := by omega
  have h4N : k < g.c.ins.length := by omega
  obtain ⟨i, hi⟩ : ∃ i, g.c.ins[k]? = some i := ⟨_, List.getElem?_eq_getElem h4N⟩
  obtain ⟨b2, o2, hA2, hb2, hc2⟩ := (HM.out.fin g hgm).code.row (by intro e; rw [e] at h4N; simp at h4N)
  have i11 := hc2 k i hi 11 _ rfl
  have i12 := hc2 k i hi 12 _ rfl
  rw [hA2] at e7
  have HE : Hid (Ending.returned (.agg (diagC st wh i.ln i.cl)) = Ending.returned (.agg R)) := by rw [← hR]; unfold srcF; rw [if_neg (by omega), hlf, hg, hck]; dsimp only; rw [hi]; exact Lib.hid rfl
  clear hR hg hi hc2 hA2
  simp only [Mo.cells, diagC] at HE ⊢
  rw [HFA.out] at HW3 ⊢
  go_enter Try.func30, Try.ntmps30
  go_upto_region 1 with (fail)
  go_quiet (fail)
  rw [HW3.out]
  go_wp2
  exact bodyPost_ret (src_results _ _ _ _ _ _ _ rfl (HFIN2.out _ _ _ _ _ _ _).1 (HFIN2.out _ _ _ _ _ _ _).2.1 (HFIN2.out _ _ _ _ _ _ _).2.2.1 (HFIN2.out _ _ _ _ _ _ _).2.2.2.1) rfl ⟨HE.out, (HFIN2.out _ _ _ _ _ _ _).2.2.2.2⟩
end Go.Proofs.Ytlggjbopfnndbaa
