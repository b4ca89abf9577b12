import Derived.Test.YtlggjbopfnndbaaQ08
import Derived.Test.YtlggjbopfnndbaaQ44
import Derived.Test.YtlggjbopfnndbaaIrQ

namespace Go.Proofs.Ytlggjbopfnndbaa
open Go.RowKit

theorem rowOf_mapL {α β : Type} {f : α → β} {cells : β → Array Value} {stride : Nat} {w : World} {B : Nat} {ao : Option Addr} {xs : List α} (h : RowOf (fun a => cells (f a)) stride w B ao xs) : RowOf cells stride w B ao (xs.map f) := by
  intro hne
  obtain ⟨b, off, h1, h2, h3⟩ := h (fun e => hne (by rw [e]; rfl))
  refine ⟨b, off, h1, h2, fun i y hy k u hu => ?_⟩
  rw [List.getElem?_map] at hy
  obtain ⟨x, hx, rfl⟩ := Option.map_eq_some_iff.1 hy
  exact h3 i x hx k u hu

def Mo.lightL (m : Mo) : Prop := LightM (m.ss.map St.s) (m.fs.map Fn.c)

theorem lightL_calls (w : World) (m : Mo) (hm : m.inn w) : Calls Try.prog 73 #[.agg m.cells] w (SaysIf w w.heap.size m.lightL) := by
  have h := light5_calls w m.sA m.fA m.sC m.fC (m.ss.map St.s) (m.fs.map Fn.c) (rowOf_mapL hm.srow) (rowOf_mapL hm.frow) (by
    intro c hc; obtain ⟨f, hf, rfl⟩ := List.mem_map.1 hc; exact (hm.fin f hf).code.row) (by
    intro c hc x hx; obtain ⟨f, hf, rfl⟩ := List.mem_map.1 hc; exact ((hm.fin f hf).code.args x hx).1) (by have := hm.ns; unfold maxLen at this; simpa using this) (by have := hm.nf; unfold maxLen at this; simpa using this)
  simp only [List.length_map] at h
  exact h

/-- A short module. -/
def Mo.short17 (m : Mo) : Prop := m.fs.length ≤ 12 ∧ m.lightL

theorem short_right {w : World} {m : Mo} (hm : m.inn w) (hl : m.lightL) : RightIn w m := by
  obtain ⟨h1, h2, h3, h4, _⟩ := hl
  simp only [List.length_map] at h1 h2
  refine ⟨hm, by omega, by omega, fun s hs => ?_, fun f hf => ?_, fun f hf i hi => ?_⟩
  · have h5 := h3 s.s (List.mem_map.2 ⟨s, hs, rfl⟩)
    have h6 := h5.1
    rw [← (hm.sin s hs).nf]; omega
  · obtain ⟨g1, g2, _⟩ := h4 f.c (List.mem_map.2 ⟨f, hf, rfl⟩)
    rw [← (hm.fin f hf).nvars]; omega
  · obtain ⟨g1, g2, _, g4, g5⟩ := h4 f.c (List.mem_map.2 ⟨f, hf, rfl⟩)
    exact (g5 i hi).1

/-- The modes of an instruction that lies in w. -/
noncomputable def mdOf (w : World) (i : Ins) : List Int := by
  classical
  exact if h : ∃ l : List Int, ∃ ao cap, i.modeV = .slice ao l.length cap ∧ IntRow w ao l then h.choose else []

theorem mdOf_at {w : World} {i : Ins} (h : ∃ l : List Int, ∃ ao cap, i.modeV = .slice ao l.length cap ∧ IntRow w ao l) : ModeAt w (mdOf w) i := by
  have e : mdOf w i = h.choose := by unfold mdOf; rw [dif_pos h]
  obtain ⟨ao, cap, h1, h2⟩ := h.choose_spec
  exact ⟨ao, cap, by rw [e]; exact h1, by rw [e]; exact h2⟩

set_option maxRecDepth 100000 in
set_option maxHeartbeats 4000000 in
theorem light12_calls (w : World) (m : Mo) (hm : m.inn w) : Calls Try.prog 41 #[.agg m.cells] w (SaysIf w w.heap.size m.short17) := by
  have HIN := Lib.hid hm
  obtain ⟨N, hN⟩ : ∃ N, w.heap.size = N := ⟨_, rfl⟩
  obtain ⟨W1, hW1⟩ : ∃ W1, w.alloc (.cells m.cells 25) = W1 := ⟨_, rfl⟩
  have hb1 : Below N w W1 := by rw [← hW1, ← hN]; exact (Below.refl _ _).alloc (Nat.le_refl _) _
  have q1 : W1.heap[N]? = some (.cells m.cells 25 (0, 0)) := by rw [← hW1, ← hN]; exact alloc_at _ _
  have hm1 := hm.below (by rw [hN]; exact hb1)
  have c0 : W1.cell? ⟨N, 0, none⟩ = some (.slice m.sA m.ss.length m.sC) := by rw [cell_of_row _ _ _ _ _ _ q1]; rfl
  have c1 : W1.cell? ⟨N, 1, none⟩ = some (.slice m.fA m.fs.length m.fC) := by rw [cell_of_row _ _ _ _ _ _ q1]; rfl
  have HLI := Lib.hid (lightL_calls W1 m hm1)
  simp only [Mo.cells] at HLI
  have HFN : Hid (∀ j, j < m.fs.length → ∃ (fb fo : Nat) (g : Fn), m.fA = some ⟨fb, fo, none⟩ ∧ m.fs[j]? = some g ∧ g.c.ins.length ≤ maxLen ∧ W1.cell? ⟨fb, fo + j * 8 + 7, none⟩ = some (.slice g.c.insA g.c.ins.length g.c.insC)) := by
    intro j hj
    obtain ⟨fb, fo, hA, hb, hc⟩ := hm1.frow (by intro e; rw [e] at hj; simp at hj)
    obtain ⟨g, hg⟩ : ∃ g, m.fs[j]? = some g := ⟨_, List.getElem?_eq_getElem hj⟩
    have hgi := hm1.fin g (List.mem_of_getElem? hg)
    exact ⟨fb, fo, g, hA, hg, hgi.code.len, hc j g hg 7 _ rfl⟩
  have hW1' := hW1
  simp only [Mo.cells] at hW1'
  have HW1 := Lib.hid hW1'
  have HB1 := Lib.hid hb1
  have hnf := hm.nf
  simp only [Mo.cells]
  clear hm hm1 q1 hW1 hW1' hb1
  go_enter Try.func41, Try.ntmps41
  go_upto_region 1 with (fail)
  rw [HW1.out]
  go_wp2_with fail
  go_loop [3, 4] (fun z c => ∃ (j : Nat) (s : Int), j ≤ 20 ∧ c = .int .i64 (j : Int) ∧ z = .int .i64 s) (fun _ c => 20 - (intOf c).toNat)
  case atStart => exact ⟨0, 0, Nat.zero_le _, rfl, rfl⟩
  case round =>
    obtain ⟨j, s, hj, rfl, rfl⟩ := hrel
    by_cases hjl : j < m.fs.length
    · by_cases hj20 : j < 20
      · have hjI : (j : Int) < (m.fs.length : Int) := by omega
        obtain ⟨fb, fo, g, hA, hg, hgl, hc⟩ := HFN.out j hjl
        rw [hA] at c1
        have hd1 : decide (j < m.fs.length) = true := decide_eq_true hjl
        have hd2 : decide ((j : Int) < 20) = true := decide_eq_true (by omega)
        unfold maxLen at hgl
        clear hA hg
        go_wp2
        go_round
        case rel => exact ⟨j + 1, _, by omega, by go_num, rfl⟩
        case measure => simp [intOf]; omega
      · have hd1 : decide (j < m.fs.length) = true := decide_eq_true hjl
        have hd2 : decide ((j : Int) < 20) = false := decide_eq_false (by omega)
        have hd3 : decide (m.fs.length ≤ 12) = false := decide_eq_false (by omega)
        go_wp2
        go_ret
        exact ⟨false, rfl, (fun h => by cases h), by first | exact HB1.out | (rw [hN]; exact HB1.out)⟩
    · have hd1 : decide (j < m.fs.length) = false := decide_eq_false hjl
      skip
      by_cases h12 : m.fs.length ≤ 12
      · by_cases h400 : s ≤ 400
        · have hd4 : decide (s ≤ 400) = true := decide_eq_true (by omega)
          go_wp2_with (go_at_call 73; refine HLI.out.mono ?_; rintro e w2 ⟨b, rfl, hb, hb2⟩; have HBB := Lib.hid hb; have HB2 := Lib.hid hb2; clear hb hb2)
          go_ret
          exact ⟨b, by cases b <;> rfl, fun hb => ⟨h12, HBB.out hb⟩, by first | exact HB1.out.trans (HB2.out.mono (by have := HB1.out.size; omega)) | (rw [hN]; exact HB1.out.trans (HB2.out.mono (by have := HB1.out.size; omega)))⟩
        · have hd4 : decide (s ≤ 400) = false := decide_eq_false (by omega)
          go_wp2
          go_ret
          exact ⟨false, rfl, (fun h => by cases h), by first | exact HB1.out | (rw [hN]; exact HB1.out)⟩
      · have hd3 : decide (m.fs.length ≤ 12) = false := decide_eq_false h12
        go_wp2
        go_ret
        exact ⟨false, rfl, (fun h => by cases h), by first | exact HB1.out | (rw [hN]; exact HB1.out)⟩

set_option maxRecDepth 100000 in
set_option maxHeartbeats 4000000 in
theorem light17_calls (w : World) (m : Mo) (hm : m.inn w) : Calls Try.prog 11 #[.agg m.cells] w (SaysIf w w.heap.size m.short17) := by
  have HIN := Lib.hid hm
  obtain ⟨N, hN⟩ : ∃ N, w.heap.size = N := ⟨_, rfl⟩
  obtain ⟨W1, hW1⟩ : ∃ W1, w.alloc (.cells m.cells 25) = W1 := ⟨_, rfl⟩
  have hb1 : Below N w W1 := by rw [← hW1, ← hN]; exact (Below.refl _ _).alloc (Nat.le_refl _) _
  have q1 : W1.heap[N]? = some (.cells m.cells 25 (0, 0)) := by rw [← hW1, ← hN]; exact alloc_at _ _
  have hm1 := hm.below (by rw [hN]; exact hb1)
  have c0 : W1.cell? ⟨N, 0, none⟩ = some (.slice m.sA m.ss.length m.sC) := by rw [cell_of_row _ _ _ _ _ _ q1]; rfl
  have c1 : W1.cell? ⟨N, 1, none⟩ = some (.slice m.fA m.fs.length m.fC) := by rw [cell_of_row _ _ _ _ _ _ q1]; rfl
  have HLI := Lib.hid (light12_calls W1 m hm1)
  simp only [Mo.cells] at HLI
  have HFN : Hid (∀ j, j < m.fs.length → ∃ (fb fo : Nat) (g : Fn), m.fA = some ⟨fb, fo, none⟩ ∧ m.fs[j]? = some g ∧ g.c.nvars ≤ maxLen ∧ W1.cell? ⟨fb, fo + j * 8 + 2, none⟩ = some (.slice g.c.varsA g.c.nvars g.c.varsC)) := by
    intro j hj
    obtain ⟨fb, fo, hA, hb, hc⟩ := hm1.frow (by intro e; rw [e] at hj; simp at hj)
    obtain ⟨g, hg⟩ : ∃ g, m.fs[j]? = some g := ⟨_, List.getElem?_eq_getElem hj⟩
    have hgi := hm1.fin g (List.mem_of_getElem? hg)
    exact ⟨fb, fo, g, hA, hg, hgi.code.nvars, hc j g hg 2 _ rfl⟩
  have hW1' := hW1
  simp only [Mo.cells] at hW1'
  have HW1 := Lib.hid hW1'
  have HB1 := Lib.hid hb1
  have hnf := hm.nf
  simp only [Mo.cells]
  clear hm hm1 q1 hW1 hW1' hb1
  go_enter Try.func11, Try.ntmps11
  go_upto_region 1 with (fail)
  rw [HW1.out]
  go_wp2_with fail
  go_loop [3, 4] (fun z c => ∃ (j : Nat) (s : Int), j ≤ 20 ∧ c = .int .i64 (j : Int) ∧ z = .int .i64 s) (fun _ c => 20 - (intOf c).toNat)
  case atStart => exact ⟨0, 0, Nat.zero_le _, rfl, rfl⟩
  case round =>
    obtain ⟨j, s, hj, rfl, rfl⟩ := hrel
    by_cases hjl : j < m.fs.length
    · by_cases hj20 : j < 20
      · have hjI : (j : Int) < (m.fs.length : Int) := by omega
        obtain ⟨fb, fo, g, hA, hg, hgl, hc⟩ := HFN.out j hjl
        rw [hA] at c1
        have hd1 : decide (j < m.fs.length) = true := decide_eq_true hjl
        have hd2 : decide ((j : Int) < 20) = true := decide_eq_true (by omega)
        unfold maxLen at hgl
        clear hA hg
        go_wp2
        go_round
        case rel => exact ⟨j + 1, _, by omega, by go_num, rfl⟩
        case measure => simp [intOf]; omega
      · have hd1 : decide (j < m.fs.length) = true := decide_eq_true hjl
        have hd2 : decide ((j : Int) < 20) = false := decide_eq_false (by omega)
        by_cases h200 : s ≤ 200
        · have hd4 : decide (s ≤ 200) = true := decide_eq_true (by omega)
          go_wp2_with (go_at_call 41; refine HLI.out.mono ?_; rintro e w2 ⟨b, rfl, hb, hb2⟩; have HBB := Lib.hid hb; have HB2 := Lib.hid hb2; clear hb hb2)
          go_ret
          exact ⟨b, by cases b <;> rfl, fun hb => HBB.out hb, by first | exact HB1.out.trans (HB2.out.mono (by have := HB1.out.size; omega)) | (rw [hN]; exact HB1.out.trans (HB2.out.mono (by have := HB1.out.size; omega)))⟩
        · have hd4 : decide (s ≤ 200) = false := decide_eq_false (by omega)
          go_wp2
          go_ret
          exact ⟨false, rfl, (fun h => by cases h), by first | exact HB1.out | (rw [hN]; exact HB1.out)⟩
    · have hd1 : decide (j < m.fs.length) = false := decide_eq_false hjl
      skip
      by_cases h200 : s ≤ 200
      · have hd4 : decide (s ≤ 200) = true := decide_eq_true (by omega)
        go_wp2_with (go_at_call 41; refine HLI.out.mono ?_; rintro e w2 ⟨b, rfl, hb, hb2⟩; have HBB := Lib.hid hb; have HB2 := Lib.hid hb2; clear hb hb2)
        go_ret
        exact ⟨b, by cases b <;> rfl, fun hb => HBB.out hb, by first | exact HB1.out.trans (HB2.out.mono (by have := HB1.out.size; omega)) | (rw [hN]; exact HB1.out.trans (HB2.out.mono (by have := HB1.out.size; omega)))⟩
      · have hd4 : decide (s ≤ 200) = false := decide_eq_false (by omega)
        go_wp2
        go_ret
        exact ⟨false, rfl, (fun h => by cases h), by first | exact HB1.out | (rw [hN]; exact HB1.out)⟩
end Go.Proofs.Ytlggjbopfnndbaa
