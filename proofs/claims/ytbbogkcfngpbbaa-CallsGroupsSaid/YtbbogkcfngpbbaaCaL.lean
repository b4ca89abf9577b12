/- Is a module short? What must come at any rate. -/
import Derived.Test.YtbbogkcfngpbbaaCaO3
import Derived.Test.YtbbogkcfngpbbaaCaH
import Derived.Test.YtbbogkcfngpbbaaCaA
namespace Go.Proofs.Ytbbogkcfngpbbaa
open Go.RowKit

theorem rowMapC {α β : Type} {f : α → β} {cells : β → Array Value} {stride : Nat} {w : World} {B : Nat} {ao : Option Addr} {xs : List α} (h : RowOf (fun a => cells (f a)) stride w B ao xs) : RowOf cells stride w B ao (xs.map f) := by
  intro hne
  obtain ⟨b, off, h1, h2, h3⟩ := h (fun e => hne (by rw [e]; rfl))
  refine ⟨b, off, h1, h2, fun i y hy k u hu => ?_⟩
  rw [List.getElem?_map] at hy
  obtain ⟨x, hx, rfl⟩ := Option.map_eq_some_iff.1 hy
  exact h3 i x hx k u hu

def Mo.lightC (m : Mo) : Prop := LightM (m.ss.map St.s) (m.fs.map Fn.c)

theorem lightC_calls (w : World) (m : Mo) (hm : m.inn w) : Calls Try.prog 21 #[.agg m.cells] w (SaysIf w w.heap.size m.lightC) := by
  have h := light5_calls w m.sA m.fA m.sC m.fC (m.ss.map St.s) (m.fs.map Fn.c) (rowMapC hm.srow) (rowMapC hm.frow) (by
    intro c hc; obtain ⟨f, hf, rfl⟩ := List.mem_map.1 hc; exact (hm.fin f hf).code.row) (by
    intro c hc x hx; obtain ⟨f, hf, rfl⟩ := List.mem_map.1 hc; exact ((hm.fin f hf).code.args x hx).1) (by have := hm.ns; unfold maxLen at this; simpa using this) (by have := hm.nf; unfold maxLen at this; simpa using this)
  simp only [List.length_map] at h
  exact h

theorem total_ins : ∀ fs : List Fn, (fs.map fun f => f.c.ins.length).sum ≤ totalOf (fs.map Fn.c)
  | [] => by simp [totalOf]
  | x :: r => by
    have := total_ins r
    rw [List.map_cons, List.sum_cons, List.map_cons]
    show _ ≤ x.c.ins.length + x.c.nvars + totalOf (r.map Fn.c)
    omega

/-- A short module may go to calls.Of. -/
def Mo.shortC (m : Mo) : Prop := m.fs.length ≤ 12 ∧ m.lightC

theorem OfIn.of {w : World} {m : Mo} (hm : m.inn w) (hs : m.shortC) : OfIn w m := by
  refine ⟨hm.frow, fun f hf => (hm.fin f hf).code.row, fun f hf i hi => ?_, by have := hs.1; omega, Nat.le_trans (total_ins m.fs) hs.2.2.2.2.2⟩
  obtain ⟨⟨⟨a1, c1, e1⟩, a2, n2, c2, e2⟩, _⟩ := (hm.fin f hf).code.args i hi
  rw [e1, e2]; exact ⟨rfl, rfl⟩

set_option maxRecDepth 100000 in
set_option maxHeartbeats 2000000 in
theorem light11_calls (w : World) (m : Mo) (hm : m.inn w) : Calls Try.prog 32 #[.agg m.cells] w (SaysIf w w.heap.size m.shortC) := by
  obtain ⟨M, hM⟩ : ∃ M, m = M := ⟨_, rfl⟩
  have HM := Lib.hid hM
  have HIN := Lib.hid hm
  have hnf := hm.nf
  clear hm hM
  obtain ⟨sA, sC, fA, fC, ss, fs⟩ := m
  simp only at hnf
  simp only [Mo.cells]
  obtain ⟨N, hN⟩ : ∃ N, w.heap.size = N := ⟨_, rfl⟩
  obtain ⟨W1, hW1⟩ : ∃ W1, w.alloc (.cells #[.slice sA ss.length sC, .slice fA fs.length fC] 38) = W1 := ⟨_, rfl⟩
  have q1 : W1.heap[N]? = some (.cells #[.slice sA ss.length sC, .slice fA fs.length fC] 38 (0, 0)) := by rw [← hW1, ← hN]; exact alloc_at _ _
  have c1 : W1.cell? ⟨N, 0, none⟩ = some (.slice sA ss.length sC) := (cell_of_row _ _ _ _ _ _ q1).trans rfl
  have c2 : W1.cell? ⟨N, 1, none⟩ = some (.slice fA fs.length fC) := (cell_of_row _ _ _ _ _ _ q1).trans rfl
  have hb1 : Below w.heap.size w W1 := by rw [← hW1]; exact (Below.refl _ _).alloc (Nat.le_refl _) _
  have HLI := Lib.hid (lightC_calls W1 M (by rw [← HM.out]; exact HIN.out.below hb1))
  rw [← HM.out] at HLI
  simp only [Mo.cells] at HLI
  have HB1 := Lib.hid hb1
  have HW1 := Lib.hid hW1
  clear q1 hb1 hW1
  by_cases h12 : fs.length ≤ 12
  · go_enter Try.func32, Try.ntmps32
    go_upto_region 1 with (fail)
    rw [HW1.out]
    go_wp2_with (go_at_call 21; refine HLI.out.mono ?_; rintro e w2 ⟨b, rfl, hb, hb2⟩; have HBB := Lib.hid hb; have HB2 := Lib.hid hb2; clear hb hb2)
    go_ret
    refine ⟨b, by cases b <;> rfl, fun hb => ⟨h12, ?_⟩, by first | exact HB1.out.trans (HB2.out.mono HB1.out.size) | rw [← hN]; exact HB1.out.trans (HB2.out.mono HB1.out.size)⟩
    exact HBB.out hb
  · have h12' : decide (fs.length ≤ 12) = false := decide_eq_false h12
    go_enter Try.func32, Try.ntmps32
    go_upto_region 1 with (fail)
    rw [HW1.out]
    go_wp2
    go_ret
    exact ⟨false, rfl, (fun h => by cases h), by rw [← hN]; exact HB1.out⟩
end Go.Proofs.Ytbbogkcfngpbbaa
