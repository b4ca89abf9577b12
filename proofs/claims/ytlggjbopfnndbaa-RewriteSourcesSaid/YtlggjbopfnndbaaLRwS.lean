/- RewriteSources, at any module and report: true. -/
import Derived.Test.YtlggjbopfnndbaaG39
import Derived.Test.YtlggjbopfnndbaaRewS2
import Derived.Test.YtlggjbopfnndbaaG19
import Derived.Test.YtlggjbopfnndbaaG04

namespace Go.Proofs.Ytlggjbopfnndbaa
open Go.RowKit Go.ChangeShapes Go.WideShapes Go.Deep

theorem srcF_is (m : Mo) (st wh l c : Int) : ∃ x y : Int, srcF m st wh l c = #[.int .i64 st, .int .i64 wh, .int .i64 x, .int .i64 y] := by
  unfold srcF diagC
  split
  · exact ⟨_, _, rfl⟩
  · split
    · exact ⟨_, _, rfl⟩
    · split
      · exact ⟨_, _, rfl⟩
      · exact ⟨_, _, rfl⟩

set_option maxRecDepth 100000 in
set_option maxHeartbeats 8000000 in
theorem rewriteSources_walk (m : Mo) (w : World) (hm : m.inn w) (st wh l c : Int) (hl : -9223372036854775808 ≤ l ∧ l ≤ 9223372036854775807) (hc : -9223372036854775808 ≤ c ∧ c ≤ 9223372036854775807) :
    Calls Try.prog 7 #[.agg m.cells, .agg (diagC st wh l c)] w fun e w' => e = .returned (.bool true) ∧ Below w.heap.size w w' := by
  obtain ⟨N, hN⟩ : ∃ N, w.heap.size = N := ⟨_, rfl⟩
  obtain ⟨W2, hW2⟩ : ∃ W2, (w.alloc (.cells m.cells 25)).alloc (.cells (diagC st wh l c) 57) = W2 := ⟨_, rfl⟩
  have hb2 : Below N w W2 := by rw [← hW2, ← hN]; exact ((Below.refl _ _).alloc (Nat.le_refl _) _).alloc (by simp) _
  have hs2 : W2.heap.size = N + 2 := by rw [← hW2]; simp [hN]
  have hr1 : W2.heap[N]? = some (.cells m.cells 25 (0, 0)) := by rw [← hW2, ← hN]; exact heap_alloc2_old _ _ _
  have hr2 : W2.heap[N + 1]? = some (.cells (diagC st wh l c) 57 (0, 0)) := by rw [← hW2, ← hN]; exact heap_alloc2_new _ _ _
  have HK : Hid (∀ W, Below W2.heap.size W2 W → W.cell? ⟨N, 0, none⟩ = some (.slice m.sA m.ss.length m.sC) ∧ W.cell? ⟨N, 1, none⟩ = some (.slice m.fA m.fs.length m.fC) ∧
      W.cell? ⟨N + 1, 0, none⟩ = some (.int .i64 st) ∧ W.cell? ⟨N + 1, 1, none⟩ = some (.int .i64 wh) ∧ W.cell? ⟨N + 1, 2, none⟩ = some (.int .i64 l) ∧ W.cell? ⟨N + 1, 3, none⟩ = some (.int .i64 c) ∧ m.inn W ∧ Below N w W) := fun W hW => by
    have h1 := (hW.block N (by omega)).trans hr1
    have h2 := (hW.block (N + 1) (by omega)).trans hr2
    have h3 := hb2.trans (hW.mono (by omega))
    exact ⟨by rw [cell_of_row _ _ _ _ _ _ h1]; rfl, by rw [cell_of_row _ _ _ _ _ _ h1]; rfl, by rw [cell_of_row _ _ _ _ _ _ h2]; rfl, by rw [cell_of_row _ _ _ _ _ _ h2]; rfl, by rw [cell_of_row _ _ _ _ _ _ h2]; rfl, by rw [cell_of_row _ _ _ _ _ _ h2]; rfl, hm.below (by rw [hN]; exact h3), h3⟩
  have HLI : Hid (∀ p : BW W2, Calls Try.prog 11 #[.agg m.cells] p.w (SaysIf p.w p.w.heap.size m.short17)) := fun p => light17_calls p.w m (HK.out p.w p.h).2.2.2.2.2.2.1
  have HAL : Hid (∀ W, Calls Try.prog 12 #[] W fun e w' => e = .returned (.bool true) ∧ Below W.heap.size W w') := fun W => alive27_calls W
  have HSR : Hid (∀ W, Below W2.heap.size W2 W → Calls Try.prog 30 #[.agg m.cells, .agg (diagC st wh l c)] W fun e w' => e = .returned (.agg (srcF m st wh l c)) ∧ Below W.heap.size W w') := fun W hW => src_calls m W (HK.out W hW).2.2.2.2.2.2.1 st wh l c hl hc
  have HSF : Hid (∀ W, Below W2.heap.size W2 W → Calls Try.prog 31 #[.agg m.cells, .agg (diagC st wh l c)] W fun e w' => e = .returned (.agg (srcF m st wh l c)) ∧ Below W.heap.size W w') := fun W hW => rsrc_calls m W (HK.out W hW).2.2.2.2.2.2.1 st wh l c hl hc
  obtain ⟨x, y, hxy⟩ := srcF_is m st wh l c
  rw [hxy] at HSR HSF
  have hW2' := hW2
  simp only [Mo.cells, diagC] at hW2' HLI HSR HSF
  have HW2 := Lib.hid hW2'
  have HN := Lib.hid hN
  simp only [Mo.cells, diagC]
  clear hm hl hc hW2 hW2' hb2 hs2 hr1 hr2 hxy
  go_enter Try.func7, Try.ntmps7
  go_upto_region 1 with (fail)
  rw [HW2.out]
  have c0 : ∀ p : BW W2, p.w.cell? ⟨N, 0, none⟩ = some (.slice m.sA m.ss.length m.sC) := fun p => (HK.out p.w p.h).1
  have c1 : ∀ p : BW W2, p.w.cell? ⟨N, 1, none⟩ = some (.slice m.fA m.fs.length m.fC) := fun p => (HK.out p.w p.h).2.1
  refine wp_region_phase 1 17 rfl (by kernel_rfl) (by kernel_rfl) (by kernel_rfl) (fun w' => ∃ p : BW W2, w' = p.w) ⟨⟨W2.drew, (Below.refl _ _).drew⟩, rfl⟩ ?_
  dsimp only [List.take]
  repeat (go_big_quiet_step (fail))
  refine wpQuiet_nil ?_
  rintro _ ⟨p, rfl⟩
  refine wpOp_step rfl fun K' hK => ?_
  rw [if_pos (by rfl)]
  go_simp
  go_at_call 11
  refine (HLI.out p).mono ?_
  rintro e w4 ⟨b, rfl, _, hb4⟩
  have hb4' := p.h.trans (hb4.mono p.h.size)
  refine hK _ _ ?_
  clear hK c0 c1
  try simp only [Act.put, List.getElem_toArray, List.getElem_cons_zero, List.getElem_cons_succ, List.setIfInBounds_toArray, List.set_cons_zero, List.set_cons_succ]
  have HB4 := Lib.hid hb4'
  have HP : Hid (∀ q : BW w4, Below W2.heap.size W2 q.w) := fun q => HB4.out.trans (q.h.mono HB4.out.size)
  clear hb4 hb4'
  have c0 : ∀ q : BW w4, q.w.cell? ⟨N, 0, none⟩ = some (.slice m.sA m.ss.length m.sC) := fun q => (HK.out q.w (HP.out q)).1
  have c1 : ∀ q : BW w4, q.w.cell? ⟨N, 1, none⟩ = some (.slice m.fA m.fs.length m.fC) := fun q => (HK.out q.w (HP.out q)).2.1
  have d0 : ∀ q : BW w4, q.w.cell? ⟨N + 1, 0, none⟩ = some (.int .i64 st) := fun q => (HK.out q.w (HP.out q)).2.2.1
  have d1 : ∀ q : BW w4, q.w.cell? ⟨N + 1, 1, none⟩ = some (.int .i64 wh) := fun q => (HK.out q.w (HP.out q)).2.2.2.1
  have d2 : ∀ q : BW w4, q.w.cell? ⟨N + 1, 2, none⟩ = some (.int .i64 l) := fun q => (HK.out q.w (HP.out q)).2.2.2.2.1
  have d3 : ∀ q : BW w4, q.w.cell? ⟨N + 1, 3, none⟩ = some (.int .i64 c) := fun q => (HK.out q.w (HP.out q)).2.2.2.2.2.1
  refine wpAny_end 2 rfl (by kernel_rfl) (by kernel_rfl) (fun w' => ∃ q : BW w4, w' = q.w) ⟨⟨w4, Below.refl _ _⟩, rfl⟩ ?_
  dsimp only [List.drop]
  cases b with
  | false =>
    repeat (first
      | (go_big_quiet_step (fail))
      | (go_big_quiet_step ((go_at_call 12; exact bw_of (HAL.out _)))))
    refine wpQuiet_nil ?_
    rintro _ ⟨q, rfl⟩
    have HR := Lib.hid (HK.out q.w (HP.out q)).2.2.2.2.2.2.2
    go_wp2
    go_ret
    exact ⟨rfl, by first | exact HR.out | (rw [HN.out]; exact HR.out)⟩
  | true =>
    repeat (first
      | (go_big_quiet_step (fail))
      | (go_big_quiet_step (first
        | (go_at_call 30; exact bw_of (HSR.out _ (HP.out _)))
        | (go_at_call 31; exact bw_of (HSF.out _ (HP.out _)))
        | (go_at_call 12; exact bw_of (HAL.out _)))))
    refine wpQuiet_nil ?_
    rintro _ ⟨q, rfl⟩
    have HR := Lib.hid (HK.out q.w (HP.out q)).2.2.2.2.2.2.2
    go_wp2
    go_ret
    exact ⟨rfl, by first | exact HR.out | (rw [HN.out]; exact HR.out)⟩

theorem int64_of {x : Int} (h : (Lit.int .i64 x).wf = true) : -9223372036854775808 ≤ x ∧ x ≤ 9223372036854775807 := by
  simp only [Lit.wf, Bool.and_eq_true, decide_eq_true_eq] at h
  have a : IntKind.i64.min = -9223372036854775808 := by kernel_rfl
  have b : IntKind.i64.max = 9223372036854775807 := by kernel_rfl
  rw [a, b] at h
  exact h

/-- A report. -/
structure Dg where
  st : Int
  wh : Int
  l : Int
  c : Int
def Dg.cells (d : Dg) : Array Value := diagC d.st d.wh d.l d.c
def Dg.ok (d : Dg) : Prop := (-9223372036854775808 ≤ d.l ∧ d.l ≤ 9223372036854775807) ∧ (-9223372036854775808 ≤ d.c ∧ d.c ≤ 9223372036854775807)

set_option maxRecDepth 100000 in
theorem open_diag {H : Type} {enc : TypeId × Value → H} {w : World} {base : Nat} {spare : Nat → Bool} {held : Bool} {r : Reach} {b0 : Nat} {v : Value} {d : DataW H} {p : List MemPlace} (hv : Value.okWide Try.prog w r b0 57 v) (h : DataW.Trod enc Try.prog w base spare held 57 v d p) :
    ∃ m : Dg, v = .agg m.cells ∧ m.ok := by
  obtain ⟨cs, fuel, hv', hfu⟩ := agg_of Try.underlying57 hv h
  obtain ⟨xs, m, _, _, hlen, hxl, hf⟩ := DataW.trod_struct Try.underlying57 hfu
  have hc : Try.prog.cellsOf 57 = 4 := by kernel_rfl
  have hxl' : xs.length = 3 := hxl
  rw [hc] at hlen
  obtain ⟨c0, cs1, e0⟩ := List.exists_cons_of_length_eq_add_one (show cs.toList.length = 3 + 1 from by rw [hlen])
  have hl1 : cs1.length = 3 := by rw [e0] at hlen; simpa using hlen
  obtain ⟨c1, cs2, e1⟩ := List.exists_cons_of_length_eq_add_one (show cs1.length = 2 + 1 from by simpa using hl1)
  have hl2 : cs2.length = 2 := by rw [e1] at hl1; simpa using hl1
  obtain ⟨c2, cs3, e2⟩ := List.exists_cons_of_length_eq_add_one (show cs2.length = 1 + 1 from by simpa using hl2)
  have hl3 : cs3.length = 1 := by rw [e2] at hl2; simpa using hl2
  obtain ⟨c3, cs4, e3⟩ := List.exists_cons_of_length_eq_add_one (show cs3.length = 0 + 1 from by simpa using hl3)
  have hl4 : cs4.length = 0 := by rw [e3] at hl3; simpa using hl3
  obtain rfl := List.eq_nil_of_length_eq_zero hl4
  subst e3 e2 e1
  have z1 : Try.prog.cellsOf 28 = 1 := by kernel_rfl
  have z3 : Try.prog.cellsOf 3 = 1 := by kernel_rfl
  have z5 : Try.prog.cellsOf 55 = 2 := by kernel_rfl
  have g0 := (hf 0 _ rfl).trans (List.getElem?_eq_getElem (show 0 < xs.length by omega))
  have g1 := (hf 1 _ rfl).trans (List.getElem?_eq_getElem (show 1 < xs.length by omega))
  have g2 := (hf 2 _ rfl).trans (List.getElem?_eq_getElem (show 2 < xs.length by omega))
  obtain ⟨st, r0, _, _⟩ := DataW.trod_int Try.underlying3 g0
  obtain ⟨wh, r1, _, _⟩ := DataW.trod_int Try.underlying28 g1
  obtain ⟨us, m'', _, _, _, hul, hf''⟩ := DataW.trod_struct Try.underlying55 g2
  have hul' : us.length = 2 := hul
  have u0 := (hf'' 0 _ rfl).trans (List.getElem?_eq_getElem (show 0 < us.length by omega))
  have u1 := (hf'' 1 _ rfl).trans (List.getElem?_eq_getElem (show 1 < us.length by omega))
  obtain ⟨ln, v0, _, w0⟩ := DataW.trod_int Try.underlying3 u0
  obtain ⟨cl, v1, _, w1⟩ := DataW.trod_int Try.underlying3 u1
  rw [e0] at r0 r1 v0 v1
  obtain rfl : c0 = .int .i64 st := by simpa [z3] using r0
  obtain rfl : c1 = .int .i64 wh := by simpa [z1, z3] using r1
  obtain rfl : c2 = .int .i64 ln := by simpa [z1, z3, z5] using v0
  obtain rfl : c3 = .int .i64 cl := by simpa [z1, z3, z5] using v1
  have e : cs = (⟨st, wh, ln, cl⟩ : Dg).cells := Array.ext' e0
  exact ⟨⟨st, wh, ln, cl⟩, by rw [hv', e], int64_of w0, int64_of w1⟩

theorem rewriteSources_calls (m : Mo) (d : Dg) (w : World) (hm : m.inn w) (hd : d.ok) :
    Calls Try.prog 7 #[.agg m.cells, .agg d.cells] w fun e w' => e = .returned (.bool true) ∧ Below w.heap.size w w' :=
  rewriteSources_walk m w hm d.st d.wh d.l d.c hd.1 hd.2
end Go.Proofs.Ytlggjbopfnndbaa
