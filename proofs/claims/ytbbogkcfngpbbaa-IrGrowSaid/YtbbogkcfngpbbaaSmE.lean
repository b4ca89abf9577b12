/- Equality of rows: slices.Equal, slices.EqualFunc. -/
import Derived.Test.YtbbogkcfngpbbaaIrL
import Derived.Test.YtbbogkcfngpbbaaIrO
namespace Go.Proofs.Ytbbogkcfngpbbaa
open Go.RowKit

def eqBy {α : Type} (p : α → α → Bool) : List α → List α → Bool
  | [], [] => true
  | x :: xs, y :: ys => p x y && eqBy p xs ys
  | _, _ => false

theorem eqBy_iff {α : Type} {p : α → α → Bool} : ∀ {xs ys : List α}, eqBy p xs ys = true ↔ xs.length = ys.length ∧ ∀ (k : Nat) (x y : α), xs[k]? = some x → ys[k]? = some y → p x y = true
  | [], [] => by simp [eqBy]
  | [], y :: ys => by simp [eqBy]
  | x :: xs, [] => by simp [eqBy]
  | x :: xs, y :: ys => by
    unfold eqBy
    rw [Bool.and_eq_true, eqBy_iff]
    constructor
    · rintro ⟨h1, h2, h3⟩
      refine ⟨by simp [h2], fun k a b ha hb => ?_⟩
      cases k with
      | zero => simp at ha hb; subst ha hb; exact h1
      | succ k => exact h3 k a b (by simpa using ha) (by simpa using hb)
    · rintro ⟨h1, h2⟩
      exact ⟨h2 0 x y rfl rfl, by simpa using h1, fun k a b ha hb => h2 (k + 1) a b (by simpa using ha) (by simpa using hb)⟩

theorem eqBy_false_len {α : Type} {p : α → α → Bool} {xs ys : List α} (h : xs.length ≠ ys.length) : eqBy p xs ys = false := by
  cases e : eqBy p xs ys with
  | false => rfl
  | true => exact absurd (eqBy_iff.1 e).1 h

theorem eqBy_false_at {α : Type} {p : α → α → Bool} {xs ys : List α} {k : Nat} {x y : α} (hx : xs[k]? = some x) (hy : ys[k]? = some y) (h : p x y = false) : eqBy p xs ys = false := by
  cases e : eqBy p xs ys with
  | false => rfl
  | true => have := (eqBy_iff.1 e).2 k x y hx hy; rw [h] at this; cases this

/-- What has been found alike so far. -/
def EqTo {α : Type} (p : α → α → Bool) (xs ys : List α) (j : Nat) : Prop := ∀ k x y, k < j → xs[k]? = some x → ys[k]? = some y → p x y = true

theorem EqTo.zero {α : Type} (p : α → α → Bool) (xs ys : List α) : EqTo p xs ys 0 := fun k x y h => absurd h (by omega)
theorem EqTo.next {α : Type} {p : α → α → Bool} {xs ys : List α} {j : Nat} {x y : α} (h : EqTo p xs ys j) (hx : xs[j]? = some x) (hy : ys[j]? = some y) (hp : p x y = true) : EqTo p xs ys (j + 1) := by
  intro k a b hk ha hb
  by_cases e : k = j
  · subst e
    rw [hx] at ha; rw [hy] at hb
    obtain rfl := Option.some.inj ha
    obtain rfl := Option.some.inj hb
    exact hp
  · exact h k a b (by omega) ha hb
theorem EqTo.all {α : Type} {p : α → α → Bool} {xs ys : List α} (h : EqTo p xs ys xs.length) (hl : xs.length = ys.length) : eqBy p xs ys = true :=
  eqBy_iff.2 ⟨hl, fun k x y hx hy => h k x y (List.getElem?_eq_some_iff.1 hx).1 hx hy⟩

set_option maxRecDepth 100000 in
set_option maxHeartbeats 2000000 in
theorem eqInts_calls (w : World) (aA aB : Option Addr) (cA cB : Nat) (xs ys : List Int) (hn : xs.length ≤ maxLen) (h1 : IntsAt w aA xs) (h2 : IntsAt w aB ys) :
    Calls Try.prog 55 #[.slice aA xs.length cA, .slice aB ys.length cB] w fun e w' => e = .returned (.bool (eqBy (fun x y => x == y) xs ys)) ∧ Below w.heap.size w w' := by
  have H1 := Lib.hid h1
  have H2 := Lib.hid h2
  unfold maxLen at hn
  obtain ⟨R, hR⟩ : ∃ R, eqBy (fun x y : Int => x == y) xs ys = R := ⟨_, rfl⟩
  rw [hR]
  have HR := Lib.hid hR
  clear h1 h2 hR
  by_cases hl : xs.length = ys.length
  · rw [← hl]
    have HL := Lib.hid hl
    clear hl
    go_enter Try.func55, Try.ntmps55
    go_wp2_with fail
    go_loopw [13] (fun c wr => ∃ j n : Nat, j ≤ xs.length ∧ c = .int .i64 (j : Int) ∧ EqTo (fun x y : Int => x == y) xs ys j ∧ wr = w.drewN n) (fun c _ => xs.length - (intOf c).toNat)
    case atStart => exact ⟨0, 0, Nat.zero_le _, rfl, EqTo.zero _ _ _, rfl⟩
    case round =>
      obtain ⟨j, n, hj, rfl, hz, rfl⟩ := hrel
      have HZ := Lib.hid hz
      clear hz
      by_cases hjl : j < xs.length
      · obtain ⟨x, hx⟩ : ∃ x, xs[j]? = some x := ⟨_, List.getElem?_eq_getElem hjl⟩
        obtain ⟨y, hy⟩ : ∃ y, ys[j]? = some y := ⟨_, List.getElem?_eq_getElem (by have := HL.out; omega)⟩
        obtain ⟨g1, o1, rfl, hg1, q1⟩ := H1.out (by intro e; rw [e] at hjl; simp at hjl)
        obtain ⟨g2, o2, rfl, hg2, q2⟩ := H2.out (by intro e; rw [e] at hy; simp at hy)
        have d1 : w.cell? ⟨g1, o1 + j, none⟩ = some (.int .i64 x) := q1 j x hx
        have d2 : w.cell? ⟨g2, o2 + j, none⟩ = some (.int .i64 y) := q2 j y hy
        have hjI : (j : Int) < (xs.length : Int) := by omega
        obtain ⟨d, hd⟩ : ∃ d, (x == y) = d := ⟨_, rfl⟩
        have HX := Lib.hid hx
        have HY := Lib.hid hy
        have HD := Lib.hid hd
        clear hx hy q1 q2
        cases d with
        | true =>
          go_wp2
          go_quiet (fail)
          go_wp2
          go_roundw
          case rel => exact ⟨j + 1, _, by omega, by go_num, HZ.out.next HX.out HY.out HD.out, rfl⟩
          case measure => simp [intOf]; omega
        | false =>
          have HRR : Hid (R = false) := by unfold Hid; rw [← HR.out]; exact eqBy_false_at HX.out HY.out HD.out
          go_wp2
          go_quiet (fail)
          go_wp2
          go_ret
          rw [HRR.out]
          exact ⟨rfl, below_drewN (below_drewN (Below.refl _ _) _) _⟩
      · have hje : j = xs.length := by omega
        subst hje
        have HRR : Hid (R = true) := by unfold Hid; rw [← HR.out]; exact EqTo.all HZ.out HL.out
        go_wp2
        go_ret
        rw [HRR.out]
        exact ⟨rfl, below_drewN (Below.refl _ _) _⟩
  · have HRR : Hid (R = false) := by unfold Hid; rw [← HR.out]; exact eqBy_false_len hl
    have hlI : ¬ ((xs.length : Int) = (ys.length : Int)) := by omega
    go_enter Try.func55, Try.ntmps55
    go_wp2
    go_ret
    rw [HRR.out]
    exact ⟨rfl, Below.refl _ _⟩

set_option maxRecDepth 100000 in
set_option maxHeartbeats 4000000 in
theorem eqfIns_calls (w : World) (aA aB : Option Addr) (cA cB : Nat) (xs ys : List Ins) (p : Ins → Ins → Bool) (hn : xs.length ≤ maxLen) (h1 : RowOf Ins.cells 13 w w.heap.size aA xs) (h2 : RowOf Ins.cells 13 w w.heap.size aB ys)
    (hox : ∀ x ∈ xs, (x.cells.all fun v => v.oneCell') = true) (hoy : ∀ x ∈ ys, (x.cells.all fun v => v.oneCell') = true)
    (hf : ∀ x ∈ xs, ∀ y ∈ ys, ∀ W, Below w.heap.size w W → Calls Try.prog 58 (#[.agg x.cells, .agg y.cells] ++ #[]) W fun e w' => e = .returned (.bool (p x y)) ∧ Below W.heap.size W w') :
    Calls Try.prog 57 #[.slice aA xs.length cA, .slice aB ys.length cB, .func (.func 58) #[] #[]] w fun e w' => e = .returned (.bool (eqBy p xs ys)) ∧ Below w.heap.size w w' := by
  have H1 := Lib.hid h1
  have H2 := Lib.hid h2
  have HOX := Lib.hid hox
  have HOY := Lib.hid hoy
  have HF := Lib.hid hf
  unfold maxLen at hn
  obtain ⟨R, hR⟩ : ∃ R, eqBy p xs ys = R := ⟨_, rfl⟩
  rw [hR]
  have HR := Lib.hid hR
  clear h1 h2 hox hoy hf hR
  by_cases hl : xs.length = ys.length
  · rw [← hl]
    have HL := Lib.hid hl
    clear hl
    go_enter Try.func57, Try.ntmps57
    go_wp2_with fail
    go_loopw [17] (fun c wr => ∃ j : Nat, j ≤ xs.length ∧ c = .int .i64 (j : Int) ∧ EqTo p xs ys j ∧ Below w.heap.size w wr) (fun c _ => xs.length - (intOf c).toNat)
    case atStart => exact ⟨0, Nat.zero_le _, rfl, EqTo.zero _ _ _, Below.refl _ _⟩
    case round =>
      obtain ⟨j, hj, rfl, hz, hb⟩ := hrel
      have HZ := Lib.hid hz
      have HB := Lib.hid hb
      by_cases hjl : j < xs.length
      · obtain ⟨x, hx⟩ : ∃ x, xs[j]? = some x := ⟨_, List.getElem?_eq_getElem hjl⟩
        obtain ⟨y, hy⟩ : ∃ y, ys[j]? = some y := ⟨_, List.getElem?_eq_getElem (by have := HL.out; omega)⟩
        obtain ⟨g1, o1, hA, hg1, q1⟩ := (H1.out.grow hb) (by intro e; rw [e] at hjl; simp at hjl)
        obtain ⟨g2, o2, hB, hg2, q2⟩ := (H2.out.grow hb) (by intro e; rw [e] at hy; simp at hy)
        have hxm := List.mem_of_getElem? hx
        have hym := List.mem_of_getElem? hy
        have HC1 : Hid (∀ k u, x.cells.toList[k]? = some u → wr.cell? ((⟨g1, o1 + j * 13, none⟩ : Addr).add k) = some u) := fun k u hu => by rw [Addr.add_lit]; exact q1 j x hx k u hu
        obtain ⟨P, hP⟩ : ∃ P, wr.heap.size = P := ⟨_, rfl⟩
        obtain ⟨W3, hW3⟩ : ∃ W3, wr.alloc (.cells x.cells 26) = W3 := ⟨_, rfl⟩
        have hst3 : ∀ (c : Array Value), c.size = 13 → (storeCells ⟨P, 0, none⟩ x.cells.toList 0).run Try.prog (wr.alloc (.cells c 26)) = .ok () W3 := fun c hc => by
          rw [← hW3, ← hP]
          exact run_storeCells_new (P := Try.prog) wr 26 c x.cells (by show _ = some 13; kernel_rfl) hc (HOX.out x hxm)
        have hr3 : W3.heap[P]? = some (.cells x.cells 26 (0, 0)) := by rw [← hW3, ← hP]; exact alloc_at _ _
        have hs3 : W3.heap.size = P + 1 := by rw [← hW3]; simp [hP]
        have hb3 : Below w.heap.size w W3 := by rw [← hW3]; exact hb.alloc hb.size _
        have HC2 : Hid (∀ k u, y.cells.toList[k]? = some u → W3.cell? ((⟨g2, o2 + j * 13, none⟩ : Addr).add k) = some u) := fun k u hu => by
          rw [Addr.add_lit, ← hW3, World.cell?_alloc_lt _ _ _ hg2]; exact q2 j y hy k u hu
        obtain ⟨W4, hW4⟩ : ∃ W4, W3.alloc (.cells y.cells 26) = W4 := ⟨_, rfl⟩
        have hst4 : ∀ (c : Array Value), c.size = 13 → (storeCells ⟨P + 1, 0, none⟩ y.cells.toList 0).run Try.prog (W3.alloc (.cells c 26)) = .ok () W4 := fun c hc => by
          rw [← hW4, ← hs3]
          exact run_storeCells_new (P := Try.prog) W3 26 c y.cells (by show _ = some 13; kernel_rfl) hc (HOY.out y hym)
        have hr4 : W4.heap[P + 1]? = some (.cells y.cells 26 (0, 0)) := by rw [← hW4, ← hs3]; exact alloc_at _ _
        have HR3 : Hid (W4.heap[P]? = some (.cells x.cells 26 (0, 0))) := by unfold Hid; rw [← hW4, Below.heap_alloc _ _ _ (by omega)]; exact hr3
        have HR4 := Lib.hid hr4
        have HB4 : Hid (Below w.heap.size w W4) := by rw [← hW4]; exact hb3.alloc hb3.size _
        have HCC := Lib.hid (HF.out x hxm y hym W4 HB4.out)
        have hs4 : W4.heap.size = P + 2 := by rw [← hW4]; simp [hs3]
        have hjI : (j : Int) < (xs.length : Int) := by omega
        obtain ⟨d, hd⟩ : ∃ d, p x y = d := ⟨_, rfl⟩
        rw [hd] at HCC
        have HX := Lib.hid hx
        have HY := Lib.hid hy
        have HD := Lib.hid hd
        rw [hA, hB]
        clear hx hy q1 q2 hxm hym hW3 hr3 hb3 hW4 hr4 hd hz hb
        cases d with
        | true =>
          go_wp2_with (first
            | (refine wpList_load_at rfl 26 _ rfl ⟨g1, o1 + j * 13, none⟩ rfl x.cells _ HC1.out Try.underlying26 rfl (by kernel_rfl) ?_)
            | (refine wpList_load_at rfl 26 _ rfl ⟨g2, o2 + j * 13, none⟩ rfl y.cells _ HC2.out Try.underlying26 rfl (by kernel_rfl) ?_)
            | (refine wpList_load_row rfl 26 _ rfl P rfl 26 x.cells (0, 0) _ HR3.out Try.underlying26 rfl (by kernel_rfl) ?_)
            | (refine wpList_load_row rfl 26 _ rfl (P + 1) rfl 26 y.cells (0, 0) _ HR4.out Try.underlying26 rfl (by kernel_rfl) ?_)
            | (go_at_call 58; refine HCC.out.mono ?_; rintro e w5 ⟨rfl, hb5⟩; have HB5 := Lib.hid hb5; clear hb5))
          go_roundw
          case rel => exact ⟨j + 1, by omega, by go_num, HZ.out.next HX.out HY.out HD.out, HB4.out.trans (HB5.out.mono HB4.out.size)⟩
          case measure => simp [intOf]; omega
        | false =>
          have HRR : Hid (R = false) := by unfold Hid; rw [← HR.out]; exact eqBy_false_at HX.out HY.out HD.out
          go_wp2_with (first
            | (refine wpList_load_at rfl 26 _ rfl ⟨g1, o1 + j * 13, none⟩ rfl x.cells _ HC1.out Try.underlying26 rfl (by kernel_rfl) ?_)
            | (refine wpList_load_at rfl 26 _ rfl ⟨g2, o2 + j * 13, none⟩ rfl y.cells _ HC2.out Try.underlying26 rfl (by kernel_rfl) ?_)
            | (refine wpList_load_row rfl 26 _ rfl P rfl 26 x.cells (0, 0) _ HR3.out Try.underlying26 rfl (by kernel_rfl) ?_)
            | (refine wpList_load_row rfl 26 _ rfl (P + 1) rfl 26 y.cells (0, 0) _ HR4.out Try.underlying26 rfl (by kernel_rfl) ?_)
            | (go_at_call 58; refine HCC.out.mono ?_; rintro e w5 ⟨rfl, hb5⟩; have HB5 := Lib.hid hb5; clear hb5))
          go_ret
          rw [HRR.out]
          exact ⟨rfl, HB4.out.trans (HB5.out.mono HB4.out.size)⟩
      · have hje : j = xs.length := by omega
        subst hje
        have HRR : Hid (R = true) := by unfold Hid; rw [← HR.out]; exact EqTo.all HZ.out HL.out
        clear hz hb
        go_wp2
        go_ret
        rw [HRR.out]
        exact ⟨rfl, HB.out⟩
  · have HRR : Hid (R = false) := by unfold Hid; rw [← HR.out]; exact eqBy_false_len hl
    have hlI : ¬ ((xs.length : Int) = (ys.length : Int)) := by omega
    go_enter Try.func57, Try.ntmps57
    go_wp2
    go_ret
    rw [HRR.out]
    exact ⟨rfl, Below.refl _ _⟩

set_option maxRecDepth 100000 in
set_option maxHeartbeats 4000000 in
theorem eqfFd_calls (w : World) (aA aB : Option Addr) (cA cB : Nat) (xs ys : List Fd) (p : Fd → Fd → Bool) (hn : xs.length ≤ maxLen) (h1 : RowOf Fd.cells 5 w w.heap.size aA xs) (h2 : RowOf Fd.cells 5 w w.heap.size aB ys)
    (hox : ∀ x ∈ xs, (x.cells.all fun v => v.oneCell') = true) (hoy : ∀ x ∈ ys, (x.cells.all fun v => v.oneCell') = true)
    (hf : ∀ x ∈ xs, ∀ y ∈ ys, ∀ W, Below w.heap.size w W → Calls Try.prog 60 (#[.agg x.cells, .agg y.cells] ++ #[]) W fun e w' => e = .returned (.bool (p x y)) ∧ Below W.heap.size W w') :
    Calls Try.prog 62 #[.slice aA xs.length cA, .slice aB ys.length cB, .func (.func 60) #[] #[]] w fun e w' => e = .returned (.bool (eqBy p xs ys)) ∧ Below w.heap.size w w' := by
  have H1 := Lib.hid h1
  have H2 := Lib.hid h2
  have HOX := Lib.hid hox
  have HOY := Lib.hid hoy
  have HF := Lib.hid hf
  unfold maxLen at hn
  obtain ⟨R, hR⟩ : ∃ R, eqBy p xs ys = R := ⟨_, rfl⟩
  rw [hR]
  have HR := Lib.hid hR
  clear h1 h2 hox hoy hf hR
  by_cases hl : xs.length = ys.length
  · rw [← hl]
    have HL := Lib.hid hl
    clear hl
    go_enter Try.func62, Try.ntmps62
    go_wp2_with fail
    go_loopw [17] (fun c wr => ∃ j : Nat, j ≤ xs.length ∧ c = .int .i64 (j : Int) ∧ EqTo p xs ys j ∧ Below w.heap.size w wr) (fun c _ => xs.length - (intOf c).toNat)
    case atStart => exact ⟨0, Nat.zero_le _, rfl, EqTo.zero _ _ _, Below.refl _ _⟩
    case round =>
      obtain ⟨j, hj, rfl, hz, hb⟩ := hrel
      have HZ := Lib.hid hz
      have HB := Lib.hid hb
      by_cases hjl : j < xs.length
      · obtain ⟨x, hx⟩ : ∃ x, xs[j]? = some x := ⟨_, List.getElem?_eq_getElem hjl⟩
        obtain ⟨y, hy⟩ : ∃ y, ys[j]? = some y := ⟨_, List.getElem?_eq_getElem (by have := HL.out; omega)⟩
        obtain ⟨g1, o1, hA, hg1, q1⟩ := (H1.out.grow hb) (by intro e; rw [e] at hjl; simp at hjl)
        obtain ⟨g2, o2, hB, hg2, q2⟩ := (H2.out.grow hb) (by intro e; rw [e] at hy; simp at hy)
        have hxm := List.mem_of_getElem? hx
        have hym := List.mem_of_getElem? hy
        have HC1 : Hid (∀ k u, x.cells.toList[k]? = some u → wr.cell? ((⟨g1, o1 + j * 5, none⟩ : Addr).add k) = some u) := fun k u hu => by rw [Addr.add_lit]; exact q1 j x hx k u hu
        obtain ⟨P, hP⟩ : ∃ P, wr.heap.size = P := ⟨_, rfl⟩
        obtain ⟨W3, hW3⟩ : ∃ W3, wr.alloc (.cells x.cells 96) = W3 := ⟨_, rfl⟩
        have hst3 : ∀ (c : Array Value), c.size = 5 → (storeCells ⟨P, 0, none⟩ x.cells.toList 0).run Try.prog (wr.alloc (.cells c 96)) = .ok () W3 := fun c hc => by
          rw [← hW3, ← hP]
          exact run_storeCells_new (P := Try.prog) wr 96 c x.cells (by show _ = some 5; kernel_rfl) hc (HOX.out x hxm)
        have hr3 : W3.heap[P]? = some (.cells x.cells 96 (0, 0)) := by rw [← hW3, ← hP]; exact alloc_at _ _
        have hs3 : W3.heap.size = P + 1 := by rw [← hW3]; simp [hP]
        have hb3 : Below w.heap.size w W3 := by rw [← hW3]; exact hb.alloc hb.size _
        have HC2 : Hid (∀ k u, y.cells.toList[k]? = some u → W3.cell? ((⟨g2, o2 + j * 5, none⟩ : Addr).add k) = some u) := fun k u hu => by
          rw [Addr.add_lit, ← hW3, World.cell?_alloc_lt _ _ _ hg2]; exact q2 j y hy k u hu
        obtain ⟨W4, hW4⟩ : ∃ W4, W3.alloc (.cells y.cells 96) = W4 := ⟨_, rfl⟩
        have hst4 : ∀ (c : Array Value), c.size = 5 → (storeCells ⟨P + 1, 0, none⟩ y.cells.toList 0).run Try.prog (W3.alloc (.cells c 96)) = .ok () W4 := fun c hc => by
          rw [← hW4, ← hs3]
          exact run_storeCells_new (P := Try.prog) W3 96 c y.cells (by show _ = some 5; kernel_rfl) hc (HOY.out y hym)
        have hr4 : W4.heap[P + 1]? = some (.cells y.cells 96 (0, 0)) := by rw [← hW4, ← hs3]; exact alloc_at _ _
        have HR3 : Hid (W4.heap[P]? = some (.cells x.cells 96 (0, 0))) := by unfold Hid; rw [← hW4, Below.heap_alloc _ _ _ (by omega)]; exact hr3
        have HR4 := Lib.hid hr4
        have HB4 : Hid (Below w.heap.size w W4) := by rw [← hW4]; exact hb3.alloc hb3.size _
        have HCC := Lib.hid (HF.out x hxm y hym W4 HB4.out)
        have hs4 : W4.heap.size = P + 2 := by rw [← hW4]; simp [hs3]
        have hjI : (j : Int) < (xs.length : Int) := by omega
        obtain ⟨d, hd⟩ : ∃ d, p x y = d := ⟨_, rfl⟩
        rw [hd] at HCC
        have HX := Lib.hid hx
        have HY := Lib.hid hy
        have HD := Lib.hid hd
        rw [hA, hB]
        clear hx hy q1 q2 hxm hym hW3 hr3 hb3 hW4 hr4 hd hz hb
        cases d with
        | true =>
          go_wp2_with (first
            | (refine wpList_load_at rfl 96 _ rfl ⟨g1, o1 + j * 5, none⟩ rfl x.cells _ HC1.out Try.underlying96 rfl (by kernel_rfl) ?_)
            | (refine wpList_load_at rfl 96 _ rfl ⟨g2, o2 + j * 5, none⟩ rfl y.cells _ HC2.out Try.underlying96 rfl (by kernel_rfl) ?_)
            | (refine wpList_load_row rfl 96 _ rfl P rfl 96 x.cells (0, 0) _ HR3.out Try.underlying96 rfl (by kernel_rfl) ?_)
            | (refine wpList_load_row rfl 96 _ rfl (P + 1) rfl 96 y.cells (0, 0) _ HR4.out Try.underlying96 rfl (by kernel_rfl) ?_)
            | (go_at_call 60; refine HCC.out.mono ?_; rintro e w5 ⟨rfl, hb5⟩; have HB5 := Lib.hid hb5; clear hb5))
          go_roundw
          case rel => exact ⟨j + 1, by omega, by go_num, HZ.out.next HX.out HY.out HD.out, HB4.out.trans (HB5.out.mono HB4.out.size)⟩
          case measure => simp [intOf]; omega
        | false =>
          have HRR : Hid (R = false) := by unfold Hid; rw [← HR.out]; exact eqBy_false_at HX.out HY.out HD.out
          go_wp2_with (first
            | (refine wpList_load_at rfl 96 _ rfl ⟨g1, o1 + j * 5, none⟩ rfl x.cells _ HC1.out Try.underlying96 rfl (by kernel_rfl) ?_)
            | (refine wpList_load_at rfl 96 _ rfl ⟨g2, o2 + j * 5, none⟩ rfl y.cells _ HC2.out Try.underlying96 rfl (by kernel_rfl) ?_)
            | (refine wpList_load_row rfl 96 _ rfl P rfl 96 x.cells (0, 0) _ HR3.out Try.underlying96 rfl (by kernel_rfl) ?_)
            | (refine wpList_load_row rfl 96 _ rfl (P + 1) rfl 96 y.cells (0, 0) _ HR4.out Try.underlying96 rfl (by kernel_rfl) ?_)
            | (go_at_call 60; refine HCC.out.mono ?_; rintro e w5 ⟨rfl, hb5⟩; have HB5 := Lib.hid hb5; clear hb5))
          go_ret
          rw [HRR.out]
          exact ⟨rfl, HB4.out.trans (HB5.out.mono HB4.out.size)⟩
      · have hje : j = xs.length := by omega
        subst hje
        have HRR : Hid (R = true) := by unfold Hid; rw [← HR.out]; exact EqTo.all HZ.out HL.out
        clear hz hb
        go_wp2
        go_ret
        rw [HRR.out]
        exact ⟨rfl, HB.out⟩
  · have HRR : Hid (R = false) := by unfold Hid; rw [← HR.out]; exact eqBy_false_len hl
    have hlI : ¬ ((xs.length : Int) = (ys.length : Int)) := by omega
    go_enter Try.func62, Try.ntmps62
    go_wp2
    go_ret
    rw [HRR.out]
    exact ⟨rfl, Below.refl _ _⟩

set_option maxRecDepth 100000 in
set_option maxHeartbeats 4000000 in
theorem eqfSt_calls (w : World) (aA aB : Option Addr) (cA cB : Nat) (xs ys : List St) (p : St → St → Bool) (Bc : Nat) (hn : xs.length ≤ maxLen) (h1 : RowOf St.cells 4 w w.heap.size aA xs) (h2 : RowOf St.cells 4 w w.heap.size aB ys)
    (hox : ∀ x ∈ xs, (x.cells.all fun v => v.oneCell') = true) (hoy : ∀ x ∈ ys, (x.cells.all fun v => v.oneCell') = true)
    (hf : ∀ x ∈ xs, ∀ y ∈ ys, ∀ W, Below w.heap.size w W → Calls Try.prog 61 (#[.agg x.cells, .agg y.cells] ++ #[.pointer (some ⟨Bc, 0, none⟩)]) W fun e w' => e = .returned (.bool (p x y)) ∧ Below W.heap.size W w') :
    Calls Try.prog 63 #[.slice aA xs.length cA, .slice aB ys.length cB, .func (.func 61) #[] #[.pointer (some ⟨Bc, 0, none⟩)]] w fun e w' => e = .returned (.bool (eqBy p xs ys)) ∧ Below w.heap.size w w' := by
  have H1 := Lib.hid h1
  have H2 := Lib.hid h2
  have HOX := Lib.hid hox
  have HOY := Lib.hid hoy
  have HF := Lib.hid hf
  unfold maxLen at hn
  obtain ⟨R, hR⟩ : ∃ R, eqBy p xs ys = R := ⟨_, rfl⟩
  rw [hR]
  have HR := Lib.hid hR
  clear h1 h2 hox hoy hf hR
  by_cases hl : xs.length = ys.length
  · rw [← hl]
    have HL := Lib.hid hl
    clear hl
    go_enter Try.func63, Try.ntmps63
    go_wp2_with fail
    go_loopw [17] (fun c wr => ∃ j : Nat, j ≤ xs.length ∧ c = .int .i64 (j : Int) ∧ EqTo p xs ys j ∧ Below w.heap.size w wr) (fun c _ => xs.length - (intOf c).toNat)
    case atStart => exact ⟨0, Nat.zero_le _, rfl, EqTo.zero _ _ _, Below.refl _ _⟩
    case round =>
      obtain ⟨j, hj, rfl, hz, hb⟩ := hrel
      have HZ := Lib.hid hz
      have HB := Lib.hid hb
      by_cases hjl : j < xs.length
      · obtain ⟨x, hx⟩ : ∃ x, xs[j]? = some x := ⟨_, List.getElem?_eq_getElem hjl⟩
        obtain ⟨y, hy⟩ : ∃ y, ys[j]? = some y := ⟨_, List.getElem?_eq_getElem (by have := HL.out; omega)⟩
        obtain ⟨g1, o1, hA, hg1, q1⟩ := (H1.out.grow hb) (by intro e; rw [e] at hjl; simp at hjl)
        obtain ⟨g2, o2, hB, hg2, q2⟩ := (H2.out.grow hb) (by intro e; rw [e] at hy; simp at hy)
        have hxm := List.mem_of_getElem? hx
        have hym := List.mem_of_getElem? hy
        have HC1 : Hid (∀ k u, x.cells.toList[k]? = some u → wr.cell? ((⟨g1, o1 + j * 4, none⟩ : Addr).add k) = some u) := fun k u hu => by rw [Addr.add_lit]; exact q1 j x hx k u hu
        obtain ⟨P, hP⟩ : ∃ P, wr.heap.size = P := ⟨_, rfl⟩
        obtain ⟨W3, hW3⟩ : ∃ W3, wr.alloc (.cells x.cells 91) = W3 := ⟨_, rfl⟩
        have hst3 : ∀ (c : Array Value), c.size = 4 → (storeCells ⟨P, 0, none⟩ x.cells.toList 0).run Try.prog (wr.alloc (.cells c 91)) = .ok () W3 := fun c hc => by
          rw [← hW3, ← hP]
          exact run_storeCells_new (P := Try.prog) wr 91 c x.cells (by show _ = some 4; kernel_rfl) hc (HOX.out x hxm)
        have hr3 : W3.heap[P]? = some (.cells x.cells 91 (0, 0)) := by rw [← hW3, ← hP]; exact alloc_at _ _
        have hs3 : W3.heap.size = P + 1 := by rw [← hW3]; simp [hP]
        have hb3 : Below w.heap.size w W3 := by rw [← hW3]; exact hb.alloc hb.size _
        have HC2 : Hid (∀ k u, y.cells.toList[k]? = some u → W3.cell? ((⟨g2, o2 + j * 4, none⟩ : Addr).add k) = some u) := fun k u hu => by
          rw [Addr.add_lit, ← hW3, World.cell?_alloc_lt _ _ _ hg2]; exact q2 j y hy k u hu
        obtain ⟨W4, hW4⟩ : ∃ W4, W3.alloc (.cells y.cells 91) = W4 := ⟨_, rfl⟩
        have hst4 : ∀ (c : Array Value), c.size = 4 → (storeCells ⟨P + 1, 0, none⟩ y.cells.toList 0).run Try.prog (W3.alloc (.cells c 91)) = .ok () W4 := fun c hc => by
          rw [← hW4, ← hs3]
          exact run_storeCells_new (P := Try.prog) W3 91 c y.cells (by show _ = some 4; kernel_rfl) hc (HOY.out y hym)
        have hr4 : W4.heap[P + 1]? = some (.cells y.cells 91 (0, 0)) := by rw [← hW4, ← hs3]; exact alloc_at _ _
        have HR3 : Hid (W4.heap[P]? = some (.cells x.cells 91 (0, 0))) := by unfold Hid; rw [← hW4, Below.heap_alloc _ _ _ (by omega)]; exact hr3
        have HR4 := Lib.hid hr4
        have HB4 : Hid (Below w.heap.size w W4) := by rw [← hW4]; exact hb3.alloc hb3.size _
        have HCC := Lib.hid (HF.out x hxm y hym W4 HB4.out)
        have hs4 : W4.heap.size = P + 2 := by rw [← hW4]; simp [hs3]
        have hjI : (j : Int) < (xs.length : Int) := by omega
        obtain ⟨d, hd⟩ : ∃ d, p x y = d := ⟨_, rfl⟩
        rw [hd] at HCC
        have HX := Lib.hid hx
        have HY := Lib.hid hy
        have HD := Lib.hid hd
        rw [hA, hB]
        clear hx hy q1 q2 hxm hym hW3 hr3 hb3 hW4 hr4 hd hz hb
        cases d with
        | true =>
          go_wp2_with (first
            | (refine wpList_load_at rfl 91 _ rfl ⟨g1, o1 + j * 4, none⟩ rfl x.cells _ HC1.out Try.underlying91 rfl (by kernel_rfl) ?_)
            | (refine wpList_load_at rfl 91 _ rfl ⟨g2, o2 + j * 4, none⟩ rfl y.cells _ HC2.out Try.underlying91 rfl (by kernel_rfl) ?_)
            | (refine wpList_load_row rfl 91 _ rfl P rfl 91 x.cells (0, 0) _ HR3.out Try.underlying91 rfl (by kernel_rfl) ?_)
            | (refine wpList_load_row rfl 91 _ rfl (P + 1) rfl 91 y.cells (0, 0) _ HR4.out Try.underlying91 rfl (by kernel_rfl) ?_)
            | (go_at_call 61; refine HCC.out.mono ?_; rintro e w5 ⟨rfl, hb5⟩; have HB5 := Lib.hid hb5; clear hb5))
          go_roundw
          case rel => exact ⟨j + 1, by omega, by go_num, HZ.out.next HX.out HY.out HD.out, HB4.out.trans (HB5.out.mono HB4.out.size)⟩
          case measure => simp [intOf]; omega
        | false =>
          have HRR : Hid (R = false) := by unfold Hid; rw [← HR.out]; exact eqBy_false_at HX.out HY.out HD.out
          go_wp2_with (first
            | (refine wpList_load_at rfl 91 _ rfl ⟨g1, o1 + j * 4, none⟩ rfl x.cells _ HC1.out Try.underlying91 rfl (by kernel_rfl) ?_)
            | (refine wpList_load_at rfl 91 _ rfl ⟨g2, o2 + j * 4, none⟩ rfl y.cells _ HC2.out Try.underlying91 rfl (by kernel_rfl) ?_)
            | (refine wpList_load_row rfl 91 _ rfl P rfl 91 x.cells (0, 0) _ HR3.out Try.underlying91 rfl (by kernel_rfl) ?_)
            | (refine wpList_load_row rfl 91 _ rfl (P + 1) rfl 91 y.cells (0, 0) _ HR4.out Try.underlying91 rfl (by kernel_rfl) ?_)
            | (go_at_call 61; refine HCC.out.mono ?_; rintro e w5 ⟨rfl, hb5⟩; have HB5 := Lib.hid hb5; clear hb5))
          go_ret
          rw [HRR.out]
          exact ⟨rfl, HB4.out.trans (HB5.out.mono HB4.out.size)⟩
      · have hje : j = xs.length := by omega
        subst hje
        have HRR : Hid (R = true) := by unfold Hid; rw [← HR.out]; exact EqTo.all HZ.out HL.out
        clear hz hb
        go_wp2
        go_ret
        rw [HRR.out]
        exact ⟨rfl, HB.out⟩
  · have HRR : Hid (R = false) := by unfold Hid; rw [← HR.out]; exact eqBy_false_len hl
    have hlI : ¬ ((xs.length : Int) = (ys.length : Int)) := by omega
    go_enter Try.func63, Try.ntmps63
    go_wp2
    go_ret
    rw [HRR.out]
    exact ⟨rfl, Below.refl _ _⟩

set_option maxRecDepth 100000 in
set_option maxHeartbeats 4000000 in
theorem eqfFn_calls (w : World) (aA aB : Option Addr) (cA cB : Nat) (xs ys : List Fn) (p : Fn → Fn → Bool) (hn : xs.length ≤ maxLen) (h1 : RowOf Fn.cells 8 w w.heap.size aA xs) (h2 : RowOf Fn.cells 8 w w.heap.size aB ys)
    (hox : ∀ x ∈ xs, (x.cells.all fun v => v.oneCell') = true) (hoy : ∀ x ∈ ys, (x.cells.all fun v => v.oneCell') = true)
    (hf : ∀ x ∈ xs, ∀ y ∈ ys, ∀ W, Below w.heap.size w W → Calls Try.prog 22 (#[.agg x.cells, .agg y.cells] ++ #[]) W fun e w' => e = .returned (.bool (p x y)) ∧ Below W.heap.size W w') :
    Calls Try.prog 64 #[.slice aA xs.length cA, .slice aB ys.length cB, .func (.func 22) #[] #[]] w fun e w' => e = .returned (.bool (eqBy p xs ys)) ∧ Below w.heap.size w w' := by
  have H1 := Lib.hid h1
  have H2 := Lib.hid h2
  have HOX := Lib.hid hox
  have HOY := Lib.hid hoy
  have HF := Lib.hid hf
  unfold maxLen at hn
  obtain ⟨R, hR⟩ : ∃ R, eqBy p xs ys = R := ⟨_, rfl⟩
  rw [hR]
  have HR := Lib.hid hR
  clear h1 h2 hox hoy hf hR
  by_cases hl : xs.length = ys.length
  · rw [← hl]
    have HL := Lib.hid hl
    clear hl
    go_enter Try.func64, Try.ntmps64
    go_wp2_with fail
    go_loopw [17] (fun c wr => ∃ j : Nat, j ≤ xs.length ∧ c = .int .i64 (j : Int) ∧ EqTo p xs ys j ∧ Below w.heap.size w wr) (fun c _ => xs.length - (intOf c).toNat)
    case atStart => exact ⟨0, Nat.zero_le _, rfl, EqTo.zero _ _ _, Below.refl _ _⟩
    case round =>
      obtain ⟨j, hj, rfl, hz, hb⟩ := hrel
      have HZ := Lib.hid hz
      have HB := Lib.hid hb
      by_cases hjl : j < xs.length
      · obtain ⟨x, hx⟩ : ∃ x, xs[j]? = some x := ⟨_, List.getElem?_eq_getElem hjl⟩
        obtain ⟨y, hy⟩ : ∃ y, ys[j]? = some y := ⟨_, List.getElem?_eq_getElem (by have := HL.out; omega)⟩
        obtain ⟨g1, o1, hA, hg1, q1⟩ := (H1.out.grow hb) (by intro e; rw [e] at hjl; simp at hjl)
        obtain ⟨g2, o2, hB, hg2, q2⟩ := (H2.out.grow hb) (by intro e; rw [e] at hy; simp at hy)
        have hxm := List.mem_of_getElem? hx
        have hym := List.mem_of_getElem? hy
        have HC1 : Hid (∀ k u, x.cells.toList[k]? = some u → wr.cell? ((⟨g1, o1 + j * 8, none⟩ : Addr).add k) = some u) := fun k u hu => by rw [Addr.add_lit]; exact q1 j x hx k u hu
        obtain ⟨P, hP⟩ : ∃ P, wr.heap.size = P := ⟨_, rfl⟩
        obtain ⟨W3, hW3⟩ : ∃ W3, wr.alloc (.cells x.cells 48) = W3 := ⟨_, rfl⟩
        have hst3 : ∀ (c : Array Value), c.size = 8 → (storeCells ⟨P, 0, none⟩ x.cells.toList 0).run Try.prog (wr.alloc (.cells c 48)) = .ok () W3 := fun c hc => by
          rw [← hW3, ← hP]
          exact run_storeCells_new (P := Try.prog) wr 48 c x.cells (by show _ = some 8; kernel_rfl) hc (HOX.out x hxm)
        have hr3 : W3.heap[P]? = some (.cells x.cells 48 (0, 0)) := by rw [← hW3, ← hP]; exact alloc_at _ _
        have hs3 : W3.heap.size = P + 1 := by rw [← hW3]; simp [hP]
        have hb3 : Below w.heap.size w W3 := by rw [← hW3]; exact hb.alloc hb.size _
        have HC2 : Hid (∀ k u, y.cells.toList[k]? = some u → W3.cell? ((⟨g2, o2 + j * 8, none⟩ : Addr).add k) = some u) := fun k u hu => by
          rw [Addr.add_lit, ← hW3, World.cell?_alloc_lt _ _ _ hg2]; exact q2 j y hy k u hu
        obtain ⟨W4, hW4⟩ : ∃ W4, W3.alloc (.cells y.cells 48) = W4 := ⟨_, rfl⟩
        have hst4 : ∀ (c : Array Value), c.size = 8 → (storeCells ⟨P + 1, 0, none⟩ y.cells.toList 0).run Try.prog (W3.alloc (.cells c 48)) = .ok () W4 := fun c hc => by
          rw [← hW4, ← hs3]
          exact run_storeCells_new (P := Try.prog) W3 48 c y.cells (by show _ = some 8; kernel_rfl) hc (HOY.out y hym)
        have hr4 : W4.heap[P + 1]? = some (.cells y.cells 48 (0, 0)) := by rw [← hW4, ← hs3]; exact alloc_at _ _
        have HR3 : Hid (W4.heap[P]? = some (.cells x.cells 48 (0, 0))) := by unfold Hid; rw [← hW4, Below.heap_alloc _ _ _ (by omega)]; exact hr3
        have HR4 := Lib.hid hr4
        have HB4 : Hid (Below w.heap.size w W4) := by rw [← hW4]; exact hb3.alloc hb3.size _
        have HCC := Lib.hid (HF.out x hxm y hym W4 HB4.out)
        have hs4 : W4.heap.size = P + 2 := by rw [← hW4]; simp [hs3]
        have hjI : (j : Int) < (xs.length : Int) := by omega
        obtain ⟨d, hd⟩ : ∃ d, p x y = d := ⟨_, rfl⟩
        rw [hd] at HCC
        have HX := Lib.hid hx
        have HY := Lib.hid hy
        have HD := Lib.hid hd
        rw [hA, hB]
        clear hx hy q1 q2 hxm hym hW3 hr3 hb3 hW4 hr4 hd hz hb
        cases d with
        | true =>
          go_wp2_with (first
            | (refine wpList_load_at rfl 48 _ rfl ⟨g1, o1 + j * 8, none⟩ rfl x.cells _ HC1.out Try.underlying48 rfl (by kernel_rfl) ?_)
            | (refine wpList_load_at rfl 48 _ rfl ⟨g2, o2 + j * 8, none⟩ rfl y.cells _ HC2.out Try.underlying48 rfl (by kernel_rfl) ?_)
            | (refine wpList_load_row rfl 48 _ rfl P rfl 48 x.cells (0, 0) _ HR3.out Try.underlying48 rfl (by kernel_rfl) ?_)
            | (refine wpList_load_row rfl 48 _ rfl (P + 1) rfl 48 y.cells (0, 0) _ HR4.out Try.underlying48 rfl (by kernel_rfl) ?_)
            | (go_at_call 22; refine HCC.out.mono ?_; rintro e w5 ⟨rfl, hb5⟩; have HB5 := Lib.hid hb5; clear hb5))
          go_roundw
          case rel => exact ⟨j + 1, by omega, by go_num, HZ.out.next HX.out HY.out HD.out, HB4.out.trans (HB5.out.mono HB4.out.size)⟩
          case measure => simp [intOf]; omega
        | false =>
          have HRR : Hid (R = false) := by unfold Hid; rw [← HR.out]; exact eqBy_false_at HX.out HY.out HD.out
          go_wp2_with (first
            | (refine wpList_load_at rfl 48 _ rfl ⟨g1, o1 + j * 8, none⟩ rfl x.cells _ HC1.out Try.underlying48 rfl (by kernel_rfl) ?_)
            | (refine wpList_load_at rfl 48 _ rfl ⟨g2, o2 + j * 8, none⟩ rfl y.cells _ HC2.out Try.underlying48 rfl (by kernel_rfl) ?_)
            | (refine wpList_load_row rfl 48 _ rfl P rfl 48 x.cells (0, 0) _ HR3.out Try.underlying48 rfl (by kernel_rfl) ?_)
            | (refine wpList_load_row rfl 48 _ rfl (P + 1) rfl 48 y.cells (0, 0) _ HR4.out Try.underlying48 rfl (by kernel_rfl) ?_)
            | (go_at_call 22; refine HCC.out.mono ?_; rintro e w5 ⟨rfl, hb5⟩; have HB5 := Lib.hid hb5; clear hb5))
          go_ret
          rw [HRR.out]
          exact ⟨rfl, HB4.out.trans (HB5.out.mono HB4.out.size)⟩
      · have hje : j = xs.length := by omega
        subst hje
        have HRR : Hid (R = true) := by unfold Hid; rw [← HR.out]; exact EqTo.all HZ.out HL.out
        clear hz hb
        go_wp2
        go_ret
        rw [HRR.out]
        exact ⟨rfl, HB.out⟩
  · have HRR : Hid (R = false) := by unfold Hid; rw [← HR.out]; exact eqBy_false_len hl
    have hlI : ¬ ((xs.length : Int) = (ys.length : Int)) := by omega
    go_enter Try.func64, Try.ntmps64
    go_wp2
    go_ret
    rw [HRR.out]
    exact ⟨rfl, Below.refl _ _⟩

end Go.Proofs.Ytbbogkcfngpbbaa
