import Derived.Test.YtlggjbopfnndbaaQ11
import Derived.Test.YtlggjbopfnndbaaReads
import Derived.Handy

namespace Go.Proofs.Ytlggjbopfnndbaa
open Go.RowKit

set_option maxRecDepth 100000 in
theorem unless_calls (b : Bool) (f : Int) (w : World) : Calls Try.prog 81 #[.bool b, .int .i64 f] w fun e w' => e = .returned (.int .i64 (unl b f)) ∧ w = w' := by
  cases b with
  | true =>
    go_enter Try.func81, Try.ntmps81
    go_wp2
    go_ret
    exact ⟨rfl, rfl⟩
  | false =>
    go_enter Try.func81, Try.ntmps81
    go_wp2
    go_ret
    exact ⟨rfl, rfl⟩

/-- A judge's cells: its module's, its function's. -/
def jg (m : Mo) (g : Fn) : Array Value := #[.slice m.sA m.ss.length m.sC, .slice m.fA m.fs.length m.fC, .string g.c.nm, .int .i64 g.c.par, .slice g.c.varsA g.c.nvars g.c.varsC, .bool g.c.rp, .string g.c.rto, .int .i64 g.c.rcl, .slice g.c.fromA g.c.nfrom g.c.fromC, .slice g.c.insA g.c.ins.length g.c.insC]

def tyV (t : Ty) : Value := .agg #[.bool t.1, .string t.2]

theorem field_typ : ∀ (b : Bool) (s : ByteArray) (w : World), (Instr.field 45 (.agg #[.bool b, .string s]) 0).run Try.prog w = .ok (.bool b) w := fun b s w => by kernel_rfl

theorem isVar_iff {n : Nat} {v : Int} : isVar n v = true ↔ 0 ≤ v ∧ v < (n : Int) := by simp [isVar]

/-- A variable's cells in memory. -/
theorem var_at {w : World} {A : Option Addr} {vs : List Vr} (hr : RowOf Vr.cells 3 w w.heap.size A vs) {v : Int} (hv : isVar vs.length v = true) :
    ∃ (k b off : Nat) (x : Vr), v = (k : Int) ∧ k < vs.length ∧ A = some ⟨b, off, none⟩ ∧ b < w.heap.size ∧ tyAt vs v = (x.ptr, x.tgt) ∧ w.cell? ⟨b, off + k * 3, none⟩ = some (.bool x.ptr) ∧ w.cell? ⟨b, off + k * 3 + 1, none⟩ = some (.string x.tgt) := by
  obtain ⟨h0, h1⟩ := isVar_iff.1 hv
  obtain ⟨k, rfl⟩ : ∃ k : Nat, v = (k : Int) := ⟨v.toNat, by omega⟩
  have hk : k < vs.length := by omega
  obtain ⟨x, hx⟩ : ∃ x, vs[k]? = some x := ⟨_, List.getElem?_eq_getElem hk⟩
  obtain ⟨b, off, hA, hb, hc⟩ := hr (by intro e; rw [e] at hk; simp at hk)
  refine ⟨k, b, off, x, rfl, hk, hA, hb, ?_, hc k x hx 0 _ rfl, hc k x hx 1 _ rfl⟩
  unfold tyAt
  rw [Int.toNat_natCast, hx]
  rfl

set_option maxRecDepth 100000 in
set_option maxHeartbeats 1000000 in
theorem typ_calls (m : Mo) (g : Fn) (v : Int) (w : World) (hr : RowOf Vr.cells 3 w w.heap.size g.c.varsA g.vs) (hn : g.c.nvars = g.vs.length) (hl : g.vs.length ≤ maxLen) (hv : isVar g.vs.length v = true) :
    Calls Try.prog 125 #[.agg (jg m g), .int .i64 v] w fun e w' => e = .returned (tyV (tyAt g.vs v)) ∧ Below w.heap.size w w' := by
  obtain ⟨k, b, off, x, rfl, hk, hA, hb, ht, q0, q1⟩ := var_at hr hv
  have hkI : (k : Int) < (g.vs.length : Int) := by omega
  rw [ht]
  unfold tyV jg
  rw [hA, hn]
  unfold maxLen at hl
  clear hr hv ht hA hn
  go_enter Try.func125, Try.ntmps125
  go_wp2
  go_returns
  exact ⟨rfl, ((Below.refl _ _).alloc (Nat.le_refl _) _).alloc (by simp) _⟩

set_option maxRecDepth 100000 in
set_option maxHeartbeats 1000000 in
theorem line_calls (m : Mo) (g : Fn) (v : Int) (w : World) : Calls Try.prog 123 #[.agg (jg m g), .int .i64 v] w fun e w' => e = .returned (.bool (isVar g.c.ins.length v)) ∧ Below w.heap.size w w' := by
  unfold jg
  by_cases h : 0 ≤ v
  · have HE : Hid (decide (v < (g.c.ins.length : Int)) = isVar g.c.ins.length v) := by
      unfold Hid isVar; rw [decide_eq_true h]; rfl
    go_enter Try.func123, Try.ntmps123
    go_wp2
    go_ret
    rw [← HE.out]
    exact ⟨rfl, (Below.refl _ _).alloc (Nat.le_refl _) _⟩
  · have HE : Hid (false = isVar g.c.ins.length v) := by
      unfold Hid isVar; rw [decide_eq_false h]; rfl
    go_enter Try.func123, Try.ntmps123
    go_wp2
    go_ret
    rw [← HE.out]
    exact ⟨rfl, (Below.refl _ _).alloc (Nat.le_refl _) _⟩

set_option maxRecDepth 100000 in
set_option maxHeartbeats 1000000 in
theorem there1_calls (m : Mo) (g : Fn) (B : Nat) (v : Int) (w : World) (hB : w.heap[B]? = some (.cells (jg m g) 113 (0, 0))) (hn : g.c.nvars = g.vs.length) :
    Calls Try.prog 134 #[.int .i64 v, .pointer (some ⟨B, 0, none⟩)] w fun e w' => e = .returned (.bool (!isVar g.vs.length v)) ∧ w = w' := by
  have q : w.cell? ⟨B, 4, none⟩ = some (.slice g.c.varsA g.vs.length g.c.varsC) := by rw [cell_of_row _ _ _ _ _ _ hB, ← hn]; rfl
  clear hB hn
  by_cases h : v < 0
  · have HE : Hid (true = !isVar g.vs.length v) := by
      unfold Hid isVar; rw [decide_eq_false (by omega)]; rfl
    go_enter Try.func134, Try.ntmps134
    go_wp2
    go_ret
    rw [← HE.out]
    exact ⟨rfl, rfl⟩
  · have HE : Hid (decide ((g.vs.length : Int) ≤ v) = !isVar g.vs.length v) := by
      unfold Hid isVar; rw [Bool.eq_iff_iff]; simp; omega
    go_enter Try.func134, Try.ntmps134
    go_wp2
    go_ret
    rw [← HE.out]
    exact ⟨rfl, rfl⟩

set_option maxRecDepth 100000 in
set_option maxHeartbeats 1000000 in
theorem numbers1_calls (m : Mo) (g : Fn) (B : Nat) (v : Int) (w : World) (hB : w.heap[B]? = some (.cells (jg m g) 113 (0, 0))) (hr : RowOf Vr.cells 3 w w.heap.size g.c.varsA g.vs) (hn : g.c.nvars = g.vs.length) (hl : g.vs.length ≤ maxLen) (hv : isVar g.vs.length v = true) :
    Calls Try.prog 135 #[.int .i64 v, .pointer (some ⟨B, 0, none⟩)] w fun e w' => e = .returned (.bool (tyAt g.vs v).1) ∧ Below w.heap.size w w' := by
  have HT := Lib.hid (typ_calls m g v w hr hn hl hv)
  unfold tyV at HT
  have HB := Lib.hid hB
  have hfld := field_typ
  have hBlt := (Array.getElem?_eq_some_iff.1 hB).1
  clear hB hr hv hn hl
  go_enter Try.func135, Try.ntmps135
  go_wp2_with (first
    | (refine wpList_load_row rfl 113 _ rfl B rfl 113 (jg m g) (0, 0) _ HB.out Try.underlying113 rfl (by kernel_rfl) ?_)
    | (go_at_call 125; refine HT.out.mono ?_; rintro e w2 ⟨rfl, hb⟩; have HB2 := Lib.hid hb; clear hb))
  go_ret
  exact ⟨rfl, HB2.out⟩
end Go.Proofs.Ytlggjbopfnndbaa
