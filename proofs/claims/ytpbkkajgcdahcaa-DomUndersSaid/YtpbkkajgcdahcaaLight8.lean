/- Is a code short? An answer; and if it is yes, its lengths are small. -/
import Derived.Test.YtpbkkajgcdahcaaOpen
namespace Go.Proofs.Ytpbkkajgcdahcaa
open Go.RowKit

theorem Ins.args_in.below {w w' : World} {i : Ins} (h : i.args_in w) (hb : Below w.heap.size w w') : i.args_in w' := by
  obtain ⟨h1, ao, cap, h2, h3⟩ := h
  refine ⟨h1, ao, cap, h2, fun hne => ?_⟩
  obtain ⟨b, off, e1, e2, e3⟩ := RowOf.below h3 hb (Nat.le_refl _) hne
  exact ⟨b, off, e1, Nat.lt_of_lt_of_le e2 hb.size, e3⟩

theorem RowOf.grow {α : Type} {cells : α → Array Value} {stride : Nat} {w w' : World} {ao : Option Addr} {xs : List α} (h : RowOf cells stride w w.heap.size ao xs) (hb : Below w.heap.size w w') : RowOf cells stride w' w'.heap.size ao xs := by
  intro hne
  obtain ⟨b, off, e1, e2, e3⟩ := h.below hb (Nat.le_refl _) hne
  exact ⟨b, off, e1, Nat.lt_of_lt_of_le e2 hb.size, e3⟩

theorem Cod.inn.below {w w' : World} {c : Cod} (h : c.inn w) (hb : Below w.heap.size w w') : c.inn w' :=
  ⟨RowOf.grow (cells := Ins.cells) h.row hb, fun x hx => (h.args x hx).below hb, h.len, let ⟨vs, a, b⟩ := h.vars; ⟨vs, a, b.grow hb⟩, h.nvars, h.nfrom, let ⟨fs, a, b⟩ := h.froms; ⟨fs, a, RowOf.grow b hb⟩⟩

/-- A short code. -/
def Cod.short (c : Cod) : Prop := c.ins.length ≤ 150 ∧ c.light

set_option maxRecDepth 100000 in
set_option maxHeartbeats 1000000 in
theorem light8_calls (c : Cod) (w : World) (hin : c.inn w) : Calls Try.prog 14 #[.agg c.cells] w (SaysIf w w.heap.size c.short) := by
  have HIN := Lib.hid hin
  have hlen := hin.len
  unfold maxLen at hlen
  clear hin
  obtain ⟨nm, par, varsA, nvars, varsC, rp, rto, rcl, fromA, nfrom, fromC, insA, insC, ins⟩ := c
  simp only at hlen
  simp only [Cod.cells]
  by_cases h150 : ins.length ≤ 150
  · obtain ⟨N, hN⟩ : ∃ N, w.heap.size = N := ⟨_, rfl⟩
    obtain ⟨W1, hW1⟩ : ∃ W1, (w.alloc (.cells #[.string nm, .int .i64 par, .slice varsA nvars varsC, .bool rp, .string rto, .int .i64 rcl, .slice fromA nfrom fromC, .slice insA ins.length insC] 30)).alloc (.cells #[.string nm, .int .i64 par, .slice varsA nvars varsC, .bool rp, .string rto, .int .i64 rcl, .slice fromA nfrom fromC, .slice insA ins.length insC] 30) = W1 := ⟨_, rfl⟩
    have hb1 : Below w.heap.size w W1 := by rw [← hW1]; exact ((Below.refl _ _).alloc (Nat.le_refl _) _).alloc (by simp) _
    have hsz : W1.heap.size = N + 2 := by rw [← hW1]; simp [hN]
    have hrow : W1.heap[N + 1]? = some (.cells #[.string nm, .int .i64 par, .slice varsA nvars varsC, .bool rp, .string rto, .int .i64 rcl, .slice fromA nfrom fromC, .slice insA ins.length insC] 30 (0, 0)) := by
      rw [← hW1, ← hN]
      have := alloc_at (w.alloc (.cells #[.string nm, .int .i64 par, .slice varsA nvars varsC, .bool rp, .string rto, .int .i64 rcl, .slice fromA nfrom fromC, .slice insA ins.length insC] 30)) (.cells #[.string nm, .int .i64 par, .slice varsA nvars varsC, .bool rp, .string rto, .int .i64 rcl, .slice fromA nfrom fromC, .slice insA ins.length insC] 30)
      rwa [World.size_alloc] at this
    have hin1 := HIN.out.below hb1
    have HL : Hid (Calls Try.prog 51 #[.agg #[.slice none 0 0, .slice (some ⟨N + 1, 0, none⟩) 1 1]] W1 (SaysIf W1 W1.heap.size (LightM [] [⟨nm, par, varsA, nvars, varsC, rp, rto, rcl, fromA, nfrom, fromC, insA, insC, ins⟩]))) := by
      have := light5_calls W1 none (some ⟨N + 1, 0, none⟩) 0 1 [] [⟨nm, par, varsA, nvars, varsC, rp, rto, rcl, fromA, nfrom, fromC, insA, insC, ins⟩] (fun h => absurd rfl h)
        (fun _ => ⟨N + 1, 0, rfl, by omega, fun i x hx k u hu => by
          have hi : i < 1 := (List.getElem?_eq_some_iff.1 hx).1
          obtain rfl : i = 0 := by omega
          simp at hx; subst hx
          rw [cell_of_row _ _ _ _ _ _ hrow]
          simpa [Cod.cells] using hu⟩)
        (by intro c hc; simp at hc; subst hc; exact hin1.row) (by intro c hc; simp at hc; subst hc; exact fun x hx => (hin1.args x hx).1) (by simp) (by simp)
      exact this
    have HB1 := Lib.hid hb1
    have HW1 := Lib.hid hW1
    clear hb1 hsz hrow hin1 hW1
    go_enter Try.func14, Try.ntmps14
    go_wp2_with fail
    go_at_call 51
    rw [HW1.out]
    refine HL.out.mono ?_
    rintro e w' ⟨b, rfl, hb, hbw⟩
    have HBB := Lib.hid hb
    have HBW : Hid (Below N w w') := by have := HB1.out; rw [hN] at this; exact this.trans (hbw.mono (by have := this.size; omega))
    clear hb hbw
    go_wp2
    go_ret
    refine ⟨b, rfl, fun hb => ?_, ?_⟩
    · have h := HBB.out hb
      exact ⟨h150, h.2.2.2.1 _ (by simp)⟩
    · first | exact HBW.out | (rw [hN]; exact HBW.out)
  · go_enter Try.func14, Try.ntmps14
    have hd : decide ((ins.length : Int) ≤ 150) = false := decide_eq_false (by omega)
    go_wp2
    go_ret
    exact ⟨false, rfl, by simp, (Below.refl _ _).alloc (Nat.le_refl _) _⟩
end Go.Proofs.Ytpbkkajgcdahcaa
