/- The Ops' words: the program's and the reference's. -/
import Derived.Test.YtlggjbopfnndbaaG07
import Derived.Deep.WholeRow

namespace Go.Proofs.Ytlggjbopfnndbaa
open Go.RowKit

def wordsB : List ByteArray := [⟨#[110, 117, 109]⟩, ⟨#[110, 117, 108, 108]⟩, ⟨#[99, 111, 112, 121]⟩, ⟨#[98, 105, 110]⟩, ⟨#[103, 101, 116]⟩, ⟨#[112, 117, 116]⟩, ⟨#[108, 111, 97, 100]⟩, ⟨#[115, 116, 111, 114, 101]⟩, ⟨#[103, 105, 118, 101]⟩, ⟨#[116, 97, 107, 101]⟩, ⟨#[115, 101, 116]⟩, ⟨#[110, 101, 119]⟩, ⟨#[102, 114, 101, 101]⟩, ⟨#[105, 115, 110, 117, 108, 108]⟩, ⟨#[99, 97, 108, 108]⟩, ⟨#[106, 117, 109, 112]⟩, ⟨#[98, 114, 97, 110, 99, 104]⟩, ⟨#[114, 101, 116]⟩]

/-- An Op's word. -/
def wordOf (op : Int) : ByteArray := if op < 1 ∨ 18 < op then ⟨#[]⟩ else (wordsB[(op - 1).toNat]?).getD ⟨#[]⟩

theorem wordOf_at {op : Int} (h1 : ¬ op < 1) (h2 : ¬ 18 < op) : ∃ (k : Nat) (s : ByteArray), op - 1 = (k : Int) ∧ k < 18 ∧ wordsB[k]? = some s ∧ wordOf op = s := by
  obtain ⟨k, hk⟩ : ∃ k : Nat, op - 1 = (k : Int) := ⟨(op - 1).toNat, by omega⟩
  have hk18 : k < 18 := by omega
  obtain ⟨s, hs⟩ : ∃ s, wordsB[k]? = some s := ⟨_, List.getElem?_eq_getElem (show k < wordsB.length from hk18)⟩
  refine ⟨k, s, hk, hk18, hs, ?_⟩
  unfold wordOf
  rw [if_neg (by omega), hk, Int.toNat_natCast, hs]
  rfl

theorem wordOf_none {op : Int} : (wordOf op == ⟨#[]⟩) = (decide (op < 1) || decide (18 < op)) := by
  by_cases h : op < 1 ∨ 18 < op
  · have e : wordOf op = ⟨#[]⟩ := if_pos h
    rw [e]
    rcases h with h | h
    · rw [decide_eq_true h]; rfl
    · rw [decide_eq_true h, Bool.or_true]; rfl
  · obtain ⟨k, s, h1, h2, h3, h4⟩ := wordOf_at (op := op) (by omega) (by omega)
    rw [h4, decide_eq_false (by omega), decide_eq_false (by omega)]
    have : ∀ j : Nat, j < 18 → ∀ s, wordsB[j]? = some s → (s == (⟨#[]⟩ : ByteArray)) = false := by decide
    exact this k h2 s h3

set_option maxRecDepth 100000 in
set_option maxHeartbeats 2000000 in
theorem irWord_calls (op : Int) (w : World) : Calls Try.prog 118 #[.int .i64 op] w fun e w' => e = .returned (.string (wordOf op)) ∧ Below w.heap.size w w' := by
  have hst : ∀ (c : Array Value), c.size = 18 → (storeCells ⟨w.heap.size, 0, none⟩ [.string ⟨#[110, 117, 109]⟩, .string ⟨#[110, 117, 108, 108]⟩, .string ⟨#[99, 111, 112, 121]⟩, .string ⟨#[98, 105, 110]⟩, .string ⟨#[103, 101, 116]⟩, .string ⟨#[112, 117, 116]⟩, .string ⟨#[108, 111, 97, 100]⟩, .string ⟨#[115, 116, 111, 114, 101]⟩, .string ⟨#[103, 105, 118, 101]⟩, .string ⟨#[116, 97, 107, 101]⟩, .string ⟨#[115, 101, 116]⟩, .string ⟨#[110, 101, 119]⟩, .string ⟨#[102, 114, 101, 101]⟩, .string ⟨#[105, 115, 110, 117, 108, 108]⟩, .string ⟨#[99, 97, 108, 108]⟩, .string ⟨#[106, 117, 109, 112]⟩, .string ⟨#[98, 114, 97, 110, 99, 104]⟩, .string ⟨#[114, 101, 116]⟩] 0).run Try.prog (w.alloc (.cells c 160)) = .ok () (w.alloc (.cells #[.string ⟨#[110, 117, 109]⟩, .string ⟨#[110, 117, 108, 108]⟩, .string ⟨#[99, 111, 112, 121]⟩, .string ⟨#[98, 105, 110]⟩, .string ⟨#[103, 101, 116]⟩, .string ⟨#[112, 117, 116]⟩, .string ⟨#[108, 111, 97, 100]⟩, .string ⟨#[115, 116, 111, 114, 101]⟩, .string ⟨#[103, 105, 118, 101]⟩, .string ⟨#[116, 97, 107, 101]⟩, .string ⟨#[115, 101, 116]⟩, .string ⟨#[110, 101, 119]⟩, .string ⟨#[102, 114, 101, 101]⟩, .string ⟨#[105, 115, 110, 117, 108, 108]⟩, .string ⟨#[99, 97, 108, 108]⟩, .string ⟨#[106, 117, 109, 112]⟩, .string ⟨#[98, 114, 97, 110, 99, 104]⟩, .string ⟨#[114, 101, 116]⟩] 160)) := fun c hc =>
    run_storeCells_new (P := Try.prog) w 160 c #[.string ⟨#[110, 117, 109]⟩, .string ⟨#[110, 117, 108, 108]⟩, .string ⟨#[99, 111, 112, 121]⟩, .string ⟨#[98, 105, 110]⟩, .string ⟨#[103, 101, 116]⟩, .string ⟨#[112, 117, 116]⟩, .string ⟨#[108, 111, 97, 100]⟩, .string ⟨#[115, 116, 111, 114, 101]⟩, .string ⟨#[103, 105, 118, 101]⟩, .string ⟨#[116, 97, 107, 101]⟩, .string ⟨#[115, 101, 116]⟩, .string ⟨#[110, 101, 119]⟩, .string ⟨#[102, 114, 101, 101]⟩, .string ⟨#[105, 115, 110, 117, 108, 108]⟩, .string ⟨#[99, 97, 108, 108]⟩, .string ⟨#[106, 117, 109, 112]⟩, .string ⟨#[98, 114, 97, 110, 99, 104]⟩, .string ⟨#[114, 101, 116]⟩] (by show _ = some 18; kernel_rfl) hc (by simp [Value.oneCell'])
  have hbld : ∀ w, (Instr.build 160 #[(0, .string ⟨#[110, 117, 109]⟩), (1, .string ⟨#[110, 117, 108, 108]⟩), (2, .string ⟨#[99, 111, 112, 121]⟩), (3, .string ⟨#[98, 105, 110]⟩), (4, .string ⟨#[103, 101, 116]⟩), (5, .string ⟨#[112, 117, 116]⟩), (6, .string ⟨#[108, 111, 97, 100]⟩), (7, .string ⟨#[115, 116, 111, 114, 101]⟩), (8, .string ⟨#[103, 105, 118, 101]⟩), (9, .string ⟨#[116, 97, 107, 101]⟩), (10, .string ⟨#[115, 101, 116]⟩), (11, .string ⟨#[110, 101, 119]⟩), (12, .string ⟨#[102, 114, 101, 101]⟩), (13, .string ⟨#[105, 115, 110, 117, 108, 108]⟩), (14, .string ⟨#[99, 97, 108, 108]⟩), (15, .string ⟨#[106, 117, 109, 112]⟩), (16, .string ⟨#[98, 114, 97, 110, 99, 104]⟩), (17, .string ⟨#[114, 101, 116]⟩)]).run Try.prog w = .ok (.agg #[.string ⟨#[110, 117, 109]⟩, .string ⟨#[110, 117, 108, 108]⟩, .string ⟨#[99, 111, 112, 121]⟩, .string ⟨#[98, 105, 110]⟩, .string ⟨#[103, 101, 116]⟩, .string ⟨#[112, 117, 116]⟩, .string ⟨#[108, 111, 97, 100]⟩, .string ⟨#[115, 116, 111, 114, 101]⟩, .string ⟨#[103, 105, 118, 101]⟩, .string ⟨#[116, 97, 107, 101]⟩, .string ⟨#[115, 101, 116]⟩, .string ⟨#[110, 101, 119]⟩, .string ⟨#[102, 114, 101, 101]⟩, .string ⟨#[105, 115, 110, 117, 108, 108]⟩, .string ⟨#[99, 97, 108, 108]⟩, .string ⟨#[106, 117, 109, 112]⟩, .string ⟨#[98, 114, 97, 110, 99, 104]⟩, .string ⟨#[114, 101, 116]⟩]) w := fun w => by kernel_rfl
  obtain ⟨N, hN⟩ : ∃ N, w.heap.size = N := ⟨_, rfl⟩
  obtain ⟨W1, hW1⟩ : ∃ W1, w.alloc (.cells #[.string ⟨#[110, 117, 109]⟩, .string ⟨#[110, 117, 108, 108]⟩, .string ⟨#[99, 111, 112, 121]⟩, .string ⟨#[98, 105, 110]⟩, .string ⟨#[103, 101, 116]⟩, .string ⟨#[112, 117, 116]⟩, .string ⟨#[108, 111, 97, 100]⟩, .string ⟨#[115, 116, 111, 114, 101]⟩, .string ⟨#[103, 105, 118, 101]⟩, .string ⟨#[116, 97, 107, 101]⟩, .string ⟨#[115, 101, 116]⟩, .string ⟨#[110, 101, 119]⟩, .string ⟨#[102, 114, 101, 101]⟩, .string ⟨#[105, 115, 110, 117, 108, 108]⟩, .string ⟨#[99, 97, 108, 108]⟩, .string ⟨#[106, 117, 109, 112]⟩, .string ⟨#[98, 114, 97, 110, 99, 104]⟩, .string ⟨#[114, 101, 116]⟩] 160) = W1 := ⟨_, rfl⟩
  have hb1 : Below N w W1 := by rw [← hW1, ← hN]; exact (Below.refl _ _).alloc (Nat.le_refl _) _
  have HB1 := Lib.hid hb1
  have HN := Lib.hid hN
  have hs1 : W1.heap.size = N + 1 := by rw [← hW1]; simp [hN]
  have hr1 : W1.heap[N]? = some (.cells (wordsB.map Value.string).toArray 160 (0, 0)) := by rw [← hW1, ← hN]; exact alloc_at _ _
  rw [hN, hW1] at hst
  clear hb1
  by_cases h1 : op < 1
  · have HE : Hid (wordOf op = ⟨#[]⟩) := if_pos (.inl h1)
    go_enter Try.func118, Try.ntmps118
    go_wp2
    go_ret
    rw [HE.out]
    exact ⟨rfl, by first | exact HB1.out | (rw [HN.out]; exact HB1.out)⟩
  by_cases h2 : 18 < op
  · have HE : Hid (wordOf op = ⟨#[]⟩) := if_pos (.inr h2)
    go_enter Try.func118, Try.ntmps118
    go_wp2
    go_ret
    rw [HE.out]
    exact ⟨rfl, by first | exact HB1.out | (rw [HN.out]; exact HB1.out)⟩
  obtain ⟨k, s, hk, hk18, hks, hw⟩ := wordOf_at h1 h2
  have hc : W1.cell? ⟨N, k, none⟩ = some (.string s) := by
    rw [cell_of_row _ _ _ _ _ _ hr1]; simp [hks]
  have HE := Lib.hid hw
  have hkI : (k : Int) < 18 := by omega
  clear hr1 hks hw
  go_enter Try.func118, Try.ntmps118
  go_wp2
  go_ret
  rw [HE.out]
  exact ⟨rfl, by first | exact HB1.out | (rw [HN.out]; exact HB1.out)⟩

end Go.Proofs.Ytlggjbopfnndbaa
