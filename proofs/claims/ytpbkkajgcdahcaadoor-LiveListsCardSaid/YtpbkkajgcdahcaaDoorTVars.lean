/- The table's Vars. -/
import Derived.Test.YtpbkkajgcdahcaaDoorAll
import Derived.Test.YtpbkkajgcdahcaaDoorAsk
namespace Go.Proofs.YtpbkkajgcdahcaaDoor
open Go.RowKit

set_option maxRecDepth 100000 in
theorem all_calls (w : World) (g kk cp : Nat) : Calls Tryd.prog 29 #[.slice (some ⟨g, 0, none⟩) kk cp] w fun e w' => e = .returned (.func (.func 44) #[] #[.pointer (some ⟨w.heap.size, 0, none⟩)]) ∧ w' = w.alloc (.cells #[.slice (some ⟨g, 0, none⟩) kk cp] 65) := by
  go_enter Tryd.func29, Tryd.ntmps29
  go_wp2
  go_ret
  exact ⟨rfl, rfl⟩

set_option maxRecDepth 100000 in
set_option maxHeartbeats 1000000 in
theorem tvars_calls (w : World) (T RA RB : Nat) (c : Cod) (a b : Nat → Nat → Nat) (x : Nat) (h : TabOk w T RA RB c a b) (hx : x < c.ins.length) (h0 : 0 < c.nvars) (hn : c.ins.length ≤ 90000) (hnv : c.nvars ≤ 90000) :
    Calls Tryd.prog 10 #[.pointer (some ⟨T, 0, none⟩), .int .i64 (x : Int)] w fun e w' =>
      e = .returned (.func (.func 44) #[] #[.pointer (some ⟨w.heap.size, 0, none⟩)]) ∧ w' = w.alloc (.cells #[.slice (some ⟨RB + 1 + x, 0, none⟩) ((c.nvars + 63) / 64) ((c.nvars + 63) / 64)] 65) := by
  have hI := inT_calls w T RA RB _ c a b x 0 h.tab
  rw [decide_eq_true (show InT c x 0 from ⟨by omega, by omega, by omega, by omega⟩)] at hI
  have HI := Lib.hid hI
  have c8 : w.cell? ⟨T, 9, none⟩ = some (.slice (some ⟨RB, 0, none⟩) c.ins.length c.ins.length) := h.tab.cells rfl
  have c9 : w.cell? ⟨RB, x, none⟩ = some (.slice (some ⟨RB + 1 + x, 0, none⟩) ((c.nvars + 63) / 64) ((c.nvars + 63) / 64)) := by
    rw [cell_of_row _ _ _ _ _ _ h.tab.behind, rowVals_get _ _ _ hx, if_pos hx]
  have HA := Lib.hid (all_calls w (RB + 1 + x) ((c.nvars + 63) / 64) ((c.nvars + 63) / 64))
  have hxI : (x : Int) < (c.ins.length : Int) := by omega
  clear hI h
  go_enter Tryd.func10, Tryd.ntmps10
  go_wp2_with (first | (go_at_call 27; refine HI.out.mono ?_; rintro e w2 ⟨rfl, rfl⟩) | (go_at_call 29; refine HA.out.mono ?_; rintro e w3 ⟨rfl, rfl⟩))
  go_ret
  exact ⟨rfl, rfl⟩

/-- Who is told behind x. -/
theorem tvars_iter {w : World} {T RA RB : Nat} {c : Cod} {a b : Nat → Nat → Nat} {x : Nat} (h : TabOk w T RA RB c a b) (hx : x < c.ins.length) (hnv : c.nvars ≤ 90000) (hT : DbTab w) :
    Iter Tryd.prog 44 #[.pointer (some ⟨w.heap.size, 0, none⟩)] allEnc (pick (bitOf (b x)) (64 * ((c.nvars + 63) / 64))) (allRd w.heap.size (RB + 1 + x)) (w.alloc (.cells #[.slice (some ⟨RB + 1 + x, 0, none⟩) ((c.nvars + 63) / 64) ((c.nvars + 63) / 64)] 65)) := by
  have hb : Below w.heap.size w (w.alloc (.cells #[.slice (some ⟨RB + 1 + x, 0, none⟩) ((c.nvars + 63) / 64) ((c.nvars + 63) / 64)] 65)) := (Below.refl _ _).alloc (Nat.le_refl _) _
  have h0 : 0 < w.heap.size := by have := (h.tab.words x hx).lt; omega
  refine all1_iter w.heap.size (RB + 1 + x) ((c.nvars + 63) / 64) ((c.nvars + 63) / 64) (b x) _ (alloc_at _ _) ((h.below hb).tab.words x hx) (fun i => h.ltB x i) (by omega) (fun j hj => ?_)
  rw [hb.cell (p := ⟨0, j, none⟩) h0]; exact hT j hj
end Go.Proofs.YtpbkkajgcdahcaaDoor
