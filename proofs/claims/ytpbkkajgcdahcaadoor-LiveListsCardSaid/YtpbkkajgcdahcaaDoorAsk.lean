/- What a table is asked: in, Ahead, Behind, Most. -/
import Derived.Test.YtpbkkajgcdahcaaDoorLiveOf2
namespace Go.Proofs.YtpbkkajgcdahcaaDoor
open Go.RowKit

def InT (c : Cod) (at_ v : Int) : Prop := 0 ≤ at_ ∧ at_ < (c.ins.length : Int) ∧ 0 ≤ v ∧ v < (c.nvars : Int)
instance (c : Cod) (at_ v : Int) : Decidable (InT c at_ v) := by unfold InT; infer_instance

set_option maxRecDepth 100000 in
set_option maxHeartbeats 1000000 in
theorem inT_calls (w : World) (T RA RB k : Nat) (c : Cod) (a b : Nat → Nat → Nat) (at_ v : Int) (h : TabI w T RA RB k c a b) :
    Calls Tryd.prog 27 #[.pointer (some ⟨T, 0, none⟩), .int .i64 at_, .int .i64 v] w fun e w' => e = .returned (.bool (decide (InT c at_ v))) ∧ w = w' := by
  have c2 : w.cell? ⟨T, 2, none⟩ = some (.slice c.varsA c.nvars c.varsC) := h.cells rfl
  have c8 : w.cell? ⟨T, 8, none⟩ = some (.slice (some ⟨RA, 0, none⟩) c.ins.length c.ins.length) := h.cells rfl
  obtain ⟨bb, hbb⟩ : ∃ bb, decide (InT c at_ v) = bb := ⟨_, rfl⟩
  rw [hbb]
  have HBB := Lib.hid hbb
  clear h hbb
  by_cases h1 : 0 ≤ at_
  · by_cases h2 : at_ < (c.ins.length : Int)
    · by_cases h3 : 0 ≤ v
      · by_cases h4 : v < (c.nvars : Int)
        · have HE : Hid (bb = true) := by unfold Hid; rw [← HBB.out]; exact decide_eq_true ⟨h1, h2, h3, h4⟩
          go_enter Tryd.func27, Tryd.ntmps27
          go_wp2
          go_ret
          exact ⟨by rw [HE.out]; rfl, rfl⟩
        · have HE : Hid (bb = false) := by unfold Hid; rw [← HBB.out]; exact decide_eq_false (fun h => h4 h.2.2.2)
          have hd : decide (v < (c.nvars : Int)) = false := decide_eq_false h4
          clear h4
          go_enter Tryd.func27, Tryd.ntmps27
          go_wp2
          go_ret
          exact ⟨by rw [HE.out]; rfl, rfl⟩
      · have HE : Hid (bb = false) := by unfold Hid; rw [← HBB.out]; exact decide_eq_false (fun h => h3 h.2.2.1)
        have hd : decide (0 ≤ v) = false := decide_eq_false h3
        clear h3
        go_enter Tryd.func27, Tryd.ntmps27
        go_wp2
        go_ret
        exact ⟨by rw [HE.out]; rfl, rfl⟩
    · have HE : Hid (bb = false) := by unfold Hid; rw [← HBB.out]; exact decide_eq_false (fun h => h2 h.2.1)
      have hd : decide (at_ < (c.ins.length : Int)) = false := decide_eq_false h2
      clear h2
      go_enter Tryd.func27, Tryd.ntmps27
      go_wp2
      go_ret
      exact ⟨by rw [HE.out]; rfl, rfl⟩
  · have HE : Hid (bb = false) := by unfold Hid; rw [← HBB.out]; exact decide_eq_false (fun h => h1 h.1)
    have hd : decide (0 ≤ at_) = false := decide_eq_false h1
    clear h1
    go_enter Tryd.func27, Tryd.ntmps27
    go_wp2
    go_ret
    exact ⟨by rw [HE.out]; rfl, rfl⟩

set_option maxRecDepth 100000 in
set_option maxHeartbeats 1000000 in
theorem ahead_calls (w : World) (T RA RB : Nat) (c : Cod) (a b : Nat → Nat → Nat) (x v : Nat) (h : TabOk w T RA RB c a b) (hx : x < c.ins.length) (hv : v < c.nvars) (hn : c.ins.length ≤ 90000) (hnv : c.nvars ≤ 90000) :
    Calls Tryd.prog 17 #[.pointer (some ⟨T, 0, none⟩), .int .i64 (x : Int), .int .i64 (v : Int)] w fun e w' => e = .returned (.bool (bitOf (a x) v)) ∧ w = w' := by
  have hI := inT_calls w T RA RB _ c a b x v h.tab
  rw [decide_eq_true (show InT c x v from ⟨by omega, by omega, by omega, by omega⟩)] at hI
  have HI := Lib.hid hI
  have c8 : w.cell? ⟨T, 8, none⟩ = some (.slice (some ⟨RA, 0, none⟩) c.ins.length c.ins.length) := h.tab.cells rfl
  obtain ⟨cur, q1, q2, q3⟩ := h.tab.ahead
  obtain ⟨g, cp, q4, _, q6⟩ := q3 x hx
  have c9 : w.cell? ⟨RA, x, none⟩ = some (.slice (some ⟨g, 0, none⟩) ((c.nvars + 63) / 64) cp) := by rw [cell_of_row _ _ _ _ _ _ q1]; exact q4
  have HH := Lib.hid (rowHas_calls w g ((c.nvars + 63) / 64) cp v (a x) q6 (fun i => h.ltA x i hx) (by omega) (by omega))
  have hxI : (x : Int) < (c.ins.length : Int) := by omega
  clear hI h q1 q2 q3 q4 q6
  go_enter Tryd.func17, Tryd.ntmps17
  go_wp2_with (first | (go_at_call 27; refine HI.out.mono ?_; rintro e w2 ⟨rfl, rfl⟩) | (go_at_call 35; refine HH.out.mono ?_; rintro e w3 ⟨rfl, rfl⟩))
  go_ret
  exact ⟨rfl, rfl⟩

set_option maxRecDepth 100000 in
set_option maxHeartbeats 1000000 in
theorem tbehind_calls (w : World) (T RA RB : Nat) (c : Cod) (a b : Nat → Nat → Nat) (x v : Nat) (h : TabOk w T RA RB c a b) (hx : x < c.ins.length) (hv : v < c.nvars) (hn : c.ins.length ≤ 90000) (hnv : c.nvars ≤ 90000) :
    Calls Tryd.prog 18 #[.pointer (some ⟨T, 0, none⟩), .int .i64 (x : Int), .int .i64 (v : Int)] w fun e w' => e = .returned (.bool (bitOf (b x) v)) ∧ w = w' := by
  have hI := inT_calls w T RA RB _ c a b x v h.tab
  rw [decide_eq_true (show InT c x v from ⟨by omega, by omega, by omega, by omega⟩)] at hI
  have HI := Lib.hid hI
  have c8 : w.cell? ⟨T, 9, none⟩ = some (.slice (some ⟨RB, 0, none⟩) c.ins.length c.ins.length) := h.tab.cells rfl
  have c9 : w.cell? ⟨RB, x, none⟩ = some (.slice (some ⟨RB + 1 + x, 0, none⟩) ((c.nvars + 63) / 64) ((c.nvars + 63) / 64)) := by
    rw [cell_of_row _ _ _ _ _ _ h.tab.behind, rowVals_get _ _ _ hx, if_pos hx]
  have HH := Lib.hid (rowHas_calls w (RB + 1 + x) ((c.nvars + 63) / 64) ((c.nvars + 63) / 64) v (b x) (h.tab.words x hx) (fun i => h.ltB x i) (by omega) (by omega))
  have hxI : (x : Int) < (c.ins.length : Int) := by omega
  clear hI h
  go_enter Tryd.func18, Tryd.ntmps18
  go_wp2_with (first | (go_at_call 27; refine HI.out.mono ?_; rintro e w2 ⟨rfl, rfl⟩) | (go_at_call 35; refine HH.out.mono ?_; rintro e w3 ⟨rfl, rfl⟩))
  go_ret
  exact ⟨rfl, rfl⟩

/-- The most that the first j rows have. -/
def mostOf (k : Nat) (b : Nat → Nat → Nat) : Nat → Nat
  | 0 => 0
  | j + 1 => max (mostOf k b j) (countOf k (b j))

theorem mostOf_le (k : Nat) (b : Nat → Nat → Nat) : ∀ j, mostOf k b j ≤ 64 * k
  | 0 => Nat.zero_le _
  | j + 1 => by simp only [mostOf]; have := mostOf_le k b j; have := countOf_le k (b j); omega

set_option maxRecDepth 100000 in
set_option maxHeartbeats 1000000 in
theorem most_calls (w : World) (T RA RB : Nat) (c : Cod) (a b : Nat → Nat → Nat) (h : TabOk w T RA RB c a b) (hn : c.ins.length ≤ 90000) (hnv : c.nvars ≤ 90000) :
    Calls Tryd.prog 14 #[.pointer (some ⟨T, 0, none⟩)] w fun e w' => e = .returned (.int .i64 ((mostOf ((c.nvars + 63) / 64) b c.ins.length : Nat) : Int)) ∧ w = w' := by
  have c8 : w.cell? ⟨T, 9, none⟩ = some (.slice (some ⟨RB, 0, none⟩) c.ins.length c.ins.length) := h.tab.cells rfl
  obtain ⟨k, hk⟩ : ∃ k, k = (c.nvars + 63) / 64 := ⟨_, rfl⟩
  have HT := Lib.hid h
  have hk9 : k ≤ 90000 := by omega
  rw [← hk]
  have HK := Lib.hid hk
  clear h hk
  go_enter Tryd.func14, Tryd.ntmps14
  go_wp2_with fail
  go_loop [2, 12] (fun t c' => ∃ j : Nat, j ≤ c.ins.length ∧ c' = .int .i64 (j : Int) ∧ t = .int .i64 ((mostOf k b j : Nat) : Int)) (fun _ c' => c.ins.length - (intOf c').toNat)
  case atStart => exact ⟨0, Nat.zero_le _, rfl, rfl⟩
  case round =>
    obtain ⟨j, hj, rfl, rfl⟩ := hrel
    by_cases hjl : j < c.ins.length
    · have c9 : w.cell? ⟨RB, j, none⟩ = some (.slice (some ⟨RB + 1 + j, 0, none⟩) k k) := by
        rw [cell_of_row _ _ _ _ _ _ HT.out.tab.behind, rowVals_get _ _ _ hjl, if_pos hjl, HK.out]
      have HC := Lib.hid (rowCount_calls w (RB + 1 + j) k k (b j) (by have := HT.out.tab.words j hjl; rwa [← HK.out] at this) (fun i => HT.out.ltB j i) hk9)
      have hm := mostOf_le k b j
      have hcn := countOf_le k (b j)
      have hjI : (j : Int) < (c.ins.length : Int) := by omega
      go_wp2_with (go_at_call 31; refine HC.out.mono ?_; rintro e w' ⟨rfl, rfl⟩)
      go_round
      case rel => exact ⟨j + 1, by omega, by go_num, by simp only [mostOf]; congr 1; omega⟩
      case measure => simp [intOf]; omega
    · have hje : j = c.ins.length := by omega
      subst hje
      go_wp2
      go_ret
      exact ⟨rfl, rfl⟩
end Go.Proofs.YtpbkkajgcdahcaaDoor
