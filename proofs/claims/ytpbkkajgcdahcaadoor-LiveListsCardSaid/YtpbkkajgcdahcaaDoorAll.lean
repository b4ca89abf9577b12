/- row.all: the members of a row of bits, one by one. -/
import Derived.Test.YtpbkkajgcdahcaaDoorTz
import Derived.Test.YtpbkkajgcdahcaaDoorWords
import Derived.Test.YtpbkkajgcdahcaaDoorSep
namespace Go.Proofs.YtpbkkajgcdahcaaDoor
open Go.RowKit

theorem pick_skip {p : Nat → Bool} {a : Nat} : ∀ d, (∀ x, a ≤ x → x < a + d → p x = false) → pick p (a + d) = pick p a
  | 0, _ => rfl
  | d + 1, h => by
    rw [show a + (d + 1) = (a + d) + 1 by omega, pick_succ, h (a + d) (by omega) (by omega)]
    simpa using pick_skip d (fun x h1 h2 => h x h1 (by omega))

theorem pick_prefix (p : Nat → Bool) (a : Nat) : ∀ d, pick p a <+: pick p (a + d)
  | 0 => List.prefix_refl _
  | d + 1 => by
    rw [show a + (d + 1) = (a + d) + 1 by omega, pick_succ]
    split
    · exact (pick_prefix p a d).trans (List.prefix_append _ _)
    · exact pick_prefix p a d

theorem bitOf_at (f : Nat → Nat) (j : Nat) {i : Nat} (h : i < 64) : bitOf f (64 * j + i) = (f j).testBit i := by
  unfold bitOf
  rw [show (64 * j + i) / 64 = j by omega, show (64 * j + i) % 64 = i by omega]

/-- What of word j is left from bit p on. -/
def LeftW (f : Nat → Nat) (j p y : Nat) : Prop := y < 18446744073709551616 ∧ ∀ i, y.testBit i = ((f j).testBit i && decide (p ≤ i))

theorem LeftW.first {f : Nat → Nat} {j : Nat} (h : f j < 18446744073709551616) : LeftW f j 0 (f j) := ⟨h, fun i => by simp⟩

theorem LeftW.none {f : Nat → Nat} {j p : Nat} (h : LeftW f j p 0) (hp : p ≤ 64) : pick (bitOf f) (64 * j + p) = pick (bitOf f) (64 * (j + 1)) := by
  have e : 64 * (j + 1) = 64 * j + p + (64 - p) := by omega
  rw [e]
  refine (pick_skip (64 - p) ?_).symm
  intro x h1 h2
  obtain ⟨i, rfl⟩ : ∃ i, x = 64 * j + i := ⟨x - 64 * j, by omega⟩
  rw [bitOf_at f j (by omega)]
  have := h.2 i
  rw [Nat.zero_testBit, decide_eq_true (show p ≤ i by omega)] at this
  simpa using this.symm

theorem LeftW.next {f : Nat → Nat} {j p y : Nat} (h : LeftW f j p y) (hy : y ≠ 0) : ∃ k, Lib.ctz 64 y = k ∧ k < 64 ∧ LeftW f j (k + 1) (y &&& (y - 1)) ∧ pick (bitOf f) (64 * j + (k + 1)) = pick (bitOf f) (64 * j + p) ++ [64 * j + k] ∧ y &&& (y - 1) < y := by
  obtain ⟨k, m, h1, h2, h3⟩ := low_spec hy h.1
  have hk : y.testBit k = true := by rw [low_bit h3]; simp
  have hlow : ∀ i, i < k → y.testBit i = false := fun i hi => by rw [low_bit h3, decide_eq_false (show ¬ k ≤ i by omega)]; rfl
  have hkk := hk
  rw [h.2 k, Bool.and_eq_true, decide_eq_true_eq] at hkk
  have hle : y &&& (y - 1) ≤ y - 1 := Nat.and_le_right
  have hya := h.1
  refine ⟨k, h1, h2, ⟨by omega, fun i => ?_⟩, ?_, by omega⟩
  · rw [low_clear h3, h.2 i]
    by_cases hi : k + 1 ≤ i
    · rw [decide_eq_true hi, decide_eq_true (show p ≤ i by omega), decide_eq_false (show ¬ i = k by omega)]; simp
    · rw [decide_eq_false hi]
      by_cases he : i = k
      · subst he; simp
      · have := hlow i (by omega)
        rw [h.2 i] at this
        rw [this]; simp
  · rw [show 64 * j + (k + 1) = (64 * j + k) + 1 by omega, pick_succ, bitOf_at f j h2, hkk.1, if_pos rfl]
    congr 1
    rw [show 64 * j + k = 64 * j + p + (k - p) by omega, pick_skip]
    intro x h1' h2'
    obtain ⟨i, rfl⟩ : ∃ i, x = 64 * j + i := ⟨x - 64 * j, by omega⟩
    rw [bitOf_at f j (by omega)]
    have := hlow i (by omega)
    rw [h.2 i, decide_eq_true (show p ≤ i by omega)] at this
    simpa using this

def allEnc (x : Nat) : Array Value := #[.int .i64 (x : Int)]

/-- What the closure reads: its box, the words, the table. -/
def allRd (B g : Nat) (k : Nat) : Prop := k = B ∨ k = g ∨ k = 0

set_option maxRecDepth 100000 in
set_option maxHeartbeats 4000000 in
theorem all1_iter (B g kk cp : Nat) (f : Nat → Nat) (w : World) (hb : w.heap[B]? = some (.cells #[.slice (some ⟨g, 0, none⟩) kk cp] 65 (0, 0))) (hr : RowW w g kk f) (hlt : ∀ i, f i < 18446744073709551616) (hk : kk ≤ 90000) (hT : DbTab w) :
    Iter Tryd.prog 44 #[.pointer (some ⟨B, 0, none⟩)] allEnc (pick (bitOf f) (64 * kk)) (allRd B g) w := by
  intro l J Jx C W hbw hst hJC hstx hmeet hJ
  have hB : B < w.heap.size := (Array.getElem?_eq_some_iff.1 hb).1
  have HST := Lib.hid hst
  have HJC := Lib.hid hJC
  have HSX := Lib.hid hstx
  have HM := Lib.hid hmeet
  have HJ := Lib.hid hJ
  have HLT := Lib.hid hlt
  have h00 : 0 < w.heap.size := by omega
  have HR : Hid (∀ W1, Ext (fun k => ¬ allRd B g k) W W1 → W1.cell? ⟨B, 0, none⟩ = some (.slice (some ⟨g, 0, none⟩) kk cp) ∧ (∀ i, i < kk → W1.cell? ⟨g, i, none⟩ = some (.int .u64 (f i : Int))) ∧ DbTab W1) := by
    intro W1 hx
    have hWB : W.heap[B]? = some (.cells #[.slice (some ⟨g, 0, none⟩) kk cp] 65 (0, 0)) := (hbw.block B hB).trans hb
    refine ⟨by rw [cell_of_row _ _ _ _ _ _ (hx.heap hWB (fun h => h (.inl rfl)))]; rfl, fun i hi => ?_, fun j hj => ?_⟩
    · rw [hx.cell (a := ⟨g, i, none⟩) (by have := hbw.size; have := hr.lt; show g < _; omega) (fun h => h (.inr (.inl rfl))), hbw.cell (p := ⟨g, i, none⟩) hr.lt]
      exact hr.cell hi
    · rw [hx.cell (a := ⟨0, j, none⟩) (by have := hbw.size; show 0 < _; omega) (fun h => h (.inr (.inr rfl))), hbw.cell (p := ⟨0, j, none⟩) h00]
      exact hT j hj
  have hc0 := (HR.out W (Ext.refl _ _)).1
  clear hst hJC hstx hmeet hJ hb hr hlt hT hbw
  show Calls _ _ #[.func (.yield l) #[] #[], .pointer (some ⟨B, 0, none⟩)] _ _
  go_enter Tryd.func44, Tryd.ntmps44
  go_wp2_with fail
  go_loopw [7] (fun i wr => ∃ (j : Nat) (C : Nat → Prop), j ≤ kk ∧ i = .int .i64 (j : Int) ∧ J (pick (bitOf f) (64 * j)) C wr ∧ Ext (fun k => ¬ allRd B g k) W wr) (fun i _ => kk - (intOf i).toNat)
  case atStart => exact ⟨0, C, Nat.zero_le _, rfl, HJ.out, Ext.refl _ _⟩
  case round =>
    obtain ⟨j, C1, hj, rfl, hJ1, hx1⟩ := hrel
    by_cases hjl : j < kk
    · have c1 := (HR.out wr hx1).2.1 j hjl
      have hjI : (j : Int) < (kk : Int) := by omega
      have HX1 := Lib.hid hx1
      have HJ1 := Lib.hid hJ1
      clear hx1 hJ1
      go_wp2_with fail
      go_loopw [4] (fun yv wr2 => ∃ (p y : Nat) (C : Nat → Prop), p ≤ 64 ∧ yv = .int .u64 (y : Int) ∧ LeftW f j p y ∧ J (pick (bitOf f) (64 * j + p)) C wr2 ∧ Ext (fun k => ¬ allRd B g k) W wr2) (fun yv _ => (intOf yv).toNat)
      case atStart => exact ⟨0, f j, C1, by omega, rfl, LeftW.first (HLT.out j), HJ1.out, HX1.out⟩
      case round =>
        obtain ⟨p, y, C2, hp, rfl, hL, hJ2, hx2⟩ := hrel
        by_cases hy : y = 0
        · subst hy
          have HJN : Hid (J (pick (bitOf f) (64 * (j + 1))) C2 wr ∧ Ext (fun k => ¬ allRd B g k) W wr) := ⟨by rw [← hL.none hp]; exact hJ2, hx2⟩
          clear hL hJ2 hx2
          go_wp2
          exact ⟨⟨j + 1, C2, by omega, by simp, HJN.out.1, HJN.out.2⟩, by simp [intOf]; omega⟩
        · obtain ⟨k, hk1, hk2, hLn, hpk, hdec⟩ := hL.next hy
          have hy0 : ((y : Int) == 0) = false := by simp; omega
          have hpre : pick (bitOf f) (64 * j + (k + 1)) <+: pick (bitOf f) (64 * kk) := by
            have := pick_prefix (bitOf f) (64 * j + (k + 1)) (64 * kk - (64 * j + (k + 1)))
            rwa [show 64 * j + (k + 1) + (64 * kk - (64 * j + (k + 1))) = 64 * kk by omega] at this
          have HMM := Lib.hid (HM.out (pick (bitOf f) (64 * j + p)) (64 * j + k) C2 wr hJ2 (by rw [← hpk]; exact hpre))
          unfold allEnc at HMM
          try simp only at HMM
          have htz := tz_calls wr y hy hL.1 (HR.out wr hx2).2.2
          rw [hk1] at htz
          have HTZ := Lib.hid htz
          have HMZ : Hid (Meets Tryd.prog (.func (.func 45) #[] #[]) #[.int .u64 (y : Int)] wr fun v W' => v = .int .i64 (k : Int) ∧ W' = wr) := by
            refine meets_of_calls Tryd.func45 (by rfl) rfl ?_
            refine HTZ.out.mono ?_
            rintro e w' ⟨rfl, rfl⟩
            exact ⟨_, rfl, rfl, rfl⟩
          have hya := hL.1
          have hyI : (y : Int) < 18446744073709551616 := by omega
          have hand : bits .and .u64 (y : Int) (IntKind.u64.wrap ((y : Int) - 1)) = ((y &&& (y - 1) : Nat) : Int) := by
            have e1 : IntKind.u64.wrap ((y : Int) - 1) = ((y - 1 : Nat) : Int) := by rw [IntKind.wrap_u64]; omega
            rw [e1]; exact u64_and_nat y (y - 1) (by omega) (by omega)
          have HJ2 := Lib.hid hJ2
          have HX2 := Lib.hid hx2
          have HLN := Lib.hid hLn
          have HPK := Lib.hid hpk
          have HPRE := Lib.hid hpre
          have HY := Lib.hid hy
          have HDEC : Hid (∀ _ : Unit, y &&& (y - 1) < y) := fun _ => hdec
          have HAND := Lib.hid hand
          have HYI := Lib.hid hyI
          clear hL hLn hJ2 hx2 hpk hpre htz hk1 hy hdec hya hand hyI
          have HK2 := Lib.hid hk2
          have HP := Lib.hid hp
          have HJJ := Lib.hid hjl
          have HKK := Lib.hid hk
          clear hk2 hp c1 hc0 hjI hjl hj hk HYI HY
          go_upto_region 5 with (fail)
          refine (wpIn_wide (n := 0)).1 ?_
          refine wpIn_region_lit (wpListIn_ok rfl (by simp) (.func (.yield l) #[] #[]) (w' := wr) (by simp [go_sem]) ?_)
          simp only [Act.put, List.setIfInBounds_toArray, List.set_cons_zero, List.set_cons_succ]
          refine wpListIn_ok rfl (by simp) (.int .i64 (j : Int)) (w' := wr) (by simp [go_sem]) ?_
          simp only [Act.put, List.setIfInBounds_toArray, List.set_cons_zero, List.set_cons_succ]
          refine wpListIn_ok rfl (by simp) (.int .i64 (64 * (j : Int))) (w' := wr) (by have := HJJ.out; have := HKK.out; simp [go_sem]; rw [IntKind.wrap_i64]; omega) ?_
          simp only [Act.put, List.setIfInBounds_toArray, List.set_cons_zero, List.set_cons_succ]
          refine wpListIn_ok rfl (by simp) (.int .u64 (y : Int)) (w' := wr) (by simp [go_sem]) ?_
          simp only [Act.put, List.setIfInBounds_toArray, List.set_cons_zero, List.set_cons_succ]
          refine wpListIn_meets (fv := .func (.func 45) #[] #[]) (args := #[.int .u64 (y : Int)]) rfl (.func 45) #[.tmp 21] _ rfl rfl (by simp [Act.eval]) HMZ.out ?_
          rintro v w3 ⟨rfl, rfl⟩
          simp only [Act.put, List.setIfInBounds_toArray, List.set_cons_zero, List.set_cons_succ]
          refine wpListIn_ok rfl (by simp) (.int .i64 ((64 * j + k : Nat) : Int)) (w' := w3) (by have := HJJ.out; have := HKK.out; have := HK2.out; simp [go_sem]; rw [IntKind.wrap_i64]; omega) ?_
          simp only [Act.put, List.setIfInBounds_toArray, List.set_cons_zero, List.set_cons_succ]
          refine wpListIn_meets (fv := .func (.yield l) #[] #[]) (args := #[.int .i64 ((64 * j + k : Nat) : Int)]) rfl (.tmp 18) #[.tmp 23] _ rfl rfl (by simp [Act.eval]) HMM.out ?_
          intro v w4 hv
          simp only [Act.put, List.setIfInBounds_toArray, List.set_cons_zero, List.set_cons_succ]
          rcases hv with ⟨rfl, C', hC', hJ', hx'⟩ | ⟨rfl, hJ'⟩
          · refine wpListIn_ok rfl (by simp) (.bool false) (w' := w4) (by simp [go_sem]) ?_
            simp only [Act.put, List.setIfInBounds_toArray, List.set_cons_zero, List.set_cons_succ]
            refine wpListIn_nil ?_
            have HN : Hid (J (pick (bitOf f) (64 * j + (k + 1))) C' w4 ∧ Ext (fun k => ¬ allRd B g k) W w4) :=
              ⟨by rw [HPK.out]; exact hJ', HX2.out.trans hx' (fun q hq => .inl ((HJC.out _ _ _ HJ2.out q hq).2))⟩
            clear hJ' hx' hC'
            have hand := HAND.out
            go_wp2
            exact ⟨⟨k + 1, y &&& (y - 1), C', by have := HK2.out; omega, by first | rfl | (rw [HAND.out]), HLN.out, HN.out.1, HN.out.2⟩, by have := HDEC.out (); simp [intOf]; omega⟩
          · refine wpListIn_ok rfl (by simp) (.bool true) (w' := w4) (by simp [go_sem]) ?_
            simp only [Act.put, List.setIfInBounds_toArray, List.set_cons_zero, List.set_cons_succ]
            refine wpListIn_nil ?_
            have HF : Hid (∃ pre, pre <+: pick (bitOf f) (64 * kk) ∧ Jx pre w4) := ⟨_, HPRE.out, by rw [HPK.out]; exact hJ'⟩
            clear hJ'
            go_wp2
            ((try simp only [Exit.inBlock, Exit.then]); (try rw [Exit.noGoto_ret]); (first | refine bodyPost_ret (results_none rfl _ _ _) rfl ?_ | refine bodyPost_end (results_none rfl _ _ _) rfl ?_))
            first | exact ⟨⟨_, rfl⟩, .inr HF.out⟩ | exact ⟨_, rfl, .inr HF.out⟩
    · have hje : j = kk := by omega
      subst hje
      have HJ1 := Lib.hid hJ1
      clear hJ1 hx1
      go_wp2
      ((try simp only [Exit.inBlock, Exit.then]); (try rw [Exit.noGoto_ret]); (first | refine bodyPost_ret (results_none rfl _ _ _) rfl ?_ | refine bodyPost_end (results_none rfl _ _ _) rfl ?_))
      exact ⟨_, rfl, .inl ⟨C1, HJ1.out⟩⟩
end Go.Proofs.YtpbkkajgcdahcaaDoor
