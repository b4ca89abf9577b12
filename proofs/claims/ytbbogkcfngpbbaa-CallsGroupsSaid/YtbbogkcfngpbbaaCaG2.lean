/- Is a group ready? -/
import Derived.Test.YtbbogkcfngpbbaaCaG
namespace Go.Proofs.Ytbbogkcfngpbbaa
open Go.RowKit

theorem intsAt_row {w : World} {base cap : Nat} {ao : Option Addr} {l : List Nat} (h : w.ownsRow base 3 1 (.slice ao l.length cap) l.length (l.flatMap encN)) : IntsAt w ao (nums l) := by
  rw [encN_flat] at h
  refine OwnI.at_ (base := base) (n := l.length) (cap := cap) ?_
  unfold OwnI
  rw [show (nums l).length = l.length from by simp [nums]]
  exact h

theorem mem_nums {x : Nat} {l : List Nat} : (x : Int) ∈ nums l ↔ x ∈ l := by
  unfold nums
  rw [List.mem_map]
  constructor
  · rintro ⟨a, h1, h2⟩
    have : a = x := by omega
    subst this; exact h1
  · exact fun h => ⟨x, h, rfl⟩

set_option maxRecDepth 100000 in
set_option maxHeartbeats 4000000 in
theorem ready_calls (w : World) (N G n DN UP ST RE GP : Nat) (gv : Value) (tag : Nat → Nat) (d u : Nat → List Nat) (s : Nat → List (Nat × Nat)) (r : Nat → List Bool) (gi : Nat → Int) (hg : GM w N G n DN UP ST RE GP gv tag d u s r gi) (hn : n ≤ 70)
    (hdl : ∀ x, x < n → (d x).length ≤ n) (hdn : ∀ x, ∀ y ∈ d x, y < n) (l : List Nat) (ao : Option Addr) (cap base : Nat) (hown : w.ownsRow base 3 1 (.slice ao l.length cap) l.length (l.flatMap encN)) (hl : l.length ≤ 70) (hln : ∀ x ∈ l, x < n) :
    Calls Try.prog 91 #[.pointer (some ⟨G, 0, none⟩), .slice ao l.length cap] w fun e w' => e = .returned (.bool (readyF d gi l)) ∧ w = w' := by
  have HG := Lib.hid hg
  have HDL := Lib.hid hdl
  have HDN := Lib.hid hdn
  have HO := Lib.hid hown
  have HLN := Lib.hid hln
  have HCO : Hid (∀ z : Nat, Calls Try.prog 109 #[.slice ao l.length cap, .int .i64 (z : Int)] w fun e w' => e = .returned (.bool (decide (z ∈ l))) ∧ w = w') := by
    intro z
    have h := contains_calls w cap ao (nums l) (z : Int) (by simp [nums]; omega) (intsAt_row hown)
    rw [show (nums l).length = l.length from by simp [nums], show decide ((z : Int) ∈ nums l) = decide (z ∈ l) from decide_eq_decide.2 mem_nums] at h
    exact h
  have HR : Hid (readyF d gi l = l.all fun f => (d f).all fun h => !(gi h == -1) || decide (h ∈ l)) := rfl
  obtain ⟨R, hR⟩ : ∃ R, readyF d gi l = R := ⟨_, rfl⟩
  rw [hR] at HR ⊢
  obtain ⟨c0, _, _, _, _, c5⟩ := hg.cells
  clear hg hdl hdn hown hln hR
  go_enter Try.func91, Try.ntmps91
  go_wp2_with fail
  go_loopw [11] (fun c wr => ∃ a : Nat, a ≤ l.length ∧ c = .int .i64 (a : Int) ∧ ((l.take a).all fun f => (d f).all fun h => !(gi h == -1) || decide (h ∈ l)) = true ∧ wr = w) (fun c _ => l.length - (intOf c).toNat)
  case atStart => exact ⟨0, Nat.zero_le _, rfl, by simp, rfl⟩
  case round =>
    obtain ⟨a, ha, rfl, hall, rfl⟩ := hrel
    by_cases hal : a < l.length
    · have haI : (a : Int) < (l.length : Int) := by omega
      obtain ⟨f, hf⟩ : ∃ f, l[a]? = some f := ⟨_, List.getElem?_eq_getElem hal⟩
      have hfn : f < n := HLN.out f (List.mem_of_getElem? hf)
      obtain ⟨g, rfl, _, cf⟩ := ownsRow_get HO.out (j := a) (u := .int .i64 (f : Int)) (by rw [encN_flat]; simp [nums, hf])
      obtain ⟨vf, cd, _, od, _⟩ := HG.out.D.at_ hfn
      obtain ⟨aod, capd, rfl⟩ := ownsRow_slice od
      have hfI : (f : Int) < (n : Int) := by omega
      have hdl := HDL.out f hfn
      have HALL := Lib.hid hall
      have HF := Lib.hid hf
      have HOD := Lib.hid od
      clear hall hf od
      go_wp2_with fail
      go_loopw [23] (fun c wr2 => ∃ b : Nat, b ≤ (d f).length ∧ c = .int .i64 (b : Int) ∧ (((d f).take b).all fun h => !(gi h == -1) || decide (h ∈ l)) = true ∧ wr2 = wr) (fun c _ => (d f).length - (intOf c).toNat)
      case atStart => exact ⟨0, Nat.zero_le _, rfl, by simp, rfl⟩
      case round =>
        obtain ⟨b, hb, rfl, hall2, rfl⟩ := hrel
        by_cases hbl : b < (d f).length
        · have hbI : (b : Int) < ((d f).length : Int) := by omega
          obtain ⟨h, hh⟩ : ∃ h, (d f)[b]? = some h := ⟨_, List.getElem?_eq_getElem hbl⟩
          have hhn : h < n := HDN.out f h (List.mem_of_getElem? hh)
          obtain ⟨g2, rfl, _, ch⟩ := ownsRow_get HOD.out (j := b) (u := .int .i64 (h : Int)) (by rw [encN_flat]; simp [nums, hh])
          have cg : wr.cell? ⟨GP, h, none⟩ = some (.int .i64 (gi h)) := by rw [cell_of_row _ _ _ _ _ _ HG.out.gp, numsC_get _ hhn]
          have hhI : (h : Int) < (n : Int) := by omega
          have htk : (d f).take (b + 1) = (d f).take b ++ [h] := by rw [List.take_add_one, hh]; rfl
          obtain ⟨q, hq⟩ : ∃ q, gi h = q := ⟨_, rfl⟩
          rw [hq] at cg
          obtain ⟨mm, hmm⟩ : ∃ mm, decide (h ∈ l) = mm := ⟨_, rfl⟩
          have HCOH := HCO.out h
          rw [hmm] at HCOH
          have HC2 := Lib.hid HCOH
          have HALL2 := Lib.hid hall2
          have HTK := Lib.hid htk
          have HQ := Lib.hid hq
          have HMM := Lib.hid hmm
          have HH := Lib.hid hh
          clear HCOH hall2 htk hq hmm hh
          by_cases hq1 : q = -1
          · subst hq1
            cases mm with
            | true =>
              have HN : Hid ((((d f).take (b + 1)).all fun h => !(gi h == -1) || decide (h ∈ l)) = true) := by
                unfold Hid; rw [HTK.out, List.all_append, HALL2.out]; simp [HQ.out, of_decide_eq_true HMM.out]
              go_wp2_with (go_at_call 109; refine HC2.out.mono ?_; rintro e w2 ⟨rfl, rfl⟩)
              go_roundw
              case rel => exact ⟨b + 1, by omega, by go_num, HN.out, by first | rfl | trivial⟩
              case measure => simp [intOf]; omega
            | false =>
              have HN : Hid (R = false) := by
                unfold Hid
                rw [HR.out]
                refine Bool.eq_false_iff.2 fun h1 => ?_
                have h2 := List.all_eq_true.1 (List.all_eq_true.1 h1 f (List.mem_of_getElem? HF.out)) h (List.mem_of_getElem? HH.out)
                rw [HQ.out, HMM.out] at h2
                simp at h2
              go_wp2_with (go_at_call 109; refine HC2.out.mono ?_; rintro e w2 ⟨rfl, rfl⟩)
              go_ret
              rw [HN.out]
              exact ⟨rfl, rfl⟩
          · have hq2 : (q == -1) = false := by rw [beq_eq_false_iff_ne]; exact hq1
            have HN : Hid ((((d f).take (b + 1)).all fun h => !(gi h == -1) || decide (h ∈ l)) = true) := by
              unfold Hid; rw [HTK.out, List.all_append, HALL2.out]; simp [HQ.out, hq1]
            clear hq1
            go_wp2
            go_roundw
            case rel => exact ⟨b + 1, by omega, by go_num, HN.out, by first | rfl | trivial⟩
            case measure => simp [intOf]; omega
        · have hbe : b = (d f).length := by omega
          subst hbe
          rw [List.take_length] at hall2
          have HN : Hid (((l.take (a + 1)).all fun f => (d f).all fun h => !(gi h == -1) || decide (h ∈ l)) = true) := by
            unfold Hid
            rw [show l.take (a + 1) = l.take a ++ [f] from by rw [List.take_add_one, HF.out]; rfl, List.all_append, HALL.out]
            simpa using hall2
          clear hall2
          go_wp2
          go_roundw
          case rel => exact ⟨a + 1, by omega, by go_num, HN.out, by first | rfl | trivial⟩
          case measure => simp [intOf]; omega
    · have hae : a = l.length := by omega
      subst hae
      rw [List.take_length] at hall
      have HN : Hid (R = true) := by unfold Hid; rw [HR.out]; exact hall
      clear hall
      go_wp2
      go_ret
      rw [HN.out]
      exact ⟨rfl, rfl⟩
end Go.Proofs.Ytbbogkcfngpbbaa
