/- A function's group, by the reference's table. -/
import Derived.Test.YtbbogkcfngpbbaaCaTb
import Derived.Test.YtbbogkcfngpbbaaCaG
namespace Go.Proofs.Ytbbogkcfngpbbaa
open Go.RowKit

set_option maxRecDepth 100000 in
set_option maxHeartbeats 4000000 in
theorem rgroup_calls (w : World) (R n : Nat) (rb : Nat → Nat → Bool) (hg : TabT w R n rb) (hn : n ≤ 70) (f : Nat) (hf : f < n) :
    Calls Try.prog 80 #[.slice (some ⟨R, 0, none⟩) n n, .int .i64 (f : Int)] w (GivesN w (grp n rb f)) := by
  obtain ⟨p, hp⟩ : ∃ p : Nat → Bool, (fun h => decide (h = f) || (rb f h && rb h f)) = p := ⟨_, rfl⟩
  have HP : Hid (∀ h, p h = (decide (h = f) || (rb f h && rb h f))) := fun h => by rw [← hp]
  have HGR : Hid (grp n rb f = (List.range n).filter p) := by unfold Hid grp; rw [hp]
  clear hp
  obtain ⟨B, hB⟩ : ∃ B, w.heap.size = B := ⟨_, rfl⟩
  have HCF : Hid (∀ W, Below B w W → ∃ g cap, W.cell? ⟨R, f, none⟩ = some (.slice (some ⟨g, 0, none⟩) n cap) ∧ ∀ h, h < n → W.cell? ⟨g, h, none⟩ = some (.bool (rb f h))) := by
    intro W hW
    have hT := hg.below (by rw [hB]; exact hW)
    obtain ⟨b, cap, e1, _⟩ := hT.at_ hf hf
    refine ⟨b, cap, e1, fun h hh => ?_⟩
    obtain ⟨b2, cap2, e2, e3⟩ := hT.at_ hf hh
    have e4 := e1.symm.trans e2
    simp only [Option.some.injEq, Value.slice.injEq, Addr.mk.injEq] at e4
    obtain ⟨⟨rfl, _⟩, _⟩ := e4
    exact e3
  have HCH : Hid (∀ W, Below B w W → ∀ h, h < n → ∃ g cap, W.cell? ⟨R, h, none⟩ = some (.slice (some ⟨g, 0, none⟩) n cap) ∧ W.cell? ⟨g, f, none⟩ = some (.bool (rb h f))) := fun W hW h hh => (hg.below (by rw [hB]; exact hW)).at_ hh hf
  have hfI : (f : Int) < (n : Int) := by omega
  clear hg
  go_enter Try.func80, Try.ntmps80
  go_wp2_with fail
  go_loopw [5, 6] (fun v c wr => ∃ j : Nat, j ≤ n ∧ c = .int .i64 (j : Int) ∧ PkI p B w j v wr) (fun _ c _ => n - (intOf c).toNat)
  case atStart => exact ⟨0, Nat.zero_le _, rfl, World.ownsRow_nil _ _ _ _, Below.refl _ _, by omega⟩
  case round =>
    obtain ⟨j, hj, rfl, hpk⟩ := hrel
    have HPK := Lib.hid hpk
    have hbw := hpk.2.1
    have hsz := hpk.2.2
    obtain ⟨ao, cap, hv⟩ := ownsRow_slice hpk.1
    subst hv
    by_cases hjn : j < n
    · have hjI : (j : Int) < (n : Int) := by omega
      have hlen := rf_len p j
      obtain ⟨gf, capf, cf, ef⟩ := HCF.out wr hbw
      have efj := ef j hjn
      obtain ⟨gh, caph, ch, eh⟩ := HCH.out wr hbw j hjn
      have hpj := HP.out j
      obtain ⟨i0, hi0, hi1, hi2, hi3⟩ := info_parts info_int
      have HAP : Hid (∀ (g5 cap5 : Nat) (w5 : World), p j = true → w5.ownsRow B 3 1 (.slice (some ⟨g5, 0, none⟩) (((List.range j).filter p).length + 1) cap5) (((List.range j).filter p).length + 1) (((List.range j).filter p).flatMap encN ++ [.int .i64 (j : Int)]) →
          (wr.alloc (.cells #[.int .i64 (j : Int)] 3)).grownBy w5 (Value.slice ao ((List.range j).filter p).length cap).ownBlock → PkI p B w (j + 1) (.slice (some ⟨g5, 0, none⟩) (((List.range j).filter p).length + 1) cap5) w5) :=
        fun g5 cap5 w5 h1 h2 h3 => HPK.out.app h1 ((Below.refl _ _).alloc hsz _) (by simp) h2 h3
      have HOW := Lib.hid hpk.1
      by_cases hjf : j = f
      · subst hjf
        have HT : Hid (p j = true) := by unfold Hid; rw [hpj]; simp
        clear hpk hbw ef efj eh ch cf hpj
        go_wp2_with (at_builtin; refine wpList_append_lies _ rfl _ _ 22 rfl B 3 i0 (.int .i64 0) 1 8 Try.underlying22 hi0 hi1 hi2 hi3 rfl (by decide) _ ((List.range j).filter p).length _ rfl (ownsRow_below HOW.out ((Below.refl wr.heap.size wr).alloc (Nat.le_refl _) _)) ⟨wr.heap.size, 0, none⟩ 1 1 [.int .i64 (j : Int)] rfl rfl (cells_new _ _ _) (by simp [Value.oneCell']) (by decide) (by unfold maxLen; omega) (by omega) (by rw [World.size_alloc]; omega) _ rfl ?_; intro g5 cap5 w5 hown5 hgrow5 _ _; have HN := Lib.hid (HAP.out g5 cap5 w5 HT.out hown5 hgrow5); clear hown5 hgrow5)
        go_roundw
        case rel => exact ⟨j + 1, by omega, by go_num, HN.out⟩
        case measure => simp [intOf]; omega
      · have hne : ((j : Int) == (f : Int)) = false := by rw [beq_eq_false_iff_ne]; omega
        have hd : decide (j = f) = false := decide_eq_false hjf
        rw [hd, Bool.false_or] at hpj
        obtain ⟨b1, hb1⟩ : ∃ b, rb f j = b := ⟨_, rfl⟩
        obtain ⟨b2, hb2⟩ : ∃ b, rb j f = b := ⟨_, rfl⟩
        rw [hb1] at efj hpj
        rw [hb2] at eh hpj
        have HPJ := Lib.hid hpj
        clear hpk hbw ef hpj hjf hb1 hb2 hd
        cases b1 with
        | false =>
          have HN := Lib.hid (HPK.out.skip (by rw [HPJ.out]; rfl))
          go_wp2
          go_roundw
          case rel => exact ⟨j + 1, by omega, by go_num, HN.out⟩
          case measure => simp [intOf]; omega
        | true =>
          cases b2 with
          | false =>
            have HN := Lib.hid (HPK.out.skip (by rw [HPJ.out]; rfl))
            go_wp2
            go_roundw
            case rel => exact ⟨j + 1, by omega, by go_num, HN.out⟩
            case measure => simp [intOf]; omega
          | true =>
            have HT : Hid (p j = true) := by unfold Hid; rw [HPJ.out]; rfl
            go_wp2_with (at_builtin; refine wpList_append_lies _ rfl _ _ 22 rfl B 3 i0 (.int .i64 0) 1 8 Try.underlying22 hi0 hi1 hi2 hi3 rfl (by decide) _ ((List.range j).filter p).length _ rfl (ownsRow_below HOW.out ((Below.refl wr.heap.size wr).alloc (Nat.le_refl _) _)) ⟨wr.heap.size, 0, none⟩ 1 1 [.int .i64 (j : Int)] rfl rfl (cells_new _ _ _) (by simp [Value.oneCell']) (by decide) (by unfold maxLen; omega) (by omega) (by rw [World.size_alloc]; omega) _ rfl ?_; intro g5 cap5 w5 hown5 hgrow5 _ _; have HN := Lib.hid (HAP.out g5 cap5 w5 HT.out hown5 hgrow5); clear hown5 hgrow5)
            go_roundw
            case rel => exact ⟨j + 1, by omega, by go_num, HN.out⟩
            case measure => simp [intOf]; omega
    · have hje : j = n := by omega
      subst hje
      clear hpk hbw
      go_wp2
      go_ret
      rw [HGR.out]
      exact ⟨_, rfl, by rw [hB]; exact HPK.out.1, by rw [hB]; exact HPK.out.2.1⟩
end Go.Proofs.Ytbbogkcfngpbbaa
