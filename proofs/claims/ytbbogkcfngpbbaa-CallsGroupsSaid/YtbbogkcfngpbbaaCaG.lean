/- A function's group; is a group ready? -/
import Derived.Test.YtbbogkcfngpbbaaCaF
import Derived.Test.YtbbogkcfngpbbaaSlIdx
namespace Go.Proofs.Ytbbogkcfngpbbaa
open Go.RowKit

theorem rf_succ (p : Nat → Bool) (j : Nat) : (List.range (j + 1)).filter p = if p j = true then (List.range j).filter p ++ [j] else (List.range j).filter p := by
  rw [List.range_succ, List.filter_append, List.filter_cons]
  split <;> simp
theorem rf_len (p : Nat → Bool) (j : Nat) : ((List.range j).filter p).length ≤ j := Nat.le_trans (List.length_filter_le _ _) (by simp)

/-- A row that is picked. -/
def PkI (p : Nat → Bool) (B : Nat) (w0 : World) (j : Nat) (v : Value) (wr : World) : Prop :=
  wr.ownsRow B 3 1 v ((List.range j).filter p).length (((List.range j).filter p).flatMap encN) ∧ Below B w0 wr ∧ B ≤ wr.heap.size

theorem PkI.skip {p : Nat → Bool} {B j : Nat} {w0 wr : World} {v : Value} (h : PkI p B w0 j v wr) (hp : p j = false) : PkI p B w0 (j + 1) v wr := by
  unfold PkI
  rw [rf_succ, hp]; exact h

theorem PkI.app {p : Nat → Bool} {B j : Nat} {w0 wr wA w5 : World} {v v5 : Value} (h : PkI p B w0 j v wr) (hp : p j = true) (hA : Below B wr wA) (hs : wr.heap.size ≤ wA.heap.size) (hown : w5.ownsRow B 3 1 v5 (((List.range j).filter p).length + 1) (((List.range j).filter p).flatMap encN ++ [.int .i64 (j : Int)]))
    (hg : wA.grownBy w5 v.ownBlock) : PkI p B w0 (j + 1) v5 w5 := by
  unfold PkI
  rw [rf_succ, hp, if_pos rfl, List.length_append, List.flatMap_append]
  have hx : Ext (fun k => B ≤ k) wA w5 := Ext.of_grown (M := fun k => B ≤ k) hg (fun k hk => .inl (h.1.lt k hk).1)
  exact ⟨hown, (h.2.1.trans hA).trans (hx.below (by have := h.2.2; omega) (fun _ h => h)), by have := h.2.2; have := hx.size; omega⟩

set_option maxRecDepth 100000 in
set_option maxHeartbeats 4000000 in
theorem members_calls (w : World) (N G n DN UP ST RE GP : Nat) (gv : Value) (tag : Nat → Nat) (d u : Nat → List Nat) (s : Nat → List (Nat × Nat)) (rb : Nat → Nat → Bool) (gi : Nat → Int) (hg : GM w N G n DN UP ST RE GP gv tag d u s (fun f => (List.range n).map (rb f)) gi) (hn : n ≤ 70) (f : Nat) (hf : f < n) :
    Calls Try.prog 90 #[.pointer (some ⟨G, 0, none⟩), .int .i64 (f : Int)] w fun e w' =>
      ∃ v, e = .returned v ∧ w'.ownsRow w.heap.size 3 1 v (grp n rb f).length ((grp n rb f).flatMap encN) ∧ Below w.heap.size w w' := by
  obtain ⟨p, hp⟩ : ∃ p : Nat → Bool, (fun h => decide (h = f) || (rb f h && rb h f)) = p := ⟨_, rfl⟩
  have HP : Hid (∀ h, p h = (decide (h = f) || (rb f h && rb h f))) := fun h => by rw [← hp]
  have HGR : Hid (grp n rb f = (List.range n).filter p) := by unfold Hid grp; rw [hp]
  clear hp
  obtain ⟨B, hB⟩ : ∃ B, w.heap.size = B := ⟨_, rfl⟩
  have HG : Hid (∀ W, Below B w W → GM W N G n DN UP ST RE GP gv tag d u s (fun f => (List.range n).map (rb f)) gi) := fun W hW => hg.below (by rw [hB]; exact hW)
  have HCF : Hid (∀ W, Below B w W → ∃ g cap, W.cell? ⟨RE, f, none⟩ = some (.slice (some ⟨g, 0, none⟩) n cap) ∧ ∀ h, h < n → W.cell? ⟨g, h, none⟩ = some (.bool (rb f h))) := by
    intro W hW
    obtain ⟨v, cv, _, ov, _⟩ := (HG.out W hW).R.at_ hf
    obtain ⟨ao, cap, rfl⟩ := ownsRow_slice ov
    rw [show ((List.range n).map (rb f)).length = n from by simp] at cv ov
    have h0 := ownsRow_get ov (j := f) (u := .bool (rb f f)) (by rw [encB_flat]; simp [hf])
    obtain ⟨g, rfl, _, _⟩ := h0
    refine ⟨g, cap, cv, fun h hh => ?_⟩
    obtain ⟨g2, e2, _, e3⟩ := ownsRow_get ov (j := h) (u := .bool (rb f h)) (by rw [encB_flat]; simp [hh])
    simp only [Option.some.injEq, Addr.mk.injEq] at e2
    obtain ⟨rfl, _⟩ := e2
    exact e3
  have HCH : Hid (∀ W, Below B w W → ∀ h, h < n → ∃ g cap, W.cell? ⟨RE, h, none⟩ = some (.slice (some ⟨g, 0, none⟩) n cap) ∧ W.cell? ⟨g, f, none⟩ = some (.bool (rb h f))) := by
    intro W hW h hh
    obtain ⟨v, cv, _, ov, _⟩ := (HG.out W hW).R.at_ hh
    obtain ⟨ao, cap, rfl⟩ := ownsRow_slice ov
    rw [show ((List.range n).map (rb h)).length = n from by simp] at cv ov
    obtain ⟨g, rfl, _, e3⟩ := ownsRow_get ov (j := f) (u := .bool (rb h f)) (by rw [encB_flat]; simp [hf])
    exact ⟨g, cap, cv, e3⟩
  have hfI : (f : Int) < (n : Int) := by omega
  obtain ⟨c0, _⟩ := hg.cells
  clear hg
  go_enter Try.func90, Try.ntmps90
  go_wp2_with fail
  go_loopw [4, 11] (fun v c wr => ∃ j : Nat, j ≤ n ∧ c = .int .i64 (j : Int) ∧ PkI p B w j v wr) (fun _ c _ => n - (intOf c).toNat)
  case atStart => exact ⟨0, Nat.zero_le _, rfl, World.ownsRow_nil _ _ _ _, Below.refl _ _, by omega⟩
  case round =>
    obtain ⟨j, hj, rfl, hpk⟩ := hrel
    have HPK := Lib.hid hpk
    have hbw := hpk.2.1
    have hsz := hpk.2.2
    obtain ⟨_, _, _, c3, _⟩ := (HG.out wr hbw).cells
    obtain ⟨ao, cap, hv⟩ := ownsRow_slice hpk.1
    subst hv
    by_cases hjn : j < n
    · have hjI : (j : Int) < (n : Int) := by omega
      have hlen := rf_len p j
      obtain ⟨gf, capf, cf, ef⟩ := HCF.out wr hbw
      have efj := ef j hjn
      obtain ⟨gh, caph, ch, eh⟩ := HCH.out wr hbw j hjn
      have hpj := HP.out j
      obtain ⟨i0, hi0, hi1, hi2, hi3⟩ := info_parts info_int
      have HAP : Hid (∀ (g5 cap5 : Nat) (w5 : World), p j = true → w5.ownsRow B 3 1 (.slice (some ⟨g5, 0, none⟩) (((List.range j).filter p).length + 1) cap5) (((List.range j).filter p).length + 1) (((List.range j).filter p).flatMap encN ++ [.int .i64 (j : Int)]) →
          (wr.alloc (.cells #[.int .i64 (j : Int)] 3)).grownBy w5 (Value.slice ao ((List.range j).filter p).length cap).ownBlock → PkI p B w (j + 1) (.slice (some ⟨g5, 0, none⟩) (((List.range j).filter p).length + 1) cap5) w5) :=
        fun g5 cap5 w5 h1 h2 h3 => HPK.out.app h1 ((Below.refl _ _).alloc hsz _) (by simp) h2 h3
      have HOW := Lib.hid hpk.1
      by_cases hjf : j = f
      · subst hjf
        have HT : Hid (p j = true) := by unfold Hid; rw [hpj]; simp
        clear hpk hbw ef efj eh ch cf hpj
        go_wp2_with (at_builtin; refine wpList_append_lies _ rfl _ _ 22 rfl B 3 i0 (.int .i64 0) 1 8 Try.underlying22 hi0 hi1 hi2 hi3 rfl (by decide) _ ((List.range j).filter p).length _ rfl (ownsRow_below HOW.out ((Below.refl wr.heap.size wr).alloc (Nat.le_refl _) _)) ⟨wr.heap.size, 0, none⟩ 1 1 [.int .i64 (j : Int)] rfl rfl (cells_new _ _ _) (by simp [Value.oneCell']) (by decide) (by unfold maxLen; omega) (by omega) (by rw [World.size_alloc]; omega) _ rfl ?_; intro g5 cap5 w5 hown5 hgrow5 _ _; have HN := Lib.hid (HAP.out g5 cap5 w5 HT.out hown5 hgrow5); clear hown5 hgrow5)
        go_roundw
        case rel => exact ⟨j + 1, by omega, by go_num, HN.out⟩
        case measure => simp [intOf]; omega
      · have hne : ((j : Int) == (f : Int)) = false := by rw [beq_eq_false_iff_ne]; omega
        have hd : decide (j = f) = false := decide_eq_false hjf
        rw [hd, Bool.false_or] at hpj
        obtain ⟨b1, hb1⟩ : ∃ b, rb f j = b := ⟨_, rfl⟩
        obtain ⟨b2, hb2⟩ : ∃ b, rb j f = b := ⟨_, rfl⟩
        rw [hb1] at efj hpj
        rw [hb2] at eh hpj
        have HPJ := Lib.hid hpj
        clear hpk hbw ef hpj hjf hb1 hb2 hd
        cases b1 with
        | false =>
          have HN := Lib.hid (HPK.out.skip (by rw [HPJ.out]; rfl))
          go_wp2
          go_roundw
          case rel => exact ⟨j + 1, by omega, by go_num, HN.out⟩
          case measure => simp [intOf]; omega
        | true =>
          cases b2 with
          | false =>
            have HN := Lib.hid (HPK.out.skip (by rw [HPJ.out]; rfl))
            go_wp2
            go_roundw
            case rel => exact ⟨j + 1, by omega, by go_num, HN.out⟩
            case measure => simp [intOf]; omega
          | true =>
            have HT : Hid (p j = true) := by unfold Hid; rw [HPJ.out]; rfl
            go_wp2_with (at_builtin; refine wpList_append_lies _ rfl _ _ 22 rfl B 3 i0 (.int .i64 0) 1 8 Try.underlying22 hi0 hi1 hi2 hi3 rfl (by decide) _ ((List.range j).filter p).length _ rfl (ownsRow_below HOW.out ((Below.refl wr.heap.size wr).alloc (Nat.le_refl _) _)) ⟨wr.heap.size, 0, none⟩ 1 1 [.int .i64 (j : Int)] rfl rfl (cells_new _ _ _) (by simp [Value.oneCell']) (by decide) (by unfold maxLen; omega) (by omega) (by rw [World.size_alloc]; omega) _ rfl ?_; intro g5 cap5 w5 hown5 hgrow5 _ _; have HN := Lib.hid (HAP.out g5 cap5 w5 HT.out hown5 hgrow5); clear hown5 hgrow5)
            go_roundw
            case rel => exact ⟨j + 1, by omega, by go_num, HN.out⟩
            case measure => simp [intOf]; omega
    · have hje : j = n := by omega
      subst hje
      clear hpk hbw
      go_wp2
      go_ret
      rw [HGR.out]
      exact ⟨_, rfl, by rw [hB]; exact HPK.out.1, by rw [hB]; exact HPK.out.2.1⟩
end Go.Proofs.Ytbbogkcfngpbbaa
