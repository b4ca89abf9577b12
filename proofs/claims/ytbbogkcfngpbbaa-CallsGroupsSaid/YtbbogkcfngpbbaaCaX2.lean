/- The reference's callers. -/
import Derived.Test.YtbbogkcfngpbbaaCaX
namespace Go.Proofs.Ytbbogkcfngpbbaa
open Go.RowKit

set_option maxRecDepth 100000 in
set_option maxHeartbeats 4000000 in
theorem rin_calls (w : World) (z : Int) (base cap : Nat) (ao : Option Addr) (l : List Nat) (hn : l.length ≤ 90000) (ho : w.ownsRow base 3 1 (.slice ao l.length cap) l.length (l.flatMap encN)) :
    Calls Try.prog 81 #[.int .i64 z, .slice ao l.length cap] w fun e w' => e = .returned (.bool (decide (z ∈ nums l))) ∧ w = w' := by
  have HO := Lib.hid ho
  clear ho
  obtain ⟨R, hR⟩ : ∃ R, decide (z ∈ nums l) = R := ⟨_, rfl⟩
  have HR := Lib.hid hR
  rw [hR]
  clear hR
  go_enter Try.func81, Try.ntmps81
  go_wp2_with fail
  go_loopw [5] (fun c wr => ∃ k : Nat, k ≤ l.length ∧ c = .int .i64 (k : Int) ∧ z ∉ nums (l.take k) ∧ wr = w) (fun c _ => l.length - (intOf c).toNat)
  case atStart => exact ⟨0, Nat.zero_le _, rfl, by simp [nums], rfl⟩
  case round =>
    obtain ⟨k, hk, rfl, hz, rfl⟩ := hrel
    by_cases hkl : k < l.length
    · have hkI : (k : Int) < (l.length : Int) := by omega
      obtain ⟨x, hx⟩ : ∃ x, l[k]? = some x := ⟨_, List.getElem?_eq_getElem hkl⟩
      obtain ⟨gx, rfl, _, cx⟩ := ownsRow_get HO.out (j := k) (u := .int .i64 (x : Int)) (by rw [encN_flat]; simp [nums, hx])
      have HZ := Lib.hid hz
      have HX := Lib.hid hx
      clear hz hx
      by_cases hq : (x : Int) = z
      · have hqb : ((x : Int) == z) = true := by rw [beq_iff_eq]; exact hq
        have HT : Hid (R = true) := by
          unfold Hid; rw [← HR.out, decide_eq_true_eq, ← hq]
          exact mem_nums.2 (List.mem_of_getElem? HX.out)
        clear hq
        go_wp2
        go_ret
        rw [HT.out]
        exact ⟨rfl, rfl⟩
      · have hqb : ((x : Int) == z) = false := by rw [beq_eq_false_iff_ne]; exact hq
        have HN2 : Hid (z ∉ nums (l.take (k + 1))) := by
          intro h
          rw [show l.take (k + 1) = l.take k ++ [x] from by rw [List.take_add_one, HX.out]; rfl] at h
          unfold nums at h
          rw [List.map_append, List.mem_append] at h
          rcases h with h | h
          · exact HZ.out h
          · simp at h; exact hq h.symm
        clear hq
        go_wp2
        go_roundw
        case rel => exact ⟨k + 1, by omega, by go_num, HN2.out, by first | rfl | trivial⟩
        case measure => simp [intOf]; omega
    · have hke : k = l.length := by omega
      subst hke
      have HF : Hid (R = false) := by
        unfold Hid; rw [← HR.out]
        rw [List.take_length] at hz
        exact decide_eq_false hz
      clear hz
      go_wp2
      go_ret
      rw [HF.out]
      exact ⟨rfl, rfl⟩

theorem upF_filter {m : Mo} {x : Nat} (hx : x < m.fs.length) : (List.range m.fs.length).filter (fun h => decide ((x : Int) ∈ nums (downF m h))) = upF m x := by
  unfold upF sel
  refine filter_same fun h _ => ?_
  rw [decide_eq_decide, mem_nums, mem_uOf]
  unfold downF
  rw [mem_sel]
  exact ⟨fun h => h.2, fun h => ⟨hx, h⟩⟩

set_option maxRecDepth 100000 in
set_option maxHeartbeats 8000000 in
theorem rCallers_calls (w : World) (m : Mo) (hof : OfIn w m) (x : Nat) (hx : x < m.fs.length) : Calls Try.prog 83 #[.agg m.cells, .int .i64 (x : Int)] w (GivesN w (upF m x)) := by
  have HRES := Lib.hid (upF_filter hx)
  obtain ⟨M, hM⟩ : ∃ M, m = M := ⟨_, rfl⟩
  have HM := Lib.hid hM
  have hn70 := hof.nf
  have HOF0 := Lib.hid hof
  clear hof hx
  obtain ⟨sA, sC, fA, fC, ss, fs⟩ := m
  obtain ⟨n, hn⟩ : ∃ n, fs.length = n := ⟨_, rfl⟩
  have HMC : Hid (M.cells = #[.slice sA ss.length sC, .slice fA n fC]) := by unfold Hid; rw [← hM, ← hn]; rfl
  have HML : Hid (M.fs.length = n) := by unfold Hid; rw [← hM, ← hn]
  rw [hM] at HOF0 HRES ⊢
  simp only at hn70
  rw [hn] at hn70
  rw [HMC.out]
  rw [HML.out] at HRES
  clear hn hM
  obtain ⟨N, hN⟩ : ∃ N, w.heap.size = N := ⟨_, rfl⟩
  obtain ⟨W1, hW1⟩ : ∃ W1, w.alloc (.cells #[.slice sA ss.length sC, .slice fA n fC] 38) = W1 := ⟨_, rfl⟩
  have q1 : W1.heap[N]? = some (.cells #[.slice sA ss.length sC, .slice fA n fC] 38 (0, 0)) := by rw [← hW1, ← hN]; exact alloc_at _ _
  have hb1 : Below w.heap.size w W1 := by rw [← hW1]; exact (Below.refl _ _).alloc (Nat.le_refl _) _
  obtain ⟨B, hB⟩ : ∃ B, W1.heap.size = B := ⟨_, rfl⟩
  have HC : Hid (∀ W, Below B W1 W → W.cell? ⟨N, 0, none⟩ = some (.slice sA ss.length sC) ∧ W.cell? ⟨N, 1, none⟩ = some (.slice fA n fC) ∧ OfIn W M) := by
    intro W hW
    have hNl := (Array.getElem?_eq_some_iff.1 q1).1
    have h3 := (hW.block N (by omega)).trans q1
    exact ⟨(cell_of_row _ _ _ _ _ _ h3).trans rfl, (cell_of_row _ _ _ _ _ _ h3).trans rfl, HOF0.out.below (hb1.trans (hW.mono (by rw [← hB]; exact hb1.size)))⟩
  have HB1 := Lib.hid hb1
  have HW1 := Lib.hid hW1
  have HB := Lib.hid hB
  obtain ⟨p, hp⟩ : ∃ p : Nat → Bool, (fun h => decide ((x : Int) ∈ nums (downF M h))) = p := ⟨_, rfl⟩
  have HP : Hid (∀ h, p h = decide ((x : Int) ∈ nums (downF M h))) := fun h => by rw [← hp]
  rw [hp] at HRES
  have HDL : Hid (∀ h, (downF M h).length ≤ 70) := fun h => by have := downF_len M h; have := HML.out; omega
  clear q1 hb1 hW1 hB hp
  go_enter Try.func83, Try.ntmps83
  go_upto_region 1 with (fail)
  rw [HW1.out]
  go_wp2_with fail
  go_loopw [5, 6] (fun v c wr => ∃ j : Nat, j ≤ n ∧ c = .int .i64 (j : Int) ∧ PkI p B W1 j v wr) (fun _ c _ => n - (intOf c).toNat)
  case atStart => exact ⟨0, Nat.zero_le _, rfl, World.ownsRow_nil _ _ _ _, Below.refl _ _, by have := HB.out; omega⟩
  case round =>
    obtain ⟨j, hj, rfl, hpk⟩ := hrel
    have HPK := Lib.hid hpk
    have hbw := hpk.2.1
    have hsz := hpk.2.2
    obtain ⟨c0, c1, hofr⟩ := HC.out wr hbw
    obtain ⟨ao, cap, hv⟩ := ownsRow_slice hpk.1
    subst hv
    by_cases hjn : j < n
    · have hjI : (j : Int) < (n : Int) := by omega
      have hlen := rf_len p j
      have hrc := rCallees_calls wr M hofr (j : Int)
      rw [HML.out, HMC.out, if_pos (by rw [inR_nat]; exact decide_eq_true hjn), Int.toNat_natCast] at hrc
      have HRC := Lib.hid hrc
      have hdl := HDL.out j
      clear hpk hbw hofr hrc
      go_wp2_with fail
      go_at_call 44
      refine HRC.out.mono ?_
      rintro e w2 ⟨v2, rfl, hown2, hb2⟩
      obtain ⟨ao2, cap2, rfl⟩ := ownsRow_slice hown2
      have hin := rin_calls w2 (x : Int) wr.heap.size cap2 ao2 (downF M j) (by omega) hown2
      rw [← HP.out j] at hin
      have HINC := Lib.hid hin
      have HB2 := Lib.hid hb2
      have hs2 := hb2.size
      have HOW : Hid (w2.ownsRow B 3 1 (.slice ao ((List.range j).filter p).length cap) ((List.range j).filter p).length (((List.range j).filter p).flatMap encN)) := ownsRow_below HPK.out.1 hb2
      have HPK2 : Hid (PkI p B W1 j (.slice ao ((List.range j).filter p).length cap) w2) := ⟨HOW.out, HPK.out.2.1.trans (hb2.mono hsz), by omega⟩
      obtain ⟨b, hb⟩ : ∃ b, p j = b := ⟨_, rfl⟩
      rw [hb] at HINC
      have HPB := Lib.hid hb
      clear hown2 hb2 hin hb c0 c1
      cases b with
      | false =>
        have HN2 := Lib.hid (HPK2.out.skip HPB.out)
        go_wp2_with (go_at_call 81; refine HINC.out.mono ?_; rintro e w3 ⟨rfl, rfl⟩)
        go_roundw
        case rel => exact ⟨j + 1, by omega, by go_num, HN2.out⟩
        case measure => simp [intOf]; omega
      | true =>
        obtain ⟨i0, hi0, hi1, hi2, hi3⟩ := info_parts info_int
        have hsz2 : B ≤ w2.heap.size := by omega
        have HAP : Hid (∀ (g5 cap5 : Nat) (w5 : World), w5.ownsRow B 3 1 (.slice (some ⟨g5, 0, none⟩) (((List.range j).filter p).length + 1) cap5) (((List.range j).filter p).length + 1) (((List.range j).filter p).flatMap encN ++ [.int .i64 (j : Int)]) →
            (w2.alloc (.cells #[.int .i64 (j : Int)] 3)).grownBy w5 (Value.slice ao ((List.range j).filter p).length cap).ownBlock → PkI p B W1 (j + 1) (.slice (some ⟨g5, 0, none⟩) (((List.range j).filter p).length + 1) cap5) w5) :=
          fun g5 cap5 w5 h2 h3 => HPK2.out.app HPB.out ((Below.refl _ _).alloc hsz2 _) (by simp) h2 h3
        go_wp2_with (first
          | (go_at_call 81; refine HINC.out.mono ?_; rintro e w3 ⟨rfl, rfl⟩)
          | (at_builtin; refine wpList_append_lies _ rfl _ _ 22 rfl B 3 i0 (.int .i64 0) 1 8 Try.underlying22 hi0 hi1 hi2 hi3 rfl (by decide) _ ((List.range j).filter p).length _ rfl (ownsRow_below HOW.out ((Below.refl w2.heap.size w2).alloc (Nat.le_refl _) _)) ⟨w2.heap.size, 0, none⟩ 1 1 [.int .i64 (j : Int)] rfl rfl (cells_new _ _ _) (by simp [Value.oneCell']) (by decide) (by unfold maxLen; omega) (by omega) (by rw [World.size_alloc]; omega) _ rfl ?_; intro g5 cap5 w5 hown5 hgrow5 _ _; have HN2 := Lib.hid (HAP.out g5 cap5 w5 hown5 hgrow5); clear hown5 hgrow5))
        go_roundw
        case rel => exact ⟨j + 1, by omega, by go_num, HN2.out⟩
        case measure => simp [intOf]; omega
    · have hje : j = n := by omega
      subst hje
      clear hpk hbw hofr
      go_wp2
      go_ret
      have h1 := HPK.out
      rw [← HB.out] at h1
      exact h1.gives HB1.out HRES.out

set_option maxRecDepth 100000 in
set_option maxHeartbeats 4000000 in
theorem callers11_calls (w : World) (m : Mo) (hof : OfIn w m) (f : Int) : Calls Try.prog 45 #[.agg m.cells, .int .i64 f] w (GivesN w (if inR m.fs.length f = true then upF m f.toNat else [])) := by
  obtain ⟨M, hM⟩ : ∃ M, m = M := ⟨_, rfl⟩
  have HM := Lib.hid hM
  have HOF0 := Lib.hid hof
  have hn70 := hof.nf
  clear hof
  obtain ⟨sA, sC, fA, fC, ss, fs⟩ := m
  obtain ⟨n, hn⟩ : ∃ n, fs.length = n := ⟨_, rfl⟩
  have HMC : Hid (M.cells = #[.slice sA ss.length sC, .slice fA n fC]) := by unfold Hid; rw [← hM, ← hn]; rfl
  have HML : Hid (M.fs.length = n) := by unfold Hid; rw [← hM, ← hn]
  rw [hM] at HOF0 ⊢
  simp only at hn70
  rw [hn] at hn70
  rw [HMC.out, HML.out]
  clear hn hM
  obtain ⟨N, hN⟩ : ∃ N, w.heap.size = N := ⟨_, rfl⟩
  obtain ⟨W1, hW1⟩ : ∃ W1, w.alloc (.cells #[.slice sA ss.length sC, .slice fA n fC] 38) = W1 := ⟨_, rfl⟩
  have q1 : W1.heap[N]? = some (.cells #[.slice sA ss.length sC, .slice fA n fC] 38 (0, 0)) := by rw [← hW1, ← hN]; exact alloc_at _ _
  have c0 : W1.cell? ⟨N, 0, none⟩ = some (.slice sA ss.length sC) := (cell_of_row _ _ _ _ _ _ q1).trans rfl
  have c1 : W1.cell? ⟨N, 1, none⟩ = some (.slice fA n fC) := (cell_of_row _ _ _ _ _ _ q1).trans rfl
  have hb1 : Below w.heap.size w W1 := by rw [← hW1]; exact (Below.refl _ _).alloc (Nat.le_refl _) _
  have hof1 := HOF0.out.below hb1
  have HB1 := Lib.hid hb1
  have HW1 := Lib.hid hW1
  clear q1 hb1 hW1
  by_cases hr : inR n f = true
  · rw [if_pos hr]
    obtain ⟨x, rfl, hx⟩ := inR_true hr
    rw [Int.toNat_natCast]
    have hrc := rCallers_calls W1 M hof1 x (by rw [HML.out]; exact hx)
    rw [HMC.out] at hrc
    have HRC := Lib.hid hrc
    have hx0 : decide ((x : Int) < 0) = false := decide_eq_false (by omega)
    have hx1 : decide (n ≤ x) = false := decide_eq_false (by omega)
    clear hr hrc hof1
    go_enter Try.func45, Try.ntmps45
    go_upto_region 1 with (fail)
    rw [HW1.out]
    go_wp2_with fail
    go_at_call 83
    refine HRC.out.mono ?_
    rintro e w2 ⟨v2, rfl, hown2, hb2⟩
    have HO2 := Lib.hid hown2
    have HB2 := Lib.hid hb2
    clear hown2 hb2
    go_wp2
    go_ret
    have hs := HB1.out.size
    exact ⟨v2, rfl, ownsRow_base HO2.out (fun k hk => Nat.le_trans hs (HO2.out.lt k hk).1), HB1.out.trans (HB2.out.mono hs)⟩
  · rw [if_neg hr]
    have hr' : inR n f = false := by simpa using hr
    clear hr hof1
    by_cases h0 : f < 0
    · have hx0 : decide (f < 0) = true := decide_eq_true h0
      clear h0 hr'
      go_enter Try.func45, Try.ntmps45
      go_upto_region 1 with (fail)
      rw [HW1.out]
      go_wp2
      go_ret
      exact ⟨_, rfl, World.ownsRow_nil _ _ _ _, HB1.out⟩
    · have hx0 : decide (f < 0) = false := decide_eq_false h0
      have hx1 : decide ((n : Int) ≤ f) = true := by
        unfold inR at hr'
        have := of_decide_eq_false hr'
        exact decide_eq_true (by omega)
      clear h0 hr'
      go_enter Try.func45, Try.ntmps45
      go_upto_region 1 with (fail)
      rw [HW1.out]
      go_wp2
      go_ret
      exact ⟨_, rfl, World.ownsRow_nil _ _ _ _, HB1.out⟩
end Go.Proofs.Ytbbogkcfngpbbaa
