/- The reference's sites; rows of pairs that are the same. -/
import Derived.Test.YtbbogkcfngpbbaaCaX2
import Derived.Test.YtbbogkcfngpbbaaNumbers
namespace Go.Proofs.Ytbbogkcfngpbbaa
open Go.RowKit

/-- Between two instructions of the reference's sites. -/
def SitI (B : Nat) (W1 : World) (S : List (Nat × Nat)) (v : Value) (wr : World) : Prop :=
  wr.ownsRow B 117 2 v S.length (S.flatMap encP) ∧ Below B W1 wr ∧ B ≤ wr.heap.size

theorem SitI.app {B : Nat} {W1 wr wA w5 : World} {S : List (Nat × Nat)} {v v5 : Value} {p : Nat × Nat} (h : SitI B W1 S v wr) (hA : Below B wr wA) (hs : wr.heap.size ≤ wA.heap.size) (hown : w5.ownsRow B 117 2 v5 (S.length + 1) (S.flatMap encP ++ encP p))
    (hg : wA.grownBy w5 v.ownBlock) : SitI B W1 (S ++ [p]) v5 w5 := by
  unfold SitI
  rw [List.length_append, List.flatMap_append]
  have hx : Ext (fun k => B ≤ k) wA w5 := Ext.of_grown (M := fun k => B ≤ k) hg (fun k hk => .inl (h.1.lt k hk).1)
  refine ⟨?_, (h.2.1.trans hA).trans (hx.below (by have := h.2.2; omega) (fun _ h => h)), by have := h.2.2; have := hx.size; omega⟩
  simpa using hown

theorem cAt_isC {n x : Nat} (hx : x < n) (i : Ins) : (isC x i = true → cAt n i = some x) ∧ (isC x i = false → ∀ g, cAt n i = some g → g ≠ x) := by
  refine ⟨(isC_cAt hx i).1, fun h g hg e => ?_⟩
  subst e
  rw [(isC_cAt hx i).2 hg] at h
  cases h

theorem sOf_step {n x j k : Nat} (hx : x < n) {E rest A : List (Nat × Nat × Nat)} {ins : List Ins} {i : Ins} (hi : ins[k]? = some i) (hE : E ++ (insCalls n j k (ins.drop k) ++ rest) = A) :
    ∃ E2, E2 ++ (insCalls n j (k + 1) (ins.drop (k + 1)) ++ rest) = A ∧ sOf E2 x = (if isC x i = true then sOf E x ++ [(j, k)] else sOf E x) ∧ E.length ≤ E2.length := by
  rw [insCalls_step (n := n) (f := j) hi] at hE
  obtain ⟨h1, h2⟩ := cAt_isC hx i
  cases hc : cAt n i with
  | none =>
    rw [hc] at hE
    refine ⟨E, by simpa using hE, ?_, Nat.le_refl _⟩
    rw [if_neg]
    intro e
    rw [h1 e] at hc; cases hc
  | some g =>
    rw [hc] at hE
    refine ⟨E ++ [(j, k, g)], by simpa [List.append_assoc] using hE, ?_, by simp⟩
    rw [sOf_push]
    cases hb : isC x i with
    | true =>
      have e := (h1 hb).symm.trans hc
      obtain rfl := Option.some.inj e
      simp
    | false =>
      have := h2 hb g hc
      rw [if_neg (by simp)]
      exact if_neg (fun e => this e.symm)

set_option maxRecDepth 100000 in
set_option maxHeartbeats 8000000 in
theorem rSites_calls (w : World) (m : Mo) (hof : OfIn w m) (f : Int) : Calls Try.prog 48 #[.agg m.cells, .int .i64 f] w (GivesS w (if inR m.fs.length f = true then sitesF m f.toNat else [])) := by
  have HTOT : Hid ((allCalls m.fs.length 0 m.fs).length ≤ 1200) := Nat.le_trans (allCalls_len _ _ _) hof.tot
  obtain ⟨M, hM⟩ : ∃ M, m = M := ⟨_, rfl⟩
  have hn70 := hof.nf
  have HOF0 := Lib.hid hof
  rw [hM] at HTOT ⊢
  clear hof
  obtain ⟨sA, sC, fA, fC, ss, fs⟩ := m
  obtain ⟨n, hn⟩ : ∃ n, fs.length = n := ⟨_, rfl⟩
  have HN := Lib.hid hn
  have HMF : Hid (M.fs = fs) := by unfold Hid; rw [← hM]
  have HMA : Hid (M.fA = fA) := by unfold Hid; rw [← hM]
  rw [hM] at HOF0
  simp only at hn70
  rw [hn] at hn70
  have HML : Hid (M.fs.length = n) := by unfold Hid; rw [← hn, ← hM]
  rw [show M.cells = #[.slice sA ss.length sC, .slice fA n fC] from by rw [← hn, ← hM]; rfl, HML.out]
  rw [HML.out, HMF.out] at HTOT
  clear hn hM
  obtain ⟨N, hN⟩ : ∃ N, w.heap.size = N := ⟨_, rfl⟩
  obtain ⟨W1, hW1⟩ : ∃ W1, w.alloc (.cells #[.slice sA ss.length sC, .slice fA n fC] 38) = W1 := ⟨_, rfl⟩
  have q1 : W1.heap[N]? = some (.cells #[.slice sA ss.length sC, .slice fA n fC] 38 (0, 0)) := by rw [← hW1, ← hN]; exact alloc_at _ _
  have hb1 : Below w.heap.size w W1 := by rw [← hW1]; exact (Below.refl _ _).alloc (Nat.le_refl _) _
  obtain ⟨B, hB⟩ : ∃ B, W1.heap.size = B := ⟨_, rfl⟩
  have HC : Hid (∀ W, Below B W1 W → W.cell? ⟨N, 1, none⟩ = some (.slice fA n fC) ∧ OfIn W M) := by
    intro W hW
    have hNl := (Array.getElem?_eq_some_iff.1 q1).1
    have h3 := (hW.block N (by omega)).trans q1
    exact ⟨(cell_of_row _ _ _ _ _ _ h3).trans rfl, HOF0.out.below (hb1.trans (hW.mono (by rw [← hB]; exact hb1.size)))⟩
  have HB1 := Lib.hid hb1
  have HW1 := Lib.hid hW1
  have HB := Lib.hid hB
  have hsB : B ≤ W1.heap.size := by omega
  have hwB : w.heap.size ≤ B := by rw [← hB]; exact hb1.size
  obtain ⟨c1, _⟩ := HC.out W1 (Below.refl _ _)
  clear q1 hb1 hW1 hB
  by_cases hr : inR n f = true
  · rw [if_pos hr]
    obtain ⟨x, rfl, hx⟩ := inR_true hr
    rw [Int.toNat_natCast]
    have hxI : (x : Int) < (n : Int) := by omega
    have hx0 : decide (0 ≤ (x : Int)) = true := decide_eq_true (by omega)
    have HMD : Hid (∀ W, Below B W1 W → ∀ (j : Nat) (X : Fn), fs[j]? = some X → ∃ g1 o1, fA = some ⟨g1, o1, none⟩ ∧ W.cell? ⟨g1, o1 + j * 8 + 7, none⟩ = some (.slice X.c.insA X.c.ins.length X.c.insC) ∧
        ∀ k i, X.c.ins[k]? = some i → ∃ g2 o2, X.c.insA = some ⟨g2, o2, none⟩ ∧ W.cell? ⟨g2, o2 + k * 13, none⟩ = some (.int .i64 i.op) ∧ W.cell? ⟨g2, o2 + k * 13 + 4, none⟩ = some (.int .i64 i.f)) := by
      intro W hW j X hX
      have h := modAt (HC.out W hW).2 (x := j) (X := X) (by rw [HMF.out]; exact hX)
      rw [HMA.out] at h
      exact h
    have HIL : Hid (∀ (j : Nat) (X : Fn), fs[j]? = some X → X.c.ins.length ≤ 1200) := by
      intro j X hX
      have h1 := HOF0.out.tot
      rw [HMF.out] at h1
      exact Nat.le_trans (mem_le_sum _ (List.mem_map.2 ⟨X, List.mem_of_getElem? hX, rfl⟩)) h1
    clear hr c1
    go_enter Try.func48, Try.ntmps48
    go_upto_region 1 with (fail)
    rw [HW1.out]
    go_wp2_with fail
    go_loopw [5, 6] (fun v c wr => ∃ (j : Nat) (E : List (Nat × Nat × Nat)), j ≤ n ∧ c = .int .i64 (j : Int) ∧ E ++ allCalls n j (fs.drop j) = allCalls n 0 fs ∧ SitI B W1 (sOf E x) v wr) (fun _ c _ => n - (intOf c).toNat)
    case atStart => exact ⟨0, [], Nat.zero_le _, rfl, rfl, World.ownsRow_nil _ _ _ _, Below.refl _ _, hsB⟩
    case round =>
      obtain ⟨j, E0, hj, rfl, hE0, hsi⟩ := hrel
      obtain ⟨c1, _⟩ := HC.out wr hsi.2.1
      by_cases hjn : j < n
      · have hjI : (j : Int) < (n : Int) := by omega
        obtain ⟨X, hX⟩ : ∃ X, fs[j]? = some X := ⟨_, List.getElem?_eq_getElem (by have := HN.out; omega)⟩
        rw [allCalls_step (n := n) hX] at hE0
        have hil := HIL.out j X hX
        have HX := Lib.hid hX
        have HE0 := Lib.hid hE0
        have HSI := Lib.hid hsi
        clear hX hE0 hsi
        go_wp2_with fail
        go_loopw [5, 7] (fun v c wr => ∃ (k : Nat) (E : List (Nat × Nat × Nat)), k ≤ X.c.ins.length ∧ c = .int .i64 (k : Int) ∧ E ++ (insCalls n j k (X.c.ins.drop k) ++ allCalls n (j + 1) (fs.drop (j + 1))) = allCalls n 0 fs ∧ SitI B W1 (sOf E x) v wr) (fun _ c _ => X.c.ins.length - (intOf c).toNat)
        case atStart => exact ⟨0, E0, Nat.zero_le _, rfl, by rw [List.drop_zero]; exact HE0.out, HSI.out⟩
        case round =>
          clear c1
          obtain ⟨k, E, hk, rfl, hE, hsi⟩ := hrel
          obtain ⟨c1, _⟩ := HC.out wr hsi.2.1
          obtain ⟨g1, o1, hfa, e7, hins⟩ := HMD.out wr hsi.2.1 j X HX.out
          rw [hfa] at c1
          by_cases hkl : k < X.c.ins.length
          · have hkI : (k : Int) < (X.c.ins.length : Int) := by omega
            obtain ⟨i, hi⟩ : ∃ i, X.c.ins[k]? = some i := ⟨_, List.getElem?_eq_getElem hkl⟩
            obtain ⟨g2, o2, hia, d0, d4⟩ := hins k i hi
            rw [hia] at e7
            obtain ⟨E2, hE2, hst, hEl⟩ := sOf_step hx hi hE
            have hlen : (sOf E x).length ≤ 1200 := by
              have h1 := HTOT.out
              rw [← hE2, List.length_append] at h1
              have := sOf_len E x
              omega
            clear hE hEl
            obtain ⟨ao, cap, hv⟩ := ownsRow_slice hsi.1
            subst hv
            have HE := Lib.hid hE2
            have HSI2 := Lib.hid hsi
            have HST := Lib.hid hst
            have hszr := hsi.2.2
            clear hsi hst hE2 hi hia hins hfa
            by_cases hop : i.op = 15
            · have hopb : (i.op == 15) = true := by rw [hop]; rfl
              by_cases hq : i.f = (x : Int)
              · have hqb : (i.f == (x : Int)) = true := by rw [hq]; simp
                have HS2 : Hid (sOf E2 x = sOf E x ++ [(j, k)]) := by
                  unfold Hid; rw [HST.out]; exact if_pos (by unfold isC; rw [hopb, hqb]; rfl)
                obtain ⟨i0, hi0, hi1, hi2, hi3⟩ := info_parts info_pair
                have HOW := Lib.hid HSI2.out.1
                have HAP : Hid (∀ (g5 cap5 : Nat) (w5 : World), w5.ownsRow B 117 2 (.slice (some ⟨g5, 0, none⟩) ((sOf E x).length + 1) cap5) ((sOf E x).length + 1) ((sOf E x).flatMap encP ++ [.int .i64 (j : Int), .int .i64 (k : Int)]) →
                    (wr.alloc (.cells #[.int .i64 (j : Int), .int .i64 (k : Int)] 117)).grownBy w5 (Value.slice ao (sOf E x).length cap).ownBlock → SitI B W1 (sOf E2 x) (.slice (some ⟨g5, 0, none⟩) ((sOf E x).length + 1) cap5) w5) :=
                  fun g5 cap5 w5 h2 h3 => by rw [HS2.out]; exact HSI2.out.app (p := (j, k)) ((Below.refl _ _).alloc hszr _) (by simp) h2 h3
                clear hop hq
                go_wp2_with (at_builtin; refine wpList_append_lies _ rfl _ _ 76 rfl B 117 i0 _ 2 16 Try.underlying76 hi0 hi1 hi2 hi3 rfl (by decide) _ (sOf E x).length _ rfl (ownsRow_below HOW.out ((Below.refl wr.heap.size wr).alloc (Nat.le_refl _) _)) ⟨wr.heap.size, 0, none⟩ 1 1 [.int .i64 (j : Int), .int .i64 (k : Int)] rfl rfl (cells_new _ _ _) (by simp [Value.oneCell']) (by decide) (by unfold maxLen; omega) (by omega) (by rw [World.size_alloc]; omega) _ rfl ?_; intro g5 cap5 w5 hown5 hgrow5 _ _; have HN2 := Lib.hid (HAP.out g5 cap5 w5 hown5 hgrow5); clear hown5 hgrow5)
                go_roundw
                case rel => exact ⟨k + 1, E2, by omega, by go_num, HE.out, HN2.out⟩
                case measure => simp [intOf]; omega
              · have hqb : (i.f == (x : Int)) = false := by rw [beq_eq_false_iff_ne]; exact hq
                have HN2 : Hid (SitI B W1 (sOf E2 x) (.slice ao (sOf E x).length cap) wr) := by
                  unfold Hid; rw [HST.out, if_neg (by unfold isC; rw [hqb]; simp)]; exact HSI2.out
                clear hop hq
                go_wp2
                go_roundw
                case rel => exact ⟨k + 1, E2, by omega, by go_num, HE.out, HN2.out⟩
                case measure => simp [intOf]; omega
            · have hopb : (i.op == 15) = false := by rw [beq_eq_false_iff_ne]; exact hop
              have HN2 : Hid (SitI B W1 (sOf E2 x) (.slice ao (sOf E x).length cap) wr) := by
                unfold Hid; rw [HST.out, if_neg (by unfold isC; rw [hopb]; simp)]; exact HSI2.out
              clear hop
              go_wp2
              go_roundw
              case rel => exact ⟨k + 1, E2, by omega, by go_num, HE.out, HN2.out⟩
              case measure => simp [intOf]; omega
          · have hke : k = X.c.ins.length := by omega
            have HE2 : Hid (E ++ allCalls n (j + 1) (fs.drop (j + 1)) = allCalls n 0 fs) := by
              rw [hke, List.drop_length] at hE
              exact hE
            have HSI2 := Lib.hid hsi
            have hkx : decide (k < X.c.ins.length) = false := decide_eq_false hkl
            clear hE hsi hins hfa
            go_wp2
            go_roundw
            case rel => exact ⟨j + 1, E, by omega, by go_num, HE2.out, HSI2.out⟩
            case measure => simp [intOf]; omega
      · have hje : j = n := by omega
        subst hje
        have HF : Hid (sOf E0 x = sitesF M x) := by
          unfold Hid sitesF
          rw [HML.out, HMF.out, ← hE0, List.drop_of_length_le (by have := HN.out; omega)]
          simp [allCalls]
        have HSI2 := Lib.hid hsi
        clear hE0 hsi
        go_wp2
        go_ret
        refine ⟨_, rfl, ?_, HB1.out.trans (HSI2.out.2.1.mono hwB)⟩
        rw [← HF.out]
        exact ownsRow_base HSI2.out.1 (fun k hk => Nat.le_trans hwB (HSI2.out.1.lt k hk).1)
  · rw [if_neg hr]
    have hr' : inR n f = false := by simpa using hr
    have HF : Hid (n = 0 ∨ ((0 : Int) < (n : Int) ∧ decide (0 ≤ f) = false) ∨ ((0 : Int) < (n : Int) ∧ decide (0 ≤ f) = true ∧ decide (f < (n : Int)) = false)) := by
      unfold inR at hr'
      have := of_decide_eq_false hr'
      by_cases hn0 : n = 0
      · exact .inl hn0
      by_cases h0 : 0 ≤ f
      · exact .inr (.inr ⟨by omega, decide_eq_true h0, decide_eq_false (by omega)⟩)
      · exact .inr (.inl ⟨by omega, decide_eq_false h0⟩)
    clear hr hr'
    go_enter Try.func48, Try.ntmps48
    go_upto_region 1 with (fail)
    rw [HW1.out]
    go_wp2_with fail
    refine wp_loop_rounds 1 ?_
    rw [rounds_succ]
    rcases HF.out with h0 | ⟨h0, h1⟩ | ⟨h0, h1, h2⟩
    · subst h0
      go_wp2
      go_ret
      exact ⟨_, rfl, World.ownsRow_nil _ _ _ _, HB1.out⟩
    · go_wp2
      go_ret
      exact ⟨_, rfl, World.ownsRow_nil _ _ _ _, HB1.out⟩
    · go_wp2
      go_ret
      exact ⟨_, rfl, World.ownsRow_nil _ _ _ _, HB1.out⟩
end Go.Proofs.Ytbbogkcfngpbbaa
