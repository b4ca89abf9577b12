/- CallsGraphs, at any module: true. -/
import Derived.Test.YtbbogkcfngpbbaaCaTb
namespace Go.Proofs.Ytbbogkcfngpbbaa
open Go.RowKit

theorem reachF_off {n : Nat} {dn : Nat → List Nat} {a b : Int} (h : (inR n a && inR n b) = false) : reachF n dn a b = false := by
  unfold reachF
  rw [← Bool.and_assoc, h]; rfl

theorem reachF_in {n x y : Nat} {dn : Nat → List Nat} (hx : x < n) (hy : y < n) : reachF n dn (x : Int) (y : Int) = reachB dn x y := by
  unfold reachF
  rw [inR_nat, inR_nat, decide_eq_true hx, decide_eq_true hy]; simp

set_option maxRecDepth 100000 in
set_option maxHeartbeats 16000000 in
theorem callsGraphs_calls (m : Mo) (w : World) (hm : m.inn w) : Calls Try.prog 9 #[.agg m.cells] w fun e w' => e = .returned (.bool true) ∧ Below w.heap.size w w' := by
  obtain ⟨M, hM⟩ : ∃ M, m = M := ⟨_, rfl⟩
  have HM := Lib.hid hM
  have HIN := Lib.hid hm
  clear hm hM
  obtain ⟨sA, sC, fA, fC, ss, fs⟩ := m
  obtain ⟨n, hn⟩ : ∃ n, fs.length = n := ⟨_, rfl⟩
  have HMC : Hid (M.cells = #[.slice sA ss.length sC, .slice fA n fC]) := by unfold Hid; rw [← HM.out, ← hn]; rfl
  have HML : Hid (M.fs.length = n) := by unfold Hid; rw [← HM.out, ← hn]
  simp only [Mo.cells]
  rw [hn]
  clear hn
  obtain ⟨N, hN⟩ : ∃ N, w.heap.size = N := ⟨_, rfl⟩
  obtain ⟨W1, hW1⟩ : ∃ W1, w.alloc (.cells #[.slice sA ss.length sC, .slice fA n fC] 38) = W1 := ⟨_, rfl⟩
  have q1 : W1.heap[N]? = some (.cells #[.slice sA ss.length sC, .slice fA n fC] 38 (0, 0)) := by rw [← hW1, ← hN]; exact alloc_at _ _
  have hb1 : Below N w W1 := by rw [← hW1, ← hN]; exact (Below.refl _ _).alloc (Nat.le_refl _) _
  have HC : Hid (∀ W, Below W1.heap.size W1 W → W.cell? ⟨N, 0, none⟩ = some (.slice sA ss.length sC) ∧ W.cell? ⟨N, 1, none⟩ = some (.slice fA n fC) ∧ M.inn W ∧ Below N w W) := by
    intro W hW
    have h3 := (hW.block N (Array.getElem?_eq_some_iff.1 q1).1).trans q1
    have h4 : Below N w W := hb1.trans (hW.mono (by have := (Array.getElem?_eq_some_iff.1 q1).1; omega))
    exact ⟨(cell_of_row _ _ _ _ _ _ h3).trans rfl, (cell_of_row _ _ _ _ _ _ h3).trans rfl, by rw [← HM.out]; exact HIN.out.below (by rw [hN]; exact h4), h4⟩
  obtain ⟨c1, c2, hm1, hbb1⟩ := HC.out W1 (Below.refl _ _)
  have hli := light11_calls W1 M hm1
  rw [HMC.out] at hli
  have HLI := Lib.hid hli
  have HAL : Hid (∀ W, Calls Try.prog 33 #[] W fun e w' => e = .returned (.bool true) ∧ Below W.heap.size W w') := fun W => alive11_calls W
  have HW1 := Lib.hid hW1
  clear q1 hb1 hW1 hm1 hbb1 hli
  go_enter Try.func9, Try.ntmps9
  go_upto_region 1 with (fail)
  rw [HW1.out]
  go_wp2_with fail
  go_at_call 32
  refine HLI.out.mono ?_
  rintro e w2 ⟨b, rfl, hb, hb2⟩
  obtain ⟨d1, d2, hm2, hbb2⟩ := HC.out w2 hb2
  have HBB2 := Lib.hid hbb2
  have HB2 := Lib.hid hb2
  cases b with
  | false =>
    clear c1 c2 hb hb2 hm2 hbb2
    go_wp2_with (go_at_call 33; refine (HAL.out _).mono ?_; rintro e w3 ⟨rfl, hb3⟩; have HB3 := Lib.hid hb3; clear hb3)
    go_ret
    exact ⟨rfl, by first | (rw [hN]; exact HBB2.out.trans (HB3.out.mono (by have := HBB2.out.size; omega))) | exact HBB2.out.trans (HB3.out.mono (by have := HBB2.out.size; omega))⟩
  | true =>
    have hsh : M.shortC := hb rfl
    have hof := OfIn.of hm2 hsh
    have hoc := of_calls M w2 hof
    rw [HMC.out] at hoc
    have HOC := Lib.hid hoc
    have HOF := Lib.hid hof
    have hnM : n ≤ 12 := by have := hsh.1; have := HML.out; omega
    clear c1 c2 hb hb2 hm2 hbb2 hsh hof hoc
    go_wp2_with fail
    go_at_call 34
    refine HOC.out.mono ?_
    rintro e w4 ⟨N', G, DN, UP, ST, RE, GP, H, gv, tag, rfl, hgm, hgr, _, _, hb4⟩
    have hq := askG HOF.out hgm hgr
    rw [HML.out] at hq
    have HQ := Lib.hid hq
    have HB4 : Hid (Below W1.heap.size W1 w4) := HB2.out.trans (hb4.mono HB2.out.size)
    have hof4 := HOF.out.below hb4
    have htc := table_calls w4 M hof4
    rw [HMC.out, HML.out] at htc
    have HTC := Lib.hid htc
    have HOF4 := Lib.hid hof4
    obtain ⟨k1, k2, _, _⟩ := HC.out w4 HB4.out
    clear hgm hgr hb4 hq d1 d2 hof4 htc
    go_wp2_with fail
    go_at_call 42
    refine HTC.out.mono ?_
    rintro e w5 ⟨R, rfl, htb, hb5⟩
    have HTB := Lib.hid htb
    have HB45 := Lib.hid hb5
    have HB5 : Hid (Below W1.heap.size W1 w5) := HB4.out.trans (hb5.mono HB4.out.size)
    have HOF5 := Lib.hid (HOF4.out.below hb5)
    have HSS : Hid (∀ W, Below w5.heap.size w5 W → (W.cell? ⟨N, 0, none⟩ = some (.slice sA ss.length sC) ∧ W.cell? ⟨N, 1, none⟩ = some (.slice fA n fC)) ∧ Below w4.heap.size w4 W ∧ OfIn W M ∧ TabT W R n (reachB (downF M)) ∧ Below N w W) := by
      intro W hW
      obtain ⟨q1, q2, _, q4⟩ := HC.out W (HB5.out.trans (hW.mono HB5.out.size))
      exact ⟨⟨q1, q2⟩, HB45.out.trans (hW.mono HB45.out.size), HOF5.out.below hW, HTB.out.below hW, q4⟩
    have HS : Hid (∀ W W', Below w5.heap.size w5 W → Below W.heap.size W W' → W'.cell? ⟨N, 0, none⟩ = some (.slice sA ss.length sC) ∧ W'.cell? ⟨N, 1, none⟩ = some (.slice fA n fC) ∧ Below w5.heap.size w5 W') := by
      intro W W' h1 h2
      have h3 := h1.trans (h2.mono h1.size)
      obtain ⟨⟨q1, q2⟩, _⟩ := HSS.out W' h3
      exact ⟨q1, q2, h3⟩
    clear htb hb5 k1 k2
    go_wp2_with fail
    go_loopw [5] (fun c wr => ∃ F : Int, -1 ≤ F ∧ F ≤ (n : Int) + 1 ∧ c = .int .i64 F ∧ Below w5.heap.size w5 wr) (fun c _ => ((n : Int) + 1 - intOf c).toNat)
    case atStart => exact ⟨-1, by omega, by omega, rfl, Below.refl _ _⟩
    case round =>
      obtain ⟨F, hF1, hF2, rfl, hbr⟩ := hrel
      by_cases hFn : F ≤ (n : Int)
      · obtain ⟨xs, hxs⟩ : ∃ xs, (if inR n F = true then downF M F.toNat else []) = xs := ⟨_, rfl⟩
        obtain ⟨us, hus⟩ : ∃ us, (if inR n F = true then upF M F.toNat else []) = us := ⟨_, rfl⟩
        obtain ⟨ps, hps⟩ : ∃ ps, (if inR n F = true then sitesF M F.toNat else []) = ps := ⟨_, rfl⟩
        have hxl : xs.length ≤ 90000 := by
          rw [← hxs]; split
          · have := downF_len M F.toNat; have := HML.out; omega
          · simp
        have hul : us.length ≤ 90000 := by
          rw [← hus]; split
          · have := upF_len M F.toNat; have := HML.out; omega
          · simp
        have hpl : ps.length ≤ 90000 := by
          rw [← hps]; split
          · have h1 := sOf_len (allCalls M.fs.length 0 M.fs) F.toNat
            have h2 := Nat.le_trans (allCalls_len M.fs.length 0 M.fs) HOF.out.tot
            unfold sitesF; omega
          · simp
        have HC1 : Hid (∀ W, Below w5.heap.size w5 W → Calls Try.prog 43 #[.pointer (some ⟨G, 0, none⟩), .int .i64 F] W (GivesN W xs)) := fun W hW => by rw [← hxs]; exact HQ.out.callees W (HSS.out W hW).2.1 F
        have HC2 : Hid (∀ W, Below w5.heap.size w5 W → Calls Try.prog 36 #[.pointer (some ⟨G, 0, none⟩), .int .i64 F] W (GivesN W us)) := fun W hW => by rw [← hus]; exact HQ.out.callers W (HSS.out W hW).2.1 F
        have HC3 : Hid (∀ W, Below w5.heap.size w5 W → Calls Try.prog 47 #[.pointer (some ⟨G, 0, none⟩), .int .i64 F] W (GivesS W ps)) := fun W hW => by rw [← hps]; exact HQ.out.sites W (HSS.out W hW).2.1 F
        have HR1 : Hid (∀ W, Below w5.heap.size w5 W → Calls Try.prog 44 #[.agg #[.slice sA ss.length sC, .slice fA n fC], .int .i64 F] W (GivesN W xs)) := fun W hW => by
          have h := rCallees_calls W M (HSS.out W hW).2.2.1 F
          rw [HMC.out, HML.out, hxs] at h; exact h
        have HR2 : Hid (∀ W, Below w5.heap.size w5 W → Calls Try.prog 45 #[.agg #[.slice sA ss.length sC, .slice fA n fC], .int .i64 F] W (GivesN W us)) := fun W hW => by
          have h := callers11_calls W M (HSS.out W hW).2.2.1 F
          rw [HMC.out, HML.out, hus] at h; exact h
        have HR3 : Hid (∀ W, Below w5.heap.size w5 W → Calls Try.prog 48 #[.agg #[.slice sA ss.length sC, .slice fA n fC], .int .i64 F] W (GivesS W ps)) := fun W hW => by
          have h := rSites_calls W M (HSS.out W hW).2.2.1 F
          rw [HMC.out, HML.out, hps] at h; exact h
        have HBR := Lib.hid hbr
        obtain ⟨⟨k1, k2⟩, _⟩ := HSS.out wr hbr
        clear hxs hus hps hbr
        go_upto_region 8 with (fail)
        go_region_held3 (fun w' => w'.cell? ⟨N, 0, none⟩ = some (.slice sA ss.length sC) ∧ w'.cell? ⟨N, 1, none⟩ = some (.slice fA n fC) ∧ Below w5.heap.size w5 w')
          (first | (exact hS) | (exact ⟨k1, k2, below_drewN HBR.out 1⟩))
          (first
            | (go_at_call 43; refine (HC1.out _ (by go_split_ands; assumption)).mono ?_; rintro e w6 ⟨v6, rfl, ho6, hb6⟩; obtain ⟨a6, c6, rfl⟩ := ownsRow_slice ho6; have hS := HS.out _ _ (by go_split_ands; assumption) hb6)
            | (go_at_call 44; refine (HR1.out _ (by go_split_ands; assumption)).mono ?_; rintro e w7 ⟨v7, rfl, ho7, hb7⟩; obtain ⟨a7, c7, rfl⟩ := ownsRow_slice ho7; have ho6 := ownsRow_below ho6 hb7; have hS := HS.out _ _ (by go_split_ands; assumption) hb7)
            | (go_at_call 14; refine (nums_same _ _ _ _ _ _ _ _ (by assumption) (by assumption) (by assumption)).mono ?_; rintro e w8 ⟨rfl, hb8⟩; have hS := HS.out _ _ (by go_split_ands; assumption) hb8)
            | (go_at_call 36; refine (HC2.out _ (by go_split_ands; assumption)).mono ?_; rintro e w6 ⟨v6, rfl, ho6, hb6⟩; obtain ⟨a6, c6, rfl⟩ := ownsRow_slice ho6; have hS := HS.out _ _ (by go_split_ands; assumption) hb6)
            | (go_at_call 45; refine (HR2.out _ (by go_split_ands; assumption)).mono ?_; rintro e w7 ⟨v7, rfl, ho7, hb7⟩; obtain ⟨a7, c7, rfl⟩ := ownsRow_slice ho7; have ho6 := ownsRow_below ho6 hb7; have hS := HS.out _ _ (by go_split_ands; assumption) hb7)
            | (go_at_call 47; refine (HC3.out _ (by go_split_ands; assumption)).mono ?_; rintro e w6 ⟨v6, rfl, ho6, hb6⟩; obtain ⟨a6, c6, rfl⟩ := ownsRow_slice ho6; have hS := HS.out _ _ (by go_split_ands; assumption) hb6)
            | (go_at_call 48; refine (HR3.out _ (by go_split_ands; assumption)).mono ?_; rintro e w7 ⟨v7, rfl, ho7, hb7⟩; obtain ⟨a7, c7, rfl⟩ := ownsRow_slice ho7; have ho6 := ownsRow_below ho6 hb7; have hS := HS.out _ _ (by go_split_ands; assumption) hb7)
            | (go_at_call 46; refine (pairs_same _ _ _ _ _ _ _ _ (by assumption) (by assumption) (by assumption)).mono ?_; rintro e w8 ⟨rfl, hb8⟩; have hS := HS.out _ _ (by go_split_ands; assumption) hb8))
        obtain ⟨_, _, hbe⟩ := hS
        have HBE := Lib.hid hbe
        clear hbe k1 k2 HC1 HC2 HC3 HR1 HR2 HR3 ho6 ho7 hb6 hb7 hb8
        go_wp2_with fail
        obtain ⟨wk, hwk⟩ : ∃ wk, wk = w8 := ⟨_, rfl⟩
        rw [← hwk] at HBE ⊢
        clear hwk
        go_loopw [6] (fun c wr => ∃ K : Int, -1 ≤ K ∧ K ≤ (n : Int) + 1 ∧ c = .int .i64 K ∧ wr = wk) (fun c _ => ((n : Int) + 1 - intOf c).toNat)
        case atStart => exact ⟨-1, by omega, by omega, rfl, rfl⟩
        case round =>
          obtain ⟨K, hK1, hK2, rfl, rfl⟩ := hrel
          obtain ⟨_, hb4r, _, htr, _⟩ := HSS.out wr HBE.out
          by_cases hKn : K ≤ (n : Int)
          · have hrx := HQ.out.reach wr hb4r F K
            have hcx := HQ.out.recur wr hb4r F
            by_cases hio : (inR n F && inR n K) = true
            · rw [Bool.and_eq_true] at hio
              obtain ⟨x, rfl, hx⟩ := inR_true hio.1
              obtain ⟨y, rfl, hy⟩ := inR_true hio.2
              obtain ⟨bb, capb, e1, e2⟩ := htr.at_ hx hy
              rw [reachF_in hx hy] at hrx
              rw [reachF_in hx hx] at hcx
              obtain ⟨q, hq⟩ : ∃ q, reachB (downF M) x y = q := ⟨_, rfl⟩
              rw [hq] at hrx e2
              have HRX := Lib.hid hrx
              have HQQ := Lib.hid hq
              have hx0 : decide (0 ≤ (x : Int)) = true := decide_eq_true (by omega)
              have hy0 : decide (0 ≤ (y : Int)) = true := decide_eq_true (by omega)
              have hxI : (x : Int) < (n : Int) := by omega
              have hyI : (y : Int) < (n : Int) := by omega
              by_cases hxy : x = y
              · subst hxy
                rw [HQQ.out] at hcx
                have HCX := Lib.hid hcx
                clear hrx hcx hq hb4r htr hio
                go_wp2_with fail
                go_at_call 35
                refine HRX.out.mono ?_
                rintro e w9 ⟨rfl, rfl⟩
                go_wp2_with fail
                go_at_call 49
                refine HCX.out.mono ?_
                rintro e w9 ⟨rfl, rfl⟩
                go_wp2
                go_roundw
                case rel => exact ⟨(x : Int) + 1, by omega, by omega, by go_num, by first | rfl | trivial⟩
                case measure => simp [intOf]; omega
              · have hne : ((x : Int) == (y : Int)) = false := by rw [beq_eq_false_iff_ne]; omega
                clear hrx hcx hq hb4r htr hio hxy
                go_wp2_with fail
                go_at_call 35
                refine HRX.out.mono ?_
                rintro e w9 ⟨rfl, rfl⟩
                go_wp2
                go_roundw
                case rel => exact ⟨(y : Int) + 1, by omega, by omega, by go_num, by first | rfl | trivial⟩
                case measure => simp [intOf]; omega
            · have hio' : (inR n F && inR n K) = false := by simpa using hio
              rw [reachF_off hio'] at hrx
              have HRX := Lib.hid hrx
              have HCO : Hid (F = K → reachF n (downF M) F F = false) := fun e => by
                subst e
                exact reachF_off hio'
              have HCQ := Lib.hid hcx
              have HW : Hid ((decide (0 ≤ F) = false) ∨ (decide (0 ≤ F) = true ∧ decide (F < (n : Int)) = false) ∨ (decide (0 ≤ F) = true ∧ F < (n : Int) ∧ decide (0 ≤ K) = false) ∨ (decide (0 ≤ F) = true ∧ F < (n : Int) ∧ decide (0 ≤ K) = true ∧ decide (K < (n : Int)) = false)) := by
                unfold inR at hio'
                by_cases a1 : 0 ≤ F
                · by_cases a2 : F < (n : Int)
                  · rw [decide_eq_true (show 0 ≤ F ∧ F < (n : Int) from ⟨a1, a2⟩), Bool.true_and] at hio'
                    have a3 := of_decide_eq_false hio'
                    by_cases a4 : 0 ≤ K
                    · exact .inr (.inr (.inr ⟨decide_eq_true a1, a2, decide_eq_true a4, decide_eq_false (by omega)⟩))
                    · exact .inr (.inr (.inl ⟨decide_eq_true a1, a2, decide_eq_false a4⟩))
                  · exact .inr (.inl ⟨decide_eq_true a1, decide_eq_false a2⟩)
                · exact .inl (decide_eq_false a1)
              clear hrx hcx hb4r htr hio hio'
              by_cases hFK : F = K
              · have hfk : (F == K) = true := by rw [hFK]; simp
                have hcx2 := HCQ.out
                rw [HCO.out hFK] at hcx2
                have HCX := Lib.hid hcx2
                clear hcx2 hFK
                rcases HW.out with a1 | ⟨a1, a2⟩ | ⟨a1, a2, a3⟩ | ⟨a1, a2, a3, a4⟩
                · go_wp2_with fail
                  go_at_call 35
                  refine HRX.out.mono ?_
                  rintro e w9 ⟨rfl, rfl⟩
                  go_wp2_with fail
                  go_at_call 49
                  refine HCX.out.mono ?_
                  rintro e w9 ⟨rfl, rfl⟩
                  go_wp2
                  go_roundw
                  case rel => exact ⟨K + 1, by omega, by omega, by go_num, by first | rfl | trivial⟩
                  case measure => simp [intOf]; omega
                · go_wp2_with fail
                  go_at_call 35
                  refine HRX.out.mono ?_
                  rintro e w9 ⟨rfl, rfl⟩
                  go_wp2_with fail
                  go_at_call 49
                  refine HCX.out.mono ?_
                  rintro e w9 ⟨rfl, rfl⟩
                  go_wp2
                  go_roundw
                  case rel => exact ⟨K + 1, by omega, by omega, by go_num, by first | rfl | trivial⟩
                  case measure => simp [intOf]; omega
                · go_wp2_with fail
                  go_at_call 35
                  refine HRX.out.mono ?_
                  rintro e w9 ⟨rfl, rfl⟩
                  go_wp2_with fail
                  go_at_call 49
                  refine HCX.out.mono ?_
                  rintro e w9 ⟨rfl, rfl⟩
                  go_wp2
                  go_roundw
                  case rel => exact ⟨K + 1, by omega, by omega, by go_num, by first | rfl | trivial⟩
                  case measure => simp [intOf]; omega
                · go_wp2_with fail
                  go_at_call 35
                  refine HRX.out.mono ?_
                  rintro e w9 ⟨rfl, rfl⟩
                  go_wp2_with fail
                  go_at_call 49
                  refine HCX.out.mono ?_
                  rintro e w9 ⟨rfl, rfl⟩
                  go_wp2
                  go_roundw
                  case rel => exact ⟨K + 1, by omega, by omega, by go_num, by first | rfl | trivial⟩
                  case measure => simp [intOf]; omega
              · have hfk : (F == K) = false := by rw [beq_eq_false_iff_ne]; exact hFK
                clear hFK
                rcases HW.out with a1 | ⟨a1, a2⟩ | ⟨a1, a2, a3⟩ | ⟨a1, a2, a3, a4⟩
                · go_wp2_with fail
                  go_at_call 35
                  refine HRX.out.mono ?_
                  rintro e w9 ⟨rfl, rfl⟩
                  go_wp2
                  go_roundw
                  case rel => exact ⟨K + 1, by omega, by omega, by go_num, by first | rfl | trivial⟩
                  case measure => simp [intOf]; omega
                · go_wp2_with fail
                  go_at_call 35
                  refine HRX.out.mono ?_
                  rintro e w9 ⟨rfl, rfl⟩
                  go_wp2
                  go_roundw
                  case rel => exact ⟨K + 1, by omega, by omega, by go_num, by first | rfl | trivial⟩
                  case measure => simp [intOf]; omega
                · go_wp2_with fail
                  go_at_call 35
                  refine HRX.out.mono ?_
                  rintro e w9 ⟨rfl, rfl⟩
                  go_wp2
                  go_roundw
                  case rel => exact ⟨K + 1, by omega, by omega, by go_num, by first | rfl | trivial⟩
                  case measure => simp [intOf]; omega
                · go_wp2_with fail
                  go_at_call 35
                  refine HRX.out.mono ?_
                  rintro e w9 ⟨rfl, rfl⟩
                  go_wp2
                  go_roundw
                  case rel => exact ⟨K + 1, by omega, by omega, by go_num, by first | rfl | trivial⟩
                  case measure => simp [intOf]; omega
          · have hKe : K = (n : Int) + 1 := by omega
            have hFI : F ≤ (n : Int) := hFn
            go_wp2
            go_roundw
            case rel => exact ⟨F + 1, by omega, by omega, by go_num, HBE.out⟩
            case measure => simp [intOf]; omega
      · have hFe : F = (n : Int) + 1 := by omega
        have HBR := Lib.hid (HSS.out wr hbr).2.2.2.2
        clear hbr hF1 hF2
        go_wp2_with (go_at_call 33; refine (HAL.out _).mono ?_; rintro e w7 ⟨rfl, hb7⟩; have HB7 := Lib.hid hb7; clear hb7)
        go_ret
        have hfin : Below N w w7 := HBR.out.trans (HB7.out.mono (by have := HBR.out.size; omega))
        exact ⟨rfl, by first | (rw [hN]; exact hfin) | exact hfin⟩
end Go.Proofs.Ytbbogkcfngpbbaa
