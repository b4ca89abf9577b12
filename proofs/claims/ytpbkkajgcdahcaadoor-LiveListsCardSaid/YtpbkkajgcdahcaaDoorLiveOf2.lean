/- live.Of: its walk. -/
import Derived.Test.YtpbkkajgcdahcaaDoorLiveOf
import Derived.WalkMore
namespace Go.Proofs.YtpbkkajgcdahcaaDoor
open Go.RowKit

theorem TabI.of_rows {w2 w3 : World} {c : Cod} {k n R1 R2 : Nat} (hn : c.ins.length = n) (hr1 : w2.heap[R1]? = some (.cells (rowVals n k R1 n) 65 (0, 0))) (hall1 : ∀ i, i < n → w2.heap[R1 + 1 + i]? = some (.cells (wordCells k (fun _ => 0)) 79 (0, 0))) (hsz1 : w2.heap.size = R1 + 1 + n) (hR2 : R2 = w2.heap.size)
    (hr2 : w3.heap[R2]? = some (.cells (rowVals n k R2 n) 65 (0, 0))) (hall2 : ∀ i, i < n → w3.heap[R2 + 1 + i]? = some (.cells (wordCells k (fun _ => 0)) 79 (0, 0))) (hsz2 : w3.heap.size = R2 + 1 + n) (hb : Below R2 w2 w3) :
    TabI (w3.alloc (.cells (tabCells c R1 R2) 60)) w3.heap.size R1 R2 k c (fun _ _ => 0) (fun _ _ => 0) := by
  have ha : ∀ i, i < w3.heap.size → (w3.alloc (.cells (tabCells c R1 R2) 60)).heap[i]? = w3.heap[i]? := fun i hi => Below.heap_alloc _ _ _ hi
  subst hn
  refine TabI.init (alloc_at _ _) ?_ (fun i hi => ?_) ?_ (fun i hi => ?_) (by omega) (by omega) (by omega)
  · rw [ha _ (by omega), hb.block _ (by omega)]; exact hr1
  · rw [ha _ (by omega), hb.block _ (by omega)]; exact hall1 i hi
  · rw [ha _ (by omega)]; exact hr2
  · rw [ha _ (by omega)]; exact hall2 i hi

set_option maxRecDepth 100000 in
set_option maxHeartbeats 8000000 in
theorem liveOf_calls (c : Cod) (w : World) (hin : c.inn w) (hfit : c.fit) : Calls Tryd.prog 7 #[.agg c.cells] w (TabMade c w) := by
  obtain ⟨⟨hn150, hlight⟩, hnv, hfits⟩ := hfit
  have hargs : ∀ i ∈ c.ins, i.args.length ≤ 40 := fun i hi => (hlight.2.2.2.2 i hi).1
  obtain ⟨C, hC⟩ : ∃ C, c = C := ⟨_, rfl⟩
  have HC := Lib.hid hC
  have HARGS : Hid (∀ i ∈ C.ins, i.args.length ≤ 40) := by rw [← hC]; exact hargs
  have HFITS : Hid (Fits C.ins C.nvars) := by rw [← hC]; exact hfits
  have HIN := Lib.hid hin
  clear hin hlight hfits hargs
  obtain ⟨nm, par, varsA, nvars, varsC, rp, rto, rcl, fromA, nfrom, fromC, insA, insC, ins⟩ := c
  simp only at hn150 hnv
  simp only [Cod.cells]
  obtain ⟨n, hn⟩ : ∃ n, ins.length = n := ⟨_, rfl⟩
  have HN' := Lib.hid hn
  obtain ⟨N, hN⟩ : ∃ N, w.heap.size = N := ⟨_, rfl⟩
  obtain ⟨W1, hW1⟩ : ∃ W1, w.alloc (.cells #[.string nm, .int .i64 par, .slice varsA nvars varsC, .bool rp, .string rto, .int .i64 rcl, .slice fromA nfrom fromC, .slice insA n insC] 30) = W1 := ⟨_, rfl⟩
  have hb1 : Below N w W1 := by rw [← hW1, ← hN]; exact (Below.refl _ _).alloc (Nat.le_refl _) _
  have hs1 : W1.heap.size = N + 1 := by rw [← hW1]; simp [hN]
  have hrow : W1.heap[N]? = some (.cells #[.string nm, .int .i64 par, .slice varsA nvars varsC, .bool rp, .string rto, .int .i64 rcl, .slice fromA nfrom fromC, .slice insA n insC] 30 (0, 0)) := by
    rw [← hW1, ← hN]; exact alloc_at _ _
  have hin1 := HIN.out.below (by rw [hN]; exact hb1)
  have HS : Hid (∀ W, Below (N + 1) W1 W → W.cell? ⟨N, 0, none⟩ = some (.string nm) ∧ W.cell? ⟨N, 1, none⟩ = some (.int .i64 par) ∧ W.cell? ⟨N, 2, none⟩ = some (.slice varsA nvars varsC) ∧ W.cell? ⟨N, 3, none⟩ = some (.bool rp) ∧ W.cell? ⟨N, 4, none⟩ = some (.string rto) ∧ W.cell? ⟨N, 5, none⟩ = some (.int .i64 rcl) ∧ W.cell? ⟨N, 6, none⟩ = some (.slice fromA nfrom fromC) ∧ W.cell? ⟨N, 7, none⟩ = some (.slice insA n insC) ∧ Below (N + 1) W1 W) := by
    intro W hW
    have h4 := (hW.block N (by omega)).trans hrow
    refine ⟨?_, ?_, ?_, ?_, ?_, ?_, ?_, ?_, hW⟩ <;> (rw [cell_of_row _ _ _ _ _ _ h4]; rfl)
  have HK : Hid (∀ W, Below (N + 1) W1 W → C.inn W ∧ Below N w W ∧ N + 1 ≤ W.heap.size) := by
    intro W hW
    exact ⟨by rw [← hC]; exact hin1.below (by rw [hs1]; exact hW), hb1.trans (hW.mono (by omega)), by have := hW.size; omega⟩
  have HBE : Hid (∀ W, Below (N + 1) W1 W → Calls Tryd.prog 23 #[.agg #[.string nm, .int .i64 par, .slice varsA nvars varsC, .bool rp, .string rto, .int .i64 rcl, .slice fromA nfrom fromC, .slice insA n insC]] W (GivesR W n (behindOf ins))) := by
    intro W hb
    rw [← hn]
    have h1 := (HK.out W hb).1.row
    rw [← hC] at h1
    exact behind_calls ⟨nm, par, varsA, nvars, varsC, rp, rto, rcl, fromA, nfrom, fromC, insA, insC, ins⟩ W h1 (by show ins.length ≤ 90000; omega)
  have HW1 := Lib.hid hW1
  have HS1 := Lib.hid hs1
  have hsl : N + 1 ≤ W1.heap.size := by omega
  obtain ⟨k0, k1, k2, k3, k4, k5, k6, k7, _⟩ := HS.out W1 (Below.refl _ _)
  have hn9 : n ≤ 150 := by omega
  clear hb1 hs1 hrow hin1 hW1 HIN hC
  rw [hn]
  clear hn hn150
  go_enter Tryd.func7, Tryd.ntmps7
  go_wp2
  rw [HW1.out]
  go_step3
  go_upto_region 1 with (fail)
  go_quiet (fail)
  go_upto_region 2 with (fail)
  obtain ⟨Wd, hWd⟩ : ∃ Wd, W1.drewN nq = Wd := ⟨_, rfl⟩
  have hbd : Below (N + 1) W1 Wd := by rw [← hWd]; exact below_drewN (Below.refl _ _) _
  rw [hWd]
  obtain ⟨k0, k1, k2, k3, k4, k5, k6, k7, _⟩ := HS.out Wd hbd
  have hsd := (HK.out Wd hbd).2.2
  have HBD := Lib.hid hbd
  have HLR : Hid (∀ W, Calls Tryd.prog 22 #[.int .i64 (n : Int), .int .i64 (nvars : Int)] W (RowsMade W n ((nvars + 63) / 64) W.heap.size)) := fun W => liveRows_calls W n nvars (by omega) (by omega)
  have HS2 : Hid (∀ W W', Below (N + 1) W1 W → Below W.heap.size W W' → W'.cell? ⟨N, 0, none⟩ = some (.string nm) ∧ W'.cell? ⟨N, 1, none⟩ = some (.int .i64 par) ∧ W'.cell? ⟨N, 2, none⟩ = some (.slice varsA nvars varsC) ∧ W'.cell? ⟨N, 3, none⟩ = some (.bool rp) ∧ W'.cell? ⟨N, 4, none⟩ = some (.string rto) ∧ W'.cell? ⟨N, 5, none⟩ = some (.int .i64 rcl) ∧ W'.cell? ⟨N, 6, none⟩ = some (.slice fromA nfrom fromC) ∧ W'.cell? ⟨N, 7, none⟩ = some (.slice insA n insC) ∧ Below (N + 1) W1 W') :=
    fun W W' h1 h2 => HS.out W' (h1.trans (h2.mono (HK.out W h1).2.2))
  clear hWd hbd
  go_cut [5] (fun s5 wc => ∃ T RA RB, s5 = .pointer (some ⟨T, 0, none⟩) ∧ TabI wc T RA RB ((nvars + 63) / 64) C (fun _ _ => 0) (fun _ _ => 0) ∧ N + 1 ≤ T ∧ N + 1 ≤ RA ∧ N + 1 ≤ RB ∧ Below (N + 1) W1 wc)
  case first =>
    go_region_held3 (fun w' => w'.cell? ⟨N, 0, none⟩ = some (.string nm) ∧ w'.cell? ⟨N, 1, none⟩ = some (.int .i64 par) ∧ w'.cell? ⟨N, 2, none⟩ = some (.slice varsA nvars varsC) ∧ w'.cell? ⟨N, 3, none⟩ = some (.bool rp) ∧ w'.cell? ⟨N, 4, none⟩ = some (.string rto) ∧ w'.cell? ⟨N, 5, none⟩ = some (.int .i64 rcl) ∧ w'.cell? ⟨N, 6, none⟩ = some (.slice fromA nfrom fromC) ∧ w'.cell? ⟨N, 7, none⟩ = some (.slice insA n insC) ∧ Below (N + 1) W1 w')
      (first | (exact hS) | (exact ⟨k0, k1, k2, k3, k4, k5, k6, k7, below_drewN HBD.out 1⟩) | (exact HS2.out _ _ (by go_split_ands; assumption) ((Below.refl _ _).alloc (Nat.le_refl _) _)))
      (first
        | (go_at_call 22; have hqq := hr1; refine (HLR.out _).mono ?_; rintro e w3 ⟨rfl, hr2, hall2, hsz2, hbel2⟩; have hS := HS2.out _ _ (by go_split_ands; assumption) hbel2)
        | (go_at_call 22; refine (HLR.out _).mono ?_; rintro e w2 ⟨rfl, hr1, hall1, hsz1, hbel1⟩; have hS := HS2.out _ _ (by go_split_ands; assumption) hbel1))
    obtain ⟨_, _, _, _, _, _, _, _, hb3⟩ := hS
    have hsd' : Wd.drew.heap.size = Wd.heap.size := rfl
    rw [hsd'] at hr1 hall1 hsz1
    rw [hsz1] at hr2 hall2 hsz2 hbel2
    have HT : Hid (TabI (w3.alloc (.cells (tabCells C Wd.heap.size (Wd.heap.size + 1 + n)) 60)) w3.heap.size Wd.heap.size (Wd.heap.size + 1 + n) ((nvars + 63) / 64) C (fun _ _ => 0) (fun _ _ => 0)) :=
      TabI.of_rows (n := n) (by rw [← HC.out]; exact HN'.out) hr1 hall1 hsz1 (by rw [hsz1]) hr2 hall2 hsz2 hbel2
    rw [hsz2] at HT
    have HB3 : Hid (Below (N + 1) W1 w3 ∧ w3.heap.size = Wd.heap.size + 1 + n + 1 + n) := ⟨hb3, hsz2⟩
    have hTC : tabCells C Wd.heap.size (Wd.heap.size + 1 + n) = #[.string nm, .int .i64 par, .slice varsA nvars varsC, .bool rp, .string rto, .int .i64 rcl, .slice fromA nfrom fromC, .slice insA n insC, .slice (some ⟨Wd.heap.size, 0, none⟩) n n, .slice (some ⟨Wd.heap.size + 1 + n, 0, none⟩) n n] := by
      rw [← HC.out]; simp only [tabCells, HN'.out]
    rw [hTC] at HT
    clear hr1 hall1 hsz1 hr2 hall2 hsz2 hbel1 hbel2 hb3 hTC
    go_wp2
    go_meet
    case rel => exact ⟨_, _, _, rfl, HT.out, by omega, by omega, by omega, HB3.out.1.alloc (by have := HB3.out.2; omega) _⟩
  case rest =>
    obtain ⟨T, RA, RB, rfl, htab, hT, hRA, hRB, hbc⟩ := hcut
    obtain ⟨k0, k1, k2, k3, k4, k5, k6, k7, _⟩ := HS.out wc hbc
    have HTAB := Lib.hid htab
    have HBC := Lib.hid hbc
    have hsc := (HK.out wc hbc).2.2
    clear htab hbc
    go_wp2_with (go_at_call 23; refine (HBE.out _ HBC.out).mono ?_; rintro e W3 ⟨R, rfl, hR, hrows, hb3⟩)
    have hb3' : Below (N + 1) W1 W3 := HBC.out.trans (hb3.mono hsc)
    have ht3 : TabI W3 T RA RB ((nvars + 63) / 64) C (fun _ _ => 0) (fun _ _ => 0) := HTAB.out.keep (Ext.of_below_size hb3 : Ext (fun _ => False) wc W3) (fun _ h => h)
    have hnC : C.ins.length = n := by rw [← HC.out]; exact HN'.out
    have hTl : T < wc.heap.size := (Array.getElem?_eq_some_iff.1 HTAB.out.tab).1
    have hRAl : RA < wc.heap.size := by obtain ⟨cur, h1, _⟩ := HTAB.out.ahead; exact (Array.getElem?_eq_some_iff.1 h1).1
    have hRBl : RB < wc.heap.size := (Array.getElem?_eq_some_iff.1 HTAB.out.behind).1
    have hRBn : RB + n < wc.heap.size := by
      by_cases h0 : n = 0
      · omega
      · have := (HTAB.out.words (n - 1) (by omega)).lt; omega
    have HV : Hid (∀ y, y < n → ∃ ao cap, W3.cell? ⟨R, y, none⟩ = some (.slice ao (behindOf ins y).length cap) ∧ ∀ (q z : Nat), (behindOf ins y)[q]? = some z → ∃ g, ao = some ⟨g, 0, none⟩ ∧ R < g ∧ g < W3.heap.size ∧ W3.cell? ⟨g, q, none⟩ = some (.int .i64 (z : Int))) := by
      intro y hy
      obtain ⟨vals, _, v1, v2, _, v4, _⟩ := hrows
      obtain ⟨v, hv⟩ : ∃ v, vals[y]? = some v := ⟨_, Array.getElem?_eq_getElem (by omega)⟩
      have ho := v4 y v hv
      obtain ⟨ao, cap, rfl⟩ := ho.isSlice
      have hl : (ints (behindOf ins y)).length = (behindOf ins y).length := by simp [ints]
      refine ⟨ao, cap, by rw [cell_of_row _ _ _ _ _ _ v2, hv, hl], fun q z hz => ?_⟩
      obtain ⟨g, e, h1, h2, h3⟩ := ho.shape (by rw [hl]; have := (List.getElem?_eq_some_iff.1 hz).1; omega)
      exact ⟨g, e, by omega, h2, h3 q z (by simp [ints, hz])⟩
    have hR3 : R < W3.heap.size := by obtain ⟨vals, _, _, v2, _⟩ := hrows; exact (Array.getElem?_eq_some_iff.1 v2).1
    have hs3 : N + 1 ≤ W3.heap.size := (HK.out W3 hb3').2.2
    have HB3 := Lib.hid hb3'
    have HT3 := Lib.hid ht3
    have HNC := Lib.hid hnC
    clear hb3 hb3' ht3 hrows hnC k0 k1 k2 k3 k4 k5 k6 k7
    go_step3
    go_wp2
    obtain ⟨k, hk⟩ : ∃ k, k = (nvars + 63) / 64 := ⟨_, rfl⟩
    go_loopg [8] (roomOf n k (fun _ _ => 0)) (fun m s8 wr => SweepsI T RA RB k C W3 m wr)
    case atStart => exact ⟨_, _, by rw [hk]; exact HT3.out, by intro x v _ h; simp [bitOf] at h, by intro x j; decide, by rw [HNC.out]; exact Nat.le_refl _, Ext.refl _ _⟩
    case round =>
      obtain ⟨a0, b0, ht0, hs0, hl0, hr0, hx0⟩ := hrel
      have HSW0 : Hid (SwI T RA RB k C W3 b0 (.bool false) (.int .i64 ((n : Int) - 1)) wr) :=
        ⟨n, false, a0, b0, by rw [HNC.out]; exact Nat.le_refl _, rfl, rfl, ht0, hs0, hl0, hx0, Nat.le_refl _, (fun h => by cases h), fun _ => ⟨rfl, fun y i hy hi => absurd (List.getElem?_eq_some_iff.1 hi).1 (by rw [HNC.out]; omega)⟩⟩
      have HR0 := Lib.hid hr0
      clear ht0 hs0 hl0 hr0 hx0
      have HKC := Lib.hid hk
      have hk9 : k ≤ 90000 := by omega
      have hkv : nvars ≤ 64 * k := by omega
      clear hk
      go_wp2
      go_loopw [8, 9] (fun s8 s9 wr2 => SwI T RA RB k C W3 b0 s8 s9 wr2) (fun _ s9 _ => (intOf s9 + 1).toNat)
      case atStart => exact HSW0.out
      case round =>
        rename_i wr0 _
        obtain ⟨j, ch, a, b, hj, rfl, rfl, ht, hs, hl, hx, hrm, hc1, hc2⟩ := hrel
        rw [HNC.out] at hj
        cases j with
        | zero =>
          have e : (((0 : Nat) : Int) - 1) = -1 := by omega
          rw [e]
          have hsw : SwI T RA RB k C W3 b0 (.bool ch) (.int .i64 (-1)) wr := ⟨0, ch, a, b, Nat.zero_le _, by simp, rfl, ht, hs, hl, hx, hrm, hc1, hc2⟩
          have hbr : Below (N + 1) W1 wr := HB3.out.trans (hx.below hs3 (fun q hq => by unfold FixM at hq; rw [HNC.out] at hq; omega))
          cases ch with
          | true =>
            have HC1 := Lib.hid (hc1 rfl)
            have HG : Hid (SweepsI T RA RB k C W3 (roomOf C.ins.length k b) wr) := ⟨a, b, ht, hs, hl, Nat.le_refl _, hx⟩
            clear hsw hbr ht hs hl hx hrm hc1 hc2 e
            go_wp2
            go_roundg (roomOf C.ins.length k b)
            case measure => exact Nat.lt_of_lt_of_le HC1.out HR0.out
            case rel => exact HG.out
          | false =>
            have HG : Hid (TabMade C w (.returned (.pointer (some ⟨T, 0, none⟩))) wr) := by
              have hnvC : C.nvars = nvars := by rw [← HC.out]
              rw [HKC.out, ← hnvC] at hsw
              obtain ⟨a', b', hok⟩ := hsw.final HFITS.out rfl
              exact ⟨T, RA, RB, a', b', rfl, by omega, hok, by rw [hN]; exact (HK.out wr hbr).2.1⟩
            clear hsw hbr ht hs hl hx hrm hc1 hc2 e
            go_wp2
            try rw [Exit.noGoto_ret]
            go_ret
            rw [HC.out]
            exact HG.out
        | succ j =>
          have e : (((j + 1 : Nat) : Int) - 1) = (j : Int) := by omega
          rw [e]
          have hjn : j < n := by omega
          obtain ⟨i, hi⟩ : ∃ i, C.ins[j]? = some i := ⟨_, List.getElem?_eq_getElem (by rw [HNC.out]; exact hjn)⟩
          have hmem := List.mem_of_getElem? hi
          have hbr : Below (N + 1) W1 wr := HB3.out.trans (hx.below hs3 (fun q hq => by unfold FixM at hq; rw [HNC.out] at hq; omega))
          have hfi := HFITS.out i hmem
          have hnvC : C.nvars = nvars := by rw [← HC.out]
          have HSTEP := Lib.hid (step_calls wr T RA RB k j C a b i ht hi (HK.out wr hbr).1 (HARGS.out i hmem) (by rw [HNC.out]; omega) hk9 ⟨fun r hr => ⟨(hfi.1 r hr).1, by have := (hfi.1 r hr).2; rw [hnvC] at this; omega⟩, fun h => ⟨(hfi.2 h).1, by have := (hfi.2 h).2; rw [hnvC] at this; omega⟩⟩ hl)
          have HI := Lib.hid hi
          have HS0 := Lib.hid hs
          have HL0 := Lib.hid hl
          have HX0 := Lib.hid hx
          have HRM := Lib.hid hrm
          have HC1 := Lib.hid hc1
          have HC2 := Lib.hid hc2
          clear hi hmem hbr hfi hnvC hs hl hx hrm hc1 hc2 ht e
          by_cases hc0 : countOf k (stepW i (b j)) = 0
          · have hd : decide (0 < countOf k (stepW i (b j))) = false := decide_eq_false (by omega)
            have HC0 := Lib.hid hc0
            have HST2 : Hid (Calls Tryd.prog 24 #[.pointer (some ⟨T, 0, none⟩), .int .i64 (j : Int)] wr fun e w' => e = .returned (.bool false) ∧ TabI w' T RA RB k C (fun y => if y = j then stepW i (b j) else a y) b ∧ Ext (· = RA) wr w') :=
              HSTEP.out.mono fun e w' h => by unfold Stepped at h; rw [hd] at h; exact h
            clear HSTEP hc0 hd
            go_wp2_with (go_at_call 24; refine HST2.out.mono ?_; rintro e w2 ⟨rfl, ht2, hx2⟩)
            refine ⟨SwI.skip HI.out HC0.out ht2 HS0.out HL0.out (HX0.out.trans hx2 (fun q hq => .inl (.inl hq))) HRM.out HC1.out HC2.out, by simp [intOf]⟩
          · have hd : decide (0 < countOf k (stepW i (b j))) = true := decide_eq_true (by omega)
            have HST2 : Hid (Calls Tryd.prog 24 #[.pointer (some ⟨T, 0, none⟩), .int .i64 (j : Int)] wr fun e w' => e = .returned (.bool true) ∧ TabI w' T RA RB k C (fun y => if y = j then stepW i (b j) else a y) b ∧ Ext (· = RA) wr w') :=
              HSTEP.out.mono fun e w' h => by unfold Stepped at h; rw [hd] at h; exact h
            obtain ⟨ao, cap, hcR, hcells⟩ := HV.out j hjn
            have hcR0 : ∀ w2, Ext (· = RA) wr w2 → w2.cell? ⟨R, j, none⟩ = some (.slice ao (behindOf ins j).length cap) := fun w2 h2 => by
              have hxx : Ext (FixM RA RB C.ins.length) W3 w2 := HX0.out.trans h2 (fun q hq => .inl (.inl hq))
              rw [hxx.cell (a := ⟨R, j, none⟩) hR3 (by show ¬ FixM RA RB C.ins.length R; unfold FixM; rw [HNC.out]; omega)]; exact hcR
            have HCR := Lib.hid hcR0
            have HCE := Lib.hid hcells
            have hlb : (behindOf ins j).length ≤ 300 := by have := behindOf_len ins j; have := HN'.out; omega
            have hjI : (j : Int) < (n : Int) := by omega
            have HCI : Hid (C.ins = ins) := by unfold Hid; rw [← HC.out]
            clear HSTEP hc0 hd hcR hcR0 hcells
            go_upto_if 40 with (go_at_call 24; refine HST2.out.mono ?_; rintro e w2 ⟨rfl, ht2, hx2⟩)
            have hcr2 := HCR.out w2 hx2
            have HJ0 : Hid (JnI T RA RB k C W3 b0 (fun y => if y = j then stepW i (b j) else a y) j (.bool ch) (.int .i64 0) w2) := JnI.start HI.out ht2 HS0.out HL0.out (HX0.out.trans hx2 (fun q hq => .inl (.inl hq))) HRM.out HC1.out HC2.out
            clear ht2 hx2 HST2 HCR
            obtain ⟨a', ha'⟩ : ∃ a', (fun y => if y = j then stepW i (b j) else a y) = a' := ⟨_, rfl⟩
            rw [ha'] at HJ0
            have HAJ : Hid (a' j = stepW i (b j)) := by rw [← ha']; simp [Hid]
            have HAL : Hid (∀ p, a' j p < 18446744073709551616) := by rw [HAJ.out]; exact stepW_lt i (HL0.out j)
            clear ha'
            go_wp2
            go_loopw [8, 46] (fun s8 s46 wr3 => JnI T RA RB k C W3 b0 a' j s8 s46 wr3) (fun _ s46 _ => (behindOf ins j).length - (intOf s46).toNat)
            case atStart => exact HJ0.out
            case round =>
              rename_i wr00 _
              obtain ⟨q, ch2, b2, hq, rfl, rfl, ht3, hs3', hl3, hx3, hr3, h31, h32⟩ := hrel
              rw [HCI.out] at hq
              by_cases hql : q < (behindOf ins j).length
              · obtain ⟨x, hxq⟩ : ∃ x, (behindOf ins j)[q]? = some x := ⟨_, List.getElem?_eq_getElem hql⟩
                have hxn : x < n := by have := ((mem_behindOf ins x j).1 (List.mem_of_getElem? hxq)).1; have := HN'.out; omega
                obtain ⟨g2, rfl, hg2, hg2l, hgc2⟩ := HCE.out q x hxq
                have hcx : wr.cell? ⟨g2, q, none⟩ = some (.int .i64 (x : Int)) := by
                  rw [hx3.cell (a := ⟨g2, q, none⟩) hg2l (by show ¬ FixM RA RB C.ins.length g2; unfold FixM; rw [HNC.out]; omega)]; exact hgc2
                have hqI : (q : Int) < ((behindOf ins j).length : Int) := by omega
                have hxI : (x : Int) < (n : Int) := by omega
                obtain ⟨cur, q1, q2, q3⟩ := ht3.ahead
                obtain ⟨g, cp, q4, q5, q6⟩ := q3 j (by rw [HNC.out]; exact hjn)
                have c1 : wr.cell? ⟨T, 8, none⟩ = some (.slice (some ⟨RA, 0, none⟩) n n) := ht3.cells (by rw [← HNC.out]; rfl)
                have c2 : wr.cell? ⟨T, 9, none⟩ = some (.slice (some ⟨RB, 0, none⟩) n n) := ht3.cells (by rw [← HNC.out]; rfl)
                have c3 : wr.cell? ⟨RB, x, none⟩ = some (.slice (some ⟨RB + 1 + x, 0, none⟩) k k) := by
                  rw [cell_of_row _ _ _ _ _ _ ht3.behind, HNC.out, rowVals_get _ _ _ hxn, if_pos hxn]
                have c4 : wr.cell? ⟨RA, j, none⟩ = some (.slice (some ⟨g, 0, none⟩) k cp) := by rw [cell_of_row _ _ _ _ _ _ q1]; exact q4
                have hgx : g ≠ RB + 1 + x := fun e => q5 (by rw [HNC.out]; unfold FixB; omega)
                have s1 := ht3.s1
                have s2 := ht3.s2
                have s3 := ht3.s3
                rw [HNC.out] at s2 s3
                have hwx := ht3.words x (by rw [HNC.out]; exact hxn)
                have HJOIN := Lib.hid (rowJoin_calls wr.drew (RB + 1 + x) g k k cp (b2 x) (a' j) hgx (hwx.keep rfl) (q6.keep rfl) (hl3 x) HAL.out hk9)
                have lT : T < wr.heap.size := (Array.getElem?_eq_some_iff.1 ht3.tab).1
                have lA : RA < wr.heap.size := (Array.getElem?_eq_some_iff.1 q1).1
                have lB : RB < wr.heap.size := (Array.getElem?_eq_some_iff.1 ht3.behind).1
                have HKEEP : Hid (∀ W', Ext (· = RB + 1 + x) wr.drew W' → W'.cell? ⟨T, 8, none⟩ = some (.slice (some ⟨RA, 0, none⟩) n n) ∧ W'.cell? ⟨T, 9, none⟩ = some (.slice (some ⟨RB, 0, none⟩) n n) ∧ W'.cell? ⟨RB, x, none⟩ = some (.slice (some ⟨RB + 1 + x, 0, none⟩) k k) ∧ W'.cell? ⟨RA, j, none⟩ = some (.slice (some ⟨g, 0, none⟩) k cp)) := by
                  intro W' hW'
                  refine ⟨?_, ?_, ?_, ?_⟩
                  · rw [hW'.cell (a := ⟨T, 8, none⟩) lT (by show ¬ T = RB + 1 + x; omega)]; exact c1
                  · rw [hW'.cell (a := ⟨T, 9, none⟩) lT (by show ¬ T = RB + 1 + x; omega)]; exact c2
                  · rw [hW'.cell (a := ⟨RB, x, none⟩) lB (by show ¬ RB = RB + 1 + x; omega)]; exact c3
                  · rw [hW'.cell (a := ⟨RA, j, none⟩) lA (by show ¬ RA = RB + 1 + x; omega)]; exact c4
                have HNX : Hid (∀ W', RowW W' (RB + 1 + x) k (orsOf (b2 x) (a' j) k) → Ext (· = RB + 1 + x) wr.drew W' → JnI T RA RB k C W3 b0 a' j (.bool (anyNew (b2 x) (a' j) k || ch2)) (.int .i64 ((q : Int) + 1)) W') := fun W' h1 h2 =>
                  JnI.next HFITS.out HI.out HAJ.out HS0.out HL0.out (by rw [HCI.out]; exact hxq) ht3 hs3' hl3 hx3 hr3 h31 h32 h1 (((Ext.refl _ wr).drew).trans h2 (fun _ h => .inl h))
                obtain ⟨nb, hnb⟩ : ∃ nb, anyNew (b2 x) (a' j) k = nb := ⟨_, rfl⟩
                unfold Joined at HJOIN
                rw [hnb] at HJOIN HNX
                clear hnb ht3 hs3' hl3 hx3 hr3 h31 h32 hgc2 q1 q2 q3 q4 q5 q6 hwx hxq hcr2
                cases nb with
                | true =>
                  clear HKEEP
                  go_wp2
                  first
                  | go_region_law (go_simp; go_at_call 25; refine HJOIN.out.mono ?_; rintro e w4 ⟨rfl, hr4, hx4⟩)
                  | fail
                  all_goals
                    have HNX2 := Lib.hid (HNX.out w4 hr4 hx4)
                    rw [Bool.true_or] at HNX2
                    clear hr4 hx4
                    go_wp2
                    exact ⟨HNX2.out, by simp [intOf]; omega⟩
                | false =>
                  go_wp2
                  go_region_held3 (fun w' => w'.cell? ⟨T, 8, none⟩ = some (.slice (some ⟨RA, 0, none⟩) n n) ∧ w'.cell? ⟨T, 9, none⟩ = some (.slice (some ⟨RB, 0, none⟩) n n) ∧ w'.cell? ⟨RB, x, none⟩ = some (.slice (some ⟨RB + 1 + x, 0, none⟩) k k) ∧ w'.cell? ⟨RA, j, none⟩ = some (.slice (some ⟨g, 0, none⟩) k cp))
                    (first | (exact hS) | (exact ⟨c1, c2, c3, c4⟩))
                    (first | (go_at_call 25; refine HJOIN.out.mono ?_; rintro e w4 ⟨rfl, hr4, hx4⟩; have hS := HKEEP.out _ hx4))
                  have HNX2 := Lib.hid (HNX.out w4 hr4 hx4)
                  rw [Bool.false_or] at HNX2
                  clear hS hr4 hx4
                  go_wp2
                  exact ⟨HNX2.out, by simp [intOf]; omega⟩
              · have hqe : q = (behindOf ins j).length := by omega
                subst hqe
                have HD : Hid (SwI T RA RB k C W3 b0 (.bool ch2) (.int .i64 ((j : Int) - 1)) wr) :=
                  JnI.done HI.out ⟨_, ch2, b2, (by rw [HCI.out]; exact Nat.le_refl _), (by rw [HCI.out]), rfl, ht3, hs3', hl3, hx3, hr3, h31, (by rw [HCI.out] at h32 ⊢; exact h32)⟩
                clear ht3 hs3' hl3 hx3 hr3 h31 h32 hcr2
                go_wp2
                exact ⟨HD.out, by simp [intOf]⟩
end Go.Proofs.YtpbkkajgcdahcaaDoor
