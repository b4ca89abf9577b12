/- LiveTables, at any code: true. -/
import Derived.Test.YtpbkkajgcdahcaaWays
import Derived.Test.YtpbkkajgcdahcaaTab10
namespace Go.Proofs.Ytpbkkajgcdahcaa
open Go.RowKit

set_option maxRecDepth 100000 in
set_option maxHeartbeats 8000000 in
theorem tables_calls (c : Cod) (w : World) (hin : c.inn w) : Calls Try.prog 10 #[.agg c.cells] w fun e w' => e = .returned (.bool true) ∧ Below w.heap.size w w' := by
  have HIN := Lib.hid hin
  obtain ⟨C, hC⟩ : ∃ C, c = C := ⟨_, rfl⟩
  have HC := Lib.hid hC
  clear hin
  obtain ⟨nm, par, varsA, nvars, varsC, rp, rto, rcl, fromA, nfrom, fromC, insA, insC, ins⟩ := c
  simp only [Cod.cells]
  obtain ⟨n, hn⟩ : ∃ n, ins.length = n := ⟨_, rfl⟩
  have HN' := Lib.hid hn
  obtain ⟨N, hN⟩ : ∃ N, w.heap.size = N := ⟨_, rfl⟩
  obtain ⟨W1, hW1⟩ : ∃ W1, w.alloc (.cells #[.string nm, .int .i64 par, .slice varsA nvars varsC, .bool rp, .string rto, .int .i64 rcl, .slice fromA nfrom fromC, .slice insA n insC] 30) = W1 := ⟨_, rfl⟩
  have hb1 : Below N w W1 := by rw [← hW1, ← hN]; exact (Below.refl _ _).alloc (Nat.le_refl _) _
  have hs1 : W1.heap.size = N + 1 := by rw [← hW1]; simp [hN]
  have hrow : W1.heap[N]? = some (.cells #[.string nm, .int .i64 par, .slice varsA nvars varsC, .bool rp, .string rto, .int .i64 rcl, .slice fromA nfrom fromC, .slice insA n insC] 30 (0, 0)) := by
    rw [← hW1, ← hN]; exact alloc_at _ _
  have hin1 := HIN.out.below (by rw [hN]; exact hb1)
  have HS : Hid (∀ W, Below (N + 1) W1 W → W.cell? ⟨N, 0, none⟩ = some (.string nm) ∧ W.cell? ⟨N, 1, none⟩ = some (.int .i64 par) ∧ W.cell? ⟨N, 2, none⟩ = some (.slice varsA nvars varsC) ∧ W.cell? ⟨N, 3, none⟩ = some (.bool rp) ∧ W.cell? ⟨N, 4, none⟩ = some (.string rto) ∧ W.cell? ⟨N, 5, none⟩ = some (.int .i64 rcl) ∧ W.cell? ⟨N, 6, none⟩ = some (.slice fromA nfrom fromC) ∧ W.cell? ⟨N, 7, none⟩ = some (.slice insA n insC) ∧ Below (N + 1) W1 W) := by
    intro W hW
    have h4 := (hW.block N (by omega)).trans hrow
    refine ⟨?_, ?_, ?_, ?_, ?_, ?_, ?_, ?_, hW⟩ <;> (rw [cell_of_row _ _ _ _ _ _ h4]; rfl)
  have HK : Hid (∀ W, Below (N + 1) W1 W → C.inn W ∧ Below N w W ∧ N + 1 ≤ W.heap.size) := by
    intro W hW
    exact ⟨by rw [← hC]; exact hin1.below (by rw [hs1]; exact hW), hb1.trans (hW.mono (by omega)), by have := hW.size; omega⟩
  have hcc : C.cells = #[.string nm, .int .i64 par, .slice varsA nvars varsC, .bool rp, .string rto, .int .i64 rcl, .slice fromA nfrom fromC, .slice insA n insC] := by rw [← hC, ← hn]; rfl
  have HLI : Hid (∀ W, Below (N + 1) W1 W → Calls Try.prog 42 #[.agg #[.string nm, .int .i64 par, .slice varsA nvars varsC, .bool rp, .string rto, .int .i64 rcl, .slice fromA nfrom fromC, .slice insA n insC]] W (SaysIf W W.heap.size C.fit)) := by
    intro W hb; rw [← hcc]; exact light10_calls C W (HK.out W hb).1
  have HOF : Hid (∀ W, Below (N + 1) W1 W → C.fit → Calls Try.prog 40 #[.agg #[.string nm, .int .i64 par, .slice varsA nvars varsC, .bool rp, .string rto, .int .i64 rcl, .slice fromA nfrom fromC, .slice insA n insC]] W (TabMade C W)) := by
    intro W hb hf; rw [← hcc]; exact liveOf_calls C W (HK.out W hb).1 hf
  have HNX : Hid (∀ W x, Below (N + 1) W1 W → x < n → n ≤ 90000 → Calls Try.prog 19 #[.agg #[.string nm, .int .i64 par, .slice varsA nvars varsC, .bool rp, .string rto, .int .i64 rcl, .slice fromA nfrom fromC, .slice insA n insC], .int .i64 (x : Int)] W (GivesI W (ints (nextN ins x)))) := by
    intro W x hb hx h9
    have h1 := (HK.out W hb).1.row
    have h2 := ref08_nextN C x W h1 (by rw [← hC]; show x < ins.length; omega) (by rw [← hC]; show ins.length ≤ 90000; omega)
    rw [hcc] at h2
    rw [show C.ins = ins by rw [← hC]] at h2
    exact h2
  have HW1 := Lib.hid hW1
  have HS1 := Lib.hid hs1
  have hsl : N + 1 ≤ W1.heap.size := by omega
  obtain ⟨k0, k1, k2, k3, k4, k5, k6, k7, _⟩ := HS.out W1 (Below.refl _ _)
  rw [hn]
  clear hb1 hs1 hrow hin1 hW1 HIN hC hcc hn
  go_enter Try.func10, Try.ntmps10
  go_wp2_with fail
  go_at_call 42
  rw [HW1.out]
  refine (HLI.out W1 (Below.refl _ _)).mono ?_
  rintro e w2 ⟨fb, rfl, hfb, hbw⟩
  have HFB := Lib.hid hfb
  have hb2 : Below (N + 1) W1 w2 := by rw [HS1.out] at hbw; exact hbw
  have HB2 := Lib.hid hb2
  obtain ⟨k0, k1, k2, k3, k4, k5, k6, k7, _⟩ := HS.out w2 hb2
  clear hfb hbw hb2
  cases fb with
  | false =>
    go_wp2_with fail
    go_at_call 39
    refine (alive10_calls _).mono ?_
    rintro e w3 ⟨rfl, hb3⟩
    have HF := Lib.hid (HK.out w3 (HB2.out.trans (hb3.mono (HK.out w2 HB2.out).2.2))).2.1
    clear hb3
    go_wp2
    go_ret
    exact ⟨rfl, by first | exact HF.out | (rw [hN]; exact HF.out)⟩
  | true =>
    have HFIT : Hid C.fit := HFB.out rfl
    have hn150 : n ≤ 150 := by have := HFIT.out.1.1; rw [← HC.out] at this; have h := HN'.out; simp only at this; omega
    have hnv80 : nvars ≤ 80 := by have := HFIT.out.2.1; rw [← HC.out] at this; exact this
    have HARGS : Hid (∀ i ∈ ins, i.args.length ≤ 40) := by have := HFIT.out.1.2.2.2.2.2; rw [← HC.out] at this; exact fun i hi => (this i hi).1
    go_wp2_with fail
    go_at_call 40
    refine (HOF.out w2 HB2.out HFIT.out).mono ?_
    rintro e W3 ⟨T, RA, RB, a, b, rfl, hT, hok, hb3⟩
    have hsz2 := (HK.out w2 HB2.out).2.2
    have HB3 : Hid (Below (N + 1) W1 W3) := HB2.out.trans (hb3.mono hsz2)
    have HOK : Hid (∀ W, Below W3.heap.size W3 W → TabOk W T RA RB C a b) := fun W h => hok.below h
    have HSZ3 : Hid (N + 1 ≤ W3.heap.size) := (HK.out W3 HB3.out).2.2
    have HB3W : Hid (∀ W, Below W3.heap.size W3 W → Below (N + 1) W1 W) := fun W h => HB3.out.trans (h.mono HSZ3.out)
    obtain ⟨TT, hTT⟩ := Classical.axiomOfChoice (fun v => bfs10 ins v)
    have HEQ : Hid (∀ x v, x < n → v < nvars → bitOf (a x) v = decide (x ∈ TT v) ∧ bitOf (b x) v = decide (x ∈ behs ins (TT v) n)) := by
      intro x v hx hv
      have hci : C.ins = ins := by rw [← HC.out]
      have hs := hok.says x v (by rw [hci, HN'.out]; exact hx) (by rw [← HC.out]; exact hv)
      rw [hci] at hs
      refine ⟨?_, ?_⟩
      · rw [Bool.eq_iff_iff, hs.2, decide_eq_true_eq, (hTT v).2.1]
      · rw [Bool.eq_iff_iff, hs.1, decide_eq_true_eq, mem_behs]
        unfold AskedBehind anyIn
        simp only [List.any_eq_true, decide_eq_true_eq, (hTT v).2.1]
        exact ⟨fun h => ⟨hx, h⟩, fun h => h.2⟩
    have hcc : C.cells = #[.string nm, .int .i64 par, .slice varsA nvars varsC, .bool rp, .string rto, .int .i64 rcl, .slice fromA nfrom fromC, .slice insA n insC] := by rw [← HC.out, ← HN'.out]; rfl
    have hci : C.ins = ins := by rw [← HC.out]
    have hcn : C.nvars = nvars := by rw [← HC.out]
    have HTAB : Hid (∀ W, Below (N + 1) W1 W → Calls Try.prog 43 #[.agg #[.string nm, .int .i64 par, .slice varsA nvars varsC, .bool rp, .string rto, .int .i64 rcl, .slice fromA nfrom fromC, .slice insA n insC]] W fun e w' => ∃ ao cap, e = .returned (.slice ao nvars cap) ∧ TabB w' W.heap.size n nvars (fun v => behs ins (TT v) n) (.slice ao nvars cap) ∧ Below W.heap.size W w') := by
      intro W hb
      have h := table10_calls C W TT (HK.out W hb).1 (by rw [hci]; exact HARGS.out) (by rw [hci, HN'.out]; omega) (by rw [hcn]; omega) (by rw [hci]; exact fun v => (hTT v).1) (fun v => by have := (hTT v).2.2.1; have := HN'.out; omega)
      rw [hcc, hci, hcn, HN'.out] at h
      exact h
    have HAHD : Hid (∀ W v, Below (N + 1) W1 W → Calls Try.prog 44 #[.agg #[.string nm, .int .i64 par, .slice varsA nvars varsC, .bool rp, .string rto, .int .i64 rcl, .slice fromA nfrom fromC, .slice insA n insC], .int .i64 ((v : Nat) : Int)] W (Truthed W n (TT v))) := by
      intro W v hb
      have h := ahead10_calls C W v (TT v) (HK.out W hb).1 (by rw [hci]; exact HARGS.out) (by rw [hci, HN'.out]; omega) (by rw [hci]; exact (hTT v).1) (by have := (hTT v).2.2.1; have := HN'.out; omega)
      rw [hcc, hci, HN'.out] at h
      exact h
    clear hcc hci hcn hTT
    have HTA : Hid (∀ W x v, Below W3.heap.size W3 W → x < n → v < nvars → Calls Try.prog 45 #[.pointer (some ⟨T, 0, none⟩), .int .i64 (x : Int), .int .i64 (v : Int)] W fun e w' => e = .returned (.bool (bitOf (a x) v)) ∧ W = w') := by
      intro W x v h hx hv
      have h1 : C.ins.length = n := by rw [← HC.out]; exact HN'.out
      have h2 : C.nvars = nvars := by rw [← HC.out]
      exact ahead_calls W T RA RB C a b x v (HOK.out W h) (by omega) (by omega) (by omega) (by omega)
    have HTB : Hid (∀ W x v, Below W3.heap.size W3 W → x < n → v < nvars → Calls Try.prog 41 #[.pointer (some ⟨T, 0, none⟩), .int .i64 (x : Int), .int .i64 (v : Int)] W fun e w' => e = .returned (.bool (bitOf (b x) v)) ∧ W = w') := by
      intro W x v h hx hv
      have h1 : C.ins.length = n := by rw [← HC.out]; exact HN'.out
      have h2 : C.nvars = nvars := by rw [← HC.out]
      exact tbehind_calls W T RA RB C a b x v (HOK.out W h) (by omega) (by omega) (by omega) (by omega)
    clear hT hok hb3
    obtain ⟨k0, k1, k2, k3, k4, k5, k6, k7, _⟩ := HS.out W3 HB3.out
    go_wp2_with (go_at_call 43; refine (HTAB.out W3 HB3.out).mono ?_; rintro e W4 ⟨aoT, capT, rfl, htab, hb4⟩)
    have hb4' : Below (N + 1) W1 W4 := HB3.out.trans (hb4.mono HSZ3.out)
    have HB4 := Lib.hid hb4'
    have HTB4 := Lib.hid htab
    have HB34 := Lib.hid hb4
    have hsz4 := hb4.size
    clear hb4 hb4' htab k0 k1 k2 k3 k4 k5 k6 k7
    go_loopw [5] (fun c wr => ∃ v : Nat, v ≤ nvars ∧ c = .int .i64 (v : Int) ∧ Below W4.heap.size W4 wr) (fun c _ => nvars - (intOf c).toNat)
    case atStart => exact ⟨0, Nat.zero_le _, rfl, Below.refl _ _⟩
    case round =>
      obtain ⟨v, hv, rfl, hbr⟩ := hrel
      have hbr1 : Below (N + 1) W1 wr := HB4.out.trans (hbr.mono (by have := HSZ3.out; omega))
      obtain ⟨k0, k1, k2, k3, k4, k5, k6, k7, _⟩ := HS.out wr hbr1
      have HBR := Lib.hid hbr
      have HBR1 := Lib.hid hbr1
      have hszr : W4.heap.size ≤ wr.heap.size := hbr.size
      clear hbr hbr1
      by_cases hvl : v < nvars
      · have hvI : (v : Int) < (nvars : Int) := by omega
        go_wp2_with (go_at_call 44; refine (HAHD.out wr v HBR1.out).mono ?_; rintro e W5 ⟨ba, rfl, hba, hrow, hb5⟩)
        have hr5 : Below W4.heap.size W4 W5 := HBR.out.trans (hb5.mono hszr)
        have hb51 : Below (N + 1) W1 W5 := HB4.out.trans (hr5.mono (by have := HSZ3.out; omega))
        have hr35 : Below W3.heap.size W3 W5 := HB34.out.trans (hr5.mono hsz4)
        obtain ⟨k0, k1, k2, k3, k4, k5, k6, k7, _⟩ := HS.out W5 hb51
        obtain ⟨gT, bT, rfl, hgT, hbT, hcT, hcells⟩ := (HTB4.out.below hr5).read hvl
        have HROW := Lib.hid hrow
        have HCE := Lib.hid hcells
        have HR5 := Lib.hid hr5
        have HR35 := Lib.hid hr35
        have hbal : ba < W5.heap.size := (Array.getElem?_eq_some_iff.1 hrow).1
        clear hrow hb5 hr5 hb51 hr35 hcells
        go_loopw [7] (fun c wr2 => ∃ x : Nat, x ≤ n ∧ c = .int .i64 (x : Int) ∧ Below W5.heap.size W5 wr2) (fun c _ => n - (intOf c).toNat)
        case atStart => exact ⟨0, Nat.zero_le _, rfl, Below.refl _ _⟩
        case round =>
          rename_i wr0 _
          obtain ⟨x, hx, rfl, hb2⟩ := hrel
          have c7 : wr.cell? ⟨N, 7, none⟩ = some (.slice insA n insC) := by rw [hb2.cell (p := ⟨N, 7, none⟩) (by show N < W5.heap.size; have := HSZ3.out; omega)]; exact k7
          by_cases hxl : x < n
          · have c1 : wr.cell? ⟨ba, x, none⟩ = some (.bool (decide (x ∈ TT v))) := by rw [hb2.cell (p := ⟨ba, x, none⟩) hbal, cell_of_row _ _ _ _ _ _ HROW.out]; exact seenCells_get _ hxl
            have c2 : wr.cell? ⟨gT, v, none⟩ = some (.slice (some ⟨bT, 0, none⟩) n n) := by rw [hb2.cell (p := ⟨gT, v, none⟩) hgT]; exact hcT
            have c3 : wr.cell? ⟨bT, x, none⟩ = some (.bool (decide (x ∈ behs ins (TT v) n))) := by rw [hb2.cell (p := ⟨bT, x, none⟩) hbT]; exact HCE.out x hxl
            obtain ⟨h1, h2⟩ := HEQ.out x v hxl hvl
            have hr3 : Below W3.heap.size W3 wr := HR35.out.trans (hb2.mono (by have := HR35.out.size; omega))
            have HA := Lib.hid (HTA.out wr.drew x v hr3.drew hxl hvl)
            have HB := Lib.hid (HTB.out wr.drew x v hr3.drew hxl hvl)
            rw [h1] at HA
            rw [h2] at HB
            obtain ⟨p1, hp1⟩ : ∃ p, decide (x ∈ TT v) = p := ⟨_, rfl⟩
            obtain ⟨p2, hp2⟩ : ∃ p, decide (x ∈ behs ins (TT v) n) = p := ⟨_, rfl⟩
            rw [hp1] at HA c1
            rw [hp2] at HB c3
            have hxI : (x : Int) < (n : Int) := by omega
            have HB2 := Lib.hid hb2
            clear h1 h2 hp1 hp2 hb2 hr3
            cases p1 <;> cases p2 <;> (
              go_wp2_with fail
              go_region_held3 (fun w' => w' = wr.drew) (first | (exact hS) | (exact rfl))
                (first
                  | (go_at_call 45; refine HA.out.mono ?_; rintro e w' ⟨rfl, rfl⟩; have hS : wr.drew = wr.drew := rfl)
                  | (go_at_call 41; refine HB.out.mono ?_; rintro e w' ⟨rfl, rfl⟩; have hS : wr.drew = wr.drew := rfl))
              clear hS
              go_wp2
              exact ⟨⟨x + 1, by omega, by simp, HB2.out.drew⟩, by simp [intOf]; omega⟩)
          · have hxe : x = n := by omega
            subst hxe
            have HB2 := Lib.hid hb2
            clear hb2
            go_wp2
            exact ⟨⟨v + 1, by omega, by simp, HR5.out.trans (HB2.out.mono (by have := HR5.out.size; omega))⟩, by simp [intOf]; omega⟩
      · have hve : v = nvars := by omega
        subst hve
        go_wp2_with (go_at_call 39; refine (alive10_calls _).mono ?_; rintro e w7 ⟨rfl, hb7⟩)
        have HF := Lib.hid (HK.out w7 (HBR1.out.trans (hb7.mono (HK.out wr HBR1.out).2.2))).2.1
        clear hb7
        go_ret
        exact ⟨rfl, by first | exact HF.out | (rw [hN]; exact HF.out)⟩
end Go.Proofs.Ytpbkkajgcdahcaa
