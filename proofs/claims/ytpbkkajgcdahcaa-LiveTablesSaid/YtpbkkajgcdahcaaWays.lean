/- LiveWays, at any code: true. -/
import Derived.Test.YtpbkkajgcdahcaaAlive10
import Derived.Test.YtpbkkajgcdahcaaRBehind
namespace Go.Proofs.Ytpbkkajgcdahcaa
open Go.RowKit

theorem tab_ways {w : World} {T RA RB x v : Nat} {c : Cod} {a b : Nat → Nat → Nat} {i : Ins} (h : TabOk w T RA RB c a b) (hi : c.ins[x]? = some i) (hv : v < c.nvars) :
    bitOf (b x) v = (nextN c.ins x).any (fun y => bitOf (a y) v) ∧ bitOf (a x) v = ((readsOf i).any (fun z => z == (v : Int)) || (bitOf (b x) v && !((writesOf i).2 && ((writesOf i).1 == (v : Int))))) := by
  have hx := (List.getElem?_eq_some_iff.1 hi).1
  constructor
  · rw [Bool.eq_iff_iff, (h.says x v hx hv).1, List.any_eq_true]
    constructor
    · rintro ⟨y, hy, hya⟩
      exact ⟨y, hy, ((h.says y v (nextN_lt hy) hv).2).2 hya⟩
    · rintro ⟨y, hy, hya⟩
      exact ⟨y, hy, ((h.says y v (nextN_lt hy) hv).2).1 hya⟩
  · rw [Bool.eq_iff_iff, (h.says x v hx hv).2, asked_iff hi, Bool.or_eq_true, Bool.and_eq_true, (h.says x v hx hv).1, List.any_eq_true]
    simp only [beq_iff_eq, exists_eq_right, Bool.not_eq_true', Bool.and_eq_false_iff, beq_eq_false_iff_ne]
    refine or_congr Iff.rfl ?_
    rw [and_comm]
    refine and_congr Iff.rfl ?_
    cases (writesOf i).2 <;> simp

set_option maxRecDepth 100000 in
set_option maxHeartbeats 8000000 in
theorem ways_calls (c : Cod) (w : World) (hin : c.inn w) : Calls Try.prog 11 #[.agg c.cells] w fun e w' => e = .returned (.bool true) ∧ Below w.heap.size w w' := by
  have HIN := Lib.hid hin
  obtain ⟨C, hC⟩ : ∃ C, c = C := ⟨_, rfl⟩
  have HC := Lib.hid hC
  clear hin
  obtain ⟨nm, par, varsA, nvars, varsC, rp, rto, rcl, fromA, nfrom, fromC, insA, insC, ins⟩ := c
  simp only [Cod.cells]
  obtain ⟨n, hn⟩ : ∃ n, ins.length = n := ⟨_, rfl⟩
  have HN' := Lib.hid hn
  obtain ⟨N, hN⟩ : ∃ N, w.heap.size = N := ⟨_, rfl⟩
  obtain ⟨W1, hW1⟩ : ∃ W1, w.alloc (.cells #[.string nm, .int .i64 par, .slice varsA nvars varsC, .bool rp, .string rto, .int .i64 rcl, .slice fromA nfrom fromC, .slice insA n insC] 30) = W1 := ⟨_, rfl⟩
  have hb1 : Below N w W1 := by rw [← hW1, ← hN]; exact (Below.refl _ _).alloc (Nat.le_refl _) _
  have hs1 : W1.heap.size = N + 1 := by rw [← hW1]; simp [hN]
  have hrow : W1.heap[N]? = some (.cells #[.string nm, .int .i64 par, .slice varsA nvars varsC, .bool rp, .string rto, .int .i64 rcl, .slice fromA nfrom fromC, .slice insA n insC] 30 (0, 0)) := by
    rw [← hW1, ← hN]; exact alloc_at _ _
  have hin1 := HIN.out.below (by rw [hN]; exact hb1)
  have HS : Hid (∀ W, Below (N + 1) W1 W → W.cell? ⟨N, 0, none⟩ = some (.string nm) ∧ W.cell? ⟨N, 1, none⟩ = some (.int .i64 par) ∧ W.cell? ⟨N, 2, none⟩ = some (.slice varsA nvars varsC) ∧ W.cell? ⟨N, 3, none⟩ = some (.bool rp) ∧ W.cell? ⟨N, 4, none⟩ = some (.string rto) ∧ W.cell? ⟨N, 5, none⟩ = some (.int .i64 rcl) ∧ W.cell? ⟨N, 6, none⟩ = some (.slice fromA nfrom fromC) ∧ W.cell? ⟨N, 7, none⟩ = some (.slice insA n insC) ∧ Below (N + 1) W1 W) := by
    intro W hW
    have h4 := (hW.block N (by omega)).trans hrow
    refine ⟨?_, ?_, ?_, ?_, ?_, ?_, ?_, ?_, hW⟩ <;> (rw [cell_of_row _ _ _ _ _ _ h4]; rfl)
  have HK : Hid (∀ W, Below (N + 1) W1 W → C.inn W ∧ Below N w W ∧ N + 1 ≤ W.heap.size) := by
    intro W hW
    exact ⟨by rw [← hC]; exact hin1.below (by rw [hs1]; exact hW), hb1.trans (hW.mono (by omega)), by have := hW.size; omega⟩
  have hcc : C.cells = #[.string nm, .int .i64 par, .slice varsA nvars varsC, .bool rp, .string rto, .int .i64 rcl, .slice fromA nfrom fromC, .slice insA n insC] := by rw [← hC, ← hn]; rfl
  have HLI : Hid (∀ W, Below (N + 1) W1 W → Calls Try.prog 42 #[.agg #[.string nm, .int .i64 par, .slice varsA nvars varsC, .bool rp, .string rto, .int .i64 rcl, .slice fromA nfrom fromC, .slice insA n insC]] W (SaysIf W W.heap.size C.fit)) := by
    intro W hb; rw [← hcc]; exact light10_calls C W (HK.out W hb).1
  have HOF : Hid (∀ W, Below (N + 1) W1 W → C.fit → Calls Try.prog 40 #[.agg #[.string nm, .int .i64 par, .slice varsA nvars varsC, .bool rp, .string rto, .int .i64 rcl, .slice fromA nfrom fromC, .slice insA n insC]] W (TabMade C W)) := by
    intro W hb hf; rw [← hcc]; exact liveOf_calls C W (HK.out W hb).1 hf
  have HNX : Hid (∀ W x, Below (N + 1) W1 W → x < n → n ≤ 90000 → Calls Try.prog 19 #[.agg #[.string nm, .int .i64 par, .slice varsA nvars varsC, .bool rp, .string rto, .int .i64 rcl, .slice fromA nfrom fromC, .slice insA n insC], .int .i64 (x : Int)] W (GivesI W (ints (nextN ins x)))) := by
    intro W x hb hx h9
    have h1 := (HK.out W hb).1.row
    have h2 := ref08_nextN C x W h1 (by rw [← hC]; show x < ins.length; omega) (by rw [← hC]; show ins.length ≤ 90000; omega)
    rw [hcc] at h2
    rw [show C.ins = ins by rw [← hC]] at h2
    exact h2
  have HW1 := Lib.hid hW1
  have HS1 := Lib.hid hs1
  have hsl : N + 1 ≤ W1.heap.size := by omega
  obtain ⟨k0, k1, k2, k3, k4, k5, k6, k7, _⟩ := HS.out W1 (Below.refl _ _)
  rw [hn]
  clear hb1 hs1 hrow hin1 hW1 HIN hC hcc hn
  go_enter Try.func11, Try.ntmps11
  go_wp2_with fail
  go_at_call 42
  rw [HW1.out]
  refine (HLI.out W1 (Below.refl _ _)).mono ?_
  rintro e w2 ⟨fb, rfl, hfb, hbw⟩
  have HFB := Lib.hid hfb
  have hb2 : Below (N + 1) W1 w2 := by rw [HS1.out] at hbw; exact hbw
  have HB2 := Lib.hid hb2
  obtain ⟨k0, k1, k2, k3, k4, k5, k6, k7, _⟩ := HS.out w2 hb2
  clear hfb hbw hb2
  cases fb with
  | false =>
    go_wp2_with fail
    go_at_call 39
    refine (alive10_calls _).mono ?_
    rintro e w3 ⟨rfl, hb3⟩
    have HF := Lib.hid (HK.out w3 (HB2.out.trans (hb3.mono (HK.out w2 HB2.out).2.2))).2.1
    clear hb3
    go_wp2
    go_ret
    exact ⟨rfl, by first | exact HF.out | (rw [hN]; exact HF.out)⟩
  | true =>
    have HFIT : Hid C.fit := HFB.out rfl
    have hn150 : n ≤ 150 := by have := HFIT.out.1.1; rw [← HC.out] at this; have h := HN'.out; simp only at this; omega
    have hnv80 : nvars ≤ 80 := by have := HFIT.out.2.1; rw [← HC.out] at this; exact this
    have HARGS : Hid (∀ i ∈ ins, i.args.length ≤ 40) := by have := HFIT.out.1.2.2.2.2.2; rw [← HC.out] at this; exact fun i hi => (this i hi).1
    go_wp2_with fail
    go_at_call 40
    refine (HOF.out w2 HB2.out HFIT.out).mono ?_
    rintro e W3 ⟨T, RA, RB, a, b, rfl, hT, hok, hb3⟩
    have hsz2 := (HK.out w2 HB2.out).2.2
    have HB3 : Hid (Below (N + 1) W1 W3) := HB2.out.trans (hb3.mono hsz2)
    have HOK : Hid (∀ W, Below W3.heap.size W3 W → TabOk W T RA RB C a b) := fun W h => hok.below h
    have HSZ3 : Hid (N + 1 ≤ W3.heap.size) := (HK.out W3 HB3.out).2.2
    have HB3W : Hid (∀ W, Below W3.heap.size W3 W → Below (N + 1) W1 W) := fun W h => HB3.out.trans (h.mono HSZ3.out)
    have HWY : Hid (∀ x v i, ins[x]? = some i → v < nvars → bitOf (b x) v = (nextN ins x).any (fun y => bitOf (a y) v) ∧ bitOf (a x) v = ((readsOf i).any (fun z => z == (v : Int)) || (bitOf (b x) v && !((writesOf i).2 && ((writesOf i).1 == (v : Int)))))) := by
      intro x v i hi hv
      have hci : C.ins = ins := by rw [← HC.out]
      have := tab_ways hok (x := x) (v := v) (by rw [hci]; exact hi) (by rw [← HC.out]; exact hv)
      rw [hci] at this
      exact this
    have HTA : Hid (∀ W x v, Below W3.heap.size W3 W → x < n → v < nvars → Calls Try.prog 45 #[.pointer (some ⟨T, 0, none⟩), .int .i64 (x : Int), .int .i64 (v : Int)] W fun e w' => e = .returned (.bool (bitOf (a x) v)) ∧ W = w') := by
      intro W x v h hx hv
      have h1 : C.ins.length = n := by rw [← HC.out]; exact HN'.out
      have h2 : C.nvars = nvars := by rw [← HC.out]
      exact ahead_calls W T RA RB C a b x v (HOK.out W h) (by omega) (by omega) (by omega) (by omega)
    have HTB : Hid (∀ W x v, Below W3.heap.size W3 W → x < n → v < nvars → Calls Try.prog 41 #[.pointer (some ⟨T, 0, none⟩), .int .i64 (x : Int), .int .i64 (v : Int)] W fun e w' => e = .returned (.bool (bitOf (b x) v)) ∧ W = w') := by
      intro W x v h hx hv
      have h1 : C.ins.length = n := by rw [← HC.out]; exact HN'.out
      have h2 : C.nvars = nvars := by rw [← HC.out]
      exact tbehind_calls W T RA RB C a b x v (HOK.out W h) (by omega) (by omega) (by omega) (by omega)
    clear hT hok hb3 k0 k1 k2 k3 k4 k5 k6 k7
    go_wp2_with fail
    go_loopw [4] (fun c wr => ∃ j : Nat, j ≤ n ∧ c = .int .i64 (j : Int) ∧ Below W3.heap.size W3 wr) (fun c _ => n - (intOf c).toNat)
    case atStart => exact ⟨0, Nat.zero_le _, rfl, Below.refl _ _⟩
    case round =>
      obtain ⟨j, hj, rfl, hbr⟩ := hrel
      obtain ⟨k0, k1, k2, k3, k4, k5, k6, k7, _⟩ := HS.out wr (HB3W.out wr hbr)
      have HBR := Lib.hid hbr
      have hszr : W3.heap.size ≤ wr.heap.size := hbr.size
      clear hbr
      by_cases hjl : j < n
      · obtain ⟨i, hi⟩ : ∃ i, ins[j]? = some i := ⟨_, List.getElem?_eq_getElem (by have := HN'.out; omega)⟩
        have HI := Lib.hid hi
        have hinr := (HK.out wr (HB3W.out wr HBR.out)).1
        have hinr2 : Cod.inn wr ⟨nm, par, varsA, nvars, varsC, rp, rto, rcl, fromA, nfrom, fromC, insA, insC, ins⟩ := by rw [HC.out]; exact hinr
        have hai := hinr2.args i (List.mem_of_getElem? hi)
        have hl40 := HARGS.out i (List.mem_of_getElem? hi)
        obtain ⟨b0, off, rfl, hb0, hcell⟩ := hinr2.row (by intro e; simp only at e; rw [e] at hi; simp at hi)
        have HCA : Hid (∀ W, Below wr.heap.size wr W → ∀ q u, i.cells.toList[q]? = some u → W.cell? ((⟨b0, off + j * 13, none⟩ : Addr).add q) = some u) := fun W hW q u hu => by
          rw [Addr.add_lit, hW.cell (p := ⟨b0, _, none⟩) hb0]; exact hcell j i hi q u hu
        have HAI : Hid (∀ W, Below wr.heap.size wr W → i.args_in W) := fun W hW => hai.below hW
        have HNJ := Lib.hid (HNX.out wr j (HB3W.out wr HBR.out) hjl (by omega))
        have hjI : (j : Int) < (n : Int) := by omega
        clear hinr hinr2 hai hcell hi
        obtain ⟨L, hL⟩ : ∃ L, nextN ins j = L := ⟨_, rfl⟩
        have HL := Lib.hid hL
        rw [hL] at HNJ
        have hLn : ∀ y ∈ L, y < n := fun y hy => by rw [← HL.out] at hy; have := nextN_lt hy; have := HN'.out; omega
        have HLN := Lib.hid hLn
        have hLl : L.length ≤ 2 := by rw [← hL]; exact nextN_length ins j
        have hil : (ints L).length = L.length := by simp [ints]
        have HNJ2 : Hid (Calls Try.prog 19 #[.agg #[.string nm, .int .i64 par, .slice varsA nvars varsC, .bool rp, .string rto, .int .i64 rcl, .slice fromA nfrom fromC, .slice (some ⟨b0, off, none⟩) n insC], .int .i64 (j : Int)] wr fun e w' => ∃ ao cap, e = .returned (.slice ao L.length cap) ∧ OwnI w' wr.heap.size (.slice ao L.length cap) (ints L) ∧ Below wr.heap.size wr w') := by
          unfold GivesI at HNJ; rw [hil] at HNJ; exact HNJ
        clear hL hLn hil HNJ
        go_upto_region 8 with (go_at_call 19; refine HNJ2.out.mono ?_; rintro e w4 ⟨ao4, cap4, rfl, hown4, hb4⟩)
        have hr4 : Below W3.heap.size W3 w4 := HBR.out.trans (hb4.mono hszr)
        obtain ⟨k0, k1, k2, k3, k4, k5, k6, k7, _⟩ := HS.out w4 (HB3W.out w4 hr4)
        have HB4 := Lib.hid hb4
        have HR4 := Lib.hid hr4
        have HOWN4 := Lib.hid hown4
        have HCA4 := Lib.hid (HCA.out w4 hb4)
        have HRD := Lib.hid (refReads_calls i w4 (HAI.out w4 hb4) hl40)
        have hs4 : wr.heap.size ≤ w4.heap.size := hb4.size
        clear hb4 hr4 hown4
        go_upto_region 9 with (first | (refine wpList_load_at rfl 61 _ rfl ⟨b0, off + j * 13, none⟩ rfl i.cells _ HCA4.out Try.underlying61 rfl (by kernel_rfl) ?_) | (go_at_call 46; refine HRD.out.mono ?_; rintro e w5 ⟨ao5, cap5, rfl, hown5, hb5⟩))
        have hb45 : Below wr.heap.size wr w5 := HB4.out.trans (hb5.mono hs4)
        have hr5 : Below W3.heap.size W3 w5 := HBR.out.trans (hb45.mono hszr)
        obtain ⟨k0, k1, k2, k3, k4, k5, k6, k7, _⟩ := HS.out w5 (HB3W.out w5 hr5)
        have HOWN5 := Lib.hid hown5
        have HCA5 := Lib.hid (HCA.out w5 hb45)
        have HWR := Lib.hid (refWrites_calls i w5 (HAI.out w5 hb45).1)
        have hs5 : w4.heap.size ≤ w5.heap.size := hb5.size
        have HOWN45 : Hid (OwnI w5 wr.heap.size (.slice ao4 L.length cap4) (ints L)) := ownsRow_below HOWN4.out hb5
        have HB45 := Lib.hid hb45
        clear hb45 hr5 hown5 hb5
        obtain ⟨wd, hwd⟩ : ∃ wd, writesOf i = wd := ⟨_, rfl⟩
        rw [hwd] at HWR
        have HWD := Lib.hid hwd
        clear hwd
        obtain ⟨dv, wb⟩ := wd
        simp only at HWR
        go_upto_region 10 with (first | (refine wpList_load_at rfl 61 _ rfl ⟨b0, off + j * 13, none⟩ rfl i.cells _ HCA5.out Try.underlying61 rfl (by kernel_rfl) ?_) | (go_at_call 47; refine HWR.out.mono ?_; rintro e w6 ⟨rfl, hb6⟩))
        have hb6' : Below wr.heap.size wr w6 := HB45.out.trans (hb6.mono (by omega))
        have hr6 : Below W3.heap.size W3 w6 := HBR.out.trans (hb6'.mono hszr)
        obtain ⟨k0, k1, k2, k3, k4, k5, k6, k7, _⟩ := HS.out w6 (HB3W.out w6 hr6)
        have HL6 : Hid (OwnI w6 wr.heap.size (.slice ao4 L.length cap4) (ints L)) := ownsRow_below HOWN45.out hb6
        have HR6L : Hid (OwnI w6 w4.heap.size (.slice ao5 (readsOf i).length cap5) (readsOf i)) := ownsRow_below HOWN5.out hb6
        have HR6 := Lib.hid hr6
        have hrl : (readsOf i).length ≤ 42 := readsOf_len i hl40
        clear hb6 hb6' hr6 HOWN4 HOWN45 HOWN5 HB4 HB45 HCA4 HCA5 HCA HRD HWR HAI HR4
        go_wp2_with fail
        go_loop [9] (fun c => ∃ v : Nat, v ≤ nvars ∧ c = .int .i64 (v : Int)) (fun c => nvars - (intOf c).toNat)
        case atStart => exact ⟨0, Nat.zero_le _, rfl⟩
        case round =>
          obtain ⟨v, hv, rfl⟩ := hrel
          by_cases hvl : v < nvars
          · have hvI : (v : Int) < (nvars : Int) := by omega
            go_wp2_with fail
            go_loop [10, 11] (fun s q => ∃ q' : Nat, q' ≤ L.length ∧ q = .int .i64 (q' : Int) ∧ s = .bool ((L.take q').any (fun y => bitOf (a y) v))) (fun _ q => L.length - (intOf q).toNat)
            case atStart => exact ⟨0, Nat.zero_le _, rfl, by simp⟩
            case round =>
              obtain ⟨q, hq, rfl, rfl⟩ := hrel
              by_cases hql : q < L.length
              · obtain ⟨y, hy⟩ : ∃ y, L[q]? = some y := ⟨_, List.getElem?_eq_getElem hql⟩
                have hil : (ints L).length = L.length := by simp [ints]
                have hol : OwnI w6 wr.heap.size (.slice ao4 (ints L).length cap4) (ints L) := by rw [hil]; exact HL6.out
                obtain ⟨g2, rfl, _, _, hgc⟩ := hol.shape (by omega)
                have hcy : w6.cell? ⟨g2, q, none⟩ = some (.int .i64 (y : Int)) := hgc q y (by simp [ints, hy])
                have hqI : (q : Int) < (L.length : Int) := by omega
                have HTY := Lib.hid (HTA.out w6 y v HR6.out (HLN.out y (List.mem_of_getElem? hy)) hvl)
                have han := any_take L (fun y => bitOf (a y) v) hy
                clear hgc hol hil hy
                obtain ⟨s0, hs0⟩ : ∃ s0, (L.take q).any (fun y => bitOf (a y) v) = s0 := ⟨_, rfl⟩
                rw [hs0] at han ⊢
                have HAN := Lib.hid han
                clear han hs0
                cases s0 with
                | true =>
                  go_wp2
                  go_round
                  case rel => exact ⟨q + 1, by omega, by go_num, by rw [HAN.out]; rfl⟩
                  case measure => simp [intOf]; omega
                | false =>
                  go_wp2_with (go_at_call 45; refine HTY.out.mono ?_; rintro e w' ⟨rfl, rfl⟩)
                  go_round
                  case rel => exact ⟨q + 1, by omega, by go_num, by rw [HAN.out]; rfl⟩
                  case measure => simp [intOf]; omega
              · have hqe : q = L.length := by omega
                subst hqe
                rw [List.take_length]
                go_wp2_with fail
                go_loop [12, 13] (fun s q => ∃ q' : Nat, q' ≤ (readsOf i).length ∧ q = .int .i64 (q' : Int) ∧ s = .bool (((readsOf i).take q').any (fun z => z == (v : Int)))) (fun _ q => (readsOf i).length - (intOf q).toNat)
                case atStart => exact ⟨0, Nat.zero_le _, rfl, by simp⟩
                case round =>
                  obtain ⟨q, hq2, rfl, rfl⟩ := hrel
                  by_cases hql2 : q < (readsOf i).length
                  · obtain ⟨z, hz⟩ : ∃ z, (readsOf i)[q]? = some z := ⟨_, List.getElem?_eq_getElem hql2⟩
                    obtain ⟨g2, rfl, _, _, hgc⟩ := HR6L.out.shape (by omega)
                    have hcz : w6.cell? ⟨g2, q, none⟩ = some (.int .i64 z) := hgc q z hz
                    have hqI : (q : Int) < ((readsOf i).length : Int) := by omega
                    have han := any_take (readsOf i) (fun z => z == (v : Int)) hz
                    clear hgc hz
                    obtain ⟨s0, hs0⟩ : ∃ s0, ((readsOf i).take q).any (fun z => z == (v : Int)) = s0 := ⟨_, rfl⟩
                    rw [hs0] at han ⊢
                    have HAN := Lib.hid han
                    clear han hs0
                    cases s0 with
                    | true =>
                      go_wp2
                      go_round
                      case rel => exact ⟨q + 1, by omega, by go_num, by rw [HAN.out]; rfl⟩
                      case measure => simp [intOf]; omega
                    | false =>
                      go_wp2
                      go_round
                      case rel => exact ⟨q + 1, by omega, by go_num, by rw [HAN.out]; rfl⟩
                      case measure => simp [intOf]; omega
                  · have hqe : q = (readsOf i).length := by omega
                    subst hqe
                    rw [List.take_length]
                    obtain ⟨hB, hA⟩ := HWY.out j v i HI.out hvl
                    rw [HL.out] at hB
                    rw [HWD.out] at hA
                    have HTBj := HTB.out w6 j v HR6.out hjl hvl
                    have HTAj := HTA.out w6 j v HR6.out hjl hvl
                    rw [hA] at HTAj
                    rw [← hB]
                    obtain ⟨rB, hrB⟩ : ∃ rB, (readsOf i).any (fun z => z == (v : Int)) = rB := ⟨_, rfl⟩
                    obtain ⟨B, hBB⟩ : ∃ B, bitOf (b j) v = B := ⟨_, rfl⟩
                    obtain ⟨E, hE⟩ : ∃ E, (dv == (v : Int)) = E := ⟨_, rfl⟩
                    rw [hrB, hBB, hE] at HTAj
                    rw [hBB] at HTBj
                    rw [hrB, hBB]
                    clear hB hA hrB hBB hq2 hql2 hq hql
                    have HTB2 := Lib.hid HTBj
                    have HTA2 := Lib.hid HTAj
                    clear HTBj HTAj HWD
                    cases B <;> cases rB <;> cases wb <;> cases E <;> (
                      simp only [Bool.true_or, Bool.false_or, Bool.and_true, Bool.and_false, Bool.true_and, Bool.false_and, Bool.not_true, Bool.not_false, Bool.or_true, Bool.or_false] at HTA2
                      go_wp2_with (first | (go_at_call 41; refine HTB2.out.mono ?_; rintro e w' ⟨rfl, rfl⟩) | (go_at_call 45; refine HTA2.out.mono ?_; rintro e w' ⟨rfl, rfl⟩))
                      go_round
                      case rel => exact ⟨v + 1, by omega, by go_num⟩
                      case measure => simp [intOf]; omega)
          · have hve : v = nvars := by omega
            subst hve
            go_wp2
            go_roundw
            case rel => exact ⟨j + 1, by omega, by go_num, HR6.out⟩
            case measure => simp [intOf]; omega
      · have hje : j = n := by omega
        subst hje
        go_wp2_with fail
        go_at_call 39
        refine (alive10_calls _).mono ?_
        rintro e w7 ⟨rfl, hb7⟩
        have HF := Lib.hid (HK.out w7 (HB3W.out w7 (HBR.out.trans (hb7.mono hszr)))).2.1
        clear hb7
        go_wp2
        go_ret
        exact ⟨rfl, by first | exact HF.out | (rw [hN]; exact HF.out)⟩
end Go.Proofs.Ytpbkkajgcdahcaa
