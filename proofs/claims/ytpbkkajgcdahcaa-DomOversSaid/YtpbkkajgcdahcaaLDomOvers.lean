/- DomOvers, at any code: true. -/
import Derived.Test.YtpbkkajgcdahcaaLDomPaths
import Derived.Test.YtpbkkajgcdahcaaOver9
import Derived.Test.YtpbkkajgcdahcaaNumbers
import Derived.Deep.DeepCutAuto
namespace Go.Proofs.Ytpbkkajgcdahcaa
open Go.RowKit

set_option maxRecDepth 100000 in
set_option maxHeartbeats 4000000 in
theorem domOvers_calls (c : Cod) (w : World) (hin : c.inn w) : Calls Try.prog 6 #[.agg c.cells] w (YesD w) := by
  obtain ⟨C, hC⟩ : ∃ C, c = C := ⟨_, rfl⟩
  have HC := Lib.hid hC
  have HIN := Lib.hid hin
  clear hin
  obtain ⟨nm, par, varsA, nvars, varsC, rp, rto, rcl, fromA, nfrom, fromC, insA, insC, ins⟩ := c
  simp only [Cod.cells]
  obtain ⟨n, hn⟩ : ∃ n, ins.length = n := ⟨_, rfl⟩
  have HN' := Lib.hid hn
  obtain ⟨N, hN⟩ : ∃ N, w.heap.size = N := ⟨_, rfl⟩
  obtain ⟨W1, hW1⟩ : ∃ W1, w.alloc (.cells #[.string nm, .int .i64 par, .slice varsA nvars varsC, .bool rp, .string rto, .int .i64 rcl, .slice fromA nfrom fromC, .slice insA n insC] 30) = W1 := ⟨_, rfl⟩
  have hb1 : Below N w W1 := by rw [← hW1, ← hN]; exact (Below.refl _ _).alloc (Nat.le_refl _) _
  have hs1 : W1.heap.size = N + 1 := by rw [← hW1]; simp [hN]
  have hrow : W1.heap[N]? = some (.cells #[.string nm, .int .i64 par, .slice varsA nvars varsC, .bool rp, .string rto, .int .i64 rcl, .slice fromA nfrom fromC, .slice insA n insC] 30 (0, 0)) := by
    rw [← hW1, ← hN]; exact alloc_at _ _
  have hin1 := HIN.out.below (by rw [hN]; exact hb1)
  have hcc : C.cells = #[.string nm, .int .i64 par, .slice varsA nvars varsC, .bool rp, .string rto, .int .i64 rcl, .slice fromA nfrom fromC, .slice insA n insC] := by rw [← hC, ← hn]; rfl
  have HS : Hid (∀ W, Below (N + 1) W1 W → W.cell? ⟨N, 0, none⟩ = some (.string nm) ∧ W.cell? ⟨N, 1, none⟩ = some (.int .i64 par) ∧ W.cell? ⟨N, 2, none⟩ = some (.slice varsA nvars varsC) ∧ W.cell? ⟨N, 3, none⟩ = some (.bool rp) ∧ W.cell? ⟨N, 4, none⟩ = some (.string rto) ∧ W.cell? ⟨N, 5, none⟩ = some (.int .i64 rcl) ∧ W.cell? ⟨N, 6, none⟩ = some (.slice fromA nfrom fromC) ∧ W.cell? ⟨N, 7, none⟩ = some (.slice insA n insC) ∧ Below (N + 1) W1 W) := by
    intro W hW
    have h4 := (hW.block N (by omega)).trans hrow
    refine ⟨?_, ?_, ?_, ?_, ?_, ?_, ?_, ?_, hW⟩ <;> (rw [cell_of_row _ _ _ _ _ _ h4]; rfl)
  have HK : Hid (∀ W, Below (N + 1) W1 W → C.inn W ∧ Below N w W ∧ N + 1 ≤ W.heap.size) := by
    intro W hW
    exact ⟨by rw [← hC]; exact hin1.below (by rw [hs1]; exact hW), hb1.trans (hW.mono (by omega)), by have := hW.size; omega⟩
  have HLI : Hid (∀ W, Below (N + 1) W1 W → Calls Try.prog 28 #[.agg #[.string nm, .int .i64 par, .slice varsA nvars varsC, .bool rp, .string rto, .int .i64 rcl, .slice fromA nfrom fromC, .slice insA n insC]] W (SaysIf W W.heap.size C.fit9)) := by
    intro W hb; rw [← hcc]; exact light9_calls C W (HK.out W hb).1
  have HOF : Hid (∀ W, Below (N + 1) W1 W → C.fit9 → Calls Try.prog 30 #[.agg #[.string nm, .int .i64 par, .slice varsA nvars varsC, .bool rp, .string rto, .int .i64 rcl, .slice fromA nfrom fromC, .slice insA n insC]] W (DomMade C W)) := by
    intro W hb hf; rw [← hcc]; exact domOf_calls C W (HK.out W hb).1 hf.1
  have HEND : Hid (∀ W, Below (N + 1) W1 W → YesD w (.returned (.bool true)) W) := fun W hb => ⟨rfl, by rw [hN]; exact (HK.out W hb).2.1⟩
  have HW1 := Lib.hid hW1
  have hsl : N + 1 ≤ W1.heap.size := by omega
  obtain ⟨k0, k1, k2, k3, k4, k5, k6, k7, _⟩ := HS.out W1 (Below.refl _ _)
  clear hb1 hs1 hrow hin1 hW1 HIN hC hcc
  rw [hn]
  clear hn
  go_enter Try.func6, Try.ntmps6
  go_upto_region 1 with (fail)
  rw [HW1.out]
  go_wp2_with fail
  go_at_call 28
  refine (HLI.out W1 (Below.refl _ _)).mono ?_
  rintro e w3 ⟨fb, rfl, hfb, hb3⟩
  have hb3' : Below (N + 1) W1 w3 := hb3.mono hsl
  clear k0 k1 k2 k3 k4 k5 k6 k7
  have HFB := Lib.hid hfb
  have HB3 := Lib.hid hb3'
  clear hfb hb3 hb3'
  cases fb with
  | false =>
    go_wp2_with fail
    go_at_call 29
    refine (alive9_calls _).mono ?_
    rintro e w4 ⟨rfl, hb4⟩
    have HB4 := Lib.hid (HB3.out.trans (hb4.mono (HK.out w3 HB3.out).2.2))
    clear hb4
    go_wp2
    go_ret
    exact HEND.out w4 HB4.out
  | true =>
    have HFIT : Hid C.fit9 := HFB.out rfl
    obtain ⟨k0, k1, k2, k3, k4, k5, k6, k7, _⟩ := HS.out w3 HB3.out
    go_wp2_with fail
    go_at_call 30
    refine (HOF.out w3 HB3.out HFIT.out).mono ?_
    rintro e W4 ⟨T, O, PL, R, H, o, q, rfl, hT, htree, hdt, hrows, hb4⟩
    have hb4' : Below (N + 1) W1 W4 := HB3.out.trans (hb4.mono (HK.out w3 HB3.out).2.2)
    have hci : C.ins.length = n := by rw [← HC.out]; exact HN'.out
    have hn60 : n ≤ 60 := by rw [← hci]; exact HFIT.out.1
    have hci' : C.ins = ins := by rw [← HC.out]
    rw [hci] at htree
    rw [hci'] at hdt
    have hord : Ord n q := by rw [← HN'.out]; exact hdt.ord.ord
    have HT : Hid (∀ W, Below W4.heap.size W4 W → TreeI W T O PL R n o q) := fun W hb => htree.below hb
    have HQ := Lib.hid hord
    have HD := Lib.hid hdt
    have HB4 := Lib.hid hb4'
    have h4 := (HK.out W4 hb4').2.2
    have HTA : Hid (Calls Try.prog 31 #[.agg #[.string nm, .int .i64 par, .slice varsA nvars varsC, .bool rp, .string rto, .int .i64 rcl, .slice fromA nfrom fromC, .slice insA n insC]] W4 (Tab9P ins q W4)) := by
      have h := table9_calls C W4 (HK.out W4 hb4').1 (by omega) q (by rw [hci']; exact hdt.ord)
      have hcc : C.cells = #[.string nm, .int .i64 par, .slice varsA nvars varsC, .bool rp, .string rto, .int .i64 rcl, .slice fromA nfrom fromC, .slice insA n insC] := by rw [← HC.out, ← HN'.out]; rfl
      rw [hcc, hci'] at h
      exact h
    clear k0 k1 k2 k3 k4 k5 k6 k7 hT htree hdt hrows hb4 hb4' hord
    obtain ⟨k0, k1, k2, k3, k4, k5, k6, k7, _⟩ := HS.out W4 HB4.out
    go_wp2_with fail
    go_at_call 31
    refine HTA.out.mono ?_
    rintro e W5 ⟨R9, bs, f, rfl, hR9, htj, hfs, hb5⟩
    have hft : FT n o q f := by rw [← HN'.out]; exact FT.of HD.out hfs
    rw [HN'.out] at htj ⊢
    have HTJ : Hid (∀ W, Below W5.heap.size W5 W → TabJ W R9 n n bs f) := fun W hb => htj.below hb
    have HFT := Lib.hid hft
    have HB5 := Lib.hid hb5
    have h45 := hb5.size
    clear hR9 htj hfs hft hb5 k0 k1 k2 k3 k4 k5 k6 k7
    have HOV : Hid (∀ W, Below W5.heap.size W5 W → ∀ a : Int, Calls Try.prog 33 #[.pointer (some ⟨T, 0, none⟩), .int .i64 a] W (OverP o q a W)) := fun W hb a => over_calls W (HT.out W (HB5.out.trans (hb.mono h45))) HQ.out (by omega) a
    have HO9 : Hid (∀ W, Below W5.heap.size W5 W → ∀ a : Int, Calls Try.prog 34 #[.slice (some ⟨R9, 0, none⟩) n n, .int .i64 a] W (OverP o q a W)) := fun W hb a => over9_calls W R9 bs f (HTJ.out W hb) HFT.out HQ.out HD.out.tr (by omega) a
    have HDO : Hid (∀ W, Below W5.heap.size W5 W → ∀ a b : Int, Calls Try.prog 38 #[.pointer (some ⟨T, 0, none⟩), .int .i64 a, .int .i64 b] W (DomsP o q a b W)) := fun W hb a b => dominates_calls W (HT.out W (HB5.out.trans (hb.mono h45))) HQ.out HD.out.tr HD.out.all (by omega) a b
    have HDE : Hid (∀ W, Below W5.heap.size W5 W → ∀ (a : Int) (l' : List Nat), PathOf o q a l' → Calls Try.prog 35 #[.pointer (some ⟨T, 0, none⟩), .int .i64 a] W (DepthP W l')) := fun W hb a l' hp => depth_calls W (HT.out W (HB5.out.trans (hb.mono h45))) HQ.out HD.out.tr (by omega) a l' hp
    have HPA : Hid (∀ W, Below W5.heap.size W5 W → ∀ (a : Int) (l' : List Nat), PathOf o q a l' → Calls Try.prog 37 #[.pointer (some ⟨T, 0, none⟩), .int .i64 a] W (GivesL' W l')) := fun W hb a l' hp => path_calls W (HT.out W (HB5.out.trans (hb.mono h45))) HQ.out HD.out.tr (by omega) a l' hp
    have HP9 : Hid (∀ W, Below W5.heap.size W5 W → ∀ (a : Int) (l' : List Nat), PathOf o q a l' → Calls Try.prog 32 #[.slice (some ⟨R9, 0, none⟩) n n, .int .i64 a] W (GivesL' W l')) := fun W hb a l' hp => path9_calls W R9 bs f (HTJ.out W hb) HFT.out HQ.out HD.out.tr (by omega) a l' hp
    have HNU : Hid (∀ (W' : World) (l : List Nat) (p1 p2 c1 c2 : Nat) (ao1 ao2 : Option Addr), l.length ≤ 60 → OwnI W' p1 (.slice ao1 l.length c1) (ints l) → OwnI W' p2 (.slice ao2 l.length c2) (ints l) → Calls Try.prog 36 #[.slice ao1 l.length c1, .slice ao2 l.length c2] W' fun e w' => e = .returned (.bool true) ∧ ∃ m, w' = W'.drewN m) := by
      intro W' l p1 p2 c1 c2 ao1 ao2 hl o1 o2
      have hlen : (ints l).length = l.length := by simp [ints]
      have h := numbers_quiet W' p1 p2 c1 c2 ao1 ao2 (ints l) (by omega) (by rw [hlen]; exact o1) (by rw [hlen]; exact o2)
      rw [hlen] at h
      exact h
    go_wp2_with fail
    go_loopw [5] (fun c wr => ∃ z : Nat, z ≤ n + 2 ∧ c = .int .i64 ((z : Int) - 1) ∧ Below W5.heap.size W5 wr) (fun c _ => n + 2 - (intOf c + 1).toNat)
    case atStart => exact ⟨0, by omega, rfl, Below.refl _ _⟩
    case round =>
      obtain ⟨z, hz, rfl, hbr⟩ := hrel
      obtain ⟨a, ha⟩ : ∃ a : Int, (z : Int) - 1 = a := ⟨_, rfl⟩
      rw [ha]
      have HBR := Lib.hid hbr
      clear hbr
      by_cases hzn : z < n + 2
      · have haI : decide (a ≤ (n : Int)) = true := decide_eq_true (by omega)
        have hwa : IntKind.i64.wrap (a + 1) = a + 1 := by rw [IntKind.wrap_i64]; omega
        obtain ⟨l, hl⟩ := PathOf.exists HD.out.tr a
        have hll := hl.len HQ.out HD.out.tr
        have HL := Lib.hid hl
        have HA := Lib.hid ha
        clear hl ha
        go_wp2_with fail
        go_at_call 32
        refine (HP9.out wr HBR.out a l HL.out).mono ?_
        rintro e w6 ⟨ao6, cap6, rfl, hown6, hb6⟩
        have hb56 := HBR.out.trans (hb6.mono HBR.out.size)
        have HO6 := Lib.hid hown6
        have HB6 := Lib.hid hb56
        clear hown6 hb6 hb56
        go_wp2_with fail
        go_at_call 33
        refine (HOV.out w6 HB6.out a).mono ?_
        rintro e wx ⟨rfl, hwx⟩
        rw [hwx]
        clear hwx
        go_wp2_with fail
        go_at_call 34
        refine (HO9.out w6 HB6.out a).mono ?_
        rintro e wx ⟨rfl, hwx⟩
        rw [hwx]
        clear hwx
        go_wp2_with fail
        go_at_call 35
        refine (HDE.out w6 HB6.out a l HL.out).mono ?_
        rintro e w7 ⟨rfl, hb7⟩
        have HB7 := Lib.hid (HB6.out.trans (hb7.mono HB6.out.size))
        have HO7 := Lib.hid (ownsRow_below HO6.out hb7)
        clear hb7
        go_wp2_with fail
        go_at_call 37
        refine (HPA.out w7 HB7.out a l HL.out).mono ?_
        rintro e w8 ⟨ao8, cap8, rfl, hown8, hb8⟩
        have HB8 := Lib.hid (HB7.out.trans (hb8.mono HB7.out.size))
        have HO8 := Lib.hid (ownsRow_below HO7.out hb8)
        have HO88 := Lib.hid hown8
        clear hb8 hown8
        go_wp2_with fail
        go_at_call 36
        refine (HNU.out w8 l _ _ _ _ _ _ (by omega) HO88.out HO8.out).mono ?_
        rintro e w9 ⟨rfl, m9, rfl⟩
        have HB9 := Lib.hid (below_drewN HB8.out m9)
        go_wp2_with fail
        go_loopw [7] (fun c wr2 => ∃ y : Nat, y ≤ n + 2 ∧ c = .int .i64 ((y : Int) - 1) ∧ Below W5.heap.size W5 wr2) (fun c _ => n + 2 - (intOf c + 1).toNat)
        case atStart => exact ⟨0, by omega, rfl, HB9.out⟩
        case round =>
          obtain ⟨y, hy, rfl, hbr⟩ := hrel
          obtain ⟨b, hb⟩ : ∃ b : Int, (y : Int) - 1 = b := ⟨_, rfl⟩
          rw [hb]
          have HBJ := Lib.hid hbr
          clear hbr
          by_cases hyn : y < n + 2
          · have hbI : decide (b ≤ (n : Int)) = true := decide_eq_true (by omega)
            have hwb : IntKind.i64.wrap (b + 1) = b + 1 := by rw [IntKind.wrap_i64]; omega
            have HB := Lib.hid hb
            clear hb
            go_upto_region 14 with (fail)
            obtain ⟨qq, hqq⟩ : ∃ qq, decide (0 ≤ a ∧ a < (n : Int) ∧ 0 ≤ b ∧ b < (n : Int)) = qq := ⟨_, rfl⟩
            have HQQ := Lib.hid hqq
            clear hqq
            rename_i wrb _
            go_cut [8] from 55 to 73 (fun s8 wx => s8 = .bool qq ∧ Below W5.heap.size W5 wx)
            case first =>
              by_cases a1 : 0 ≤ a
              · by_cases a2 : a < (n : Int)
                · by_cases a3 : 0 ≤ b
                  · by_cases a4 : b < (n : Int)
                    · have HC : Hid (0 ≤ a ∧ a < (n : Int) ∧ 0 ≤ b ∧ b < (n : Int)) := ⟨a1, a2, a3, a4⟩
                      go_wp2
                      go_meet
                      case rel => exact ⟨by rw [← HQQ.out, decide_eq_true HC.out], HBJ.out⟩
                    · have HC : Hid (¬ (0 ≤ a ∧ a < (n : Int) ∧ 0 ≤ b ∧ b < (n : Int))) := fun h => a4 h.2.2.2
                      have d : decide (b < (n : Int)) = false := decide_eq_false a4
                      clear a4
                      go_wp2
                      go_meet
                      case rel => exact ⟨by rw [← HQQ.out, decide_eq_false HC.out], HBJ.out⟩
                  · have HC : Hid (¬ (0 ≤ a ∧ a < (n : Int) ∧ 0 ≤ b ∧ b < (n : Int))) := fun h => a3 h.2.2.1
                    have d : decide (0 ≤ b) = false := decide_eq_false a3
                    clear a3
                    go_wp2
                    go_meet
                    case rel => exact ⟨by rw [← HQQ.out, decide_eq_false HC.out], HBJ.out⟩
                · have HC : Hid (¬ (0 ≤ a ∧ a < (n : Int) ∧ 0 ≤ b ∧ b < (n : Int))) := fun h => a2 h.2.1
                  have d : decide (a < (n : Int)) = false := decide_eq_false a2
                  clear a2
                  go_wp2
                  go_meet
                  case rel => exact ⟨by rw [← HQQ.out, decide_eq_false HC.out], HBJ.out⟩
              · have HC : Hid (¬ (0 ≤ a ∧ a < (n : Int) ∧ 0 ≤ b ∧ b < (n : Int))) := fun h => a1 h.1
                have d : decide (0 ≤ a) = false := decide_eq_false a1
                clear a1
                go_wp2
                go_meet
                case rel => exact ⟨by rw [← HQQ.out, decide_eq_false HC.out], HBJ.out⟩
            obtain ⟨rfl, hbc⟩ := hcut
            have HBC := Lib.hid hbc
            clear hbc
            cases qq with
            | false =>
              have HNR : Hid (∀ r : Bool, (r = true ↔ inQ q a = true ∧ inQ q b = true ∧ Up o b.toNat a.toNat) → r = false) := by
                intro r hr
                cases r with
                | false => rfl
                | true =>
                  obtain ⟨h1, h2, _⟩ := hr.1 rfl
                  obtain ⟨xa, e1, m1⟩ := inQ_iff.1 h1
                  obtain ⟨xb, e2, m2⟩ := inQ_iff.1 h2
                  have l1 := HQ.out.lt xa m1
                  have l2 := HQ.out.lt xb m2
                  exact absurd (show 0 ≤ a ∧ a < (n : Int) ∧ 0 ≤ b ∧ b < (n : Int) from ⟨by omega, by omega, by omega, by omega⟩) (of_decide_eq_false HQQ.out)
              go_wp2_with fail
              go_at_call 38
              refine (HDO.out wc HBC.out a b).mono ?_
              rintro e w7 ⟨r, rfl, hr, k, rfl⟩
              obtain rfl := HNR.out r hr
              have HBK := Lib.hid (below_drewN HBC.out k)
              clear hr
              go_wp2
              go_roundw
              case rel => exact ⟨y + 1, by omega, by rw [← HB.out]; congr 1; omega, HBK.out⟩
              case measure => simp [intOf]; have := HB.out; omega
            | true =>
              obtain ⟨a1, a2, a3, a4⟩ := of_decide_eq_true HQQ.out
              obtain ⟨x, hx⟩ : ∃ x : Nat, a = (x : Int) := ⟨a.toNat, by omega⟩
              obtain ⟨v, hv⟩ : ∃ v : Nat, b = (v : Int) := ⟨b.toNat, by omega⟩
              have hxn : x < n := by omega
              have hvn : v < n := by omega
              obtain ⟨cx, cxx0⟩ := (HTJ.out wc HBC.out).read hxn
              have cxv := cxx0 v hvn
              clear cxx0
              obtain ⟨fv, hfv⟩ : ∃ fv, f x v = fv := ⟨_, rfl⟩
              rw [hfv] at cxv
              have HNR : Hid (∀ r : Bool, (r = true ↔ inQ q a = true ∧ inQ q b = true ∧ Up o b.toNat a.toNat) → r = fv) := by
                intro r hr
                rw [Bool.eq_iff_iff, hr, ← hfv, HFT.out x v hxn hvn, hx, hv, inQ_nat, inQ_nat, decide_eq_true_eq, decide_eq_true_eq, Int.toNat_natCast, Int.toNat_natCast]
                exact ⟨fun h => ⟨h.2.1, h.2.2⟩, fun h => ⟨HD.out.tr.mem h.2 h.1, h.1, h.2⟩⟩
              have hwn : IntKind.i64.wrap ((n : Int) - 1) = (n : Int) - 1 := by rw [IntKind.wrap_i64]; omega
              have hm1 : min a ((n : Int) - 1) = (x : Int) := by omega
              have hm2 : max (x : Int) 0 = (x : Int) := by omega
              have hm3 : min b ((n : Int) - 1) = (v : Int) := by omega
              have hm4 : max (v : Int) 0 = (v : Int) := by omega
              have hxI : (x : Int) < (n : Int) := by omega
              have hvI : (v : Int) < (n : Int) := by omega
              have HX := Lib.hid hx
              have HV := Lib.hid hv
              clear a1 a2 a3 a4 hx hv hfv
              go_wp2_with fail
              go_at_call 38
              refine (HDO.out wc HBC.out a b).mono ?_
              rintro e w7 ⟨r, rfl, hr, k, rfl⟩
              obtain rfl := HNR.out r hr
              have HBK := Lib.hid (below_drewN HBC.out k)
              clear hr
              go_wp2
              go_roundw
              case rel => exact ⟨y + 1, by omega, by rw [← HB.out]; congr 1; omega, HBK.out⟩
              case measure => simp [intOf]; have := HB.out; omega
          · have hbI : decide (b ≤ (n : Int)) = false := decide_eq_false (by omega)
            clear hb
            go_wp2
            go_roundw
            case rel => exact ⟨z + 1, by omega, by rw [← HA.out]; congr 1; omega, HBJ.out⟩
            case measure => simp [intOf]; have := HA.out; omega
      · have haI : decide (a ≤ (n : Int)) = false := decide_eq_false (by omega)
        clear ha
        go_wp2_with fail
        go_at_call 29
        refine (alive9_calls _).mono ?_
        rintro e w9 ⟨rfl, hb9⟩
        have hbw : Below (N + 1) W1 wr := HB4.out.trans ((HB5.out.trans (HBR.out.mono h45)).mono h4)
        have HE := Lib.hid (HEND.out w9 (hbw.trans (hb9.mono (HK.out _ hbw).2.2)))
        clear hb9 hbw
        go_wp2
        go_ret
        exact HE.out
end Go.Proofs.Ytpbkkajgcdahcaa
