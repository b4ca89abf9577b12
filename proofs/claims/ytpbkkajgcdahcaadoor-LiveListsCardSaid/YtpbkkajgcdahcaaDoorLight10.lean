/- Are a code's numbers those of its variables? An answer; and what it says if it is yes. -/
import Derived.Test.YtpbkkajgcdahcaaDoorFix
import Derived.Test.YtpbkkajgcdahcaaDoorRef5
import Derived.Test.YtpbkkajgcdahcaaDoorLight8
import Derived.Deep.DeepCutAuto
namespace Go.Proofs.YtpbkkajgcdahcaaDoor
open Go.RowKit

def usesOf (i : Ins) : List Int := readsOf i ++ (if (writesOf i).2 = true then [(writesOf i).1] else [])

def FitsTill (ins : List Ins) (nv j : Nat) : Prop := ∀ i ∈ ins.take j, ∀ z ∈ usesOf i, 0 ≤ z ∧ z < (nv : Int)

theorem FitsTill.all {ins : List Ins} {nv : Nat} (h : FitsTill ins nv ins.length) : Fits ins nv := by
  unfold FitsTill at h
  rw [List.take_length] at h
  intro i hi
  refine ⟨fun r hr => h i hi r (by simp [usesOf, hr]), fun hw => h i hi _ (by simp [usesOf, hw])⟩

theorem FitsTill.next {ins : List Ins} {nv j : Nat} {i : Ins} (h : FitsTill ins nv j) (hi : ins[j]? = some i) (hz : ∀ z ∈ usesOf i, 0 ≤ z ∧ z < (nv : Int)) : FitsTill ins nv (j + 1) := by
  intro x hx
  rw [List.take_add_one, hi] at hx
  rcases List.mem_append.1 hx with hx | hx
  · exact h x hx
  · simp at hx; subst hx; exact hz

/-- What light says yes to. -/
def Cod.fit (c : Cod) : Prop := c.short ∧ c.nvars ≤ 80 ∧ Fits c.ins c.nvars

theorem usesOf_len (i : Ins) (h : i.args.length ≤ 40) : (usesOf i).length ≤ 43 := by
  unfold usesOf
  have := readsOf_len i h
  rw [List.length_append]
  split <;> simp <;> omega

set_option maxRecDepth 100000 in
set_option maxHeartbeats 4000000 in
theorem light10_calls (c : Cod) (w : World) (hin : c.inn w) : Calls Tryd.prog 6 #[.agg c.cells] w (SaysIf w w.heap.size c.fit) := by
  have hlen := hin.len
  have hnv := hin.nvars
  unfold maxLen at hlen hnv
  obtain ⟨C, hC⟩ : ∃ C, c = C := ⟨_, rfl⟩
  have HC := Lib.hid hC
  have HIN := Lib.hid hin
  clear hin
  obtain ⟨nm, par, varsA, nvars, varsC, rp, rto, rcl, fromA, nfrom, fromC, insA, insC, ins⟩ := c
  simp only at hlen hnv
  simp only [Cod.cells]
  obtain ⟨N, hN⟩ : ∃ N, w.heap.size = N := ⟨_, rfl⟩
  obtain ⟨W1, hW1⟩ : ∃ W1, w.alloc (.cells #[.string nm, .int .i64 par, .slice varsA nvars varsC, .bool rp, .string rto, .int .i64 rcl, .slice fromA nfrom fromC, .slice insA ins.length insC] 30) = W1 := ⟨_, rfl⟩
  have hb1 : Below N w W1 := by rw [← hW1, ← hN]; exact (Below.refl _ _).alloc (Nat.le_refl _) _
  have hs1 : W1.heap.size = N + 1 := by rw [← hW1]; simp [hN]
  have hrow : W1.heap[N]? = some (.cells #[.string nm, .int .i64 par, .slice varsA nvars varsC, .bool rp, .string rto, .int .i64 rcl, .slice fromA nfrom fromC, .slice insA ins.length insC] 30 (0, 0)) := by
    rw [← hW1, ← hN]; exact alloc_at _ _
  have hin1 := HIN.out.below (by rw [hN]; exact hb1)
  have HK : Hid (∀ W, Below (N + 1) W1 W → W.cell? ⟨N, 0, none⟩ = some (.string nm) ∧ W.cell? ⟨N, 1, none⟩ = some (.int .i64 par) ∧ W.cell? ⟨N, 2, none⟩ = some (.slice varsA nvars varsC) ∧ W.cell? ⟨N, 3, none⟩ = some (.bool rp) ∧ W.cell? ⟨N, 4, none⟩ = some (.string rto) ∧ W.cell? ⟨N, 5, none⟩ = some (.int .i64 rcl) ∧ W.cell? ⟨N, 6, none⟩ = some (.slice fromA nfrom fromC) ∧ W.cell? ⟨N, 7, none⟩ = some (.slice insA ins.length insC) ∧
      Cod.inn W ⟨nm, par, varsA, nvars, varsC, rp, rto, rcl, fromA, nfrom, fromC, insA, insC, ins⟩ ∧ Below N w W ∧ N + 1 ≤ W.heap.size) := by
    intro W hW
    have h4 := (hW.block N (by omega)).trans hrow
    refine ⟨?_, ?_, ?_, ?_, ?_, ?_, ?_, ?_, hin1.below (by rw [hs1]; exact hW), hb1.trans (hW.mono (by omega)), by have := hW.size; omega⟩ <;> (rw [cell_of_row _ _ _ _ _ _ h4]; rfl)
  have HS1 := Lib.hid hs1
  have HL8 : Hid (∀ W, Below (N + 1) W1 W → Calls Tryd.prog 19 #[.agg #[.string nm, .int .i64 par, .slice varsA nvars varsC, .bool rp, .string rto, .int .i64 rcl, .slice fromA nfrom fromC, .slice insA ins.length insC]] W (SaysIf W W.heap.size C.short)) := by
    intro W hW
    rw [← HC.out]
    exact light8_calls ⟨nm, par, varsA, nvars, varsC, rp, rto, rcl, fromA, nfrom, fromC, insA, insC, ins⟩ W (HK.out W hW).2.2.2.2.2.2.2.2.1
  have HNO : Hid (∀ W, Below (N + 1) W1 W → SaysIf w N (⟨nm, par, varsA, nvars, varsC, rp, rto, rcl, fromA, nfrom, fromC, insA, insC, ins⟩ : Cod).fit (.returned (.bool false)) W) := fun W hW => ⟨false, rfl, (fun h => by cases h), (HK.out W hW).2.2.2.2.2.2.2.2.2.1⟩
  have HW1 := Lib.hid hW1
  obtain ⟨k0, k1, k2, k3, k4, k5, k6, k7, _⟩ := HK.out W1 (Below.refl _ _)
  clear hb1 hs1 hrow hin1 hW1 HIN hC
  by_cases hv80 : nvars ≤ 80
  · have hd : decide ((80 : Int) < (nvars : Int)) = false := decide_eq_false (by omega)
    have HYES : Hid (∀ W, Below (N + 1) W1 W → C.short → FitsTill ins nvars ins.length → SaysIf w N (⟨nm, par, varsA, nvars, varsC, rp, rto, rcl, fromA, nfrom, fromC, insA, insC, ins⟩ : Cod).fit (.returned (.bool true)) W) := fun W hW h1 h2 => ⟨true, rfl, fun _ => ⟨by rw [HC.out]; exact h1, hv80, h2.all⟩, (HK.out W hW).2.2.2.2.2.2.2.2.2.1⟩
    have hN1 : N < W1.heap.size := by have := HS1.out; omega
    go_enter Tryd.func6, Tryd.ntmps6
    go_wp2_with fail
    go_at_call 19
    rw [HW1.out]
    refine (HL8.out W1 (Below.refl _ _)).mono ?_
    rintro e w2 ⟨b, rfl, hb, hbw⟩
    have HBW : Hid (Below (N + 1) W1 w2) := by rw [HS1.out] at hbw; exact hbw
    have HBB := Lib.hid hb
    clear hb hbw
    cases b with
    | false =>
      go_wp2
      go_ret
      first | exact HNO.out _ HBW.out | (rw [hN]; exact HNO.out _ HBW.out)
    | true =>
      have HSH : Hid C.short := HBB.out rfl
      have hn150 : ins.length ≤ 150 := by have := HSH.out.1; rw [← HC.out] at this; exact this
      have HARGS : Hid (∀ i ∈ ins, i.args.length ≤ 40) := by have := HSH.out.2.2.2.2.2; rw [← HC.out] at this; exact fun i hi => (this i hi).1
      clear k0 k1 k2 k3 k4 k5 k6 k7
      go_wp2_with fail
      go_loopw [3] (fun c wr => ∃ j : Nat, j ≤ ins.length ∧ c = .int .i64 (j : Int) ∧ Below (N + 1) W1 wr ∧ FitsTill ins nvars j) (fun c _ => ins.length - (intOf c).toNat)
      case atStart => exact ⟨0, Nat.zero_le _, rfl, HBW.out, by intro i hi; simp at hi⟩
      case round =>
        obtain ⟨j, hj, rfl, hbr, hft⟩ := hrel
        obtain ⟨k0, k1, k2, k3, k4, k5, k6, k7, hinr, hbN, hszr⟩ := HK.out wr hbr
        have HBR := Lib.hid hbr
        have HFT := Lib.hid hft
        have HINR := Lib.hid hinr
        clear hbr hft hinr hbN
        by_cases hjl : j < ins.length
        · obtain ⟨i, hi⟩ : ∃ i, ins[j]? = some i := ⟨_, List.getElem?_eq_getElem hjl⟩
          have hai := HINR.out.args i (List.mem_of_getElem? hi)
          have hl40 := HARGS.out i (List.mem_of_getElem? hi)
          obtain ⟨b0, off, rfl, hb0, hcell⟩ := HINR.out.row (by intro e; simp only at e; rw [e] at hjl; simp at hjl)
          have HCA : Hid (∀ W, Below (N + 1) W1 W → Below wr.heap.size wr W → ∀ q u, i.cells.toList[q]? = some u → W.cell? ((⟨b0, off + j * 13, none⟩ : Addr).add q) = some u) := fun W _ hW q u hu => by
            rw [Addr.add_lit, hW.cell (p := ⟨b0, _, none⟩) hb0]; exact hcell j i hi q u hu
          have hjI : (j : Int) < (ins.length : Int) := by omega
          have HR := Lib.hid (refReads_calls i wr hai hl40)
          have HI := Lib.hid hi
          have HAI := Lib.hid hai
          have HUL := Lib.hid (usesOf_len i hl40)
          clear hi hai hcell
          go_upto_region 7 with (first | (refine wpList_load_at rfl 53 _ rfl ⟨b0, off + j * 13, none⟩ rfl i.cells _ (HCA.out wr HBR.out (Below.refl _ _)) Tryd.underlying53 rfl (by kernel_rfl) ?_) | (go_at_call 20; refine HR.out.mono ?_; rintro e w3 ⟨ao3, cap3, rfl, hown3, hbel3⟩))
          have hb3 : Below (N + 1) W1 w3 := HBR.out.trans (hbel3.mono hszr)
          have HOWN3 := Lib.hid hown3
          have HCA3 : Hid (∀ q u, i.cells.toList[q]? = some u → w3.cell? ((⟨b0, off + j * 13, none⟩ : Addr).add q) = some u) := HCA.out w3 hb3 hbel3
          have HWR := Lib.hid (refWrites_calls i w3 HAI.out.1)
          obtain ⟨k0, k1, k2, k3, k4, k5, k6, k7, _⟩ := HK.out w3 hb3
          obtain ⟨wd, hwd⟩ : ∃ wd, writesOf i = wd := ⟨_, rfl⟩
          rw [hwd] at HWR
          have HWD := Lib.hid hwd
          have HB3 := Lib.hid hb3
          have hsz3 := hbel3.size
          obtain ⟨dv, wb⟩ := wd
          simp only at HWR
          clear hown3 hbel3 hb3 hwd
          go_upto_if 39 with (first | (refine wpList_load_at rfl 53 _ rfl ⟨b0, off + j * 13, none⟩ rfl i.cells _ HCA3.out Tryd.underlying53 rfl (by kernel_rfl) ?_) | (go_at_call 21; refine HWR.out.mono ?_; rintro e w4 ⟨rfl, hbel4⟩))
          have hb4 : Below (N + 1) W1 w4 := HB3.out.trans (hbel4.mono (by omega))
          have hown4 : OwnI w4 wr.heap.size (.slice ao3 (readsOf i).length cap3) (readsOf i) := ownsRow_below HOWN3.out hbel4
          have HB4 := Lib.hid hb4
          have HOWN4 := Lib.hid hown4
          have hsz4 := hbel4.size
          clear hb4 hown4 hbel4
          go_cut [4] (fun s4 wc => ∃ ao cap, s4 = .slice ao (usesOf i).length cap ∧ OwnI wc (N + 1) s4 (usesOf i) ∧ Below (N + 1) W1 wc)
          case first =>
            cases wb with
            | true =>
              have HE : Hid (usesOf i = readsOf i ++ [dv]) := by unfold Hid usesOf; rw [HWD.out]; rfl
              obtain ⟨j0, hj0, hj1, hj2, hj3⟩ := info_parts info_int
              have hrl : (readsOf i).length ≤ 42 := readsOf_len i hl40
              clear k0 k1 k2 k3 k4 k5 k6 k7
              go_wp2_with (at_builtin; refine wpList_append_lies _ rfl _ _ 27 rfl wr.heap.size 3 j0 (.int .i64 0) 1 8 Tryd.underlying27 hj0 hj1 hj2 hj3 rfl (by decide) _ (readsOf i).length _ rfl (ownsRow_below HOWN4.out ((Below.refl w4.heap.size w4).alloc (Nat.le_refl _) _)) ⟨w4.heap.size, 0, none⟩ 1 1 [.int .i64 dv] rfl rfl (cells_new _ _ _) (by simp [Value.oneCell']) (by decide) ?c1 ?c2 ?c3 _ rfl ?_)
              case c1 => unfold maxLen; omega
              case c2 => omega
              case c3 => rw [World.size_alloc]; omega
              intro g5 cap5 w5 hown5 hgrow5 hat5 hlt5
              have HG : Hid (OwnI w5 (N + 1) (.slice (some ⟨g5, 0, none⟩) (usesOf i).length cap5) (usesOf i) ∧ Below (N + 1) W1 w5) := by
                refine ⟨?_, ?_⟩
                · rw [HE.out]
                  refine (OwnI.app (w := w5) (base := wr.heap.size) ?_).mono hszr
                  simpa using hown5
                · exact (HB4.out.alloc (by omega) _).grown hgrow5 (by simp; omega) (fun q hq => by have := (HOWN4.out.lt q hq).1; omega)
              have HLE : Hid ((usesOf i).length = (readsOf i).length + 1) := by unfold Hid; rw [HE.out]; simp
              clear hown5 hgrow5 hat5 hlt5
              go_wp2
              go_meet
              case rel => exact ⟨_, _, by rw [HLE.out], by rw [← HLE.out]; exact HG.out.1, HG.out.2⟩
            | false =>
              have HE : Hid (usesOf i = readsOf i) := by unfold Hid usesOf; rw [HWD.out]; simp
              go_wp2
              go_meet
              case rel => exact ⟨_, _, by rw [HE.out], by rw [HE.out]; exact HOWN4.out.mono hszr, HB4.out⟩
          case rest =>
            obtain ⟨ao, cap, rfl, hown, hbc⟩ := hcut
            have HOWN := Lib.hid hown
            have HBC := Lib.hid hbc
            have hul : (usesOf i).length ≤ 43 := HUL.out
            clear hown hbc k0 k1 k2 k3 k4 k5 k6 k7
            go_wp2_with fail
            go_loopw [7] (fun c wr2 => ∃ q : Nat, q ≤ (usesOf i).length ∧ c = .int .i64 (q : Int) ∧ OwnI wr2 (N + 1) (.slice ao (usesOf i).length cap) (usesOf i) ∧ Below (N + 1) W1 wr2 ∧ ∀ z ∈ (usesOf i).take q, 0 ≤ z ∧ z < (nvars : Int)) (fun c _ => (usesOf i).length - (intOf c).toNat)
            case atStart => exact ⟨0, Nat.zero_le _, rfl, HOWN.out, HBC.out, by simp⟩
            case round =>
              rename_i wr0 _
              obtain ⟨q, hq, rfl, hown2, hb2, hall⟩ := hrel
              obtain ⟨k0, k1, k2, k3, k4, k5, k6, k7, _⟩ := HK.out wr hb2
              have HB2 := Lib.hid hb2
              have HALL := Lib.hid hall
              by_cases hql : q < (usesOf i).length
              · obtain ⟨z, hz⟩ : ∃ z, (usesOf i)[q]? = some z := ⟨_, List.getElem?_eq_getElem hql⟩
                obtain ⟨g2, rfl, _, _, hgc⟩ := hown2.shape (by omega)
                have HO2 := Lib.hid hown2
                have hcz : wr.cell? ⟨g2, q, none⟩ = some (.int .i64 z) := hgc q z hz
                have hqI : (q : Int) < ((usesOf i).length : Int) := by omega
                have HNXT : Hid (0 ≤ z → z < (nvars : Int) → ∀ y ∈ (usesOf i).take (q + 1), 0 ≤ y ∧ y < (nvars : Int)) := by
                  intro h0 h1 y hy
                  rw [List.take_add_one, hz] at hy
                  rcases List.mem_append.1 hy with hy | hy
                  · exact HALL.out y hy
                  · simp at hy; subst hy; exact ⟨h0, h1⟩
                clear hown2 hb2 hall hgc hz
                by_cases h0 : z < 0
                · clear HNXT
                  go_wp2
                  go_quiet (fail)
                  go_wp2
                  go_ret
                  first | exact HNO.out _ (below_drewN HB2.out _) | (rw [hN]; exact HNO.out _ (below_drewN HB2.out _))
                · have hd0 : decide (z < 0) = false := decide_eq_false h0
                  by_cases h1 : (nvars : Int) ≤ z
                  · clear HNXT h0
                    go_wp2
                    go_quiet (fail)
                    go_wp2
                    go_ret
                    first | exact HNO.out _ (below_drewN HB2.out _) | (rw [hN]; exact HNO.out _ (below_drewN HB2.out _))
                  · have hd1 : decide ((nvars : Int) ≤ z) = false := decide_eq_false h1
                    have HNX := Lib.hid (HNXT.out (by omega) (by omega))
                    clear HNXT h0 h1
                    go_wp2
                    go_quiet (fail)
                    go_wp2
                    go_roundw
                    case rel => exact ⟨q + 1, by omega, by go_num, ownsRow_drewN _ HO2.out, below_drewN HB2.out _, HNX.out⟩
                    case measure => simp [intOf]; omega
              · have hqe : q = (usesOf i).length := by omega
                subst hqe
                rw [List.take_length] at hall
                have HFN := Lib.hid (HFT.out.next HI.out hall)
                clear hown2 hb2 hall HALL
                go_wp2
                go_roundw
                case rel => exact ⟨j + 1, by omega, by go_num, HB2.out, HFN.out⟩
                case measure => simp [intOf]; omega
        · have hje : j = ins.length := by omega
          subst hje
          go_wp2
          go_ret
          first | exact HYES.out _ HBR.out HSH.out HFT.out | (rw [hN]; exact HYES.out _ HBR.out HSH.out HFT.out)
  · have hd : (80 : Int) < (nvars : Int) := by omega
    clear hv80
    go_enter Tryd.func6, Tryd.ntmps6
    go_wp2
    go_ret
    rw [HW1.out]
    first | exact HNO.out _ (Below.refl _ _) | (rw [hN]; exact HNO.out _ (Below.refl _ _))
end Go.Proofs.YtpbkkajgcdahcaaDoor
