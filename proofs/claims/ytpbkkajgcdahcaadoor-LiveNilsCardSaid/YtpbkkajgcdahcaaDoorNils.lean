/- LiveNils, at any code and any numbers: true. -/
import Derived.Test.YtpbkkajgcdahcaaDoorNilsC
import Derived.Test.YtpbkkajgcdahcaaDoorAlive10
namespace Go.Proofs.YtpbkkajgcdahcaaDoor
open Go.RowKit Go.Maps
attribute [local go_sem] Oper.semAt_some

theorem nils_results (tmps : Array Value) (w : World) (ad : Addr) (v : Value) (ht : tmps[6]? = some (.pointer (some ad))) (hc : w.cell? ad = some v) : (results Tryd.f4 tmps).run Tryd.prog w = .ok v w := by
  have h : Tryd.f4.results = #[.cell 6 4] := rfl
  have hu : Tryd.prog.underlying 4 = _ := Tryd.underlying4
  simp [results, h, go_sem, ht, hc, hu]

/-- A function that gives true, and nothing that was there has changed. -/
def YesL (w : World) (e : Ending) (w' : World) : Prop := e = .returned (.bool true) ∧ Below w.heap.size w w'

set_option maxRecDepth 100000 in
set_option maxHeartbeats 4000000 in
theorem nils_calls (c : Cod) (at_ v : Int) (w : World) (hin : c.inn w) : Calls Tryd.prog 4 #[.agg c.cells, .int .i64 at_, .int .i64 v] w (YesL w) := by
  have HIN := Lib.hid hin
  obtain ⟨C, hC⟩ : ∃ C, c = C := ⟨_, rfl⟩
  have HC := Lib.hid hC
  clear hin
  obtain ⟨nm, par, varsA, nvars, varsC, rp, rto, rcl, fromA, nfrom, fromC, insA, insC, ins⟩ := c
  simp only [Cod.cells]
  obtain ⟨n, hn⟩ : ∃ n, ins.length = n := ⟨_, rfl⟩
  have HN' := Lib.hid hn
  obtain ⟨N, hN⟩ : ∃ N, w.heap.size = N := ⟨_, rfl⟩
  obtain ⟨W1, hW1⟩ : ∃ W1, (w.alloc (.cells #[.string nm, .int .i64 par, .slice varsA nvars varsC, .bool rp, .string rto, .int .i64 rcl, .slice fromA nfrom fromC, .slice insA n insC] 30)).alloc (.cells #[.bool false] 4) = W1 := ⟨_, rfl⟩
  have hb1 : Below w.heap.size w W1 := by rw [← hW1]; exact ((Below.refl _ _).alloc (Nat.le_refl _) _).alloc (by simp) _
  have hsz : W1.heap.size = N + 2 := by rw [← hW1]; simp [hN]
  have hrow : W1.heap[N]? = some (.cells #[.string nm, .int .i64 par, .slice varsA nvars varsC, .bool rp, .string rto, .int .i64 rcl, .slice fromA nfrom fromC, .slice insA n insC] 30 (0, 0)) := by
    rw [← hW1, ← hN, Below.heap_alloc _ _ _ (by simp)]; exact alloc_at _ _
  have hres : W1.heap[N + 1]? = some (.cells #[.bool false] 4 (0, 0)) := by
    rw [← hW1, ← hN]
    have := alloc_at (w.alloc (.cells #[.string nm, .int .i64 par, .slice varsA nvars varsC, .bool rp, .string rto, .int .i64 rcl, .slice fromA nfrom fromC, .slice insA n insC] 30)) (.cells #[.bool false] 4)
    rwa [World.size_alloc] at this
  have hin1 := HIN.out.below hb1
  have HS : Hid (∀ W, Below (N + 2) W1 W → W.cell? ⟨N, 0, none⟩ = some (.string nm) ∧ W.cell? ⟨N, 1, none⟩ = some (.int .i64 par) ∧ W.cell? ⟨N, 2, none⟩ = some (.slice varsA nvars varsC) ∧ W.cell? ⟨N, 3, none⟩ = some (.bool rp) ∧ W.cell? ⟨N, 4, none⟩ = some (.string rto) ∧ W.cell? ⟨N, 5, none⟩ = some (.int .i64 rcl) ∧ W.cell? ⟨N, 6, none⟩ = some (.slice fromA nfrom fromC) ∧ W.cell? ⟨N, 7, none⟩ = some (.slice insA n insC) ∧ W.cell? ⟨N + 1, 0, none⟩ = some (.bool false) ∧ W.frozen? ⟨N + 1, 0, none⟩ = false) := by
    intro W h1
    have h4 := (h1.block N (by omega)).trans hrow
    have h5 := (h1.block (N + 1) (by omega)).trans hres
    refine ⟨?_, ?_, ?_, ?_, ?_, ?_, ?_, ?_, ?_, frozen_of_row _ _ _ _ _ h5⟩
    all_goals first
      | (rw [cell_of_row _ _ _ _ _ _ h4]; rfl)
      | (rw [cell_of_row _ _ _ _ _ _ h5]; rfl)
  have HK : Hid (∀ W, Below (N + 2) W1 W → C.inn W ∧ N + 2 ≤ W.heap.size) := fun W hb => ⟨by rw [← hC]; exact hin1.below (by rw [hsz]; exact hb), by have := hb.size; omega⟩
  have HY : Hid (∀ Wx w' (M : Nat → Prop), (∀ k, M k → N + 2 ≤ k) → Below (N + 2) W1 Wx → Ext M (Wx.setCell ⟨N + 1, 0, none⟩ (.bool true)) w' → w'.cell? ⟨N + 1, 0, none⟩ = some (.bool true) ∧ YesL w (.returned (.bool true)) w') := by
    intro Wx w' M hM hb hx
    have hsx : N + 2 ≤ Wx.heap.size := by have := hb.size; omega
    have h0 : Ext (fun k => N ≤ k) w W1 := Ext.of_below (by rw [hN] at hb1; exact hb1)
    have h1 : Ext (fun k => N ≤ k) w (Wx.setCell ⟨N + 1, 0, none⟩ (.bool true)) := (h0.trans (Ext.of_below hb) (fun k hk => .inl (by omega))).trans (Ext.set1 _ _ _ _) (fun k hk => .inl (by omega))
    have h2 : Ext (fun k => N ≤ k) w w' := h1.trans hx (fun k hk => .inl (by have := hM k hk; omega))
    obtain ⟨_, _, _, _, _, _, _, _, k8, _⟩ := HS.out Wx hb
    refine ⟨?_, rfl, by rw [hN]; exact h2.below (by omega) (fun _ h => h)⟩
    rw [hx.cell (a := ⟨N + 1, 0, none⟩) (by rw [World.size_setCell]; show N + 1 < _; omega) (fun h => by have := hM _ h; simp only at this; omega)]
    first | exact World.cell?_setCell_same _ k8 | exact World.cell?_setCell_same _ _ k8 | exact World.cell?_setCell_same _ _ _ k8
  have hcc : C.cells = #[.string nm, .int .i64 par, .slice varsA nvars varsC, .bool rp, .string rto, .int .i64 rcl, .slice fromA nfrom fromC, .slice insA n insC] := by rw [← hC, ← hn]; rfl
  have HLI : Hid (∀ W, Below (N + 2) W1 W → Calls Tryd.prog 6 #[.agg #[.string nm, .int .i64 par, .slice varsA nvars varsC, .bool rp, .string rto, .int .i64 rcl, .slice fromA nfrom fromC, .slice insA n insC]] W (SaysIf W W.heap.size C.fit)) := by
    intro W hb; rw [← hcc]; exact light10_calls C W (HK.out W hb).1
  have HOF : Hid (∀ W, Below (N + 2) W1 W → C.fit → Calls Tryd.prog 7 #[.agg #[.string nm, .int .i64 par, .slice varsA nvars varsC, .bool rp, .string rto, .int .i64 rcl, .slice fromA nfrom fromC, .slice insA n insC]] W (TabMade C W)) := by
    intro W hb hf; rw [← hcc]; exact liveOf_calls C W (HK.out W hb).1 hf
  have hs1 : N + 2 ≤ W1.heap.size := by omega
  have HW1 := Lib.hid hW1
  rw [hn]
  clear hb1 hsz hrow hres hin1 hW1 HIN hC hcc hn
  (refine calls_of_wp_marks Tryd.func4 rfl ?_
   simp only [Tryd.ntmps4, List.size_toArray, List.length_cons, List.length_nil, Nat.reduceAdd, Nat.reduceSub, Array.replicate_succ,
     Array.replicate_zero, List.push_toArray, List.append_toArray, List.nil_append, List.cons_append])
  go_upto_region 3 with (go_at_call 5; rw [HW1.out]; refine (alive10_calls _).mono ?_; rintro e w2 ⟨rfl, hb2⟩)
  have hb2' : Below (N + 2) W1 w2 := hb2.mono hs1
  obtain ⟨k0, k1, k2, k3, k4, k5, k6, k7, k8, k9⟩ := HS.out w2 hb2'
  have HB2 := Lib.hid hb2'
  clear hb2 hb2'
  go_cut [35] from 11 (fun s35 wc => ∃ q, s35 = .bool q ∧ Below (N + 2) W1 wc ∧ (q = false → C.fit ∧ ¬ (0 ≤ at_ ∧ at_ < (n : Int)) ∧ ¬ (0 ≤ v ∧ v < (nvars : Int))))
  case first =>
    go_wp2_with fail
    go_at_call 6
    refine (HLI.out w2 HB2.out).mono ?_
    rintro e w3 ⟨fb, rfl, hfb, hb3⟩
    have hb3' : Below (N + 2) W1 w3 := HB2.out.trans (hb3.mono (HK.out w2 HB2.out).2)
    obtain ⟨k0, k1, k2, k3, k4, k5, k6, k7, k8, k9⟩ := HS.out w3 hb3'
    have HFB := Lib.hid hfb
    have HB3 := Lib.hid hb3'
    clear hfb hb3 hb3'
    cases fb with
    | false =>
      go_wp2
      go_meet
      case rel => exact ⟨true, rfl, HB3.out, fun h => by cases h⟩
    | true =>
      have HFIT : Hid C.fit := HFB.out rfl
      clear HFB
      by_cases a1 : 0 ≤ at_
      · by_cases a2 : at_ < (n : Int)
        · go_wp2
          go_meet
          case rel => exact ⟨true, rfl, HB3.out, fun h => by cases h⟩
        · have ha2 : decide (at_ < (n : Int)) = false := decide_eq_false a2
          have HA : Hid (¬ (0 ≤ at_ ∧ at_ < (n : Int))) := fun h => a2 h.2
          clear a2
          by_cases b1 : 0 ≤ v
          · by_cases b2 : v < (nvars : Int)
            · go_wp2
              go_meet
              case rel => exact ⟨true, rfl, HB3.out, fun h => by cases h⟩
            · have hb2 : decide (v < (nvars : Int)) = false := decide_eq_false b2
              have HB : Hid (¬ (0 ≤ v ∧ v < (nvars : Int))) := fun h => b2 h.2
              clear b2
              go_wp2
              go_meet
              case rel => exact ⟨false, rfl, HB3.out, fun _ => ⟨HFIT.out, HA.out, HB.out⟩⟩
          · have hb1 : decide (0 ≤ v) = false := decide_eq_false b1
            have HB : Hid (¬ (0 ≤ v ∧ v < (nvars : Int))) := fun h => b1 h.1
            clear b1
            go_wp2
            go_meet
            case rel => exact ⟨false, rfl, HB3.out, fun _ => ⟨HFIT.out, HA.out, HB.out⟩⟩
      · have ha1 : decide (0 ≤ at_) = false := decide_eq_false a1
        have HA : Hid (¬ (0 ≤ at_ ∧ at_ < (n : Int))) := fun h => a1 h.1
        clear a1
        by_cases b1 : 0 ≤ v
        · by_cases b2 : v < (nvars : Int)
          · go_wp2
            go_meet
            case rel => exact ⟨true, rfl, HB3.out, fun h => by cases h⟩
          · have hb2 : decide (v < (nvars : Int)) = false := decide_eq_false b2
            have HB : Hid (¬ (0 ≤ v ∧ v < (nvars : Int))) := fun h => b2 h.2
            clear b2
            go_wp2
            go_meet
            case rel => exact ⟨false, rfl, HB3.out, fun _ => ⟨HFIT.out, HA.out, HB.out⟩⟩
        · have hb1 : decide (0 ≤ v) = false := decide_eq_false b1
          have HB : Hid (¬ (0 ≤ v ∧ v < (nvars : Int))) := fun h => b1 h.1
          clear b1
          go_wp2
          go_meet
          case rel => exact ⟨false, rfl, HB3.out, fun _ => ⟨HFIT.out, HA.out, HB.out⟩⟩
  case rest =>
    obtain ⟨q, rfl, hbc, hq⟩ := hcut
    obtain ⟨k0, k1, k2, k3, k4, k5, k6, k7, k8, k9⟩ := HS.out wc hbc
    have HBC := Lib.hid hbc
    have HQ := Lib.hid hq
    clear hbc hq
    cases q with
    | true =>
      go_wp2_with fail
      go_at_call 5
      refine (alive10_calls _).mono ?_
      rintro e w4 ⟨rfl, hb4⟩
      have hb4' : Below (N + 2) W1 w4 := HBC.out.trans (hb4.mono (HK.out wc HBC.out).2)
      obtain ⟨_, _, _, _, _, _, _, _, k8, k9⟩ := HS.out w4 hb4'
      have HB4 := Lib.hid hb4'
      clear hb4 hb4' k0 k1 k2 k3 k4 k5 k6 k7
      go_wp2
      refine ⟨[], rfl, by simp, by simp, .bool true, fun w' hx => ?_⟩
      obtain ⟨h1, h2⟩ := HY.out w4 w' _ (fun k hk => by simp at hk) HB4.out hx
      exact ⟨nils_results _ _ _ _ rfl h1, h2⟩
    | false =>
      obtain ⟨hfit, hna, hnb⟩ := HQ.out rfl
      have HOFC := Lib.hid (HOF.out wc HBC.out hfit)
      have HNA := Lib.hid hna
      have HNB := Lib.hid hnb
      clear hfit hna hnb HQ
      go_wp2_with fail
      go_at_call 7
      refine HOFC.out.mono ?_
      rintro e w4 ⟨T, RA, RB, a, b, rfl, hT, hok, hb4⟩
      have hb4' : Below (N + 2) W1 w4 := HBC.out.trans (hb4.mono (HK.out wc HBC.out).2)
      have hs4 := (HK.out w4 hb4').2
      have HOK : Hid (∀ W, Below w4.heap.size w4 W → TabOk W T RA RB C a b) := fun W h => hok.below h
      have HB4 := Lib.hid hb4'
      clear hT hok hb4 hb4' k0 k1 k2 k3 k4 k5 k6 k7 k8 k9 HOFC
      go_wp2_with fail
      go_at_call 10
      refine (varsF_calls w4 (.pointer none) at_ (noIn_nil _ _ _)).mono ?_
      rintro e w5 ⟨rfl, rfl⟩
      go_wp2_with fail
      refine wp_rangeFunc_sep (α := Nat) (gf := 28) rfl Tryd.func28 (by rfl) rfl (vars1_iter w4) ?hbel ?hRd (fun _ => rfl)
        (fun pre C W => C = (fun _ => False) ∧ Ext (fun _ => False) w4 W) (fun _ _ _ _ => False) ?hI ?hIC (fun _ _ _ _ _ h _ => h.elim) (fun _ => False) ?h0 ?hround ?hdone (fun _ _ _ _ _ _ _ _ h _ => h.elim)
      case hbel => exact Below.refl _ _
      case hRd => exact fun k h => h.elim
      case hI =>
        rintro pre C W W' ⟨rfl, h2⟩ hx
        exact ⟨rfl, h2.trans hx (fun j hj => .inr hj.1)⟩
      case hIC =>
        rintro pre C W ⟨rfl, h2⟩ k h
        exact h.elim
      case h0 => exact ⟨rfl, Ext.refl _ _⟩
      case hround =>
        rintro l pre x C W hl ⟨rfl, h2⟩ hpre
        exact absurd hpre.length_le (by simp)
      case hdone =>
        rintro D C2 W hD _ ⟨_, h2⟩ hdd
        have hbW : Below w4.heap.size w4 W := h2.below (Nat.le_refl _) (fun _ h => h.elim)
        have hok := HOK.out W hbW
        have hnC : C.ins.length = n := by rw [← HC.out]; exact HN'.out
        have hvC : C.nvars = nvars := by rw [← HC.out]
        have n1 : NoIn (.pointer (some ⟨T, 0, none⟩)) at_ 0 W := noIn_out hok.tab (fun h => HNA.out ⟨h.1, by have := h.2.1; omega⟩)
        have n2 : NoIn (.pointer (some ⟨T, 0, none⟩)) 0 v W := noIn_out hok.tab (fun h => HNB.out ⟨h.2.2.1, by have := h.2.2.2; omega⟩)
        have H1 := Lib.hid (aheadF_calls W (.pointer none) at_ v (noIn_nil _ _ _))
        have H2 := Lib.hid (behindF_calls W (.pointer none) at_ v (noIn_nil _ _ _))
        have H3 := Lib.hid (idleN_calls W)
        have H4 := Lib.hid (lastF_calls W (.pointer none) v (noIn_nil _ _ _))
        have H5 := Lib.hid (mostN_calls W)
        have H6 := Lib.hid (aheadF_calls W _ at_ 0 n1)
        have H7 := Lib.hid (behindF_calls W _ 0 v n2)
        have H8 := Lib.hid (lastF_calls W _ v n2)
        have hDlt : D < W.heap.size := (Array.getElem?_eq_some_iff.1 hdd).1
        have hb14 : Below (N + 2) W1 W := HB4.out.trans (hbW.mono hs4)
        have HB14 := Lib.hid hb14
        have HDD := Lib.hid hdd
        have hsW : w4.heap.size ≤ W.heap.size := hbW.size
        clear h2 hbW hok hnC hvC n1 n2 hdd hb14
        go_wp2_with fail
        go_at_call 17
        refine H1.out.mono ?_
        rintro e w' ⟨rfl, rfl⟩
        go_wp2_with fail
        go_at_call 18
        refine H2.out.mono ?_
        rintro e w' ⟨rfl, rfl⟩
        go_wp2_with fail
        go_at_call 12
        refine H3.out.mono ?_
        rintro e w' ⟨rfl, rfl⟩
        go_wp2_with fail
        go_at_call 15
        refine H4.out.mono ?_
        rintro e w' ⟨rfl, rfl⟩
        go_wp2_with fail
        go_at_call 14
        refine H5.out.mono ?_
        rintro e w' ⟨rfl, rfl⟩
        go_wp2_with fail
        go_at_call 17
        refine H6.out.mono ?_
        rintro e w' ⟨rfl, rfl⟩
        go_wp2_with fail
        go_at_call 18
        refine H7.out.mono ?_
        rintro e w' ⟨rfl, rfl⟩
        go_wp2_with fail
        go_at_call 15
        refine H8.out.mono ?_
        rintro e w' ⟨rfl, rfl⟩
        go_wp2_with fail
        go_at_call 5
        refine (alive10_calls _).mono ?_
        rintro e w9 ⟨rfl, hb9⟩
        have hb19 : Below (N + 2) W1 w9 := HB14.out.trans (hb9.mono (by omega))
        obtain ⟨_, _, _, _, _, _, _, _, k8, k9⟩ := HS.out w9 hb19
        have HD9 : Hid ((w9.setCell ⟨N + 1, 0, none⟩ (.bool true)).heap[D]? = some (.deferred (some []))) := by
          unfold Hid
          rw [heap_setCell_other _ _ _ _ (by show D ≠ N + 1; omega), hb9.block D hDlt]; exact HDD.out
        have HB19 := Lib.hid hb19
        clear hb9 hb19
        go_wp2
        refine ⟨[D], rfl, by simp, by intro b hb; simp at hb; subst hb; exact HD9.out, .bool true, fun w' hx => ?_⟩
        obtain ⟨h3, h4⟩ := HY.out w9 w' (· = D) (fun k hk => by omega) HB19.out (hx.mono (fun k hk => by simpa using hk))
        exact ⟨nils_results _ _ _ _ rfl h3, h4⟩
end Go.Proofs.YtpbkkajgcdahcaaDoor
