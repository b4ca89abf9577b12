/- LiveLists, at any code and any numbers: true. -/
import Derived.Test.YtpbkkajgcdahcaaDoorNilsC
import Derived.Test.YtpbkkajgcdahcaaDoorAlive10
import Derived.Test.YtpbkkajgcdahcaaDoorTab10
import Derived.Test.YtpbkkajgcdahcaaDoorListsP
import Derived.Test.YtpbkkajgcdahcaaDoorTAny
import Derived.Test.YtpbkkajgcdahcaaDoorNumbers
import Derived.Test.YtpbkkajgcdahcaaDoorSepX
namespace Go.Proofs.YtpbkkajgcdahcaaDoor
open Go.RowKit Go.Maps
attribute [local go_sem] Oper.semAt_some

theorem lists_results (tmps : Array Value) (w : World) (ad : Addr) (v : Value) (ht : tmps[8]? = some (.pointer (some ad))) (hc : w.cell? ad = some v) : (results Tryd.f3 tmps).run Tryd.prog w = .ok v w := by
  simp [results, go_sem, ht, hc]

theorem cell_lt10 {w : World} {a : Addr} {v : Value} (h : w.cell? a = some v) : a.block < w.heap.size := by
  apply Nat.lt_of_not_le
  intro hle
  simp [World.cell?, Array.getElem?_eq_none hle] at h

private theorem fold_one (p : Tmp) (v : Value) (t : Array Value) : ((#[p] : Array Tmp).zip #[v]).foldl (fun t (p, v) => t.setIfInBounds p v) t = t.setIfInBounds p v := by simp

/-- A function that gives true, and nothing that was there has changed. -/
def YesW (w : World) (e : Ending) (w' : World) : Prop := e = .returned (.bool true) ∧ Below w.heap.size w w'

set_option maxRecDepth 100000 in
set_option maxHeartbeats 4000000 in
theorem lists10_calls (c : Cod) (at_ v stop : Int) (w : World) (hin : c.inn w) (hT : DbTab w) : Calls Tryd.prog 3 #[.agg c.cells, .int .i64 at_, .int .i64 v, .int .i64 stop] w (YesW w) := by
  have HIN := Lib.hid hin
  have h00 : 0 < w.heap.size := cell_lt10 (hT 0 (by decide))
  obtain ⟨C, hC⟩ : ∃ C, c = C := ⟨_, rfl⟩
  have HC := Lib.hid hC
  clear hin
  obtain ⟨nm, par, varsA, nvars, varsC, rp, rto, rcl, fromA, nfrom, fromC, insA, insC, ins⟩ := c
  simp only [Cod.cells]
  obtain ⟨n, hn⟩ : ∃ n, ins.length = n := ⟨_, rfl⟩
  have HN' := Lib.hid hn
  obtain ⟨N, hN⟩ : ∃ N, w.heap.size = N := ⟨_, rfl⟩
  obtain ⟨W1, hW1⟩ : ∃ W1, ((w.alloc (.cells #[.string nm, .int .i64 par, .slice varsA nvars varsC, .bool rp, .string rto, .int .i64 rcl, .slice fromA nfrom fromC, .slice insA n insC] 30)).alloc (.cells #[.int .i64 stop] 3)).alloc (.cells #[.bool false] 4) = W1 := ⟨_, rfl⟩
  have hb1 : Below w.heap.size w W1 := by rw [← hW1]; exact (((Below.refl _ _).alloc (Nat.le_refl _) _).alloc (by simp) _).alloc (by simp; omega) _
  have hsz : W1.heap.size = N + 3 := by rw [← hW1]; simp [hN]
  have hx0 : W1.heap[N]? = some (.cells #[.string nm, .int .i64 par, .slice varsA nvars varsC, .bool rp, .string rto, .int .i64 rcl, .slice fromA nfrom fromC, .slice insA n insC] 30 (0, 0)) := by
    rw [← hW1, ← hN, Below.heap_alloc _ _ _ (by simp; omega), Below.heap_alloc _ _ _ (by simp)]; exact alloc_at _ _
  have hstp : W1.heap[N + 1]? = some (.cells #[.int .i64 stop] 3 (0, 0)) := by
    rw [← hW1, ← hN, Below.heap_alloc _ _ _ (by simp)]
    have := alloc_at (w.alloc (.cells #[.string nm, .int .i64 par, .slice varsA nvars varsC, .bool rp, .string rto, .int .i64 rcl, .slice fromA nfrom fromC, .slice insA n insC] 30)) (.cells #[.int .i64 stop] 3)
    rwa [World.size_alloc] at this
  have hres : W1.heap[N + 2]? = some (.cells #[.bool false] 4 (0, 0)) := by
    rw [← hW1, ← hN]
    have := alloc_at ((w.alloc (.cells #[.string nm, .int .i64 par, .slice varsA nvars varsC, .bool rp, .string rto, .int .i64 rcl, .slice fromA nfrom fromC, .slice insA n insC] 30)).alloc (.cells #[.int .i64 stop] 3)) (.cells #[.bool false] 4)
    rwa [World.size_alloc, World.size_alloc] at this
  have hin1 := HIN.out.below hb1
  have HS : Hid (∀ W, Below (N + 3) W1 W → W.cell? ⟨N, 0, none⟩ = some (.string nm) ∧ W.cell? ⟨N, 1, none⟩ = some (.int .i64 par) ∧ W.cell? ⟨N, 2, none⟩ = some (.slice varsA nvars varsC) ∧ W.cell? ⟨N, 3, none⟩ = some (.bool rp) ∧ W.cell? ⟨N, 4, none⟩ = some (.string rto) ∧ W.cell? ⟨N, 5, none⟩ = some (.int .i64 rcl) ∧ W.cell? ⟨N, 6, none⟩ = some (.slice fromA nfrom fromC) ∧ W.cell? ⟨N, 7, none⟩ = some (.slice insA n insC) ∧ W.cell? ⟨N + 1, 0, none⟩ = some (.int .i64 stop) ∧ W.cell? ⟨N + 2, 0, none⟩ = some (.bool false) ∧ W.frozen? ⟨N + 2, 0, none⟩ = false ∧ DbTab W) := by
    intro W h1
    have h4 := (h1.block N (by omega)).trans hx0
    have h6 := (h1.block (N + 1) (by omega)).trans hstp
    have h5 := (h1.block (N + 2) (by omega)).trans hres
    have hbw : Below N w W := by rw [hN] at hb1; exact hb1.trans (h1.mono (by omega))
    refine ⟨?_, ?_, ?_, ?_, ?_, ?_, ?_, ?_, ?_, ?_, frozen_of_row _ _ _ _ _ h5, fun q hq => by rw [hbw.cell (p := ⟨0, q, none⟩) (by rw [← hN]; exact h00)]; exact hT q hq⟩
    all_goals first
      | (rw [cell_of_row _ _ _ _ _ _ h4]; rfl)
      | (rw [cell_of_row _ _ _ _ _ _ h6]; rfl)
      | (rw [cell_of_row _ _ _ _ _ _ h5]; rfl)
  have HK : Hid (∀ W, Below (N + 3) W1 W → C.inn W ∧ N + 3 ≤ W.heap.size) := fun W hb => ⟨by rw [← hC]; exact hin1.below (by rw [hsz]; exact hb), by have := hb.size; omega⟩
  have HY : Hid (∀ Wx w' (M : Nat → Prop), (∀ k, M k → N + 3 ≤ k) → Below (N + 3) W1 Wx → Ext M (Wx.setCell ⟨N + 2, 0, none⟩ (.bool true)) w' → w'.cell? ⟨N + 2, 0, none⟩ = some (.bool true) ∧ YesW w (.returned (.bool true)) w') := by
    intro Wx w' M hM hb hx
    have hsx : N + 3 ≤ Wx.heap.size := by have := hb.size; omega
    have h0 : Ext (fun k => N ≤ k) w W1 := Ext.of_below (by rw [hN] at hb1; exact hb1)
    have h1 : Ext (fun k => N ≤ k) w (Wx.setCell ⟨N + 2, 0, none⟩ (.bool true)) := (h0.trans (Ext.of_below hb) (fun k hk => .inl (by omega))).trans (Ext.set1 _ _ _ _) (fun k hk => .inl (by omega))
    have h2 : Ext (fun k => N ≤ k) w w' := h1.trans hx (fun k hk => .inl (by have := hM k hk; omega))
    obtain ⟨_, _, _, _, _, _, _, _, _, k8, _, _⟩ := HS.out Wx hb
    refine ⟨?_, rfl, by rw [hN]; exact h2.below (by omega) (fun _ h => h)⟩
    rw [hx.cell (a := ⟨N + 2, 0, none⟩) (by rw [World.size_setCell]; show N + 2 < _; omega) (fun h => by have := hM _ h; simp only at this; omega)]
    first | exact World.cell?_setCell_same _ k8 | exact World.cell?_setCell_same _ _ k8 | exact World.cell?_setCell_same _ _ _ k8
  have hcc : C.cells = #[.string nm, .int .i64 par, .slice varsA nvars varsC, .bool rp, .string rto, .int .i64 rcl, .slice fromA nfrom fromC, .slice insA n insC] := by rw [← hC, ← hn]; rfl
  have HLI : Hid (∀ W, Below (N + 3) W1 W → Calls Tryd.prog 6 #[.agg #[.string nm, .int .i64 par, .slice varsA nvars varsC, .bool rp, .string rto, .int .i64 rcl, .slice fromA nfrom fromC, .slice insA n insC]] W (SaysIf W W.heap.size C.fit)) := by
    intro W hb; rw [← hcc]; exact light10_calls C W (HK.out W hb).1
  have HOF : Hid (∀ W, Below (N + 3) W1 W → C.fit → Calls Tryd.prog 7 #[.agg #[.string nm, .int .i64 par, .slice varsA nvars varsC, .bool rp, .string rto, .int .i64 rcl, .slice fromA nfrom fromC, .slice insA n insC]] W (TabMade C W)) := by
    intro W hb hf; rw [← hcc]; exact liveOf_calls C W (HK.out W hb).1 hf
  have hs1 : N + 3 ≤ W1.heap.size := by omega
  have HW1 := Lib.hid hW1
  rw [hn]
  clear hb1 hsz hx0 hstp hres hin1 hW1 HIN hC hcc hn hT
  (refine calls_of_wp_marks Tryd.func3 rfl ?_
   simp only [Tryd.ntmps3, List.size_toArray, List.length_cons, List.length_nil, Nat.reduceAdd, Nat.reduceSub, Array.replicate_succ,
     Array.replicate_zero, List.push_toArray, List.append_toArray, List.nil_append, List.cons_append])
  go_upto_region 3 with (go_at_call 5; rw [HW1.out]; refine (alive10_calls _).mono ?_; rintro e w2 ⟨rfl, hb2⟩)
  have hb2' : Below (N + 3) W1 w2 := hb2.mono hs1
  obtain ⟨k0, k1, k2, k3, k4, k5, k6, k7, k8, k9, k10, k11⟩ := HS.out w2 hb2'
  have HB2 := Lib.hid hb2'
  clear hb2 hb2'
  go_wp2_with fail
  go_at_call 6
  refine (HLI.out w2 HB2.out).mono ?_
  rintro e w3 ⟨fb, rfl, hfb, hb3⟩
  have hb3' : Below (N + 3) W1 w3 := HB2.out.trans (hb3.mono (HK.out w2 HB2.out).2)
  clear k0 k1 k2 k3 k4 k5 k6 k7 k8 k9 k10 k11
  have HFB := Lib.hid hfb
  have HB3 := Lib.hid hb3'
  clear hfb hb3 hb3'
  cases fb with
  | false =>
    go_wp2_with fail
    go_at_call 5
    refine (alive10_calls _).mono ?_
    rintro e w4 ⟨rfl, hb4⟩
    have hb4' : Below (N + 3) W1 w4 := HB3.out.trans (hb4.mono (HK.out w3 HB3.out).2)
    obtain ⟨_, _, _, _, _, _, _, _, _, k9, k10, _⟩ := HS.out w4 hb4'
    have HB4 := Lib.hid hb4'
    clear hb4 hb4'
    go_wp2
    refine ⟨[], rfl, by simp, by simp, .bool true, fun w' hx => ?_⟩
    obtain ⟨h1, h2⟩ := HY.out w4 w' _ (fun k hk => by simp at hk) HB4.out hx
    exact ⟨lists_results _ _ _ _ rfl h1, h2⟩
  | true =>
    have HFIT : Hid C.fit := HFB.out rfl
    obtain ⟨k0, k1, k2, k3, k4, k5, k6, k7, k8, k9, k10, k11⟩ := HS.out w3 HB3.out
    have HDB := Lib.hid k11
    clear HFB k11
    have hn150 : n ≤ 150 := by have := HFIT.out.1.1; rw [← HC.out] at this; have h := HN'.out; simp only at this; omega
    have hnv80 : nvars ≤ 80 := by have := HFIT.out.2.1; rw [← HC.out] at this; exact this
    have HARGS : Hid (∀ i ∈ ins, i.args.length ≤ 40) := by have := HFIT.out.1.2.2.2.2.2; rw [← HC.out] at this; exact fun i hi => (this i hi).1
    have HFI : Hid (Fits ins nvars) := by have := HFIT.out.2.2; rw [← HC.out] at this; exact this
    go_wp2_with fail
    go_at_call 7
    refine (HOF.out w3 HB3.out HFIT.out).mono ?_
    rintro e W4 ⟨T, RA, RB, a, b, rfl, hTl, hok, hb4⟩
    have hb4' : Below (N + 3) W1 W4 := HB3.out.trans (hb4.mono (HK.out w3 HB3.out).2)
    have HB4 := Lib.hid hb4'
    have HSZ4 : Hid (N + 3 ≤ W4.heap.size) := (HK.out W4 hb4').2
    have HOK : Hid (∀ W, Below W4.heap.size W4 W → TabOk W T RA RB C a b) := fun W h => hok.below h
    obtain ⟨TT, hTT⟩ := Classical.axiomOfChoice (fun v => bfs10 ins v)
    obtain ⟨S, hS⟩ : ∃ S, (fun v => behs ins (TT v) n) = S := ⟨_, rfl⟩
    have hci : C.ins = ins := by rw [← HC.out]
    have hcn : C.nvars = nvars := by rw [← HC.out]
    have HSM : Hid (SameT n nvars S b) := by
      rw [← hS]
      refine ⟨fun x v hx hv => ?_, fun x v hx h => ?_⟩
      · have hs := hok.says x v (by rw [hci, HN'.out]; exact hx) (by rw [hcn]; exact hv)
        rw [hci] at hs
        rw [Bool.eq_iff_iff, hs.1, decide_eq_true_eq, mem_behs]
        unfold AskedBehind anyIn
        simp only [List.any_eq_true, decide_eq_true_eq, (hTT v).2.1]
        exact ⟨fun h => ⟨hx, h⟩, fun h => h.2⟩
      · have hs := hok.sound x v (by rw [hci, HN'.out]; exact hx) h
        rw [hci] at hs
        obtain ⟨z, _, hz⟩ := hs
        exact hz.fits HFI.out
    have hcc : C.cells = #[.string nm, .int .i64 par, .slice varsA nvars varsC, .bool rp, .string rto, .int .i64 rcl, .slice fromA nfrom fromC, .slice insA n insC] := by rw [← HC.out, ← HN'.out]; rfl
    have HTAB : Hid (Calls Tryd.prog 8 #[.agg #[.string nm, .int .i64 par, .slice varsA nvars varsC, .bool rp, .string rto, .int .i64 rcl, .slice fromA nfrom fromC, .slice insA n insC]] W4 fun e w' => ∃ ao cap, e = .returned (.slice ao nvars cap) ∧ TabB w' W4.heap.size n nvars S (.slice ao nvars cap) ∧ Below W4.heap.size W4 w') := by
      have h := table10_calls C W4 TT (HK.out W4 hb4').1 (by rw [hci]; exact HARGS.out) (by rw [hci, HN'.out]; omega) (by rw [hcn]; omega) (by rw [hci]; exact fun v => (hTT v).1) (fun v => by have := (hTT v).2.2.1; have := HN'.out; omega)
      rw [hcc, hci, hcn, HN'.out, hS] at h
      exact h
    obtain ⟨k0, k1, k2, k3, k4, k5, k6, k7, k8, k9, k10, _⟩ := HS.out W4 hb4'
    clear hcc hci hcn hTT hS hTl hok hb4 hb4'
    go_wp2_with fail
    go_at_call 8
    refine HTAB.out.mono ?_
    rintro e W5 ⟨aoT, capT, rfl, htab, hb5⟩
    have HT5 := Lib.hid htab
    have HB5 := Lib.hid hb5
    clear k0 k1 k2 k3 k4 k5 k6 k7 k8 k9 k10 htab hb5
    go_wp2_with fail
    go_at_call 9
    refine (refVars_calls W5 W4.heap.size n nvars capT aoT S at_ HT5.out (by omega) (by omega)).mono ?_
    rintro e W6 ⟨aoW, capW, rfl, hown, hb6⟩
    have HO6 := Lib.hid hown
    have HB6 := Lib.hid hb6
    clear hown hb6
    go_upto_region 9 with (fail)
    obtain ⟨W8, hW8⟩ : ∃ W8, (W6.alloc (.cells #[.slice aoW (pick (atRow S n at_) nvars).length capW] 27)).alloc (.cells #[.int .i64 0] 3) = W8 := ⟨_, rfl⟩
    rw [hW8]
    obtain ⟨Q, hQ⟩ : ∃ Q, W6.heap.size = Q := ⟨_, rfl⟩
    have hwant : W8.heap[Q]? = some (.cells #[.slice aoW (pick (atRow S n at_) nvars).length capW] 27 (0, 0)) := by
      rw [← hW8, ← hQ, Below.heap_alloc _ _ _ (by simp)]; exact alloc_at _ _
    have hcnt : W8.heap[Q + 1]? = some (.cells #[.int .i64 0] 3 (0, 0)) := by
      rw [← hW8, ← hQ]
      have := alloc_at (W6.alloc (.cells #[.slice aoW (pick (atRow S n at_) nvars).length capW] 27)) (.cells #[.int .i64 0] 3)
      rwa [World.size_alloc] at this
    have hb68 : Below Q W6 W8 := by rw [← hW8, ← hQ]; exact ((Below.refl _ _).alloc (Nat.le_refl _) _).alloc (by simp) _
    have hs8 : W8.heap.size = Q + 2 := by rw [← hW8]; simp [hQ]
    have hb48 : Below W4.heap.size W4 W8 := (HB5.out.trans (HB6.out.mono HB5.out.size)).trans (hb68.mono (by have := HB5.out.size; have := HB6.out.size; omega))
    have hdb8 := (HS.out W8 (HB4.out.trans (hb48.mono HSZ4.out))).2.2.2.2.2.2.2.2.2.2.2
    have hcl : C.ins.length = n := by rw [← HC.out]; exact HN'.out
    have hcn : C.nvars = nvars := by rw [← HC.out]
    have HV : Hid (Calls Tryd.prog 10 #[.pointer (some ⟨T, 0, none⟩), .int .i64 at_] W8 fun e w' => TellsI (pick (atRow S n at_) nvars) W8 w' RB n e) := by
      have h := tvars_any W8 T RA RB C a b S at_ (HOK.out W8 hb48) (by rw [hcl, hcn]; exact HSM.out) hdb8 (by omega) (by omega)
      rw [hcl, hcn] at h; exact h
    have HB48 := Lib.hid hb48
    have HWA := Lib.hid hwant
    have HCN := Lib.hid hcnt
    have HB68 := Lib.hid hb68
    rw [hQ]
    clear hW8 hwant hcnt hb68 hb48 hdb8
    go_wp2_with fail
    go_at_call 10
    refine HV.out.mono ?_
    rintro e W9 ⟨gf, lb, Rd, fn, fb, rfl, hgf, hgn, hgb, hit, hb9, hRd⟩
    have HRD := Lib.hid hRd
    have HB9 := Lib.hid hb9
    have hs9 := hb9.size
    have hNQ : N + 3 ≤ Q := by have := HSZ4.out; have := HB5.out.size; have := HB6.out.size; omega
    have h4Q : W4.heap.size ≤ Q := by have := HB5.out.size; have := HB6.out.size; omega
    have hRQ : RB + n ≤ Q := by
      have ht := (HOK.out W4 (Below.refl _ _)).tab
      have q1 := HB5.out.size
      have q2 := HB6.out.size
      rcases Nat.eq_zero_or_pos n with h0 | h0
      · have := (Array.getElem?_eq_some_iff.1 ht.behind).1; omega
      · have := (ht.words (n - 1) (by rw [hcl]; omega)).lt; omega
    obtain ⟨want, hwt⟩ : ∃ want, pick (atRow S n at_) nvars = want := ⟨_, rfl⟩
    rw [hwt] at hit
    have HWT := Lib.hid hwt
    clear hRd hb9 hwt
    go_wp2_with fail
    refine wp_rangeFunc_out (α := Nat) (gf := gf) rfl hgf hgn hgb hit ?hbel ?hRd (fun _ => rfl)
      (fun pre C W => C = (fun k => k = Q + 1) ∧ W.heap[Q + 1]? = some (.cells #[.int .i64 (pre.length : Int)] 3 (0, 0)) ∧ Ext (fun k => k = Q + 1) W9 W ∧ ∀ q : Nat, 1 ≤ q → q ≤ pre.length → (q : Int) ≠ stop)
      (fun pre C W => C = (fun k => k = Q + 1) ∧ W.heap[Q + 1]? = some (.cells #[.int .i64 (pre.length : Int)] 3 (0, 0)) ∧ Ext (fun k => k = Q + 1) W9 W ∧ 1 ≤ pre.length ∧ (pre.length : Int) = stop) ?hI ?hIC ?hIx (fun k => k = Q + 1) ?h0 ?hround ?hout
    case hbel => exact Below.refl _ _
    case hRd => exact fun k h => (HRD.out k h).1
    case hI =>
      rintro pre C W W' ⟨rfl, h1, h2, h3⟩ hx
      exact ⟨rfl, hx.heap h1 (fun h => h.2 rfl), h2.trans hx (fun j hj => .inr hj.1), h3⟩
    case hIx =>
      rintro pre C W W' ⟨rfl, h1, h2, h3⟩ hx
      exact ⟨rfl, hx.heap h1 (fun h => h.2 rfl), h2.trans hx (fun j hj => .inr hj.1), h3⟩
    case hIC =>
      rintro pre C W ⟨rfl, h1, h2, h3⟩ k rfl
      exact ⟨(Array.getElem?_eq_some_iff.1 h1).1, fun h => by have := (HRD.out _ h).2; omega⟩
    case h0 => exact ⟨rfl, (HB9.out.block (Q + 1) (by omega)).trans HCN.out, Ext.refl _ _, fun q h1 h2 => absurd (Nat.le_trans h1 h2) (by simp)⟩
    case hround =>
      rintro l pre x C W hl ⟨rfl, h1, h2, h3⟩ hpre
      have hpl : pre.length < want.length := by have := hpre.length_le; simp at this; omega
      have hwx : want[pre.length]? = some x := by
        obtain ⟨t, ht⟩ := hpre
        rw [← ht]; simp
      unfold allEnc
      rw [fold_one]
      simp only [List.setIfInBounds_toArray, List.set_cons_zero, List.set_cons_succ]
      have HI := Lib.hid (And.intro h1 (And.intro h2 h3))
      clear h1 h2 h3 hpre
      obtain ⟨F, hF⟩ : ∃ F, F = Fence.wide.inRound l := ⟨_, rfl⟩
      have hFr : F.round = some l := by rw [hF]; rfl
      have hFf : ∀ f, F.fn f := fun f => by rw [hF]; trivial
      have hFd : F.depth = none := by rw [hF]; rfl
      rw [← hF]
      clear hF
      gi_wp2
      refine ⟨_, fun k hk => .inl hk, ⟨rfl, HI.out.1, HI.out.2.1, HI.out.2.2⟩, Ext.refl _ _, ?_⟩
      rintro W₂ ⟨_, g1, g2, g3⟩ hl2
      have hcn2 : W₂.cell? ⟨Q + 1, 0, none⟩ = some (.int .i64 (pre.length : Int)) := by rw [cell_of_row _ _ _ _ _ _ g1]; rfl
      have hfz2 : W₂.frozen? ⟨Q + 1, 0, none⟩ = false := frozen_of_row _ _ _ _ _ g1
      have hx82 : ∀ k, k < Q + 2 → k ≠ Q + 1 → ∀ cs, W8.heap[k]? = some cs → W₂.heap[k]? = some cs := fun k hk hne cs h => g2.heap ((HB9.out.block k (by omega)).trans h) hne
      have hwa2 := hx82 Q (by omega) (by omega) _ HWA.out
      rw [HWT.out] at hwa2
      have hcw2 : W₂.cell? ⟨Q, 0, none⟩ = some (.slice aoW want.length capW) := by rw [cell_of_row _ _ _ _ _ _ hwa2]; rfl
      have hs2 := g2.size
      have hbW2 : Below (N + 3) W1 W₂ := (HB4.out.trans (HB48.out.mono HSZ4.out)).trans ((HB9.out.mono (by omega)).trans (g2.below (by omega) (fun k hk => by omega)))
      have hst2 := (HS.out W₂ hbW2).2.2.2.2.2.2.2.2.1
      have ho6 := HO6.out
      rw [HWT.out] at ho6
      obtain ⟨g, hga, hg1, hg2, hg3⟩ := ho6.shape (by simp [ints]; omega)
      have hcx2 : W₂.cell? ⟨g, pre.length, none⟩ = some (.int .i64 (x : Int)) := by
        rw [g2.cell (a := ⟨g, pre.length, none⟩) (by show g < _; omega) (by show g ≠ _; omega), HB9.out.cell (p := ⟨g, pre.length, none⟩) (by show g < _; omega), HB68.out.cell (p := ⟨g, pre.length, none⟩) (by show g < _; omega)]
        exact hg3 pre.length x (by simp [ints, hwx])
      rw [hga] at hcw2
      have hwl : want.length ≤ 80 := by rw [← HWT.out]; exact Nat.le_trans (pick_len _ _) hnv80
      have hd0 : decide ((want.length : Int) ≤ (pre.length : Int)) = false := decide_eq_false (by omega)
      have hd1 : (pre.length : Int) < (want.length : Int) := by omega
      have hxs : Ext (· = Q + 1) W₂ (W₂.setCell ⟨Q + 1, 0, none⟩ (.int .i64 ((pre.length : Int) + 1))) := Ext.set1 _ _ _ _
      have hG1 : (W₂.setCell ⟨Q + 1, 0, none⟩ (.int .i64 ((pre.length : Int) + 1))).heap[Q + 1]? = some (.cells #[.int .i64 ((pre.length : Int) + 1)] 3 (0, 0)) := by
        rw [heap_setCell_same _ _ _ _ _ _ g1]; rfl
      have hst3 : (W₂.setCell ⟨Q + 1, 0, none⟩ (.int .i64 ((pre.length : Int) + 1))).cell? ⟨N + 1, 0, none⟩ = some (.int .i64 stop) := by
        rw [hxs.cell (a := ⟨N + 1, 0, none⟩) (by show N + 1 < _; omega) (by show N + 1 ≠ _; omega)]; exact hst2
      have hc3 : (W₂.setCell ⟨Q + 1, 0, none⟩ (.int .i64 ((pre.length : Int) + 1))).cell? ⟨Q + 1, 0, none⟩ = some (.int .i64 ((pre.length : Int) + 1)) := by rw [cell_of_row _ _ _ _ _ _ hG1]; rfl
      have hwr : IntKind.i64.wrap ((pre.length : Int) + 1) = (pre.length : Int) + 1 := by rw [IntKind.wrap_i64]; omega
      clear g1 ho6 hg3 hbW2 hwa2 hx82
      have hG : Ext (fun k => k = Q + 1) W9 (W₂.setCell ⟨Q + 1, 0, none⟩ (.int .i64 ((pre.length : Int) + 1))) := g2.trans hxs (fun j hj => .inl hj)
      have HG := Lib.hid (And.intro hG1 (And.intro hG hxs))
      have HG3 := Lib.hid g3
      have hle : ((pre ++ [x]).length : Int) = (pre.length : Int) + 1 := by simp
      clear g2 g3 hG hxs hl2
      obtain ⟨sb, hsb⟩ : ∃ sb, ((pre.length : Int) + 1 == stop) = sb := ⟨_, rfl⟩
      cases sb with
      | true =>
        have HSE : Hid ((pre.length : Int) + 1 = stop) := by unfold Hid; simpa using hsb
        gi_wp2
        refine ⟨_, fun k hk => .inl hk, ⟨rfl, rfl, ?_, HG.out.2.1, by simp, by rw [hle]; exact HSE.out⟩, HG.out.2.2⟩
        rw [hle]; exact HG.out.1
      | false =>
        have HSE : Hid ((pre.length : Int) + 1 ≠ stop) := by unfold Hid; simpa using hsb
        gi_wp2
        refine ⟨_, fun k hk => .inl hk, ⟨rfl, ?_, HG.out.2.1, fun q h1 h2 => ?_⟩, HG.out.2.2⟩
        · rw [hle]; exact HG.out.1
        · rw [List.length_append] at h2
          simp at h2
          rcases Nat.lt_or_ge pre.length q with h3 | h3
          · have : q = pre.length + 1 := by omega
            subst this; push_cast; exact HSE.out
          · exact HG3.out q h1 h3
    case hout =>
      rintro D pre C2 W hD hCD hpre hcase hdd
      have hG : W.heap[Q + 1]? = some (.cells #[.int .i64 (pre.length : Int)] 3 (0, 0)) ∧ Ext (fun k => k = Q + 1) W9 W ∧ ((if 0 < stop ∧ stop < (want.length : Int) then stop else (want.length : Int)) = (pre.length : Int)) := by
        rcases hcase with ⟨rfl, rfl, h1, h2, h3⟩ | ⟨rfl, h1, h2, h3, h4⟩
        · refine ⟨h1, h2, ?_⟩
          rw [if_neg]
          rintro ⟨q1, q2⟩
          exact h3 stop.toNat (by omega) (by omega) (by omega)
        · refine ⟨h1, h2, ?_⟩
          have := hpre.length_le
          split <;> omega
      clear hcase
      obtain ⟨h1, h2, h3⟩ := hG
      have hs := h2.size
      have hwl : want.length ≤ 80 := by rw [← HWT.out]; exact Nat.le_trans (pick_len _ _) hnv80
      have hb4W : Below W4.heap.size W4 W := HB48.out.trans ((HB9.out.mono (by omega)).trans (h2.below (by omega) (fun k hk => by omega)))
      have hb5W : Below W5.heap.size W5 W := HB6.out.trans ((HB68.out.mono (by have := HB6.out.size; omega)).trans ((HB9.out.mono (by have := HB6.out.size; omega)).trans (h2.below (by have := HB6.out.size; omega) (fun k hk => by have := HB6.out.size; omega))))
      have hbW : Below (N + 3) W1 W := HB4.out.trans (hb4W.mono HSZ4.out)
      have hwa := h2.heap ((HB9.out.block Q (by omega)).trans HWA.out) (by omega)
      rw [HWT.out] at hwa
      have hDlt : D < W.heap.size := (Array.getElem?_eq_some_iff.1 hdd).1
      have HSW : Hid (∀ W', Below W.heap.size W W' → W'.cell? ⟨N, 0, none⟩ = some (.string nm) ∧ W'.cell? ⟨N, 1, none⟩ = some (.int .i64 par) ∧ W'.cell? ⟨N, 2, none⟩ = some (.slice varsA nvars varsC) ∧ W'.cell? ⟨N, 3, none⟩ = some (.bool rp) ∧ W'.cell? ⟨N, 4, none⟩ = some (.string rto) ∧ W'.cell? ⟨N, 5, none⟩ = some (.int .i64 rcl) ∧ W'.cell? ⟨N, 6, none⟩ = some (.slice fromA nfrom fromC) ∧ W'.cell? ⟨N, 7, none⟩ = some (.slice insA n insC) ∧
          W'.cell? ⟨N + 1, 0, none⟩ = some (.int .i64 stop) ∧ W'.cell? ⟨Q, 0, none⟩ = some (.slice aoW want.length capW) ∧ W'.cell? ⟨Q + 1, 0, none⟩ = some (.int .i64 (pre.length : Int)) ∧ W'.cell? ⟨N + 2, 0, none⟩ = some (.bool false) ∧ W'.frozen? ⟨N + 2, 0, none⟩ = false ∧ Below W.heap.size W W') := by
        intro W' hb
        obtain ⟨k0, k1, k2, k3, k4, k5, k6, k7, k8, k9, k10, _⟩ := HS.out W' (hbW.trans (hb.mono (by omega)))
        refine ⟨k0, k1, k2, k3, k4, k5, k6, k7, k8, ?_, ?_, k9, k10, hb⟩
        · rw [cell_of_row _ _ _ _ _ _ ((hb.block Q (by omega)).trans hwa)]; rfl
        · rw [cell_of_row _ _ _ _ _ _ ((hb.block (Q + 1) (by omega)).trans h1)]; rfl
      have HTW : Hid (∀ W', Below W.heap.size W W' → TabB W' W4.heap.size n nvars S (.slice aoT nvars capT)) := fun W' hb => HT5.out.below (hb5W.trans (hb.mono hb5W.size))
      have HOKW : Hid (∀ W', Below W.heap.size W W' → TabOk W' T RA RB C a b ∧ C.inn W') := fun W' hb => ⟨HOK.out W' (hb4W.trans (hb.mono hb4W.size)), (HK.out W' (hbW.trans (hb.mono (by omega)))).1⟩
      have hcc : C.cells = #[.string nm, .int .i64 par, .slice varsA nvars varsC, .bool rp, .string rto, .int .i64 rcl, .slice fromA nfrom fromC, .slice insA n insC] := by rw [← HC.out, ← HN'.out]; rfl
      have hci : C.ins = ins := by rw [← HC.out]
      obtain ⟨pI, hpI⟩ : ∃ pI, pick (idleAt ins S nvars) n = pI := ⟨_, rfl⟩
      obtain ⟨pL, hpL⟩ : ∃ pL, pick (lastAt ins S nvars v) n = pL := ⟨_, rfl⟩
      have hpIl : pI.length ≤ 150 := by rw [← hpI]; exact Nat.le_trans (pick_len _ _) hn150
      have hpLl : pL.length ≤ 150 := by rw [← hpL]; exact Nat.le_trans (pick_len _ _) hn150
      have HC1 : Hid (∀ W', Below W.heap.size W W' → Calls Tryd.prog 12 #[.pointer (some ⟨T, 0, none⟩)] W' (GivesL W' pI)) := by
        intro W' hb
        have h := tIdle_calls C W' T RA RB a b (HOKW.out W' hb).2 (HOKW.out W' hb).1 (by rw [hci, hcn]; exact HFI.out) (by omega) (by omega)
        rw [hci] at h
        have e := (SameT.idle (ins := ins) (m := nvars) (S := S) (b := b) (by rw [HN'.out]; exact HSM.out) HFI.out).trans ((congrArg (pick (idleAt ins S nvars)) HN'.out).trans hpI)
        exact Eq.mp (congrArg (fun l => Calls Tryd.prog 12 #[.pointer (some ⟨T, 0, none⟩)] W' (GivesL W' l)) e) h
      have HC2 : Hid (∀ W', Below W.heap.size W W' → Calls Tryd.prog 13 #[.agg #[.string nm, .int .i64 par, .slice varsA nvars varsC, .bool rp, .string rto, .int .i64 rcl, .slice fromA nfrom fromC, .slice insA n insC], .slice aoT nvars capT] W' (GivesL W' pI)) := by
        intro W' hb
        have h := refIdle_calls C W' nvars capT aoT S W4.heap.size (HOKW.out W' hb).2 (by rw [hcl]; exact HTW.out W' hb) (by omega) (by omega)
        rw [hcc, hci, HN'.out, hpI] at h
        exact h
      have HC4 : Hid (∀ W', Below W.heap.size W W' → Calls Tryd.prog 15 #[.pointer (some ⟨T, 0, none⟩), .int .i64 v] W' (GivesL W' pL)) := by
        intro W' hb
        have h := tLast_calls C W' T RA RB a b (HOKW.out W' hb).2 (HOKW.out W' hb).1 (by rw [hci]; exact HARGS.out) (by omega) (by omega) v
        rw [hci, hcn] at h
        have e := (SameT.last (ins := ins) (m := nvars) (S := S) (b := b) (by rw [HN'.out]; exact HSM.out) v).trans ((congrArg (pick (lastAt ins S nvars v)) HN'.out).trans hpL)
        exact Eq.mp (congrArg (fun l => Calls Tryd.prog 15 #[.pointer (some ⟨T, 0, none⟩), .int .i64 v] W' (GivesL W' l)) e) h
      have HC5 : Hid (∀ W', Below W.heap.size W W' → Calls Tryd.prog 16 #[.agg #[.string nm, .int .i64 par, .slice varsA nvars varsC, .bool rp, .string rto, .int .i64 rcl, .slice fromA nfrom fromC, .slice insA n insC], .slice aoT nvars capT, .int .i64 v] W' (GivesL W' pL)) := by
        intro W' hb
        have h := refLast_calls C W' nvars capT aoT S W4.heap.size (HOKW.out W' hb).2 (by rw [hci]; exact HARGS.out) (by rw [hcl]; exact HTW.out W' hb) (by omega) (by omega) v
        rw [hcc, hci, HN'.out, hpL] at h
        exact h
      have HC3 : Hid (∀ W', Below W.heap.size W W' → Calls Tryd.prog 14 #[.pointer (some ⟨T, 0, none⟩)] W' fun e w' => e = .returned (.int .i64 ((mostOf ((nvars + 63) / 64) b n : Nat) : Int)) ∧ W' = w') := by
        intro W' hb
        have h := most_calls W' T RA RB C a b (HOKW.out W' hb).1 (by omega) (by omega)
        rw [hcn, hcl] at h
        exact h
      have HC7 : Hid (∀ (W' : World) (l : List Nat) (p1 p2 c1 c2 : Nat) (ao1 ao2 : Option Addr), l.length ≤ 150 → OwnI W' p1 (.slice ao1 l.length c1) (ints l) → OwnI W' p2 (.slice ao2 l.length c2) (ints l) → Calls Tryd.prog 11 #[.slice ao1 l.length c1, .slice ao2 l.length c2] W' fun e w' => e = .returned (.bool true) ∧ ∃ m, w' = W'.drewN m) := by
        intro W' l p1 p2 c1 c2 ao1 ao2 hl o1 o2
        have hlen : (ints l).length = l.length := by simp [ints]
        have h := numbers_quiet W' p1 p2 c1 c2 ao1 ao2 (ints l) (by omega) (by rw [hlen]; exact o1) (by rw [hlen]; exact o2)
        rw [hlen] at h
        exact h
      have HCV : Hid (∀ W', Below W.heap.size W W' → ∀ j : Nat, Calls Tryd.prog 9 #[.slice aoT nvars capT, .int .i64 (j : Int)] W' (GivesL W' (pick (atRow S n (j : Int)) nvars))) := fun W' hb j => refVars_calls W' W4.heap.size n nvars capT aoT S j (HTW.out W' hb) (by omega) (by omega)
      have HBW := Lib.hid hbW
      have HDD := Lib.hid hdd
      obtain ⟨k0, k1, k2, k3, k4, k5, k6, k7, k8, k9, k10, k11, k12, _⟩ := HSW.out W (Below.refl _ _)
      have HP := Lib.hid h3
      clear h1 h2 hb4W hb5W hbW hwa hcc hci hpI hpL hdd h3 hit hgf hgn hgb hpre
      have hv1 : 0 < stop → stop < (want.length : Int) → stop = (pre.length : Int) := fun c1 c2 => by have := HP.out; rwa [if_pos ⟨c1, c2⟩] at this
      have hv2 : ¬ (0 < stop ∧ stop < (want.length : Int)) → (want.length : Int) = (pre.length : Int) := fun c1 => by have := HP.out; rwa [if_neg c1] at this
      have HV1 := Lib.hid hv1
      have HV2 := Lib.hid hv2
      clear hv1 hv2
      go_upto_region 16 with (fail)
      obtain ⟨qq, hqq⟩ : ∃ qq, decide (0 < stop ∧ stop < (want.length : Int)) = qq := ⟨_, rfl⟩
      have HQQ := Lib.hid hqq
      clear hqq
      go_cut [59] from 53 to 60 (fun s59 wc => s59 = .bool qq ∧ wc = W)
      case first =>
        by_cases c1 : 0 < stop
        · by_cases c2 : stop < (want.length : Int)
          · have HC : Hid (0 < stop ∧ stop < (want.length : Int)) := ⟨c1, c2⟩
            go_wp2
            go_meet
            case rel => exact ⟨by rw [← HQQ.out, decide_eq_true HC.out], rfl⟩
          · have HC : Hid (¬ (0 < stop ∧ stop < (want.length : Int))) := fun h => c2 h.2
            have c3 : decide (stop < (want.length : Int)) = false := decide_eq_false c2
            go_wp2
            go_meet
            case rel => exact ⟨by rw [← HQQ.out, decide_eq_false HC.out], rfl⟩
        · have HC : Hid (¬ (0 < stop ∧ stop < (want.length : Int))) := fun h => c1 h.1
          have c3 : decide (0 < stop) = false := decide_eq_false c1
          go_wp2
          go_meet
          case rel => exact ⟨by rw [← HQQ.out, decide_eq_false HC.out], rfl⟩
      obtain ⟨rfl, rfl⟩ := hcut
      go_upto_if 59 with (fail)
      go_cut [14] from 60 to 61 (fun s14 wx => s14 = .int .i64 (pre.length : Int) ∧ wx = wc)
      case first =>
        cases qq with
        | true =>
          have HC : Hid (0 < stop ∧ stop < (want.length : Int)) := Lib.hid (of_decide_eq_true (p := 0 < stop ∧ stop < (want.length : Int)) HQQ.out)
          go_wp2
          go_meet
          case rel => exact ⟨by rw [HV1.out HC.out.1 HC.out.2], rfl⟩
        | false =>
          have HC : Hid (¬ (0 < stop ∧ stop < (want.length : Int))) := Lib.hid (of_decide_eq_false (p := 0 < stop ∧ stop < (want.length : Int)) HQQ.out)
          go_wp2
          go_meet
          case rel => exact ⟨by rw [HV2.out HC.out], rfl⟩
      case rest =>
        obtain ⟨rfl, rfl⟩ := hcut
        obtain ⟨kk, hkk⟩ : ∃ kk, (nvars + 63) / 64 = kk := ⟨_, rfl⟩
        rw [hkk] at HC3
        have HKK := Lib.hid hkk
        clear hkk
        go_wp2_with fail
        go_loopw [15, 16] (fun t cc wr => ∃ j : Nat, j ≤ n ∧ cc = .int .i64 (j : Int) ∧ t = .int .i64 ((mostOf kk b j : Nat) : Int) ∧ Below wc.heap.size wc wr) (fun _ cc _ => n - (intOf cc).toNat)
        case atStart => exact ⟨0, Nat.zero_le _, rfl, rfl, Below.refl _ _⟩
        case round =>
          obtain ⟨j, hj, rfl, rfl, hbr⟩ := hrel
          have HBR := Lib.hid hbr
          clear hbr k0 k1 k2 k3 k4 k5 k6 k7 k8 k9 k10 k11 k12
          obtain ⟨k0, k1, k2, k3, k4, k5, k6, k7, k8, k9, k10, k11, k12, _⟩ := HSW.out wr HBR.out
          by_cases hjl : j < n
          · have hjI : (j : Int) < (n : Int) := by omega
            have hmo := mostOf_le kk b j
            have hmx : max ((mostOf kk b j : Nat) : Int) (((pick (atRow S n (j : Int)) nvars).length : Nat) : Int) = ((mostOf kk b (j + 1) : Nat) : Int) := by
              rw [← HSM.out.count hjl, HKK.out]; simp only [mostOf]; omega
            have HMX := Lib.hid hmx
            clear hmx hmo
            go_wp2_with (go_at_call 9; refine (HCV.out wr HBR.out j).mono ?_; rintro e w9 ⟨ao9, cap9, rfl, hown9, hb9⟩)
            go_roundw
            case rel => exact ⟨j + 1, by omega, by go_num, by rw [HMX.out], HBR.out.trans (hb9.mono HBR.out.size)⟩
            case measure => simp [intOf]; omega
          · have hje : j = n := by omega
            subst hje
            have HSS : Hid (∀ w', Below wc.heap.size wc w' → w'.cell? ⟨N, 0, none⟩ = some (.string nm) ∧ w'.cell? ⟨N, 1, none⟩ = some (.int .i64 par) ∧ w'.cell? ⟨N, 2, none⟩ = some (.slice varsA nvars varsC) ∧ w'.cell? ⟨N, 3, none⟩ = some (.bool rp) ∧ w'.cell? ⟨N, 4, none⟩ = some (.string rto) ∧ w'.cell? ⟨N, 5, none⟩ = some (.int .i64 rcl) ∧ w'.cell? ⟨N, 6, none⟩ = some (.slice fromA nfrom fromC) ∧ w'.cell? ⟨N, 7, none⟩ = some (.slice insA j insC) ∧ w'.cell? ⟨Q + 1, 0, none⟩ = some (.int .i64 (pre.length : Int))) := by
              intro w' hb
              obtain ⟨q0, q1, q2, q3, q4, q5, q6, q7, _, _, q10, _⟩ := HSW.out w' hb
              exact ⟨q0, q1, q2, q3, q4, q5, q6, q7, q10⟩
            have HST : Hid (∀ wx vx, Below wc.heap.size wc wx → ∀ w', w' = wx.setCell ⟨N + 2, 0, none⟩ vx → w'.cell? ⟨N, 0, none⟩ = some (.string nm) ∧ w'.cell? ⟨N, 1, none⟩ = some (.int .i64 par) ∧ w'.cell? ⟨N, 2, none⟩ = some (.slice varsA nvars varsC) ∧ w'.cell? ⟨N, 3, none⟩ = some (.bool rp) ∧ w'.cell? ⟨N, 4, none⟩ = some (.string rto) ∧ w'.cell? ⟨N, 5, none⟩ = some (.int .i64 rcl) ∧ w'.cell? ⟨N, 6, none⟩ = some (.slice fromA nfrom fromC) ∧ w'.cell? ⟨N, 7, none⟩ = some (.slice insA j insC) ∧ w'.cell? ⟨Q + 1, 0, none⟩ = some (.int .i64 (pre.length : Int))) := by
              rintro wx vx hb w' rfl
              obtain ⟨q0, q1, q2, q3, q4, q5, q6, q7, q10⟩ := HSS.out wx hb
              have hx : Ext (· = N + 2) wx (wx.setCell ⟨N + 2, 0, none⟩ vx) := Ext.set1 _ _ _ _
              have := hb.size
              have hlo : ∀ o, (wx.setCell ⟨N + 2, 0, none⟩ vx).cell? ⟨N, o, none⟩ = wx.cell? ⟨N, o, none⟩ := fun o => hx.cell (a := ⟨N, o, none⟩) (by show N < _; omega) (by show N ≠ _; omega)
              exact ⟨(hlo _).trans q0, (hlo _).trans q1, (hlo _).trans q2, (hlo _).trans q3, (hlo _).trans q4, (hlo _).trans q5, (hlo _).trans q6, (hlo _).trans q7, (hx.cell (a := ⟨Q + 1, 0, none⟩) (by show Q + 1 < _; omega) (by show Q + 1 ≠ _; omega)).trans q10⟩
            go_wp2_with fail
            go_region_held3 (fun w' => w'.cell? ⟨N, 0, none⟩ = some (.string nm) ∧ w'.cell? ⟨N, 1, none⟩ = some (.int .i64 par) ∧ w'.cell? ⟨N, 2, none⟩ = some (.slice varsA nvars varsC) ∧ w'.cell? ⟨N, 3, none⟩ = some (.bool rp) ∧ w'.cell? ⟨N, 4, none⟩ = some (.string rto) ∧ w'.cell? ⟨N, 5, none⟩ = some (.int .i64 rcl) ∧ w'.cell? ⟨N, 6, none⟩ = some (.slice fromA nfrom fromC) ∧ w'.cell? ⟨N, 7, none⟩ = some (.slice insA j insC) ∧ w'.cell? ⟨Q + 1, 0, none⟩ = some (.int .i64 (pre.length : Int)))
              (first | (exact HSS.out _ hS.2.2.2.2.2.2.2.2.2.2.2.2.2) | (exact HSS.out _ (below_drewN HBR.out 1)) | (exact HST.out _ _ hS.2.2.2.2.2.2.2.2.2.2.2.2.2 _ rfl))
              (first
                | (go_at_call 12; refine (HC1.out _ (below_drewN HBR.out 1)).mono ?_; rintro e w5 ⟨ao5, cap5, rfl, hown5, hb5⟩; have hS := HSW.out _ ((below_drewN HBR.out 1).trans (hb5.mono (below_drewN HBR.out 1).size)))
                | (go_at_call 13; refine (HC2.out _ hS.2.2.2.2.2.2.2.2.2.2.2.2.2).mono ?_; rintro e w6 ⟨ao6, cap6, rfl, hown6, hb6⟩; have hb6' := hS.2.2.2.2.2.2.2.2.2.2.2.2.2.trans (hb6.mono hS.2.2.2.2.2.2.2.2.2.2.2.2.2.size); have hS := HSW.out _ hb6')
                | (go_at_call 14; refine (HC3.out _ hS.2.2.2.2.2.2.2.2.2.2.2.2.2).mono ?_; rintro e w8 ⟨rfl, rfl⟩)
                | (go_at_call 15; refine (HC4.out _ hS.2.2.2.2.2.2.2.2.2.2.2.2.2).mono ?_; rintro e w9 ⟨ao9, cap9, rfl, hown9, hb9⟩; have hS := HSW.out _ (hS.2.2.2.2.2.2.2.2.2.2.2.2.2.trans (hb9.mono hS.2.2.2.2.2.2.2.2.2.2.2.2.2.size)))
                | (go_at_call 16; refine (HC5.out _ hS.2.2.2.2.2.2.2.2.2.2.2.2.2).mono ?_; rintro e w10 ⟨ao10, cap10, rfl, hown10, hb10⟩; have hS := HSW.out _ (hS.2.2.2.2.2.2.2.2.2.2.2.2.2.trans (hb10.mono hS.2.2.2.2.2.2.2.2.2.2.2.2.2.size)))
                | (go_at_call 11; refine (HC7.out _ pL _ _ _ _ _ _ hpLl (ownsRow_below hown9 hb10) hown10).mono ?_; rintro e w11 ⟨rfl, m11, rfl⟩; have hS := HSW.out _ (below_drewN hS.2.2.2.2.2.2.2.2.2.2.2.2.2 m11))
                | (go_at_call 11; refine (HC7.out _ pI _ _ _ _ _ _ hpIl (ownsRow_below hown5 hb6) hown6).mono ?_; rintro e w7 ⟨rfl, m7, rfl⟩; have hS := HSW.out _ (below_drewN hS.2.2.2.2.2.2.2.2.2.2.2.2.2 m7))
                | (go_at_call 5; refine (alive10_calls _).mono ?_; rintro e w12 ⟨rfl, hb12⟩; have hS := HSW.out _ (hS.2.2.2.2.2.2.2.2.2.2.2.2.2.trans (hb12.mono hS.2.2.2.2.2.2.2.2.2.2.2.2.2.size))))
            have hb12' := hS.2.2.2.2.2.2.2.2.2.2.2.2.2
            have hb19 : Below (N + 3) W1 w12 := HBW.out.trans (hb12'.mono (by omega))
            have HD9 : Hid ((w12.setCell ⟨N + 2, 0, none⟩ (.bool true)).heap[D]? = some (.deferred (some []))) := by
              unfold Hid
              rw [heap_setCell_other _ _ _ _ (by show D ≠ N + 2; omega), hb12'.block D hDlt]; exact HDD.out
            have HB19 := Lib.hid hb19
            clear hb19 hb12' hS hb12 hb10 hown10 hb9 hown9 hb6' hb6 hown6 hb5 hown5 k0 k1 k2 k3 k4 k5 k6 k7 k8 k9 k10 k11 k12
            go_wp2
            refine ⟨[D], rfl, by simp, by intro b hb; simp at hb; subst hb; exact HD9.out, .bool true, fun w' hx => ?_⟩
            obtain ⟨h3, h4⟩ := HY.out w12 w' (· = D) (fun k hk => by omega) HB19.out (hx.mono (fun k hk => by simpa using hk))
            exact ⟨lists_results _ _ _ _ rfl h3, h4⟩
end Go.Proofs.YtpbkkajgcdahcaaDoor
