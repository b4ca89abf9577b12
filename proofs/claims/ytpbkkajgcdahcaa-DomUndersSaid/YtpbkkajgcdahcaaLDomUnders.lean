/- DomUnders, at any code and any numbers: true. -/
import Derived.Test.YtpbkkajgcdahcaaUnder
import Derived.Test.YtpbkkajgcdahcaaNatC
import Derived.Test.YtpbkkajgcdahcaaSepX
import Derived.Test.YtpbkkajgcdahcaaNumbers
import Derived.Test.YtpbkkajgcdahcaaLDomPaths
import Derived.Deep.RegionHeld3
namespace Go.Proofs.Ytpbkkajgcdahcaa
open Go.RowKit
attribute [local go_sem] Oper.semAt_some

theorem unders_results (tmps : Array Value) (w : World) (ad : Addr) (v : Value) (ht : tmps[6]? = some (.pointer (some ad))) (hc : w.cell? ad = some v) : (results Try.f12 tmps).run Try.prog w = .ok v w := by
  simp [results, go_sem, ht, hc]

private theorem fold_one (p : Tmp) (v : Value) (t : Array Value) : ((#[p] : Array Tmp).zip #[v]).foldl (fun t (p, v) => t.setIfInBounds p v) t = t.setIfInBounds p v := by simp

/-- What the law wants. -/
def wantL (o : Nat → Option Nat) (q : List Nat) (n : Nat) (at_ : Int) (j : Nat) : List Nat := (List.range j).filter fun b => decide (0 ≤ at_) && decide (at_ < (n : Int)) && decide (overI o q (b : Int) = at_)

theorem wantL_succ (o : Nat → Option Nat) (q : List Nat) (n : Nat) (at_ : Int) (j : Nat) : wantL o q n at_ (j + 1) = if (decide (0 ≤ at_) && decide (at_ < (n : Int)) && decide (overI o q (j : Int) = at_)) = true then wantL o q n at_ j ++ [j] else wantL o q n at_ j := by
  unfold wantL
  rw [List.range_succ, List.filter_append, List.filter_cons]
  split <;> simp

theorem wantL_len (o : Nat → Option Nat) (q : List Nat) (n : Nat) (at_ : Int) (j : Nat) : (wantL o q n at_ j).length ≤ j := Nat.le_trans (List.length_filter_le _ _) (by simp)

theorem wantL_und {o : Nat → Option Nat} {q : List Nat} {n : Nat} (hq : Ord n q) (ht : Tr q (plN q) o) (at_ : Int) : wantL o q n at_ n = undOf o q at_ n := by
  have hov : ∀ b : Nat, 0 ≤ at_ → (overI o q (b : Int) = at_ ↔ oI (o b) = at_) := by
    intro b h0
    unfold overI
    rw [inQ_nat, Int.toNat_natCast]
    by_cases hb : b ∈ q
    · rw [decide_eq_true hb, if_pos rfl]
    · rw [decide_eq_false hb, if_neg (by decide)]
      constructor
      · intro h; omega
      · intro h
        cases e : o b with
        | none => rw [e] at h; simp only [oI] at h; omega
        | some p => exact absurd (ht.up b p e).1 hb
  by_cases hin : 0 ≤ at_ ∧ at_ < (n : Int)
  · unfold undOf
    have e1 : wantL o q n at_ n = undL o at_ n := by
      unfold wantL undL
      refine List.filter_congr fun b _ => ?_
      rw [decide_eq_true hin.1, decide_eq_true hin.2, Bool.true_and, Bool.true_and, decide_eq_decide]
      exact hov b hin.1
    rw [e1]
    cases e : inQ q at_ with
    | true => rw [if_pos rfl]
    | false =>
      rw [if_neg (by decide)]
      unfold undL
      rw [List.filter_eq_nil_iff]
      intro b _ h
      have h' : oI (o b) = at_ := of_decide_eq_true h
      cases eo : o b with
      | none => rw [eo] at h'; simp only [oI] at h'; omega
      | some p =>
        rw [eo] at h'
        simp only [oI] at h'
        have hp := (ht.up b p eo).2.2.1
        rw [← h', inQ_nat, decide_eq_true hp] at e
        cases e
  · have e1 : wantL o q n at_ n = [] := by
      unfold wantL
      rw [List.filter_eq_nil_iff]
      intro b _ h
      rw [Bool.and_eq_true, Bool.and_eq_true, decide_eq_true_eq, decide_eq_true_eq] at h
      exact hin h.1
    rw [e1]
    unfold undOf
    rw [if_neg]
    intro h
    obtain ⟨x, rfl, hx⟩ := inQ_iff.1 h
    have := hq.lt x hx
    exact hin ⟨by omega, by omega⟩

/-- The row that the law is making, in its box. -/
def WantI (Q : Nat) (W7 : World) (xs : List Nat) (wr : World) : Prop :=
  ∃ ao cap, wr.heap[Q]? = some (.cells #[.slice ao xs.length cap] 27 (0, 0)) ∧ wr.ownsRow (Q + 1) 3 1 (.slice ao xs.length cap) xs.length ((ints xs).map (Value.int .i64)) ∧ Ext (fun k => Q ≤ k) W7 wr

theorem WantI.app {Q : Nat} {W7 wr w5 : World} {xs : List Nat} {ao : Option Addr} {cap g cap5 j : Nat} {ob : Obj} (hq : wr.heap[Q]? = some (.cells #[.slice ao xs.length cap] 27 (0, 0))) (hown : wr.ownsRow (Q + 1) 3 1 (.slice ao xs.length cap) xs.length ((ints xs).map (Value.int .i64))) (hx : Ext (fun k => Q ≤ k) W7 wr)
    (hown5 : w5.ownsRow (Q + 1) 3 1 (.slice (some ⟨g, 0, none⟩) (xs.length + 1) cap5) (xs.length + 1) ((ints xs).map (Value.int .i64) ++ [.int .i64 (j : Int)])) (hg : (wr.alloc ob).grownBy w5 (Value.slice ao xs.length cap).ownBlock) :
    (w5.cell? ⟨Q, 0, none⟩ = some (.slice ao xs.length cap) ∧ w5.frozen? ⟨Q, 0, none⟩ = false) ∧ WantI Q W7 (xs ++ [j]) (w5.setCell ⟨Q, 0, none⟩ (.slice (some ⟨g, 0, none⟩) (xs.length + 1) cap5)) := by
  have hob : ∀ k, (Value.slice ao xs.length cap).ownBlock = some k → Q + 1 ≤ k := fun k hk => (hown.lt k hk).1
  have hx5 : Ext (fun k => (Value.slice ao xs.length cap).ownBlock = some k) wr w5 := ((Ext.refl _ wr).alloc _).trans (Ext.of_grown (M := fun k => (Value.slice ao xs.length cap).ownBlock = some k) hg (fun k hk => .inl hk)) (fun j hj => .inl hj)
  have hq5 := hx5.heap hq (fun h => by have := hob _ h; omega)
  have hxs : Ext (· = Q) w5 (w5.setCell ⟨Q, 0, none⟩ (.slice (some ⟨g, 0, none⟩) (xs.length + 1) cap5)) := Ext.set1 _ _ _ _
  refine ⟨⟨by rw [cell_of_row _ _ _ _ _ _ hq5]; rfl, frozen_of_row _ _ _ _ _ hq5⟩, some ⟨g, 0, none⟩, cap5, ?_, ?_, (hx.trans hx5 (fun k hk => .inl (by have := hob _ hk; omega))).trans hxs (fun k hk => .inl (by omega))⟩
  · rw [heap_setCell_same _ _ _ _ _ _ hq5]; simp
  · have e1 : (xs ++ [j]).length = xs.length + 1 := by simp
    have e2 : (ints (xs ++ [j])).map (Value.int .i64) = (ints xs).map (Value.int .i64) ++ [.int .i64 (j : Int)] := by simp [ints]
    rw [e1, e2]
    refine ⟨hown5.1, ?_⟩
    rcases hown5.2 with h' | ⟨g', cap', cur, q1, q2, q3, q4⟩
    · exact .inl h'
    · exact .inr ⟨g', cap', cur, q1, q2, hxs.heap q3 (by omega), q4⟩

set_option maxRecDepth 100000 in
set_option maxHeartbeats 8000000 in
theorem domUnders_calls (c : Cod) (at_ stop : Int) (w : World) (hin : c.inn w) : Calls Try.prog 12 #[.agg c.cells, .int .i64 at_, .int .i64 stop] w (YesD w) := by
  have HIN := Lib.hid hin
  obtain ⟨C, hC⟩ : ∃ C, c = C := ⟨_, rfl⟩
  have HC := Lib.hid hC
  clear hin
  obtain ⟨nm, par, varsA, nvars, varsC, rp, rto, rcl, fromA, nfrom, fromC, insA, insC, ins⟩ := c
  simp only [Cod.cells]
  obtain ⟨n, hn⟩ : ∃ n, ins.length = n := ⟨_, rfl⟩
  have HN' := Lib.hid hn
  obtain ⟨N, hN⟩ : ∃ N, w.heap.size = N := ⟨_, rfl⟩
  obtain ⟨W1, hW1⟩ : ∃ W1, ((w.alloc (.cells #[.string nm, .int .i64 par, .slice varsA nvars varsC, .bool rp, .string rto, .int .i64 rcl, .slice fromA nfrom fromC, .slice insA n insC] 30)).alloc (.cells #[.int .i64 stop] 3)).alloc (.cells #[.bool false] 4) = W1 := ⟨_, rfl⟩
  have hb1 : Below w.heap.size w W1 := by rw [← hW1]; exact (((Below.refl _ _).alloc (Nat.le_refl _) _).alloc (by simp) _).alloc (by simp; omega) _
  have hsz : W1.heap.size = N + 3 := by rw [← hW1]; simp [hN]
  have hx0 : W1.heap[N]? = some (.cells #[.string nm, .int .i64 par, .slice varsA nvars varsC, .bool rp, .string rto, .int .i64 rcl, .slice fromA nfrom fromC, .slice insA n insC] 30 (0, 0)) := by
    rw [← hW1, ← hN, Below.heap_alloc _ _ _ (by simp; omega), Below.heap_alloc _ _ _ (by simp)]; exact alloc_at _ _
  have hstp : W1.heap[N + 1]? = some (.cells #[.int .i64 stop] 3 (0, 0)) := by
    rw [← hW1, ← hN, Below.heap_alloc _ _ _ (by simp)]
    have := alloc_at (w.alloc (.cells #[.string nm, .int .i64 par, .slice varsA nvars varsC, .bool rp, .string rto, .int .i64 rcl, .slice fromA nfrom fromC, .slice insA n insC] 30)) (.cells #[.int .i64 stop] 3)
    rwa [World.size_alloc] at this
  have hres : W1.heap[N + 2]? = some (.cells #[.bool false] 4 (0, 0)) := by
    rw [← hW1, ← hN]
    have := alloc_at ((w.alloc (.cells #[.string nm, .int .i64 par, .slice varsA nvars varsC, .bool rp, .string rto, .int .i64 rcl, .slice fromA nfrom fromC, .slice insA n insC] 30)).alloc (.cells #[.int .i64 stop] 3)) (.cells #[.bool false] 4)
    rwa [World.size_alloc, World.size_alloc] at this
  have hin1 := HIN.out.below hb1
  have HS : Hid (∀ W, Below (N + 3) W1 W → W.cell? ⟨N, 0, none⟩ = some (.string nm) ∧ W.cell? ⟨N, 1, none⟩ = some (.int .i64 par) ∧ W.cell? ⟨N, 2, none⟩ = some (.slice varsA nvars varsC) ∧ W.cell? ⟨N, 3, none⟩ = some (.bool rp) ∧ W.cell? ⟨N, 4, none⟩ = some (.string rto) ∧ W.cell? ⟨N, 5, none⟩ = some (.int .i64 rcl) ∧ W.cell? ⟨N, 6, none⟩ = some (.slice fromA nfrom fromC) ∧ W.cell? ⟨N, 7, none⟩ = some (.slice insA n insC) ∧ W.cell? ⟨N + 1, 0, none⟩ = some (.int .i64 stop) ∧ W.cell? ⟨N + 2, 0, none⟩ = some (.bool false) ∧ W.frozen? ⟨N + 2, 0, none⟩ = false) := by
    intro W h1
    have h4 := (h1.block N (by omega)).trans hx0
    have h6 := (h1.block (N + 1) (by omega)).trans hstp
    have h5 := (h1.block (N + 2) (by omega)).trans hres
    refine ⟨?_, ?_, ?_, ?_, ?_, ?_, ?_, ?_, ?_, ?_, frozen_of_row _ _ _ _ _ h5⟩
    all_goals first
      | (rw [cell_of_row _ _ _ _ _ _ h4]; rfl)
      | (rw [cell_of_row _ _ _ _ _ _ h6]; rfl)
      | (rw [cell_of_row _ _ _ _ _ _ h5]; rfl)
  have HK : Hid (∀ W, Below (N + 3) W1 W → C.inn W ∧ N + 3 ≤ W.heap.size) := fun W hb => ⟨by rw [← hC]; exact hin1.below (by rw [hsz]; exact hb), by have := hb.size; omega⟩
  have HY : Hid (∀ Wx w' (M : Nat → Prop), (∀ k, M k → N + 3 ≤ k) → Below (N + 3) W1 Wx → Ext M (Wx.setCell ⟨N + 2, 0, none⟩ (.bool true)) w' → w'.cell? ⟨N + 2, 0, none⟩ = some (.bool true) ∧ YesD w (.returned (.bool true)) w') := by
    intro Wx w' M hM hb hx
    have hsx : N + 3 ≤ Wx.heap.size := by have := hb.size; omega
    have h0 : Ext (fun k => N ≤ k) w W1 := Ext.of_below (by rw [hN] at hb1; exact hb1)
    have h1 : Ext (fun k => N ≤ k) w (Wx.setCell ⟨N + 2, 0, none⟩ (.bool true)) := (h0.trans (Ext.of_below hb) (fun k hk => .inl (by omega))).trans (Ext.set1 _ _ _ _) (fun k hk => .inl (by omega))
    have h2 : Ext (fun k => N ≤ k) w w' := h1.trans hx (fun k hk => .inl (by have := hM k hk; omega))
    obtain ⟨_, _, _, _, _, _, _, _, _, k8, _⟩ := HS.out Wx hb
    refine ⟨?_, rfl, by rw [hN]; exact h2.below (by omega) (fun _ h => h)⟩
    rw [hx.cell (a := ⟨N + 2, 0, none⟩) (by rw [World.size_setCell]; show N + 2 < _; omega) (fun h => by have := hM _ h; simp only at this; omega)]
    first | exact World.cell?_setCell_same _ k8 | exact World.cell?_setCell_same _ _ k8 | exact World.cell?_setCell_same _ _ _ k8
  have hcc : C.cells = #[.string nm, .int .i64 par, .slice varsA nvars varsC, .bool rp, .string rto, .int .i64 rcl, .slice fromA nfrom fromC, .slice insA n insC] := by rw [← hC, ← hn]; rfl
  have HLI : Hid (∀ W, Below (N + 3) W1 W → Calls Try.prog 28 #[.agg #[.string nm, .int .i64 par, .slice varsA nvars varsC, .bool rp, .string rto, .int .i64 rcl, .slice fromA nfrom fromC, .slice insA n insC]] W (SaysIf W W.heap.size C.fit9)) := by
    intro W hb; rw [← hcc]; exact light9_calls C W (HK.out W hb).1
  have HOF : Hid (∀ W, Below (N + 3) W1 W → C.fit9 → Calls Try.prog 30 #[.agg #[.string nm, .int .i64 par, .slice varsA nvars varsC, .bool rp, .string rto, .int .i64 rcl, .slice fromA nfrom fromC, .slice insA n insC]] W (DomMade C W)) := by
    intro W hb hf; rw [← hcc]; exact domOf_calls C W (HK.out W hb).1 hf.1
  have hs1 : N + 3 ≤ W1.heap.size := by omega
  have HW1 := Lib.hid hW1
  rw [hn]
  clear hb1 hsz hx0 hstp hres hin1 hW1 HIN hC hcc hn
  (refine calls_of_wp_marks Try.func12 rfl ?_
   simp only [Try.ntmps12, List.size_toArray, List.length_cons, List.length_nil, Nat.reduceAdd, Nat.reduceSub, Array.replicate_succ,
     Array.replicate_zero, List.push_toArray, List.append_toArray, List.nil_append, List.cons_append])
  go_upto_region 3 with (go_at_call 29; rw [HW1.out]; refine (alive9_calls _).mono ?_; rintro e w2 ⟨rfl, hb2⟩)
  have hb2' : Below (N + 3) W1 w2 := hb2.mono hs1
  obtain ⟨k0, k1, k2, k3, k4, k5, k6, k7, k8, k9, k10⟩ := HS.out w2 hb2'
  have HB2 := Lib.hid hb2'
  clear hb2 hb2'
  go_wp2_with fail
  go_at_call 28
  refine (HLI.out w2 HB2.out).mono ?_
  rintro e w3 ⟨fb, rfl, hfb, hb3⟩
  have hb3' : Below (N + 3) W1 w3 := HB2.out.trans (hb3.mono (HK.out w2 HB2.out).2)
  clear k0 k1 k2 k3 k4 k5 k6 k7 k8 k9 k10
  have HFB := Lib.hid hfb
  have HB3 := Lib.hid hb3'
  clear hfb hb3 hb3'
  cases fb with
  | false =>
    go_wp2_with fail
    go_at_call 29
    refine (alive9_calls _).mono ?_
    rintro e w4 ⟨rfl, hb4⟩
    have hb4' : Below (N + 3) W1 w4 := HB3.out.trans (hb4.mono (HK.out w3 HB3.out).2)
    obtain ⟨_, _, _, _, _, _, _, _, _, k9, k10⟩ := HS.out w4 hb4'
    have HB4 := Lib.hid hb4'
    clear hb4 hb4'
    go_wp2
    refine ⟨[], rfl, by simp, by simp, .bool true, fun w' hx => ?_⟩
    obtain ⟨h1, h2⟩ := HY.out w4 w' _ (fun k hk => by simp at hk) HB4.out hx
    exact ⟨unders_results _ _ _ _ rfl h1, h2⟩
  | true =>
    have HFIT : Hid C.fit9 := HFB.out rfl
    obtain ⟨k0, k1, k2, k3, k4, k5, k6, k7, k8, k9, k10⟩ := HS.out w3 HB3.out
    clear HFB
    go_wp2_with fail
    go_at_call 30
    refine (HOF.out w3 HB3.out HFIT.out).mono ?_
    rintro e W4 ⟨T, O, PL, R, H, o, q, rfl, hT, htree, hdt, hrows, hb4⟩
    have hb4' : Below (N + 3) W1 W4 := HB3.out.trans (hb4.mono (HK.out w3 HB3.out).2)
    have hci' : C.ins = ins := by rw [← HC.out]
    have hci : C.ins.length = n := by rw [hci']; exact HN'.out
    have hn60 : n ≤ 60 := by rw [← hci]; exact HFIT.out.1
    rw [hci] at htree hrows
    rw [hci'] at hdt hrows
    have hord : Ord n q := by rw [← HN'.out]; exact hdt.ord.ord
    have HT : Hid (∀ W, Below W4.heap.size W4 W → TreeI W T O PL R n o q ∧ RowsB W R H n (behindOf ins)) := fun W hb => ⟨htree.below hb, hrows.ext (M := fun _ => False) (Ext.of_below_size hb) (fun _ _ _ h => h)⟩
    have HQ := Lib.hid hord
    have HD := Lib.hid hdt
    have HB4 := Lib.hid hb4'
    have h4 := (HK.out W4 hb4').2
    have HTA : Hid (Calls Try.prog 31 #[.agg #[.string nm, .int .i64 par, .slice varsA nvars varsC, .bool rp, .string rto, .int .i64 rcl, .slice fromA nfrom fromC, .slice insA n insC]] W4 (Tab9P ins q W4)) := by
      have h := table9_calls C W4 (HK.out W4 hb4').1 (by omega) q (by rw [hci']; exact hdt.ord)
      have hcc : C.cells = #[.string nm, .int .i64 par, .slice varsA nvars varsC, .bool rp, .string rto, .int .i64 rcl, .slice fromA nfrom fromC, .slice insA n insC] := by rw [← HC.out, ← HN'.out]; rfl
      rw [hcc, hci'] at h
      exact h
    clear k0 k1 k2 k3 k4 k5 k6 k7 k8 k9 k10 hT htree hdt hrows hb4 hb4' hord
    obtain ⟨k0, k1, k2, k3, k4, k5, k6, k7, k8, k9, k10⟩ := HS.out W4 HB4.out
    go_wp2_with fail
    go_at_call 31
    refine HTA.out.mono ?_
    rintro e W5 ⟨R9, bs, f, rfl, hR9, htj, hfs, hb5⟩
    have hft : FT n o q f := by rw [← HN'.out]; exact FT.of HD.out hfs
    rw [HN'.out] at htj ⊢
    have HTJ : Hid (∀ W, Below W5.heap.size W5 W → TabJ W R9 n n bs f) := fun W hb => htj.below hb
    have HFT := Lib.hid hft
    have HB5 := Lib.hid hb5
    have h45 := hb5.size
    clear hR9 htj hfs hft hb5 k0 k1 k2 k3 k4 k5 k6 k7 k8 k9 k10
    have HO9 : Hid (∀ W, Below W5.heap.size W5 W → ∀ a : Int, Calls Try.prog 34 #[.slice (some ⟨R9, 0, none⟩) n n, .int .i64 a] W (OverP o q a W)) := fun W hb a => over9_calls W R9 bs f (HTJ.out W hb) HFT.out HQ.out HD.out.tr (by omega) a
    obtain ⟨Q, hQ⟩ : ∃ Q, W5.heap.size = Q := ⟨_, rfl⟩
    obtain ⟨W7, hW7⟩ : ∃ W7, W5.alloc (.cells #[.slice none 0 0] 27) = W7 := ⟨_, rfl⟩
    have hW7' : W7.heap[Q]? = some (.cells #[.slice none 0 0] 27 (0, 0)) := by rw [← hW7, ← hQ]; exact alloc_at _ _
    have hx57 : Ext (fun _ => False) W5 W7 := by rw [← hW7]; exact (Ext.refl _ _).alloc _
    have HW0 : Hid (WantI Q W7 [] W7) := ⟨none, 0, hW7', World.ownsRow_nil _ _ _ _, Ext.refl _ _⟩
    have HX57 := Lib.hid hx57
    have hs7 : W7.heap.size = Q + 1 := by rw [← hW7]; simp [hQ]
    have HBX : Hid (∀ W, Ext (fun k => Q ≤ k) W7 W → Below W5.heap.size W5 W) := fun W hx => ((HX57.out.mono (M' := fun k => Q ≤ k) (fun _ h => h.elim)).trans hx (fun k hk => .inl hk)).below (Nat.le_refl _) (fun k hk => by omega)
    clear hx57 hW7'
    go_wp2_with fail
    try rw [hW7]
    try rw [hQ]
    go_loopw [10] (fun c wr => ∃ j : Nat, j ≤ n ∧ c = .int .i64 (j : Int) ∧ WantI Q W7 (wantL o q n at_ j) wr) (fun c _ => n - (intOf c).toNat)
    case atStart => exact ⟨0, Nat.zero_le _, rfl, HW0.out⟩
    case round =>
      obtain ⟨j, hj, rfl, ao, cap, hq1, hown, hx⟩ := hrel
      have hlen := wantL_len o q n at_ j
      have cq : wr.cell? ⟨Q, 0, none⟩ = some (.slice ao (wantL o q n at_ j).length cap) := by rw [cell_of_row _ _ _ _ _ _ hq1]; rfl
      have hszr : Q + 1 ≤ wr.heap.size := by have := hx.size; omega
      by_cases hjn : j < n
      · have hjI : (j : Int) < (n : Int) := by omega
        have hws := wantL_succ o q n at_ j
        obtain ⟨xs, hxs⟩ : ∃ xs, wantL o q n at_ j = xs := ⟨_, rfl⟩
        rw [hxs] at hq1 hown hlen cq hws
        have hbx := HBX.out wr hx
        have HOV := Lib.hid (HO9.out wr hbx (j : Int))
        have HWI : Hid (WantI Q W7 xs wr) := ⟨ao, cap, hq1, hown, hx⟩
        have HQ1 := Lib.hid hq1
        have HOWN := Lib.hid hown
        have HX := Lib.hid hx
        have HWS := Lib.hid hws
        clear hq1 hown hx hws hbx hxs
        by_cases a1 : 0 ≤ at_
        · by_cases a2 : at_ < (n : Int)
          · go_wp2_with fail
            go_at_call 34
            refine HOV.out.mono ?_
            rintro e w6 ⟨rfl, hw6⟩
            rw [hw6]
            clear hw6
            obtain ⟨z, hz⟩ : ∃ z, overI o q (j : Int) = z := ⟨_, rfl⟩
            rw [hz] at HWS ⊢
            by_cases hza : z = at_
            · have hzI : (z == at_) = true := by rw [hza]; simp
              have HE : Hid (wantL o q n at_ (j + 1) = xs ++ [j]) := by unfold Hid; rw [HWS.out, if_pos (by simp [a1, a2, hza])]
              obtain ⟨j0, hj0, hj1, hj2, hj3⟩ := info_parts info_int
              clear hz hza
              go_wp2_with (at_builtin; refine wpList_append_lies _ rfl _ _ 27 rfl (Q + 1) 3 j0 (.int .i64 0) 1 8 Try.underlying27 hj0 hj1 hj2 hj3 rfl (by decide) _ xs.length _ rfl (ownsRow_below HOWN.out ((Below.refl wr.heap.size wr).alloc (Nat.le_refl _) _)) ⟨wr.heap.size, 0, none⟩ 1 1 [.int .i64 (j : Int)] rfl rfl (cells_new _ _ _) (by simp [Value.oneCell']) (by decide) ?c1 ?c2 ?c3 _ rfl ?_)
              case c1 => unfold maxLen; omega
              case c2 => omega
              case c3 => first | omega | (rw [World.size_alloc]; omega)
              intro g5 cap5 w5 hown5 hgrow5 _ _
              obtain ⟨⟨cq5, fq5⟩, hw5⟩ := WantI.app HQ1.out HOWN.out HX.out hown5 hgrow5
              have HW5 := Lib.hid hw5
              clear hown5 hgrow5 hw5
              go_wp2
              go_roundw
              case rel => exact ⟨j + 1, by omega, by go_num, by rw [HE.out]; exact HW5.out⟩
              case measure => simp [intOf]; omega
            · have hzI : (z == at_) = false := by rw [beq_eq_false_iff_ne]; exact hza
              have HE : Hid (wantL o q n at_ (j + 1) = xs) := by unfold Hid; rw [HWS.out, if_neg (by simp [a1, a2, hza])]
              clear hz hza
              go_wp2
              go_roundw
              case rel => exact ⟨j + 1, by omega, by go_num, by rw [HE.out]; exact HWI.out⟩
              case measure => simp [intOf]; omega
          · have d2 : decide (at_ < (n : Int)) = false := decide_eq_false a2
            have HE : Hid (wantL o q n at_ (j + 1) = xs) := by unfold Hid; rw [HWS.out, d2]; simp
            clear a2
            go_wp2
            go_roundw
            case rel => exact ⟨j + 1, by omega, by go_num, by rw [HE.out]; exact HWI.out⟩
            case measure => simp [intOf]; omega
        · have d1 : decide (0 ≤ at_) = false := decide_eq_false a1
          have HE : Hid (wantL o q n at_ (j + 1) = xs) := by unfold Hid; rw [HWS.out, d1]; simp
          clear a1
          go_wp2
          go_roundw
          case rel => exact ⟨j + 1, by omega, by go_num, by rw [HE.out]; exact HWI.out⟩
          case measure => simp [intOf]; omega
      · have hje : j = n := by omega
        subst hje
        obtain ⟨want, hwant⟩ : ∃ want, wantL o q j at_ j = want := ⟨_, rfl⟩
        have hund : undOf o q at_ j = want := by rw [← wantL_und HQ.out HD.out.tr]; exact hwant
        rw [hwant] at hq1 hown hlen cq
        have hbx := HBX.out wr hx
        go_upto_region 14 with (fail)
        obtain ⟨X, hX⟩ : ∃ X, wr.heap.size = X := ⟨_, rfl⟩
        obtain ⟨W8, hW8⟩ : ∃ W8, wr.alloc (.cells #[.int .i64 0] 3) = W8 := ⟨_, rfl⟩
        have hc8 : W8.heap[X]? = some (.cells #[.int .i64 0] 3 (0, 0)) := by rw [← hW8, ← hX]; exact alloc_at _ _
        have hb8 : Below wr.heap.size wr W8 := by rw [← hW8]; exact (Below.refl _ _).alloc (Nat.le_refl _) _
        have hs8 : W8.heap.size = X + 1 := by rw [← hW8]; simp [hX]
        rw [hW8]
        try rw [hX]
        have hbx8 : Below W5.heap.size W5 W8 := hbx.trans (hb8.mono hbx.size)
        have hb48 : Below W4.heap.size W4 W8 := HB5.out.trans (hbx8.mono h45)
        have hQX : Q + 1 ≤ X := by omega
        go_wp2_with fail
        go_at_call 48
        refine (under_calls W8 (some ⟨T, 0, none⟩) at_).mono ?_
        rintro e W9 ⟨rfl, hW9⟩
        rw [hs8]
        have hp1 : W9.heap[X + 1]? = some (.cells #[.pointer (some ⟨T, 0, none⟩)] 48 (0, 0)) := by
          rw [hW9, ← hs8, Below.heap_alloc _ _ _ (by simp)]; exact alloc_at _ _
        have hp2 : W9.heap[X + 1 + 1]? = some (.cells #[.int .i64 at_] 3 (0, 0)) := by
          rw [hW9, ← hs8]
          have := alloc_at (W8.alloc (.cells #[.pointer (some ⟨T, 0, none⟩)] 48)) (.cells #[.int .i64 at_] 3)
          rwa [World.size_alloc] at this
        have hb9 : Below W8.heap.size W8 W9 := by rw [hW9]; exact ((Below.refl _ _).alloc (Nat.le_refl _) _).alloc (by simp) _
        have hs9 : W9.heap.size = X + 3 := by rw [hW9]; simp [hs8]
        have hb49 : Below W4.heap.size W4 W9 := hb48.trans (hb9.mono hb48.size)
        have ht9 := (HT.out W9 hb49).1
        have ht4 := (HT.out W4 (Below.refl _ _)).1
        have l1 := (Array.getElem?_eq_some_iff.1 ht4.tree).1
        have l2 := (Array.getElem?_eq_some_iff.1 ht4.over).1
        have l3 := (Array.getElem?_eq_some_iff.1 ht4.place).1
        have hwl : want.length ≤ 60 := by omega
        have hit := under1_iter W9 (X + 1) at_ hp1 hp2 ht9 HQ.out (by omega)
        rw [hund] at hit
        have hc9 := (hb9.block X (by omega)).trans hc8
        have hq9 := (hb9.block Q (by omega)).trans ((hb8.block Q (by omega)).trans hq1)
        have HOW9 : Hid (∀ k u : Nat, want[k]? = some u → ∃ g, ao = some ⟨g, 0, none⟩ ∧ g < X ∧ Q < g ∧ W9.cell? ⟨g, k, none⟩ = some (.int .i64 (u : Int))) := by
          intro k u hk
          have ho : OwnI wr (Q + 1) (.slice ao want.length cap) (ints want) := by
            unfold OwnI
            have e : (ints want).length = want.length := by simp [ints]
            rw [e]; exact hown
          obtain ⟨g, e1, e2, e3, e4⟩ := ho.shape (by simp [ints]; have := (List.getElem?_eq_some_iff.1 hk).1; omega)
          exact ⟨g, e1, by omega, by omega, by rw [hb9.cell (p := ⟨g, k, none⟩) (by show g < _; omega), hb8.cell (p := ⟨g, k, none⟩) e3]; exact e4 k u (by simp [ints, hk])⟩
        have HB9 := Lib.hid (hbx8.trans (hb9.mono hbx8.size))
        have HBN : Hid (∀ W, Below W5.heap.size W5 W → Below (N + 3) W1 W) := fun W hb => HB4.out.trans ((HB5.out.trans (hb.mono h45)).mono h4)
        have HC9 := Lib.hid hc9
        have HQ9 := Lib.hid hq9
        have HIT := Lib.hid hit
        clear hW9 hp1 hp2 hb9 hb49 ht9 ht4 hit hc9 hq9 hown hq1 hx hbx hW8 hc8 hb8 hbx8 hb48 cq
        go_wp2_with fail
        refine wp_rangeFunc_out (α := Nat) (gf := 74) rfl Try.func74 (by rfl) rfl HIT.out ?hbel ?hRd (fun _ => rfl)
          (fun pre C W => C = (fun k => k = X) ∧ W.heap[X]? = some (.cells #[.int .i64 (pre.length : Int)] 3 (0, 0)) ∧ Ext (fun k => k = X) W9 W ∧ ∀ q : Nat, 1 ≤ q → q ≤ pre.length → (q : Int) ≠ stop)
          (fun pre C W => C = (fun k => k = X) ∧ W.heap[X]? = some (.cells #[.int .i64 (pre.length : Int)] 3 (0, 0)) ∧ Ext (fun k => k = X) W9 W ∧ 1 ≤ pre.length ∧ (pre.length : Int) = stop) ?hI ?hIC ?hIx (fun k => k = X) ?h0 ?hround ?hout
        case hbel => exact Below.refl _ _
        case hRd => rintro k (h | h | h | h | h) <;> omega
        case hI =>
          rintro pre C W W' ⟨rfl, h1, h2, h3⟩ hx
          exact ⟨rfl, hx.heap h1 (fun h => h.2 rfl), h2.trans hx (fun j hj => .inr hj.1), h3⟩
        case hIx =>
          rintro pre C W W' ⟨rfl, h1, h2, h3⟩ hx
          exact ⟨rfl, hx.heap h1 (fun h => h.2 rfl), h2.trans hx (fun j hj => .inr hj.1), h3⟩
        case hIC =>
          rintro pre C W ⟨rfl, h1, h2, h3⟩ k rfl
          exact ⟨(Array.getElem?_eq_some_iff.1 h1).1, by rintro (h | h | h | h | h) <;> omega⟩
        case h0 => exact ⟨rfl, HC9.out, Ext.refl _ _, fun q h1 h2 => absurd (Nat.le_trans h1 h2) (by simp)⟩
        case hround =>
          rintro l pre x C W hl ⟨rfl, h1, h2, h3⟩ hpre
          have hpl : pre.length < want.length := by have := hpre.length_le; simp at this; omega
          have hwx : want[pre.length]? = some x := by
            obtain ⟨t, ht⟩ := hpre
            rw [← ht]; simp
          unfold undEnc
          rw [fold_one]
          simp only [List.setIfInBounds_toArray, List.set_cons_zero, List.set_cons_succ]
          have HI := Lib.hid (And.intro h1 (And.intro h2 h3))
          clear h1 h2 h3 hpre
          obtain ⟨F, hF⟩ : ∃ F, F = Fence.wide.inRound l := ⟨_, rfl⟩
          have hFr : F.round = some l := by rw [hF]; rfl
          have hFf : ∀ f, F.fn f := fun f => by rw [hF]; trivial
          have hFd : F.depth = none := by rw [hF]; rfl
          rw [← hF]
          clear hF
          gi_wp2
          refine ⟨_, fun k hk => .inl hk, ⟨rfl, HI.out.1, HI.out.2.1, HI.out.2.2⟩, Ext.refl _ _, ?_⟩
          rintro W₂ ⟨_, g1, g2, g3⟩ hl2
          have hs2 := g2.size
          have hcn2 : W₂.cell? ⟨X, 0, none⟩ = some (.int .i64 (pre.length : Int)) := by rw [cell_of_row _ _ _ _ _ _ g1]; rfl
          have hfz2 : W₂.frozen? ⟨X, 0, none⟩ = false := frozen_of_row _ _ _ _ _ g1
          have hcw2 : W₂.cell? ⟨Q, 0, none⟩ = some (.slice ao want.length cap) := by rw [cell_of_row _ _ _ _ _ _ (g2.heap HQ9.out (by omega))]; rfl
          have hbW2 : Below (N + 3) W1 W₂ := HBN.out _ (HB9.out.trans (g2.below (by omega) (fun k hk => by omega)))
          have hst2 := (HS.out W₂ hbW2).2.2.2.2.2.2.2.2.1
          obtain ⟨g, hga, hgX, hgQ, hcg⟩ := HOW9.out _ _ hwx
          have hcx2 : W₂.cell? ⟨g, pre.length, none⟩ = some (.int .i64 (x : Int)) := by
            rw [g2.cell (a := ⟨g, pre.length, none⟩) (by show g < _; omega) (by show g ≠ _; omega)]; exact hcg
          rw [hga] at hcw2
          have hd0 : decide ((want.length : Int) ≤ (pre.length : Int)) = false := decide_eq_false (by omega)
          have hd1 : (pre.length : Int) < (want.length : Int) := by omega
          have hxs : Ext (· = X) W₂ (W₂.setCell ⟨X, 0, none⟩ (.int .i64 ((pre.length : Int) + 1))) := Ext.set1 _ _ _ _
          have hG1 : (W₂.setCell ⟨X, 0, none⟩ (.int .i64 ((pre.length : Int) + 1))).heap[X]? = some (.cells #[.int .i64 ((pre.length : Int) + 1)] 3 (0, 0)) := by
            rw [heap_setCell_same _ _ _ _ _ _ g1]; rfl
          have hst3 : (W₂.setCell ⟨X, 0, none⟩ (.int .i64 ((pre.length : Int) + 1))).cell? ⟨N + 1, 0, none⟩ = some (.int .i64 stop) := by
            rw [hxs.cell (a := ⟨N + 1, 0, none⟩) (by show N + 1 < _; omega) (by show N + 1 ≠ _; omega)]; exact hst2
          have hc3 : (W₂.setCell ⟨X, 0, none⟩ (.int .i64 ((pre.length : Int) + 1))).cell? ⟨X, 0, none⟩ = some (.int .i64 ((pre.length : Int) + 1)) := by rw [cell_of_row _ _ _ _ _ _ hG1]; rfl
          have hwr : IntKind.i64.wrap ((pre.length : Int) + 1) = (pre.length : Int) + 1 := by rw [IntKind.wrap_i64]; omega
          clear g1 hbW2
          have hG : Ext (fun k => k = X) W9 (W₂.setCell ⟨X, 0, none⟩ (.int .i64 ((pre.length : Int) + 1))) := g2.trans hxs (fun j hj => .inl hj)
          have HG := Lib.hid (And.intro hG1 (And.intro hG hxs))
          have HG3 := Lib.hid g3
          have hle : ((pre ++ [x]).length : Int) = (pre.length : Int) + 1 := by simp
          clear g2 g3 hG hxs hl2
          obtain ⟨sb, hsb⟩ : ∃ sb, ((pre.length : Int) + 1 == stop) = sb := ⟨_, rfl⟩
          cases sb with
          | true =>
            have HSE : Hid ((pre.length : Int) + 1 = stop) := by unfold Hid; simpa using hsb
            gi_wp2
            refine ⟨_, fun k hk => .inl hk, ⟨rfl, rfl, ?_, HG.out.2.1, by simp, by rw [hle]; exact HSE.out⟩, HG.out.2.2⟩
            rw [hle]; exact HG.out.1
          | false =>
            have HSE : Hid ((pre.length : Int) + 1 ≠ stop) := by unfold Hid; simpa using hsb
            gi_wp2
            refine ⟨_, fun k hk => .inl hk, ⟨rfl, ?_, HG.out.2.1, fun q h1 h2 => ?_⟩, HG.out.2.2⟩
            · rw [hle]; exact HG.out.1
            · rw [List.length_append] at h2
              simp at h2
              rcases Nat.lt_or_ge pre.length q with h3 | h3
              · have : q = pre.length + 1 := by omega
                subst this; push_cast; exact HSE.out
              · exact HG3.out q h1 h3
        case hout =>
          rintro D pre C2 W hD hCD hpre hcase hdd
          have hG : W.heap[X]? = some (.cells #[.int .i64 (pre.length : Int)] 3 (0, 0)) ∧ Ext (fun k => k = X) W9 W ∧ ((if 0 < stop ∧ stop < (want.length : Int) then stop else (want.length : Int)) = (pre.length : Int)) := by
            rcases hcase with ⟨rfl, rfl, h1, h2, h3⟩ | ⟨rfl, h1, h2, h3, h4⟩
            · refine ⟨h1, h2, ?_⟩
              rw [if_neg]
              rintro ⟨q1, q2⟩
              exact h3 stop.toNat (by omega) (by omega) (by omega)
            · refine ⟨h1, h2, ?_⟩
              have := hpre.length_le
              split <;> omega
          clear hcase
          obtain ⟨h1, h2, h3⟩ := hG
          have hs := h2.size
          have hb5W : Below W5.heap.size W5 W := HB9.out.trans (h2.below (by omega) (fun k hk => by omega))
          have hb4W : Below W4.heap.size W4 W := HB5.out.trans (hb5W.mono h45)
          have hbW : Below (N + 3) W1 W := HBN.out W hb5W
          have hwa := h2.heap HQ9.out (by omega)
          have hDlt : D < W.heap.size := (Array.getElem?_eq_some_iff.1 hdd).1
          have hs4W := hb4W.size
          have hs5W := hb5W.size
          have HSW : Hid (∀ W', Below W.heap.size W W' → W'.cell? ⟨N, 0, none⟩ = some (.string nm) ∧ W'.cell? ⟨N, 1, none⟩ = some (.int .i64 par) ∧ W'.cell? ⟨N, 2, none⟩ = some (.slice varsA nvars varsC) ∧ W'.cell? ⟨N, 3, none⟩ = some (.bool rp) ∧ W'.cell? ⟨N, 4, none⟩ = some (.string rto) ∧ W'.cell? ⟨N, 5, none⟩ = some (.int .i64 rcl) ∧ W'.cell? ⟨N, 6, none⟩ = some (.slice fromA nfrom fromC) ∧ W'.cell? ⟨N, 7, none⟩ = some (.slice insA j insC) ∧ W'.cell? ⟨N + 1, 0, none⟩ = some (.int .i64 stop) ∧ W'.cell? ⟨Q, 0, none⟩ = some (.slice ao want.length cap) ∧ W'.cell? ⟨X, 0, none⟩ = some (.int .i64 (pre.length : Int)) ∧ W'.cell? ⟨N + 2, 0, none⟩ = some (.bool false) ∧ W'.frozen? ⟨N + 2, 0, none⟩ = false ∧ Below W.heap.size W W') := by
            intro W' hb
            obtain ⟨k0, k1, k2, k3, k4, k5, k6, k7, k8, k9, k10⟩ := HS.out W' (hbW.trans (hb.mono (by omega)))
            refine ⟨k0, k1, k2, k3, k4, k5, k6, k7, k8, ?_, ?_, k9, k10, hb⟩
            · rw [cell_of_row _ _ _ _ _ _ ((hb.block Q (by omega)).trans hwa)]; rfl
            · rw [cell_of_row _ _ _ _ _ _ ((hb.block X (by omega)).trans h1)]; rfl
          have hcc : C.cells = #[.string nm, .int .i64 par, .slice varsA nvars varsC, .bool rp, .string rto, .int .i64 rcl, .slice fromA nfrom fromC, .slice insA j insC] := by rw [← HC.out, ← HN'.out]; rfl
          have hPl : ∀ x y, y ∈ behindOf ins x → y < j := fun x y hy => by rw [← HN'.out]; exact ((mem_behindOf ins y x).1 hy).1
          have hPn : ∀ x, (behindOf ins x).length ≤ 120 := fun x => by have := behindOf_len ins x; have := HN'.out; omega
          obtain ⟨Tl, hTl⟩ : ∃ Tl, ∀ hd : Nat, at_ = (hd : Int) → hd < j → bfs (succN (behindOf ins) hd) (j + 1) (natI (behindOf ins) (f hd) hd) 0 = some Tl ∧ Tl.Nodup ∧ ∀ x ∈ Tl, x < j := by
            obtain ⟨_, _, Tl, t1, t2, t3⟩ := nat_exists (P := behindOf ins) (dm := f at_.toNat) (hd := at_.toNat) hPl
            refine ⟨Tl, fun hd he _ => ?_⟩
            have : at_.toNat = hd := by omega
            rw [← this]
            exact ⟨t1, t2, t3⟩
          obtain ⟨RS, hRS⟩ : ∃ RS, (if 0 ≤ at_ ∧ at_ < (j : Int) then natL j at_.toNat (natI (behindOf ins) (f at_.toNat) at_.toNat) Tl else []) = RS := ⟨_, rfl⟩
          have hRSl : RS.length ≤ 60 := by
            rw [← hRS]
            split
            · unfold natL
              split
              · simp
              · exact Nat.le_trans (List.length_filter_le _ _) (by simp; omega)
            · simp
          have HC1 : Hid (∀ W', Below W.heap.size W W' → Calls Try.prog 49 #[.pointer (some ⟨T, 0, none⟩), .int .i64 at_] W' (GivesL' W' RS)) := by
            intro W' hb
            have hb4' := hb4W.trans (hb.mono hs4W)
            have h := natural_calls W' (HT.out W' hb4').1 (HT.out W' hb4').2 HQ.out HD.out.tr HD.out.all HFT.out (by omega) hPl hPn at_ Tl hTl
            rw [hRS] at h
            exact h
          have HC2 : Hid (∀ W', Below W.heap.size W W' → Calls Try.prog 50 #[.agg #[.string nm, .int .i64 par, .slice varsA nvars varsC, .bool rp, .string rto, .int .i64 rcl, .slice fromA nfrom fromC, .slice insA j insC], .slice (some ⟨R9, 0, none⟩) j j, .int .i64 at_] W' (GivesL' W' RS)) := by
            intro W' hb
            have h := natural9_calls C W' (HK.out W' (hbW.trans (hb.mono (by omega)))).1 (by omega) R9 bs f (by rw [hci]; exact HTJ.out W' (hb5W.trans (hb.mono hs5W))) at_ Tl (by rw [hci, hci']; exact hTl)
            rw [hcc, hci', HN'.out, hRS] at h
            exact h
          have HC7 : Hid (∀ (W' : World) (l : List Nat) (p1 p2 c1 c2 : Nat) (ao1 ao2 : Option Addr), l.length ≤ 60 → OwnI W' p1 (.slice ao1 l.length c1) (ints l) → OwnI W' p2 (.slice ao2 l.length c2) (ints l) → Calls Try.prog 36 #[.slice ao1 l.length c1, .slice ao2 l.length c2] W' fun e w' => e = .returned (.bool true) ∧ ∃ m, w' = W'.drewN m) := by
            intro W' l p1 p2 c1 c2 ao1 ao2 hl o1 o2
            have hlen : (ints l).length = l.length := by simp [ints]
            have h := numbers_quiet W' p1 p2 c1 c2 ao1 ao2 (ints l) (by omega) (by rw [hlen]; exact o1) (by rw [hlen]; exact o2)
            rw [hlen] at h
            exact h
          have hv1 : 0 < stop → stop < (want.length : Int) → stop = (pre.length : Int) := fun c1 c2 => by rwa [if_pos ⟨c1, c2⟩] at h3
          have hv2 : ¬ (0 < stop ∧ stop < (want.length : Int)) → (want.length : Int) = (pre.length : Int) := fun c1 => by rwa [if_neg c1] at h3
          have HV1 := Lib.hid hv1
          have HV2 := Lib.hid hv2
          have HBW := Lib.hid hbW
          have HDD := Lib.hid hdd
          obtain ⟨k0, k1, k2, k3, k4, k5, k6, k7, k8, k9, k10, k11, k12, _⟩ := HSW.out W (Below.refl _ _)
          clear h1 h2 hb4W hb5W hbW hwa hcc hdd h3 hpre hv1 hv2 hPl hPn hTl hRS
          go_upto_region 21 with (fail)
          obtain ⟨qq, hqq⟩ : ∃ qq, decide (0 < stop ∧ stop < (want.length : Int)) = qq := ⟨_, rfl⟩
          have HQQ := Lib.hid hqq
          clear hqq
          go_cut [78] from 72 to 79 (fun s78 wx => s78 = .bool qq ∧ wx = W)
          case first =>
            by_cases c1 : 0 < stop
            · by_cases c2 : stop < (want.length : Int)
              · have HC : Hid (0 < stop ∧ stop < (want.length : Int)) := ⟨c1, c2⟩
                go_wp2
                go_meet
                case rel => exact ⟨by rw [← HQQ.out, decide_eq_true HC.out], rfl⟩
              · have HC : Hid (¬ (0 < stop ∧ stop < (want.length : Int))) := fun h => c2 h.2
                have c3 : decide (stop < (want.length : Int)) = false := decide_eq_false c2
                go_wp2
                go_meet
                case rel => exact ⟨by rw [← HQQ.out, decide_eq_false HC.out], rfl⟩
            · have HC : Hid (¬ (0 < stop ∧ stop < (want.length : Int))) := fun h => c1 h.1
              have c3 : decide (0 < stop) = false := decide_eq_false c1
              go_wp2
              go_meet
              case rel => exact ⟨by rw [← HQQ.out, decide_eq_false HC.out], rfl⟩
          obtain ⟨rfl, rfl⟩ := hcut
          go_upto_if 78 with (fail)
          go_cut [13] from 79 to 80 (fun s13 wx => s13 = .int .i64 (pre.length : Int) ∧ wx = wc)
          case first =>
            cases qq with
            | true =>
              have HC : Hid (0 < stop ∧ stop < (want.length : Int)) := Lib.hid (of_decide_eq_true (p := 0 < stop ∧ stop < (want.length : Int)) HQQ.out)
              go_wp2
              go_meet
              case rel => exact ⟨by rw [HV1.out HC.out.1 HC.out.2], rfl⟩
            | false =>
              have HC : Hid (¬ (0 < stop ∧ stop < (want.length : Int))) := Lib.hid (of_decide_eq_false (p := 0 < stop ∧ stop < (want.length : Int)) HQQ.out)
              go_wp2
              go_meet
              case rel => exact ⟨by rw [HV2.out HC.out], rfl⟩
          obtain ⟨rfl, rfl⟩ := hcut
          have HSS : Hid (∀ w', Below wc.heap.size wc w' → w'.cell? ⟨N, 0, none⟩ = some (.string nm) ∧ w'.cell? ⟨N, 1, none⟩ = some (.int .i64 par) ∧ w'.cell? ⟨N, 2, none⟩ = some (.slice varsA nvars varsC) ∧ w'.cell? ⟨N, 3, none⟩ = some (.bool rp) ∧ w'.cell? ⟨N, 4, none⟩ = some (.string rto) ∧ w'.cell? ⟨N, 5, none⟩ = some (.int .i64 rcl) ∧ w'.cell? ⟨N, 6, none⟩ = some (.slice fromA nfrom fromC) ∧ w'.cell? ⟨N, 7, none⟩ = some (.slice insA j insC) ∧ w'.cell? ⟨X, 0, none⟩ = some (.int .i64 (pre.length : Int))) := by
            intro w' hb
            obtain ⟨q0, q1, q2, q3, q4, q5, q6, q7, _, _, q10, _⟩ := HSW.out w' hb
            exact ⟨q0, q1, q2, q3, q4, q5, q6, q7, q10⟩
          have HST : Hid (∀ wx vx, Below wc.heap.size wc wx → ∀ w', w' = wx.setCell ⟨N + 2, 0, none⟩ vx → w'.cell? ⟨N, 0, none⟩ = some (.string nm) ∧ w'.cell? ⟨N, 1, none⟩ = some (.int .i64 par) ∧ w'.cell? ⟨N, 2, none⟩ = some (.slice varsA nvars varsC) ∧ w'.cell? ⟨N, 3, none⟩ = some (.bool rp) ∧ w'.cell? ⟨N, 4, none⟩ = some (.string rto) ∧ w'.cell? ⟨N, 5, none⟩ = some (.int .i64 rcl) ∧ w'.cell? ⟨N, 6, none⟩ = some (.slice fromA nfrom fromC) ∧ w'.cell? ⟨N, 7, none⟩ = some (.slice insA j insC) ∧ w'.cell? ⟨X, 0, none⟩ = some (.int .i64 (pre.length : Int))) := by
            rintro wx vx hb w' rfl
            obtain ⟨q0, q1, q2, q3, q4, q5, q6, q7, q10⟩ := HSS.out wx hb
            have hx : Ext (· = N + 2) wx (wx.setCell ⟨N + 2, 0, none⟩ vx) := Ext.set1 _ _ _ _
            have := hb.size
            have hlo : ∀ o, (wx.setCell ⟨N + 2, 0, none⟩ vx).cell? ⟨N, o, none⟩ = wx.cell? ⟨N, o, none⟩ := fun o => hx.cell (a := ⟨N, o, none⟩) (by show N < _; omega) (by show N ≠ _; omega)
            exact ⟨(hlo _).trans q0, (hlo _).trans q1, (hlo _).trans q2, (hlo _).trans q3, (hlo _).trans q4, (hlo _).trans q5, (hlo _).trans q6, (hlo _).trans q7, (hx.cell (a := ⟨X, 0, none⟩) (by show X < _; omega) (by show X ≠ _; omega)).trans q10⟩
          go_wp2_with fail
          go_region_held3 (fun w' => w'.cell? ⟨N, 0, none⟩ = some (.string nm) ∧ w'.cell? ⟨N, 1, none⟩ = some (.int .i64 par) ∧ w'.cell? ⟨N, 2, none⟩ = some (.slice varsA nvars varsC) ∧ w'.cell? ⟨N, 3, none⟩ = some (.bool rp) ∧ w'.cell? ⟨N, 4, none⟩ = some (.string rto) ∧ w'.cell? ⟨N, 5, none⟩ = some (.int .i64 rcl) ∧ w'.cell? ⟨N, 6, none⟩ = some (.slice fromA nfrom fromC) ∧ w'.cell? ⟨N, 7, none⟩ = some (.slice insA j insC) ∧ w'.cell? ⟨X, 0, none⟩ = some (.int .i64 (pre.length : Int)))
            (first | (exact HSS.out _ hS.2.2.2.2.2.2.2.2.2.2.2.2.2) | (exact HSS.out _ (below_drewN (Below.refl _ _) 1)) | (exact HST.out _ _ hS.2.2.2.2.2.2.2.2.2.2.2.2.2 _ rfl))
            (first
              | (go_at_call 49; refine (HC1.out _ (below_drewN (Below.refl _ _) 1)).mono ?_; rintro e w5 ⟨ao5, cap5, rfl, hown5, hb5⟩; have hS := HSW.out _ ((below_drewN (Below.refl _ _) 1).trans (hb5.mono (Nat.le_refl _))))
              | (go_at_call 50; refine (HC2.out _ hS.2.2.2.2.2.2.2.2.2.2.2.2.2).mono ?_; rintro e w6 ⟨ao6, cap6, rfl, hown6, hb6⟩; have hb6' := hS.2.2.2.2.2.2.2.2.2.2.2.2.2.trans (hb6.mono hS.2.2.2.2.2.2.2.2.2.2.2.2.2.size); have hS := HSW.out _ hb6')
              | (go_at_call 36; refine (HC7.out _ RS _ _ _ _ _ _ hRSl (ownsRow_below hown5 hb6) hown6).mono ?_; rintro e w7 ⟨rfl, m7, rfl⟩; have hS := HSW.out _ (below_drewN hS.2.2.2.2.2.2.2.2.2.2.2.2.2 m7))
              | (go_at_call 29; refine (alive9_calls _).mono ?_; rintro e w12 ⟨rfl, hb12⟩; have hS := HSW.out _ (hS.2.2.2.2.2.2.2.2.2.2.2.2.2.trans (hb12.mono hS.2.2.2.2.2.2.2.2.2.2.2.2.2.size))))
          have hb12' := hS.2.2.2.2.2.2.2.2.2.2.2.2.2
          have hb19 : Below (N + 3) W1 w12 := HBW.out.trans (hb12'.mono (by omega))
          have HD9 : Hid ((w12.setCell ⟨N + 2, 0, none⟩ (.bool true)).heap[D]? = some (.deferred (some []))) := by
            unfold Hid
            rw [heap_setCell_other _ _ _ _ (by show D ≠ N + 2; omega), hb12'.block D hDlt]; exact HDD.out
          have HB19 := Lib.hid hb19
          clear hb19 hb12' hS hb12 hb6' hb6 hown6 hb5 hown5 k0 k1 k2 k3 k4 k5 k6 k7 k8 k9 k10 k11 k12
          go_wp2
          refine ⟨[D], rfl, by simp, by intro b hb; simp at hb; subst hb; exact HD9.out, .bool true, fun w' hx => ?_⟩
          obtain ⟨h3, h4⟩ := HY.out w12 w' (· = D) (fun k hk => by omega) HB19.out (hx.mono (fun k hk => by simpa using hk))
          exact ⟨unders_results _ _ _ _ rfl h3, h4⟩
end Go.Proofs.Ytpbkkajgcdahcaa
