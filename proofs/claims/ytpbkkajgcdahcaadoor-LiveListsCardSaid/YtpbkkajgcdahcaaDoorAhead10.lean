/- The reference's Ahead of layer 10. -/
import Derived.Test.YtpbkkajgcdahcaaDoorBfs10
import Derived.Test.YtpbkkajgcdahcaaDoorIn10
import Derived.Test.YtpbkkajgcdahcaaDoorRef5
import Derived.Test.YtpbkkajgcdahcaaDoorLight8
import Derived.Test.YtpbkkajgcdahcaaDoorRBehind
namespace Go.Proofs.YtpbkkajgcdahcaaDoor
open Go.RowKit

theorem start10_succ (ins : List Ins) (v j : Nat) : start10 ins v (j + 1) = if reads10 ins v j = true then start10 ins v j ++ [j] else start10 ins v j := by
  unfold start10
  rw [List.range_succ, List.filter_append, List.filter_cons]
  split <;> simp

theorem start10_len (ins : List Ins) (v j : Nat) : (start10 ins v j).length ≤ j := by
  unfold start10
  exact Nat.le_trans (List.length_filter_le _ _) (by simp)

/-- The first loop: j are looked at. -/
def AhI (ins : List Ins) (v N : Nat) (W0 : World) (va c : Value) (wr : World) : Prop :=
  ∃ j : Nat, j ≤ ins.length ∧ c = .int .i64 (j : Int) ∧ OwnI wr (N + 2) va (ints (start10 ins v j)) ∧ wr.heap[N + 1]? = some (.cells (seenCells ins.length (start10 ins v j)) 4 (0, 0)) ∧ Ext (fun k => N + 1 ≤ k) W0 wr

/-- The second loop: t is to be done, i of it is. -/
def AhJ (ins : List Ins) (v N R : Nat) (W3 : World) (T : List Nat) (k : Nat) (va c : Value) (wr : World) : Prop :=
  ∃ (t : List Nat) (i : Nat), bfs (succ10 ins v) k t i = some T ∧ c = .int .i64 (i : Int) ∧ i ≤ t.length ∧ t.length ≤ 90000 ∧ OwnI wr (N + 2) va (ints t) ∧ wr.heap[N + 1]? = some (.cells (seenCells ins.length t) 4 (0, 0)) ∧ Ext (fun k => N + 1 ≤ k ∧ k < R) W3 wr ∧ (∀ x ∈ t, x < ins.length) ∧ (∀ g, va.ownBlock = some g → g < R ∨ W3.heap.size ≤ g)

/-- Between what leads to one: q are done. -/
def AhK (ins : List Ins) (v N R : Nat) (W3 : World) (t ys : List Nat) (va c : Value) (wr : World) : Prop :=
  ∃ q : Nat, q ≤ ys.length ∧ c = .int .i64 (q : Int) ∧ OwnI wr (N + 2) va (ints (todoStep t ((ys.take q).filter (keeps ins v)))) ∧ wr.heap[N + 1]? = some (.cells (seenCells ins.length (todoStep t ((ys.take q).filter (keeps ins v)))) 4 (0, 0)) ∧ Ext (fun k => N + 1 ≤ k ∧ k < R) W3 wr ∧
    (∀ g, va.ownBlock = some g → g < R ∨ W3.heap.size ≤ g) ∧ (todoStep t ((ys.take q).filter (keeps ins v))).length ≤ t.length + q

set_option maxRecDepth 100000 in
set_option maxHeartbeats 8000000 in
theorem ahead10_calls (c : Cod) (w : World) (v : Nat) (T : List Nat) (hin : c.inn w) (hargs : ∀ i ∈ c.ins, i.args.length ≤ 40) (hn : c.ins.length ≤ 400) (hT : bfs (succ10 c.ins v) (c.ins.length + 1) (start10 c.ins v c.ins.length) 0 = some T) (hTl : T.length ≤ 90000) :
    Calls Tryd.prog 42 #[.agg c.cells, .int .i64 (v : Int)] w (Truthed w c.ins.length T) := by
  have HIN := Lib.hid hin
  have HARGS := Lib.hid hargs
  have HT := Lib.hid hT
  obtain ⟨C, hC⟩ : ∃ C, c = C := ⟨_, rfl⟩
  have HC := Lib.hid hC
  clear hin hargs hT
  obtain ⟨nm, par, varsA, nvars, varsC, rp, rto, rcl, fromA, nfrom, fromC, insA, insC, ins⟩ := c
  simp only at hn
  simp only [Cod.cells]
  obtain ⟨n, hnn⟩ : ∃ n, ins.length = n := ⟨_, rfl⟩
  have HN' := Lib.hid hnn
  obtain ⟨i0, hi0, hz0, hz1, hz2⟩ := info_parts info_bool
  obtain ⟨N, hN⟩ : ∃ N, w.heap.size = N := ⟨_, rfl⟩
  obtain ⟨W0, hW0⟩ : ∃ W0, (w.alloc (.cells #[.string nm, .int .i64 par, .slice varsA nvars varsC, .bool rp, .string rto, .int .i64 rcl, .slice fromA nfrom fromC, .slice insA n insC] 30)).alloc (.cells (Array.replicate n (.bool false)) 4) = W0 := ⟨_, rfl⟩
  have hx0 : Ext (fun _ => False) w W0 := by rw [← hW0]; exact ((Ext.refl _ w).alloc _).alloc _
  have hcode : W0.heap[N]? = some (.cells #[.string nm, .int .i64 par, .slice varsA nvars varsC, .bool rp, .string rto, .int .i64 rcl, .slice fromA nfrom fromC, .slice insA n insC] 30 (0, 0)) := by
    rw [← hW0, ← hN, Below.heap_alloc _ _ _ (by simp)]; exact alloc_at _ _
  have hseen : W0.heap[N + 1]? = some (.cells (seenCells n []) 4 (0, 0)) := by
    rw [← hW0, ← hN, seenCells_nil, List.toArray_replicate]
    have := alloc_at (w.alloc (.cells #[.string nm, .int .i64 par, .slice varsA nvars varsC, .bool rp, .string rto, .int .i64 rcl, .slice fromA nfrom fromC, .slice insA n insC] 30)) (.cells (Array.replicate n (.bool false)) 4)
    rwa [World.size_alloc] at this
  have hs0 : W0.heap.size = N + 2 := by rw [← hW0]; simp [hN]
  have HX0 := Lib.hid hx0
  have HSEEN := Lib.hid hseen
  have HS0 := Lib.hid hs0
  have HK : Hid (∀ W, Ext (fun k => N + 1 ≤ k) W0 W → (W.cell? ⟨N, 0, none⟩ = some (.string nm) ∧ W.cell? ⟨N, 1, none⟩ = some (.int .i64 par) ∧ W.cell? ⟨N, 2, none⟩ = some (.slice varsA nvars varsC) ∧ W.cell? ⟨N, 3, none⟩ = some (.bool rp) ∧ W.cell? ⟨N, 4, none⟩ = some (.string rto) ∧ W.cell? ⟨N, 5, none⟩ = some (.int .i64 rcl) ∧ W.cell? ⟨N, 6, none⟩ = some (.slice fromA nfrom fromC) ∧ W.cell? ⟨N, 7, none⟩ = some (.slice insA n insC)) ∧
      Cod.inn W ⟨nm, par, varsA, nvars, varsC, rp, rto, rcl, fromA, nfrom, fromC, insA, insC, ins⟩ ∧ Below N w W ∧ N + 2 ≤ W.heap.size) := by
    intro W hx
    have h4 := hx.heap hcode (by omega)
    have hb : Below N w W := by
      have : Ext (fun k => N ≤ k) w W := (HX0.out.mono (M' := fun k => N ≤ k) (fun _ h => h.elim)).trans hx (fun k hk => .inl (by omega))
      exact this.below (by omega) (fun _ h => h)
    refine ⟨⟨?_, ?_, ?_, ?_, ?_, ?_, ?_, ?_⟩, HIN.out.below (by rw [hN]; exact hb), hb, by have := hx.size; omega⟩ <;> (rw [cell_of_row _ _ _ _ _ _ h4]; rfl)
  have HW0 := Lib.hid hW0
  rw [hnn]
  rw [hnn] at hn
  clear hx0 hcode hseen hs0 hW0 hnn hC
  go_enter Tryd.func42, Tryd.ntmps42
  go_wp2_with (at_make; refine wpList_make_at rfl (.tmp 18) (.tmp 18) 67 rfl 4 i0 (.bool false) Tryd.underlying67 hi0 hz0 hz1 rfl .i64 .i64 _ _ n rfl rfl rfl rfl (by rw [hz2]; omega) (by unfold maxLen; omega) ?_)
  rw [HW0.out]
  clear hi0 hz0 hz1 hz2
  go_loopw [7, 8] (fun va c wr => AhI ins v N W0 va c wr) (fun _ c _ => n - (intOf c).toNat)
  case atStart => exact ⟨0, Nat.zero_le _, rfl, OwnI.nil _ _, by rw [HN'.out]; exact HSEEN.out, Ext.refl _ _⟩
  case round =>
    obtain ⟨j, hj, rfl, hown, hrow, hx⟩ := hrel
    rw [HN'.out] at hj hrow
    obtain ⟨ao, cap, rfl⟩ := hown.isSlice
    have hlen : (ints (start10 ins v j)).length = (start10 ins v j).length := by simp [ints]
    have hsl := start10_len ins v j
    obtain ⟨⟨k0, k1, k2, k3, k4, k5, k6, k7⟩, hinr, hbN, hszr⟩ := HK.out wr hx
    rw [hlen] at hown ⊢
    have HX := Lib.hid hx
    have HOWN := Lib.hid hown
    have HROW := Lib.hid hrow
    have HINR := Lib.hid hinr
    clear hx hown hrow hinr hbN
    by_cases hjl : j < n
    · obtain ⟨i, hi⟩ : ∃ i, ins[j]? = some i := ⟨_, List.getElem?_eq_getElem (by have := HN'.out; omega)⟩
      have hai := HINR.out.args i (List.mem_of_getElem? hi)
      have hl40 := HARGS.out i (List.mem_of_getElem? hi)
      obtain ⟨b0, off, rfl, hb0, hcell⟩ := HINR.out.row (by intro e; simp only at e; rw [e] at hi; simp at hi)
      have HCA : Hid (∀ q u, i.cells.toList[q]? = some u → wr.cell? ((⟨b0, off + j * 13, none⟩ : Addr).add q) = some u) := fun q u hu => by
        rw [Addr.add_lit]; exact hcell j i hi q u hu
      have HR := Lib.hid (refReads_calls i wr hai hl40)
      have hjI : (j : Int) < (n : Int) := by omega
      have hrl : (readsOf i).length ≤ 42 := readsOf_len i hl40
      have hr10 : reads10 ins v j = decide ((v : Int) ∈ readsOf i) := by unfold reads10; rw [hi]
      have hst := start10_succ ins v j
      rw [hr10] at hst
      clear hi hai hcell hr10
      obtain ⟨st, hst0⟩ : ∃ st, start10 ins v j = st := ⟨_, rfl⟩
      rw [hst0] at hst hlen hsl HOWN HROW ⊢
      clear hst0
      by_cases hm : (v : Int) ∈ readsOf i
      · have hd : decide ((v : Int) ∈ readsOf i) = true := decide_eq_true hm
        rw [hd, if_pos rfl] at hst
        have HST := Lib.hid hst
        have HD := Lib.hid hd
        clear hst hm hd
        go_upto_if 32 with (first | (refine wpList_load_at rfl 53 _ rfl ⟨b0, off + j * 13, none⟩ rfl i.cells _ HCA.out Tryd.underlying53 rfl (by kernel_rfl) ?_) | (go_at_call 20; refine HR.out.mono ?_; rintro e w3 ⟨ao3, cap3, rfl, hown3, hb3⟩) | (go_at_call 34; refine (in10_calls _ cap3 ao3 (readsOf i) (v : Int) (by omega) hown3.at_).mono ?_; rintro e w4 ⟨rfl, rfl⟩; rw [HD.out]))
        have hx3 : Ext (fun _ => False) wr w3 := Ext.of_below_size hb3
        have hrow3 := hx3.heap HROW.out (fun h => h)
        have c1 : w3.cell? ⟨N + 1, j, none⟩ = some (.bool (decide (j ∈ st))) := by rw [cell_of_row _ _ _ _ _ _ hrow3]; exact seenCells_get _ hjl
        have c2 : w3.frozen? ⟨N + 1, j, none⟩ = false := frozen_of_row _ _ _ _ _ hrow3
        have hs3 := hb3.size
        obtain ⟨W4, hW4⟩ : ∃ W4, w3.setCell ⟨N + 1, j, none⟩ (.bool true) = W4 := ⟨_, rfl⟩
        have hsz4 : W4.heap.size = w3.heap.size := by rw [← hW4]; exact World.size_setCell _ _ _
        have hx4 : Ext (· = N + 1) w3 W4 := by rw [← hW4]; exact Ext.set1 _ _ _ _
        have hv4 : OwnI W4 (N + 2) (.slice ao st.length cap) (ints st) := by
          have h3 := ownsRow_below HOWN.out hb3
          refine ⟨h3.1, ?_⟩
          rcases h3.2 with h' | ⟨g, cap', cur, e1, e2, e3, e4⟩
          · exact .inl h'
          · exact .inr ⟨g, cap', cur, e1, e2, hx4.heap e3 (by omega), e4⟩
        have hrw4 : W4.heap[N + 1]? = some (.cells (seenCells n (st ++ [j])) 4 (0, 0)) := by
          rw [← hW4, ← seenCells_set]; exact heap_setCell_same _ _ _ _ _ _ hrow3
        have HV4n : Hid (W4.ownsRow (N + 2) 3 1 (.slice ao st.length cap) st.length ((ints st).map (Value.int .i64))) := by have h := hv4; unfold OwnI at h; rw [hlen] at h; exact h
        have HV4 := Lib.hid hv4
        have HR4 := Lib.hid hrw4
        have HX4 : Hid (Ext (fun k => N + 1 ≤ k) W0 W4) := (HX.out.trans hx3 (fun _ h => h.elim)).trans hx4 (fun k hk => .inl (by omega))
        have HW4 := Lib.hid hW4
        have hlt3 : N + 1 < w3.heap.size := (Array.getElem?_eq_some_iff.1 hrow3).1
        obtain ⟨j0, hj0, hj1, hj2, hj3⟩ := info_parts info_int
        have hib : (ints st).length ≤ 400 := by rw [hlen]; omega
        clear hx3 hrow3 hx4 hv4 hrw4 hW4 hb3 hown3 k0 k1 k2 k3 k4 k5 k6 k7
        go_wp2_with (at_builtin; rw [HW4.out]; refine wpList_append_lies _ rfl _ _ 27 rfl (N + 2) 3 j0 (.int .i64 0) 1 8 Tryd.underlying27 hj0 hj1 hj2 hj3 rfl (by decide) _ st.length _ rfl (ownsRow_below HV4n.out ((Below.refl W4.heap.size W4).alloc (Nat.le_refl _) _)) ⟨w3.heap.size, 0, none⟩ 1 1 [.int .i64 (j : Int)] rfl rfl (by rw [← hsz4]; exact cells_new _ _ _) (by simp [Value.oneCell']) (by decide) ?c1 ?c2 ?c3 _ rfl ?_)
        case c1 => unfold maxLen; omega
        case c2 => omega
        case c3 => rw [World.size_alloc]; omega
        intro g5 cap5 w5 hown5 hgrow5 hat5 hlt5
        have hx5 : Ext (fun k => (Value.slice ao st.length cap).ownBlock = some k) W4 w5 := ((Ext.refl _ W4).alloc _).trans (Ext.of_grown (M := fun k => (Value.slice ao st.length cap).ownBlock = some k) hgrow5 (fun k hk => .inl hk)) (fun j hj => .inl hj)
        have HR5 : Hid (AhI ins v N W0 (.slice (some ⟨g5, 0, none⟩) (st.length + 1) cap5) (.int .i64 ((j : Int) + 1)) w5) := by
          refine ⟨j + 1, by rw [HN'.out]; omega, by simp, ?_, ?_, ?_⟩
          · rw [HST.out]
            have e : ints (st ++ [j]) = ints st ++ [(j : Int)] := by simp [ints]
            rw [e]
            refine OwnI.app ?_
            rw [hlen]; exact hown5
          · rw [HST.out, HN'.out]
            exact hx5.heap HR4.out (fun h => by have := (HV4.out.lt _ h).1; omega)
          · exact HX4.out.trans hx5 (fun k hk => .inl (by have := (HV4.out.lt _ hk).1; omega))
        clear hown5 hgrow5 hat5 hlt5 hx5
        go_wp2
        exact ⟨HR5.out, by simp [intOf]; omega⟩
      · have hd : decide ((v : Int) ∈ readsOf i) = false := decide_eq_false hm
        rw [hd, if_neg (by decide)] at hst
        have HST := Lib.hid hst
        have HD := Lib.hid hd
        clear hst hm hd
        go_upto_if 32 with (first | (refine wpList_load_at rfl 53 _ rfl ⟨b0, off + j * 13, none⟩ rfl i.cells _ HCA.out Tryd.underlying53 rfl (by kernel_rfl) ?_) | (go_at_call 20; refine HR.out.mono ?_; rintro e w3 ⟨ao3, cap3, rfl, hown3, hb3⟩) | (go_at_call 34; refine (in10_calls _ cap3 ao3 (readsOf i) (v : Int) (by omega) hown3.at_).mono ?_; rintro e w4 ⟨rfl, rfl⟩; rw [HD.out]))
        have hx3 : Ext (fun _ => False) wr w3 := Ext.of_below_size hb3
        have HR5 : Hid (AhI ins v N W0 (.slice ao st.length cap) (.int .i64 ((j : Int) + 1)) w3) :=
          ⟨j + 1, by rw [HN'.out]; omega, by simp, by rw [HST.out]; exact ownsRow_below HOWN.out hb3, by rw [HST.out, HN'.out]; exact hx3.heap HROW.out (fun h => h), HX.out.trans hx3 (fun _ h => h.elim)⟩
        clear hx3 hb3 hown3
        go_wp2
        exact ⟨HR5.out, by simp [intOf]; omega⟩
    · have hje : j = n := by omega
      subst hje
      have hRB := rbehind_calls ⟨nm, par, varsA, nvars, varsC, rp, rto, rcl, fromA, nfrom, fromC, insA, insC, ins⟩ wr HINR.out.row (by have := HN'.out; show ins.length ≤ 90000; omega)
      simp only [Cod.cells, HN'.out] at hRB
      have HRB := Lib.hid hRB
      clear hRB
      go_wp2_with (go_at_call 52; refine HRB.out.mono ?_; rintro e W3 ⟨R, rfl, hR, hrows, hb3⟩)
      obtain ⟨hRl, hread⟩ := hrows.read
      have hx3 : Ext (fun _ => False) wr W3 := Ext.of_below_size hb3
      have hs3 := hb3.size
      have HREAD := Lib.hid hread
      have HX3 : Hid (Ext (fun k => N + 1 ≤ k) W0 W3) := HX.out.trans hx3 (fun _ h => h.elim)
      have HJ0 : Hid (AhJ ins v N R W3 T (j + 1) (.slice ao (start10 ins v j).length cap) (.int .i64 0) W3) := by
        have h := HT.out
        rw [HN'.out] at h
        refine ⟨start10 ins v j, 0, h, rfl, Nat.zero_le _, by omega, ownsRow_below HOWN.out hb3, by rw [HN'.out]; exact hx3.heap HROW.out (fun h => h), Ext.refl _ _, fun x hx => ?_, fun g hg => .inl ?_⟩
        · have := (List.mem_filter.1 hx).1
          rw [HN'.out]; simpa using this
        · have := (HOWN.out.lt g hg).2; omega
      clear hrows hb3 hx3 hread
      go_loopg [7, 10] (j + 1) (fun k va c wr2 => AhJ ins v N R W3 T k va c wr2)
      case atStart => exact HJ0.out
      case round =>
        rename_i wr0 _
        obtain ⟨t, i, hbf, rfl, hit, htl, hown, hrow, hx, hlt, hob⟩ := hrel
        rw [HN'.out] at hrow
        obtain ⟨ao2, cap2, rfl⟩ := hown.isSlice
        have hil : (ints t).length = t.length := by simp [ints]
        rw [hil] at hown hob ⊢
        by_cases hil2 : i < t.length
        · obtain ⟨x, hxt⟩ : ∃ x, t[i]? = some x := ⟨_, List.getElem?_eq_getElem hil2⟩
          have hxl : x < j := by have := hlt x (List.mem_of_getElem? hxt); have := HN'.out; omega
          obtain ⟨k, rfl, hbk⟩ : ∃ k, gk = k + 1 ∧ bfs (succ10 ins v) k (todoStep t (succ10 ins v x)) (i + 1) = some T := by
            cases gk with
            | zero => simp [bfs] at hbf
            | succ k => exact ⟨k, rfl, by rw [bfs, hxt] at hbf; exact hbf⟩
          obtain ⟨g, rfl, hg1, hg2, hgc⟩ := hown.shape (by rw [hil]; omega)
          have hcx : wr.cell? ⟨g, i, none⟩ = some (.int .i64 (x : Int)) := hgc i x (by simp [ints, hxt])
          obtain ⟨aoR, capR, hcR, hcells⟩ := HREAD.out x hxl
          have hcR' : wr.cell? ⟨R, x, none⟩ = some (.slice aoR (behindOf ins x).length capR) := by
            rw [hx.cell (a := ⟨R, x, none⟩) hRl (by show ¬ (N + 1 ≤ R ∧ R < R); omega)]; exact hcR
          have hlb : (behindOf ins x).length ≤ 800 := by have := behindOf_len ins x; have := HN'.out; omega
          have hiI : (i : Int) < (t.length : Int) := by omega
          have hxI : (x : Int) < (j : Int) := by omega
          have HCE := Lib.hid hcells
          have HBK := Lib.hid hbk
          have HLT := Lib.hid hlt
          have HK0 : Hid (AhK ins v N R W3 t (behindOf ins x) (.slice (some ⟨g, 0, none⟩) t.length cap2) (.int .i64 0) wr) :=
            ⟨0, Nat.zero_le _, rfl, by simpa [todoStep] using hown, by rw [HN'.out]; simpa [todoStep] using hrow, hx, hob, by simp [todoStep]⟩
          clear hbf hbk hcells hcR hgc hown hrow hx hob hxt hlt
          go_wp2_with fail
          go_loopw [7, 12] (fun va c wr3 => AhK ins v N R W3 t (behindOf ins x) va c wr3) (fun _ c _ => (behindOf ins x).length - (intOf c).toNat)
          case atStart => exact HK0.out
          case round =>
            obtain ⟨q, hq, rfl, hown, hrow, hx, hob, hcnt⟩ := hrel
            rw [HN'.out] at hrow
            obtain ⟨ao3, cap3, rfl⟩ := hown.isSlice
            obtain ⟨t', ht'⟩ : ∃ t', todoStep t (((behindOf ins x).take q).filter (keeps ins v)) = t' := ⟨_, rfl⟩
            rw [ht'] at hown hrow hob hcnt ⊢
            have hil3 : (ints t').length = t'.length := by simp [ints]
            rw [hil3] at hown hob ⊢
            by_cases hql : q < (behindOf ins x).length
            · obtain ⟨y, hy⟩ : ∃ y, (behindOf ins x)[q]? = some y := ⟨_, List.getElem?_eq_getElem hql⟩
              have hyn : y < j := by have := ((mem_behindOf ins y x).1 (List.mem_of_getElem? hy)).1; have := HN'.out; omega
              obtain ⟨g2, rfl, hg2a, hg2b, hgc2⟩ := HCE.out q y hy
              have hcy : wr.cell? ⟨g2, q, none⟩ = some (.int .i64 (y : Int)) := by
                rw [hx.cell (a := ⟨g2, q, none⟩) hg2b (by show ¬ (N + 1 ≤ g2 ∧ g2 < R); omega)]; exact hgc2
              obtain ⟨iy, hiy⟩ : ∃ iy, ins[y]? = some iy := ⟨_, List.getElem?_eq_getElem (by have := HN'.out; omega)⟩
              have hxw : Ext (fun k => N + 1 ≤ k) W0 wr := HX3.out.trans hx (fun k hk => .inl hk.1)
              obtain ⟨⟨_, _, _, _, _, _, _, k7⟩, hinr, _, hszw⟩ := HK.out wr hxw
              obtain ⟨b0, off, rfl, hb0, hcell⟩ := hinr.row (by intro e; simp only at e; rw [e] at hiy; simp at hiy)
              have hai := hinr.args iy (List.mem_of_getElem? hiy)
              have HWR : Hid (∀ W, Calls Tryd.prog 21 #[.agg iy.cells] W fun e w' => e = .returned (.tuple #[.int .i64 (writesOf iy).1, .bool (writesOf iy).2]) ∧ Below W.heap.size W w') := fun W => refWrites_calls iy W hai.1
              have hkp : keeps ins v y = !((writesOf iy).2 && ((writesOf iy).1 == (v : Int))) := by unfold keeps; rw [hiy]
              obtain ⟨⟨⟨ao9, cp9, e9⟩, ao8, n8, cp8, e8⟩, _⟩ := hai
              have hcl := hcell y iy hiy
              obtain ⟨op, d, ia, ib, f, nn, sign, argsV, modeV, tgt, els, ln, cl, args⟩ := iy
              simp only at e8 e9
              subst e8 e9
              simp only [Ins.cells] at HWR
              have r0 : wr.cell? ⟨b0, off + y * 13, none⟩ = some (.int .i64 op) := hcl 0 _ rfl
              have r1 : wr.cell? ⟨b0, off + y * 13 + 1, none⟩ = some (.int .i64 d) := hcl 1 _ rfl
              have r2 : wr.cell? ⟨b0, off + y * 13 + 2, none⟩ = some (.int .i64 ia) := hcl 2 _ rfl
              have r3 : wr.cell? ⟨b0, off + y * 13 + 3, none⟩ = some (.int .i64 ib) := hcl 3 _ rfl
              have r4 : wr.cell? ⟨b0, off + y * 13 + 4, none⟩ = some (.int .i64 f) := hcl 4 _ rfl
              have r5 : wr.cell? ⟨b0, off + y * 13 + 5, none⟩ = some (.int .i64 nn) := hcl 5 _ rfl
              have r6 : wr.cell? ⟨b0, off + y * 13 + 6, none⟩ = some (.string sign) := hcl 6 _ rfl
              have r7 : wr.cell? ⟨b0, off + y * 13 + 7, none⟩ = some (.slice ao9 args.length cp9) := hcl 7 _ rfl
              have r8 : wr.cell? ⟨b0, off + y * 13 + 8, none⟩ = some (.slice ao8 n8 cp8) := hcl 8 _ rfl
              have r9 : wr.cell? ⟨b0, off + y * 13 + 9, none⟩ = some (.int .i64 tgt) := hcl 9 _ rfl
              have r10 : wr.cell? ⟨b0, off + y * 13 + 10, none⟩ = some (.int .i64 els) := hcl 10 _ rfl
              have r11 : wr.cell? ⟨b0, off + y * 13 + 11, none⟩ = some (.int .i64 ln) := hcl 11 _ rfl
              have r12 : wr.cell? ⟨b0, off + y * 13 + 12, none⟩ = some (.int .i64 cl) := hcl 12 _ rfl
              have hyI : (y : Int) < (j : Int) := by omega
              have hqI : (q : Int) < ((behindOf ins x).length : Int) := by omega
              obtain ⟨wd, hwd⟩ : ∃ wd, writesOf (⟨op, d, ia, ib, f, nn, sign, .slice ao9 args.length cp9, .slice ao8 n8 cp8, tgt, els, ln, cl, args⟩ : Ins) = wd := ⟨_, rfl⟩
              rw [hwd] at HWR hkp
              obtain ⟨dv, wb⟩ := wd
              simp only at HWR hkp
              have hsn : todoStep t (((behindOf ins x).take (q + 1)).filter (keeps ins v)) = if keeps ins v y = true then (if y ∈ t' then t' else t' ++ [y]) else t' := by
                rw [List.take_add_one, hy, Option.toList_some, List.filter_append, List.filter_cons]
                by_cases hk : keeps ins v y = true
                · rw [if_pos hk, if_pos hk, List.filter_nil, todoStep_snoc, ht']
                · rw [if_neg hk, if_neg hk, List.filter_nil, List.append_nil, ht']
              have HOWN3 := Lib.hid hown
              have HROW3 := Lib.hid hrow
              have HX4 := Lib.hid hx
              have HOB := Lib.hid hob
              have HSN := Lib.hid hsn
              have HKP := Lib.hid hkp
              have hg2w : g2 < wr.heap.size := by have := hx.size; omega
              have hNw : N < wr.heap.size := by omega
              clear hown hrow hx hob hsn hkp hwd hcl hcell hinr hxw hiy hgc2 ht' hcx hcR'
              go_wp2_with fail
              go_region_held3 (fun w' => w'.cell? ⟨N, 7, none⟩ = some (.slice (some ⟨b0, off, none⟩) j insC) ∧ w'.cell? ⟨g2, q, none⟩ = some (.int .i64 (y : Int)) ∧ w'.cell? ⟨b0, off + y * 13, none⟩ = some (.int .i64 op) ∧ w'.cell? ⟨b0, off + y * 13 + 1, none⟩ = some (.int .i64 d) ∧ w'.cell? ⟨b0, off + y * 13 + 2, none⟩ = some (.int .i64 ia) ∧ w'.cell? ⟨b0, off + y * 13 + 3, none⟩ = some (.int .i64 ib) ∧ w'.cell? ⟨b0, off + y * 13 + 4, none⟩ = some (.int .i64 f) ∧ w'.cell? ⟨b0, off + y * 13 + 5, none⟩ = some (.int .i64 nn) ∧ w'.cell? ⟨b0, off + y * 13 + 6, none⟩ = some (.string sign) ∧ w'.cell? ⟨b0, off + y * 13 + 7, none⟩ = some (.slice ao9 args.length cp9) ∧ w'.cell? ⟨b0, off + y * 13 + 8, none⟩ = some (.slice ao8 n8 cp8) ∧ w'.cell? ⟨b0, off + y * 13 + 9, none⟩ = some (.int .i64 tgt) ∧ w'.cell? ⟨b0, off + y * 13 + 10, none⟩ = some (.int .i64 els) ∧ w'.cell? ⟨b0, off + y * 13 + 11, none⟩ = some (.int .i64 ln) ∧ w'.cell? ⟨b0, off + y * 13 + 12, none⟩ = some (.int .i64 cl))
                (first | (exact hS) | (exact ⟨k7, hcy, r0, r1, r2, r3, r4, r5, r6, r7, r8, r9, r10, r11, r12⟩))
                (first | (go_at_call 21; refine (HWR.out _).mono ?_; rintro e w6 ⟨rfl, hb6⟩; have hS := (And.intro ((hb6.cell (p := ⟨N, 7, none⟩) hNw).trans k7) (And.intro ((hb6.cell (p := ⟨g2, q, none⟩) hg2w).trans hcy) (And.intro ((hb6.cell (p := ⟨b0, _, none⟩) hb0).trans r0) (And.intro ((hb6.cell (p := ⟨b0, _, none⟩) hb0).trans r1) (And.intro ((hb6.cell (p := ⟨b0, _, none⟩) hb0).trans r2) (And.intro ((hb6.cell (p := ⟨b0, _, none⟩) hb0).trans r3) (And.intro ((hb6.cell (p := ⟨b0, _, none⟩) hb0).trans r4) (And.intro ((hb6.cell (p := ⟨b0, _, none⟩) hb0).trans r5) (And.intro ((hb6.cell (p := ⟨b0, _, none⟩) hb0).trans r6) (And.intro ((hb6.cell (p := ⟨b0, _, none⟩) hb0).trans r7) (And.intro ((hb6.cell (p := ⟨b0, _, none⟩) hb0).trans r8) (And.intro ((hb6.cell (p := ⟨b0, _, none⟩) hb0).trans r9) (And.intro ((hb6.cell (p := ⟨b0, _, none⟩) hb0).trans r10) (And.intro ((hb6.cell (p := ⟨b0, _, none⟩) hb0).trans r11) ((hb6.cell (p := ⟨b0, _, none⟩) hb0).trans r12)))))))))))))))))
              clear hS r0 r1 r2 r3 r4 r5 r6 r7 r8 r9 r10 r11 r12 HWR
              have hx6 : Ext (fun _ => False) wr w6 := ((Ext.refl (fun _ => False) wr).drew).trans (Ext.of_below_size hb6 : Ext (fun _ => False) wr.drew w6) (fun _ h => h.elim)
              have hb6' : Below wr.heap.size wr w6 := (Below.refl wr.heap.size wr).drew.trans (show Below wr.heap.size wr.drew w6 from hb6)
              have hrow6 := hx6.heap HROW3.out (fun h => h)
              have hcy6 : w6.cell? ⟨g2, q, none⟩ = some (.int .i64 (y : Int)) := (hb6.cell (p := ⟨g2, q, none⟩) hg2w).trans hcy
              have hown6 : OwnI w6 (N + 2) (.slice ao3 t'.length cap3) (ints t') := ownsRow_below HOWN3.out hb6'
              have hxx6 : Ext (fun k => N + 1 ≤ k ∧ k < R) W3 w6 := HX4.out.trans hx6 (fun _ h => h.elim)
              have hs6 := hx6.size
              obtain ⟨kb, hkb⟩ : ∃ kb, keeps ins v y = kb := ⟨_, rfl⟩
              rw [hkb] at HSN HKP
              obtain ⟨mb, hmb⟩ : ∃ mb, decide (y ∈ t') = mb := ⟨_, rfl⟩
              have c1 : w6.cell? ⟨N + 1, y, none⟩ = some (.bool mb) := by rw [cell_of_row _ _ _ _ _ _ hrow6, seenCells_get _ hyn, hmb]
              have c2 : w6.frozen? ⟨N + 1, y, none⟩ = false := frozen_of_row _ _ _ _ _ hrow6
              have hlt6 : N + 1 < w6.heap.size := (Array.getElem?_eq_some_iff.1 hrow6).1
              have HOWN6 := Lib.hid hown6
              have HROW6 := Lib.hid hrow6
              have HXX6 := Lib.hid hxx6
              have HMB := Lib.hid hmb
              clear hkb hb6 hb6' hx6 hrow6 hown6 hxx6 hmb HOWN3 HROW3 HX4 hcy k7
              go_upto_region 19 with (fail)
              go_cut [89] (fun s89 wc => s89 = .bool (!mb && kb) ∧ wc = w6)
              case first =>
                obtain ⟨E, hE⟩ : ∃ E, (dv == (v : Int)) = E := ⟨_, rfl⟩
                have hk2 := HKP.out
                rw [hE] at hk2
                clear HKP HSN
                subst hk2
                cases mb <;> cases wb <;> cases E <;> (
                  go_wp2
                  go_meet
                  case rel => exact ⟨rfl, rfl⟩)
              case rest =>
                obtain ⟨rfl, rfl⟩ := hcut
                clear HKP
                have hskip : (kb = true → y ∈ t') → AhK ins v N R W3 t (behindOf ins x) (.slice ao3 t'.length cap3) (.int .i64 ((q : Int) + 1)) wc := by
                  intro hh
                  have e : todoStep t (((behindOf ins x).take (q + 1)).filter (keeps ins v)) = t' := by
                    rw [HSN.out]
                    split
                    · rename_i h; rw [if_pos (hh h)]
                    · rfl
                  exact ⟨q + 1, by omega, by simp, by rw [e]; exact HOWN6.out, by rw [e, HN'.out]; exact HROW6.out, HXX6.out, HOB.out, by rw [e]; omega⟩
                have HSK := Lib.hid hskip
                clear hskip
                cases mb with
                | true =>
                  have HR := Lib.hid (HSK.out (fun _ => of_decide_eq_true HMB.out))
                  clear HSK HSN
                  cases kb <;> (
                    go_wp2
                    exact ⟨HR.out, by simp [intOf]; omega⟩)
                | false =>
                  have hnm := of_decide_eq_false HMB.out
                  cases kb with
                  | false =>
                    have HR := Lib.hid (HSK.out (fun h => by cases h))
                    clear hnm
                    go_wp2
                    exact ⟨HR.out, by simp [intOf]; omega⟩
                  | true =>
                    have hsn := HSN.out
                    rw [if_pos rfl, if_neg hnm] at hsn
                    have HS2 := Lib.hid hsn
                    clear HSK HSN hnm hsn
                    obtain ⟨W7, hW7⟩ : ∃ W7, wc.setCell ⟨N + 1, y, none⟩ (.bool true) = W7 := ⟨_, rfl⟩
                    have hsz7 : W7.heap.size = wc.heap.size := by rw [← hW7]; exact World.size_setCell _ _ _
                    have hx7 : Ext (· = N + 1) wc W7 := by rw [← hW7]; exact Ext.set1 _ _ _ _
                    have hv7 : OwnI W7 (N + 2) (.slice ao3 t'.length cap3) (ints t') := by
                      have h3 := HOWN6.out
                      refine ⟨h3.1, ?_⟩
                      rcases h3.2 with h' | ⟨g, cap', cur, e1, e2, e3, e4⟩
                      · exact .inl h'
                      · exact .inr ⟨g, cap', cur, e1, e2, hx7.heap e3 (by omega), e4⟩
                    have hrw7 : W7.heap[N + 1]? = some (.cells (seenCells j (t' ++ [y])) 4 (0, 0)) := by
                      rw [← hW7, ← seenCells_set]; exact heap_setCell_same _ _ _ _ _ _ HROW6.out
                    have HV7n : Hid (W7.ownsRow (N + 2) 3 1 (.slice ao3 t'.length cap3) t'.length ((ints t').map (Value.int .i64))) := by have h := hv7; unfold OwnI at h; rw [hil3] at h; exact h
                    have HV7 := Lib.hid hv7
                    have HR7 := Lib.hid hrw7
                    have HX7 : Hid (Ext (fun k => N + 1 ≤ k ∧ k < R) W3 W7) := HXX6.out.trans hx7 (fun k hk => .inl (by omega))
                    have hc7 : W7.cell? ⟨g2, q, none⟩ = some (.int .i64 (y : Int)) := by rw [hx7.cell (a := ⟨g2, q, none⟩) (by show g2 < wc.heap.size; omega) (by show ¬ g2 = N + 1; omega)]; exact hcy6
                    have HW7 := Lib.hid hW7
                    have hi7 : W7 = wc.setCell ⟨N + 1, y, none⟩ (.bool true) := hW7.symm
                    have hc7' : (wc.setCell ⟨N + 1, y, none⟩ (.bool true)).cell? ⟨g2, q, none⟩ = some (.int .i64 (y : Int)) := by rw [hW7]; exact hc7
                    obtain ⟨j0, hj0, hj1, hj2, hj3⟩ := info_parts info_int
                    have hib : t'.length ≤ 91000 := by omega
                    clear hx7 hv7 hrw7 hW7 hi7 hc7
                    go_wp2_with (at_builtin; rw [HW7.out]; refine wpList_append_lies _ rfl _ _ 27 rfl (N + 2) 3 j0 (.int .i64 0) 1 8 Tryd.underlying27 hj0 hj1 hj2 hj3 rfl (by decide) _ t'.length _ rfl (ownsRow_below HV7n.out ((Below.refl W7.heap.size W7).alloc (Nat.le_refl _) _)) ⟨wc.heap.size, 0, none⟩ 1 1 [.int .i64 (y : Int)] rfl rfl (by rw [← hsz7]; exact cells_new _ _ _) (by simp [Value.oneCell']) (by decide) ?c1 ?c2 ?c3 _ rfl ?_)
                    case c1 => unfold maxLen; omega
                    case c2 => omega
                    case c3 => rw [World.size_alloc]; omega
                    intro g5 cap5 w8 hown8 hgrow8 hat8 hlt8
                    have hx8 : Ext (fun k => (Value.slice ao3 t'.length cap3).ownBlock = some k) W7 w8 := ((Ext.refl _ W7).alloc _).trans (Ext.of_grown (M := fun k => (Value.slice ao3 t'.length cap3).ownBlock = some k) hgrow8 (fun k hk => .inl hk)) (fun j hj => .inl hj)
                    have hss := HX7.out.size
                    have HR8 : Hid (AhK ins v N R W3 t (behindOf ins x) (.slice (some ⟨g5, 0, none⟩) (t'.length + 1) cap5) (.int .i64 ((q : Int) + 1)) w8) := by
                      have hown3 : ∀ k, (Value.slice ao3 t'.length cap3).ownBlock = some k → N + 2 ≤ k := fun k h => (HV7.out.lt k h).1
                      refine ⟨q + 1, by omega, by simp, ?_, ?_, ?_, fun g hg => ?_, ?_⟩
                      · rw [HS2.out]
                        have e : ints (t' ++ [y]) = ints t' ++ [(y : Int)] := by simp [ints]
                        rw [e]
                        refine OwnI.app ?_
                        rw [hil3]; exact hown8
                      · rw [HS2.out, HN'.out]
                        exact hx8.heap HR7.out (fun h => by have := hown3 _ h; omega)
                      · refine ⟨hx8.os.trans HX7.out.os, hx8.tape.trans HX7.out.tape, hx8.output.trans HX7.out.output, Nat.le_trans HX7.out.size hx8.size, fun k hk hn => ?_⟩
                        rw [hx8.block k (by omega) (fun h => by
                          have h1 := hown3 k h
                          rcases HOB.out k h with h2 | h2
                          · exact hn ⟨by omega, h2⟩
                          · omega)]
                        exact HX7.out.block k hk hn
                      · have hgg : g5 = g := by simpa [Value.ownBlock] using hg
                        subst hgg
                        rcases hat8 with h4 | h4
                        · exact HOB.out _ h4
                        · right; first | omega | (rw [World.size_alloc] at h4; omega)
                      · rw [HS2.out]; simp; omega
                    clear hown8 hgrow8 hat8 hlt8 hx8
                    go_wp2
                    exact ⟨HR8.out, by simp [intOf]; omega⟩
            · have hqe : q = (behindOf ins x).length := by omega
              subst hqe
              rw [List.take_length] at ht'
              have hpre := todoStep_prefix (succ10 ins v x) t
              have ht2 : todoStep t (succ10 ins v x) = t' := ht'
              have hR : AhJ ins v N R W3 T k (.slice ao3 t'.length cap3) (.int .i64 ((i : Int) + 1)) wr := by
                have hbk := HBK.out
                rw [ht2] at hbk hpre
                refine ⟨t', i + 1, hbk, by simp, by have := hpre.length_le; omega, ?_, hown, by rw [HN'.out]; exact hrow, hx, fun z hz => ?_, hob⟩
                · have := (bfs_prefix _ _ _ hbk).length_le; omega
                · rw [← ht2] at hz
                  rcases todoStep_mem _ _ z hz with h | h
                  · exact HLT.out z h
                  · exact ((mem_behindOf ins z x).1 (List.mem_filter.1 h).1).1
              have HR := Lib.hid hR
              clear hR hown hrow hx hob hcnt ht' ht2 hpre
              go_wp2
              go_roundg k
              case measure => omega
              case rel => exact HR.out
        · have hTt : T = t := by
            cases gk with
            | zero => simp [bfs] at hbf
            | succ k => rw [bfs, List.getElem?_eq_none (by omega)] at hbf; exact (Option.some.inj hbf).symm
          have HP : Hid (Truthed w j T (.returned (.slice (some ⟨N + 1, 0, none⟩) j j)) wr) := by
            rw [hTt]
            refine ⟨N + 1, rfl, by omega, hrow, ?_⟩
            rw [hN]
            exact (HK.out wr (HX3.out.trans hx (fun k hk => .inl hk.1))).2.2.1
          clear hbf hown hrow hx hob hlt
          go_wp2
          go_ret
          exact HP.out
end Go.Proofs.YtpbkkajgcdahcaaDoor
