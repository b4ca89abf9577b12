/- The reference's reach: its walk. -/
import Derived.Test.YtpbkkajgcdahcaaRReach
namespace Go.Proofs.Ytpbkkajgcdahcaa
open Go.RowKit

/-- Between two rounds: t is what is to be done (and what is met), i how far. -/
def RrI (ins : List Ins) (B : Nat) (W0 : World) (T : List Nat) (k : Nat) (v c : Value) (wr : World) : Prop :=
  ∃ (t : List Nat) (i : Nat), bfs (nextN ins) k t i = some T ∧ c = .int .i64 (i : Int) ∧ i ≤ t.length ∧ t.length ≤ 90000 ∧ OwnI wr (B + 1) v (ints t) ∧ wr.heap[B]? = some (.cells (seenCells ins.length t) 4 (0, 0)) ∧ Ext (fun k => B ≤ k) W0 wr ∧ (∀ x ∈ t, x < ins.length)

/-- Between two edges: q edges are done. -/
def RrJ (ins : List Ins) (N : Nat) (W0 w2 : World) (t ys : List Nat) (y2 : Value) (v c : Value) (wr : World) : Prop :=
  ∃ q : Nat, q ≤ ys.length ∧ c = .int .i64 (q : Int) ∧ OwnI wr (N + 2) v (ints (todoStep t (ys.take q))) ∧ wr.heap[N + 1]? = some (.cells (seenCells ins.length (todoStep t (ys.take q))) 4 (0, 0)) ∧ Ext (fun k => N + 1 ≤ k) W0 wr ∧
    (∀ k, y2.ownBlock = some k → k < wr.heap.size ∧ wr.heap[k]? = w2.heap[k]? ∧ v.ownBlock ≠ some k) ∧ (todoStep t (ys.take q)).length ≤ t.length + q

set_option maxRecDepth 100000 in
set_option maxHeartbeats 4000000 in
theorem rreach_calls (c : Cod) (w : World) (T : List Nat) (hins : InsRow w w.heap.size c.insA c.ins) (hn : c.ins.length ≤ 90000) (hTl : T.length ≤ 90000) (hT : (c.ins = [] → T = []) ∧ (c.ins ≠ [] → bfs (nextN c.ins) (c.ins.length + 1) [0] 0 = some T)) :
    Calls Try.prog 22 #[.agg c.cells] w (Truthed w c.ins.length T) := by
  obtain ⟨nm, par, varsA, nvars, varsC, rp, rto, rcl, fromA, nfrom, fromC, insA, insC, ins⟩ := c
  simp only at hn hT hins
  simp only [Cod.cells]
  obtain ⟨i0, hi, hz0, hz1, hz2⟩ := info_parts info_bool
  by_cases h0 : ins = []
  · have hTe := hT.1 h0
    subst h0
    subst hTe
    clear hT hins
    go_enter Try.func22, Try.ntmps22
    go_wp2_with (at_make; refine wpList_make_at rfl (.tmp 12) (.tmp 12) 34 rfl 4 i0 (.bool false) Try.underlying34 hi hz0 hz1 rfl .i64 .i64 _ _ 0 rfl rfl rfl rfl (by rw [hz2]; omega) (by unfold maxLen; omega) ?_)
    go_ret
    refine ⟨w.heap.size + 1, rfl, by omega, ?_, ((Below.refl _ w).alloc (Nat.le_refl _) _).alloc (by simp) _⟩
    have := alloc_at (w.alloc (.cells #[.string nm, .int .i64 par, .slice varsA nvars varsC, .bool rp, .string rto, .int .i64 rcl, .slice fromA nfrom fromC, .slice insA 0 insC] 30)) (.cells #[] 4)
    rw [World.size_alloc] at this
    exact this
  · have hpos : 0 < ins.length := List.length_pos_iff.2 h0
    have hne : ((ins.length : Int) == 0) = false := by simp; omega
    have hpI : (0 : Int) < (ins.length : Int) := by omega
    have HT := Lib.hid (hT.2 h0)
    have HINS := Lib.hid hins
    clear hT hins
    go_enter Try.func22, Try.ntmps22
    go_wp2_with (at_make; refine wpList_make_at rfl (.tmp 12) (.tmp 12) 34 rfl 4 i0 (.bool false) Try.underlying34 hi hz0 hz1 rfl .i64 .i64 _ _ ins.length rfl rfl rfl rfl (by rw [hz2]; omega) (by unfold maxLen; omega) ?_)
    obtain ⟨N, hN⟩ : ∃ N, w.heap.size = N := ⟨_, rfl⟩
    obtain ⟨W0, hW0⟩ : ∃ W0, ((w.alloc (.cells #[.string nm, .int .i64 par, .slice varsA nvars varsC, .bool rp, .string rto, .int .i64 rcl, .slice fromA nfrom fromC, .slice insA ins.length insC] 30)).alloc
      (.cells ((Array.replicate ins.length (.bool false)).setIfInBounds 0 (.bool true)) 4)).alloc (.cells #[.int .i64 0] 3) = W0 := ⟨_, rfl⟩
    have hx0 : Ext (fun _ => False) w W0 := by rw [← hW0]; exact (((Ext.refl _ w).alloc _).alloc _).alloc _
    have hcode : W0.heap[N]? = some (.cells #[.string nm, .int .i64 par, .slice varsA nvars varsC, .bool rp, .string rto, .int .i64 rcl, .slice fromA nfrom fromC, .slice insA ins.length insC] 30 (0, 0)) := by
      rw [← hW0, ← hN, Below.heap_alloc _ _ _ (by simp; omega), Below.heap_alloc _ _ _ (by simp)]; exact alloc_at _ _
    have hrow : W0.heap[N + 1]? = some (.cells (seenCells ins.length [0]) 4 (0, 0)) := by
      rw [← hW0, ← hN, Below.heap_alloc _ _ _ (by simp)]
      have := alloc_at (w.alloc (.cells #[.string nm, .int .i64 par, .slice varsA nvars varsC, .bool rp, .string rto, .int .i64 rcl, .slice fromA nfrom fromC, .slice insA ins.length insC] 30)) (.cells ((Array.replicate ins.length (.bool false)).setIfInBounds 0 (.bool true)) 4)
      rw [World.size_alloc] at this
      rw [this, show [0] = [] ++ [0] from rfl, ← seenCells_set, seenCells_nil, List.toArray_replicate]
    have hown : OwnI W0 (N + 2) (.slice (some ⟨N + 2, 0, none⟩) 1 1) (ints [0]) := by
      rw [← hW0]
      exact OwnI.lit1 (by simp [hN]) (Nat.le_refl _)
    have hs0 : W0.heap.size = N + 3 := by rw [← hW0]; simp [hN]
    simp only [Nat.add_assoc, Nat.reduceAdd]
    rw [hW0, hN]
    have HX0 := Lib.hid hx0
    have HC := Lib.hid hcode
    have HRW := Lib.hid hrow
    have HOW := Lib.hid hown
    have HS := Lib.hid hs0
    clear hW0 hx0 hcode hrow hown hs0 hi hz0 hz1 hz2
    go_loopg [5, 6] (ins.length + 1) (fun k v c wr => RrI ins (N + 1) W0 T k v c wr)
    case atStart => exact ⟨[0], 0, HT.out, rfl, by simp, by simp, HOW.out, HRW.out, Ext.refl _ _, by simpa using hpos⟩
    case round =>
      obtain ⟨t, i, hb, rfl, hit, htl, hown, hrow, hx, hlt⟩ := hrel
      obtain ⟨ao, cap, rfl⟩ := hown.isSlice
      have hlen : (ints t).length = t.length := by simp [ints]
      rw [hlen] at hown ⊢
      by_cases hil : i < t.length
      · obtain ⟨x, hx1⟩ : ∃ x, t[i]? = some x := ⟨_, List.getElem?_eq_getElem hil⟩
        have hxl : x < ins.length := hlt x (List.mem_of_getElem? hx1)
        obtain ⟨xi, hxi⟩ : ∃ xi, ins[x]? = some xi := ⟨_, List.getElem?_eq_getElem hxl⟩
        have hbn : ∃ k, gk = k + 1 ∧ bfs (nextN ins) k (todoStep t (nextN ins x)) (i + 1) = some T := by
          cases gk with
          | zero => simp [bfs] at hb
          | succ k => exact ⟨k, rfl, by rw [bfs, hx1] at hb; exact hb⟩
        obtain ⟨k, rfl, hbk⟩ := hbn
        obtain ⟨g, rfl, hg1, hg2, hgc⟩ := hown.shape (by omega)
        have hcx : wr.cell? ⟨g, i, none⟩ = some (.int .i64 (x : Int)) := hgc i x (by simp [ints, hx1])
        have hci := hx.heap HC.out (by omega)
        have hk : ∀ q v, ((⟨nm, par, varsA, nvars, varsC, rp, rto, rcl, fromA, nfrom, fromC, insA, insC, ins⟩ : Cod).cells)[q]? = some v → wr.cell? ⟨N, q, none⟩ = some v := fun q v h => by rw [cell_of_row _ _ _ _ _ _ hci]; exact h
        have k0 : wr.cell? ⟨N, 0, none⟩ = some (.string nm) := hk 0 _ rfl
        have k1 : wr.cell? ⟨N, 1, none⟩ = some (.int .i64 par) := hk 1 _ rfl
        have k2 : wr.cell? ⟨N, 2, none⟩ = some (.slice varsA nvars varsC) := hk 2 _ rfl
        have k3 : wr.cell? ⟨N, 3, none⟩ = some (.bool rp) := hk 3 _ rfl
        have k4 : wr.cell? ⟨N, 4, none⟩ = some (.string rto) := hk 4 _ rfl
        have k5 : wr.cell? ⟨N, 5, none⟩ = some (.int .i64 rcl) := hk 5 _ rfl
        have k6 : wr.cell? ⟨N, 6, none⟩ = some (.slice fromA nfrom fromC) := hk 6 _ rfl
        have k7 : wr.cell? ⟨N, 7, none⟩ = some (.slice insA ins.length insC) := hk 7 _ rfl
        have hilI : (i : Int) < (t.length : Int) := by omega
        have hinsr : InsRow wr wr.heap.size insA ins := ((HINS.out.ext HX0.out (Nat.le_refl _) (fun _ _ _ h => h)).ext hx (by have := HX0.out.size; omega) (fun a hne ha h => by
          obtain ⟨b, off, e, hbb, _⟩ := HINS.out hne
          rw [ha] at e
          obtain rfl := Option.some.inj e
          simp only at h; omega)).mono (by have := hx.size; have := HX0.out.size; omega)
        have HNX := Lib.hid (ref08_Next ⟨nm, par, varsA, nvars, varsC, rp, rto, rcl, fromA, nfrom, fromC, insA, insC, ins⟩ x xi wr.drew hinsr hxi (by show ins.length ≤ 100000; omega))
        have HXX := Lib.hid hx
        have HOWN := Lib.hid hown
        have HROW := Lib.hid hrow
        have HLT := Lib.hid hlt
        have HBK := Lib.hid hbk
        clear hb hx1 hci hk hinsr hx hown hrow hlt hbk hgc
        go_upto_region 10 with (fail)
        obtain ⟨Mid, hMid⟩ : ∃ Mid : Option Addr → Nat → World → Prop, Mid = fun ao2 cap2 w2 => OwnI w2 wr.heap.size (.slice ao2 (ints (nextN ins x)).length cap2) (ints (nextN ins x)) ∧ Below wr.heap.size wr w2 := ⟨_, rfl⟩
        have hin := ints_nextN hxi
        have HIN := Lib.hid hin
        have HMID : Hid (∀ ao2 cap2 w2, OwnI w2 wr.drew.heap.size (.slice ao2 (ints (nextN ins x)).length cap2) (ints (nextN ins x)) → Below wr.drew.heap.size wr.drew w2 → Mid ao2 cap2 w2) := by
          intro ao2 cap2 w2 h1 h2; rw [hMid]; exact ⟨h1, (Below.refl _ wr).drew.trans h2⟩
        have HMO := Lib.hid hMid
        clear hMid hin
        refine wp_normal (fun a w2 => ∃ (ao2 : Option Addr) (cap2 : Nat) (v26 v27 v28 v29 v30 v31 : Value), a = { tmps := #[.agg #[.string nm, .int .i64 par, .slice varsA nvars varsC, .bool rp, .string rto, .int .i64 rcl, .slice fromA nfrom fromC, .slice insA ins.length insC], .pointer (some ⟨N, 0, none⟩), .slice none 0 0, .int .i64 (ins.length : Int), .slice (some ⟨N + 1, 0, none⟩) ins.length ins.length, .slice (some ⟨g, 0, none⟩) t.length cap, .int .i64 (i : Int), .slice ao2 (ints (nextN ins x)).length cap2, u8, .pointer (some ⟨N, 7, none⟩), .slice insA ins.length insC, .int .i64 (ins.length : Int), .int .i64 (ins.length : Int), .slice (some ⟨N + 1, 0, none⟩) ins.length ins.length, .int .i64 (ins.length : Int), .bool false, undef, .slice (some ⟨N + 1, 0, none⟩) ins.length ins.length, .pointer (some ⟨N + 1, 0, none⟩), .slice (some ⟨N + 2, 0, none⟩) 1 1, .int .i64 (i : Int), .slice (some ⟨g, 0, none⟩) t.length cap, .int .i64 (t.length : Int), .bool true, u24, u25, v26, v27, v28, v29, v30, v31, u32, u33, u34, u35, u36, u37, u38, u39, u40, u41, u42, u43, u44, u45, u46, u47, u48, u49, u50, u51, u52, u53, u54, u55, u56, u57, u58, undef], defers := [] } ∧ Mid ao2 cap2 w2) ?_ ?_
        · rintro a w2 ⟨ao2, cap2, v26, v27, v28, v29, v30, v31, rfl, hm⟩
          rw [HMO.out] at hm
          obtain ⟨hown2, hbl2⟩ := hm
          have HO2 := Lib.hid hown2
          have hxr2 : Ext (fun _ => False) wr w2 := Ext.of_below_size hbl2
          have hown' : OwnI w2 (N + 2) (.slice (some ⟨g, 0, none⟩) t.length cap) (ints t) := by
            have h1 := HOWN.out
            rw [← hlen] at h1 ⊢
            exact ownsRow_below h1 hbl2
          have hrow' := hxr2.heap HROW.out (fun h => h)
          have HJ0 : Hid (RrJ ins N W0 w2 t (nextN ins x) (.slice ao2 (ints (nextN ins x)).length cap2) (.slice (some ⟨g, 0, none⟩) t.length cap) (.int .i64 0) w2) := by
            refine ⟨0, Nat.zero_le _, rfl, by simpa [todoStep] using hown', by simpa [todoStep] using hrow', HXX.out.trans hxr2 (fun _ h => h.elim), fun k hk => ⟨(hown2.lt k hk).2, rfl, ?_⟩, by simp [todoStep]⟩
            have := (hown2.lt k hk).1
            simp [Value.ownBlock]; omega
          clear hown2 hbl2 hxr2 hown' hrow' k0 k1 k2 k3 k4 k5 k6 k7 hcx
          dsimp only
          go_wp2
          go_loopw [5, 8] (fun v c wr2 => RrJ ins N W0 w2 t (nextN ins x) (.slice ao2 (ints (nextN ins x)).length cap2) v c wr2) (fun _ c _ => (nextN ins x).length - (intOf c).toNat)
          case atStart => exact HJ0.out
          case round =>
            obtain ⟨q, hq, rfl, hv, hrw, hxw, hys, hcnt⟩ := hrel
            obtain ⟨aov, capv, rfl⟩ := hv.isSlice
            have hyl : (ints (nextN ins x)).length = (nextN ins x).length := by simp [ints]
            by_cases hql : q < (nextN ins x).length
            · obtain ⟨y, hy⟩ : ∃ y, (nextN ins x)[q]? = some y := ⟨_, List.getElem?_eq_getElem hql⟩
              have hyn : y < ins.length := nextN_lt (List.mem_of_getElem? hy)
              obtain ⟨g2, rfl, hg21, hg22, hgc2⟩ := HO2.out.shape (by omega)
              have hy3 := hys g2 rfl
              have hcy : wr.cell? ⟨g2, q, none⟩ = some (.int .i64 (y : Int)) := by rw [World.cell?_of_block (w := w2) hy3.2.1]; exact hgc2 q y (by simp [ints, hy])
              have hcs : wr.cell? ⟨N + 1, y, none⟩ = some (.bool (decide (y ∈ todoStep t ((nextN ins x).take q)))) := by rw [cell_of_row _ _ _ _ _ _ hrw]; exact seenCells_get _ hyn
              have hfs : wr.frozen? ⟨N + 1, y, none⟩ = false := frozen_of_row _ _ _ _ _ hrw
              have hyI : (y : Int) < (ins.length : Int) := by omega
              have hqI : (q : Int) < ((nextN ins x).length : Int) := by omega
              have hq2 : q < 2 := by have := nextN_length ins x; omega
              have hsn : todoStep t ((nextN ins x).take (q + 1)) = if y ∈ todoStep t ((nextN ins x).take q) then todoStep t ((nextN ins x).take q) else todoStep t ((nextN ins x).take q) ++ [y] := by
                rw [List.take_add_one, hy]; exact todoStep_snoc _ _ _
              rw [hyl]
              by_cases hin : y ∈ todoStep t ((nextN ins x).take q)
              · rw [if_pos hin] at hsn
                have hd : decide (y ∈ todoStep t ((nextN ins x).take q)) = true := decide_eq_true hin
                rw [hd] at hcs
                have HR : Hid (RrJ ins N W0 w2 t (nextN ins x) (.slice (some ⟨g2, 0, none⟩) (nextN ins x).length cap2) (.slice aov (ints (todoStep t ((nextN ins x).take q))).length capv) (.int .i64 ((q : Int) + 1)) wr) :=
                  ⟨q + 1, by omega, by simp, by rw [hsn]; exact hv, by rw [hsn]; exact hrw, hxw, by rw [hyl] at hys; exact hys, by rw [hsn]; omega⟩
                clear hsn hin hd hv hrw hxw hys hgc2 hy3 hy
                go_wp2
                exact ⟨HR.out, by simp [intOf]; omega⟩
              · rw [if_neg hin] at hsn
                have hd : decide (y ∈ todoStep t ((nextN ins x).take q)) = false := decide_eq_false hin
                rw [hd] at hcs
                obtain ⟨t', ht'⟩ : ∃ t', t' = todoStep t ((nextN ins x).take q) := ⟨_, rfl⟩
                rw [← ht'] at hsn hv hrw hcnt ⊢
                have htl' : t'.length ≤ 90002 := by omega
                have hit' : (ints t').length = t'.length := by simp [ints]
                have HV := Lib.hid hv
                have HRW3 := Lib.hid hrw
                have HXW := Lib.hid hxw
                have HYS := Lib.hid hys
                have HSN := Lib.hid hsn
                have hNlt : N + 1 < wr.heap.size := (Array.getElem?_eq_some_iff.1 hrw).1
                obtain ⟨j0, hj, hj0, hj1, hj2⟩ := info_parts info_int
                obtain ⟨W3, hW3⟩ : ∃ W3, wr.setCell ⟨N + 1, y, none⟩ (.bool true) = W3 := ⟨_, rfl⟩
                have hsz3 : W3.heap.size = wr.heap.size := by rw [← hW3]; exact World.size_setCell _ _ _
                have hx3 : Ext (· = N + 1) wr W3 := by rw [← hW3]; exact Ext.set1 _ _ _ _
                have hv3 : OwnI W3 (N + 2) (.slice aov (ints t').length capv) (ints t') := by
                  refine ⟨HV.out.1, ?_⟩
                  rcases HV.out.2 with h' | ⟨g, cap', cur, e1, e2, e3, e4⟩
                  · exact .inl h'
                  · exact .inr ⟨g, cap', cur, e1, e2, hx3.heap e3 (by omega), e4⟩
                have hrw3 : W3.heap[N + 1]? = some (.cells (seenCells ins.length (t' ++ [y])) 4 (0, 0)) := by
                  rw [← hW3, ← seenCells_set]; exact heap_setCell_same _ _ _ _ _ _ HRW3.out
                have HV3 := Lib.hid hv3
                have HR3 := Lib.hid hrw3
                have HX3 := Lib.hid hx3
                have HW3 := Lib.hid hW3
                clear hsn hin hd hv hrw hxw hys hgc2 hy3 hy ht' hv3 hrw3 hx3 hW3
                go_wp2_with (at_builtin; rw [HW3.out]; refine wpList_append_lies _ rfl _ _ 27 rfl (N + 2) 3 j0 (.int .i64 0) 1 8 Try.underlying27 hj hj0 hj1 hj2 rfl (by decide) _ (ints t').length _ rfl (ownsRow_below HV3.out ((Below.refl W3.heap.size W3).alloc (Nat.le_refl _) _)) ⟨wr.heap.size, 0, none⟩ 1 1 [.int .i64 (y : Int)] rfl rfl (by rw [← hsz3]; exact cells_new _ _ _) (by simp [Value.oneCell']) (by decide) ?c1 ?c2 ?c3 _ rfl ?_)
                case c1 => unfold maxLen; omega
                case c2 => omega
                case c3 => rw [World.size_alloc]; omega
                intro g3 cap3 w4 hown4 hgrow4 hat4 hlt4
                have hN3 := HXX.out.size
                have hS0 := HS.out
                have hobk : ∀ n, (Value.slice aov n capv).ownBlock = (Value.slice aov t'.length capv).ownBlock := fun n => by cases aov <;> rfl
                have hx34 : Ext (fun k => (Value.slice aov t'.length capv).ownBlock = some k) W3 w4 := ((Ext.refl _ W3).alloc _).trans (Ext.of_grown (M := fun k => (Value.slice aov t'.length capv).ownBlock = some k) hgrow4 (fun k hk => .inl hk)) (fun j hj => .inl hj)
                have HR : Hid (RrJ ins N W0 w2 t (nextN ins x) (.slice (some ⟨g2, 0, none⟩) (nextN ins x).length cap2) (.slice (some ⟨g3, 0, none⟩) (t'.length + 1) cap3) (.int .i64 ((q : Int) + 1)) w4) := by
                  have hob := HYS.out g2 rfl
                  have hob3 : (Value.slice aov t'.length capv).ownBlock ≠ some g2 := by rw [← hobk (ints (todoStep t ((nextN ins x).take q))).length]; exact hob.2.2
                  rw [hyl] at HYS
                  refine ⟨q + 1, by omega, by simp, ?_, ?_, ?_, ?_, ?_⟩
                  · rw [HSN.out]
                    have e : ints (t' ++ [y]) = ints t' ++ [(y : Int)] := by simp [ints]
                    rw [e]
                    refine OwnI.app ?_
                    rw [hit']; exact hown4
                  · rw [HSN.out]
                    exact hx34.heap HR3.out (fun h => by have := (HV3.out.lt _ (by rw [hobk]; exact h)).1; omega)
                  · exact ((HXW.out.trans HX3.out (fun k hk => .inl (by omega))).trans hx34 (fun k hk => .inl (by have := (HV3.out.lt _ (by rw [hobk]; exact hk)).1; omega)))
                  · intro k hk
                    have hk2 : g2 = k := by simpa [Value.ownBlock] using hk
                    subst hk2
                    refine ⟨by have := hx34.size; omega, ?_, ?_⟩
                    · rw [hx34.block g2 (by omega) hob3, HX3.out.block g2 hob.1 (by omega)]; exact hob.2.1
                    · intro h
                      have h3 : g3 = g2 := by simpa [Value.ownBlock] using h
                      subst h3
                      rcases hat4 with h4 | h4
                      · exact hob3 h4
                      · omega
                  · rw [HSN.out]; simp; omega
                clear hown4 hgrow4 hat4 hlt4 hx34
                go_wp2
                exact ⟨HR.out, by simp [intOf]; omega⟩
            · have hqe : q = (nextN ins x).length := by omega
              subst hqe
              rw [List.take_length] at hv hrw hcnt ⊢
              rw [hyl]
              have hpre := todoStep_prefix (nextN ins x) t
              have hR : RrI ins (N + 1) W0 T k (.slice aov (ints (todoStep t (nextN ins x))).length capv) (.int .i64 ((i : Int) + 1)) wr := by
                refine ⟨todoStep t (nextN ins x), i + 1, HBK.out, by simp, by have := hpre.length_le; omega, ?_, hv, hrw, hxw, fun z hz => ?_⟩
                · have := (bfs_prefix _ _ _ HBK.out).length_le; omega
                · rcases todoStep_mem _ _ z hz with h | h
                  · exact HLT.out z h
                  · exact nextN_lt h
              have HR := Lib.hid hR
              have hd : decide (((nextN ins x).length : Int) < ((nextN ins x).length : Int)) = false := decide_eq_false (by omega)
              clear hR hv hrw hxw hys hcnt
              go_wp2
              go_roundg k
              case measure => omega
              case rel => exact HR.out
        · go_region_law (go_simp; go_at_call 19; refine HNX.out.mono ?_; rintro e w2 ⟨ao2, cap2, rfl, hown2, hb2⟩; rw [← HIN.out] at hown2 ⊢)
          all_goals exact ⟨_, _, _, _, _, _, _, _, rfl, HMID.out _ _ _ hown2 hb2⟩
      · have hTt : T = t := by
          cases gk with
          | zero => simp [bfs] at hb
          | succ k => rw [bfs, List.getElem?_eq_none (by omega)] at hb; exact (Option.some.inj hb).symm
        have HP : Hid (Truthed w ins.length T (.returned (.slice (some ⟨N + 1, 0, none⟩) ins.length ins.length)) wr) := by
          rw [hTt]
          refine ⟨N + 1, rfl, by omega, hrow, ?_⟩
          exact ((HX0.out.mono (M' := fun k => w.heap.size ≤ k) (fun _ h => h.elim)).trans hx (fun k hk => .inl (by omega))).below (Nat.le_refl _) (fun _ h => h)
        have hd : decide ((i : Int) < (t.length : Int)) = false := decide_eq_false (by omega)
        clear hb hown hrow hx hlt
        go_wp2
        go_ret
        exact HP.out
end Go.Proofs.Ytpbkkajgcdahcaa
