/- What leads to each instruction: the reference's answer. -/
import Derived.Test.YtpbkkajgcdahcaaBehind
namespace Go.Proofs.Ytpbkkajgcdahcaa
open Go.RowKit

theorem ref08_nextN (c : Cod) (x : Nat) (w : World) (hc : InsRow w w.heap.size c.insA c.ins) (hx : x < c.ins.length) (hn : c.ins.length ≤ 90000) :
    Calls Try.prog 19 #[.agg c.cells, .int .i64 (x : Int)] w (GivesI w (ints (nextN c.ins x))) := by
  have h : c.ins[x]? = some c.ins[x] := List.getElem?_eq_getElem hx
  rw [ints_nextN h]
  exact ref08_Next c x _ w hc h (by omega)

set_option maxRecDepth 100000 in
set_option maxHeartbeats 4000000 in
theorem rbehind_calls (c : Cod) (w : World) (hins : InsRow w w.heap.size c.insA c.ins) (hn : c.ins.length ≤ 90000) :
    Calls Try.prog 25 #[.agg c.cells] w (GivesR w c.ins.length (behindOf c.ins)) := by
  obtain ⟨nm, par, varsA, nvars, varsC, rp, rto, rcl, fromA, nfrom, fromC, insA, insC, ins⟩ := c
  simp only at hn hins
  simp only [Cod.cells]
  obtain ⟨i0, hi, hz0, hz1, hz2⟩ := info_parts info_rowI
  have HINS := Lib.hid hins
  clear hins
  go_enter Try.func25, Try.ntmps25
  go_wp2_with (at_make; refine wpList_make_at rfl (.tmp 9) (.tmp 9) 42 rfl 27 i0 (.slice none 0 0) Try.underlying42 hi hz0 hz1 rfl .i64 .i64 _ _ ins.length rfl rfl rfl rfl (by rw [hz2]; omega) (by unfold maxLen; omega) ?_)
  obtain ⟨N, hN⟩ : ∃ N, w.heap.size = N := ⟨_, rfl⟩
  obtain ⟨W0, hW0⟩ : ∃ W0, (w.alloc (.cells #[.string nm, .int .i64 par, .slice varsA nvars varsC, .bool rp, .string rto, .int .i64 rcl, .slice fromA nfrom fromC, .slice insA ins.length insC] 30)).alloc (.cells (Array.replicate ins.length (Value.slice none 0 0)) 27) = W0 := ⟨_, rfl⟩
  have hx0 : Ext (fun _ => False) w W0 := by rw [← hW0]; exact ((Ext.refl _ w).alloc _).alloc _
  have hcode : W0.heap[N]? = some (.cells #[.string nm, .int .i64 par, .slice varsA nvars varsC, .bool rp, .string rto, .int .i64 rcl, .slice fromA nfrom fromC, .slice insA ins.length insC] 30 (0, 0)) := by
    rw [← hW0, ← hN, Below.heap_alloc _ _ _ (by simp)]; exact alloc_at _ _
  have hrow : W0.heap[N + 1]? = some (.cells (Array.replicate ins.length (Value.slice none 0 0)) 27 (0, 0)) := by
    rw [← hW0, ← hN]
    have := alloc_at (w.alloc (.cells #[.string nm, .int .i64 par, .slice varsA nvars varsC, .bool rp, .string rto, .int .i64 rcl, .slice fromA nfrom fromC, .slice insA ins.length insC] 30)) (.cells (Array.replicate ins.length (Value.slice none 0 0)) 27)
    rwa [World.size_alloc] at this
  have hs0 : W0.heap.size = N + 2 := by rw [← hW0]; simp [hN]
  have hR0 : RowsI W0 (N + 1) ins.length (N + 2) (fun _ => False) (fun _ => []) := by
    have q : ∀ (i : Nat) (v : Value), (Array.replicate ins.length (Value.slice none 0 0))[i]? = some v → v = Value.slice none 0 0 := by
      intro i v h
      rw [Array.getElem?_replicate] at h
      split at h
      · exact (Option.some.inj h).symm
      · simp at h
    refine ⟨_, fun _ _ _ _ _ h => h, by simp, hrow, by omega, fun i v h => by rw [q i v h]; exact OwnI.nil _ _, fun i j k vi vj _ h1 _ h3 => by rw [q i vi h1] at h3; simp [Value.ownBlock] at h3⟩
  rw [hW0, hN]
  have HX0 := Lib.hid hx0
  have HC := Lib.hid hcode
  have HR0 := Lib.hid hR0
  have HS := Lib.hid hs0
  clear hW0 hx0 hcode hrow hs0 hR0 hi hz0 hz1 hz2
  go_loopw [4] (fun c wr => BehI ins (N + 1) W0 c wr) (fun c _ => ins.length - (intOf c).toNat)
  case atStart => exact ⟨0, Nat.zero_le _, rfl, HR0.out, fun _ => by simp, Ext.refl _ _⟩
  case round =>
    obtain ⟨j, hj, rfl, hrows, hlen, hx⟩ := hrel
    by_cases hjl : j < ins.length
    · have hci := hx.heap HC.out (by omega)
      have hk : ∀ q v, ((⟨nm, par, varsA, nvars, varsC, rp, rto, rcl, fromA, nfrom, fromC, insA, insC, ins⟩ : Cod).cells)[q]? = some v → wr.cell? ⟨N, q, none⟩ = some v := fun q v h => by rw [cell_of_row _ _ _ _ _ _ hci]; exact h
      have k0 : wr.cell? ⟨N, 0, none⟩ = some (.string nm) := hk 0 _ rfl
      have k1 : wr.cell? ⟨N, 1, none⟩ = some (.int .i64 par) := hk 1 _ rfl
      have k2 : wr.cell? ⟨N, 2, none⟩ = some (.slice varsA nvars varsC) := hk 2 _ rfl
      have k3 : wr.cell? ⟨N, 3, none⟩ = some (.bool rp) := hk 3 _ rfl
      have k4 : wr.cell? ⟨N, 4, none⟩ = some (.string rto) := hk 4 _ rfl
      have k5 : wr.cell? ⟨N, 5, none⟩ = some (.int .i64 rcl) := hk 5 _ rfl
      have k6 : wr.cell? ⟨N, 6, none⟩ = some (.slice fromA nfrom fromC) := hk 6 _ rfl
      have k7 : wr.cell? ⟨N, 7, none⟩ = some (.slice insA ins.length insC) := hk 7 _ rfl
      have hinsr : InsRow wr wr.heap.size insA ins := ((HINS.out.ext HX0.out (Nat.le_refl _) (fun _ _ _ h => h)).ext hx (by have := HX0.out.size; omega) (fun a hne ha h => by
        obtain ⟨b, off, e, hbb, _⟩ := HINS.out hne
        rw [ha] at e
        obtain rfl := Option.some.inj e
        simp only at h; omega)).mono (by have := hx.size; have := HX0.out.size; omega)
      have HNX := Lib.hid (ref08_nextN ⟨nm, par, varsA, nvars, varsC, rp, rto, rcl, fromA, nfrom, fromC, insA, insC, ins⟩ j wr hinsr hjl hn)
      have HXX := Lib.hid hx
      have HRO := Lib.hid hrows
      have HLE := Lib.hid hlen
      have hjI : (j : Int) < (ins.length : Int) := by omega
      clear hx hrows hlen hci hk hinsr
      go_wp2_with (go_at_call 19; refine HNX.out.mono ?_; rintro e w2 ⟨ao2, cap2, rfl, hown2, hb2⟩)
      obtain ⟨rows, hrw⟩ : ∃ rows, rows = (List.range j).foldl (behStep ins) (fun _ => []) := ⟨_, rfl⟩
      obtain ⟨A, hA⟩ : ∃ A : Nat → Prop, A = fun k => (Value.slice ao2 (ints (nextN ins j)).length cap2).ownBlock = some k := ⟨_, rfl⟩
      have hx2 : Ext (fun _ => False) wr w2 := Ext.of_below_size hb2
      have HJ0 : Hid (BehJ ins (N + 1) W0 w2 j rows A (.int .i64 0) w2) := by
        refine ⟨0, Nat.zero_le _, rfl, ?_, fun i => by simp, HXX.out.trans hx2 (fun _ h => h.elim), fun k hk => ?_⟩
        · rw [hrw]
          exact (HRO.out.fresh (A' := A) (fun k hk => by rw [hA] at hk; exact (hown2.lt k hk).1)).ext hx2 (fun _ _ _ h => h)
        · rw [hA] at hk; exact ⟨(hown2.lt k hk).2, rfl⟩
      have HO2 := Lib.hid hown2
      have HA := Lib.hid hA
      have HRW := Lib.hid hrw
      clear hown2 hb2 hx2 hA hrw k0 k1 k2 k3 k4 k5 k6 k7 HNX
      go_loopw [6] (fun c wr2 => BehJ ins (N + 1) W0 w2 j rows A c wr2) (fun c _ => (nextN ins j).length - (intOf c).toNat)
      case atStart => exact HJ0.out
      case round =>
        obtain ⟨q, hq, rfl, hrows, hle, hxw, hys⟩ := hrel
        have hyl : (ints (nextN ins j)).length = (nextN ins j).length := by simp [ints]
        by_cases hql : q < (nextN ins j).length
        · obtain ⟨y, hy⟩ : ∃ y, (nextN ins j)[q]? = some y := ⟨_, List.getElem?_eq_getElem hql⟩
          have hyn : y < ins.length := nextN_lt (List.mem_of_getElem? hy)
          obtain ⟨g2, rfl, hg21, hg22, hgc2⟩ := HO2.out.shape (by omega)
          have hA2 : A g2 := by rw [HA.out]; rfl
          have hy3 := hys g2 hA2
          have hcy : wr.cell? ⟨g2, q, none⟩ = some (.int .i64 (y : Int)) := by rw [World.cell?_of_block (w := w2) hy3.2]; exact hgc2 q y (by simp [ints, hy])
          obtain ⟨vals, hva, hv1, hv2, hv3, hv4, hv5⟩ := hrows
          obtain ⟨vi, hvi⟩ : ∃ vi, vals[y]? = some vi := ⟨_, Array.getElem?_eq_getElem (by omega)⟩
          have hci : wr.cell? ⟨N + 1, y, none⟩ = some vi := by rw [cell_of_row _ _ _ _ _ _ hv2]; exact hvi
          have hyI : (y : Int) < (ins.length : Int) := by omega
          have hqI : (q : Int) < ((nextN ins j).length : Int) := by omega
          have hq2 : q < 2 := by have := nextN_length ins j; omega
          obtain ⟨rs, hrs⟩ : ∃ rs, rs = ((nextN ins j).take q).foldl (behAdd j) rows := ⟨_, rfl⟩
          rw [← hrs] at hv4 hle
          have hsn : ((nextN ins j).take (q + 1)).foldl (behAdd j) rows = behAdd j rs y := by rw [List.take_add_one, hy, hrs, List.foldl_append]; rfl
          have hown := hv4 y vi hvi
          have hll : (ints (rs y)).length = (rs y).length := by simp [ints]
          have hrb : (rs y).length ≤ 180002 := by have h1 := hle y; have h2 := HLE.out y; rw [← HRW.out] at h2; omega
          obtain ⟨j0, hj1, hj0, hj2, hj3⟩ := info_parts info_int
          rw [hyl]
          have HVA := Lib.hid hva
          have HV2 := Lib.hid hv2
          have HV4 := Lib.hid hv4
          have HV5 := Lib.hid hv5
          have HVI := Lib.hid hvi
          have HOWN := Lib.hid hown
          have HSN := Lib.hid hsn
          have HLE2 := Lib.hid hle
          have HXW := Lib.hid hxw
          have HYS := Lib.hid hys
          have HV1 := Lib.hid hv1
          have hNR : N + 1 < wr.heap.size := (Array.getElem?_eq_some_iff.1 hv2).1
          have hg2r : g2 < wr.heap.size := hy3.1
          clear hva hv2 hv4 hv5 hvi hown hsn hle hxw hys hgc2 hy3 hrs hv1
          have HG : Hid (∀ w4 : World, (wr.drew.alloc (.cells #[.int .i64 (j : Int)] 3)).grownBy w4 vi.ownBlock → w4.cell? ⟨N + 1, y, none⟩ = some vi ∧ w4.frozen? ⟨N + 1, y, none⟩ = false ∧ w4.cell? ⟨g2, q, none⟩ = some (.int .i64 (y : Int))) := by
            intro w4 hgrow4
            have hne : vi.ownBlock ≠ some (N + 1) := fun e => by have := (HOWN.out.lt _ e).1; omega
            have hx4 : Ext (fun k => vi.ownBlock = some k) wr w4 := ((Ext.refl _ wr).drew.alloc _).trans (Ext.of_grown (M := fun k => vi.ownBlock = some k) hgrow4 (fun k hk => .inl hk)) (fun j hj => .inl hj)
            have hr4 := hx4.heap HV2.out hne
            exact ⟨by rw [cell_of_row _ _ _ _ _ _ hr4]; exact HVI.out, frozen_of_row _ _ _ _ _ hr4, by rw [World.cell?_of_block (w := wr) (hx4.block g2 hg2r (fun h => HVA.out y vi g2 HVI.out h hA2))]; exact hcy⟩
          have HF : Hid (∀ (g3 cap3 : Nat) (w4 : World), w4.ownsRow (N + 2) 3 1 (.slice (some ⟨g3, 0, none⟩) ((ints (rs y)).length + 1) cap3) ((ints (rs y)).length + 1) ((ints (rs y)).map (Value.int .i64) ++ [.int .i64 (j : Int)]) → (wr.drew.alloc (.cells #[.int .i64 (j : Int)] 3)).grownBy w4 vi.ownBlock →
              (vi.ownBlock = some g3 ∨ g3 = (wr.drew.alloc (.cells #[.int .i64 (j : Int)] 3)).heap.size) → BehJ ins (N + 1) W0 w2 j rows A (.int .i64 ((q : Int) + 1)) (w4.setCell ⟨N + 1, y, none⟩ (.slice (some ⟨g3, 0, none⟩) ((rs y).length + 1) cap3))) := by
            intro g3 cap3 w4 hown4 hgrow4 hat4
            have hne : vi.ownBlock ≠ some (N + 1) := fun e => by have := (HOWN.out.lt _ e).1; omega
            have hx4 : Ext (fun k => vi.ownBlock = some k) wr w4 := ((Ext.refl _ wr).drew.alloc _).trans (Ext.of_grown (M := fun k => vi.ownBlock = some k) hgrow4 (fun k hk => .inl hk)) (fun j hj => .inl hj)
            have hr4 := hx4.heap HV2.out hne
            have hnew : OwnI w4 (N + 2) (.slice (some ⟨g3, 0, none⟩) ((rs y).length + 1) cap3) (ints (rs y ++ [j])) := by
              have e : ints (rs y ++ [j]) = ints (rs y) ++ [(j : Int)] := by simp [ints]
              rw [e]
              refine OwnI.app ?_
              simpa [hll] using hown4
            have happ := RowsI.app (x := j) (i := y) (fun k hk => (HYS.out k hk).1) HVA.out HV1.out HV2.out (by omega) HV4.out HV5.out HVI.out hx4 hnew (hat4.imp id (fun h => by rw [h, World.size_alloc]; exact Nat.le_succ _))
            have hbl : ∀ k, vi.ownBlock = some k → N + 2 ≤ k := fun k h => (HOWN.out.lt k h).1
            have HR : Hid (BehJ ins (N + 1) W0 w2 j rows A (.int .i64 ((q : Int) + 1)) (w4.setCell ⟨N + 1, y, none⟩ (.slice (some ⟨g3, 0, none⟩) ((rs y).length + 1) cap3))) := by
              refine ⟨q + 1, by omega, by simp, by rw [HSN.out]; exact happ, fun i => ?_, ?_, fun k hk => ?_⟩
              · rw [HSN.out]
                have h1 := HLE2.out i
                unfold behAdd
                by_cases e : i = y
                · subst e; rw [if_pos rfl]; simp; omega
                · rw [if_neg e]; omega
              · exact (HXW.out.trans hx4 (fun k hk => .inl (by have := hbl k hk; omega))).trans (Ext.set1 _ _ _ _) (fun k hk => .inl (by omega))
              · have h1 := HYS.out k hk
                have h2 : ¬ vi.ownBlock = some k := fun h => HVA.out y vi k HVI.out h hk
                have h3 := hx4.size
                refine ⟨by rw [World.size_setCell]; omega, ?_⟩
                have h4 : k ≠ N + 1 := by
                  intro e
                  subst e
                  have := (HO2.out.lt (N + 1) (by have h5 := hk; rw [HA.out] at h5; exact h5)).1
                  have := HXX.out.size
                  have := HS.out
                  omega
                rw [heap_setCell_other _ _ _ _ (by exact h4), hx4.block k h1.1 h2]; exact h1.2
            exact HR.out
          have HO4 : Hid ((wr.drew.alloc (.cells #[.int .i64 (j : Int)] 3)).ownsRow (N + 2) 3 1 vi (ints (rs y)).length ((ints (rs y)).map (Value.int .i64))) := ownsRow_below HOWN.out ((Below.refl wr.heap.size wr).drew.alloc (Nat.le_refl _) _)
          obtain ⟨Mid, hMid⟩ : ∃ Mid : World → Prop, Mid = BehJ ins (N + 1) W0 w2 j rows A (.int .i64 ((q : Int) + 1)) := ⟨_, rfl⟩
          rw [← hMid] at HF
          have HMD := Lib.hid hMid
          clear hMid
          go_upto_region 9 with (fail)
          refine wp_normal (fun a w' => ∃ v27 v28 v29 v30 v31 v32 v33 v34 v35 v36 v37 v38 v39 v40 v41 v42 : Value, a = { tmps := #[.agg #[.string nm, .int .i64 par, .slice varsA nvars varsC, .bool rp, .string rto, .int .i64 rcl, .slice fromA nfrom fromC, .slice insA ins.length insC], .pointer (some ⟨N, 0, none⟩), .slice none 0 0, .slice (some ⟨N + 1, 0, none⟩) ins.length ins.length, .int .i64 (j : Int), .slice (some ⟨g2, 0, none⟩) (nextN ins j).length cap2, .int .i64 (q : Int), .pointer (some ⟨N, 7, none⟩), .slice insA ins.length insC, .int .i64 (ins.length : Int), .slice (some ⟨N + 1, 0, none⟩) ins.length ins.length, .int .i64 (j : Int), .pointer (some ⟨N, 7, none⟩), .slice insA ins.length insC, .int .i64 (ins.length : Int), .bool true, u16, u17, .agg #[.string nm, .int .i64 par, .slice varsA nvars varsC, .bool rp, .string rto, .int .i64 rcl, .slice fromA nfrom fromC, .slice insA ins.length insC], .int .i64 (j : Int), .slice (some ⟨g2, 0, none⟩) (nextN ins j).length cap2, .int .i64 (q : Int), .slice (some ⟨g2, 0, none⟩) (nextN ins j).length cap2, .int .i64 ((nextN ins j).length : Int), .bool true, u25, u26, v27, v28, v29, v30, v31, v32, v33, v34, v35, v36, v37, v38, v39, v40, v41, v42, undef], defers := [] } ∧ Mid w') ?_ ?_
          · rintro a w' ⟨v27, v28, v29, v30, v31, v32, v33, v34, v35, v36, v37, v38, v39, v40, v41, v42, rfl, hm⟩
            rw [HMD.out] at hm
            have HMM := Lib.hid hm
            clear hm
            dsimp only
            go_wp2
            exact ⟨HMM.out, by simp [intOf]; omega⟩
          · go_region_law
              (refine step_append_lies _ (by rfl) (.tmp 38) (.tmp 40) 27 (by rfl) (N + 2) 3 j0 (.int .i64 0) 1 8 Try.underlying27 hj1 hj0 hj2 hj3 rfl (by decide) vi (ints (rs y)).length _ (by rfl) HO4.out ⟨wr.heap.size, 0, none⟩ 1 1 [.int .i64 (j : Int)] (by rfl) rfl (cells_new _ _ _) (by simp [Value.oneCell']) (by decide) (by unfold maxLen; omega) (by omega) (by simp; omega) _ rfl ?_
               intro g3 cap3 w4 hown4 hgrow4 hat4 hlt4
               obtain ⟨hc4, hf4, hy4⟩ := HG.out w4 hgrow4)
            all_goals exact ⟨_, _, _, _, _, _, _, _, _, _, _, _, _, _, _, _, rfl, HF.out _ _ _ hown4 hgrow4 hat4⟩
        · have hqe : q = (nextN ins j).length := by omega
          subst hqe
          rw [List.take_length] at hrows hle
          rw [hyl]
          have hst : (List.range (j + 1)).foldl (behStep ins) (fun _ => []) = (nextN ins j).foldl (behAdd j) rows := by rw [List.range_succ, List.foldl_append, ← HRW.out]; rfl
          have hR : BehI ins (N + 1) W0 (.int .i64 ((j : Int) + 1)) wr := by
            refine ⟨j + 1, by omega, by simp, by rw [hst]; exact hrows.weaken (fun _ h => h.elim), fun i => ?_, hxw⟩
            rw [hst]
            have h1 := hle i
            have h2 := HLE.out i
            rw [← HRW.out] at h2
            have := nextN_length ins j; omega
          have HR := Lib.hid hR
          clear hR hrows hle hxw hys hst
          go_wp2
          exact ⟨HR.out, by simp [intOf]; omega⟩
    · have hje : j = ins.length := by omega
      subst hje
      have HP : Hid (GivesR w ins.length (behindOf ins) (.returned (.slice (some ⟨N + 1, 0, none⟩) ins.length ins.length)) wr) :=
        ⟨N + 1, rfl, by omega, hrows, ((HX0.out.mono (M' := fun k => w.heap.size ≤ k) (fun _ h => h.elim)).trans hx (fun k hk => .inl (by omega))).below (Nat.le_refl _) (fun _ h => h)⟩
      have hci := hx.heap HC.out (by omega)
      have k7 : wr.cell? ⟨N, 7, none⟩ = some (.slice insA ins.length insC) := by rw [cell_of_row _ _ _ _ _ _ hci]; rfl
      clear hrows hlen hx hci
      go_wp2
      go_ret
      exact HP.out
end Go.Proofs.Ytpbkkajgcdahcaa
