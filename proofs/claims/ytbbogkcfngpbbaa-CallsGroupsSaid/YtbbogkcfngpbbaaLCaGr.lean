/- CallsGroups, at any module and any number: true. -/
import Derived.Test.YtbbogkcfngpbbaaCaV2
import Derived.Test.YtbbogkcfngpbbaaCaV3
import Derived.Test.YtbbogkcfngpbbaaCaV4
import Derived.Test.YtbbogkcfngpbbaaCaU
import Derived.Test.YtbbogkcfngpbbaaSepX
import Derived.RegionTactic
namespace Go.Proofs.Ytbbogkcfngpbbaa
open Go.RowKit
attribute [local go_sem] Oper.semAt_some

theorem groups_results (tmps : Array Value) (w : World) (ad : Addr) (v : Value) (ht : tmps[4]? = some (.pointer (some ad))) (hc : w.cell? ad = some v) : (results Try.f8 tmps).run Try.prog w = .ok v w := by
  simp [results, go_sem, ht, hc]

private theorem fold_one (p : Tmp) (v : Value) (t : Array Value) : ((#[p] : Array Tmp).zip #[v]).foldl (fun t (p, v) => t.setIfInBounds p v) t = t.setIfInBounds p v := by simp

/-- Behind a law: true, and nothing that was there has changed. -/
def YesG (w : World) (e : Ending) (w' : World) : Prop := e = .returned (.bool true) ∧ Below w.heap.size w w'

set_option maxRecDepth 100000 in
set_option maxHeartbeats 16000000 in
theorem callsGroups_calls (m : Mo) (stop : Int) (w : World) (hm : m.inn w) : Calls Try.prog 8 #[.agg m.cells, .int .i64 stop] w (YesG w) := by
  obtain ⟨M, hM⟩ : ∃ M, m = M := ⟨_, rfl⟩
  have HM := Lib.hid hM
  have HIN := Lib.hid hm
  clear hm hM
  obtain ⟨sA, sC, fA, fC, ss, fs⟩ := m
  simp only [Mo.cells]
  have hMf : Hid (M.fs.length = fs.length) := by unfold Hid; rw [← HM.out]
  obtain ⟨n, hn⟩ : ∃ n, fs.length = n := ⟨_, rfl⟩
  have HNN := Lib.hid hn
  rw [hn] at hMf ⊢
  clear hn
  obtain ⟨N, hN⟩ : ∃ N, w.heap.size = N := ⟨_, rfl⟩
  obtain ⟨W1, hW1⟩ : ∃ W1, ((w.alloc (.cells #[.slice sA ss.length sC, .slice fA n fC] 38)).alloc (.cells #[.int .i64 stop] 3)).alloc (.cells #[.bool false] 4) = W1 := ⟨_, rfl⟩
  have hb1 : Below w.heap.size w W1 := by rw [← hW1]; exact (((Below.refl _ _).alloc (Nat.le_refl _) _).alloc (by simp) _).alloc (by simp; omega) _
  have hsz : W1.heap.size = N + 3 := by rw [← hW1]; simp [hN]
  have hx0 : W1.heap[N]? = some (.cells #[.slice sA ss.length sC, .slice fA n fC] 38 (0, 0)) := by
    rw [← hW1, ← hN, Below.heap_alloc _ _ _ (by simp; omega), Below.heap_alloc _ _ _ (by simp)]; exact alloc_at _ _
  have hstp : W1.heap[N + 1]? = some (.cells #[.int .i64 stop] 3 (0, 0)) := by
    rw [← hW1, ← hN, Below.heap_alloc _ _ _ (by simp)]
    have := alloc_at (w.alloc (.cells #[.slice sA ss.length sC, .slice fA n fC] 38)) (.cells #[.int .i64 stop] 3)
    rwa [World.size_alloc] at this
  have hres : W1.heap[N + 2]? = some (.cells #[.bool false] 4 (0, 0)) := by
    rw [← hW1, ← hN]
    have := alloc_at ((w.alloc (.cells #[.slice sA ss.length sC, .slice fA n fC] 38)).alloc (.cells #[.int .i64 stop] 3)) (.cells #[.bool false] 4)
    rwa [World.size_alloc, World.size_alloc] at this
  have HS : Hid (∀ W, Below (N + 3) W1 W → W.cell? ⟨N, 0, none⟩ = some (.slice sA ss.length sC) ∧ W.cell? ⟨N, 1, none⟩ = some (.slice fA n fC) ∧ W.cell? ⟨N + 1, 0, none⟩ = some (.int .i64 stop) ∧ W.cell? ⟨N + 2, 0, none⟩ = some (.bool false) ∧ W.frozen? ⟨N + 2, 0, none⟩ = false ∧ M.inn W ∧ N + 3 ≤ W.heap.size) := by
    intro W h1
    have h4 := (h1.block N (by omega)).trans hx0
    have h6 := (h1.block (N + 1) (by omega)).trans hstp
    have h5 := (h1.block (N + 2) (by omega)).trans hres
    refine ⟨?_, ?_, ?_, ?_, frozen_of_row _ _ _ _ _ h5, ?_, by have := h1.size; omega⟩
    · rw [cell_of_row _ _ _ _ _ _ h4]; rfl
    · rw [cell_of_row _ _ _ _ _ _ h4]; rfl
    · rw [cell_of_row _ _ _ _ _ _ h6]; rfl
    · rw [cell_of_row _ _ _ _ _ _ h5]; rfl
    · rw [← HM.out]; exact HIN.out.below (hb1.trans (h1.mono (by omega)))
  have HY : Hid (∀ Wx w' (M : Nat → Prop), (∀ k, M k → N + 3 ≤ k) → Below (N + 3) W1 Wx → Ext M (Wx.setCell ⟨N + 2, 0, none⟩ (.bool true)) w' → w'.cell? ⟨N + 2, 0, none⟩ = some (.bool true) ∧ YesG w (.returned (.bool true)) w') := by
    intro Wx w' M hM hb hx
    have hsx : N + 3 ≤ Wx.heap.size := by have := hb.size; omega
    have h0 : Ext (fun k => N ≤ k) w W1 := Ext.of_below (by rw [hN] at hb1; exact hb1)
    have h1 : Ext (fun k => N ≤ k) w (Wx.setCell ⟨N + 2, 0, none⟩ (.bool true)) := (h0.trans (Ext.of_below hb) (fun k hk => .inl (by omega))).trans (Ext.set1 _ _ _ _) (fun k hk => .inl (by omega))
    have h2 : Ext (fun k => N ≤ k) w w' := h1.trans hx (fun k hk => .inl (by have := hM k hk; omega))
    obtain ⟨_, _, _, k8, _, _, _⟩ := HS.out Wx hb
    refine ⟨?_, rfl, by rw [hN]; exact h2.below (by omega) (fun _ h => h)⟩
    rw [hx.cell (a := ⟨N + 2, 0, none⟩) (by rw [World.size_setCell]; show N + 2 < _; omega) (fun h => by have := hM _ h; simp only at this; omega)]
    first | exact World.cell?_setCell_same _ k8 | exact World.cell?_setCell_same _ _ k8 | exact World.cell?_setCell_same _ _ _ k8
  have HAL : Hid (∀ W, Below (N + 3) W1 W → Calls Try.prog 33 #[] W fun e w' => e = .returned (.bool true) ∧ Below (N + 3) W1 w' ∧ Below W.heap.size W w') := fun W hW => (alive11_calls W).mono fun e w' ⟨h1, h2⟩ => ⟨h1, hW.trans (h2.mono (by have := hW.size; omega)), h2⟩
  have HLI : Hid (∀ W, Below (N + 3) W1 W → Calls Try.prog 32 #[.agg #[.slice sA ss.length sC, .slice fA n fC]] W (fun e w' => ∃ b : Bool, e = .returned (.bool b) ∧ (b = true → M.shortC) ∧ Below (N + 3) W1 w')) := by
    intro W hW
    have h := light11_calls W M (HS.out W hW).2.2.2.2.2.1
    rw [show M.cells = #[.slice sA ss.length sC, .slice fA n fC] from by rw [← HNN.out, ← HM.out]; rfl] at h
    exact h.mono fun e w' ⟨b, h1, h2, h3⟩ => ⟨b, h1, h2, hW.trans (h3.mono (by have := hW.size; omega))⟩
  have HW1 := Lib.hid hW1
  have HSZ := Lib.hid hsz
  clear hb1 hsz hx0 hstp hres hW1 HIN
  (refine calls_of_wp_marks Try.func8 rfl ?_
   simp only [Try.ntmps8, List.size_toArray, List.length_cons, List.length_nil, Nat.reduceAdd, Nat.reduceSub, Array.replicate_succ,
     Array.replicate_zero, List.push_toArray, List.append_toArray, List.nil_append, List.cons_append])
  go_upto_region 1 with (fail)
  rw [HW1.out]
  go_upto_region 3 with (go_at_call 33; refine (HAL.out W1 (Below.refl _ _)).mono ?_; rintro e w2 ⟨rfl, hb2, _⟩)
  obtain ⟨k0, k1, k2, k3, k4, _, k5⟩ := HS.out w2 hb2
  have HL2 := Lib.hid (HLI.out w2 hb2)
  clear hb2
  go_wp2_with fail
  go_at_call 32
  refine HL2.out.mono ?_
  rintro e w3 ⟨b, rfl, hsh, hb3⟩
  have HSH := Lib.hid hsh
  have HB3 := Lib.hid hb3
  clear k0 k1 k2 k3 k4 k5 hsh hb3
  cases b with
  | false =>
    go_wp2_with fail
    go_at_call 33
    refine (HAL.out w3 HB3.out).mono ?_
    rintro e w5 ⟨rfl, hb5, _⟩
    obtain ⟨_, _, _, k2, k3, _, _⟩ := HS.out w5 hb5
    have HB5 := Lib.hid hb5
    clear hb5
    go_wp2
    refine ⟨[], rfl, by simp, by simp, .bool true, fun w' hx => ?_⟩
    obtain ⟨h1, h2⟩ := HY.out w5 w' _ (fun k hk => by simp at hk) HB5.out hx
    exact ⟨groups_results _ _ _ _ rfl h1, h2⟩
  | true =>
    have hsC := HSH.out rfl
    obtain ⟨k0, k1, k2, k3, k4, ki, k5⟩ := HS.out w3 HB3.out
    have hof := OfIn.of ki hsC
    have HOC := Lib.hid (of_calls M w3 hof)
    have HOF := Lib.hid hof
    have hn12 : n ≤ 12 := by have := hsC.1; have := hMf.out; omega
    rw [show M.cells = #[.slice sA ss.length sC, .slice fA n fC] from by rw [← HNN.out, ← HM.out]; rfl] at HOC
    clear hsC hof ki
    go_wp2_with fail
    go_at_call 34
    refine HOC.out.mono ?_
    rintro e w4 ⟨N', G, DN, UP, ST, RE, GP, H, gv, tag, rfl, hgm, hgr, _, _, hb4⟩
    have hq := askG HOF.out hgm hgr
    rw [hMf.out] at hq
    have HQ := Lib.hid hq
    have hB4 : Below (N + 3) W1 w4 := HB3.out.trans (hb4.mono (by have := HB3.out.size; have := HSZ.out; omega))
    have HB4 := Lib.hid hB4
    have HG4 : Hid (w4.cell? ⟨G, 4, none⟩ = some gv) := hgm.cells.2.2.2.2.1
    have HLL : Hid ((groupsF M).2.length ≤ 12 ∧ (groupsF M).2.flatten.length = n ∧ ∀ l ∈ (groupsF M).2, l.length ≤ 12) := by
      refine ⟨by have := groupsF_len M; have := hMf.out; omega, by rw [groups_total M]; exact hMf.out, fun l hl => ?_⟩
      obtain ⟨k, hk⟩ := List.mem_iff_getElem?.1 hl
      obtain ⟨⟨f, _, rfl⟩, _⟩ := (groupsF_inv M).of k l hk
      have := grp_len M.fs.length (reachB (downF M)) f
      have := hMf.out
      omega
    have HNUM : Hid (∀ (i : Nat) (l : List Nat) (x : Nat), (groupsF M).2[i]? = some l → x ∈ l → x < n ∧ (groupsF M).1 x = (i : Int)) := fun i l x hl hx => by have := groups_num M hl hx; rw [hMf.out] at this; exact this
    obtain ⟨_, _, _, _, _, ki, ks4⟩ := HS.out w4 hB4
    have HRG := Lib.hid (rgroups_calls w4 M (HOF.out.below (hb4)))
    rw [show M.cells = #[.slice sA ss.length sC, .slice fA n fC] from by rw [← HNN.out, ← HM.out]; rfl] at HRG
    have HGS := Lib.hid (fun W h => HQ.out.groups W h)
    have HGRP := Lib.hid (fun W h a => HQ.out.group W h a)
    obtain ⟨GF, hGF⟩ : ∃ GF, (groupsF M).1 = GF := ⟨_, rfl⟩
    obtain ⟨ls, hls⟩ : ∃ ls, (groupsF M).2 = ls := ⟨_, rfl⟩
    rw [hls] at HGS HLL HRG HNUM hgr
    rw [hGF] at HGRP HNUM
    have HGR0 := Lib.hid hgr
    obtain ⟨k0, k1, _⟩ := HS.out w4 hB4
    clear hgm hgr hb4 hq k2 k3 k4 k5 hls hGF ki hB4
    go_wp2_with fail
    go_at_call 37
    refine HRG.out.mono ?_
    rintro e w5 ⟨v5, rfl, hgr5, hb5⟩
    obtain ⟨ao5, cap5, rfl⟩ := hgr5.slice
    have HB45 := Lib.hid hb5
    have HGR5 := Lib.hid hgr5
    clear hgr5 hb5 k0 k1
    go_wp2_with fail
    go_at_call 39
    refine (HGS.out w5 HB45.out).mono ?_
    rintro e w6 ⟨v6, rfl, hgr6, hb6⟩
    obtain ⟨ao6, cap6, rfl⟩ := hgr6.slice
    have HB46 : Hid (Below w4.heap.size w4 w6) := HB45.out.trans (hb6.mono HB45.out.size)
    have HLS := Lib.hid (glists_calls w6 _ _ cap6 cap5 ao6 ao5 ls (by have := HLL.out.1; omega) (fun l hl => by have := HLL.out.2.2 l hl; omega) hgr6 (HGR5.out.below hb6))
    have HGR6 := Lib.hid (HGR5.out.below hb6)
    clear hgr6 hb6
    go_wp2_with fail
    go_at_call 38
    refine HLS.out.mono ?_
    rintro e w7 ⟨rfl, hb7⟩
    have HB47 : Hid (Below w4.heap.size w4 w7) := HB46.out.trans (hb7.mono HB46.out.size)
    have HGR7 := Lib.hid (HGR6.out.below hb7)
    clear hb7
    obtain ⟨P, hP⟩ : ∃ P, w7.heap.size = P := ⟨_, rfl⟩
    obtain ⟨W8, hW8⟩ : ∃ W8, w7.alloc (.cells #[.slice none 0 0] 22) = W8 := ⟨_, rfl⟩
    have HO8 : Hid (OneI W8 P [] (.slice none 0 0)) := ⟨by rw [← hW8, ← hP]; exact alloc_at _ _, World.ownsRow_nil _ _ _ _⟩
    have HB8 : Hid (Below P w7 W8) := by rw [← hW8, ← hP]; exact (Below.refl _ _).alloc (Nat.le_refl _) _
    have hP4 : w4.heap.size ≤ P := by have := HB47.out.size; omega
    have HS4 : N + 3 ≤ w4.heap.size := ks4
    have HBW : Hid (∀ W, Below P w7 W → Below w4.heap.size w4 W ∧ Below (N + 3) W1 W) := fun W hW => by
      have h1 := HB47.out.trans (hW.mono hP4)
      exact ⟨h1, HB4.out.trans (h1.mono HS4)⟩
    have HGRW : Hid (∀ W, Below P w7 W → GrpI W w4.heap.size (.slice ao5 ls.length cap5) ls) := fun W hW => HGR7.out.below (by rw [hP]; exact hW)
    have hll := HLL.out.1
    have HPR : Hid (∀ (i k : Nat) (l : List Nat), ls[i]? = some l → ((ls.take i).flatten ++ l.take k).length ≤ 12) := fun i k l hl => by
      have h1 := (flat_pre (b := k) hl).length_le
      have h2 := HLL.out.2.1
      omega
    have HP := Lib.hid hP
    clear hP
    go_upto_region 10 with (fail)
    rw [HP.out]
    clear hW8
    go_wp2_with fail
    go_loopw [8] (fun c wr => ∃ (i : Nat) (v : Value), i ≤ ls.length ∧ c = .int .i64 (i : Int) ∧ OneI wr P (ls.take i).flatten v ∧ Below P w7 wr) (fun c _ => ls.length - (intOf c).toNat)
    case atStart => exact ⟨0, _, Nat.zero_le _, rfl, HO8.out, HB8.out⟩
    case round =>
      obtain ⟨i, v, hi, rfl, ho, hb⟩ := hrel
      have HO := Lib.hid ho
      have HB := Lib.hid hb
      clear ho hb
      by_cases hil : i < ls.length
      · have hiI : (i : Int) < (ls.length : Int) := by omega
        obtain ⟨l, hl⟩ : ∃ l, ls[i]? = some l := ⟨_, List.getElem?_eq_getElem hil⟩
        have HL := Lib.hid hl
        have hl12 := HLL.out.2.2 l (List.mem_of_getElem? hl)
        obtain ⟨g, al, cl, rfl, gg, cg, og⟩ := HGR7.out.at_ hl
        have HROW : Hid (∀ W, Below P w7 W → W.cell? ⟨g, i, none⟩ = some (.slice al l.length cl) ∧ ∀ (k x : Nat), l[k]? = some x → ∃ b, al = some ⟨b, 0, none⟩ ∧ W.cell? ⟨b, k, none⟩ = some (.int .i64 (x : Int))) := by
          intro W hW
          refine ⟨(hW.cell (p := ⟨g, i, none⟩) (by show g < _; have := HP.out; omega)).trans cg, fun k x hx => ?_⟩
          obtain ⟨b, e, _, h⟩ := ownsRow_get (ownsRow_below og (by rw [HP.out]; exact hW)) (j := k) (u := .int .i64 (x : Int)) (by rw [encN_flat]; simp [nums, hx])
          exact ⟨b, e, h⟩
        have HO0 : Hid (OneI wr P ((ls.take i).flatten ++ l.take 0) v) := by unfold Hid; rw [List.take_zero, List.append_nil]; exact HO.out
        clear hl gg cg og
        go_wp2_with fail
        go_loopw [9] (fun c wr => ∃ (k : Nat) (v : Value), k ≤ l.length ∧ c = .int .i64 (k : Int) ∧ OneI wr P ((ls.take i).flatten ++ l.take k) v ∧ Below P w7 wr) (fun c _ => l.length - (intOf c).toNat)
        case atStart => exact ⟨0, v, Nat.zero_le _, rfl, HO0.out, HB.out⟩
        case round =>
          obtain ⟨k, v, hk, rfl, ho, hb⟩ := hrel
          obtain ⟨r1, r2⟩ := HROW.out wr hb
          by_cases hkl : k < l.length
          · have hkI : (k : Int) < (l.length : Int) := by omega
            obtain ⟨x, hx⟩ : ∃ x, l[k]? = some x := ⟨_, List.getElem?_eq_getElem hkl⟩
            obtain ⟨b, rfl, r3⟩ := r2 k x hx
            obtain ⟨hxn, hxi⟩ := HNUM.out i l x HL.out (List.mem_of_getElem? hx)
            have hxs := HPR.out i k l HL.out
            have htk := take_snoc hx
            have HTK : Hid ((ls.take i).flatten ++ l.take (k + 1) = ((ls.take i).flatten ++ l.take k) ++ [x]) := by unfold Hid; rw [htk, List.append_assoc]
            obtain ⟨xs, hxse⟩ : ∃ xs, (ls.take i).flatten ++ l.take k = xs := ⟨_, rfl⟩
            rw [hxse] at ho hxs HTK
            obtain ⟨ao, cap, rfl⟩ := ownsRow_slice ho.2
            have c1 : wr.cell? ⟨P, 0, none⟩ = some (.slice ao xs.length cap) := by rw [cell_of_row _ _ _ _ _ _ ho.1]; rfl
            have HF : Hid (∀ (g8 cap8 : Nat) (w8 : World), w8.ownsRow (P + 1) 3 1 (.slice (some ⟨g8, 0, none⟩) (xs.length + 1) cap8) (xs.length + 1) (xs.flatMap encN ++ [.int .i64 (x : Int)]) → (wr.drew.alloc (.cells #[.int .i64 (x : Int)] 3)).grownBy w8 (Value.slice ao xs.length cap).ownBlock →
                w8.cell? ⟨P, 0, none⟩ = some (.slice ao xs.length cap) ∧ w8.frozen? ⟨P, 0, none⟩ = false ∧ OneI (w8.setCell ⟨P, 0, none⟩ (.slice (some ⟨g8, 0, none⟩) (xs.length + 1) cap8)) P (xs ++ [x]) (.slice (some ⟨g8, 0, none⟩) (xs.length + 1) cap8) ∧
                Below P w7 (w8.setCell ⟨P, 0, none⟩ (.slice (some ⟨g8, 0, none⟩) (xs.length + 1) cap8))) := by
              intro g8 cap8 w8 h1 h2
              obtain ⟨e1, e2, e3, e4⟩ := ho.push ((Ext.refl _ wr).drew.alloc _) h1 h2
              exact ⟨e1, e2, e3, hb.trans (e4.below (by have := (Array.getElem?_eq_some_iff.1 ho.1).1; omega) (fun _ h => h))⟩
            have HOA : Hid (∀ o, (wr.drew.alloc o).ownsRow (P + 1) 3 1 (.slice ao xs.length cap) xs.length (xs.flatMap encN)) := fun o => ownsRow_below ho.2 ((Below.refl wr.heap.size wr).drew.alloc (Nat.le_refl _) _)
            have hPr : P < wr.heap.size := (Array.getElem?_eq_some_iff.1 ho.1).1
            have hgr : g < wr.heap.size := (spot_of_cell r1).2
            have hbr : b < wr.heap.size := (spot_of_cell r3).2
            obtain ⟨j0, hj0, hj1, hj2, hj3⟩ := info_parts info_int
            have HRW : Hid (∀ W, Below P w7 W → W.cell? ⟨g, i, none⟩ = some (.slice (some ⟨b, 0, none⟩) l.length cl) ∧ W.cell? ⟨b, k, none⟩ = some (.int .i64 (x : Int))) := by
              intro W hW
              obtain ⟨a1, a2⟩ := HROW.out W hW
              obtain ⟨b', e', a3⟩ := a2 k x hx
              simp only [Option.some.injEq, Addr.mk.injEq] at e'
              obtain ⟨rfl, _⟩ := e'
              exact ⟨a1, a3⟩
            have HGX : Hid (∀ W, Below P w7 W → Calls Try.prog 40 #[.pointer (some ⟨G, 0, none⟩), .int .i64 (x : Int)] W fun e w' => e = .returned (.int .i64 (i : Int)) ∧ W = w') := by
              intro W hW
              have h := HGRP.out W (HBW.out W hW).1 (x : Int)
              rw [if_pos (by rw [inR_nat]; exact decide_eq_true hxn), Int.toNat_natCast, hxi] at h
              exact h
            clear ho hb r2 hx htk hxse hxi hxn
            go_wp2_with fail
            go_region_law (first
              | (refine step_append_lies _ (by rfl) (.tmp 43) (.tmp 51) 22 (by rfl) (P + 1) 3 j0 (.int .i64 0) 1 8 Try.underlying22 hj0 hj1 hj2 hj3 rfl (by decide) (.slice ao xs.length cap) xs.length _ (by rfl) (HOA.out _) ⟨wr.heap.size, 0, none⟩ 1 1 [.int .i64 (x : Int)] (by rfl) rfl (cells_new _ _ _) (by simp [Value.oneCell']) (by decide) (by unfold maxLen; omega) (by omega) (by simp; omega) _ rfl ?_; intro g8 cap8 w8 hown8 hgrow8 hat8 hlt8; obtain ⟨e1, e2, hR⟩ := HF.out _ _ _ hown8 hgrow8; have HR := Lib.hid hR; obtain ⟨s1, s2⟩ := HRW.out _ hR.2; have HGC := Lib.hid (HGX.out _ hR.2); clear hown8 hgrow8 hat8 hlt8 hR))
            all_goals
              go_wp2_with (go_at_call 40; refine HGC.out.mono ?_; rintro e w9 ⟨rfl, rfl⟩)
              go_roundw
              case rel => exact ⟨k + 1, _, by omega, by go_num, by rw [HTK.out]; exact HR.out.1, HR.out.2⟩
              case measure => simp [intOf]; omega
          · have hke : k = l.length := by omega
            subst hke
            have HN : Hid (OneI wr P (ls.take (i + 1)).flatten v) := by
              unfold Hid
              rw [take_snoc HL.out, List.flatten_append, List.flatten_singleton]
              rw [List.take_length] at ho
              exact ho
            have HB2 := Lib.hid hb
            clear ho hb r2
            go_wp2
            go_roundw
            case rel => exact ⟨i + 1, v, by omega, by go_num, HN.out, HB2.out⟩
            case measure => simp [intOf]; omega
      · have hie : i = ls.length := by omega
        subst hie
        obtain ⟨ao, cap, hv⟩ := ownsRow_slice HO.out.2
        subst hv
        rw [List.take_length] at HO
        obtain ⟨XS, hXS⟩ : ∃ XS, ls.flatten = XS := ⟨_, rfl⟩
        have hXL : XS.length = n := by rw [← hXS]; exact HLL.out.2.1
        rw [hXS] at HO
        have HXL := Lib.hid hXL
        obtain ⟨Q, hQ⟩ : ∃ Q, wr.heap.size = Q := ⟨_, rfl⟩
        have hPQ : P < Q := by have := (Array.getElem?_eq_some_iff.1 HO.out.1).1; omega
        obtain ⟨W8, hW8⟩ : ∃ W8, wr.alloc (.cells #[.int .i64 0] 3) = W8 := ⟨_, rfl⟩
        have hcnt : W8.heap[Q]? = some (.cells #[.int .i64 0] 3 (0, 0)) := by rw [← hW8, ← hQ]; exact alloc_at _ _
        have hs8 : W8.heap.size = Q + 1 := by rw [← hW8]; simp [hQ]
        have hb8 : Below Q wr W8 := by rw [← hW8, ← hQ]; exact (Below.refl _ _).alloc (Nat.le_refl _) _
        obtain ⟨W9, hW9⟩ : ∃ W9, W8.alloc (.cells #[.pointer (some ⟨G, 0, none⟩)] 58) = W9 := ⟨_, rfl⟩
        have hb9 : Below (Q + 1) W8 W9 := by rw [← hW9, ← hs8]; exact (Below.refl _ _).alloc (Nat.le_refl _) _
        have hs9 : W9.heap.size = Q + 2 := by rw [← hW9]; simp [hs8]
        have hB9 : W9.heap[Q + 1]? = some (.cells #[.pointer (some ⟨G, 0, none⟩)] 58 (0, 0)) := by rw [← hW9, ← hs8]; exact alloc_at _ _
        have hb79 : Below P w7 W9 := HB.out.trans ((hb8.mono (by omega)).trans (hb9.mono (by omega)))
        have hb49 : Below w4.heap.size w4 W9 := (HBW.out _ hb79).1
        have hGlt : G < w4.heap.size := (spot_of_cell HG4.out).2
        have hit := up1_iter w4 W9 (Q + 1) G H gv ls hB9 ((hb49.cell (p := ⟨G, 4, none⟩) hGlt).trans HG4.out) HGR0.out hb49 (by omega) (fun l hl => by have := HLL.out.2.2 l hl; omega)
        rw [hXS] at hit
        have HIT := Lib.hid hit
        have HCN : Hid (W9.heap[Q]? = some (.cells #[.int .i64 0] 3 (0, 0))) := (hb9.block Q (by omega)).trans hcnt
        have HO9 : Hid (OneI W9 P XS (.slice ao XS.length cap)) := by
          have hx : Ext (fun _ => False) wr W9 := by rw [← hW9, ← hW8]; exact ((Ext.refl _ wr).alloc _).alloc _
          exact HO.out.ext hx (fun _ _ _ h => h)
        have HBQ : Hid (∀ W, Ext (fun k => k = Q) W9 W → Below (N + 3) W1 W ∧ Below w4.heap.size w4 W ∧ OneI W P XS (.slice ao XS.length cap)) := by
          intro W hx
          have h1 : Below P w7 W := hb79.trans (hx.below (by omega) (fun k hk => by omega))
          exact ⟨(HBW.out W h1).2, (HBW.out W h1).1, ⟨hx.heap HO9.out.1 (show ¬ P = Q by omega), ownsRow_ext HO9.out.2 hx (fun k hk e => by have := (HO.out.2.lt k hk).2; have e' : k = Q := e; omega)⟩⟩
        obtain ⟨k0, k1, k2, k3, k4, _, k5⟩ := HS.out wr (HBW.out _ HB.out).2
        have HQH := Lib.hid hQ
        have HW8 := Lib.hid hW8
        have HW9 := Lib.hid hW9
        have HS8 := Lib.hid hs8
        have hPn : P + 1 ≠ Q + 1 := by omega
        have hN3Q : N + 3 ≤ Q := by omega
        have hw4Q : w4.heap.size ≤ Q := by omega
        clear hcnt hb8 hB9 hb79 hb49 hit hb9 hQ hW8 hW9 hs8 hXS
        go_upto_region 20 with (fail)
        rw [HW8.out, HQH.out]
        clear k0 k1 k2 k3 k4 k5
        go_wp2_with fail
        go_at_call 41
        refine (up_calls W8 (some ⟨G, 0, none⟩)).mono ?_
        rintro e w9 ⟨rfl, rfl⟩
        rw [HW9.out, HS8.out]
        go_wp2_with fail
        refine wp_rangeFunc_out (α := Nat) (gf := 82) (hf := Try.func82) (hname := by rfl) (hb := rfl) (hit := HIT.out) rfl ?hbel ?hRd (fun _ => rfl)
          (fun pre C W => C = (fun k => k = Q) ∧ W.heap[Q]? = some (.cells #[.int .i64 (pre.length : Int)] 3 (0, 0)) ∧ Ext (fun k => k = Q) W9 W ∧ ∀ q : Nat, 1 ≤ q → q ≤ pre.length → (q : Int) ≠ stop)
          (fun pre C W => C = (fun k => k = Q) ∧ W.heap[Q]? = some (.cells #[.int .i64 (pre.length : Int)] 3 (0, 0)) ∧ Ext (fun k => k = Q) W9 W ∧ 1 ≤ pre.length ∧ (pre.length : Int) = stop) ?hI ?hIC ?hIx (fun k => k = Q) ?h0 ?hround ?hout
        case hbel => exact Below.refl _ _
        case hRd => rintro k (h | h | h) <;> omega
        case hI =>
          rintro pre C W W' ⟨rfl, h1, h2, h3⟩ hx
          exact ⟨rfl, hx.heap h1 (fun h => h.2 rfl), h2.trans hx (fun j hj => .inr hj.1), h3⟩
        case hIx =>
          rintro pre C W W' ⟨rfl, h1, h2, h3⟩ hx
          exact ⟨rfl, hx.heap h1 (fun h => h.2 rfl), h2.trans hx (fun j hj => .inr hj.1), h3⟩
        case hIC =>
          rintro pre C W ⟨rfl, h1, h2, h3⟩ k rfl
          exact ⟨(Array.getElem?_eq_some_iff.1 h1).1, fun h => by rcases h with h | h | h <;> omega⟩
        case h0 => exact ⟨rfl, HCN.out, Ext.refl _ _, fun q h1 h2 => absurd (Nat.le_trans h1 h2) (by simp)⟩
        case hround =>
          rintro l pre x C W hl ⟨rfl, h1, h2, h3⟩ hpre
          have hpl : pre.length < n := by have := hpre.length_le; rw [HXL.out] at this; simp at this; omega
          have hwx : XS[pre.length]? = some x := by
            obtain ⟨t, ht⟩ := hpre
            rw [← ht]; simp
          unfold upEnc
          rw [fold_one]
          simp only [List.setIfInBounds_toArray, List.set_cons_zero, List.set_cons_succ]
          have HI := Lib.hid (And.intro h1 (And.intro h2 h3))
          clear h1 h2 h3 hpre
          obtain ⟨F, hF⟩ : ∃ F, F = Fence.wide.inRound l := ⟨_, rfl⟩
          have hFr : F.round = some l := by rw [hF]; rfl
          have hFf : ∀ f, F.fn f := fun f => by rw [hF]; trivial
          have hFd : F.depth = none := by rw [hF]; rfl
          rw [← hF]
          clear hF
          gi_wp2
          refine ⟨_, fun k hk => .inl hk, ⟨rfl, HI.out.1, HI.out.2.1, HI.out.2.2⟩, Ext.refl _ _, ?_⟩
          rintro W₂ ⟨_, g1, g2, g3⟩ hl2
          have hcn2 : W₂.cell? ⟨Q, 0, none⟩ = some (.int .i64 (pre.length : Int)) := by rw [cell_of_row _ _ _ _ _ _ g1]; rfl
          have hfz2 : W₂.frozen? ⟨Q, 0, none⟩ = false := frozen_of_row _ _ _ _ _ g1
          obtain ⟨hbW2, _, ho2⟩ := HBQ.out W₂ g2
          have hq1 : W₂.cell? ⟨P, 0, none⟩ = some (.slice ao XS.length cap) := by rw [cell_of_row _ _ _ _ _ _ ho2.1]; rfl
          obtain ⟨b1, rfl, _, hx1⟩ := ownsRow_get ho2.2 (j := pre.length) (u := .int .i64 (x : Int)) (by rw [encN_flat]; simp [nums, hwx])
          rw [HXL.out] at hq1
          have hs2 := g2.size
          have hst2 := (HS.out W₂ hbW2).2.2.1
          have hd0 : decide ((n : Int) ≤ (pre.length : Int)) = false := decide_eq_false (by omega)
          have hd1 : (pre.length : Int) < (n : Int) := by omega
          have hxs : Ext (· = Q) W₂ (W₂.setCell ⟨Q, 0, none⟩ (.int .i64 ((pre.length : Int) + 1))) := Ext.set1 _ _ _ _
          have hG1 : (W₂.setCell ⟨Q, 0, none⟩ (.int .i64 ((pre.length : Int) + 1))).heap[Q]? = some (.cells #[.int .i64 ((pre.length : Int) + 1)] 3 (0, 0)) := by
            rw [heap_setCell_same _ _ _ _ _ _ g1]; rfl
          have hst3 : (W₂.setCell ⟨Q, 0, none⟩ (.int .i64 ((pre.length : Int) + 1))).cell? ⟨N + 1, 0, none⟩ = some (.int .i64 stop) := by
            rw [hxs.cell (a := ⟨N + 1, 0, none⟩) (by show N + 1 < _; omega) (by show N + 1 ≠ _; omega)]; exact hst2
          have hc3 : (W₂.setCell ⟨Q, 0, none⟩ (.int .i64 ((pre.length : Int) + 1))).cell? ⟨Q, 0, none⟩ = some (.int .i64 ((pre.length : Int) + 1)) := by rw [cell_of_row _ _ _ _ _ _ hG1]; rfl
          have hwr : IntKind.i64.wrap ((pre.length : Int) + 1) = (pre.length : Int) + 1 := by rw [IntKind.wrap_i64]; omega
          have hG : Ext (fun k => k = Q) W9 (W₂.setCell ⟨Q, 0, none⟩ (.int .i64 ((pre.length : Int) + 1))) := g2.trans hxs (fun j hj => .inl hj)
          have HG := Lib.hid (And.intro hG1 (And.intro hG hxs))
          have HG3 := Lib.hid g3
          have hle : ((pre ++ [x]).length : Int) = (pre.length : Int) + 1 := by simp
          clear g1 ho2 hbW2 g2 g3 hG hG1 hxs hl2 hwx
          obtain ⟨sb, hsb⟩ : ∃ sb, ((pre.length : Int) + 1 == stop) = sb := ⟨_, rfl⟩
          cases sb with
          | true =>
            have HSE : Hid ((pre.length : Int) + 1 = stop) := by unfold Hid; simpa using hsb
            gi_wp2
            refine ⟨_, fun k hk => .inl hk, ⟨rfl, rfl, ?_, HG.out.2.1, by simp, by rw [hle]; exact HSE.out⟩, HG.out.2.2⟩
            rw [hle]; exact HG.out.1
          | false =>
            have HSE : Hid ((pre.length : Int) + 1 ≠ stop) := by unfold Hid; simpa using hsb
            gi_wp2
            refine ⟨_, fun k hk => .inl hk, ⟨rfl, ?_, HG.out.2.1, fun q h1 h2 => ?_⟩, HG.out.2.2⟩
            · rw [hle]; exact HG.out.1
            · rw [List.length_append] at h2
              simp at h2
              rcases Nat.lt_or_ge pre.length q with h3 | h3
              · have : q = pre.length + 1 := by omega
                subst this; push_cast; exact HSE.out
              · exact HG3.out q h1 h3
        case hout =>
          rintro D pre C2 W hD hCD hpre hcase hdd
          have hG : W.heap[Q]? = some (.cells #[.int .i64 (pre.length : Int)] 3 (0, 0)) ∧ Ext (fun k => k = Q) W9 W ∧ ((if 0 < stop ∧ stop < (n : Int) then stop else (n : Int)) = (pre.length : Int)) := by
            rcases hcase with ⟨rfl, rfl, h1, h2, h3⟩ | ⟨rfl, h1, h2, h3, h4⟩
            · refine ⟨h1, h2, ?_⟩
              rw [HXL.out] at h3 ⊢
              rw [if_neg]
              rintro ⟨q1, q2⟩
              exact h3 stop.toNat (by omega) (by omega) (by omega)
            · refine ⟨h1, h2, ?_⟩
              have := hpre.length_le
              rw [HXL.out] at this
              split <;> omega
          clear hcase
          obtain ⟨h1, h2, h3⟩ := hG
          have hs := h2.size
          have hDlt : D < W.heap.size := (Array.getElem?_eq_some_iff.1 hdd).1
          obtain ⟨hbW, hb4W, ho2⟩ := HBQ.out W h2
          have hq1 : W.cell? ⟨P, 0, none⟩ = some (.slice ao XS.length cap) := by rw [cell_of_row _ _ _ _ _ _ ho2.1]; rfl
          rw [HXL.out] at hq1
          have hnc : W.cell? ⟨Q, 0, none⟩ = some (.int .i64 (pre.length : Int)) := by rw [cell_of_row _ _ _ _ _ _ h1]; rfl
          obtain ⟨k0, k1, k2, k3, k4, _, k5⟩ := HS.out W hbW
          have HGM : Hid (Calls Try.prog 40 #[.pointer (some ⟨G, 0, none⟩), .int .i64 (-1)] W fun e w' => e = .returned (.int .i64 (-1)) ∧ W = w') := by
            have h := HGRP.out W hb4W (-1)
            rw [if_neg (by rw [show inR n (-1) = false from rfl]; simp)] at h
            exact h
          have HGN : Hid (Calls Try.prog 40 #[.pointer (some ⟨G, 0, none⟩), .int .i64 (n : Int)] W fun e w' => e = .returned (.int .i64 (-1)) ∧ W = w') := by
            have h := HGRP.out W hb4W (n : Int)
            rw [if_neg (by rw [inR_nat]; simp)] at h
            exact h
          have HAW : Hid (Calls Try.prog 33 #[] W fun e w' => e = .returned (.bool true) ∧ Below W.heap.size W w') := (HAL.out W hbW).mono fun e w' ⟨h1, _, h2⟩ => ⟨h1, h2⟩
          have HBW2 := Lib.hid hbW
          have HDD := Lib.hid hdd
          have HE := Lib.hid h3
          have HSW : Hid (∀ w', Below W.heap.size W w' → w'.cell? ⟨N + 2, 0, none⟩ = some (.bool false) ∧ w'.frozen? ⟨N + 2, 0, none⟩ = false ∧ Below (N + 3) W1 w' ∧ (w'.setCell ⟨N + 2, 0, none⟩ (.bool true)).heap[D]? = some (.deferred (some []))) := by
            intro w' hb
            have hb' := HBW2.out.trans (hb.mono (by omega))
            obtain ⟨_, _, _, q2, q3, _, _⟩ := HS.out w' hb'
            refine ⟨q2, q3, hb', ?_⟩
            rw [heap_setCell_other _ _ _ _ (by show D ≠ N + 2; omega), hb.block D hDlt]; exact HDD.out
          clear ho2 h1 h2 hdd hbW hb4W hpre h3
          obtain ⟨p, hp⟩ : ∃ p, pre.length = p := ⟨_, rfl⟩
          rw [hp] at hnc HE
          clear hp
          by_cases c1 : 0 < stop
          · by_cases c2 : stop < (n : Int)
            · have hse : stop = (p : Int) := by have := HE.out; rwa [if_pos ⟨c1, c2⟩] at this
              subst hse
              clear HE
              go_upto_region 29 with (fail)
              go_wp2_with fail
              go_at_call 40
              refine HGM.out.mono ?_
              rintro e w11 ⟨rfl, rfl⟩
              go_wp2_with fail
              go_at_call 40
              refine HGN.out.mono ?_
              rintro e w11 ⟨rfl, rfl⟩
              go_wp2_with fail
              go_at_call 33
              refine HAW.out.mono ?_
              rintro e w12 ⟨rfl, hb12⟩
              obtain ⟨r1, r2, r3, r4⟩ := HSW.out w12 hb12
              have HR4 := Lib.hid (And.intro r3 r4)
              clear hb12 r3 r4
              go_wp2
              refine ⟨[D], rfl, by simp, by intro b hb; simp at hb; subst hb; exact HR4.out.2, .bool true, fun w' hx => ?_⟩
              obtain ⟨h3, h4⟩ := HY.out w12 w' (· = D) (fun k hk => by omega) HR4.out.1 (hx.mono (fun k hk => by simpa using hk))
              exact ⟨groups_results _ _ _ _ rfl h3, h4⟩
            · obtain rfl : n = p := by have := HE.out; rw [if_neg (fun h => c2 h.2)] at this; omega
              clear HE
              go_upto_region 29 with (fail)
              go_wp2_with fail
              go_at_call 40
              refine HGM.out.mono ?_
              rintro e w11 ⟨rfl, rfl⟩
              go_wp2_with fail
              go_at_call 40
              refine HGN.out.mono ?_
              rintro e w11 ⟨rfl, rfl⟩
              go_wp2_with fail
              go_at_call 33
              refine HAW.out.mono ?_
              rintro e w12 ⟨rfl, hb12⟩
              obtain ⟨r1, r2, r3, r4⟩ := HSW.out w12 hb12
              have HR4 := Lib.hid (And.intro r3 r4)
              clear hb12 r3 r4
              go_wp2
              refine ⟨[D], rfl, by simp, by intro b hb; simp at hb; subst hb; exact HR4.out.2, .bool true, fun w' hx => ?_⟩
              obtain ⟨h3, h4⟩ := HY.out w12 w' (· = D) (fun k hk => by omega) HR4.out.1 (hx.mono (fun k hk => by simpa using hk))
              exact ⟨groups_results _ _ _ _ rfl h3, h4⟩
          · obtain rfl : n = p := by have := HE.out; rw [if_neg (fun h => c1 h.1)] at this; omega
            clear HE
            go_upto_region 29 with (fail)
            go_wp2_with fail
            go_at_call 40
            refine HGM.out.mono ?_
            rintro e w11 ⟨rfl, rfl⟩
            go_wp2_with fail
            go_at_call 40
            refine HGN.out.mono ?_
            rintro e w11 ⟨rfl, rfl⟩
            go_wp2_with fail
            go_at_call 33
            refine HAW.out.mono ?_
            rintro e w12 ⟨rfl, hb12⟩
            obtain ⟨r1, r2, r3, r4⟩ := HSW.out w12 hb12
            have HR4 := Lib.hid (And.intro r3 r4)
            clear hb12 r3 r4
            go_wp2
            refine ⟨[D], rfl, by simp, by intro b hb; simp at hb; subst hb; exact HR4.out.2, .bool true, fun w' hx => ?_⟩
            obtain ⟨h3, h4⟩ := HY.out w12 w' (· = D) (fun k hk => by omega) HR4.out.1 (hx.mono (fun k hk => by simpa using hk))
            exact ⟨groups_results _ _ _ _ rfl h3, h4⟩
end Go.Proofs.Ytbbogkcfngpbbaa
