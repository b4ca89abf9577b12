/- The reference's loop of a head. -/
import Derived.Test.YtpbkkajgcdahcaaNatP
import Derived.Test.YtpbkkajgcdahcaaRBehind
import Derived.Deep.DeepCutAuto
namespace Go.Proofs.Ytpbkkajgcdahcaa
open Go.RowKit

/-- A row that is picked. -/
def PickJ (p : Nat → Bool) (B : Nat) (w0 : World) (j : Nat) (v : Value) (wr : World) : Prop :=
  ∃ ao cap, v = .slice ao ((List.range j).filter p).length cap ∧ wr.ownsRow B 3 1 (.slice ao ((List.range j).filter p).length cap) ((List.range j).filter p).length ((ints ((List.range j).filter p)).map (Value.int .i64)) ∧ Below B w0 wr

theorem range_filter_succ (p : Nat → Bool) (j : Nat) : (List.range (j + 1)).filter p = if p j = true then (List.range j).filter p ++ [j] else (List.range j).filter p := by
  rw [List.range_succ, List.filter_append, List.filter_cons]
  split <;> simp

theorem range_filter_len (p : Nat → Bool) (j : Nat) : ((List.range j).filter p).length ≤ j := Nat.le_trans (List.length_filter_le _ _) (by simp)

set_option maxRecDepth 100000 in
set_option maxHeartbeats 8000000 in
theorem natural9_calls (c : Cod) (w : World) (hin : c.inn w) (hn60 : c.ins.length ≤ 60) (R9 : Nat) (bs : Nat → Nat) (f : Nat → Nat → Bool) (htj : TabJ w R9 c.ins.length c.ins.length bs f) (hdn : Int) (Tl : List Nat)
    (hT : ∀ hd : Nat, hdn = (hd : Int) → hd < c.ins.length → bfs (succN (behindOf c.ins) hd) (c.ins.length + 1) (natI (behindOf c.ins) (f hd) hd) 0 = some Tl ∧ Tl.Nodup ∧ ∀ x ∈ Tl, x < c.ins.length) :
    Calls Try.prog 50 #[.agg c.cells, .slice (some ⟨R9, 0, none⟩) c.ins.length c.ins.length, .int .i64 hdn] w (GivesL' w (if 0 ≤ hdn ∧ hdn < (c.ins.length : Int) then natL c.ins.length hdn.toNat (natI (behindOf c.ins) (f hdn.toNat) hdn.toNat) Tl else [])) := by
  obtain ⟨C, hC⟩ : ∃ C, c = C := ⟨_, rfl⟩
  have HC := Lib.hid hC
  have HIN := Lib.hid hin
  have HTT := Lib.hid hT
  have HTJ0 := Lib.hid htj
  clear hin hT htj
  obtain ⟨nm, par, varsA, nvars, varsC, rp, rto, rcl, fromA, nfrom, fromC, insA, insC, ins⟩ := c
  simp only at hn60 HTT HTJ0
  simp only [Cod.cells]
  obtain ⟨n, hn⟩ : ∃ n, ins.length = n := ⟨_, rfl⟩
  have HN' := Lib.hid hn
  obtain ⟨N, hN⟩ : ∃ N, w.heap.size = N := ⟨_, rfl⟩
  obtain ⟨W1, hW1⟩ : ∃ W1, w.alloc (.cells #[.string nm, .int .i64 par, .slice varsA nvars varsC, .bool rp, .string rto, .int .i64 rcl, .slice fromA nfrom fromC, .slice insA n insC] 30) = W1 := ⟨_, rfl⟩
  have hb1 : Below N w W1 := by rw [← hW1, ← hN]; exact (Below.refl _ _).alloc (Nat.le_refl _) _
  have hs1 : W1.heap.size = N + 1 := by rw [← hW1]; simp [hN]
  have hrow : W1.heap[N]? = some (.cells #[.string nm, .int .i64 par, .slice varsA nvars varsC, .bool rp, .string rto, .int .i64 rcl, .slice fromA nfrom fromC, .slice insA n insC] 30 (0, 0)) := by
    rw [← hW1, ← hN]; exact alloc_at _ _
  have hin1 := HIN.out.below (by rw [hN]; exact hb1)
  have HS : Hid (∀ W, Below (N + 1) W1 W → W.cell? ⟨N, 0, none⟩ = some (.string nm) ∧ W.cell? ⟨N, 1, none⟩ = some (.int .i64 par) ∧ W.cell? ⟨N, 2, none⟩ = some (.slice varsA nvars varsC) ∧ W.cell? ⟨N, 3, none⟩ = some (.bool rp) ∧ W.cell? ⟨N, 4, none⟩ = some (.string rto) ∧ W.cell? ⟨N, 5, none⟩ = some (.int .i64 rcl) ∧ W.cell? ⟨N, 6, none⟩ = some (.slice fromA nfrom fromC) ∧ W.cell? ⟨N, 7, none⟩ = some (.slice insA n insC) ∧ Below (N + 1) W1 W) := by
    intro W hW
    have h4 := (hW.block N (by omega)).trans hrow
    refine ⟨?_, ?_, ?_, ?_, ?_, ?_, ?_, ?_, hW⟩ <;> (rw [cell_of_row _ _ _ _ _ _ h4]; rfl)
  have HK : Hid (∀ W, Below (N + 1) W1 W → C.inn W ∧ Below N w W ∧ N + 1 ≤ W.heap.size) := by
    intro W hW
    exact ⟨by rw [← hC]; exact hin1.below (by rw [hs1]; exact hW), hb1.trans (hW.mono (by omega)), by have := hW.size; omega⟩
  have HBE : Hid (∀ W, Below (N + 1) W1 W → Calls Try.prog 25 #[.agg #[.string nm, .int .i64 par, .slice varsA nvars varsC, .bool rp, .string rto, .int .i64 rcl, .slice fromA nfrom fromC, .slice insA n insC]] W (GivesR W n (behindOf ins))) := by
    intro W hb
    rw [← hn]
    have h1 := (HK.out W hb).1.row
    rw [← hC] at h1
    exact rbehind_calls ⟨nm, par, varsA, nvars, varsC, rp, rto, rcl, fromA, nfrom, fromC, insA, insC, ins⟩ W h1 (by show ins.length ≤ 90000; omega)
  have HTJ : Hid (∀ W, Below N w W → TabJ W R9 n n bs f) := fun W hb => by rw [← hn]; exact HTJ0.out.below (by rw [hN]; exact hb)
  have hR9 : R9 < N := by rw [← hN]; exact (Array.getElem?_eq_some_iff.1 HTJ0.out.rows).1
  have HPL : Hid (∀ x y, y ∈ behindOf ins x → y < n) := fun x y hy => by rw [← hn]; exact ((mem_behindOf ins y x).1 hy).1
  have HPN : Hid (∀ x, (behindOf ins x).length ≤ 120) := fun x => by have := behindOf_len ins x; omega
  obtain ⟨P, hP⟩ : ∃ P, behindOf ins = P := ⟨_, rfl⟩
  rw [hP] at HBE HTT HPL HPN ⊢
  rw [hn] at HTT ⊢
  have HW1 := Lib.hid hW1
  have HS1 := Lib.hid hs1
  have hsl : N + 1 ≤ W1.heap.size := by omega
  have hn9 : n ≤ 60 := by omega
  obtain ⟨k0, k1, k2, k3, k4, k5, k6, k7, _⟩ := HS.out W1 (Below.refl _ _)
  clear hb1 hs1 hrow hin1 hW1 HIN hC hP HTJ0
  clear hn hn60
  have hmk := run_make_bools n (by omega)
  go_enter Try.func50, Try.ntmps50
  go_upto_region 2 with (fail)
  rw [HW1.out]
  by_cases a1 : hdn < 0
  · have HX : Hid ((if 0 ≤ hdn ∧ hdn < (n : Int) then natL n hdn.toNat (natI P (f hdn.toNat) hdn.toNat) Tl else []) = []) := if_neg (by omega)
    have HE : Hid (Below N w W1) := (HK.out W1 (Below.refl _ _)).2.1
    go_wp2
    go_ret
    exact ⟨none, 0, by first | rfl | (rw [HX.out]; rfl), by first | exact OwnI.nil _ _ | (rw [HX.out]; exact OwnI.nil _ _), by rw [hN]; exact HE.out⟩
  · obtain ⟨hd, rfl⟩ : ∃ x : Nat, hdn = (x : Int) := ⟨hdn.toNat, by omega⟩
    have d1 : decide ((hd : Int) < 0) = false := decide_eq_false a1
    clear a1
    by_cases a2 : hd < n
    · have hdI : (hd : Int) < (n : Int) := by omega
      have d2 : decide (n ≤ hd) = false := decide_eq_false (by omega)
      obtain ⟨hbfs, hTn, hTl⟩ := HTT.out hd rfl a2
      rw [if_pos ⟨by omega, hdI⟩, Int.toNat_natCast]
      obtain ⟨I, hI⟩ : ∃ I, natI P (f hd) hd = I := ⟨_, rfl⟩
      rw [hI] at hbfs ⊢
      have HI := Lib.hid hI
      have HB := Lib.hid hbfs
      have HTL := Lib.hid hTl
      have hTlen := nodup_lt_len hTn hTl
      clear hbfs hTn hTl hI HTT
      go_upto_region 6 with (fail)
      obtain ⟨Bn, hBn⟩ : ∃ Bn, W1.heap.size = Bn := ⟨_, rfl⟩
      obtain ⟨W2, hW2⟩ : ∃ W2, W1.alloc (.cells (bCells n (fun _ => false)) 4) = W2 := ⟨_, rfl⟩
      have hb2 : Below (N + 1) W1 W2 := by rw [← hW2]; exact (Below.refl _ _).alloc hsl _
      have hBr : W2.heap[Bn]? = some (.cells (seenCells n []) 4 (0, 0)) := by
        rw [← hW2, ← hBn, alloc_at, seenCells_nil]
        congr 2
        show ((List.range n).map (fun _ => Value.bool false)).toArray = _
        rw [List.map_const', List.length_range]
      have hBN : N < Bn ∧ Bn ≤ N + 1 := by have := HS1.out; omega
      try rw [hW2]
      try rw [hBn]
      have HB2 := Lib.hid hb2
      clear hb2 k0 k1 k2 k3 k4 k5 k6 k7
      obtain ⟨k0, k1, k2, k3, k4, k5, k6, k7, _⟩ := HS.out W2 HB2.out
      go_wp2_with fail
      go_at_call 25
      refine (HBE.out W2 HB2.out).mono ?_
      rintro e W6 ⟨R, rfl, hR, hrows, hb6⟩
      obtain ⟨H, hH⟩ : ∃ H, W6.heap.size = H := ⟨_, rfl⟩
      have hRH : R < H := by obtain ⟨vals, _, _, v2, _⟩ := hrows; rw [← hH]; exact (Array.getElem?_eq_some_iff.1 v2).1
      have hB2s : Bn < W2.heap.size := (Array.getElem?_eq_some_iff.1 hBr).1
      have hBR : Bn < R := by omega
      have hrowB6 : W6.heap[Bn]? = some (.cells (seenCells n []) 4 (0, 0)) := (hb6.block Bn hB2s).trans hBr
      have hRB : RowsB W6 R H n P := ⟨W6, hH, hrows, by omega, fun _ _ _ => rfl⟩
      have hb16 : Below (N + 1) W1 W6 := HB2.out.trans (hb6.mono (HK.out W2 HB2.out).2.2)
      have HRB : Hid (∀ wr, Ext (fun k => k = Bn ∨ H ≤ k) W6 wr → RowsB wr R H n P ∧ TabJ wr R9 n n bs f ∧ Below (N + 1) W1 wr) := by
        intro wr hx
        refine ⟨hRB.ext hx (fun k q1 q2 => by omega), ?_, hb16.trans (hx.below (by omega) (fun k hk => by omega))⟩
        exact HTJ.out wr ((HK.out W6 hb16).2.1.trans (hx.below (by omega) (fun k hk => by omega)))
      have HS6 : Hid (NatS W6 W6 Bn H n [] [] (.slice none 0 0)) := ⟨OwnI.nil _ _, hrowB6, Ext.refl _ _, by omega⟩
      have hBH : Bn < H := by omega
      clear hW2 hBr hrows hb6 hrowB6 hRB hb16 k0 k1 k2 k3 k4 k5 k6 k7 hmk
      go_wp2_with fail
      go_loopw [9, 11] (fun v c wr => ∃ (k : Nat) (m : List Nat), k ≤ (P hd).length ∧ c = .int .i64 (k : Int) ∧ NatS W6 wr Bn H n (todoStep [] (((P hd).take k).filter (f hd))) m v ∧ (∀ z, z ∈ m ↔ z ∈ todoStep [] (((P hd).take k).filter (f hd))) ∧ (todoStep [] (((P hd).take k).filter (f hd))).length ≤ k) (fun _ c _ => (P hd).length - (intOf c).toNat)
      case atStart => exact ⟨0, [], Nat.zero_le _, rfl, HS6.out, fun z => Iff.rfl, Nat.le_refl _⟩
      case round =>
        obtain ⟨k, m, hk, rfl, hns, hm, htl⟩ := hrel
        obtain ⟨rb, tj, hbw⟩ := HRB.out wr hns.ext
        obtain ⟨aor, capr, dr, hrd⟩ := rb.read a2
        have hpn := HPN.out hd
        by_cases hkl : k < (P hd).length
        · have hkI : (k : Int) < ((P hd).length : Int) := by omega
          obtain ⟨u, hu⟩ : ∃ u, (P hd)[k]? = some u := ⟨_, List.getElem?_eq_getElem hkl⟩
          obtain ⟨gu, hgu, hg1, hg2, hcu⟩ := hrd k u hu
          have hun : u < n := HPL.out hd u (List.mem_of_getElem? hu)
          have huI : (u : Int) < (n : Int) := by omega
          obtain ⟨ct, ctu0⟩ := tj.read a2
          have ctu := ctu0 u hun
          have cs : wr.cell? ⟨Bn, u, none⟩ = some (.bool (decide (u ∈ m))) := by rw [cell_of_row _ _ _ _ _ _ hns.row, seenCells_get _ hun]
          have fs : wr.frozen? ⟨Bn, u, none⟩ = false := frozen_of_row _ _ _ _ _ hns.row
          have htk : ((P hd).take (k + 1)).filter (f hd) = if f hd u = true then ((P hd).take k).filter (f hd) ++ [u] else ((P hd).take k).filter (f hd) := by
            rw [List.take_add_one, hu, Option.toList_some, List.filter_append, List.filter_cons]
            split <;> simp
          obtain ⟨t, ht⟩ : ∃ t, todoStep [] (((P hd).take k).filter (f hd)) = t := ⟨_, rfl⟩
          have hts : todoStep [] (((P hd).take (k + 1)).filter (f hd)) = if f hd u = true ∧ u ∉ t then t ++ [u] else t := by
            rw [htk]
            by_cases h1 : f hd u = true
            · rw [if_pos h1, todoStep_snoc, ht]
              by_cases h2 : u ∈ t
              · rw [if_pos h2, if_neg (fun h => h.2 h2)]
              · rw [if_neg h2, if_pos ⟨h1, h2⟩]
            · rw [if_neg h1, ht, if_neg (fun h => h1 h.1)]
          rw [ht] at hns hm htl
          have HNS := Lib.hid hns
          have HM := Lib.hid hm
          have HTS := Lib.hid hts
          subst hgu
          clear hns hm hts htk rb tj hbw hrd ctu0 hu ht
          obtain ⟨fu, hfu⟩ : ∃ fu, f hd u = fu := ⟨_, rfl⟩
          rw [hfu] at ctu HTS
          obtain ⟨dm, hdm⟩ : ∃ dm, decide (u ∈ m) = dm := ⟨_, rfl⟩
          rw [hdm] at cs
          have HDM := Lib.hid hdm
          clear hfu hdm
          cases fu with
          | false =>
            have HE : Hid (todoStep [] (((P hd).take (k + 1)).filter (f hd)) = t) := by unfold Hid; rw [HTS.out, if_neg (fun h => by cases h.1)]
            go_wp2
            go_roundw
            case rel => exact ⟨k + 1, m, by omega, by go_num, by rw [HE.out]; exact HNS.out, by rw [HE.out]; exact HM.out, by rw [HE.out]; omega⟩
            case measure => simp [intOf]; omega
          | true =>
            cases dm with
            | true =>
              have hum : u ∈ t := (HM.out u).1 (of_decide_eq_true HDM.out)
              have HE : Hid (todoStep [] (((P hd).take (k + 1)).filter (f hd)) = t) := by unfold Hid; rw [HTS.out, if_neg (fun h => h.2 hum)]
              clear hum
              go_wp2
              go_roundw
              case rel => exact ⟨k + 1, m, by omega, by go_num, by rw [HE.out]; exact HNS.out, by rw [HE.out]; exact HM.out, by rw [HE.out]; omega⟩
              case measure => simp [intOf]; omega
            | false =>
              have hum : u ∉ t := fun h => (of_decide_eq_false HDM.out) ((HM.out u).2 h)
              have HE : Hid (todoStep [] (((P hd).take (k + 1)).filter (f hd)) = t ++ [u]) := by unfold Hid; rw [HTS.out, if_pos ⟨rfl, hum⟩]
              have hil : (ints t).length = t.length := by simp [ints]
              obtain ⟨aov, capv, hv⟩ := HNS.out.own.isSlice
              rw [hil] at hv
              subst hv
              obtain ⟨W3, hW3⟩ : ∃ W3, wr.setCell ⟨Bn, u, none⟩ (.bool true) = W3 := ⟨_, rfl⟩
              have hns3 : NatS W6 W3 Bn H n t (m ++ [u]) (.slice aov t.length capv) := by rw [← hW3]; exact HNS.out.set hBH u
              have hown3 : W3.ownsRow H 3 1 (.slice aov t.length capv) t.length ((ints t).map (Value.int .i64)) := by have h := hns3.own; unfold OwnI at h; rw [hil] at h; exact h
              obtain ⟨rb3, _, _⟩ := HRB.out W3 hns3.ext
              obtain ⟨_, _, dr3, hrd3⟩ := rb3.read a2
              have hs3 := hns3.size
              have hsz3 : W3.heap.size = wr.heap.size := by rw [← hW3]; exact World.size_setCell _ _ _
              have HNS3 := Lib.hid hns3
              have HOWN3 := Lib.hid hown3
              have HW3 := Lib.hid hW3
              obtain ⟨j0, hj0, hj1, hj2, hj3⟩ := info_parts info_int
              clear hum hns3 hown3 rb3 dr3 hrd3 hW3 hil
              go_wp2_with (at_builtin; rw [HW3.out]; refine wpList_append_lies _ rfl _ _ 27 rfl H 3 j0 (.int .i64 0) 1 8 Try.underlying27 hj0 hj1 hj2 hj3 rfl (by decide) _ t.length _ rfl (ownsRow_below HOWN3.out ((Below.refl W3.heap.size W3).alloc (Nat.le_refl _) _)) ⟨wr.heap.size, 0, none⟩ 1 1 [.int .i64 (u : Int)] rfl rfl (by rw [← hsz3]; exact cells_new _ _ _) (by simp [Value.oneCell']) (by decide) ?c1 ?c2 ?c3 _ rfl ?_)
              case c1 => unfold maxLen; omega
              case c2 => omega
              case c3 => first | omega | (rw [World.size_alloc]; omega)
              intro g4 cap4 w4 hown4 hgrow4 _ _
              have HN4 := Lib.hid (HNS3.out.app hBH hown4 hgrow4)
              clear hown4 hgrow4
              go_wp2
              go_roundw
              case rel => exact ⟨k + 1, m ++ [u], by omega, by go_num, by rw [HE.out]; exact HN4.out, fun z => by rw [HE.out, List.mem_append, List.mem_append, HM.out z], by rw [HE.out]; simp; omega⟩
              case measure => simp [intOf]; omega
        · have hke : k = (P hd).length := by omega
          subst hke
          have htI : todoStep [] (((P hd).take (P hd).length).filter (f hd)) = I := by rw [List.take_length, ← HI.out]; rfl
          rw [htI] at hns hm htl
          have hil : (ints I).length = I.length := by simp [ints]
          obtain ⟨aoI, capI, hv⟩ := hns.own.isSlice
          rw [hil] at hv
          subst hv
          have fsh : wr.frozen? ⟨Bn, hd, none⟩ = false := frozen_of_row _ _ _ _ _ hns.row
          have csh : wr.cell? ⟨Bn, hd, none⟩ = some (.bool (decide (hd ∈ m))) := by rw [cell_of_row _ _ _ _ _ _ hns.row, seenCells_get _ a2]
          have hns7 := hns.set hBH hd
          have hm7 : ∀ z, z ∈ m ++ [hd] ↔ z ∈ I ∨ z = hd := fun z => by rw [List.mem_append, hm z]; simp
          have HNS := Lib.hid hns
          have HNS7 := Lib.hid hns7
          have HM7 := Lib.hid hm7
          clear rb tj hbw hrd hns hm htI hns7 hm7
          by_cases hI0 : I = []
          · have hlI : ((I.length : Int) == 0) = true := by rw [hI0]; rfl
            have HX : Hid (natL n hd (natI P (f hd) hd) Tl = []) := if_pos (HI.out.trans hI0)
            have HE : Hid (Below N w wr) := (HK.out wr (HRB.out wr HNS.out.ext).2.2).2.1
            go_wp2
            go_ret
            exact ⟨none, 0, by rw [HX.out]; rfl, by rw [HX.out]; exact OwnI.nil _ _, by rw [hN]; exact HE.out⟩
          · have hlI : ((I.length : Int) == 0) = false := by
              rw [beq_eq_false_iff_ne]
              have := List.length_pos_iff.2 hI0
              omega
            have HI0 := Lib.hid hI0
            clear hI0
            obtain ⟨W7, hW7⟩ : ∃ W7, wr.setCell ⟨Bn, hd, none⟩ (.bool true) = W7 := ⟨_, rfl⟩
            rw [hW7] at HNS7
            go_wp2_with fail
            go_loopg [9, 13] (n + 1) (fun g v c wr => ∃ (t : List Nat) (i : Nat) (m : List Nat), bfs (succN P hd) g t i = some Tl ∧ c = .int .i64 (i : Int) ∧ i ≤ t.length ∧ NatS W6 wr Bn H n t m v ∧ ∀ z, z ∈ m ↔ z ∈ t ∨ z = hd)
            case atStart => exact ⟨I, 0, m ++ [hd], HB.out, rfl, Nat.zero_le _, HNS7.out, HM7.out⟩
            case round =>
              obtain ⟨t, i, m, hb, rfl, hit, hns, hm⟩ := hrel
              have hpre := bfs_prefix _ _ _ hb
              have htl := hpre.length_le
              obtain ⟨rb, tj, hbw⟩ := HRB.out wr hns.ext
              have hil : (ints t).length = t.length := by simp [ints]
              obtain ⟨aov, capv, hv⟩ := hns.own.isSlice
              rw [hil] at hv
              subst hv
              by_cases hil2 : i < t.length
              · have hiI : (i : Int) < (t.length : Int) := by omega
                obtain ⟨x, hx⟩ : ∃ x, t[i]? = some x := ⟨_, List.getElem?_eq_getElem hil2⟩
                have hxn : x < n := HTL.out x (hpre.subset (List.mem_of_getElem? hx))
                have hxI : (x : Int) < (n : Int) := by omega
                have hstep : ∃ g', gk = g' + 1 ∧ bfs (succN P hd) g' (todoStep t (succN P hd x)) (i + 1) = some Tl := by
                  cases gk with
                  | zero => simp [bfs] at hb
                  | succ g' => exact ⟨g', rfl, by rw [bfs, hx] at hb; exact hb⟩
                obtain ⟨g', rfl, hb'⟩ := hstep
                obtain ⟨gt, hgt, _, _, hct⟩ := hns.own.shape (by rw [hil]; omega)
                have hcx : wr.cell? ⟨gt, i, none⟩ = some (.int .i64 (x : Int)) := hct i x (by simp [ints, hx])
                obtain ⟨aor2, capr2, dr2, hrd2⟩ := rb.read hxn
                have hpn2 := HPN.out x
                have HNSt := Lib.hid hns
                have HMt := Lib.hid hm
                have HBt := Lib.hid hb'
                have HRD2 := Lib.hid hrd2
                subst hgt
                clear rb tj hbw hct hb hb' hns hm hpre hx hrd2
                by_cases hxh : x = hd
                · have hxe : ((x : Int) == (hd : Int)) = true := by rw [hxh]; simp
                  have HBn : Hid (bfs (succN P hd) g' t (i + 1) = some Tl) := by
                    have h := HBt.out
                    have e : succN P hd x = [] := by unfold succN; rw [if_pos hxh]
                    rw [e] at h
                    exact h
                  clear hxh
                  go_wp2
                  go_roundg g'
                  case measure => omega
                  case rel => exact ⟨t, i + 1, m, HBn.out, by go_num, by omega, HNSt.out, HMt.out⟩
                · have hxe : ((x : Int) == (hd : Int)) = false := by rw [beq_eq_false_iff_ne]; omega
                  have HSX : Hid (succN P hd x = (P x).filter fun y => decide (y ≠ hd)) := by unfold Hid succN; rw [if_neg hxh]
                  clear hxh
                  go_wp2_with fail
                  go_loopw [9, 15] (fun v c wr2 => ∃ (k : Nat) (t' m' : List Nat), k ≤ (P x).length ∧ c = .int .i64 (k : Int) ∧ t' = todoStep t (((P x).take k).filter fun y => decide (y ≠ hd)) ∧ NatS W6 wr2 Bn H n t' m' v ∧ (∀ z, z ∈ m' ↔ z ∈ t' ∨ z = hd) ∧ t'.length ≤ t.length + k) (fun _ c _ => (P x).length - (intOf c).toNat)
                  case atStart => exact ⟨0, t, m, Nat.zero_le _, rfl, rfl, HNSt.out, HMt.out, by omega⟩
                  case round =>
                    obtain ⟨k, t', m', hk, rfl, ht', hns, hm, htl'⟩ := hrel
                    have hil' : (ints t').length = t'.length := by simp [ints]
                    obtain ⟨aov', capv', hv⟩ := hns.own.isSlice
                    rw [hil'] at hv
                    subst hv
                    by_cases hkl : k < (P x).length
                    · have hkI : (k : Int) < ((P x).length : Int) := by omega
                      obtain ⟨u, hu⟩ : ∃ u, (P x)[k]? = some u := ⟨_, List.getElem?_eq_getElem hkl⟩
                      obtain ⟨gu, hgu, hg1, hg2, hcu0⟩ := HRD2.out k u hu
                      have hun : u < n := HPL.out x u (List.mem_of_getElem? hu)
                      have huI : (u : Int) < (n : Int) := by omega
                      have hcu : wr.cell? ⟨gu, k, none⟩ = some (.int .i64 (u : Int)) := by
                        rw [hns.ext.cell (a := ⟨gu, k, none⟩) (by show gu < _; omega) (by show ¬ (gu = Bn ∨ H ≤ gu); omega), ← HNSt.out.ext.cell (a := ⟨gu, k, none⟩) (by show gu < _; omega) (by show ¬ (gu = Bn ∨ H ≤ gu); omega)]
                        exact hcu0
                      have cs : wr.cell? ⟨Bn, u, none⟩ = some (.bool (decide (u ∈ m'))) := by rw [cell_of_row _ _ _ _ _ _ hns.row, seenCells_get _ hun]
                      have fs : wr.frozen? ⟨Bn, u, none⟩ = false := frozen_of_row _ _ _ _ _ hns.row
                      obtain ⟨dm, hdm⟩ : ∃ dm, decide (u ∈ m') = dm := ⟨_, rfl⟩
                      rw [hdm] at cs
                      have htk : ((P x).take (k + 1)).filter (fun y => decide (y ≠ hd)) = if u = hd then ((P x).take k).filter (fun y => decide (y ≠ hd)) else ((P x).take k).filter (fun y => decide (y ≠ hd)) ++ [u] := by
                        rw [List.take_add_one, hu, Option.toList_some, List.filter_append, List.filter_cons]
                        by_cases h : u = hd <;> simp [h]
                      have hpn3 := HPN.out x
                      subst hgu
                      cases dm with
                      | true =>
                        have hum := (hm u).1 (of_decide_eq_true hdm)
                        have HE : Hid (t' = todoStep t (((P x).take (k + 1)).filter fun y => decide (y ≠ hd))) := by
                          unfold Hid
                          rw [htk]
                          by_cases h : u = hd
                          · rw [if_pos h]; exact ht'
                          · rw [if_neg h, todoStep_snoc, ← ht', if_pos (hum.resolve_right h)]
                        have HNS2 := Lib.hid hns
                        have HM2 := Lib.hid hm
                        clear hns hm hum hdm htk ht' hcu0 hu
                        go_wp2
                        go_roundw
                        case rel => exact ⟨k + 1, t', m', by omega, by go_num, HE.out, HNS2.out, HM2.out, by omega⟩
                        case measure => simp [intOf]; omega
                      | false =>
                        have hum : ¬ (u ∈ t' ∨ u = hd) := fun h => (of_decide_eq_false hdm) ((hm u).2 h)
                        have HE : Hid (t' ++ [u] = todoStep t (((P x).take (k + 1)).filter fun y => decide (y ≠ hd))) := by
                          unfold Hid
                          rw [htk, if_neg (fun h => hum (.inr h)), todoStep_snoc, ← ht', if_neg (fun h => hum (.inl h))]
                        obtain ⟨W3, hW3⟩ : ∃ W3, wr.setCell ⟨Bn, u, none⟩ (.bool true) = W3 := ⟨_, rfl⟩
                        have hns3 : NatS W6 W3 Bn H n t' (m' ++ [u]) (.slice aov' t'.length capv') := by rw [← hW3]; exact hns.set hBH u
                        have hown3 : W3.ownsRow H 3 1 (.slice aov' t'.length capv') t'.length ((ints t').map (Value.int .i64)) := by have h := hns3.own; unfold OwnI at h; rw [hil'] at h; exact h
                        have hcu3 : W3.cell? ⟨gu, k, none⟩ = some (.int .i64 (u : Int)) := by
                          rw [← hW3, (Ext.set1 wr Bn u (.bool true)).cell (a := ⟨gu, k, none⟩) (by have := hns.size; show gu < _; omega) (by show gu ≠ Bn; omega)]; exact hcu
                        have hsz3 : W3.heap.size = wr.heap.size := by rw [← hW3]; exact World.size_setCell _ _ _
                        have hs3 := hns3.size
                        have HNS3 := Lib.hid hns3
                        have HOWN3 := Lib.hid hown3
                        have HW3 := Lib.hid hW3
                        have HM2 := Lib.hid hm
                        obtain ⟨j0, hj0, hj1, hj2, hj3⟩ := info_parts info_int
                        clear hns hm hum hdm htk ht' hcu0 hu hns3 hown3 hW3 hcu3 hil' hil
                        go_wp2_with (at_builtin; rw [HW3.out]; refine wpList_append_lies _ rfl _ _ 27 rfl H 3 j0 (.int .i64 0) 1 8 Try.underlying27 hj0 hj1 hj2 hj3 rfl (by decide) _ t'.length _ rfl (ownsRow_below HOWN3.out ((Below.refl W3.heap.size W3).alloc (Nat.le_refl _) _)) ⟨wr.heap.size, 0, none⟩ 1 1 [.int .i64 (u : Int)] rfl rfl (by rw [← hsz3]; exact cells_new _ _ _) (by simp [Value.oneCell']) (by decide) ?c1 ?c2 ?c3 _ rfl ?_)
                        case c1 => unfold maxLen; omega
                        case c2 => omega
                        case c3 => first | omega | (rw [World.size_alloc]; omega)
                        intro g4 cap4 w4 hown4 hgrow4 _ _
                        have HN4 := Lib.hid (HNS3.out.app hBH hown4 hgrow4)
                        clear hown4 hgrow4
                        go_wp2
                        go_roundw
                        case rel => exact ⟨k + 1, t' ++ [u], m' ++ [u], by omega, by go_num, HE.out, HN4.out, fun z => by rw [List.mem_append, List.mem_append, HM2.out z]; simp only [List.mem_singleton]; exact ⟨fun h => h.elim (fun h => h.elim (fun h => .inl (.inl h)) .inr) (fun h => .inl (.inr h)), fun h => h.elim (fun h => h.elim (fun h => .inl (.inl h)) .inr) (fun h => .inl (.inr h))⟩, by simp; omega⟩
                        case measure => simp [intOf]; omega
                    · have hke : k = (P x).length := by omega
                      subst hke
                      rw [List.take_length, ← HSX.out] at ht'
                      have hb2 := HBt.out
                      rw [← ht'] at hb2
                      have hpre2 := todoStep_keeps (succN P hd x) t
                      rw [← ht'] at hpre2
                      have hle2 := hpre2.length_le
                      have HNS2 := Lib.hid hns
                      have HM2 := Lib.hid hm
                      have HB2' := Lib.hid hb2
                      clear hns hm hb2 ht' hpre2
                      go_wp2
                      go_roundg g'
                      case measure => omega
                      case rel => exact ⟨t', i + 1, m', HB2'.out, by go_num, by omega, HNS2.out, HM2.out⟩
              · have htT : Tl = t := by
                  cases gk with
                  | zero => simp [bfs] at hb
                  | succ g' => rw [bfs, List.getElem?_eq_none (by omega)] at hb; exact (Option.some.inj hb).symm
                have hd3 : decide (i < t.length) = false := decide_eq_false hil2
                have HNSt := Lib.hid hns
                have HMt := Lib.hid hm
                have HTT2 := Lib.hid htT
                clear hb hns hm hpre htT
                go_wp2_with fail
                obtain ⟨p, hp⟩ : ∃ p : Nat → Bool, (fun i => decide (i ∈ Tl ∨ i = hd)) = p := ⟨_, rfl⟩
                have HPP : Hid (natL n hd (natI P (f hd) hd) Tl = (List.range n).filter p) := by
                  unfold Hid natL
                  rw [if_neg (fun h => HI0.out (HI.out.symm.trans h)), hp]
                have HPV : Hid (∀ z, p z = decide (z ∈ Tl ∨ z = hd)) := fun z => by rw [← hp]
                clear hp
                have hbw9 := (HRB.out wr HNSt.out.ext).2.2
                have HBW := Lib.hid (HK.out wr hbw9).2.1
                have hszr := HNSt.out.size
                obtain ⟨B9, hB9⟩ : ∃ B9, wr.heap.size = B9 := ⟨_, rfl⟩
                have hNB : N ≤ B9 := by omega
                obtain ⟨WB, hWB⟩ : ∃ WB, WB = wr := ⟨_, rfl⟩
                have HSE : Hid (∀ W, Below B9 WB W → ∀ z, z < n → W.cell? ⟨Bn, z, none⟩ = some (.bool (p z))) := by
                  rw [hWB]
                  intro W hb z hz
                  have hl := (Array.getElem?_eq_some_iff.1 HNSt.out.row).1
                  rw [cell_of_row _ _ _ _ _ _ ((hb.block Bn (by omega)).trans HNSt.out.row), seenCells_get _ hz, HPV.out z]
                  congr 2
                  rw [decide_eq_decide, HMt.out z, HTT2.out]
                have HBZ : Hid (∀ W, Below B9 WB W → Below N w W ∧ B9 ≤ W.heap.size) := by
                  rw [hWB]
                  exact fun W hb => ⟨HBW.out.trans (hb.mono hNB), by have := hb.size; omega⟩
                have HPS : Hid (PickJ p B9 WB 0 (.slice none 0 0) wr) := by rw [hWB]; exact ⟨none, 0, rfl, World.ownsRow_nil _ _ _ _, Below.refl _ _⟩
                clear hWB
                clear hbw9 rb tj hbw hil
                go_loopw [16, 17] (fun v c wr2 => ∃ j : Nat, j ≤ n ∧ c = .int .i64 (j : Int) ∧ PickJ p B9 WB j v wr2) (fun _ c _ => n - (intOf c).toNat)
                case atStart => exact ⟨0, Nat.zero_le _, rfl, HPS.out⟩
                case round =>
                  obtain ⟨j, hj, rfl, ao, cap, rfl, hown, hbl⟩ := hrel
                  obtain ⟨hbN, hsz9⟩ := HBZ.out _ hbl
                  by_cases hjn : j < n
                  · have hjI : (j : Int) < (n : Int) := by omega
                    have cz := HSE.out _ hbl j hjn
                    have hlen := range_filter_len p j
                    obtain ⟨pj, hpj⟩ : ∃ pj, p j = pj := ⟨_, rfl⟩
                    rw [hpj] at cz
                    have hsc := range_filter_succ p j
                    rw [hpj] at hsc
                    have HSC := Lib.hid hsc
                    have HOWN := Lib.hid hown
                    have HBL := Lib.hid hbl
                    clear hown hbl hpj hsc hbN
                    cases pj with
                    | true =>
                      have e1 : Hid ((List.range (j + 1)).filter p = (List.range j).filter p ++ [j]) := by unfold Hid; rw [HSC.out, if_pos rfl]
                      obtain ⟨j0, hj0, hj1, hj2, hj3⟩ := info_parts info_int
                      go_wp2_with (at_builtin; refine wpList_append_lies _ rfl _ _ 27 rfl B9 3 j0 (.int .i64 0) 1 8 Try.underlying27 hj0 hj1 hj2 hj3 rfl (by decide) _ ((List.range j).filter p).length _ rfl (ownsRow_below HOWN.out ((Below.refl wr.heap.size wr).alloc (Nat.le_refl _) _)) ⟨wr.heap.size, 0, none⟩ 1 1 [.int .i64 (j : Int)] rfl rfl (cells_new _ _ _) (by simp [Value.oneCell']) (by decide) ?c1 ?c2 ?c3 _ rfl ?_)
                      case c1 => unfold maxLen; omega
                      case c2 => omega
                      case c3 => first | omega | (rw [World.size_alloc]; omega)
                      intro g5 cap5 w5 hown5 hgrow5 _ _
                      have HN : Hid (PickJ p B9 WB (j + 1) (.slice (some ⟨g5, 0, none⟩) (((List.range j).filter p).length + 1) cap5) w5) := by
                        refine ⟨some ⟨g5, 0, none⟩, cap5, by rw [e1.out]; simp, ?_, (HBL.out.alloc hsz9 _).grown hgrow5 (by simp; omega) (fun k hk => (HOWN.out.lt k hk).1)⟩
                        have e2 : (ints ((List.range j).filter p ++ [j])).map (Value.int .i64) = (ints ((List.range j).filter p)).map (Value.int .i64) ++ [.int .i64 (j : Int)] := by simp [ints]
                        rw [e1.out, e2]
                        simpa using hown5
                      clear hown5 hgrow5
                      go_wp2
                      go_roundw
                      case rel => exact ⟨j + 1, by omega, by go_num, HN.out⟩
                      case measure => simp [intOf]; omega
                    | false =>
                      have e1 : Hid ((List.range (j + 1)).filter p = (List.range j).filter p) := by unfold Hid; rw [HSC.out, if_neg (by decide)]
                      go_wp2
                      go_roundw
                      case rel => exact ⟨j + 1, by omega, by go_num, ao, cap, by rw [e1.out], by rw [e1.out]; exact HOWN.out, HBL.out⟩
                      case measure => simp [intOf]; omega
                  · have hje : j = n := by omega
                    subst hje
                    have HOWN := Lib.hid hown
                    have HBN := Lib.hid hbN
                    have hjd : decide (j < j) = false := decide_eq_false hjn
                    clear hown hbl hbN
                    go_wp2
                    go_ret
                    rw [HPP.out]
                    refine ⟨ao, cap, rfl, ?_, by rw [hN]; exact HBN.out⟩
                    unfold OwnI
                    have e : (ints ((List.range j).filter p)).length = ((List.range j).filter p).length := by simp [ints]
                    rw [e, hN]
                    refine ⟨HOWN.out.1, ?_⟩
                    rcases HOWN.out.2 with h | ⟨g, cap', cur, e, hg, h3⟩
                    · exact .inl h
                    · exact .inr ⟨g, cap', cur, e, by omega, h3⟩
    · have d2 : decide (n ≤ hd) = true := decide_eq_true (by omega)
      have HX : Hid ((if 0 ≤ (hd : Int) ∧ (hd : Int) < (n : Int) then natL n (hd : Int).toNat (natI P (f (hd : Int).toNat) (hd : Int).toNat) Tl else []) = []) := if_neg (by omega)
      have HE : Hid (Below N w W1) := (HK.out W1 (Below.refl _ _)).2.1
      go_wp2
      go_ret
      exact ⟨none, 0, by first | rfl | (rw [HX.out]; rfl), by first | exact OwnI.nil _ _ | (rw [HX.out]; exact OwnI.nil _ _), by rw [hN]; exact HE.out⟩
end Go.Proofs.Ytpbkkajgcdahcaa
