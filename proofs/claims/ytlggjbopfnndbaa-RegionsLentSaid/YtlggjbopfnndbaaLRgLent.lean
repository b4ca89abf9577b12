/- RegionsLent, at any module: true. -/
import Derived.Test.YtlggjbopfnndbaaG55
import Derived.Test.YtlggjbopfnndbaaG58
import Derived.Test.YtlggjbopfnndbaaG19
import Derived.Test.YtlggjbopfnndbaaG30
import Derived.Test.YtlggjbopfnndbaaRgL

namespace Go.Proofs.Ytlggjbopfnndbaa
open Go.RowKit

set_option maxRecDepth 100000 in
set_option maxHeartbeats 16000000 in
theorem regionsLent_calls (m : Mo) (w : World) (hm : m.inn w) :
    Calls Try.prog 6 #[.agg m.cells] w fun e w' => e = .returned (.bool true) ∧ Below w.heap.size w w' := by
  obtain ⟨N, hN⟩ : ∃ N, w.heap.size = N := ⟨_, rfl⟩
  obtain ⟨W1, hW1⟩ : ∃ W1, (w.alloc (.cells m.cells 25)) = W1 := ⟨_, rfl⟩
  have hb1 : Below N w W1 := by rw [← hW1, ← hN]; exact (Below.refl _ _).alloc (Nat.le_refl _) _
  have hs1 : W1.heap.size = N + 1 := by rw [← hW1]; simp [hN]
  have q1 : W1.heap[N]? = some (.cells m.cells 25 (0, 0)) := by rw [← hW1, ← hN]; exact alloc_at _ _
  have HK : Hid (∀ W, Below W1.heap.size W1 W → W.cell? ⟨N, 0, none⟩ = some (.slice m.sA m.ss.length m.sC) ∧ W.cell? ⟨N, 1, none⟩ = some (.slice m.fA m.fs.length m.fC) ∧ m.inn W ∧ Below N w W) := fun W hW => by
    have h1 := (hW.block N (by omega)).trans q1
    have h3 := hb1.trans (hW.mono (by omega))
    exact ⟨by rw [cell_of_row _ _ _ _ _ _ h1]; rfl, by rw [cell_of_row _ _ _ _ _ _ h1]; rfl, hm.below (by rw [hN]; exact h3), h3⟩
  obtain ⟨c0, c1, hm1, _⟩ := HK.out W1 (Below.refl _ _)
  have HLI := Lib.hid (light17_calls W1 m hm1)
  have HAL : Hid (∀ W, Calls Try.prog 25 #[] W fun e w' => e = .returned (.bool true) ∧ Below W.heap.size W w') := fun W => alive19_calls W
  have hW1' := hW1
  simp only [Mo.cells] at hW1' HLI
  have HW1 := Lib.hid hW1'
  rw [hN]
  simp only [Mo.cells]
  clear hm hm1 q1 hW1 hW1' hb1
  go_enter Try.func6, Try.ntmps6
  go_upto_region 1 with (fail)
  rw [HW1.out]
  clear hN
  go_wp2_with fail
  go_at_call 11
  refine HLI.out.mono ?_
  rintro e w2 ⟨b, rfl, hb, hb2⟩
  obtain ⟨d0, d1, hm2, hbb2⟩ := HK.out w2 hb2
  have HB2 := Lib.hid hb2
  clear HW1 HLI
  cases b with
  | false =>
    clear c0 c1 hb hb2 hm2 hbb2
    go_wp2_with (go_at_call 25; refine (HAL.out _).mono ?_; rintro e w3 ⟨rfl, hb3⟩; have HR := Lib.hid (HK.out w3 (HB2.out.trans (hb3.mono HB2.out.size))).2.2.2; clear hb3)
    go_ret
    exact ⟨rfl, HR.out⟩
  | true =>
  have hlt := (hb rfl).2
  have hri := short_right hm2 hlt
  have HRR := Lib.hid (refRight_calls m w2 hri)
  have HLT := Lib.hid hlt
  obtain ⟨F, hF⟩ : ∃ F, rightF m = F := ⟨_, rfl⟩
  rw [hF] at HRR
  simp only [Mo.cells] at HRR
  have HRI : Hid (∀ W, Below w2.heap.size w2 W → RightIn W m) := fun W hW => hri.below hW
  clear c0 c1 hb hb2 hm2 hbb2 hri hlt
  by_cases hF0 : F = 0
  rotate_left
  · have e0 : (F != 0) = true := by rw [bne_iff_ne]; exact hF0
    clear hF
    go_wp2_with (first
      | (go_at_call 24; refine HRR.out.mono ?_; rintro e w3 ⟨rfl, hb3⟩; have HB3 := Lib.hid (HB2.out.trans (hb3.mono HB2.out.size)); clear hb3)
      | (go_at_call 25; refine (HAL.out _).mono ?_; rintro e w4 ⟨rfl, hb4⟩; have HR := Lib.hid (HK.out w4 (HB3.out.trans (hb4.mono HB3.out.size))).2.2.2; clear hb4))
    go_ret
    exact ⟨rfl, HR.out⟩
  subst hF0
  have e0 : ((0 : Int) != 0) = false := rfl
  go_upto_region 3 with (go_at_call 24; refine HRR.out.mono ?_; rintro e w3 ⟨rfl, hb3⟩; have HB3 := Lib.hid (HB2.out.trans (hb3.mono HB2.out.size)); have HB23 := Lib.hid hb3; clear hb3)
  clear d0 d1 e0
  obtain ⟨d0, d1, _, _⟩ := HK.out w3 HB3.out
  have HOF := Lib.hid (of19_calls m w3 (HRI.out w3 HB23.out))
  simp only [Mo.cells] at HOF
  clear HRR
  go_wp2_with fail
  go_at_call 26
  refine HOF.out.mono ?_
  rintro e w4 (⟨h, _⟩ | ⟨_, R, vv, fv, rows, tag, k, rfl, hg, hk, _, hb4⟩)
  · exact (h hF).elim
  have hok := OkR.of hF
  have HOK := Lib.hid hok
  obtain ⟨X, hX⟩ : ∃ X, roundsR m (k + 1) = X := ⟨_, rfl⟩
  rw [hX] at hg
  have HB4 : Hid (Below W1.heap.size W1 w4) := HB3.out.trans (hb4.mono HB3.out.size)
  have HG : Hid (∀ W, Below w4.heap.size w4 W → RgM W m w3.heap.size R vv fv rows X tag ((k + 1 : Nat) : Int)) := fun W hW => hg.below hW
  have HB34 := Lib.hid hb4
  have HX := Lib.hid hX
  have HKR := Lib.hid hk
  have HHF := Lib.hid hF
  clear hok hX hk hg hb4 HOF hF d0 d1
  obtain ⟨d0, d1, _, _⟩ := HK.out w4 HB4.out
  have HOR : Hid (OrigR m X) := by unfold Hid; rw [← HX.out]; exact origR_rounds m (k + 1)
  have HBW : Hid (∀ W, Below w4.heap.size w4 W → Below W1.heap.size W1 W) := fun W hW => HB4.out.trans (hW.mono HB4.out.size)
  go_upto_region 6 with (fail)
  clear d0 d1
  go_wp2_with fail
  go_loopw [5] (fun c wr => ∃ j : Nat, j ≤ m.fs.length ∧ c = .int .i64 (j : Int) ∧ Below w4.heap.size w4 wr) (fun c _ => m.fs.length - (intOf c).toNat)
  case atStart => exact ⟨0, Nat.zero_le _, rfl, Below.refl _ _⟩
  case round =>
    rename World => wo
    obtain ⟨j, hj, rfl, hbo⟩ := hrel
    have HBO := Lib.hid hbo
    obtain ⟨c0, c1, hmi, _⟩ := HK.out wo (HBW.out wo hbo)
    have hn60 := HOK.out.nf
    by_cases hjl : j < m.fs.length
    rotate_left
    · have hje : j = m.fs.length := by omega
      subst hje
      clear hmi hbo
      go_wp2_with (go_at_call 25; refine (HAL.out _).mono ?_; rintro e w9 ⟨rfl, hb9⟩; have HR := Lib.hid (HK.out w9 (HBW.out w9 (HBO.out.trans (hb9.mono HBO.out.size)))).2.2.2; clear hb9)
      go_ret
      exact ⟨rfl, HR.out⟩
    obtain ⟨g, hg⟩ : ∃ g, m.fs[j]? = some g := ⟨_, List.getElem?_eq_getElem hjl⟩
    have hjI : (j : Int) < (m.fs.length : Int) := by omega
    obtain ⟨fb, fo, hfA, hfb, hfc⟩ := hmi.frow (by intro e; rw [e] at hjl; simp at hjl)
    have hgi := hmi.fin g (List.mem_of_getElem? hg)
    obtain ⟨q0, q1, q2, q3⟩ := HOK.out.fn g (List.mem_of_getElem? hg)
    obtain ⟨Pn, hPn⟩ : ∃ P, g.c.par.toNat = P := ⟨_, rfl⟩
    have hPI : g.c.par = (Pn : Int) := by omega
    have HGL : Hid (∀ k u, g.cells.toList[k]? = some u → wo.cell? ((⟨fb, fo + j * 8, none⟩ : Addr).add k) = some u) := fun k u hu => by rw [Addr.add_lit]; exact hfc j g hg k u hu
    obtain ⟨P, hP⟩ : ∃ P, wo.heap.size = P := ⟨_, rfl⟩
    obtain ⟨W5, hW5⟩ : ∃ W5, wo.alloc (.cells g.cells 50) = W5 := ⟨_, rfl⟩
    have hs5 : W5.heap.size = P + 1 := by rw [← hW5]; simp [hP]
    have hr5 : W5.heap[P]? = some (.cells g.cells 50 (0, 0)) := by rw [← hW5, ← hP]; exact alloc_at _ _
    have hob5 : Below wo.heap.size wo W5 := by rw [← hW5]; exact (Below.refl _ _).alloc (Nat.le_refl _) _
    have hb5 : Below w4.heap.size w4 W5 := hbo.trans (hob5.mono hbo.size)
    have hst : ∀ (c : Array Value), c.size = 8 → (storeCells ⟨wo.heap.size, 0, none⟩ g.cells.toList 0).run Try.prog (wo.alloc (.cells c 50)) = .ok () W5 := fun c hc => by
      rw [← hW5]
      exact run_storeCells_new (P := Try.prog) wo 50 c g.cells (by show _ = some 8; kernel_rfl) hc (fn_cells_one' g)
    have hnvs := hgi.nvars
    have HF5 : Hid (∀ W, Below W5.heap.size W5 W → Below w4.heap.size w4 W ∧ W.heap[P]? = some (.cells g.cells 50 (0, 0)) ∧ W.cell? ⟨P, 1, none⟩ = some (.int .i64 (Pn : Int)) ∧ W.cell? ⟨P, 2, none⟩ = some (.slice g.c.varsA g.vs.length g.c.varsC)) := fun W hW => by
      have q := (hW.block P (by omega)).trans hr5
      exact ⟨hb5.trans (hW.mono hb5.size), q, by rw [cell_of_row _ _ _ _ _ _ q, ← hPI]; rfl, by rw [cell_of_row _ _ _ _ _ _ q, ← hnvs]; rfl⟩
    have HVS : Hid (g.vs ≠ [] → ∃ vb vo, g.c.varsA = some ⟨vb, vo, none⟩ ∧ ∀ W, Below W5.heap.size W5 W → ∀ (k : Nat) (y : Vr), g.vs[k]? = some y → ∀ q u, y.cells.toList[q]? = some u → W.cell? ((⟨vb, vo + k * 3, none⟩ : Addr).add q) = some u) := fun hne => by
      obtain ⟨vb, vo, hA, hb, hc⟩ := hgi.vars hne
      refine ⟨vb, vo, hA, fun W hW k y hy q u hu => ?_⟩
      have hq := hob5.trans (hW.mono hob5.size)
      rw [Addr.add_lit, hq.cell (p := ⟨vb, _, none⟩) hb]; exact hc k y hy q u hu
    have HFR : Hid (∀ W, Below W5.heap.size W5 W → Calls Try.prog 27 #[.pointer (some ⟨R, 0, none⟩), .int .i64 (j : Int)] W (GivesN W (fromL m X (j : Int)))) := fun W hW => from19_calls (HG.out W (HF5.out W hW).1) HOK.out (j : Int)
    have HVR : Hid (∀ (v : Int) W, Below W5.heap.size W5 W → Calls Try.prog 28 #[.pointer (some ⟨R, 0, none⟩), .int .i64 (j : Int), .int .i64 v] W (GivesN W (varL m X (j : Int) v))) := fun v W hW => var19_calls (HG.out W (HF5.out W hW).1) HOK.out (j : Int) v
    have HRV : Hid (∀ W, Below W5.heap.size W5 W → ∀ k u, (⟨g.c.rp, g.c.rto, g.c.rcl⟩ : Vr).cells.toList[k]? = some u → W.cell? ((⟨P, 3, none⟩ : Addr).add k) = some u) := fun W hW k u hu => by
      rw [Addr.add_lit, cell_of_row _ _ _ _ _ _ (HF5.out W hW).2.1]
      have hk : k < 3 := (List.getElem?_eq_some_iff.1 hu).1
      rcases (by omega : k = 0 ∨ k = 1 ∨ k = 2) with rfl | rfl | rfl <;> exact hu
    have HLF : Hid (LentL g ⟨g.c.rp, g.c.rto, g.c.rcl⟩ (fromL m X (j : Int))) := lentL_ret HOR.out hg
    have HLV : Hid (∀ (u : Nat) (y : Vr), g.vs[u]? = some y → LentL g y (varL m X (j : Int) (u : Int))) := fun u y hy => lentL_var HOR.out hg hy
    have HL3 : Hid ((fromL m X (j : Int)).length ≤ 300 ∧ ∀ v, (varL m X (j : Int) v).length ≤ 300) := by
      have e : m.np j ≤ 300 := by rw [np_get hg]; omega
      exact ⟨Nat.le_trans (lists_len m X j) e, fun v => Nat.le_trans (varl_len m X j v) e⟩
    have hPb : Pn ≤ 300 := by omega
    rw [hP] at hst
    rw [hfA] at c1
    have HPN := Lib.hid hPn
    have HS5 := Lib.hid hs5
    clear hmi hg hfc hgi hbo hb5 hob5 hr5 hs5 hnvs hfA hfb hPn hPI q0 q1 q3 hW5
    go_upto_region 10 with (refine wpList_load_at rfl 50 _ rfl ⟨fb, fo + j * 8, none⟩ rfl g.cells _ HGL.out Try.underlying50 rfl (by kernel_rfl) ?_)
    clear c0 c1 hst hP HGL
    go_wp2_with fail
    go_loopw [7] (fun c wr => ∃ q : Nat, q ≤ g.vs.length + 1 ∧ ((q = 0 ∧ c = .int .i64 (-1)) ∨ ∃ u : Nat, q = u + 1 ∧ c = .int .i64 (u : Int)) ∧ Below W5.heap.size W5 wr) (fun c _ => g.vs.length + 1 - (intOf c + 1).toNat)
    case atStart => exact ⟨0, Nat.zero_le _, .inl ⟨rfl, rfl⟩, Below.refl _ _⟩
    case round =>
      rename World => wm
      obtain ⟨q, hq, hqc, hbm⟩ := hrel
      have HBM := Lib.hid hbm
      obtain ⟨_, _, p1, p2⟩ := HF5.out wm hbm
      have HFW := Lib.hid (HFR.out wm hbm)
      have HYO : Hid (∀ y : Vr, (y.cells.all fun x => x.oneCell') = true) := fun y => by rw [← Array.all_toList]; simp [Vr.cells, Value.oneCell']
      rcases hqc with ⟨rfl, rfl⟩ | ⟨u, rfl, rfl⟩
      · have hneg : (-1 : Int) < (g.vs.length : Int) := by omega
        clear hbm hq
        go_upto_region 14 with (go_at_call 27; refine HFW.out.mono ?_; intro e w6 hg6; obtain ⟨ao, cap, rfl, hb6, hc6⟩ := givesN_at hg6; clear hg6)
        clear p1 p2
        obtain ⟨L, hL⟩ : ∃ L, fromL m X (j : Int) = L := ⟨_, rfl⟩
        obtain ⟨y, hy⟩ : ∃ y : Vr, (⟨g.c.rp, g.c.rto, g.c.rcl⟩ : Vr) = y := ⟨_, rfl⟩
        have HLL : Hid (LentL g y L) := by rw [← hy, ← hL]; exact HLF.out
        have HLN : Hid (L.length ≤ 300) := by unfold Hid; rw [← hL]; exact HL3.out.1
        rw [hL] at hc6 ⊢
        have hb56 : Below W5.heap.size W5 w6 := HBM.out.trans (hb6.mono HBM.out.size)
        obtain ⟨XB, hXB⟩ : ∃ X, w6.heap.size = X := ⟨_, rfl⟩
        obtain ⟨WX, hWX⟩ : ∃ W, w6.alloc (.cells y.cells 47) = W := ⟨_, rfl⟩
        have hsX : WX.heap.size = XB + 1 := by rw [← hWX]; simp [hXB]
        have hb6X : Below w6.heap.size w6 WX := by rw [← hWX]; exact (Below.refl _ _).alloc (Nat.le_refl _) _
        have hrX : WX.heap[XB]? = some (.cells y.cells 47 (0, 0)) := by rw [← hWX, ← hXB]; exact alloc_at _ _
        have hst : ∀ (c : Array Value), c.size = 3 → (storeCells ⟨w6.heap.size, 0, none⟩ y.cells.toList 0).run Try.prog (w6.alloc (.cells c 47)) = .ok () WX := fun c hc => by
          rw [← hWX]
          exact run_storeCells_new (P := Try.prog) w6 47 c y.cells (by show _ = some 3; kernel_rfl) hc (HYO.out y)
        have HRW : Hid (∀ k u, y.cells.toList[k]? = some u → w6.cell? ((⟨P, 3, none⟩ : Addr).add k) = some u) := by rw [← hy]; exact HRV.out w6 hb56
        have HBX : Hid (∀ W, Below WX.heap.size WX W → W.heap[XB]? = some (.cells y.cells 47 (0, 0))) := fun W hW => (hW.block XB (by omega)).trans hrX
        have HX5 : Hid (∀ W, Below WX.heap.size WX W → Below W5.heap.size W5 W) := fun W hW => (hb56.trans (hb6X.mono hb56.size)).trans (hW.mono (by have := hb56.size; have := hb6X.size; omega))
        have HLC : Hid (L ≠ [] → ∃ b, ao = some ⟨b, 0, none⟩ ∧ ∀ W, Below WX.heap.size WX W → ∀ (i n : Nat), L[i]? = some n → W.cell? ⟨b, i, none⟩ = some (.int .i64 (n : Int))) := fun hne => by
          obtain ⟨b, e, _, h1, h2⟩ := hc6 hne
          refine ⟨b, e, fun W hW i n hn => ?_⟩
          have hx := hb6X.trans (hW.mono hb6X.size)
          rw [hx.cell (p := ⟨b, i, none⟩) h1]; exact h2 i n hn
        rw [hXB] at hst
        clear hb6 hc6 hL hy hb56 hWX hsX hb6X hrX
        go_upto_region 18 with (refine wpList_load_at rfl 47 _ rfl ⟨P, 3, none⟩ rfl y.cells _ HRW.out Try.underlying47 rfl (by kernel_rfl) ?_)
        clear hst hXB HRW
        go_wp2_with fail
        go_loopw [10] (fun c wr => ∃ i : Nat, i ≤ L.length ∧ c = .int .i64 (i : Int) ∧ Below WX.heap.size WX wr) (fun c _ => L.length - (intOf c).toNat)
        case atStart => exact ⟨0, Nat.zero_le _, rfl, Below.refl _ _⟩
        case round =>
          obtain ⟨i, hi, rfl, hbr⟩ := hrel
          have HBR := Lib.hid hbr
          have HBQ : Hid (∀ p : BW wr, Below WX.heap.size WX p.w) := fun p => HBR.out.trans (p.h.mono HBR.out.size)
          by_cases hil : i < L.length
          · obtain ⟨n, hn⟩ : ∃ n, L[i]? = some n := ⟨_, List.getElem?_eq_getElem hil⟩
            obtain ⟨hyl, hnp, yn, hyn, hynl⟩ := HLL.out.ok i n hn
            obtain ⟨lb, hao, hlb⟩ := HLC.out (by intro e; rw [e] at hil; simp at hil)
            obtain ⟨vb, vo, hvA, hvc⟩ := HVS.out (by intro e; rw [e] at hyn; simp at hyn)
            have hnv : n < g.vs.length := (List.getElem?_eq_some_iff.1 hyn).1
            have hiI : (i : Int) < (L.length : Int) := by omega
            have hnI : (n : Int) < (g.vs.length : Int) := by omega
            have l0 : ∀ p : BW wr, p.w.cell? ⟨lb, i, none⟩ = some (.int .i64 (n : Int)) := fun p => (hlb p.w (HBQ.out p) i n hn)
            have p1 : ∀ p : BW wr, p.w.cell? ⟨P, 1, none⟩ = some (.int .i64 (Pn : Int)) := fun p => (HF5.out p.w (HX5.out p.w (HBQ.out p))).2.2.1
            have p2 : ∀ p : BW wr, p.w.cell? ⟨P, 2, none⟩ = some (.slice (some ⟨vb, vo, none⟩) g.vs.length g.c.varsC) := fun p => by rw [← hvA]; exact (HF5.out p.w (HX5.out p.w (HBQ.out p))).2.2.2
            have HXN : Hid (∀ (p : BW wr) k u, yn.cells.toList[k]? = some u → p.w.cell? ((⟨vb, vo + n * 3, none⟩ : Addr).add k) = some u) := fun p => hvc p.w (HX5.out p.w (HBQ.out p)) n yn hyn
            have HXY : Hid (∀ (p : BW wr) k u, y.cells.toList[k]? = some u → p.w.cell? ((⟨XB, 0, none⟩ : Addr).add k) = some u) := fun p => cells_at (HBX.out p.w (HBQ.out p))
            have HL1 : Hid (∀ p : BW wr, Calls Try.prog 29 #[.agg yn.cells] p.w fun e w' => e = .returned (.bool true) ∧ Below p.w.heap.size p.w w') := fun p => by rw [← hynl]; exact lent19_calls yn p.w
            have HL2 : Hid (∀ p : BW wr, Calls Try.prog 29 #[.agg y.cells] p.w fun e w' => e = .returned (.bool true) ∧ Below p.w.heap.size p.w w') := fun p => by rw [← hyl]; exact lent19_calls y p.w
            have t1 : decide (Pn ≤ n) = false := decide_eq_false (by have := HPN.out; omega)
            have t0 : decide ((n : Int) < 0) = false := decide_eq_false (by omega)
            have HUP : Hid (∀ a b, L[i - 1]? = some a → 0 < i → L[i]? = some b → a < b) := fun a b h1 h2 h3 => HLL.out.up (i - 1) a b h1 (by rw [show i - 1 + 1 = i by omega]; exact h3)
            have HN1 := Lib.hid hn
            have HLB := Lib.hid hlb
            clear hbr hyl hynl hyn hvc hlb hvA hnp
            rw [hao]
            clear hao
            cases i with
            | zero =>
              go_wp2_with fail
              refine wp_region_quiet_bw (by kernel_rfl) (by kernel_rfl) ?_
              repeat (first
                | (go_big_quiet_want; (first
                  | (refine quiet_load_bw 47 _ rfl ⟨vb, vo + n * 3, none⟩ rfl _ _ HXN.out Try.underlying47 rfl (by kernel_rfl) ?_)
                  | (refine quiet_load_bw 47 _ rfl ⟨XB, 0, none⟩ rfl _ _ HXY.out Try.underlying47 rfl (by kernel_rfl) ?_)); (simp only [Act.put, List.setIfInBounds_toArray, List.set_cons_zero, List.set_cons_succ]); go_big_quiet_on)
                | (go_big_quiet_step (fail)))
              go_big_quiet_step ((go_at_call 29; exact bw_of (HL1.out _)))
              repeat (first
                | (go_big_quiet_want; (first
                  | (refine quiet_load_bw 47 _ rfl ⟨vb, vo + n * 3, none⟩ rfl _ _ HXN.out Try.underlying47 rfl (by kernel_rfl) ?_)
                  | (refine quiet_load_bw 47 _ rfl ⟨XB, 0, none⟩ rfl _ _ HXY.out Try.underlying47 rfl (by kernel_rfl) ?_)); (simp only [Act.put, List.setIfInBounds_toArray, List.set_cons_zero, List.set_cons_succ]); go_big_quiet_on)
                | (go_big_quiet_step (fail)))
              go_big_quiet_step ((go_at_call 29; exact bw_of (HL2.out _)))
              repeat (first
                | (go_big_quiet_want; (first
                  | (refine quiet_load_bw 47 _ rfl ⟨vb, vo + n * 3, none⟩ rfl _ _ HXN.out Try.underlying47 rfl (by kernel_rfl) ?_)
                  | (refine quiet_load_bw 47 _ rfl ⟨XB, 0, none⟩ rfl _ _ HXY.out Try.underlying47 rfl (by kernel_rfl) ?_)); (simp only [Act.put, List.setIfInBounds_toArray, List.set_cons_zero, List.set_cons_succ]); go_big_quiet_on)
                | (go_big_quiet_step (fail)))
              refine wpQuiet_nil ?_
              rintro _ ⟨p, rfl⟩
              clear l0 p1 p2
              go_wp2
              go_roundw
              case rel => exact ⟨0 + 1, by omega, by go_num, HBQ.out p⟩
              case measure => simp [intOf]; omega
            | succ i' =>
              obtain ⟨n', hn'⟩ : ∃ n', L[i']? = some n' := ⟨_, List.getElem?_eq_getElem (by omega)⟩
              have l1 : ∀ p : BW wr, p.w.cell? ⟨lb, i', none⟩ = some (.int .i64 (n' : Int)) := fun p => (HLB.out p.w (HBQ.out p) i' n' hn')
              have t2 : decide (n ≤ n') = false := decide_eq_false (by have := HUP.out n' n hn' (by omega) HN1.out; omega)
              have hi1 : ((i' + 1 : Nat) : Int) - 1 = (i' : Int) := by omega
              have hi2 : (i' : Int) < (L.length : Int) := by omega
              have hlp : L.length ≤ 300 := HLN.out
              clear hn'
              go_wp2_with fail
              refine wp_region_quiet_bw (by kernel_rfl) (by kernel_rfl) ?_
              repeat (first
                | (go_big_quiet_want; (first
                  | (refine quiet_load_bw 47 _ rfl ⟨vb, vo + n * 3, none⟩ rfl _ _ HXN.out Try.underlying47 rfl (by kernel_rfl) ?_)
                  | (refine quiet_load_bw 47 _ rfl ⟨XB, 0, none⟩ rfl _ _ HXY.out Try.underlying47 rfl (by kernel_rfl) ?_)); (simp only [Act.put, List.setIfInBounds_toArray, List.set_cons_zero, List.set_cons_succ]); go_big_quiet_on)
                | (go_big_quiet_step (fail)))
              go_big_quiet_step ((go_at_call 29; exact bw_of (HL1.out _)))
              repeat (first
                | (go_big_quiet_want; (first
                  | (refine quiet_load_bw 47 _ rfl ⟨vb, vo + n * 3, none⟩ rfl _ _ HXN.out Try.underlying47 rfl (by kernel_rfl) ?_)
                  | (refine quiet_load_bw 47 _ rfl ⟨XB, 0, none⟩ rfl _ _ HXY.out Try.underlying47 rfl (by kernel_rfl) ?_)); (simp only [Act.put, List.setIfInBounds_toArray, List.set_cons_zero, List.set_cons_succ]); go_big_quiet_on)
                | (go_big_quiet_step (fail)))
              go_big_quiet_step ((go_at_call 29; exact bw_of (HL2.out _)))
              repeat (first
                | (go_big_quiet_want; (first
                  | (refine quiet_load_bw 47 _ rfl ⟨vb, vo + n * 3, none⟩ rfl _ _ HXN.out Try.underlying47 rfl (by kernel_rfl) ?_)
                  | (refine quiet_load_bw 47 _ rfl ⟨XB, 0, none⟩ rfl _ _ HXY.out Try.underlying47 rfl (by kernel_rfl) ?_)); (simp only [Act.put, List.setIfInBounds_toArray, List.set_cons_zero, List.set_cons_succ]); go_big_quiet_on)
                | (go_big_quiet_step (fail)))
              refine wpQuiet_nil ?_
              rintro _ ⟨p, rfl⟩
              clear l0 l1 p1 p2
              go_wp2
              go_roundw
              case rel => exact ⟨i' + 1 + 1, by omega, by go_num, HBQ.out p⟩
              case measure => simp [intOf]; omega
          · have hie : i = L.length := by omega
            subst hie
            clear hbr
            go_wp2
            go_roundw
            case rel => exact ⟨0 + 1, by omega, .inr ⟨0, rfl, by go_num⟩, HX5.out wr HBR.out⟩
            case measure => simp [intOf] <;> omega
      · by_cases hul : u < g.vs.length
        rotate_left
        · have hue : u = g.vs.length := by omega
          subst hue
          clear hbm
          go_wp2
          go_roundw
          case rel => exact ⟨j + 1, by omega, by go_num, (HF5.out wm HBM.out).1⟩
          case measure => simp [intOf]; omega
        obtain ⟨y, hy⟩ : ∃ y, g.vs[u]? = some y := ⟨_, List.getElem?_eq_getElem hul⟩
        have huI : (u : Int) < (g.vs.length : Int) := by omega
        have HVW := Lib.hid (HVR.out (u : Int))
        obtain ⟨L, hL⟩ : ∃ L, varL m X (j : Int) (u : Int) = L := ⟨_, rfl⟩
        have HLL : Hid (LentL g y L) := by rw [← hL]; exact HLV.out u y hy
        have HLN : Hid (L.length ≤ 300) := by unfold Hid; rw [← hL]; exact HL3.out.2 _
        rw [hL] at HVW
        obtain ⟨vb, vo, hvA, hvc⟩ := HVS.out (by intro e; rw [e] at hul; simp at hul)
        have HHY := Lib.hid hy
        have HVA := Lib.hid hvA
        have HVC := Lib.hid hvc
        clear hbm hq hL hy hvA hvc
        go_upto_region 14 with (go_at_call 27; refine HFW.out.mono ?_; intro e w6 hg6; obtain ⟨ao6, cap6, rfl, hb6, _⟩ := givesN_at hg6; clear hg6)
        clear p1 p2
        obtain ⟨y0, hy0⟩ : ∃ y : Vr, (⟨g.c.rp, g.c.rto, g.c.rcl⟩ : Vr) = y := ⟨_, rfl⟩
        have hb56 : Below W5.heap.size W5 w6 := HBM.out.trans (hb6.mono HBM.out.size)
        obtain ⟨XB, hXB⟩ : ∃ X, w6.heap.size = X := ⟨_, rfl⟩
        obtain ⟨W7, hW7⟩ : ∃ W, w6.alloc (.cells y0.cells 47) = W := ⟨_, rfl⟩
        have hs7 : W7.heap.size = XB + 1 := by rw [← hW7]; simp [hXB]
        have hb67 : Below w6.heap.size w6 W7 := by rw [← hW7]; exact (Below.refl _ _).alloc (Nat.le_refl _) _
        have hr7 : W7.heap[XB]? = some (.cells y0.cells 47 (0, 0)) := by rw [← hW7, ← hXB]; exact alloc_at _ _
        have hb57 : Below W5.heap.size W5 W7 := hb56.trans (hb67.mono hb56.size)
        have hst : ∀ (c : Array Value), c.size = 3 → (storeCells ⟨w6.heap.size, 0, none⟩ y0.cells.toList 0).run Try.prog (w6.alloc (.cells c 47)) = .ok () W7 := fun c hc => by
          rw [← hW7]
          exact run_storeCells_new (P := Try.prog) w6 47 c y0.cells (by show _ = some 3; kernel_rfl) hc (HYO.out y0)
        have HRW : Hid (∀ k u, y0.cells.toList[k]? = some u → w6.cell? ((⟨P, 3, none⟩ : Addr).add k) = some u) := by rw [← hy0]; exact HRV.out w6 hb56
        have hXB5 : W5.heap.size ≤ XB := by rw [← hXB]; exact hb56.size
        have HVW7 := Lib.hid (HVW.out W7 hb57)
        have HB57 := Lib.hid hb57
        have HR7 := Lib.hid hr7
        have HS7 := Lib.hid hs7
        have HW7 := Lib.hid hW7
        rw [hXB] at hst
        clear hb6 hy0 hb56 hW7 hb67 hr7 hb57 hs7
        go_upto_region 17 with (first
          | (refine wpList_load_at rfl 47 _ rfl ⟨P, 3, none⟩ rfl y0.cells _ HRW.out Try.underlying47 rfl (by kernel_rfl) ?_)
          | (go_at_call 28; refine HVW7.out.mono ?_; intro e w8 hg8; obtain ⟨ao, cap, rfl, hb8, hc8⟩ := givesN_at hg8; clear hg8))
        clear hst hXB HRW HVW HVW7 HW7
        obtain ⟨WX, hWX⟩ : ∃ W, w8.setCells XB 0 y.cells.toList = W := ⟨_, rfl⟩
        have hr8 : w8.heap[XB]? = some (.cells y0.cells 47 (0, 0)) := (hb8.block XB (by rw [HS7.out]; omega)).trans HR7.out
        have hstm : (storeCells ⟨XB, 0, none⟩ y.cells.toList 0).run Try.prog w8 = .ok () WX := by
          rw [← hWX]
          refine run_storeCells_cells (P := Try.prog) XB 0 y.cells.toList 0 w8 (fun k hk => ?_) (fun k hk => frozen_of_row _ _ _ _ _ hr8) (fun v hv => ?_)
          · rw [cell_of_row _ _ _ _ _ _ hr8]
            have : k < 3 := hk
            rw [Array.getElem?_eq_getElem (by show 0 + 0 + k < 3; omega)]; rfl
          · have := HYO.out y
            rw [← Array.all_toList, List.all_eq_true] at this
            exact this v hv
        have hrX : WX.heap[XB]? = some (.cells y.cells 47 (0, 0)) := by
          have h1 := setCells_row (b := XB) (t := 47) y.cells.toList 0 w8 _ hr8
          rw [hWX] at h1
          rw [h1]
          simp [putMany, Vr.cells]
        have hx8 : Ext (· = XB) w8 WX := by rw [← hWX]; exact World.keptBut_ext XB _ _ _
        have hb58 : Below W5.heap.size W5 w8 := HB57.out.trans (hb8.mono HB57.out.size)
        have hb5X : Below W5.heap.size W5 WX := by
          have h1 : Ext (W5.heap.size ≤ ·) W5 WX := (Ext.of_below hb58).trans hx8 (fun k hk => .inl (by show W5.heap.size ≤ k; omega))
          exact h1.below (Nat.le_refl _) (fun k hk => hk)
        have hXX : XB < WX.heap.size := (Array.getElem?_eq_some_iff.1 hrX).1
        have HBX : Hid (∀ W, Below WX.heap.size WX W → W.heap[XB]? = some (.cells y.cells 47 (0, 0))) := fun W hW => (hW.block XB hXX).trans hrX
        have HX5 : Hid (∀ W, Below WX.heap.size WX W → Below W5.heap.size W5 W) := fun W hW => hb5X.trans (hW.mono hb5X.size)
        have HLC : Hid (L ≠ [] → ∃ b, ao = some ⟨b, 0, none⟩ ∧ ∀ W, Below WX.heap.size WX W → ∀ (i n : Nat), L[i]? = some n → W.cell? ⟨b, i, none⟩ = some (.int .i64 (n : Int))) := fun hne => by
          obtain ⟨b, e, h0, h1, h2⟩ := hc8 hne
          rw [HS7.out] at h0
          refine ⟨b, e, fun W hW i n hn => ?_⟩
          have h3 := h2 i n hn
          have h4 : WX.heap[b]? = w8.heap[b]? := hx8.block b h1 (by omega)
          have h5 := hx8.size
          have h6 : W.heap[b]? = w8.heap[b]? := (hW.block b (by omega)).trans h4
          have h7 : W.cell? ⟨b, i, none⟩ = w8.cell? ⟨b, i, none⟩ := World.cell?_of_block (w := w8) h6
          exact h7.trans h3
        have HLD : Hid (∀ k u', y.cells.toList[k]? = some u' → w8.cell? ((⟨vb, vo + u * 3, none⟩ : Addr).add k) = some u') := HVC.out w8 hb58 u y HHY.out
        have hd2 : w8.cell? ⟨P, 2, none⟩ = some (.slice (some ⟨vb, vo, none⟩) g.vs.length g.c.varsC) := by rw [← HVA.out]; exact (HF5.out w8 hb58).2.2.2
        clear hb8 hc8 hr8 hrX hx8 hb58 hb5X hWX
        go_upto_region 18 with (refine wpList_load_at rfl 47 _ rfl ⟨vb, vo + u * 3, none⟩ rfl y.cells _ HLD.out Try.underlying47 rfl (by kernel_rfl) ?_)
        clear hstm hd2 HLD
        go_wp2_with fail
        go_loopw [10] (fun c wr => ∃ i : Nat, i ≤ L.length ∧ c = .int .i64 (i : Int) ∧ Below WX.heap.size WX wr) (fun c _ => L.length - (intOf c).toNat)
        case atStart => exact ⟨0, Nat.zero_le _, rfl, Below.refl _ _⟩
        case round =>
          obtain ⟨i, hi, rfl, hbr⟩ := hrel
          have HBR := Lib.hid hbr
          have HBQ : Hid (∀ p : BW wr, Below WX.heap.size WX p.w) := fun p => HBR.out.trans (p.h.mono HBR.out.size)
          by_cases hil : i < L.length
          · obtain ⟨n, hn⟩ : ∃ n, L[i]? = some n := ⟨_, List.getElem?_eq_getElem hil⟩
            obtain ⟨hyl, hnp, yn, hyn, hynl⟩ := HLL.out.ok i n hn
            obtain ⟨lb, hao, hlb⟩ := HLC.out (by intro e; rw [e] at hil; simp at hil)
            obtain ⟨vb, vo, hvA, hvc⟩ := HVS.out (by intro e; rw [e] at hyn; simp at hyn)
            have hnv : n < g.vs.length := (List.getElem?_eq_some_iff.1 hyn).1
            have hiI : (i : Int) < (L.length : Int) := by omega
            have hnI : (n : Int) < (g.vs.length : Int) := by omega
            have l0 : ∀ p : BW wr, p.w.cell? ⟨lb, i, none⟩ = some (.int .i64 (n : Int)) := fun p => (hlb p.w (HBQ.out p) i n hn)
            have p1 : ∀ p : BW wr, p.w.cell? ⟨P, 1, none⟩ = some (.int .i64 (Pn : Int)) := fun p => (HF5.out p.w (HX5.out p.w (HBQ.out p))).2.2.1
            have p2 : ∀ p : BW wr, p.w.cell? ⟨P, 2, none⟩ = some (.slice (some ⟨vb, vo, none⟩) g.vs.length g.c.varsC) := fun p => by rw [← hvA]; exact (HF5.out p.w (HX5.out p.w (HBQ.out p))).2.2.2
            have HXN : Hid (∀ (p : BW wr) k u, yn.cells.toList[k]? = some u → p.w.cell? ((⟨vb, vo + n * 3, none⟩ : Addr).add k) = some u) := fun p => hvc p.w (HX5.out p.w (HBQ.out p)) n yn hyn
            have HXY : Hid (∀ (p : BW wr) k u, y.cells.toList[k]? = some u → p.w.cell? ((⟨XB, 0, none⟩ : Addr).add k) = some u) := fun p => cells_at (HBX.out p.w (HBQ.out p))
            have HL1 : Hid (∀ p : BW wr, Calls Try.prog 29 #[.agg yn.cells] p.w fun e w' => e = .returned (.bool true) ∧ Below p.w.heap.size p.w w') := fun p => by rw [← hynl]; exact lent19_calls yn p.w
            have HL2 : Hid (∀ p : BW wr, Calls Try.prog 29 #[.agg y.cells] p.w fun e w' => e = .returned (.bool true) ∧ Below p.w.heap.size p.w w') := fun p => by rw [← hyl]; exact lent19_calls y p.w
            have t1 : decide (Pn ≤ n) = false := decide_eq_false (by have := HPN.out; omega)
            have t0 : decide ((n : Int) < 0) = false := decide_eq_false (by omega)
            have HUP : Hid (∀ a b, L[i - 1]? = some a → 0 < i → L[i]? = some b → a < b) := fun a b h1 h2 h3 => HLL.out.up (i - 1) a b h1 (by rw [show i - 1 + 1 = i by omega]; exact h3)
            have HN1 := Lib.hid hn
            have HLB := Lib.hid hlb
            clear hbr hyl hynl hyn hvc hlb hvA hnp
            rw [hao]
            clear hao
            cases i with
            | zero =>
              go_wp2_with fail
              refine wp_region_quiet_bw (by kernel_rfl) (by kernel_rfl) ?_
              repeat (first
                | (go_big_quiet_want; (first
                  | (refine quiet_load_bw 47 _ rfl ⟨vb, vo + n * 3, none⟩ rfl _ _ HXN.out Try.underlying47 rfl (by kernel_rfl) ?_)
                  | (refine quiet_load_bw 47 _ rfl ⟨XB, 0, none⟩ rfl _ _ HXY.out Try.underlying47 rfl (by kernel_rfl) ?_)); (simp only [Act.put, List.setIfInBounds_toArray, List.set_cons_zero, List.set_cons_succ]); go_big_quiet_on)
                | (go_big_quiet_step (fail)))
              go_big_quiet_step ((go_at_call 29; exact bw_of (HL1.out _)))
              repeat (first
                | (go_big_quiet_want; (first
                  | (refine quiet_load_bw 47 _ rfl ⟨vb, vo + n * 3, none⟩ rfl _ _ HXN.out Try.underlying47 rfl (by kernel_rfl) ?_)
                  | (refine quiet_load_bw 47 _ rfl ⟨XB, 0, none⟩ rfl _ _ HXY.out Try.underlying47 rfl (by kernel_rfl) ?_)); (simp only [Act.put, List.setIfInBounds_toArray, List.set_cons_zero, List.set_cons_succ]); go_big_quiet_on)
                | (go_big_quiet_step (fail)))
              go_big_quiet_step ((go_at_call 29; exact bw_of (HL2.out _)))
              repeat (first
                | (go_big_quiet_want; (first
                  | (refine quiet_load_bw 47 _ rfl ⟨vb, vo + n * 3, none⟩ rfl _ _ HXN.out Try.underlying47 rfl (by kernel_rfl) ?_)
                  | (refine quiet_load_bw 47 _ rfl ⟨XB, 0, none⟩ rfl _ _ HXY.out Try.underlying47 rfl (by kernel_rfl) ?_)); (simp only [Act.put, List.setIfInBounds_toArray, List.set_cons_zero, List.set_cons_succ]); go_big_quiet_on)
                | (go_big_quiet_step (fail)))
              refine wpQuiet_nil ?_
              rintro _ ⟨p, rfl⟩
              clear l0 p1 p2
              go_wp2
              go_roundw
              case rel => exact ⟨0 + 1, by omega, by go_num, HBQ.out p⟩
              case measure => simp [intOf]; omega
            | succ i' =>
              obtain ⟨n', hn'⟩ : ∃ n', L[i']? = some n' := ⟨_, List.getElem?_eq_getElem (by omega)⟩
              have l1 : ∀ p : BW wr, p.w.cell? ⟨lb, i', none⟩ = some (.int .i64 (n' : Int)) := fun p => (HLB.out p.w (HBQ.out p) i' n' hn')
              have t2 : decide (n ≤ n') = false := decide_eq_false (by have := HUP.out n' n hn' (by omega) HN1.out; omega)
              have hi1 : ((i' + 1 : Nat) : Int) - 1 = (i' : Int) := by omega
              have hi2 : (i' : Int) < (L.length : Int) := by omega
              have hlp : L.length ≤ 300 := HLN.out
              clear hn'
              go_wp2_with fail
              refine wp_region_quiet_bw (by kernel_rfl) (by kernel_rfl) ?_
              repeat (first
                | (go_big_quiet_want; (first
                  | (refine quiet_load_bw 47 _ rfl ⟨vb, vo + n * 3, none⟩ rfl _ _ HXN.out Try.underlying47 rfl (by kernel_rfl) ?_)
                  | (refine quiet_load_bw 47 _ rfl ⟨XB, 0, none⟩ rfl _ _ HXY.out Try.underlying47 rfl (by kernel_rfl) ?_)); (simp only [Act.put, List.setIfInBounds_toArray, List.set_cons_zero, List.set_cons_succ]); go_big_quiet_on)
                | (go_big_quiet_step (fail)))
              go_big_quiet_step ((go_at_call 29; exact bw_of (HL1.out _)))
              repeat (first
                | (go_big_quiet_want; (first
                  | (refine quiet_load_bw 47 _ rfl ⟨vb, vo + n * 3, none⟩ rfl _ _ HXN.out Try.underlying47 rfl (by kernel_rfl) ?_)
                  | (refine quiet_load_bw 47 _ rfl ⟨XB, 0, none⟩ rfl _ _ HXY.out Try.underlying47 rfl (by kernel_rfl) ?_)); (simp only [Act.put, List.setIfInBounds_toArray, List.set_cons_zero, List.set_cons_succ]); go_big_quiet_on)
                | (go_big_quiet_step (fail)))
              go_big_quiet_step ((go_at_call 29; exact bw_of (HL2.out _)))
              repeat (first
                | (go_big_quiet_want; (first
                  | (refine quiet_load_bw 47 _ rfl ⟨vb, vo + n * 3, none⟩ rfl _ _ HXN.out Try.underlying47 rfl (by kernel_rfl) ?_)
                  | (refine quiet_load_bw 47 _ rfl ⟨XB, 0, none⟩ rfl _ _ HXY.out Try.underlying47 rfl (by kernel_rfl) ?_)); (simp only [Act.put, List.setIfInBounds_toArray, List.set_cons_zero, List.set_cons_succ]); go_big_quiet_on)
                | (go_big_quiet_step (fail)))
              refine wpQuiet_nil ?_
              rintro _ ⟨p, rfl⟩
              clear l0 l1 p1 p2
              go_wp2
              go_roundw
              case rel => exact ⟨i' + 1 + 1, by omega, by go_num, HBQ.out p⟩
              case measure => simp [intOf]; omega
          · have hie : i = L.length := by omega
            subst hie
            clear hbr
            go_wp2
            go_roundw
            case rel => exact ⟨u + 1 + 1, by omega, .inr ⟨u + 1, rfl, by go_num⟩, HX5.out wr HBR.out⟩
            case measure => simp [intOf] <;> omega
end Go.Proofs.Ytlggjbopfnndbaa
