/- One step of the table of what is asked. -/
import Derived.Test.YtpbkkajgcdahcaaDoorTable
import Derived.Deep.RegionHeld3
namespace Go.Proofs.YtpbkkajgcdahcaaDoor
open Go.RowKit

theorem TabI.cells {w : World} {T RA RB k : Nat} {c : Cod} {a b : Nat → Nat → Nat} (h : TabI w T RA RB k c a b) {q : Nat} {v : Value} (hv : (tabCells c RA RB)[q]? = some v) : w.cell? ⟨T, q, none⟩ = some v := by
  rw [cell_of_row _ _ _ _ _ _ h.tab]; exact hv

/-- Adding the reads, one by one: the first q of them are added. -/
def AddI (w1 : World) (G k : Nat) (f : Nat → Nat) (l : List Nat) (c : Value) (wr : World) : Prop :=
  ∃ q : Nat, q ≤ l.length ∧ c = .int .i64 (q : Int) ∧ RowW wr G k ((l.take q).foldl addW f) ∧ Ext (· = G) w1 wr

set_option maxRecDepth 100000 in
set_option maxHeartbeats 4000000 in
theorem step_calls (w : World) (T RA RB k x : Nat) (c : Cod) (a b : Nat → Nat → Nat) (i : Ins) (h : TabI w T RA RB k c a b) (hi : c.ins[x]? = some i) (hin : c.inn w) (hl : i.args.length ≤ 40) (hn : c.ins.length ≤ 90000) (hk : k ≤ 90000)
    (hfit : (∀ r ∈ readsOf i, 0 ≤ r ∧ r < ((64 * k : Nat) : Int)) ∧ ((writesOf i).2 = true → 0 ≤ (writesOf i).1 ∧ (writesOf i).1 < ((64 * k : Nat) : Int))) (hb : ∀ y j, b y j < 18446744073709551616) :
    Calls Tryd.prog 24 #[.pointer (some ⟨T, 0, none⟩), .int .i64 (x : Int)] w (Stepped w T RA RB k c a b x i) := by
  have hlt : x < c.ins.length := (List.getElem?_eq_some_iff.1 hi).1
  have hltI : (x : Int) < (c.ins.length : Int) := by omega
  obtain ⟨b0, off, hA, hb0, hcell⟩ := hin.row (by intro e; rw [e] at hlt; simp at hlt)
  have hTlt : T < w.heap.size := (Array.getElem?_eq_some_iff.1 h.tab).1
  have hRBlt : RB < w.heap.size := (Array.getElem?_eq_some_iff.1 h.behind).1
  have hRAlt : RA < w.heap.size := by obtain ⟨cur, h1, _⟩ := h.ahead; exact (Array.getElem?_eq_some_iff.1 h1).1
  have hwx := (h.words x hlt).lt
  have hwn : RB + c.ins.length < w.heap.size := by have := (h.words (c.ins.length - 1) (by omega)).lt; omega
  have HK : Hid (∀ W, Below w.heap.size w W → W.cell? ⟨T, 7, none⟩ = some (.slice (some ⟨b0, off, none⟩) c.ins.length c.insC) ∧ W.cell? ⟨T, 8, none⟩ = some (.slice (some ⟨RA, 0, none⟩) c.ins.length c.ins.length) ∧ W.cell? ⟨T, 9, none⟩ = some (.slice (some ⟨RB, 0, none⟩) c.ins.length c.ins.length) ∧
      W.cell? ⟨RB, x, none⟩ = some (.slice (some ⟨RB + 1 + x, 0, none⟩) k k) ∧ RowW W (RB + 1 + x) k (b x) ∧ TabI W T RA RB k c a b ∧ c.inn W ∧ W.frozen? ⟨RA, x, none⟩ = false ∧ (∃ v, W.cell? ⟨RA, x, none⟩ = some v) ∧
      ∀ j u, i.cells.toList[j]? = some u → W.cell? ((⟨b0, off + x * 13, none⟩ : Addr).add j) = some u) := by
    intro W hW
    have ht : TabI W T RA RB k c a b := h.keep (Ext.of_below_size hW) (fun _ h => h)
    obtain ⟨cur, q1, q2, q3⟩ := ht.ahead
    obtain ⟨g, cp, q4, _, _⟩ := q3 x hlt
    refine ⟨ht.cells (by rw [← hA]; rfl), ht.cells rfl, ht.cells rfl, ?_, ht.words x hlt, ht, hin.below hW, frozen_of_row _ _ _ _ _ q1, ⟨_, by rw [cell_of_row _ _ _ _ _ _ q1]; exact q4⟩, fun j u hu => ?_⟩
    · rw [cell_of_row _ _ _ _ _ _ ht.behind, rowVals_get _ _ _ hlt, if_pos hlt]
    · rw [Addr.add_lit, hW.cell (p := ⟨b0, _, none⟩) hb0]; exact hcell x i hi j u hu
  have HI := Lib.hid hi
  have hai := hin.args i (List.mem_of_getElem? hi)
  have HAI := Lib.hid hai
  obtain ⟨n, hnn⟩ : ∃ n, c.ins.length = n := ⟨_, rfl⟩
  rw [hnn] at hlt hltI hn hwn
  have HNN := Lib.hid hnn
  have HFR := Lib.hid hfit.1
  have HFW := Lib.hid hfit.2
  have HB := Lib.hid hb
  have HP : Hid (∀ g cp e w', ¬ FixB T RA RB n g → w.heap.size ≤ g → Below w.heap.size w w' → RowW w' g k (stepW i (b x)) → e = Ending.returned (.bool (decide (0 < countOf k (stepW i (b x))))) → Stepped w T RA RB k c a b x i e (w'.setCell ⟨RA, x, none⟩ (.slice (some ⟨g, 0, none⟩) k cp))) := by
    intro g cp e w' hg hgl hw' hr he
    refine ⟨he, ?_, ((Ext.of_below_size hw' : Ext (fun _ => False) w w').mono (fun _ h => h.elim)).trans (Ext.set1 _ _ _ _) (fun _ h => .inl h)⟩
    have ht := h.keep (Ext.of_below_size hw') (fun _ h => h)
    exact ht.put (by omega) (by rw [hnn]; exact hg) hr
  obtain ⟨k7, k8, k9, kb, kr, _⟩ := HK.out w (Below.refl _ _)
  rw [hnn] at k7 k8 k9
  have KR := Lib.hid kr
  obtain ⟨N, hN⟩ : ∃ N, w.heap.size = N := ⟨_, rfl⟩
  obtain ⟨I, hI⟩ : ∃ I, i = I := ⟨_, rfl⟩
  rw [hI] at HAI HFR HFW HP HI
  have HII := Lib.hid hI
  have hlI : I.args.length ≤ 40 := by rw [← hI]; exact hl
  obtain ⟨⟨⟨ao1, cp1, e1⟩, ao2, n2, cp2, e2⟩, _⟩ := hai
  obtain ⟨op, d, ia, ib, f, nn, sign, argsV, modeV, tgt, els, ln, cl, args⟩ := i
  simp only at e1 e2 hl
  subst e1 e2
  have HCA : Hid (∀ W, Below w.heap.size w W → ∀ j u, (⟨op, d, ia, ib, f, nn, sign, .slice ao1 args.length cp1, .slice ao2 n2 cp2, tgt, els, ln, cl, args⟩ : Ins).cells.toList[j]? = some u → W.cell? ((⟨b0, off + x * 13, none⟩ : Addr).add j) = some u) := fun W hW => (HK.out W hW).2.2.2.2.2.2.2.2.2
  obtain ⟨W1, hW1⟩ : ∃ W1, w.alloc (.cells #[.int .i64 op, .int .i64 d, .int .i64 ia, .int .i64 ib, .int .i64 f, .int .i64 nn, .string sign, .slice ao1 args.length cp1, .slice ao2 n2 cp2, .int .i64 tgt, .int .i64 els, .int .i64 ln, .int .i64 cl] 53) = W1 := ⟨_, rfl⟩
  have hb1 : Below N w W1 := by rw [← hW1, ← hN]; exact (Below.refl _ _).alloc (Nat.le_refl _) _
  have hs1 : W1.heap.size = N + 1 := by rw [← hW1]; simp [hN]
  have hr1 : W1.heap[N]? = some (.cells I.cells 53 (0, 0)) := by
    rw [← hW1, ← hN, ← hI]; exact alloc_at _ _
  have HX : Hid (∀ W, Ext (fun q => N + 1 ≤ q) W1 W → Below N w W ∧ (∀ j u, I.cells.toList[j]? = some u → W.cell? ((⟨N, 0, none⟩ : Addr).add j) = some u) ∧ N + 1 ≤ W.heap.size) := by
    intro W hx
    have h4 := hx.heap hr1 (by omega)
    have hbW : Below N w W := hb1.trans ((hx.below (B := N + 1) (by omega) (fun k hk => hk)).mono (by omega))
    refine ⟨hbW, fun j u hu => ?_, (Array.getElem?_eq_some_iff.1 h4).1⟩
    rw [Addr.add_lit, Nat.zero_add, cell_of_row _ _ _ _ _ _ h4]; simpa using hu
  have HW1 := Lib.hid hW1
  have HS1 := Lib.hid hs1
  have HB1 := Lib.hid hb1
  have hKR1 : RowW W1 (RB + 1 + x) k (b x) := KR.out.below hb1 (by omega)
  have HKR1 := Lib.hid hKR1
  rw [hN] at hTlt hRBlt hRAlt hwn
  clear h hi hin hA hcell hnn hfit hb kr hW1 hs1 hb1 hr1 hI hKR1
  go_enter Tryd.func24, Tryd.ntmps24
  go_upto_region 3 with (first | (refine wpList_load_at rfl 53 _ rfl ⟨b0, off + x * 13, none⟩ rfl (⟨op, d, ia, ib, f, nn, sign, .slice ao1 args.length cp1, .slice ao2 n2 cp2, tgt, els, ln, cl, args⟩ : Ins).cells _ (HCA.out _ (Below.refl _ _)) Tryd.underlying53 rfl (by kernel_rfl) ?_; simp only [Ins.cells]) | (go_at_call 39; rw [HW1.out]; refine (rowClone_calls _ (RB + 1 + x) k k (b x) HKR1.out hk).mono ?_; rintro e w2 ⟨g, cp, rfl, hg, hrow, hb2⟩))
  clear k7 k8 k9 kb
  rw [HS1.out] at hg hb2
  have hx2 : Ext (fun q => N + 1 ≤ q) W1 w2 := Ext.of_below_size (by rw [HS1.out]; exact hb2)
  have HX2 := Lib.hid hx2
  have HR2 := Lib.hid hrow
  have HLD := Lib.hid (HX.out w2 hx2).2.1
  have hs2 := (HX.out w2 hx2).2.2
  have hgl : g < w2.heap.size := hrow.lt
  have HWR := Lib.hid (irWrites_calls I w2 HAI.out.1)
  clear hx2 hrow hb2
  obtain ⟨wd, hwd⟩ : ∃ wd, writesOf I = wd := ⟨_, rfl⟩
  rw [hwd] at HWR HFW
  have HWD := Lib.hid hwd
  clear hwd
  obtain ⟨dv, wb⟩ := wd
  simp only at HWR HFW
  go_upto_if 32 with (first | (refine wpList_load_at rfl 53 _ rfl ⟨N, 0, none⟩ rfl I.cells _ HLD.out Tryd.underlying53 rfl (by kernel_rfl) ?_) | (go_at_call 30; refine HWR.out.mono ?_; rintro e w3 ⟨rfl, hb3⟩))
  have hx3 : Ext (fun q => N + 1 ≤ q) W1 w3 := HX2.out.trans (Ext.of_below_size hb3 : Ext (fun _ => False) w2 w3) (fun _ h => h.elim)
  have hr3 : RowW w3 g k (b x) := HR2.out.below hb3 hgl
  have HR3 := Lib.hid hr3
  have HX3 := Lib.hid hx3
  have hs3 := hb3.size
  clear hx3 hr3 hb3
  obtain ⟨f1, hf1⟩ : ∃ f1, f1 = (if (writesOf I).2 = true then dropW (b x) (writesOf I).1.toNat else b x) := ⟨_, rfl⟩
  have HF1 := Lib.hid hf1
  have HL1 : Hid (∀ p, f1 p < 18446744073709551616) := by
    rw [hf1]
    intro p
    split
    · exact dropW_lt (HB.out x) _ p
    · exact HB.out x p
  rw [HWD.out] at hf1
  go_cut [] (fun wc => RowW wc g k f1 ∧ Ext (fun q => N + 1 ≤ q) W1 wc ∧ g < wc.heap.size)
  case first =>
    cases wb with
    | true =>
      simp only [if_true] at hf1
      obtain ⟨h0, h1⟩ := HFW.out rfl
      obtain ⟨dn, rfl⟩ : ∃ dn : Nat, dv = (dn : Int) := ⟨dv.toNat, by omega⟩
      simp only [Int.toNat_natCast] at hf1
      have HDR := Lib.hid (rowDrop_calls w3 g k cp dn (b x) HR3.out (HB.out x) (by omega) hk)
      have HF1' := Lib.hid hf1
      clear hf1 h0 h1
      go_wp2_with (go_at_call 40; refine HDR.out.mono ?_; rintro e w4 ⟨rfl, hr4, hx4⟩)
      go_meet
      case rel => exact ⟨by rw [HF1'.out]; exact hr4, HX3.out.trans hx4 (fun q hq => .inl (by omega)), hr4.lt⟩
    | false =>
      simp only [if_neg (show ¬ (false = true) by decide)] at hf1
      have HF1' := Lib.hid hf1
      clear hf1
      go_wp2
      go_meet
      case rel => exact ⟨by rw [HF1'.out]; exact HR3.out, HX3.out, by omega⟩
  case rest =>
    obtain ⟨hrc, hxc, hgc⟩ := hcut
    obtain ⟨hbc, hlc, hsc⟩ := HX.out wc hxc
    have HRD := Lib.hid (irReads_calls I wc (HAI.out.below (by rw [hN]; exact hbc)) hlI)
    have HLC := Lib.hid hlc
    have HRC := Lib.hid hrc
    have HXC := Lib.hid hxc
    clear hrc hxc hbc hlc hf1
    go_wp2_with (first | (refine wpList_load_at rfl 53 _ rfl ⟨N, 0, none⟩ rfl I.cells _ HLC.out Tryd.underlying53 rfl (by kernel_rfl) ?_) | (go_at_call 33; refine HRD.out.mono ?_; rintro e w4 ⟨ao4, cap4, rfl, hown4, hb4⟩))
    have hx4 : Ext (fun _ => False) wc w4 := Ext.of_below_size hb4
    have HO4 := Lib.hid hown4
    have HR4 := Lib.hid (HRC.out.ext hx4 (fun h => h))
    have HX4 : Hid (Ext (fun q => N + 1 ≤ q) W1 w4) := HXC.out.trans hx4 (fun _ h => h.elim)
    have hg4 := HR4.out.lt
    have hrl : (readsOf I).length ≤ 42 := readsOf_len I hlI
    obtain ⟨rs, hrs⟩ : ∃ rs, rs = (readsOf I).map Int.toNat := ⟨_, rfl⟩
    have hrsl : rs.length = (readsOf I).length := by rw [hrs]; simp
    have HRS := Lib.hid hrs
    clear hown4 hb4 hx4 hrs
    go_loopw [39] (fun c wr => AddI w4 g k f1 rs c wr) (fun c _ => (readsOf I).length - (intOf c).toNat)
    case atStart => exact ⟨0, Nat.zero_le _, rfl, by simpa using HR4.out, Ext.refl _ _⟩
    case round =>
      obtain ⟨q, hq, rfl, hrq, hxq⟩ := hrel
      by_cases hql : q < (readsOf I).length
      · obtain ⟨z, hz⟩ : ∃ z, (readsOf I)[q]? = some z := ⟨_, List.getElem?_eq_getElem hql⟩
        obtain ⟨h0, h1⟩ := HFR.out z (List.mem_of_getElem? hz)
        obtain ⟨zn, rfl⟩ : ∃ zn : Nat, z = (zn : Int) := ⟨z.toNat, by omega⟩
        obtain ⟨g2, rfl, hg2, hg2l, hgc2⟩ := HO4.out.shape (by omega)
        have hcz : wr.cell? ⟨g2, q, none⟩ = some (.int .i64 (zn : Int)) := by rw [hxq.cell (a := ⟨g2, q, none⟩) hg2l (by show ¬ g2 = g; omega)]; exact hgc2 q _ hz
        have hqI : (q : Int) < ((readsOf I).length : Int) := by omega
        have HAD := Lib.hid (rowAdd_calls wr g k cp zn ((rs.take q).foldl addW f1) hrq (addsW_lt _ HL1.out) (by omega) hk)
        have HSN : Hid ((rs.take (q + 1)).foldl addW f1 = addW ((rs.take q).foldl addW f1) zn) := by
          unfold Hid
          have e : rs[q]? = some zn := by rw [HRS.out]; simp [hz]
          rw [List.take_add_one, e, List.foldl_append]; rfl
        have HXQ := Lib.hid hxq
        clear hz h0 h1 hgc2 hrq hxq
        go_wp2_with (go_at_call 41; refine HAD.out.mono ?_; rintro e w5 ⟨rfl, hr5, hx5⟩)
        go_roundw
        case rel => exact ⟨q + 1, by omega, by go_num, by rw [HSN.out]; exact hr5, HXQ.out.trans hx5 (fun _ h => .inl h)⟩
        case measure => simp [intOf]; omega
      · have hqe : q = rs.length := by omega
        subst hqe
        rw [List.take_length] at hrq
        have hfin : RowW wr g k (stepW I (b x)) := by
          have e : stepW I (b x) = rs.foldl addW f1 := by rw [HRS.out, HF1.out]; rfl
          rw [e]; exact hrq
        have hxN : Ext (fun q => N + 1 ≤ q) W1 wr := HX4.out.trans hxq (fun p hp => .inl (by omega))
        obtain ⟨hbN, _, hsN⟩ := HX.out wr hxN
        have hbw : Below w.heap.size w wr := by rw [hN]; exact hbN
        obtain ⟨_, k8, _, _, _, _, _, kf, ⟨kv, kc⟩, _⟩ := HK.out wr hbw
        rw [HNN.out] at k8
        have HRW5 : Hid (RowW (wr.setCell ⟨RA, x, none⟩ (.slice (some ⟨g, 0, none⟩) k cp)) g k (stepW I (b x))) := hfin.ext (Ext.set1 _ _ _ _) (by show ¬ g = RA; omega)
        have HCN := Lib.hid (rowCount_calls (wr.setCell ⟨RA, x, none⟩ (.slice (some ⟨g, 0, none⟩) k cp)) g k cp (stepW I (b x)) HRW5.out (stepW_lt I (HB.out x)) hk)
        have HPP := Lib.hid (HP.out g cp _ wr (by unfold FixB; omega) (by omega) hbw hfin rfl)
        clear hrq hxq hfin hxN hbN hbw
        go_wp2_with (go_at_call 31; refine HCN.out.mono ?_; rintro e w6 ⟨rfl, rfl⟩)
        go_ret
        rw [HII.out]
        exact HPP.out
end Go.Proofs.YtpbkkajgcdahcaaDoor
