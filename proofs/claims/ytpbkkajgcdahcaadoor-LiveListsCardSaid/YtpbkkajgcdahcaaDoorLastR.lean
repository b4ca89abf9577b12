/- The reference's Last: what reads a variable last. -/
import Derived.Test.YtpbkkajgcdahcaaDoorIdleR
namespace Go.Proofs.YtpbkkajgcdahcaaDoor
open Go.RowKit

def lastAt (ins : List Ins) (S : Nat → List Nat) (m : Nat) (v : Int) (j : Nat) : Bool :=
  match ins[j]? with
  | some i => decide (0 ≤ v) && decide (v < (m : Int)) && (decide (v ∈ readsOf i) && !decide (j ∈ S v.toNat))
  | none => false

theorem pick_none {p : Nat → Bool} (h : ∀ j, p j = false) (n : Nat) : pick p n = [] := by
  unfold pick
  rw [List.filter_eq_nil_iff]
  intro a _
  rw [h a]; decide

set_option maxRecDepth 100000 in
set_option maxHeartbeats 8000000 in
theorem refLast_calls (c : Cod) (w : World) (m cap : Nat) (ao : Option Addr) (S : Nat → List Nat) (base : Nat) (hin : c.inn w) (hargs : ∀ i ∈ c.ins, i.args.length ≤ 40) (htab : TabB w base c.ins.length m S (.slice ao m cap)) (hn : c.ins.length ≤ 400) (hm : m ≤ 400) (v : Int) :
    Calls Tryd.prog 16 #[.agg c.cells, .slice ao m cap, .int .i64 v] w (GivesL w (pick (lastAt c.ins S m v) c.ins.length)) := by
  have HIN := Lib.hid hin
  have HARGS := Lib.hid hargs
  clear hargs
  have HT := Lib.hid htab
  clear htab
  obtain ⟨C, hC⟩ : ∃ C, c = C := ⟨_, rfl⟩
  obtain ⟨nm, par, varsA, nvars, varsC, rp, rto, rcl, fromA, nfrom, fromC, insA, insC, ins⟩ := c
  simp only at hn
  simp only [Cod.cells]
  simp only at HT HARGS
  obtain ⟨n, hnn⟩ : ∃ n, ins.length = n := ⟨_, rfl⟩
  obtain ⟨N, hN⟩ : ∃ N, w.heap.size = N := ⟨_, rfl⟩
  obtain ⟨W0, hW0⟩ : ∃ W0, w.alloc (.cells #[.string nm, .int .i64 par, .slice varsA nvars varsC, .bool rp, .string rto, .int .i64 rcl, .slice fromA nfrom fromC, .slice insA n insC] 30) = W0 := ⟨_, rfl⟩
  have hb0 : Below N w W0 := by rw [← hW0, ← hN]; exact (Below.refl _ _).alloc (Nat.le_refl _) _
  have hcode : W0.heap[N]? = some (.cells #[.string nm, .int .i64 par, .slice varsA nvars varsC, .bool rp, .string rto, .int .i64 rcl, .slice fromA nfrom fromC, .slice insA n insC] 30 (0, 0)) := by
    rw [← hW0, ← hN]; exact alloc_at _ _
  have hs0 : W0.heap.size = N + 1 := by rw [← hW0]; simp [hN]
  have HK : Hid (∀ W, Below (N + 1) W0 W → (W.cell? ⟨N, 0, none⟩ = some (.string nm) ∧ W.cell? ⟨N, 1, none⟩ = some (.int .i64 par) ∧ W.cell? ⟨N, 2, none⟩ = some (.slice varsA nvars varsC) ∧ W.cell? ⟨N, 3, none⟩ = some (.bool rp) ∧ W.cell? ⟨N, 4, none⟩ = some (.string rto) ∧ W.cell? ⟨N, 5, none⟩ = some (.int .i64 rcl) ∧ W.cell? ⟨N, 6, none⟩ = some (.slice fromA nfrom fromC) ∧ W.cell? ⟨N, 7, none⟩ = some (.slice insA n insC)) ∧
      C.inn W ∧ Below N w W ∧ N + 1 ≤ W.heap.size) := by
    intro W hx
    have h4 := (hx.block N (by omega)).trans hcode
    have hb : Below N w W := hb0.trans (hx.mono (by omega))
    refine ⟨⟨?_, ?_, ?_, ?_, ?_, ?_, ?_, ?_⟩, by rw [← hC]; exact HIN.out.below (by rw [hN]; exact hb), hb, by have := hx.size; omega⟩ <;> (rw [cell_of_row _ _ _ _ _ _ h4]; rfl)
  have HW0 := Lib.hid hW0
  obtain ⟨p, hp⟩ : ∃ p, lastAt ins S m v = p := ⟨_, rfl⟩
  have HP := Lib.hid hp
  rw [hp]
  have HCE : Hid (C.ins = ins ∧ C.insA = insA) := by rw [← hC]; exact ⟨rfl, rfl⟩
  have HN' := Lib.hid hnn
  rw [hnn] at hn HT ⊢
  clear hp hb0 hcode hs0 hW0 hnn hC hin
  by_cases a1 : 0 ≤ v
  · by_cases a2 : v < (m : Int)
    · obtain ⟨x, rfl⟩ : ∃ x : Nat, v = (x : Int) := ⟨v.toNat, by omega⟩
      have hxm : x < m := by omega
      clear a1
      go_enter Tryd.func16, Tryd.ntmps16
      go_wp2_with fail
      rw [HW0.out]
      go_loopw [7, 8] (fun v c wr => ∃ j : Nat, j ≤ n ∧ c = .int .i64 (j : Int) ∧ PickI p (N + 1) W0 j v wr) (fun _ c _ => n - (intOf c).toNat)
      case atStart => exact ⟨0, Nat.zero_le _, rfl, PickI.start p (Below.refl _ _)⟩
      case round =>
        obtain ⟨j, hj, rfl, hpk⟩ := hrel
        have HPK := Lib.hid hpk
        obtain ⟨ao2, cap2, rfl, hown, hbl⟩ := hpk
        obtain ⟨⟨k0, k1, k2, k3, k4, k5, k6, k7⟩, hinr, hbN, hszr⟩ := HK.out wr hbl
        by_cases hjn : j < n
        · obtain ⟨i, hi⟩ : ∃ i, ins[j]? = some i := ⟨_, List.getElem?_eq_getElem (by have := HN'.out; omega)⟩
          have hai := hinr.args i (List.mem_of_getElem? (by rw [HCE.out.1]; exact hi))
          have hl40 := HARGS.out i (List.mem_of_getElem? hi)
          obtain ⟨b0, off, hA0, hb0, hcell⟩ := hinr.row (by intro e; rw [HCE.out.1] at e; rw [e] at hi; simp at hi)
          rw [HCE.out.2] at hA0
          subst hA0
          rw [HCE.out.1] at hcell
          have HCA : Hid (∀ q u, i.cells.toList[q]? = some u → wr.cell? ((⟨b0, off + j * 13, none⟩ : Addr).add q) = some u) := fun q u hu => by
            rw [Addr.add_lit]; exact hcell j i hi q u hu
          have HRC := Lib.hid (refReads_calls i wr hai hl40)
          have hrl : (readsOf i).length ≤ 42 := readsOf_len i hl40
          have hpj : p j = (decide ((x : Int) ∈ readsOf i) && !decide (j ∈ S x)) := by rw [← HP.out]; unfold lastAt; rw [hi]; simp only []; rw [decide_eq_true (show (0 : Int) ≤ (x : Int) by omega), decide_eq_true a2]; simp
          obtain ⟨r, hr⟩ : ∃ r, decide ((x : Int) ∈ readsOf i) = r := ⟨_, rfl⟩
          rw [hr] at hpj
          have HRR := Lib.hid hr
          have hjI : (j : Int) < (n : Int) := by omega
          have hpl := pick_len p j
          have HTR := Lib.hid (HT.out.below (by rw [hN]; exact hbN))
          have HPJ := Lib.hid hpj
          clear hi hai hl40 hcell hown hinr hbN hpj hbl hr
          cases r with
          | false =>
            go_wp2_with (first | (refine wpList_load_at rfl 53 _ rfl ⟨b0, off + j * 13, none⟩ rfl i.cells _ HCA.out Tryd.underlying53 rfl (by kernel_rfl) ?_) | (go_at_call 20; refine HRC.out.mono ?_; rintro e w3 ⟨ao3, cap3, rfl, hown3, hb3⟩; have HPK3 := Lib.hid (HPK.out.next hb3 (by omega)); have HAT := Lib.hid hown3.at_; clear hown3 hb3) | (go_at_call 34; refine (in10_calls _ cap3 ao3 (readsOf i) (x : Int) (by omega) HAT.out).mono ?_; rintro e w4 ⟨rfl, rfl⟩; rw [HRR.out]))
            have HR := Lib.hid (HPK3.out.skip (by rw [HPJ.out]; rfl))
            go_wp2
            exact ⟨⟨j + 1, by omega, by simp, HR.out⟩, by simp [intOf]; omega⟩
          | true =>
            obtain ⟨g, b, rfl, hg, hb, hc1, hc2⟩ := HTR.out.read hxm
            have c3 := hc2 j hjn
            obtain ⟨q, hq⟩ : ∃ q, decide (j ∈ S x) = q := ⟨_, rfl⟩
            rw [hq] at c3
            have hpx : p j = !q := by rw [HPJ.out, hq]; rfl
            have HPX := Lib.hid hpx
            clear hc2 hpx hq
            have HC3 := Lib.hid c3
            have HC1 := Lib.hid hc1
            clear c3 hc1
            cases q with
            | false =>
              obtain ⟨j0, hj0, hj1, hj2, hj3⟩ := info_parts info_int
              go_wp2_with (first | (refine wpList_load_at rfl 53 _ rfl ⟨b0, off + j * 13, none⟩ rfl i.cells _ HCA.out Tryd.underlying53 rfl (by kernel_rfl) ?_) | (go_at_call 20; refine HRC.out.mono ?_; rintro e w3 ⟨ao3, cap3, rfl, hown3, hb3⟩; have HPK3 := Lib.hid (HPK.out.next hb3 (by omega)); have HAT := Lib.hid hown3.at_; have c1' := (hb3.cell (p := ⟨g, x, none⟩) hg).trans HC1.out; have c3' := (hb3.cell (p := ⟨b, j, none⟩) hb).trans HC3.out; have hs3 := hb3.size; clear hown3 hb3) | (go_at_call 34; refine (in10_calls _ cap3 ao3 (readsOf i) (x : Int) (by omega) HAT.out).mono ?_; rintro e w4 ⟨rfl, rfl⟩; rw [HRR.out]; obtain ⟨ao4, cap4, e4, hown4, hbl4⟩ := HPK3.out; simp only [Value.slice.injEq, true_and] at e4; obtain ⟨rfl, rfl⟩ := e4; have HOWN := Lib.hid hown4; have HBL := Lib.hid hbl4; clear hown4 hbl4) | (at_builtin; refine wpList_append_lies _ rfl _ _ 27 rfl (N + 1) 3 j0 (.int .i64 0) 1 8 Tryd.underlying27 hj0 hj1 hj2 hj3 rfl (by decide) _ (pick p j).length _ rfl (ownsRow_below HOWN.out ((Below.refl w3.heap.size w3).alloc (Nat.le_refl _) _)) ⟨w3.heap.size, 0, none⟩ 1 1 [.int .i64 (j : Int)] rfl rfl (cells_new _ _ _) (by simp [Value.oneCell']) (by decide) ?c1 ?c2 ?c3 _ rfl ?_))
              case c1 => unfold maxLen; omega
              case c2 => omega
              case c3 => rw [World.size_alloc]; omega
              intro g5 cap5 w5 hown5 hgrow5 _ _
              have HR := Lib.hid (PickI.app HPX.out (by omega) HBL.out HOWN.out hown5 hgrow5)
              clear hown5 hgrow5
              go_wp2
              exact ⟨⟨j + 1, by omega, by simp, HR.out⟩, by simp [intOf]; omega⟩
            | true =>
              go_wp2_with (first | (refine wpList_load_at rfl 53 _ rfl ⟨b0, off + j * 13, none⟩ rfl i.cells _ HCA.out Tryd.underlying53 rfl (by kernel_rfl) ?_) | (go_at_call 20; refine HRC.out.mono ?_; rintro e w3 ⟨ao3, cap3, rfl, hown3, hb3⟩; have HPK3 := Lib.hid (HPK.out.next hb3 (by omega)); have HAT := Lib.hid hown3.at_; have c1' := (hb3.cell (p := ⟨g, x, none⟩) hg).trans HC1.out; have c3' := (hb3.cell (p := ⟨b, j, none⟩) hb).trans HC3.out; have hs3 := hb3.size; clear hown3 hb3) | (go_at_call 34; refine (in10_calls _ cap3 ao3 (readsOf i) (x : Int) (by omega) HAT.out).mono ?_; rintro e w4 ⟨rfl, rfl⟩; rw [HRR.out]))
              have HR := Lib.hid (HPK3.out.skip HPX.out)
              go_wp2
              exact ⟨⟨j + 1, by omega, by simp, HR.out⟩, by simp [intOf]; omega⟩
        · have hje : j = n := by omega
          subst hje
          have HG : Hid (GivesL w (pick p j) (.returned (.slice ao2 (pick p j).length cap2)) wr) := by
            exact HPK.out.gives' (by omega) hN hbN
          clear hown hbl hinr hbN
          go_wp2
          go_ret
          exact HG.out
    · have hpn : pick p n = [] := pick_none (fun j => by rw [← HP.out]; unfold lastAt; cases ins[j]? with | none => rfl | some i => simp only []; rw [decide_eq_false a2]; simp) n
      rw [hpn]
      clear hpn
      go_enter Tryd.func16, Tryd.ntmps16
      go_wp2_with fail
      rw [HW0.out]
      obtain ⟨⟨k0, k1, k2, k3, k4, k5, k6, k7⟩, _, hbN, _⟩ := HK.out W0 (Below.refl _ _)
      have HG : Hid (GivesL w [] (.returned (.slice none 0 0)) W0) := by rw [GivesL, hN]; exact ⟨none, 0, rfl, World.ownsRow_nil _ _ _ _, hbN⟩
      clear hbN
      by_cases hn0 : 0 < n
      · have hnI : (0 : Int) < (n : Int) := by omega
        go_loopw [7, 8] (fun v c wr => v = .slice none 0 0 ∧ c = .int .i64 0 ∧ wr = W0) (fun _ c _ => 0)
        case atStart => exact ⟨rfl, rfl, rfl⟩
        case round =>
          obtain ⟨rfl, rfl, rfl⟩ := hrel
          go_wp2
          go_ret
          exact HG.out
      · have hn0' : n = 0 := by omega
        subst hn0'
        go_loopw [7, 8] (fun v c wr => v = .slice none 0 0 ∧ c = .int .i64 0 ∧ wr = W0) (fun _ c _ => 0)
        case atStart => exact ⟨rfl, rfl, rfl⟩
        case round =>
          obtain ⟨rfl, rfl, rfl⟩ := hrel
          go_wp2
          go_ret
          exact HG.out
  · have hpn : pick p n = [] := pick_none (fun j => by rw [← HP.out]; unfold lastAt; cases ins[j]? with | none => rfl | some i => simp only []; rw [decide_eq_false a1]; simp) n
    rw [hpn]
    clear hpn
    go_enter Tryd.func16, Tryd.ntmps16
    go_wp2_with fail
    rw [HW0.out]
    obtain ⟨⟨k0, k1, k2, k3, k4, k5, k6, k7⟩, _, hbN, _⟩ := HK.out W0 (Below.refl _ _)
    have HG : Hid (GivesL w [] (.returned (.slice none 0 0)) W0) := by rw [GivesL, hN]; exact ⟨none, 0, rfl, World.ownsRow_nil _ _ _ _, hbN⟩
    clear hbN
    by_cases hn0 : 0 < n
    · have hnI : (0 : Int) < (n : Int) := by omega
      go_loopw [7, 8] (fun v c wr => v = .slice none 0 0 ∧ c = .int .i64 0 ∧ wr = W0) (fun _ c _ => 0)
      case atStart => exact ⟨rfl, rfl, rfl⟩
      case round =>
        obtain ⟨rfl, rfl, rfl⟩ := hrel
        go_wp2
        go_ret
        exact HG.out
    · have hn0' : n = 0 := by omega
      subst hn0'
      go_loopw [7, 8] (fun v c wr => v = .slice none 0 0 ∧ c = .int .i64 0 ∧ wr = W0) (fun _ c _ => 0)
      case atStart => exact ⟨rfl, rfl, rfl⟩
      case round =>
        obtain ⟨rfl, rfl, rfl⟩ := hrel
        go_wp2
        go_ret
        exact HG.out
end Go.Proofs.YtpbkkajgcdahcaaDoor
