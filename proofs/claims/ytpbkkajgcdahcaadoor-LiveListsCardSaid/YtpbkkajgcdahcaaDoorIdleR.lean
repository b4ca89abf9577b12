/- The reference's Idle: instructions that write for nobody. -/
import Derived.Test.YtpbkkajgcdahcaaDoorPicks
namespace Go.Proofs.YtpbkkajgcdahcaaDoor
open Go.RowKit

/-- A pair (d, writes) of an instruction j: it writes for nobody. -/
def idleD (S : Nat → List Nat) (m j : Nat) (d : Int) (wr : Bool) : Bool := wr && decide (0 ≤ d) && decide (d < (m : Int)) && !decide (j ∈ S d.toNat)
def idleAt (ins : List Ins) (S : Nat → List Nat) (m j : Nat) : Bool :=
  match ins[j]? with
  | some i => idleD S m j (writesOf i).1 (writesOf i).2
  | none => false

theorem PickI.gives' {p : Nat → Bool} {n N N' : Nat} {w W0 wr : World} {v : Value} (h : PickI p N' W0 n v wr) (hle : N ≤ N') (hN : w.heap.size = N) (hb : Below N w wr) : GivesL w (pick p n) (.returned v) wr := by
  obtain ⟨ao, cap, h1, h2, h3⟩ := h
  rw [GivesL, hN]
  refine ⟨ao, cap, by rw [h1], ?_, hb⟩
  unfold OwnI
  have : (ints (pick p n)).length = (pick p n).length := by simp [ints]
  rw [this]
  refine ⟨h2.1, ?_⟩
  rcases h2.2 with h | ⟨g, cap', cur, e, hg, h3⟩
  · exact .inl h
  · exact .inr ⟨g, cap', cur, e, by omega, h3⟩

set_option maxRecDepth 100000 in
set_option maxHeartbeats 8000000 in
theorem refIdle_calls (c : Cod) (w : World) (m cap : Nat) (ao : Option Addr) (S : Nat → List Nat) (base : Nat) (hin : c.inn w) (htab : TabB w base c.ins.length m S (.slice ao m cap)) (hn : c.ins.length ≤ 400) (hm : m ≤ 400) :
    Calls Tryd.prog 13 #[.agg c.cells, .slice ao m cap] w (GivesL w (pick (idleAt c.ins S m) c.ins.length)) := by
  have HIN := Lib.hid hin
  have HT := Lib.hid htab
  clear htab
  obtain ⟨C, hC⟩ : ∃ C, c = C := ⟨_, rfl⟩
  obtain ⟨nm, par, varsA, nvars, varsC, rp, rto, rcl, fromA, nfrom, fromC, insA, insC, ins⟩ := c
  simp only at hn
  simp only [Cod.cells]
  simp only at HT
  obtain ⟨n, hnn⟩ : ∃ n, ins.length = n := ⟨_, rfl⟩
  obtain ⟨N, hN⟩ : ∃ N, w.heap.size = N := ⟨_, rfl⟩
  obtain ⟨W0, hW0⟩ : ∃ W0, w.alloc (.cells #[.string nm, .int .i64 par, .slice varsA nvars varsC, .bool rp, .string rto, .int .i64 rcl, .slice fromA nfrom fromC, .slice insA n insC] 30) = W0 := ⟨_, rfl⟩
  have hb0 : Below N w W0 := by rw [← hW0, ← hN]; exact (Below.refl _ _).alloc (Nat.le_refl _) _
  have hcode : W0.heap[N]? = some (.cells #[.string nm, .int .i64 par, .slice varsA nvars varsC, .bool rp, .string rto, .int .i64 rcl, .slice fromA nfrom fromC, .slice insA n insC] 30 (0, 0)) := by
    rw [← hW0, ← hN]; exact alloc_at _ _
  have hs0 : W0.heap.size = N + 1 := by rw [← hW0]; simp [hN]
  have HK : Hid (∀ W, Below (N + 1) W0 W → (W.cell? ⟨N, 0, none⟩ = some (.string nm) ∧ W.cell? ⟨N, 1, none⟩ = some (.int .i64 par) ∧ W.cell? ⟨N, 2, none⟩ = some (.slice varsA nvars varsC) ∧ W.cell? ⟨N, 3, none⟩ = some (.bool rp) ∧ W.cell? ⟨N, 4, none⟩ = some (.string rto) ∧ W.cell? ⟨N, 5, none⟩ = some (.int .i64 rcl) ∧ W.cell? ⟨N, 6, none⟩ = some (.slice fromA nfrom fromC) ∧ W.cell? ⟨N, 7, none⟩ = some (.slice insA n insC)) ∧
      C.inn W ∧ Below N w W ∧ N + 1 ≤ W.heap.size) := by
    intro W hx
    have h4 := (hx.block N (by omega)).trans hcode
    have hb : Below N w W := hb0.trans (hx.mono (by omega))
    refine ⟨⟨?_, ?_, ?_, ?_, ?_, ?_, ?_, ?_⟩, by rw [← hC]; exact HIN.out.below (by rw [hN]; exact hb), hb, by have := hx.size; omega⟩ <;> (rw [cell_of_row _ _ _ _ _ _ h4]; rfl)
  have HW0 := Lib.hid hW0
  obtain ⟨p, hp⟩ : ∃ p, idleAt ins S m = p := ⟨_, rfl⟩
  have HP := Lib.hid hp
  rw [hp]
  have HCE : Hid (C.ins = ins ∧ C.insA = insA) := by rw [← hC]; exact ⟨rfl, rfl⟩
  have HN' := Lib.hid hnn
  rw [hnn] at hn HT ⊢
  clear hp hb0 hcode hs0 hW0 hnn hC hin
  go_enter Tryd.func13, Tryd.ntmps13
  go_wp2_with fail
  rw [HW0.out]
  go_loopw [5, 6] (fun v c wr => ∃ j : Nat, j ≤ n ∧ c = .int .i64 (j : Int) ∧ PickI p (N + 1) W0 j v wr) (fun _ c _ => n - (intOf c).toNat)
  case atStart => exact ⟨0, Nat.zero_le _, rfl, PickI.start p (Below.refl _ _)⟩
  case round =>
    obtain ⟨j, hj, rfl, hpk⟩ := hrel
    have HPK := Lib.hid hpk
    obtain ⟨ao2, cap2, rfl, hown, hbl⟩ := hpk
    obtain ⟨⟨k0, k1, k2, k3, k4, k5, k6, k7⟩, hinr, hbN, hszr⟩ := HK.out wr hbl
    by_cases hjn : j < n
    · obtain ⟨i, hi⟩ : ∃ i, ins[j]? = some i := ⟨_, List.getElem?_eq_getElem (by have := HN'.out; omega)⟩
      have hok := (hinr.args i (List.mem_of_getElem? (by rw [HCE.out.1]; exact hi))).1
      obtain ⟨b0, off, hA0, hb0, hcell⟩ := hinr.row (by intro e; rw [HCE.out.1] at e; rw [e] at hi; simp at hi)
      rw [HCE.out.2] at hA0
      subst hA0
      rw [HCE.out.1] at hcell
      have HCA : Hid (∀ q u, i.cells.toList[q]? = some u → wr.cell? ((⟨b0, off + j * 13, none⟩ : Addr).add q) = some u) := fun q u hu => by
        rw [Addr.add_lit]; exact hcell j i hi q u hu
      have HWC := Lib.hid (refWrites_calls i wr hok)
      have hpj : p j = idleD S m j (writesOf i).1 (writesOf i).2 := by rw [← HP.out]; unfold idleAt; rw [hi]
      obtain ⟨⟨d, wrt⟩, hdw⟩ : ∃ x, writesOf i = x := ⟨_, rfl⟩
      rw [hdw] at HWC hpj
      simp only at HWC hpj
      have hjI : (j : Int) < (n : Int) := by omega
      have hpl := pick_len p j
      have HTR := Lib.hid (HT.out.below (by rw [hN]; exact hbN))
      have HPJ := Lib.hid hpj
      clear hi hok hcell hdw hown hinr hbN hpj hbl
      go_upto_region 6 with (first | (refine wpList_load_at rfl 53 _ rfl ⟨b0, off + j * 13, none⟩ rfl i.cells _ HCA.out Tryd.underlying53 rfl (by kernel_rfl) ?_) | (go_at_call 21; refine HWC.out.mono ?_; rintro e w3 ⟨rfl, hb3⟩))
      have HPK3 := Lib.hid (HPK.out.next hb3 (by omega))
      have HTR3 := Lib.hid (HTR.out.below hb3)
      have hs3 := hb3.size
      clear k0 k1 k2 k3 k4 k5 k6 k7 hb3
      cases wrt with
      | false =>
        have HR := Lib.hid (HPK3.out.skip (by rw [HPJ.out]; rfl))
        go_wp2
        exact ⟨⟨j + 1, by omega, by simp, HR.out⟩, by simp [intOf]; omega⟩
      | true =>
        by_cases a1 : 0 ≤ d
        · by_cases a2 : d < (m : Int)
          · obtain ⟨x, rfl⟩ : ∃ x : Nat, d = (x : Int) := ⟨d.toNat, by omega⟩
            have hxm : x < m := by omega
            obtain ⟨g, b, rfl, hg, hb, hc1, hc2⟩ := HTR3.out.read hxm
            have c3 := hc2 j hjn
            have hpx : p j = !decide (j ∈ S x) := by rw [HPJ.out]; unfold idleD; rw [decide_eq_true a1, decide_eq_true a2]; simp
            obtain ⟨q, hq⟩ : ∃ q, decide (j ∈ S x) = q := ⟨_, rfl⟩
            rw [hq] at c3 hpx
            have HPX := Lib.hid hpx
            clear hc2 hpx hq a1
            cases q with
            | false =>
              obtain ⟨j0, hj0, hj1, hj2, hj3⟩ := info_parts info_int
              obtain ⟨ao3, cap3, e3, hown, hbl⟩ := HPK3.out
              simp only [Value.slice.injEq, true_and] at e3
              obtain ⟨rfl, rfl⟩ := e3
              have HOWN := Lib.hid hown
              have HBL := Lib.hid hbl
              clear hown hbl
              go_wp2_with (at_builtin; refine wpList_append_lies _ rfl _ _ 27 rfl (N + 1) 3 j0 (.int .i64 0) 1 8 Tryd.underlying27 hj0 hj1 hj2 hj3 rfl (by decide) _ (pick p j).length _ rfl (ownsRow_below HOWN.out ((Below.refl w3.heap.size w3).alloc (Nat.le_refl _) _)) ⟨w3.heap.size, 0, none⟩ 1 1 [.int .i64 (j : Int)] rfl rfl (cells_new _ _ _) (by simp [Value.oneCell']) (by decide) ?c1 ?c2 ?c3 _ rfl ?_)
              case c1 => unfold maxLen; omega
              case c2 => omega
              case c3 => rw [World.size_alloc]; omega
              intro g5 cap5 w5 hown5 hgrow5 _ _
              have HR := Lib.hid (PickI.app HPX.out (by omega) HBL.out HOWN.out hown5 hgrow5)
              clear hown5 hgrow5
              go_wp2
              exact ⟨⟨j + 1, by omega, by simp, HR.out⟩, by simp [intOf]; omega⟩
            | true =>
              have HR := Lib.hid (HPK3.out.skip HPX.out)
              go_wp2
              exact ⟨⟨j + 1, by omega, by simp, HR.out⟩, by simp [intOf]; omega⟩
          · have HR := Lib.hid (HPK3.out.skip (by rw [HPJ.out]; unfold idleD; rw [decide_eq_false a2]; simp))
            go_wp2
            exact ⟨⟨j + 1, by omega, by simp, HR.out⟩, by simp [intOf]; omega⟩
        · have HR := Lib.hid (HPK3.out.skip (by rw [HPJ.out]; unfold idleD; rw [decide_eq_false a1]; simp))
          go_wp2
          exact ⟨⟨j + 1, by omega, by simp, HR.out⟩, by simp [intOf]; omega⟩
    · have hje : j = n := by omega
      subst hje
      have HG : Hid (GivesL w (pick p j) (.returned (.slice ao2 (pick p j).length cap2)) wr) := by
        exact HPK.out.gives' (by omega) hN hbN
      clear hown hbl hinr hbN
      go_wp2
      go_ret
      exact HG.out
end Go.Proofs.YtpbkkajgcdahcaaDoor
