/- The edges of an instruction to instructions: the reference's. -/
import Derived.Test.YtpbkkajgcdahcaaNext
import Derived.Deep.QuietTactic
import Derived.BigQuiet
namespace Go.Proofs.Ytpbkkajgcdahcaa
open Go.RowKit

set_option maxRecDepth 100000 in
set_option maxHeartbeats 1000000 in
theorem ref08_Next (c : Cod) (at_ : Nat) (x : Ins) (w : World) (hc : InsRow w w.heap.size c.insA c.ins) (hx : c.ins[at_]? = some x) (hn : c.ins.length ≤ 100000) :
    Calls Try.prog 19 #[.agg c.cells, .int .i64 (at_ : Int)] w (GivesI w ((nextOf x at_).filter (inR c.ins.length))) := by
  obtain ⟨nm, par, varsA, nvars, varsC, rp, rto, rcl, fromA, nfrom, fromC, insA, insC, ins⟩ := c
  simp only at hc hx hn
  have hlt : at_ < ins.length := (List.getElem?_eq_some_iff.1 hx).1
  have hltI : (at_ : Int) < (ins.length : Int) := by omega
  obtain ⟨b, off, rfl, hb, hcell⟩ := hc (by intro e; rw [e] at hlt; simp at hlt)
  have hcell' : ∀ W, Below w.heap.size w W → ∀ j u, x.cells.toList[j]? = some u → W.cell? ((⟨b, off + at_ * 13, none⟩ : Addr).add j) = some u := fun W hW j u hu => by
    rw [Addr.add_lit, hW.cell (p := ⟨b, _, none⟩) hb]; exact hcell at_ x hx j u hu
  have HC := Lib.hid hcell'
  have HX := Lib.hid hx
  clear hcell hcell' hx
  obtain ⟨i0, hi, hz0, hz1, hz2⟩ := info_parts info_int
  obtain ⟨xs, hxs⟩ : ∃ xs, nextOf x (at_ : Int) = xs := ⟨_, rfl⟩
  rw [hxs]
  have HXS := Lib.hid hxs
  clear hxs
  simp only [Cod.cells]
  go_enter Try.func19, Try.ntmps19
  go_wp2_with (first | ((refine wpList_load_at rfl 61 _ rfl _ rfl x.cells _ (HC.out _ ((Below.refl _ _).alloc (Nat.le_refl _) _)) Try.underlying61 rfl (by kernel_rfl) ?_)) | (go_at_call 58; refine (ref05_Next x _ _ (by omega) (by omega)).mono ?_; rintro e w1 ⟨ao, cap, rfl, hown, hbel⟩))
  rw [HXS.out] at hown ⊢
  have hxl : xs.length ≤ 2 := by
    rw [← HXS.out]; unfold nextOf; repeat' split
    all_goals simp
  clear HXS
  have hbe : Below w.heap.size w w1 := ((Below.refl _ _).alloc (Nat.le_refl _) _).trans (hbel.mono (by simp))
  have hsz : w.heap.size < w1.heap.size := by have := hbel.size; simp at this; omega
  have hcc0 : w1.cell? ⟨w.heap.size, 7, none⟩ = some (.slice (some ⟨b, off, none⟩) ins.length insC) := by
    rw [hbel.cell (p := ⟨w.heap.size, 7, none⟩) (by simp), World.cell?_alloc_new]; rfl
  have HO := Lib.hid hown
  have HB := Lib.hid hbe
  clear hown hbel hbe HC HX hc
  go_loopw [5, 7] (fun v i wr => ∃ k : Nat, k ≤ xs.length ∧ i = .int .i64 (k : Int) ∧ OwnI wr w1.heap.size v ((xs.take k).filter (inR ins.length)) ∧ Below w1.heap.size w1 wr) (fun _ i _ => xs.length - (intOf i).toNat)
  case atStart => exact ⟨0, Nat.zero_le _, rfl, OwnI.nil _ _, Below.refl _ _⟩
  case round =>
    obtain ⟨k, hk, rfl, hv, hb1⟩ := hrel
    have hcc : wr.cell? ⟨w.heap.size, 7, none⟩ = some (.slice (some ⟨b, off, none⟩) ins.length insC) := by
      rw [hb1.cell (p := ⟨w.heap.size, 7, none⟩) hsz]; exact hcc0
    by_cases hkl : k < xs.length
    · obtain ⟨g, rfl, hg1, hg2, hgc⟩ := HO.out.shape (by omega)
      obtain ⟨z, hz⟩ : ∃ z, xs[k]? = some z := ⟨_, List.getElem?_eq_getElem hkl⟩
      have hlc : wr.cell? ⟨g, k, none⟩ = some (.int .i64 z) := by
        rw [hb1.cell (p := ⟨g, k, none⟩) hg2]; exact hgc k z hz
      have hkI : (k : Int) < (xs.length : Int) := by omega
      by_cases h0 : 0 ≤ z
      · by_cases h1 : z < (ins.length : Int)
        · have hin : inR ins.length z = true := by simp only [inR, decide_eq_true_eq]; omega
          have HV := Lib.hid hv
          have HZ := Lib.hid hz
          have HI := Lib.hid hin
          have hfl : ((xs.take k).filter (inR ins.length)).length ≤ k := Nat.le_trans (List.length_filter_le _ _) (List.length_take_le _ _)
          have HG := Lib.hid hgc
          clear hv hz hin hgc
          go_wp2
          go_quiet (fail)
          go_wp2_with (at_builtin; refine wpList_append_own _ rfl _ _ 27 rfl w1.heap.size 3 i0 (.int .i64 0) 1 8 Try.underlying27 hi hz0 hz1 hz2 rfl (by decide) _ _ _ rfl ((ownsRow_drewN _ HV.out).alloc _) ⟨wr.heap.size, 0, none⟩ 1 1 [.int .i64 z] rfl rfl (cell_one_new _ _ _) (by simp [Value.oneCell']) ?c3 ?c4 ?c5 ?_)
          case c3 => simp only [maxLen]; omega
          case c4 => omega
          case c5 => rw [World.size_alloc]; exact Nat.le_succ_of_le hb1.size
          intro v' w2 hown2 hgrow2 _
          have HN : Hid (OwnI w2 w1.heap.size v' ((xs.take (k + 1)).filter (inR ins.length)) ∧ Below w1.heap.size w1 w2) :=
            ⟨by rw [take_snocI HZ.out, List.filter_append, List.filter_cons, HI.out]; exact OwnI.app hown2, below_grow (below_drewN hb1 nq) hb1.size (ownsRow_drewN nq HV.out) hgrow2⟩
          clear hown2 hgrow2 hb1 hcc hcc0 hlc
          go_wp2
          go_roundw
          case rel => exact ⟨k + 1, by omega, by go_num, HN.out.1, HN.out.2⟩
          case measure => simp [intOf]; omega
        · have hin : inR ins.length z = false := by simp only [inR, decide_eq_false_iff_not]; omega
          have HN : Hid ((xs.take (k + 1)).filter (inR ins.length) = (xs.take k).filter (inR ins.length)) := by
            unfold Hid; rw [take_snocI hz, List.filter_append, List.filter_cons, hin]; simp
          have HV := Lib.hid hv
          have hd : decide (z < (ins.length : Int)) = false := by simpa using h1
          clear hv hz hin hgc h1
          go_wp2
          go_quiet (fail)
          go_wp2
          go_roundw
          case rel => exact ⟨k + 1, by omega, by go_num, by rw [HN.out]; exact HV.out, below_drewN hb1 _⟩
          case measure => simp [intOf]; omega
      · have hin : inR ins.length z = false := by simp only [inR, decide_eq_false_iff_not]; omega
        have HN : Hid ((xs.take (k + 1)).filter (inR ins.length) = (xs.take k).filter (inR ins.length)) := by
          unfold Hid; rw [take_snocI hz, List.filter_append, List.filter_cons, hin]; simp
        have HV := Lib.hid hv
        have hd : decide (0 ≤ z) = false := by simpa using h0
        clear hv hz hin hgc
        go_wp2
        go_quiet (fail)
        go_wp2
        go_roundw
        case rel => exact ⟨k + 1, by omega, by go_num, by rw [HN.out]; exact HV.out, below_drewN hb1 _⟩
        case measure => simp [intOf]; omega
    · have hke : xs.take k = xs := List.take_of_length_le (by omega)
      rw [hke] at hv
      have HV := Lib.hid hv
      clear hke hv
      go_wp2
      go_ret
      have hs : ∃ ao cap, u5 = .slice ao (xs.filter (inR ins.length)).length cap := HV.out.isSlice
      obtain ⟨ao', cap', e⟩ := hs
      rw [e] at HV ⊢
      exact ⟨ao', cap', rfl, HV.out.mono (base' := w.heap.size) (by omega), HB.out.trans (hb1.mono (B' := w.heap.size) (by omega))⟩
end Go.Proofs.Ytpbkkajgcdahcaa
