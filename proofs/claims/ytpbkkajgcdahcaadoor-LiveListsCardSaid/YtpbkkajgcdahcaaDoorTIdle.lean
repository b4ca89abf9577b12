/- The table's Idle. -/
import Derived.Test.YtpbkkajgcdahcaaDoorIdleR
import Derived.Test.YtpbkkajgcdahcaaDoorAsk
import Derived.Deep.WholeRow
namespace Go.Proofs.YtpbkkajgcdahcaaDoor
open Go.RowKit

set_option maxRecDepth 100000 in
set_option maxHeartbeats 8000000 in
theorem tIdle_calls (c : Cod) (w : World) (T RA RB : Nat) (a b : Nat → Nat → Nat) (hin : c.inn w) (hok : TabOk w T RA RB c a b) (hfit : Fits c.ins c.nvars) (hn : c.ins.length ≤ 400) (hm : c.nvars ≤ 400) :
    Calls Tryd.prog 12 #[.pointer (some ⟨T, 0, none⟩)] w (GivesL w (pick (fun j => match c.ins[j]? with | some i => (writesOf i).2 && !bitOf (b j) (writesOf i).1.toNat | none => false) c.ins.length)) := by
  obtain ⟨p, hp⟩ : ∃ p : Nat → Bool, (fun j => match c.ins[j]? with | some i => (writesOf i).2 && !bitOf (b j) (writesOf i).1.toNat | none => false) = p := ⟨_, rfl⟩
  have HP := Lib.hid hp
  rw [hp]
  clear hp
  have k7 : w.cell? ⟨T, 7, none⟩ = some (.slice c.insA c.ins.length c.insC) := hok.tab.cells rfl
  obtain ⟨N, hN⟩ : ∃ N, w.heap.size = N := ⟨_, rfl⟩
  have hTlt : T < N := by rw [← hN]; exact (Array.getElem?_eq_some_iff.1 hok.tab.tab).1
  have HIN := Lib.hid hin
  have HOK := Lib.hid hok
  have HFIT := Lib.hid hfit
  obtain ⟨n, hnn⟩ : ∃ n, c.ins.length = n := ⟨_, rfl⟩
  have HN' := Lib.hid hnn
  rw [hnn] at k7 hn ⊢
  clear hin hok hfit hnn
  go_enter Tryd.func12, Tryd.ntmps12
  go_wp2_with fail
  go_loopw [2, 15] (fun v c wr => ∃ j : Nat, j ≤ n ∧ c = .int .i64 (j : Int) ∧ PickI p N w j v wr) (fun _ c _ => n - (intOf c).toNat)
  case atStart => exact ⟨0, Nat.zero_le _, rfl, PickI.start p (Below.refl _ _)⟩
  case round =>
    obtain ⟨j, hj, rfl, hpk⟩ := hrel
    have HPK := Lib.hid hpk
    obtain ⟨ao2, cap2, rfl, hown, hbl⟩ := hpk
    have hszr : N ≤ wr.heap.size := by have := hbl.size; omega
    have hinr := HIN.out.below (by rw [hN]; exact hbl)
    have hokr := HOK.out.below (by rw [hN]; exact hbl)
    by_cases hjn : j < n
    · obtain ⟨i, hi⟩ : ∃ i, c.ins[j]? = some i := ⟨_, List.getElem?_eq_getElem (by have := HN'.out; omega)⟩
      have hai := hinr.args i (List.mem_of_getElem? hi)
      obtain ⟨b0, off, hA0, hb0, hcell⟩ := hinr.row (by intro e; rw [e] at hi; simp at hi)
      rw [hA0]
      have HCA : Hid (∀ q u, i.cells.toList[q]? = some u → wr.cell? ((⟨b0, off + j * 13, none⟩ : Addr).add q) = some u) := fun q u hu => by
        rw [Addr.add_lit]; exact hcell j i hi q u hu
      have hjI : (j : Int) < (n : Int) := by omega
      have hpl := pick_len p j
      obtain ⟨⟨⟨ao1, cp1, e1⟩, ao3, n3, cp3, e3⟩, _⟩ := hai
      have HWC : Hid (∀ W, Calls Tryd.prog 30 #[.agg i.cells] W fun e w' => e = .returned (.tuple #[.int .i64 (writesOf i).1, .bool (writesOf i).2]) ∧ Below W.heap.size W w') := fun W => irWrites_calls i W ⟨⟨ao1, cp1, e1⟩, ao3, n3, cp3, e3⟩
      have hpj : p j = ((writesOf i).2 && !bitOf (b j) (writesOf i).1.toNat) := by rw [← HP.out]; simp only []; rw [hi]
      have hfi := HFIT.out
      obtain ⟨⟨d, wrt⟩, hdw⟩ : ∃ x, writesOf i = x := ⟨_, rfl⟩
      rw [hdw] at HWC hpj
      simp only at HWC hpj
      have HPJ := Lib.hid hpj
      have hone : i.cells.all (·.oneCell') = true := by rw [← Array.all_toList]; simp only [Ins.cells, e1, e3, List.all_cons, List.all_nil]; rfl
      have hst : ∀ c : Array Value, c.size = 13 → (storeCells ⟨wr.heap.size, 0, none⟩ i.cells.toList).run Tryd.prog (wr.alloc (.cells c 53)) = .ok () (wr.alloc (.cells i.cells 53)) := fun c hc =>
        run_storeCells_new (P := Tryd.prog) wr 53 c i.cells (by show _ = some 13; kernel_rfl) hc hone
      obtain ⟨W5, hW5⟩ : ∃ W5, wr.alloc (.cells i.cells 53) = W5 := ⟨_, rfl⟩
      rw [hW5] at hst
      have hb5 : Below wr.heap.size wr W5 := by rw [← hW5]; exact (Below.refl _ _).alloc (Nat.le_refl _) _
      have hr5 : W5.heap[wr.heap.size]? = some (.cells i.cells 53 (0, 0)) := by rw [← hW5]; exact alloc_at _ _
      have HLD : Hid (∀ q u, i.cells.toList[q]? = some u → W5.cell? ((⟨wr.heap.size, 0, none⟩ : Addr).add q) = some u) := fun q u hu => by
        rw [Addr.add_lit, Nat.zero_add, cell_of_row _ _ _ _ _ _ hr5]; simpa using hu
      have HPK5 := Lib.hid (HPK.out.next hb5 hszr)
      have HOK5 := Lib.hid (hokr.below hb5)
      have hs5 := hb5.size
      have hdf : wrt = true → 0 ≤ d ∧ d < (c.nvars : Int) := by
        have := (hfi i (List.mem_of_getElem? hi)).2
        rw [hdw] at this; exact this
      have HDF := Lib.hid hdf
      have HW5 := Lib.hid (HWC.out W5)
      clear hi hcell hdw hown hpj hbl hinr hokr hfi hone hW5 hb5 hr5 hdf e1 e3
      go_upto_region 6 with (first | (refine wpList_load_at rfl 53 _ rfl ⟨b0, off + j * 13, none⟩ rfl i.cells _ HCA.out Tryd.underlying53 rfl (by kernel_rfl) ?_))
      go_upto_region 7 with (first | (refine wpList_load_at rfl 53 _ rfl ⟨wr.heap.size, 0, none⟩ rfl i.cells _ HLD.out Tryd.underlying53 rfl (by kernel_rfl) ?_) | (go_at_call 30; refine HW5.out.mono ?_; rintro e w3 ⟨rfl, hb3⟩))
      have HPK3 := Lib.hid (HPK5.out.next hb3 (by omega))
      have HOK3 := Lib.hid (HOK5.out.below hb3)
      have hs3 := hb3.size
      clear hb3 hst
      cases wrt with
      | false =>
        have HR := Lib.hid (HPK3.out.skip (by rw [HPJ.out]; rfl))
        go_wp2
        exact ⟨⟨j + 1, by omega, by simp, HR.out⟩, by simp [intOf]; omega⟩
      | true =>
        obtain ⟨hd0, hd1⟩ := HDF.out rfl
        obtain ⟨x, rfl⟩ : ∃ x : Nat, d = (x : Int) := ⟨d.toNat, by omega⟩
        have hB := tbehind_calls w3 T RA RB c a b j x HOK3.out (by rw [HN'.out]; exact hjn) (by omega) (by rw [HN'.out]; omega) (by omega)
        have hpx : p j = !bitOf (b j) x := by rw [HPJ.out]; simp
        obtain ⟨q, hq⟩ : ∃ q, bitOf (b j) x = q := ⟨_, rfl⟩
        rw [hq] at hB hpx
        have HB := Lib.hid hB
        have HPX := Lib.hid hpx
        clear hB hpx hq hd0 hd1
        cases q with
        | false =>
          obtain ⟨j0, hj0, hj1, hj2, hj3⟩ := info_parts info_int
          obtain ⟨ao4, cap4, e4, hown, hbl⟩ := HPK3.out
          simp only [Value.slice.injEq, true_and] at e4
          obtain ⟨rfl, rfl⟩ := e4
          have HOWN := Lib.hid hown
          have HBL := Lib.hid hbl
          clear hown hbl
          go_wp2_with (first | (go_at_call 18; refine HB.out.mono ?_; rintro e w4 ⟨rfl, rfl⟩) | (at_builtin; refine wpList_append_lies _ rfl _ _ 27 rfl N 3 j0 (.int .i64 0) 1 8 Tryd.underlying27 hj0 hj1 hj2 hj3 rfl (by decide) _ (pick p j).length _ rfl (ownsRow_below HOWN.out ((Below.refl w3.heap.size w3).alloc (Nat.le_refl _) _)) ⟨w3.heap.size, 0, none⟩ 1 1 [.int .i64 (j : Int)] rfl rfl (cells_new _ _ _) (by simp [Value.oneCell']) (by decide) ?c1 ?c2 ?c3 _ rfl ?_))
          case c1 => unfold maxLen; omega
          case c2 => omega
          case c3 => rw [World.size_alloc]; omega
          intro g5 cap5 w5 hown5 hgrow5 _ _
          have HR := Lib.hid (PickI.app HPX.out (by omega) HBL.out HOWN.out hown5 hgrow5)
          clear hown5 hgrow5
          go_wp2
          exact ⟨⟨j + 1, by omega, by simp, HR.out⟩, by simp [intOf]; omega⟩
        | true =>
          have HR := Lib.hid (HPK3.out.skip HPX.out)
          go_wp2_with (go_at_call 18; refine HB.out.mono ?_; rintro e w4 ⟨rfl, rfl⟩)
          exact ⟨⟨j + 1, by omega, by simp, HR.out⟩, by simp [intOf]; omega⟩
    · have hje : j = n := by omega
      subst hje
      have HG : Hid (GivesL w (pick p j) (.returned (.slice ao2 (pick p j).length cap2)) wr) := by have := HPK.out; rw [← hN] at this; exact this.gives
      clear hown hbl hinr hokr
      go_wp2
      go_ret
      exact HG.out
end Go.Proofs.YtpbkkajgcdahcaaDoor
