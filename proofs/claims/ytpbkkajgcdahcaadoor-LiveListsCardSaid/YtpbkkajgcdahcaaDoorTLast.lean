/- The table's Last. -/
import Derived.Test.YtpbkkajgcdahcaaDoorTIdle
import Derived.Test.YtpbkkajgcdahcaaDoorLastR
import Derived.Test.YtpbkkajgcdahcaaDoorSlIdx
namespace Go.Proofs.YtpbkkajgcdahcaaDoor
open Go.RowKit

set_option maxRecDepth 100000 in
set_option maxHeartbeats 8000000 in
theorem tLast_calls (c : Cod) (w : World) (T RA RB : Nat) (a b : Nat → Nat → Nat) (hin : c.inn w) (hok : TabOk w T RA RB c a b) (hargs : ∀ i ∈ c.ins, i.args.length ≤ 40) (hn : c.ins.length ≤ 400) (hm : c.nvars ≤ 400) (v : Int) :
    Calls Tryd.prog 15 #[.pointer (some ⟨T, 0, none⟩), .int .i64 v] w (GivesL w (pick (fun j => match c.ins[j]? with | some i => decide (0 ≤ v) && decide (v < (c.nvars : Int)) && (decide (v ∈ readsOf i) && !bitOf (b j) v.toNat) | none => false) c.ins.length)) := by
  obtain ⟨p, hp⟩ : ∃ p : Nat → Bool, (fun j => match c.ins[j]? with | some i => decide (0 ≤ v) && decide (v < (c.nvars : Int)) && (decide (v ∈ readsOf i) && !bitOf (b j) v.toNat) | none => false) = p := ⟨_, rfl⟩
  have HP := Lib.hid hp
  rw [hp]
  clear hp
  have k7 : w.cell? ⟨T, 7, none⟩ = some (.slice c.insA c.ins.length c.insC) := hok.tab.cells rfl
  obtain ⟨N, hN⟩ : ∃ N, w.heap.size = N := ⟨_, rfl⟩
  have hTlt : T < N := by rw [← hN]; exact (Array.getElem?_eq_some_iff.1 hok.tab.tab).1
  have HIN := Lib.hid hin
  have HOK := Lib.hid hok
  have HARGS := Lib.hid hargs
  obtain ⟨n, hnn⟩ : ∃ n, c.ins.length = n := ⟨_, rfl⟩
  have HN' := Lib.hid hnn
  rw [hnn] at k7 hn ⊢
  clear hin hok hargs hnn
  have hI := inT_calls w T RA RB _ c a b 0 v HOK.out.tab
  obtain ⟨bb, hbb⟩ : ∃ bb, decide (InT c 0 v) = bb := ⟨_, rfl⟩
  rw [hbb] at hI
  have HI := Lib.hid hI
  have HBBI := Lib.hid hbb
  clear hI hbb
  cases bb with
  | false =>
    have hpn : pick p n = [] := by
      by_cases hn0 : n = 0
      · subst hn0; rfl
      · refine pick_none (fun j => ?_) n
        rw [← HP.out]
        simp only []
        cases c.ins[j]? with
        | none => rfl
        | some i =>
          simp only []
          have h := of_decide_eq_false HBBI.out
          have hb : (decide (0 ≤ v) && decide (v < (c.nvars : Int))) = false := by
            rw [Bool.eq_false_iff]
            intro hh
            simp only [Bool.and_eq_true, decide_eq_true_eq] at hh
            exact h ⟨by omega, by rw [HN'.out]; omega, hh.1, hh.2⟩
          rw [hb]; rfl
    rw [hpn]
    clear hpn
    go_enter Tryd.func15, Tryd.ntmps15
    go_wp2_with (go_at_call 27; refine HI.out.mono ?_; rintro e w2 ⟨rfl, rfl⟩)
    go_ret
    exact ⟨none, 0, rfl, World.ownsRow_nil _ _ _ _, Below.refl _ _⟩
  | true =>
    obtain ⟨_, hn0, a1, a2⟩ := of_decide_eq_true HBBI.out
    obtain ⟨x, rfl⟩ : ∃ x : Nat, v = (x : Int) := ⟨v.toNat, by omega⟩
    have hxm : x < c.nvars := by omega
    clear a1 hn0
    go_enter Tryd.func15, Tryd.ntmps15
    go_wp2_with (go_at_call 27; refine HI.out.mono ?_; rintro e w2 ⟨rfl, rfl⟩)
    go_loopw [4, 17] (fun v c wr => ∃ j : Nat, j ≤ n ∧ c = .int .i64 (j : Int) ∧ PickI p N w j v wr) (fun _ c _ => n - (intOf c).toNat)
    case atStart => exact ⟨0, Nat.zero_le _, rfl, PickI.start p (Below.refl _ _)⟩
    case round =>
      obtain ⟨j, hj, rfl, hpk⟩ := hrel
      have HPK := Lib.hid hpk
      obtain ⟨ao2, cap2, rfl, hown, hbl⟩ := hpk
      have hszr : N ≤ wr.heap.size := by have := hbl.size; omega
      have hinr := HIN.out.below (by rw [hN]; exact hbl)
      have hokr := HOK.out.below (by rw [hN]; exact hbl)
      by_cases hjn : j < n
      · obtain ⟨i, hi⟩ : ∃ i, c.ins[j]? = some i := ⟨_, List.getElem?_eq_getElem (by have := HN'.out; omega)⟩
        have hai := hinr.args i (List.mem_of_getElem? hi)
        have hl40 := HARGS.out i (List.mem_of_getElem? hi)
        obtain ⟨b0, off, hA0, hb0, hcell⟩ := hinr.row (by intro e; rw [e] at hi; simp at hi)
        rw [hA0]
        have HCA : Hid (∀ q u, i.cells.toList[q]? = some u → wr.cell? ((⟨b0, off + j * 13, none⟩ : Addr).add q) = some u) := fun q u hu => by
          rw [Addr.add_lit]; exact hcell j i hi q u hu
        have hjI : (j : Int) < (n : Int) := by omega
        have hpl := pick_len p j
        have hrl : (readsOf i).length ≤ 42 := readsOf_len i hl40
        have hpj : p j = (decide ((x : Int) ∈ readsOf i) && !bitOf (b j) x) := by rw [← HP.out]; simp only []; rw [hi]; simp only []; rw [decide_eq_true (show (0 : Int) ≤ (x : Int) by omega), decide_eq_true a2]; simp
        have hone : i.cells.all (·.oneCell') = true := by
          obtain ⟨⟨⟨ao1, cp1, e1⟩, ao3, n3, cp3, e3⟩, _⟩ := hai
          rw [← Array.all_toList]; simp only [Ins.cells, e1, e3, List.all_cons, List.all_nil]; rfl
        have hst : ∀ c : Array Value, c.size = 13 → (storeCells ⟨wr.heap.size, 0, none⟩ i.cells.toList).run Tryd.prog (wr.alloc (.cells c 53)) = .ok () (wr.alloc (.cells i.cells 53)) := fun c hc =>
          run_storeCells_new (P := Tryd.prog) wr 53 c i.cells (by show _ = some 13; kernel_rfl) hc hone
        obtain ⟨W5, hW5⟩ : ∃ W5, wr.alloc (.cells i.cells 53) = W5 := ⟨_, rfl⟩
        rw [hW5] at hst
        have hb5 : Below wr.heap.size wr W5 := by rw [← hW5]; exact (Below.refl _ _).alloc (Nat.le_refl _) _
        have hr5 : W5.heap[wr.heap.size]? = some (.cells i.cells 53 (0, 0)) := by rw [← hW5]; exact alloc_at _ _
        have HLD : Hid (∀ q u, i.cells.toList[q]? = some u → W5.cell? ((⟨wr.heap.size, 0, none⟩ : Addr).add q) = some u) := fun q u hu => by
          rw [Addr.add_lit, Nat.zero_add, cell_of_row _ _ _ _ _ _ hr5]; simpa using hu
        have HPK5 := Lib.hid (HPK.out.next hb5 hszr)
        have HOK5 := Lib.hid (hokr.below hb5)
        have hs5 := hb5.size
        have HRD := Lib.hid (irReads_calls i W5 ((HIN.out.below (show Below w.heap.size w W5 by rw [hN]; exact hbl.trans (hb5.mono hszr))).args i (List.mem_of_getElem? hi)) hl40)
        obtain ⟨r, hr⟩ : ∃ r, decide ((x : Int) ∈ readsOf i) = r := ⟨_, rfl⟩
        rw [hr] at hpj
        have HRR := Lib.hid hr
        have HPJ := Lib.hid hpj
        clear hi hai hl40 hcell hown hpj hbl hinr hokr hone hW5 hb5 hr5 hr
        go_upto_region 6 with (first | (refine wpList_load_at rfl 53 _ rfl ⟨b0, off + j * 13, none⟩ rfl i.cells _ HCA.out Tryd.underlying53 rfl (by kernel_rfl) ?_))
        cases r with
        | false =>
          go_wp2_with (first | (refine wpList_load_at rfl 53 _ rfl ⟨wr.heap.size, 0, none⟩ rfl i.cells _ HLD.out Tryd.underlying53 rfl (by kernel_rfl) ?_) | (go_at_call 33; refine HRD.out.mono ?_; rintro e w3 ⟨ao3, cap3, rfl, hown3, hb3⟩; have HPK3 := Lib.hid (HPK5.out.next hb3 (by omega)); have HAT := Lib.hid hown3.at_; clear hown3 hb3 hst) | (go_at_call 32; refine (contains_calls _ cap3 ao3 (readsOf i) (x : Int) (by omega) HAT.out).mono ?_; rintro e w4 ⟨rfl, rfl⟩; rw [HRR.out]))
          have HR := Lib.hid (HPK3.out.skip (by rw [HPJ.out]; rfl))
          exact ⟨⟨j + 1, by omega, by simp, HR.out⟩, by simp [intOf]; omega⟩
        | true =>
          obtain ⟨q, hq⟩ : ∃ q, bitOf (b j) x = q := ⟨_, rfl⟩
          have HPX : Hid (p j = !q) := by unfold Hid; rw [HPJ.out, hq]; rfl
          have HBB : Hid (∀ W, Below W5.heap.size W5 W → Calls Tryd.prog 18 #[.pointer (some ⟨T, 0, none⟩), .int .i64 (j : Int), .int .i64 (x : Int)] W fun e w' => e = .returned (.bool q) ∧ W = w') := fun W hb => by
            rw [← hq]; exact tbehind_calls W T RA RB c a b j x (HOK5.out.below hb) (by rw [HN'.out]; exact hjn) (by omega) (by rw [HN'.out]; omega) (by omega)
          clear hq
          cases q with
          | false =>
            obtain ⟨j0, hj0, hj1, hj2, hj3⟩ := info_parts info_int
            go_wp2_with (first | (refine wpList_load_at rfl 53 _ rfl ⟨wr.heap.size, 0, none⟩ rfl i.cells _ HLD.out Tryd.underlying53 rfl (by kernel_rfl) ?_) | (go_at_call 33; refine HRD.out.mono ?_; rintro e w3 ⟨ao3, cap3, rfl, hown3, hb3⟩; have HPK3 := Lib.hid (HPK5.out.next hb3 (by omega)); have HAT := Lib.hid hown3.at_; have HB := Lib.hid (HBB.out w3 hb3); have hs3 := hb3.size; clear hown3 hb3 hst) | (go_at_call 32; refine (contains_calls _ cap3 ao3 (readsOf i) (x : Int) (by omega) HAT.out).mono ?_; rintro e w4 ⟨rfl, rfl⟩; rw [HRR.out]; obtain ⟨ao4, cap4, e4, hown4, hbl4⟩ := HPK3.out; simp only [Value.slice.injEq, true_and] at e4; obtain ⟨rfl, rfl⟩ := e4; have HOWN := Lib.hid hown4; have HBL := Lib.hid hbl4; clear hown4 hbl4) | (go_at_call 18; refine HB.out.mono ?_; rintro e w5 ⟨rfl, rfl⟩) | (at_builtin; refine wpList_append_lies _ rfl _ _ 27 rfl N 3 j0 (.int .i64 0) 1 8 Tryd.underlying27 hj0 hj1 hj2 hj3 rfl (by decide) _ (pick p j).length _ rfl (ownsRow_below HOWN.out ((Below.refl w3.heap.size w3).alloc (Nat.le_refl _) _)) ⟨w3.heap.size, 0, none⟩ 1 1 [.int .i64 (j : Int)] rfl rfl (cells_new _ _ _) (by simp [Value.oneCell']) (by decide) ?c1 ?c2 ?c3 _ rfl ?_))
            case c1 => unfold maxLen; omega
            case c2 => omega
            case c3 => rw [World.size_alloc]; omega
            intro g5 cap5 w6 hown5 hgrow5 _ _
            have HR := Lib.hid (PickI.app HPX.out (by omega) HBL.out HOWN.out hown5 hgrow5)
            clear hown5 hgrow5
            go_wp2
            exact ⟨⟨j + 1, by omega, by simp, HR.out⟩, by simp [intOf]; omega⟩
          | true =>
            go_wp2_with (first | (refine wpList_load_at rfl 53 _ rfl ⟨wr.heap.size, 0, none⟩ rfl i.cells _ HLD.out Tryd.underlying53 rfl (by kernel_rfl) ?_) | (go_at_call 33; refine HRD.out.mono ?_; rintro e w3 ⟨ao3, cap3, rfl, hown3, hb3⟩; have HPK3 := Lib.hid (HPK5.out.next hb3 (by omega)); have HAT := Lib.hid hown3.at_; have HB := Lib.hid (HBB.out w3 hb3); have hs3 := hb3.size; clear hown3 hb3 hst) | (go_at_call 32; refine (contains_calls _ cap3 ao3 (readsOf i) (x : Int) (by omega) HAT.out).mono ?_; rintro e w4 ⟨rfl, rfl⟩; rw [HRR.out]) | (go_at_call 18; refine HB.out.mono ?_; rintro e w5 ⟨rfl, rfl⟩))
            have HR := Lib.hid (HPK3.out.skip HPX.out)
            exact ⟨⟨j + 1, by omega, by simp, HR.out⟩, by simp [intOf]; omega⟩
      · have hje : j = n := by omega
        subst hje
        have HG : Hid (GivesL w (pick p j) (.returned (.slice ao2 (pick p j).length cap2)) wr) := by have := HPK.out; rw [← hN] at this; exact this.gives
        clear hown hbl hinr hokr
        go_wp2
        go_ret
        exact HG.out
end Go.Proofs.YtpbkkajgcdahcaaDoor
