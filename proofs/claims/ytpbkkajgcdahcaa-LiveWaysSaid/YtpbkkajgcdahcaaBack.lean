/- slices.Backward at []int: an iterator. -/
import Derived.Test.YtpbkkajgcdahcaaMaps
namespace Go.Proofs.Ytpbkkajgcdahcaa
open Go.RowKit

/-- The pairs that Backward tells. -/
def bpairs (xs : List Int) : List (Nat × Int) := (List.range xs.length).reverse.map fun i => (i, xs.getD i 0)

theorem bpairs_length (xs : List Int) : (bpairs xs).length = xs.length := by simp [bpairs]

theorem bpairs_get (xs : List Int) (j : Nat) (h : j < xs.length) : (bpairs xs)[j]? = some (xs.length - 1 - j, xs.getD (xs.length - 1 - j) 0) := by
  unfold bpairs
  rw [List.getElem?_map, List.getElem?_reverse (by simpa using h)]
  simp
  rw [List.getElem?_range (by omega)]
  simp

theorem bpairs_take (xs : List Int) (j : Nat) (h : j < xs.length) : (bpairs xs).take (j + 1) = (bpairs xs).take j ++ [(xs.length - 1 - j, xs.getD (xs.length - 1 - j) 0)] := by
  rw [List.take_add_one, bpairs_get xs j h]; rfl

def backEnc (p : Nat × Int) : Array Value := #[.int .i64 (p.1 : Int), .int .i64 p.2]

/-- What Backward's closure reads: its box, and the row. -/
def backRd (B : Nat) (ao : Option Addr) (k : Nat) : Prop := k = B ∨ ∃ a, ao = some a ∧ a.block = k

set_option maxRecDepth 100000 in
set_option maxHeartbeats 2000000 in
theorem back1_iter (B cap base : Nat) (ao : Option Addr) (xs : List Int) (w : World) (hb : w.heap[B]? = some (.cells #[.slice ao xs.length cap] 27 (0, 0))) (ho : OwnI w base (.slice ao xs.length cap) xs) (hn : xs.length ≤ 90000) :
    Iter Try.prog 78 #[.pointer (some ⟨B, 0, none⟩)] backEnc (bpairs xs) (backRd B ao) w := by
  intro l J Jx C W hbw hst hJC hstx hmeet hJ
  have hB : B < w.heap.size := (Array.getElem?_eq_some_iff.1 hb).1
  have HST := Lib.hid hst
  have HJC := Lib.hid hJC
  have HSX := Lib.hid hstx
  have HM := Lib.hid hmeet
  have HJ := Lib.hid hJ
  have HR : Hid (∀ pre C W1, J pre C W1 → Ext (fun k => ¬ backRd B ao k) W W1 → W1.cell? ⟨B, 0, none⟩ = some (.slice ao xs.length cap) ∧ ∀ i, i < xs.length → ∃ g, ao = some ⟨g, 0, none⟩ ∧ W1.cell? ⟨g, i, none⟩ = some (.int .i64 (xs.getD i 0))) := by
    intro pre C W1 _ hx
    have hWB : W.heap[B]? = some (.cells #[.slice ao xs.length cap] 27 (0, 0)) := (hbw.block B hB).trans hb
    refine ⟨by rw [cell_of_row _ _ _ _ _ _ (hx.heap hWB (fun h => h (.inl rfl)))]; rfl, fun i hi => ?_⟩
    obtain ⟨g, rfl, hg1, hg2, hgc⟩ := ho.shape (by omega)
    refine ⟨g, rfl, ?_⟩
    rw [hx.cell (a := ⟨g, i, none⟩) (by have := hbw.size; show g < _; omega) (fun h => h (.inr ⟨_, rfl, rfl⟩)), hbw.cell (p := ⟨g, i, none⟩) hg2]
    exact hgc i _ (by simp [hi])
  have hc0 := (HR.out [] C W hJ (Ext.refl _ _)).1
  clear hst hJC hstx hmeet hJ hb ho hbw
  show Calls _ _ #[.func (.yield l) #[] #[], .pointer (some ⟨B, 0, none⟩)] _ _
  go_enter Try.func78, Try.ntmps78
  go_wp2_with fail
  go_loopw [3] (fun i wr => ∃ (j : Nat) (C : Nat → Prop), j ≤ xs.length ∧ i = .int .i64 ((xs.length : Int) - 1 - (j : Int)) ∧ J ((bpairs xs).take j) C wr ∧ Ext (fun k => ¬ backRd B ao k) W wr) (fun i _ => (intOf i + 1).toNat)
  case atStart => exact ⟨0, C, Nat.zero_le _, by go_num, by simpa using HJ.out, Ext.refl _ _⟩
  case round =>
    obtain ⟨j, C1, hj, rfl, hJ1, hx1⟩ := hrel
    by_cases hjl : j < xs.length
    · obtain ⟨hc1, hci⟩ := HR.out _ _ _ hJ1 hx1
      obtain ⟨g, hao, hcg⟩ := hci (xs.length - 1 - j) (by omega)
      subst hao
      obtain ⟨i, hi⟩ : ∃ i, i = xs.length - 1 - j := ⟨_, rfl⟩
      have hiI : (xs.length : Int) - 1 - (j : Int) = (i : Int) := by omega
      rw [← hi] at hcg
      rw [hiI]
      have hd : decide ((0 : Int) ≤ (i : Int)) = true := decide_eq_true (by omega)
      have hil : (i : Int) < (xs.length : Int) := by omega
      have HP : Hid ((bpairs xs).take (j + 1) = (bpairs xs).take j ++ [(i, xs.getD i 0)]) := by rw [hi]; exact bpairs_take xs j hjl
      have HMM := Lib.hid (HM.out ((bpairs xs).take j) (i, xs.getD i 0) C1 wr hJ1 (by rw [← HP.out]; exact List.take_prefix _ _))
      unfold backEnc at HMM
      simp only at HMM
      have HX1 := Lib.hid hx1
      have HJ1 := Lib.hid hJ1
      have HI := Lib.hid hi
      have HII := Lib.hid hiI
      clear hx1 hJ1 hci hi hiI
      go_upto_region 3 with (fail)
      refine (wpIn_wide (n := 0)).1 ?_
      have hcg' : wr.cell? ⟨g, i, none⟩ = some (.int .i64 (xs[i]?.getD 0)) := by simpa using hcg
      refine wpIn_region_lit (wpListIn_ok rfl (by simp) (.func (.yield l) #[] #[]) (w' := wr) (by simp [go_sem]) ?_)
      simp only [Act.put, List.setIfInBounds_toArray, List.set_cons_zero, List.set_cons_succ]
      refine wpListIn_ok rfl (by simp) (.int .i64 (i : Int)) (w' := wr) (by simp [go_sem]) ?_
      simp only [Act.put, List.setIfInBounds_toArray, List.set_cons_zero, List.set_cons_succ]
      refine wpListIn_ok rfl (by simp) (.slice (some ⟨g, 0, none⟩) xs.length cap) (w' := wr) (by simp [go_sem, hc1]) ?_
      simp only [Act.put, List.setIfInBounds_toArray, List.set_cons_zero, List.set_cons_succ]
      refine wpListIn_ok rfl (by simp) (.int .i64 (i : Int)) (w' := wr) (by simp [go_sem]) ?_
      simp only [Act.put, List.setIfInBounds_toArray, List.set_cons_zero, List.set_cons_succ]
      refine wpListIn_ok rfl (by simp) (.pointer (some ⟨g, i, none⟩)) (w' := wr) (by simp [go_sem, hil]) ?_
      simp only [Act.put, List.setIfInBounds_toArray, List.set_cons_zero, List.set_cons_succ]
      refine wpListIn_ok rfl (by simp) (.int .i64 (xs.getD i 0)) (w' := wr) (by simp [go_sem, hcg']) ?_
      simp only [Act.put, List.setIfInBounds_toArray, List.set_cons_zero, List.set_cons_succ]
      refine wpListIn_meets (fv := .func (.yield l) #[] #[]) (args := #[.int .i64 (i : Int), .int .i64 (xs.getD i 0)]) rfl (.tmp 11) #[.tmp 12, .tmp 16] _ rfl rfl (by simp [Act.eval]) HMM.out ?_
      intro v w3 hv
      simp only [Act.put, List.setIfInBounds_toArray, List.set_cons_zero, List.set_cons_succ]
      have HV := Lib.hid hv
      rcases hv with ⟨rfl, C', hC', hJ', hx'⟩ | ⟨rfl, hJ'⟩
      · refine wpListIn_ok rfl (by simp) (.bool false) (w' := w3) (by simp [go_sem]) ?_
        simp only [Act.put, List.setIfInBounds_toArray, List.set_cons_zero, List.set_cons_succ]
        refine wpListIn_nil ?_
        have HN : Hid (J ((bpairs xs).take (j + 1)) C' w3 ∧ Ext (fun k => ¬ backRd B (some ⟨g, 0, none⟩) k) W w3) :=
          ⟨by rw [HP.out]; exact hJ', HX1.out.trans hx' (fun k hk => .inl ((HJC.out _ _ _ HJ1.out k hk).2))⟩
        clear hJ' hx' hC' hc1 hcg hcg'
        go_wp2
        go_roundw
        case rel => exact ⟨j + 1, C', by omega, by have := HI.out; go_num, HN.out.1, HN.out.2⟩
        case measure => simp [intOf]
      · refine wpListIn_ok rfl (by simp) (.bool true) (w' := w3) (by simp [go_sem]) ?_
        simp only [Act.put, List.setIfInBounds_toArray, List.set_cons_zero, List.set_cons_succ]
        refine wpListIn_nil ?_
        have HF : Hid (∃ pre, pre <+: bpairs xs ∧ Jx pre w3) := ⟨(bpairs xs).take (j + 1), List.take_prefix _ _, by rw [HP.out]; exact hJ'⟩
        clear hJ' hc1 hcg hcg'
        go_wp2
        ((try simp only [Exit.inBlock, Exit.then]); (try rw [Exit.noGoto_ret]); (first | refine bodyPost_ret (results_none rfl _ _ _) rfl ?_ | refine bodyPost_end (results_none rfl _ _ _) rfl ?_))
        exact ⟨⟨_, rfl⟩, .inr HF.out⟩
    · have hje : j = xs.length := by omega
      subst hje
      have ht : (bpairs xs).take xs.length = bpairs xs := List.take_of_length_le (by rw [bpairs_length]; omega)
      rw [ht] at hJ1
      have HJ1 := Lib.hid hJ1
      have hd : (xs.length : Int) - 1 - (xs.length : Int) = -1 := by omega
      rw [hd]
      clear hJ1 hx1
      go_wp2
      ((try simp only [Exit.inBlock, Exit.then]); (try rw [Exit.noGoto_ret]); (first | refine bodyPost_ret (results_none rfl _ _ _) rfl ?_ | refine bodyPost_end (results_none rfl _ _ _) rfl ?_))
      exact ⟨_, rfl, .inl ⟨C1, HJ1.out⟩⟩
end Go.Proofs.Ytpbkkajgcdahcaa
