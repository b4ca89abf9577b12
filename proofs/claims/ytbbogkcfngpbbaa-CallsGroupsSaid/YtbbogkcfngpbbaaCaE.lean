/- The chapter's example of calls. -/
import Derived.Test.YtbbogkcfngpbbaaCaL
namespace Go.Proofs.Ytbbogkcfngpbbaa
open Go.RowKit

def exI : Ins := ⟨15, 0, 0, 0, 1, 0, ⟨#[]⟩, .slice none 0 0, .slice none 0 0, 0, 0, 0, 0, []⟩
def exF (b : Nat) : Fn := ⟨⟨⟨#[]⟩, 0, none, 0, 0, false, ⟨#[]⟩, 0, none, 0, 0, some ⟨b, 0, none⟩, 1, [exI]⟩, [], [], [[]]⟩
def exM (b1 b2 b3 : Nat) : Mo := ⟨none, 0, some ⟨b3, 0, none⟩, 2, [], [exF b1, exF b2]⟩

def exD : Nat → List Nat := fun f => if f ≤ 1 then [1] else []
def exT : Nat → Nat → Bool := fun f h => decide (h = 1) && decide (f ≤ 1)

theorem exM_calls (b1 b2 b3 : Nat) : allCalls 2 0 [exF b1, exF b2] = [(0, 0, 1), (1, 0, 1)] := rfl

theorem exM_down (b1 b2 b3 : Nat) : downF (exM b1 b2 b3) = exD := by
  funext f
  unfold downF
  show sel 2 (dOf (allCalls 2 0 [exF b1, exF b2]) f) = exD f
  rw [exM_calls b1 b2 b3]
  match f with
  | 0 => rfl
  | 1 => rfl
  | f + 2 =>
    have h : dOf [(0, 0, 1), (1, 0, 1)] (f + 2) = [] := by
      unfold dOf
      have e0 : ((0 : Nat) == f + 2) = false := by rw [beq_eq_false_iff_ne]; omega
      have e1 : ((1 : Nat) == f + 2) = false := by rw [beq_eq_false_iff_ne]; omega
      simp [e0, e1]
    rw [h]
    have h2 : exD (f + 2) = [] := if_neg (by omega)
    rw [h2]
    unfold sel; simp

theorem exD_reach : reachB exD = exT := by
  funext f h
  rw [Bool.eq_iff_iff, reachB_iff]
  unfold exT
  simp only [Bool.and_eq_true, decide_eq_true_eq]
  constructor
  · intro hr
    have h1 : h = 1 := Rch.closed (D := exD) (f := f) (fun b => b = 1) (fun b hb => by unfold exD at hb; split at hb <;> simp at hb; exact hb) (fun a _ b hb => by unfold exD at hb; split at hb <;> simp at hb; exact hb) hr
    refine ⟨h1, Classical.byContradiction fun hf => ?_⟩
    have h2 := Rch.closed (D := exD) (f := f) (fun _ => False) (fun b hb => by unfold exD at hb; rw [if_neg hf] at hb; simp at hb) (fun a ha => ha.elim) hr
    exact h2
  · rintro ⟨rfl, hf⟩
    exact Rch.step (by unfold exD; rw [if_pos hf]; simp)

theorem exM_groups (b1 b2 b3 : Nat) : (groupsF (exM b1 b2 b3)).2 = [[1], [0]] ∧ (groupsF (exM b1 b2 b3)).1 0 = 1 ∧ (groupsF (exM b1 b2 b3)).1 1 = 0 := by
  unfold groupsF
  rw [exM_down, exD_reach]
  exact ⟨rfl, rfl, rfl⟩

theorem rowOf_twoC {α : Type} {cells : α → Array Value} {stride : Nat} {W : World} {b : Nat} {x y : α} {t : TypeId} (hs : ∀ a, (cells a).size = stride) (h : W.heap[b]? = some (.cells (cells x ++ cells y) t (0, 0))) : RowOf cells stride W W.heap.size (some ⟨b, 0, none⟩) [x, y] := by
  intro _
  refine ⟨b, 0, rfl, (Array.getElem?_eq_some_iff.1 h).1, fun i z hz k u hu => ?_⟩
  have hi : i < 2 := (List.getElem?_eq_some_iff.1 hz).1
  rw [Nat.zero_add, cell_of_row _ _ _ _ _ _ h]
  obtain rfl | rfl : i = 0 ∨ i = 1 := by omega
  · simp at hz; subst hz
    have hk : k < (cells x).size := by simpa using (List.getElem?_eq_some_iff.1 hu).1
    rw [Nat.zero_mul, Nat.zero_add, Array.getElem?_append_left hk]
    simpa using hu
  · simp at hz; subst hz
    rw [Nat.one_mul, Array.getElem?_append_right (by rw [hs]; omega), hs, Nat.add_sub_cancel_left]
    simpa using hu

theorem insRow_oneC {W : World} {b : Nat} {x : Ins} {t : TypeId} (h : W.heap[b]? = some (.cells x.cells t (0, 0))) : InsRow W W.heap.size (some ⟨b, 0, none⟩) [x] := by
  intro _
  refine ⟨b, 0, rfl, (Array.getElem?_eq_some_iff.1 h).1, fun i z hz k u hu => ?_⟩
  have hi : i < 1 := (List.getElem?_eq_some_iff.1 hz).1
  obtain rfl : i = 0 := by omega
  simp at hz; subst hz
  rw [Nat.zero_mul, Nat.add_zero, Nat.zero_add, cell_of_row _ _ _ _ _ _ h]
  simpa using hu

theorem exM_in {W : World} {b1 b2 b3 : Nat} (h1 : W.heap[b1]? = some (.cells exI.cells 26 (0, 0))) (h2 : W.heap[b2]? = some (.cells exI.cells 26 (0, 0))) (h3 : W.heap[b3]? = some (.cells ((exF b1).cells ++ (exF b2).cells) 48 (0, 0))) :
    OfIn W (exM b1 b2 b3) := by
  refine ⟨rowOf_twoC (fun _ => rfl) h3, ?_, ?_, by show 2 ≤ 70; omega, by show 2 ≤ 1200; omega⟩
  · intro f hf
    rcases List.mem_cons.1 hf with rfl | hf
    · exact insRow_oneC h1
    · have := List.mem_singleton.1 hf
      subst this
      exact insRow_oneC h2
  · intro f hf i hi
    have : i = exI := by
      rcases List.mem_cons.1 hf with rfl | hf
      · exact List.mem_singleton.1 hi
      · have := List.mem_singleton.1 hf
        subst this
        exact List.mem_singleton.1 hi
    subst this
    exact ⟨rfl, rfl⟩

set_option maxRecDepth 100000 in
set_option maxHeartbeats 4000000 in
theorem alive11_calls (w : World) : Calls Try.prog 33 #[] w fun e w' => e = .returned (.bool true) ∧ Below w.heap.size w w' := by
  obtain ⟨N, hN⟩ : ∃ N, w.heap.size = N := ⟨_, rfl⟩
  have HN := Lib.hid hN
  obtain ⟨M, hM⟩ : ∃ M, exM N (N + 1) (N + 1 + 1) = M := ⟨_, rfl⟩
  have HM := Lib.hid hM
  have HW : Hid (∃ W3, ((w.alloc (.cells exI.cells 26)).alloc (.cells exI.cells 26)).alloc (.cells ((exF N).cells ++ (exF (N + 1)).cells) 48) = W3 ∧ OfIn W3 M ∧ Below N w W3) := by
    refine ⟨_, rfl, ?_, ?_⟩
    · rw [← hM]
      refine exM_in ?_ ?_ ?_
      · rw [Below.heap_alloc _ _ _ (by simp only [World.size_alloc]; omega), Below.heap_alloc _ _ _ (by simp only [World.size_alloc]; omega), ← hN]; exact alloc_at _ _
      · rw [Below.heap_alloc _ _ _ (by simp only [World.size_alloc]; omega), ← hN]
        have := alloc_at (w.alloc (.cells exI.cells 26)) (.cells exI.cells 26)
        rwa [World.size_alloc] at this
      · rw [← hN]
        have := alloc_at ((w.alloc (.cells exI.cells 26)).alloc (.cells exI.cells 26)) (.cells ((exF N).cells ++ (exF (N + 1)).cells) 48)
        rw [World.size_alloc, World.size_alloc] at this
        rw [hN] at this ⊢
        exact this
    · exact (((Below.refl _ _).alloc (by omega) _).alloc (by simp only [World.size_alloc]; omega) _).alloc (by simp only [World.size_alloc]; omega) _
  clear hM
  go_enter Try.func33, Try.ntmps33
  go_wp2_with fail
  obtain ⟨W3, hW3, hof, hb3⟩ := HW.out
  have HOC := Lib.hid (of_calls M W3 hof)
  have HB3 := Lib.hid hb3
  rw [← HM.out] at HOC
  have hW3' : ((w.alloc (.cells #[.int .i64 15, .int .i64 0, .int .i64 0, .int .i64 0, .int .i64 1, .int .i64 0, .string ⟨#[]⟩, .slice none 0 0, .slice none 0 0, .int .i64 0, .int .i64 0, .int .i64 0, .int .i64 0] 26)).alloc (.cells #[.int .i64 15, .int .i64 0, .int .i64 0, .int .i64 0, .int .i64 1, .int .i64 0, .string ⟨#[]⟩, .slice none 0 0, .slice none 0 0, .int .i64 0, .int .i64 0, .int .i64 0, .int .i64 0] 26)).alloc (.cells #[.string ⟨#[]⟩, .int .i64 0, .slice none 0 0, .bool false, .string ⟨#[]⟩, .int .i64 0, .slice none 0 0, .slice (some ⟨N, 0, none⟩) 1 1, .string ⟨#[]⟩, .int .i64 0, .slice none 0 0, .bool false, .string ⟨#[]⟩, .int .i64 0, .slice none 0 0, .slice (some ⟨N + 1, 0, none⟩) 1 1] 48) = W3 := hW3
  rw [hW3']
  clear hW3 hW3' hof hb3
  go_at_call 34
  refine HOC.out.mono ?_
  rintro e w4 ⟨N', G, DN, UP, ST, RE, GP, H, gv, tag, rfl, hgm, hgr, _, _, hb4⟩
  obtain ⟨e1, e2, e3⟩ := exM_groups N (N + 1) (N + 1 + 1)
  rw [e1] at hgr
  obtain ⟨gi, hgi⟩ : ∃ gi, (groupsF (exM N (N + 1) (N + 1 + 1))).1 = gi := ⟨_, rfl⟩
  rw [hgi] at e2 e3 hgm
  have hgm2 : GM w4 N' G 2 DN UP ST RE GP gv tag (downF (exM N (N + 1) (N + 1 + 1))) (upF (exM N (N + 1) (N + 1 + 1))) (sitesF (exM N (N + 1) (N + 1 + 1))) (fun f => (List.range 2).map (exT f)) gi := by
    have h := hgm
    rw [exM_down, exD_reach] at h
    rw [exM_down]
    exact h
  have HG : Hid (∀ W, Below w4.heap.size w4 W → GM W N' G 2 DN UP ST RE GP gv tag (downF (exM N (N + 1) (N + 1 + 1))) (upF (exM N (N + 1) (N + 1 + 1))) (sitesF (exM N (N + 1) (N + 1 + 1))) (fun f => (List.range 2).map (exT f)) gi) := fun W hW => hgm2.below hW
  have HGG := Lib.hid (groups_calls w4 N' G 2 DN UP ST RE GP H gv tag _ _ _ _ gi [[1], [0]] hgm2 hgr (by decide) (by decide))
  have HB4 : Hid (Below N w w4) := HB3.out.trans (hb4.mono (by have := HB3.out.size; have := HN.out; omega))
  have HE2 := Lib.hid e2
  have HE3 := Lib.hid e3
  clear hgm hgr hb4 e1 e2 e3 hgi hgm2 HM HW
  go_wp2_with fail
  go_at_call 39
  refine HGG.out.mono ?_
  rintro e w5 ⟨v5, rfl, hgr5, hb5⟩
  obtain ⟨ao5, cap5, rfl⟩ := hgr5.slice
  obtain ⟨g5, al, cl, rfl, _, k1, ol⟩ := hgr5.at_ (j := 0) (l := [1]) rfl
  obtain ⟨g6, rfl, _, k2⟩ := ownsRow_get ol (j := 0) (u := .int .i64 ((1 : Nat) : Int)) rfl
  have hg5 := HG.out w5 hb5
  have HR1 := Lib.hid (recursive_calls w5 (.pointer (some ⟨G, 0, none⟩)) 1 true (reaches_calls w5 N' G 2 DN UP ST RE GP gv tag _ _ _ exT gi hg5 (by decide) 1 1))
  have HR0 := Lib.hid (recursive_calls w5 (.pointer (some ⟨G, 0, none⟩)) 0 false (reaches_calls w5 N' G 2 DN UP ST RE GP gv tag _ _ _ exT gi hg5 (by decide) 0 0))
  have hgp := group_calls w5 N' G 2 DN UP ST RE GP gv tag _ _ _ _ gi hg5 (by decide) 0
  rw [if_pos (by rfl), show gi (0 : Int).toNat = 1 from HE2.out] at hgp
  have HGP := Lib.hid hgp
  have HB5 : Hid (Below N w w5) := HB4.out.trans (hb5.mono (by have := HB4.out.size; have := HN.out; omega))
  clear hgr5 hb5 ol hg5 hgp
  go_wp2_with fail
  go_at_call 49
  refine HR1.out.mono ?_
  rintro e w6 ⟨rfl, rfl⟩
  go_wp2_with fail
  go_at_call 49
  refine HR0.out.mono ?_
  rintro e w6 ⟨rfl, rfl⟩
  go_wp2_with fail
  go_at_call 40
  refine HGP.out.mono ?_
  rintro e w6 ⟨rfl, rfl⟩
  go_wp2
  go_ret
  exact ⟨rfl, by first | exact HB5.out | (rw [HN.out]; exact HB5.out)⟩
end Go.Proofs.Ytbbogkcfngpbbaa
