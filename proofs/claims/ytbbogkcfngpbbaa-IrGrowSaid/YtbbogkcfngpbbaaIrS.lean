/- The chapter's example; what must come at any rate. -/
import Derived.Test.YtbbogkcfngpbbaaIrQ
namespace Go.Proofs.Ytbbogkcfngpbbaa
open Go.RowKit

def smI (op n : Int) : Ins := ⟨op, 0, 0, 0, 0, n, ⟨#[]⟩, .slice none 0 0, .slice none 0 0, 0, 0, 0, 0, []⟩
def smF (N : Nat) : Fn := ⟨⟨mainB, 0, some ⟨N + 1, 0, none⟩, 1, 1, false, ⟨#[]⟩, 0, none, 0, 0, some ⟨N + 2, 0, none⟩, 2, [smI 1 7, smI 18 0]⟩, [⟨false, ⟨#[]⟩, 0⟩], [], [[], []]⟩
def smM (N : Nat) : Mo := ⟨none, 0, some ⟨N + 3, 0, none⟩, 1, [], [smF N]⟩
def noM : Mo := ⟨none, 0, none, 0, [], []⟩

theorem smM_right (N : Nat) : rightF (smM N) = 0 := by rfl
theorem noM_right : rightF noM = 9 := by rfl
theorem smM_main (N : Nat) : (smM N).fnIx mainB = 0 := by rfl

theorem alloc4 (w : World) (a b c d : Obj) {N : Nat} (hN : w.heap.size = N) :
    ((((w.alloc a).alloc b).alloc c).alloc d).heap[N]? = some a ∧ ((((w.alloc a).alloc b).alloc c).alloc d).heap[N + 1]? = some b ∧ ((((w.alloc a).alloc b).alloc c).alloc d).heap[N + 2]? = some c ∧ ((((w.alloc a).alloc b).alloc c).alloc d).heap[N + 3]? = some d := by
  subst hN
  refine ⟨?_, ?_, ?_, ?_⟩
  · rw [Below.heap_alloc _ _ _ (by simp <;> omega), Below.heap_alloc _ _ _ (by simp <;> omega), Below.heap_alloc _ _ _ (by simp)]
    exact alloc_at w a
  · rw [Below.heap_alloc _ _ _ (by simp <;> omega), Below.heap_alloc _ _ _ (by simp)]
    have := alloc_at (w.alloc a) b
    rwa [World.size_alloc] at this
  · rw [Below.heap_alloc _ _ _ (by simp)]
    have := alloc_at ((w.alloc a).alloc b) c
    rwa [World.size_alloc, World.size_alloc] at this
  · have := alloc_at (((w.alloc a).alloc b).alloc c) d
    rwa [World.size_alloc, World.size_alloc, World.size_alloc] at this

theorem rowOf_one {α : Type} {cells : α → Array Value} {stride : Nat} {W : World} {b : Nat} {x : α} {t : TypeId} (h : W.heap[b]? = some (.cells (cells x) t (0, 0))) : RowOf cells stride W W.heap.size (some ⟨b, 0, none⟩) [x] := by
  intro _
  refine ⟨b, 0, rfl, (Array.getElem?_eq_some_iff.1 h).1, fun i y hy k u hu => ?_⟩
  have hi : i < 1 := (List.getElem?_eq_some_iff.1 hy).1
  obtain rfl : i = 0 := by omega
  simp at hy; subst hy
  rw [Nat.zero_mul, Nat.add_zero, Nat.zero_add, cell_of_row _ _ _ _ _ _ h]
  simpa using hu

theorem insRow_two {W : World} {b : Nat} {x y : Ins} {t : TypeId} (h : W.heap[b]? = some (.cells (x.cells ++ y.cells) t (0, 0))) : InsRow W W.heap.size (some ⟨b, 0, none⟩) [x, y] := by
  intro _
  refine ⟨b, 0, rfl, (Array.getElem?_eq_some_iff.1 h).1, fun i z hz k u hu => ?_⟩
  have hi : i < 2 := (List.getElem?_eq_some_iff.1 hz).1
  have hx : x.cells.size = 13 := rfl
  have hk : k < 13 := by
    have := (List.getElem?_eq_some_iff.1 hu).1
    obtain rfl | rfl : i = 0 ∨ i = 1 := by omega
    · simp at hz; subst hz; exact this
    · simp at hz; subst hz; exact this
  rw [Nat.zero_add, cell_of_row _ _ _ _ _ _ h]
  obtain rfl | rfl : i = 0 ∨ i = 1 := by omega
  · simp at hz; subst hz
    rw [Nat.zero_mul, Nat.zero_add, Array.getElem?_append_left (by omega)]
    simpa using hu
  · simp at hz; subst hz
    rw [Nat.one_mul, Array.getElem?_append_right (by omega), hx, Nat.add_sub_cancel_left]
    simpa using hu

theorem smI_in (op n : Int) (W : World) : (smI op n).args_in W := ⟨⟨⟨none, 0, rfl⟩, none, 0, 0, rfl⟩, none, 0, rfl, fun h => absurd rfl h⟩

theorem smM_in {W : World} {N : Nat} (h1 : W.heap[N + 1]? = some (.cells #[.bool false, .string ⟨#[]⟩, .int .i64 0] 45 (0, 0)))
    (h2 : W.heap[N + 2]? = some (.cells ((smI 1 7).cells ++ (smI 18 0).cells) 26 (0, 0))) (h3 : W.heap[N + 3]? = some (.cells (smF N).cells 48 (0, 0))) : RightIn W (smM N) := by
  have hv : RowOf Vr.cells 3 W W.heap.size (some ⟨N + 1, 0, none⟩) [(⟨false, ⟨#[]⟩, 0⟩ : Vr)] := rowOf_one (x := (⟨false, ⟨#[]⟩, 0⟩ : Vr)) h1
  have hf : (smF N).inn W := by
    refine ⟨⟨insRow_two h2, ?_, by show 2 ≤ maxLen; unfold maxLen; omega, ⟨_, rfl, hv⟩, by show 1 ≤ maxLen; unfold maxLen; omega, by show 0 ≤ maxLen; omega, ⟨[], rfl, fun h => absurd rfl h⟩⟩, by show 4 ≤ maxLen; unfold maxLen; omega, rfl, hv, rfl, fun h => absurd rfl h, rfl, ?_⟩
    · intro x hx
      rcases List.mem_cons.1 hx with rfl | hx
      · exact smI_in _ _ _
      · simp at hx; subst hx; exact smI_in _ _ _
    · intro k i l hi hl
      have hl0 : l = [] := by
        have : l ∈ (smF N).mds := List.mem_of_getElem? hl
        have e : (smF N).mds = [[], []] := rfl
        rw [e] at this; simpa using this
      subst hl0
      have him : i ∈ (smF N).c.ins := List.mem_of_getElem? hi
      have e : (smF N).c.ins = [smI 1 7, smI 18 0] := rfl
      rw [e] at him
      refine ⟨none, 0, ?_, fun h => absurd rfl h⟩
      rcases List.mem_cons.1 him with rfl | hx
      · rfl
      · simp at hx; subst hx; rfl
  have hfs : (smM N).fs = [smF N] := rfl
  have hss : (smM N).ss = [] := rfl
  refine ⟨⟨fun h => absurd rfl h, rowOf_one h3, by simp [hss], by rw [hfs]; simpa using hf, by show 0 ≤ maxLen; omega, by show 1 ≤ maxLen; unfold maxLen; omega⟩, by show 0 ≤ 90000; omega, by show 1 ≤ 90000; omega, by simp [hss], by rw [hfs]; simp; show 1 ≤ 90000; omega, ?_⟩
  rw [hfs]
  intro f hf i hi
  simp at hf; subst hf
  have e : (smF N).c.ins = [smI 1 7, smI 18 0] := rfl
  rw [e] at hi
  rcases List.mem_cons.1 hi with rfl | hx
  · show 0 ≤ 40; omega
  · simp at hx; subst hx; show 0 ≤ 40; omega

theorem noM_in (W : World) : RightIn W noM := by
  have hfs : noM.fs = [] := rfl
  have hss : noM.ss = [] := rfl
  refine ⟨⟨fun h => absurd rfl h, fun h => absurd rfl h, by simp [hss], by simp [hfs], by show 0 ≤ maxLen; omega, by show 0 ≤ maxLen; omega⟩, by show 0 ≤ 90000; omega, by show 0 ≤ 90000; omega, by simp [hss], by simp [hfs], by simp [hfs]⟩

set_option maxRecDepth 100000 in
set_option maxHeartbeats 4000000 in
theorem small_calls (w : World) : Calls Try.prog 50 #[] w fun e w' =>
    e = .returned (.agg (smM w.heap.size).cells) ∧ RightIn w' (smM w.heap.size) ∧ Below w.heap.size w w' := by
  obtain ⟨N, hN⟩ : ∃ N, w.heap.size = N := ⟨_, rfl⟩
  have HN := Lib.hid hN
  go_enter Try.func50, Try.ntmps50
  go_wp2
  simp only [Nat.add_assoc, Nat.reduceAdd]
  obtain ⟨h0, h1, h2, h3⟩ := alloc4 w (.cells #[.slice none 0 0, .slice (some ⟨N + 3, 0, none⟩) 1 1] 38) (.cells #[.bool false, .string ⟨#[]⟩, .int .i64 0] 45) (.cells ((smI 1 7).cells ++ (smI 18 0).cells) 26) (.cells (smF N).cells 48) HN.out
  (try simp only [Exit.inBlock, Exit.then])
  refine bodyPost_ret (results_cell_row (P := Try.prog) rfl _ _ N 38 _ (0, 0) _ rfl h0 Try.underlying38 rfl (by kernel_rfl)) rfl ?_
  rw [HN.out]
  exact ⟨rfl, smM_in h1 h2 h3, ((((Below.refl _ _).alloc (by omega) _).alloc (by simp <;> omega) _).alloc (by simp <;> omega) _).alloc (by simp <;> omega) _⟩

set_option maxRecDepth 100000 in
set_option maxHeartbeats 4000000 in
theorem alive5_calls (w : World) : Calls Try.prog 11 #[] w fun e w' => e = .returned (.bool true) ∧ Below w.heap.size w w' := by
  have HWR : Hid (∀ W, Calls Try.prog 12 #[.agg (⟨12, 4, 0, 0, 0, 0, ⟨#[]⟩, .slice none 0 0, .slice none 0 0, 0, 0, 0, 0, []⟩ : Ins).cells] W fun e w' => e = .returned (.tuple #[.int .i64 4, .bool true]) ∧ Below W.heap.size W w') := fun W =>
    irWrites_calls (⟨12, 4, 0, 0, 0, 0, ⟨#[]⟩, .slice none 0 0, .slice none 0 0, 0, 0, 0, 0, []⟩ : Ins) W ⟨⟨none, 0, rfl⟩, none, 0, 0, rfl⟩
  have HSM : Hid (∀ W, Calls Try.prog 50 #[] W fun e w' => ∃ N, e = .returned (.agg (smM N).cells) ∧ RightIn w' (smM N) ∧ Below W.heap.size W w') := fun W => (small_calls W).mono fun e w' h => ⟨_, h⟩
  have HRS : Hid (∀ W N, RightIn W (smM N) → Calls Try.prog 30 #[.agg (smM N).cells] W fun e w' => e = .returned (.int .i64 0) ∧ Below W.heap.size W w') := fun W N h => right_calls (smM N) W h
  have HRN : Hid (∀ W, Calls Try.prog 30 #[.agg noM.cells] W fun e w' => e = .returned (.int .i64 9) ∧ Below W.heap.size W w') := fun W => right_calls noM W (noM_in W)
  have HWD : Hid (∀ W, Calls Try.prog 19 #[.int .i64 18] W fun e w' => e = .returned (.string ⟨#[114, 101, 116]⟩) ∧ Below W.heap.size W w') := fun W => irWord_calls 18 W
  have HFN : Hid (∀ W N, RightIn W (smM N) → Calls Try.prog 26 #[.agg (smM N).cells, .string ⟨#[109, 97, 105, 110]⟩] W fun e w' => e = .returned (.int .i64 0) ∧ Below W.heap.size W w') := fun W N h => func_calls5 (smM N) mainB W h.mo.nf h.mo.frow
  go_enter Try.func11, Try.ntmps11
  go_wp2_with (first
    | (go_at_call 12; refine (HWR.out _).mono ?_; rintro e w2 ⟨rfl, hb2⟩; have HB := Lib.hid hb2; clear hb2)
    | (go_at_call 50; refine (HSM.out _).mono ?_; rintro e w3 ⟨N, rfl, hin3, hb3⟩; have HIN := Lib.hid hin3; have HBN := Lib.hid (HB.out.trans (hb3.mono HB.out.size)); clear hb3 hin3 HB; have HB := HBN; clear HBN)
    | (go_at_call 30; refine (HRS.out _ _ HIN.out).mono ?_; rintro e w4 ⟨rfl, hb4⟩; have HBN := Lib.hid (HB.out.trans (hb4.mono HB.out.size)); clear hb4 HB HRS; have HB := HBN; clear HBN)
    | (go_at_call 30; refine (HRN.out _).mono ?_; rintro e w5 ⟨rfl, hb5⟩; have HBN := Lib.hid (HB.out.trans (hb5.mono HB.out.size)); clear hb5 HB; have HB := HBN; clear HBN)
    | (go_at_call 19; refine (HWD.out _).mono ?_; rintro e w6 ⟨rfl, hb6⟩; have HBN := Lib.hid (HB.out.trans (hb6.mono HB.out.size)); clear hb6 HB; have HB := HBN; clear HBN)
    | (go_at_call 26; refine (HFN.out _ _ HIN.out).mono ?_; rintro e w7 ⟨rfl, hb7⟩; have HBN := Lib.hid (HB.out.trans (hb7.mono HB.out.size)); clear hb7 HB; have HB := HBN; clear HBN))
  go_ret
  exact ⟨rfl, HB.out⟩
end Go.Proofs.Ytbbogkcfngpbbaa
