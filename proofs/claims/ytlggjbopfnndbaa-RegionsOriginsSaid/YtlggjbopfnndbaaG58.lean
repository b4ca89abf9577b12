import Derived.Test.YtlggjbopfnndbaaG61
import Derived.Test.YtlggjbopfnndbaaG33
import Derived.Test.YtlggjbopfnndbaaG57
namespace Go.Proofs.Ytlggjbopfnndbaa
open Go.RowKit
theorem alloc_at19 {w : World} {o : Obj} {n : Nat} (h : w.heap.size = n) : (w.alloc o).heap[n]? = some o := by rw [← h]; exact alloc_at _ _
def fF (N : Nat) : Fn := ⟨⟨⟨#[102]⟩, 2, some ⟨N + 1 + 1, 0, none⟩, 2, 2, true, ⟨#[83]⟩, 3, none, 0, 0, some ⟨N + 1 + 1 + 1, 0, none⟩, 1, [alI 18 0 1]⟩, [alV true ⟨#[83]⟩ 3, alV true ⟨#[83]⟩ 3], [], [[]]⟩
def gF (N : Nat) : Fn := ⟨⟨mainB, 0, some ⟨N + 1 + 1 + 1 + 1 + 1, 0, none⟩, 1, 1, false, ⟨#[]⟩, 0, none, 0, 0, some ⟨N + 1 + 1 + 1 + 1 + 1 + 1, 0, none⟩, 2, [alI 1 0 0, alI 18 0 0]⟩, [alV false ⟨#[]⟩ 0], [], [[], []]⟩
def al9 (N : Nat) : Mo := ⟨some ⟨N + 1 + 1 + 1 + 1 + 1 + 1 + 1 + 1, 0, none⟩, 1, some ⟨N + 1 + 1 + 1 + 1 + 1 + 1 + 1 + 1 + 1, 0, none⟩, 2, [⟨⟨⟨#[83]⟩, none, 0, 0, 0, 0⟩, []⟩], [fF N, gF N]⟩
theorem al9_in {w : World} {N : Nat} {t2 t3 t5 t6 t8 t9 : TypeId}
  (h2 : w.heap[N + 1 + 1]? = some (.cells ((fF N).vs.flatMap fun v => v.cells.toList).toArray t2 (0, 0)))
  (h3 : w.heap[N + 1 + 1 + 1]? = some (.cells ((fF N).c.ins.flatMap fun v => v.cells.toList).toArray t3 (0, 0)))
  (h5 : w.heap[N + 1 + 1 + 1 + 1 + 1]? = some (.cells ((gF N).vs.flatMap fun v => v.cells.toList).toArray t5 (0, 0)))
  (h6 : w.heap[N + 1 + 1 + 1 + 1 + 1 + 1]? = some (.cells ((gF N).c.ins.flatMap fun v => v.cells.toList).toArray t6 (0, 0)))
  (h8 : w.heap[N + 1 + 1 + 1 + 1 + 1 + 1 + 1 + 1]? = some (.cells ((al9 N).ss.flatMap fun v => v.cells.toList).toArray t8 (0, 0)))
  (h9 : w.heap[N + 1 + 1 + 1 + 1 + 1 + 1 + 1 + 1 + 1]? = some (.cells ((al9 N).fs.flatMap fun v => v.cells.toList).toArray t9 (0, 0))) : RightIn w (al9 N) := by
 have hv : RowOf Vr.cells 3 w w.heap.size (some ⟨N + 1 + 1, 0, none⟩) (fF N).vs := rowOf_heap vrLen h2 (by simp)
 have hi : RowOf Ins.cells 13 w w.heap.size (some ⟨N + 1 + 1 + 1, 0, none⟩) (fF N).c.ins := rowOf_heap insLen h3 (by simp)
 have hv2 : RowOf Vr.cells 3 w w.heap.size (some ⟨N + 1 + 1 + 1 + 1 + 1, 0, none⟩) (gF N).vs := rowOf_heap vrLen h5 (by simp)
 have hi2 : RowOf Ins.cells 13 w w.heap.size (some ⟨N + 1 + 1 + 1 + 1 + 1 + 1, 0, none⟩) (gF N).c.ins := rowOf_heap insLen h6 (by simp)
 have hs : RowOf St.cells 4 w w.heap.size (some ⟨N + 1 + 1 + 1 + 1 + 1 + 1 + 1 + 1, 0, none⟩) (al9 N).ss := rowOf_heap stLen h8 (by simp)
 have hf : RowOf Fn.cells 8 w w.heap.size (some ⟨N + 1 + 1 + 1 + 1 + 1 + 1 + 1 + 1 + 1, 0, none⟩) (al9 N).fs := rowOf_heap fnLen h9 (by simp)
 have hai : ∀ x ∈ (fF N).c.ins, x.args = [] ∧ x.argsV = .slice none 0 0 ∧ x.modeV = .slice none 0 0 := by
  intro x hx
  simp only [fF, List.mem_cons, List.not_mem_nil, or_false] at hx
  rcases hx with rfl <;> exact ⟨rfl, rfl, rfl⟩
 have hai2 : ∀ x ∈ (gF N).c.ins, x.args = [] ∧ x.argsV = .slice none 0 0 ∧ x.modeV = .slice none 0 0 := by
  intro x hx
  simp only [gF, List.mem_cons, List.not_mem_nil, or_false] at hx
  rcases hx with rfl | rfl <;> exact ⟨rfl, rfl, rfl⟩
 refine ⟨⟨hs, hf, ?_, ?_, Nat.le_of_ble_eq_true (by kernel_rfl), Nat.le_of_ble_eq_true (by kernel_rfl)⟩, Nat.le_of_ble_eq_true (by kernel_rfl), Nat.le_of_ble_eq_true (by kernel_rfl), ?_, ?_, ?_⟩
 ·intro s hs'
  simp only [al9, List.mem_singleton] at hs'
  subst hs'
  exact ⟨rfl, rowOf_nil _ _ _ _ _, Nat.le_of_ble_eq_true (by kernel_rfl), Nat.le_of_ble_eq_true (by kernel_rfl), by simp⟩
 ·intro f hf'
  simp only [al9, List.mem_cons, List.not_mem_nil, or_false] at hf'
  rcases hf' with rfl | rfl
  ·refine ⟨⟨hi, ?_, Nat.le_of_ble_eq_true (by kernel_rfl), ⟨_, rfl, hv⟩, Nat.le_of_ble_eq_true (by kernel_rfl), Nat.le_of_ble_eq_true (by kernel_rfl), ⟨[], rfl, rowOf_nil _ _ _ _ _⟩⟩, Nat.le_of_ble_eq_true (by kernel_rfl), rfl, hv, rfl, rowOf_nil _ _ _ _ _, rfl, ?_⟩
   ·intro x hx
    obtain ⟨e1, e2, e3⟩ := hai x hx
    exact ⟨⟨⟨_, _, by rw [e1]; exact e2⟩, _, _, _, e3⟩, _, _, by rw [e1]; exact e2, by rw [e1]; exact rowOf_nil _ _ _ _ _⟩
   ·intro k i l h1 h2
    have e1 : l = [] := by
     have := List.mem_of_getElem? h2
     simpa [fF] using this
    rw [e1]
    exact ⟨_, _, (hai i (List.mem_of_getElem? h1)).2.2, rowOf_nil _ _ _ _ _⟩
  ·refine ⟨⟨hi2, ?_, Nat.le_of_ble_eq_true (by kernel_rfl), ⟨_, rfl, hv2⟩, Nat.le_of_ble_eq_true (by kernel_rfl), Nat.le_of_ble_eq_true (by kernel_rfl), ⟨[], rfl, rowOf_nil _ _ _ _ _⟩⟩, Nat.le_of_ble_eq_true (by kernel_rfl), rfl, hv2, rfl, rowOf_nil _ _ _ _ _, rfl, ?_⟩
   ·intro x hx
    obtain ⟨e1, e2, e3⟩ := hai2 x hx
    exact ⟨⟨⟨_, _, by rw [e1]; exact e2⟩, _, _, _, e3⟩, _, _, by rw [e1]; exact e2, by rw [e1]; exact rowOf_nil _ _ _ _ _⟩
   ·intro k i l h1 h2
    have e1 : l = [] := by
     have := List.mem_of_getElem? h2
     simpa [gF] using this
    rw [e1]
    exact ⟨_, _, (hai2 i (List.mem_of_getElem? h1)).2.2, rowOf_nil _ _ _ _ _⟩
 ·intro s hs'
  simp only [al9, List.mem_singleton] at hs'
  subst hs'; exact Nat.zero_le _
 ·intro f hf'
  simp only [al9, List.mem_cons, List.not_mem_nil, or_false] at hf'
  rcases hf' with rfl | rfl
  ·show 2 ≤ 90000
   decide
  ·show 1 ≤ 90000
   decide
 ·intro f hf' i hi'
  simp only [al9, List.mem_cons, List.not_mem_nil, or_false] at hf'
  rcases hf' with rfl | rfl
  ·rw [(hai i hi').1]; decide
  ·rw [(hai2 i hi').1]; decide
theorem al9_right (N : Nat) : rightF (al9 N) = 0 := by kernel_rfl
theorem al9_one (N k : Nat) (h : RoundsIs (al9 N) k) : k = 1 := by
 have h0 : (passR (al9 N) (roundsR (al9 N) 0)).is = true := by kernel_rfl
 have h1 : (passR (al9 N) (roundsR (al9 N) 1)).is = false := by kernel_rfl
 rcases Nat.lt_trichotomy k 1 with q | q | q
 ·obtain rfl : k = 0 := by omega
  rw [h.1] at h0; exact absurd h0 (by decide)
 ·exact q
 ·rw [h.2 1 q] at h1; exact absurd h1 (by decide)
theorem al9_from (N : Nat) : fromL (al9 N) (roundsR (al9 N) 2) 0 = [1] := by kernel_rfl
theorem al9_names (N : Nat) : NamesR (al9 N) := by
 refine ⟨fun g hg => ?_⟩
 simp only [al9, List.mem_cons, List.not_mem_nil, or_false] at hg
 rcases hg with rfl | rfl
 ·refine ⟨Nat.le_of_ble_eq_true (by kernel_rfl), Nat.le_of_ble_eq_true (by kernel_rfl), fun v hv => ?_⟩
  simp only [fF, List.mem_cons, List.not_mem_nil, or_false] at hv
  rcases hv with rfl | rfl <;> decide
 ·refine ⟨Nat.le_of_ble_eq_true (by kernel_rfl), Nat.le_of_ble_eq_true (by kernel_rfl), fun v hv => ?_⟩
  simp only [gF, List.mem_cons, List.not_mem_nil, or_false] at hv
  rcases hv with rfl <;> decide
def al9W (w : World) (N : Nat) (t2 t3 t5 t6 t8 t9 : TypeId) (o0 o1 o4 o7 : Obj) : World := ((((((((((w.alloc o0).alloc o1).alloc (.cells ((fF N).vs.flatMap fun v => v.cells.toList).toArray t2)).alloc (.cells ((fF N).c.ins.flatMap fun v => v.cells.toList).toArray t3)).alloc o4).alloc (.cells ((gF N).vs.flatMap fun v => v.cells.toList).toArray t5)).alloc (.cells ((gF N).c.ins.flatMap fun v => v.cells.toList).toArray t6)).alloc o7).alloc (.cells ((al9 N).ss.flatMap fun v => v.cells.toList).toArray t8)).alloc (.cells ((al9 N).fs.flatMap fun v => v.cells.toList).toArray t9))
theorem al9W_ok (w : World) (N : Nat) (hN : w.heap.size = N) (t2 t3 t5 t6 t8 t9 : TypeId) (o0 o1 o4 o7 : Obj) :
  RightIn (al9W w N t2 t3 t5 t6 t8 t9 o0 o1 o4 o7) (al9 N) ∧ Below w.heap.size w (al9W w N t2 t3 t5 t6 t8 t9 o0 o1 o4 o7) := by
 have g2 : (al9W w N t2 t3 t5 t6 t8 t9 o0 o1 o4 o7).heap[N + 1 + 1]? = some (.cells ((fF N).vs.flatMap fun v => v.cells.toList).toArray t2 (0, 0)) := by
  unfold al9W
  rw [Below.heap_alloc _ _ _ (by simp only [World.size_alloc]; omega), Below.heap_alloc _ _ _ (by simp only [World.size_alloc]; omega), Below.heap_alloc _ _ _ (by simp only [World.size_alloc]; omega), Below.heap_alloc _ _ _ (by simp only [World.size_alloc]; omega), Below.heap_alloc _ _ _ (by simp only [World.size_alloc]; omega), Below.heap_alloc _ _ _ (by simp only [World.size_alloc]; omega), Below.heap_alloc _ _ _ (by simp only [World.size_alloc]; omega)]
  exact alloc_at19 (by simp only [World.size_alloc]; omega)
 have g3 : (al9W w N t2 t3 t5 t6 t8 t9 o0 o1 o4 o7).heap[N + 1 + 1 + 1]? = some (.cells ((fF N).c.ins.flatMap fun v => v.cells.toList).toArray t3 (0, 0)) := by
  unfold al9W
  rw [Below.heap_alloc _ _ _ (by simp only [World.size_alloc]; omega), Below.heap_alloc _ _ _ (by simp only [World.size_alloc]; omega), Below.heap_alloc _ _ _ (by simp only [World.size_alloc]; omega), Below.heap_alloc _ _ _ (by simp only [World.size_alloc]; omega), Below.heap_alloc _ _ _ (by simp only [World.size_alloc]; omega), Below.heap_alloc _ _ _ (by simp only [World.size_alloc]; omega)]
  exact alloc_at19 (by simp only [World.size_alloc]; omega)
 have g5 : (al9W w N t2 t3 t5 t6 t8 t9 o0 o1 o4 o7).heap[N + 1 + 1 + 1 + 1 + 1]? = some (.cells ((gF N).vs.flatMap fun v => v.cells.toList).toArray t5 (0, 0)) := by
  unfold al9W
  rw [Below.heap_alloc _ _ _ (by simp only [World.size_alloc]; omega), Below.heap_alloc _ _ _ (by simp only [World.size_alloc]; omega), Below.heap_alloc _ _ _ (by simp only [World.size_alloc]; omega), Below.heap_alloc _ _ _ (by simp only [World.size_alloc]; omega)]
  exact alloc_at19 (by simp only [World.size_alloc]; omega)
 have g6 : (al9W w N t2 t3 t5 t6 t8 t9 o0 o1 o4 o7).heap[N + 1 + 1 + 1 + 1 + 1 + 1]? = some (.cells ((gF N).c.ins.flatMap fun v => v.cells.toList).toArray t6 (0, 0)) := by
  unfold al9W
  rw [Below.heap_alloc _ _ _ (by simp only [World.size_alloc]; omega), Below.heap_alloc _ _ _ (by simp only [World.size_alloc]; omega), Below.heap_alloc _ _ _ (by simp only [World.size_alloc]; omega)]
  exact alloc_at19 (by simp only [World.size_alloc]; omega)
 have g8 : (al9W w N t2 t3 t5 t6 t8 t9 o0 o1 o4 o7).heap[N + 1 + 1 + 1 + 1 + 1 + 1 + 1 + 1]? = some (.cells ((al9 N).ss.flatMap fun v => v.cells.toList).toArray t8 (0, 0)) := by
  unfold al9W
  rw [Below.heap_alloc _ _ _ (by simp only [World.size_alloc]; omega)]
  exact alloc_at19 (by simp only [World.size_alloc]; omega)
 have g9 : (al9W w N t2 t3 t5 t6 t8 t9 o0 o1 o4 o7).heap[N + 1 + 1 + 1 + 1 + 1 + 1 + 1 + 1 + 1]? = some (.cells ((al9 N).fs.flatMap fun v => v.cells.toList).toArray t9 (0, 0)) := by
  unfold al9W
  exact alloc_at19 (by simp only [World.size_alloc]; omega)
 refine ⟨al9_in g2 g3 g5 g6 g8 g9, ?_⟩
 unfold al9W
 refine Below.alloc ?_ (by simp only [World.size_alloc]; omega) _
 refine Below.alloc ?_ (by simp only [World.size_alloc]; omega) _
 refine Below.alloc ?_ (by simp only [World.size_alloc]; omega) _
 refine Below.alloc ?_ (by simp only [World.size_alloc]; omega) _
 refine Below.alloc ?_ (by simp only [World.size_alloc]; omega) _
 refine Below.alloc ?_ (by simp only [World.size_alloc]; omega) _
 refine Below.alloc ?_ (by simp only [World.size_alloc]; omega) _
 refine Below.alloc ?_ (by simp only [World.size_alloc]; omega) _
 refine Below.alloc ?_ (by simp only [World.size_alloc]; omega) _
 exact (Below.refl _ _).alloc (Nat.le_refl _) _
end Go.Proofs.Ytlggjbopfnndbaa
namespace Go.Proofs.Ytlggjbopfnndbaa
open Go.RowKit
theorem al9_sign0 (N : Nat) : signF (fF N) (roundsR (al9 N) 2 0 2) = ⟨#[102, 40, 115, 104, 97, 114, 101, 32, 83, 44, 32, 115, 104, 97, 114, 101, 32, 83, 32, 39, 114, 41, 32, 45, 62, 32, 115, 104, 97, 114, 101, 32, 83, 32, 39, 114]⟩ := by kernel_rfl
theorem al9_sign1 (N : Nat) : signF (gF N) (roundsR (al9 N) 2 1 1) = ⟨#[109, 97, 105, 110, 40, 41, 32, 45, 62, 32, 105, 110, 116]⟩ := by kernel_rfl
set_option maxRecDepth 100000 in
set_option maxHeartbeats 16000000 in
theorem alive19_calls (w : World) : Calls Try.prog 25 #[] w fun e w' => e = .returned (.bool true) ∧ Below w.heap.size w w' := by
 obtain ⟨N, hN⟩ : ∃ N, w.heap.size = N := ⟨_, rfl⟩
 have HF := Lib.hid (fun t2 t3 t5 t6 t8 t9 o0 o1 o4 o7 => al9W_ok w N hN t2 t3 t5 t6 t8 t9 o0 o1 o4 o7)
 go_enter Try.func25, Try.ntmps25
 go_wp2_with fail
 obtain ⟨W1, hW1⟩ : ∃ W1, al9W w N 47 62 47 62 84 50 (.cells #[.bool true, .string ⟨#[83]⟩] 45) (.cells #[.bool true, .string ⟨#[83]⟩, .int .i64 3] 47) (.cells (fF N).cells 50) (.cells (gF N).cells 50) = W1 := ⟨_, rfl⟩
 obtain ⟨hin, hb1⟩ := HF.out 47 62 47 62 84 50 (.cells #[.bool true, .string ⟨#[83]⟩] 45) (.cells #[.bool true, .string ⟨#[83]⟩, .int .i64 3] 47) (.cells (fF N).cells 50) (.cells (gF N).cells 50)
 rw [hW1] at hin hb1
 have HOF := Lib.hid (of19_calls (al9 N) W1 hin)
 go_at_call 26
 change Calls _ _ #[.agg (al9 N).cells] (al9W w N 47 62 47 62 84 50 (.cells #[.bool true, .string ⟨#[83]⟩] 45) (.cells #[.bool true, .string ⟨#[83]⟩, .int .i64 3] 47) (.cells (fF N).cells 50) (.cells (gF N).cells 50)) _
 rw [hW1]
 refine HOF.out.mono ?_
 rintro e w2 (⟨h, _⟩ | ⟨_, R, vv, fv, rows, tag, k, rfl, hg, hk, _, hb2⟩)
 ·exact (h (al9_right N)).elim
 obtain rfl := al9_one N k hk
 have hok := OkR.of (al9_right N)
 have HB2 : Hid (Below w.heap.size w w2) := hb1.trans (hb2.mono hb1.size)
 have HG := Lib.hid hg
 have HOK := Lib.hid hok
 have HFR := Lib.hid (from19_calls hg hok 0)
 clear hg hk hb1 hb2 hok hin HF HOF hW1 hN
 rw [show roundsR (al9 N) (1 + 1) = roundsR (al9 N) 2 from rfl, al9_from] at HFR
 go_wp2_with fail
 go_at_call 27
 refine HFR.out.mono ?_
 rintro e w3 ⟨v3, rfl, how, hb3⟩
 clear HFR
 obtain ⟨ao, cap, rfl⟩ := ownsRow_slice how
 obtain ⟨b3, rfl, _, c3⟩ := ownsRow_get how (j := 0) (u := .int .i64 1) rfl
 have HB3 : Hid (Below w.heap.size w w3) := HB2.out.trans (hb3.mono HB2.out.size)
 have hg3 := HG.out.below hb3
 have HS0 := Lib.hid (sign19_calls hg3 HOK.out (al9_names N) (f := 0) (g := fF N) rfl)
 have HS1 : Hid (∀ W, Below w3.heap.size w3 W → Calls Try.prog 36 #[.pointer (some ⟨R, 0, none⟩), .int .i64 1] W fun e w' => e = .returned (.string ⟨#[109, 97, 105, 110, 40, 41, 32, 45, 62, 32, 105, 110, 116]⟩) ∧ Below W.heap.size W w') := fun W hW => by
  have := sign19_calls (hg3.below hW) HOK.out (al9_names N) (f := 1) (g := gF N) rfl
  rw [show roundsR (al9 N) (1 + 1) 1 (gF N).vs.length = roundsR (al9 N) 2 1 1 from rfl, al9_sign1] at this
  exact this
 rw [show roundsR (al9 N) (1 + 1) 0 (fF N).vs.length = roundsR (al9 N) 2 0 2 from rfl, al9_sign0] at HS0
 clear how hb3 hg3 HG HB2
 go_wp2_with (first
  | (go_at_call 36; refine HS0.out.mono ?_; rintro e w4 ⟨rfl, hb4⟩; have HB4 := Lib.hid hb4; clear hb4 HS0)
  | (go_at_call 36; refine (HS1.out _ HB4.out).mono ?_; rintro e w5 ⟨rfl, hb5⟩; have HB5 := Lib.hid hb5; clear hb5))
 go_ret
 exact ⟨rfl, HB3.out.trans ((HB4.out.trans (HB5.out.mono HB4.out.size)).mono HB3.out.size)⟩
end Go.Proofs.Ytlggjbopfnndbaa
