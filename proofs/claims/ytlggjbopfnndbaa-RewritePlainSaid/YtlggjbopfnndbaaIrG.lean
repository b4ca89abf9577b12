/- ir.Right's judge of plain Ops. -/
import Derived.Test.YtlggjbopfnndbaaIrF
namespace Go.Proofs.Ytlggjbopfnndbaa
open Go.RowKit
structure PlainIn (w : World) (m : Mo) (g : Fn) (i : Ins) : Prop where
 j : JIn w m g
 d : shD i.op = true → isVar g.vs.length i.d = true
 a : shA i.op = true → isVar g.vs.length i.a = true
 b : shB i.op = true → isVar g.vs.length i.b = true
 kn : ∀ v,isVar g.vs.length v = true → m.known (tyAt g.vs v) = true
theorem ints1 {w : World} {z : Int} : IntsAt (w.alloc (.cells #[.int .i64 z] 3)) (some ⟨w.heap.size,0,none⟩) [z] := IntsAt.one w z rfl
theorem ints2 {w : World} {y z : Int} : IntsAt (w.alloc (.cells #[.int .i64 y,.int .i64 z] 3)) (some ⟨w.heap.size,0,none⟩) [y,z] := by
 intro _
 refine ⟨w.heap.size,0,rfl,by simp,fun k u hk => ?_⟩
 rw [Nat.zero_add,World.cell?_alloc_new]
 have : k < 2 := (List.getElem?_eq_some_iff.1 hk).1
 obtain rfl | rfl : k = 0 ∨ k = 1 := by omega
 ·simp at hk; subst hk; rfl
 ·simp at hk; subst hk; rfl
set_option maxRecDepth 100000 in
set_option maxHeartbeats 4000000 in
theorem plain_1 (m : Mo) (g : Fn) (i : Ins) (w : World) (hop : i.op = 1) (h : PlainIn w m g i) :
  Calls Try.prog 126 #[.agg (jg m g),.agg i.cells] w fun e w' => e = .returned (.int .i64 (plainF m g.vs i)) ∧ Below w.heap.size w w' := by
 have HE : Hid (plainF m g.vs i = numsF g.vs [i.d]) := by
  unfold Hid plainF; rw [hop]; rfl
 obtain ⟨R,hR⟩ : ∃ R,plainF m g.vs i = R := ⟨_,rfl⟩
 rw [hR] at HE ⊢
 clear hR
 have HN0 := Lib.hid h
 have HT : Hid (∀ W v,Below w.heap.size w W → isVar g.vs.length v = true → Calls Try.prog 125 #[.agg (jg m g),.int .i64 v] W fun e w' => e = .returned (tyV (tyAt g.vs v)) ∧ Below W.heap.size W w') := fun W v hW hv => typ_calls m g v W (h.j.below hW).vars h.j.nv h.j.vl hv
 have HD : Hid (shD 1 = true → isVar g.vs.length i.d = true) := by have := h.d; rw [hop] at this; exact this
 have HA : Hid (shA 1 = true → isVar g.vs.length i.a = true) := by have := h.a; rw [hop] at this; exact this
 have HB : Hid (shB 1 = true → isVar g.vs.length i.b = true) := by have := h.b; rw [hop] at this; exact this
 clear h
 obtain ⟨N,hN⟩ : ∃ N,w.heap.size = N := ⟨_,rfl⟩
 obtain ⟨W1,hW1⟩ : ∃ W1,(w.alloc (.cells (jg m g) 113)).alloc (.cells i.cells 62) = W1 := ⟨_,rfl⟩
 have hb1 : Below N w W1 := by rw [← hW1,← hN]; exact ((Below.refl _ _).alloc (Nat.le_refl _) _).alloc (by simp) _
 have hs1 : W1.heap.size = N + 2 := by rw [← hW1]; simp [hN]
 have hr1 : W1.heap[N]? = some (.cells (jg m g) 113 (0,0)) := by rw [← hW1,← hN]; exact heap_alloc2_old _ _ _
 have hr2 : W1.heap[N + 1]? = some (.cells i.cells 62 (0,0)) := by rw [← hW1,← hN]; exact heap_alloc2_new _ _ _
 have i0 : W1.cell? ⟨N + 1,0,none⟩ = some (.int .i64 1) := by rw [cell_of_row _ _ _ _ _ _ hr2,← hop]; rfl
 have i1 : W1.cell? ⟨N + 1,1,none⟩ = some (.int .i64 i.d) := by rw [cell_of_row _ _ _ _ _ _ hr2]; rfl
 have i2 : W1.cell? ⟨N + 1,2,none⟩ = some (.int .i64 i.a) := by rw [cell_of_row _ _ _ _ _ _ hr2]; rfl
 have i3 : W1.cell? ⟨N + 1,3,none⟩ = some (.int .i64 i.b) := by rw [cell_of_row _ _ _ _ _ _ hr2]; rfl
 have i4 : W1.cell? ⟨N + 1,4,none⟩ = some (.int .i64 i.f) := by rw [cell_of_row _ _ _ _ _ _ hr2]; rfl
 have i6 : W1.cell? ⟨N + 1,6,none⟩ = some (.string i.sign) := by rw [cell_of_row _ _ _ _ _ _ hr2]; rfl
 have HB1 := Lib.hid hb1
 have HR1 := Lib.hid hr1
 have HR2 := Lib.hid hr2
 have HN := Lib.hid hN
 have HS1 := Lib.hid hs1
 have hNlt : N + 1 < W1.heap.size := by omega
 clear hb1 hr1 hr2 hop
 have HW2 : Hid (Below N w (W1.alloc (.cells #[.int .i64 i.d] 3))) := HB1.out.alloc (by omega) _
 have HNC : Hid (Calls Try.prog 124 #[.agg (jg m g),.slice (some ⟨N + 2,0,none⟩) 1 1] (W1.alloc (.cells #[.int .i64 i.d] 3)) fun e w' => e = .returned (.int .i64 R) ∧ Below (W1.alloc (.cells #[.int .i64 i.d] 3)).heap.size (W1.alloc (.cells #[.int .i64 i.d] 3)) w') := by
  have hj := HN0.out.j.below (by rw [HN.out]; exact HW2.out)
  have := numbers_calls5 m g (some ⟨N + 2,0,none⟩) [i.d] 1 (W1.alloc (.cells #[.int .i64 i.d] 3)) hj.vars hj.nv hj.vl (by unfold maxLen; simp) (by rw [← HS1.out]; exact ints1) (by simp; exact HD.out rfl)
  rw [← HE.out] at this
  exact this
 clear HE HD HA HB HT HN0
 go_enter Try.func126,Try.ntmps126
 go_wp2_with (first
  | (refine wpList_load_row rfl 113 _ rfl N rfl 113 (jg m g) (0,0) _ HR1.out Try.underlying113 rfl (by kernel_rfl) ?_)
  | (go_at_call 124; refine HNC.out.mono ?_; rintro e w4 ⟨rfl,hb4⟩; have HB4 := Lib.hid hb4; clear hb4))
 go_ret
 refine ⟨rfl,?_⟩
 rw [HN.out]
 exact HW2.out.trans (HB4.out.mono (by have := HS1.out; simp; omega))
set_option maxRecDepth 100000 in
set_option maxHeartbeats 4000000 in
theorem plain_5 (m : Mo) (g : Fn) (i : Ins) (w : World) (hop : i.op = 5) (h : PlainIn w m g i) :
  Calls Try.prog 126 #[.agg (jg m g),.agg i.cells] w fun e w' => e = .returned (.int .i64 (plainF m g.vs i)) ∧ Below w.heap.size w w' := by
 have HE : Hid (plainF m g.vs i = numsF g.vs [i.d]) := by
  unfold Hid plainF; rw [hop]; rfl
 obtain ⟨R,hR⟩ : ∃ R,plainF m g.vs i = R := ⟨_,rfl⟩
 rw [hR] at HE ⊢
 clear hR
 have HN0 := Lib.hid h
 have HT : Hid (∀ W v,Below w.heap.size w W → isVar g.vs.length v = true → Calls Try.prog 125 #[.agg (jg m g),.int .i64 v] W fun e w' => e = .returned (tyV (tyAt g.vs v)) ∧ Below W.heap.size W w') := fun W v hW hv => typ_calls m g v W (h.j.below hW).vars h.j.nv h.j.vl hv
 have HD : Hid (shD 5 = true → isVar g.vs.length i.d = true) := by have := h.d; rw [hop] at this; exact this
 have HA : Hid (shA 5 = true → isVar g.vs.length i.a = true) := by have := h.a; rw [hop] at this; exact this
 have HB : Hid (shB 5 = true → isVar g.vs.length i.b = true) := by have := h.b; rw [hop] at this; exact this
 clear h
 obtain ⟨N,hN⟩ : ∃ N,w.heap.size = N := ⟨_,rfl⟩
 obtain ⟨W1,hW1⟩ : ∃ W1,(w.alloc (.cells (jg m g) 113)).alloc (.cells i.cells 62) = W1 := ⟨_,rfl⟩
 have hb1 : Below N w W1 := by rw [← hW1,← hN]; exact ((Below.refl _ _).alloc (Nat.le_refl _) _).alloc (by simp) _
 have hs1 : W1.heap.size = N + 2 := by rw [← hW1]; simp [hN]
 have hr1 : W1.heap[N]? = some (.cells (jg m g) 113 (0,0)) := by rw [← hW1,← hN]; exact heap_alloc2_old _ _ _
 have hr2 : W1.heap[N + 1]? = some (.cells i.cells 62 (0,0)) := by rw [← hW1,← hN]; exact heap_alloc2_new _ _ _
 have i0 : W1.cell? ⟨N + 1,0,none⟩ = some (.int .i64 5) := by rw [cell_of_row _ _ _ _ _ _ hr2,← hop]; rfl
 have i1 : W1.cell? ⟨N + 1,1,none⟩ = some (.int .i64 i.d) := by rw [cell_of_row _ _ _ _ _ _ hr2]; rfl
 have i2 : W1.cell? ⟨N + 1,2,none⟩ = some (.int .i64 i.a) := by rw [cell_of_row _ _ _ _ _ _ hr2]; rfl
 have i3 : W1.cell? ⟨N + 1,3,none⟩ = some (.int .i64 i.b) := by rw [cell_of_row _ _ _ _ _ _ hr2]; rfl
 have i4 : W1.cell? ⟨N + 1,4,none⟩ = some (.int .i64 i.f) := by rw [cell_of_row _ _ _ _ _ _ hr2]; rfl
 have i6 : W1.cell? ⟨N + 1,6,none⟩ = some (.string i.sign) := by rw [cell_of_row _ _ _ _ _ _ hr2]; rfl
 have HB1 := Lib.hid hb1
 have HR1 := Lib.hid hr1
 have HR2 := Lib.hid hr2
 have HN := Lib.hid hN
 have HS1 := Lib.hid hs1
 have hNlt : N + 1 < W1.heap.size := by omega
 clear hb1 hr1 hr2 hop
 have HW2 : Hid (Below N w (W1.alloc (.cells #[.int .i64 i.d] 3))) := HB1.out.alloc (by omega) _
 have HNC : Hid (Calls Try.prog 124 #[.agg (jg m g),.slice (some ⟨N + 2,0,none⟩) 1 1] (W1.alloc (.cells #[.int .i64 i.d] 3)) fun e w' => e = .returned (.int .i64 R) ∧ Below (W1.alloc (.cells #[.int .i64 i.d] 3)).heap.size (W1.alloc (.cells #[.int .i64 i.d] 3)) w') := by
  have hj := HN0.out.j.below (by rw [HN.out]; exact HW2.out)
  have := numbers_calls5 m g (some ⟨N + 2,0,none⟩) [i.d] 1 (W1.alloc (.cells #[.int .i64 i.d] 3)) hj.vars hj.nv hj.vl (by unfold maxLen; simp) (by rw [← HS1.out]; exact ints1) (by simp; exact HD.out rfl)
  rw [← HE.out] at this
  exact this
 clear HE HD HA HB HT HN0
 go_enter Try.func126,Try.ntmps126
 go_wp2_with (first
  | (refine wpList_load_row rfl 113 _ rfl N rfl 113 (jg m g) (0,0) _ HR1.out Try.underlying113 rfl (by kernel_rfl) ?_)
  | (go_at_call 124; refine HNC.out.mono ?_; rintro e w4 ⟨rfl,hb4⟩; have HB4 := Lib.hid hb4; clear hb4))
 go_ret
 refine ⟨rfl,?_⟩
 rw [HN.out]
 exact HW2.out.trans (HB4.out.mono (by have := HS1.out; simp; omega))
set_option maxRecDepth 100000 in
set_option maxHeartbeats 4000000 in
theorem plain_6 (m : Mo) (g : Fn) (i : Ins) (w : World) (hop : i.op = 6) (h : PlainIn w m g i) :
  Calls Try.prog 126 #[.agg (jg m g),.agg i.cells] w fun e w' => e = .returned (.int .i64 (plainF m g.vs i)) ∧ Below w.heap.size w w' := by
 have HE : Hid (plainF m g.vs i = numsF g.vs [i.a]) := by
  unfold Hid plainF; rw [hop]; rfl
 obtain ⟨R,hR⟩ : ∃ R,plainF m g.vs i = R := ⟨_,rfl⟩
 rw [hR] at HE ⊢
 clear hR
 have HN0 := Lib.hid h
 have HT : Hid (∀ W v,Below w.heap.size w W → isVar g.vs.length v = true → Calls Try.prog 125 #[.agg (jg m g),.int .i64 v] W fun e w' => e = .returned (tyV (tyAt g.vs v)) ∧ Below W.heap.size W w') := fun W v hW hv => typ_calls m g v W (h.j.below hW).vars h.j.nv h.j.vl hv
 have HD : Hid (shD 6 = true → isVar g.vs.length i.d = true) := by have := h.d; rw [hop] at this; exact this
 have HA : Hid (shA 6 = true → isVar g.vs.length i.a = true) := by have := h.a; rw [hop] at this; exact this
 have HB : Hid (shB 6 = true → isVar g.vs.length i.b = true) := by have := h.b; rw [hop] at this; exact this
 clear h
 obtain ⟨N,hN⟩ : ∃ N,w.heap.size = N := ⟨_,rfl⟩
 obtain ⟨W1,hW1⟩ : ∃ W1,(w.alloc (.cells (jg m g) 113)).alloc (.cells i.cells 62) = W1 := ⟨_,rfl⟩
 have hb1 : Below N w W1 := by rw [← hW1,← hN]; exact ((Below.refl _ _).alloc (Nat.le_refl _) _).alloc (by simp) _
 have hs1 : W1.heap.size = N + 2 := by rw [← hW1]; simp [hN]
 have hr1 : W1.heap[N]? = some (.cells (jg m g) 113 (0,0)) := by rw [← hW1,← hN]; exact heap_alloc2_old _ _ _
 have hr2 : W1.heap[N + 1]? = some (.cells i.cells 62 (0,0)) := by rw [← hW1,← hN]; exact heap_alloc2_new _ _ _
 have i0 : W1.cell? ⟨N + 1,0,none⟩ = some (.int .i64 6) := by rw [cell_of_row _ _ _ _ _ _ hr2,← hop]; rfl
 have i1 : W1.cell? ⟨N + 1,1,none⟩ = some (.int .i64 i.d) := by rw [cell_of_row _ _ _ _ _ _ hr2]; rfl
 have i2 : W1.cell? ⟨N + 1,2,none⟩ = some (.int .i64 i.a) := by rw [cell_of_row _ _ _ _ _ _ hr2]; rfl
 have i3 : W1.cell? ⟨N + 1,3,none⟩ = some (.int .i64 i.b) := by rw [cell_of_row _ _ _ _ _ _ hr2]; rfl
 have i4 : W1.cell? ⟨N + 1,4,none⟩ = some (.int .i64 i.f) := by rw [cell_of_row _ _ _ _ _ _ hr2]; rfl
 have i6 : W1.cell? ⟨N + 1,6,none⟩ = some (.string i.sign) := by rw [cell_of_row _ _ _ _ _ _ hr2]; rfl
 have HB1 := Lib.hid hb1
 have HR1 := Lib.hid hr1
 have HR2 := Lib.hid hr2
 have HN := Lib.hid hN
 have HS1 := Lib.hid hs1
 have hNlt : N + 1 < W1.heap.size := by omega
 clear hb1 hr1 hr2 hop
 have HW2 : Hid (Below N w (W1.alloc (.cells #[.int .i64 i.a] 3))) := HB1.out.alloc (by omega) _
 have HNC : Hid (Calls Try.prog 124 #[.agg (jg m g),.slice (some ⟨N + 2,0,none⟩) 1 1] (W1.alloc (.cells #[.int .i64 i.a] 3)) fun e w' => e = .returned (.int .i64 R) ∧ Below (W1.alloc (.cells #[.int .i64 i.a] 3)).heap.size (W1.alloc (.cells #[.int .i64 i.a] 3)) w') := by
  have hj := HN0.out.j.below (by rw [HN.out]; exact HW2.out)
  have := numbers_calls5 m g (some ⟨N + 2,0,none⟩) [i.a] 1 (W1.alloc (.cells #[.int .i64 i.a] 3)) hj.vars hj.nv hj.vl (by unfold maxLen; simp) (by rw [← HS1.out]; exact ints1) (by simp; exact HA.out rfl)
  rw [← HE.out] at this
  exact this
 clear HE HD HA HB HT HN0
 go_enter Try.func126,Try.ntmps126
 go_wp2_with (first
  | (refine wpList_load_row rfl 113 _ rfl N rfl 113 (jg m g) (0,0) _ HR1.out Try.underlying113 rfl (by kernel_rfl) ?_)
  | (go_at_call 124; refine HNC.out.mono ?_; rintro e w4 ⟨rfl,hb4⟩; have HB4 := Lib.hid hb4; clear hb4))
 go_ret
 refine ⟨rfl,?_⟩
 rw [HN.out]
 exact HW2.out.trans (HB4.out.mono (by have := HS1.out; simp; omega))
set_option maxRecDepth 100000 in
set_option maxHeartbeats 4000000 in
theorem plain_3 (m : Mo) (g : Fn) (i : Ins) (w : World) (hop : i.op = 3) (h : PlainIn w m g i) :
  Calls Try.prog 126 #[.agg (jg m g),.agg i.cells] w fun e w' => e = .returned (.int .i64 (plainF m g.vs i)) ∧ Below w.heap.size w w' := by
 have HE : Hid (plainF m g.vs i = numsF g.vs [i.d,i.a]) := by
  unfold Hid plainF; rw [hop]; rfl
 obtain ⟨R,hR⟩ : ∃ R,plainF m g.vs i = R := ⟨_,rfl⟩
 rw [hR] at HE ⊢
 clear hR
 have HN0 := Lib.hid h
 have HT : Hid (∀ W v,Below w.heap.size w W → isVar g.vs.length v = true → Calls Try.prog 125 #[.agg (jg m g),.int .i64 v] W fun e w' => e = .returned (tyV (tyAt g.vs v)) ∧ Below W.heap.size W w') := fun W v hW hv => typ_calls m g v W (h.j.below hW).vars h.j.nv h.j.vl hv
 have HD : Hid (shD 3 = true → isVar g.vs.length i.d = true) := by have := h.d; rw [hop] at this; exact this
 have HA : Hid (shA 3 = true → isVar g.vs.length i.a = true) := by have := h.a; rw [hop] at this; exact this
 have HB : Hid (shB 3 = true → isVar g.vs.length i.b = true) := by have := h.b; rw [hop] at this; exact this
 clear h
 obtain ⟨N,hN⟩ : ∃ N,w.heap.size = N := ⟨_,rfl⟩
 obtain ⟨W1,hW1⟩ : ∃ W1,(w.alloc (.cells (jg m g) 113)).alloc (.cells i.cells 62) = W1 := ⟨_,rfl⟩
 have hb1 : Below N w W1 := by rw [← hW1,← hN]; exact ((Below.refl _ _).alloc (Nat.le_refl _) _).alloc (by simp) _
 have hs1 : W1.heap.size = N + 2 := by rw [← hW1]; simp [hN]
 have hr1 : W1.heap[N]? = some (.cells (jg m g) 113 (0,0)) := by rw [← hW1,← hN]; exact heap_alloc2_old _ _ _
 have hr2 : W1.heap[N + 1]? = some (.cells i.cells 62 (0,0)) := by rw [← hW1,← hN]; exact heap_alloc2_new _ _ _
 have i0 : W1.cell? ⟨N + 1,0,none⟩ = some (.int .i64 3) := by rw [cell_of_row _ _ _ _ _ _ hr2,← hop]; rfl
 have i1 : W1.cell? ⟨N + 1,1,none⟩ = some (.int .i64 i.d) := by rw [cell_of_row _ _ _ _ _ _ hr2]; rfl
 have i2 : W1.cell? ⟨N + 1,2,none⟩ = some (.int .i64 i.a) := by rw [cell_of_row _ _ _ _ _ _ hr2]; rfl
 have i3 : W1.cell? ⟨N + 1,3,none⟩ = some (.int .i64 i.b) := by rw [cell_of_row _ _ _ _ _ _ hr2]; rfl
 have i4 : W1.cell? ⟨N + 1,4,none⟩ = some (.int .i64 i.f) := by rw [cell_of_row _ _ _ _ _ _ hr2]; rfl
 have i6 : W1.cell? ⟨N + 1,6,none⟩ = some (.string i.sign) := by rw [cell_of_row _ _ _ _ _ _ hr2]; rfl
 have HB1 := Lib.hid hb1
 have HR1 := Lib.hid hr1
 have HR2 := Lib.hid hr2
 have HN := Lib.hid hN
 have HS1 := Lib.hid hs1
 have hNlt : N + 1 < W1.heap.size := by omega
 clear hb1 hr1 hr2 hop
 have HW2 : Hid (Below N w (W1.alloc (.cells #[.int .i64 i.d,.int .i64 i.a] 3))) := HB1.out.alloc (by omega) _
 have HNC : Hid (Calls Try.prog 124 #[.agg (jg m g),.slice (some ⟨N + 2,0,none⟩) 2 2] (W1.alloc (.cells #[.int .i64 i.d,.int .i64 i.a] 3)) fun e w' => e = .returned (.int .i64 R) ∧ Below (W1.alloc (.cells #[.int .i64 i.d,.int .i64 i.a] 3)).heap.size (W1.alloc (.cells #[.int .i64 i.d,.int .i64 i.a] 3)) w') := by
  have hj := HN0.out.j.below (by rw [HN.out]; exact HW2.out)
  have := numbers_calls5 m g (some ⟨N + 2,0,none⟩) [i.d,i.a] 2 (W1.alloc (.cells #[.int .i64 i.d,.int .i64 i.a] 3)) hj.vars hj.nv hj.vl (by unfold maxLen; simp) (by rw [← HS1.out]; exact ints2) (by simp; exact ⟨HD.out rfl,HA.out rfl⟩)
  rw [← HE.out] at this
  exact this
 clear HE HD HA HB HT HN0
 go_enter Try.func126,Try.ntmps126
 go_wp2_with (first
  | (refine wpList_load_row rfl 113 _ rfl N rfl 113 (jg m g) (0,0) _ HR1.out Try.underlying113 rfl (by kernel_rfl) ?_)
  | (go_at_call 124; refine HNC.out.mono ?_; rintro e w4 ⟨rfl,hb4⟩; have HB4 := Lib.hid hb4; clear hb4))
 go_ret
 refine ⟨rfl,?_⟩
 rw [HN.out]
 exact HW2.out.trans (HB4.out.mono (by have := HS1.out; simp; omega))
set_option maxRecDepth 100000 in
set_option maxHeartbeats 4000000 in
theorem plain_2 (m : Mo) (g : Fn) (i : Ins) (w : World) (hop : i.op = 2) (h : PlainIn w m g i) :
  Calls Try.prog 126 #[.agg (jg m g),.agg i.cells] w fun e w' => e = .returned (.int .i64 (plainF m g.vs i)) ∧ Below w.heap.size w w' := by
 have HE : Hid (plainF m g.vs i = unl (tyAt g.vs i.d).1 7) := by
  unfold Hid plainF; rw [hop]; rfl
 obtain ⟨R,hR⟩ : ∃ R,plainF m g.vs i = R := ⟨_,rfl⟩
 rw [hR] at HE ⊢
 clear hR
 have HN0 := Lib.hid h
 have HT : Hid (∀ W v,Below w.heap.size w W → isVar g.vs.length v = true → Calls Try.prog 125 #[.agg (jg m g),.int .i64 v] W fun e w' => e = .returned (tyV (tyAt g.vs v)) ∧ Below W.heap.size W w') := fun W v hW hv => typ_calls m g v W (h.j.below hW).vars h.j.nv h.j.vl hv
 have HD : Hid (shD 2 = true → isVar g.vs.length i.d = true) := by have := h.d; rw [hop] at this; exact this
 have HA : Hid (shA 2 = true → isVar g.vs.length i.a = true) := by have := h.a; rw [hop] at this; exact this
 have HB : Hid (shB 2 = true → isVar g.vs.length i.b = true) := by have := h.b; rw [hop] at this; exact this
 clear h
 obtain ⟨N,hN⟩ : ∃ N,w.heap.size = N := ⟨_,rfl⟩
 obtain ⟨W1,hW1⟩ : ∃ W1,(w.alloc (.cells (jg m g) 113)).alloc (.cells i.cells 62) = W1 := ⟨_,rfl⟩
 have hb1 : Below N w W1 := by rw [← hW1,← hN]; exact ((Below.refl _ _).alloc (Nat.le_refl _) _).alloc (by simp) _
 have hs1 : W1.heap.size = N + 2 := by rw [← hW1]; simp [hN]
 have hr1 : W1.heap[N]? = some (.cells (jg m g) 113 (0,0)) := by rw [← hW1,← hN]; exact heap_alloc2_old _ _ _
 have hr2 : W1.heap[N + 1]? = some (.cells i.cells 62 (0,0)) := by rw [← hW1,← hN]; exact heap_alloc2_new _ _ _
 have i0 : W1.cell? ⟨N + 1,0,none⟩ = some (.int .i64 2) := by rw [cell_of_row _ _ _ _ _ _ hr2,← hop]; rfl
 have i1 : W1.cell? ⟨N + 1,1,none⟩ = some (.int .i64 i.d) := by rw [cell_of_row _ _ _ _ _ _ hr2]; rfl
 have i2 : W1.cell? ⟨N + 1,2,none⟩ = some (.int .i64 i.a) := by rw [cell_of_row _ _ _ _ _ _ hr2]; rfl
 have i3 : W1.cell? ⟨N + 1,3,none⟩ = some (.int .i64 i.b) := by rw [cell_of_row _ _ _ _ _ _ hr2]; rfl
 have i4 : W1.cell? ⟨N + 1,4,none⟩ = some (.int .i64 i.f) := by rw [cell_of_row _ _ _ _ _ _ hr2]; rfl
 have i6 : W1.cell? ⟨N + 1,6,none⟩ = some (.string i.sign) := by rw [cell_of_row _ _ _ _ _ _ hr2]; rfl
 have HB1 := Lib.hid hb1
 have HR1 := Lib.hid hr1
 have HR2 := Lib.hid hr2
 have HN := Lib.hid hN
 have HS1 := Lib.hid hs1
 have hNlt : N + 1 < W1.heap.size := by omega
 clear hb1 hr1 hr2 hop
 have HTC : Hid (Calls Try.prog 125 #[.agg (jg m g),.int .i64 i.d] W1 fun e w' => e = .returned (.agg #[.bool (tyAt g.vs i.d).1,.string (tyAt g.vs i.d).2]) ∧ Below W1.heap.size W1 w') := HT.out W1 i.d (by rw [HN.out]; exact HB1.out) (HD.out rfl)
 have hfld := field_typ
 clear HD HA HB HT HN0
 go_enter Try.func126,Try.ntmps126
 go_wp2_with (first
  | (refine wpList_load_row rfl 113 _ rfl N rfl 113 (jg m g) (0,0) _ HR1.out Try.underlying113 rfl (by kernel_rfl) ?_)
  | (go_at_call 125; refine HTC.out.mono ?_; rintro e w4 ⟨rfl,hb4⟩; have HB4 := Lib.hid hb4; clear hb4)
  | (go_at_call 81; refine (unless_calls _ _ _).mono ?_; rintro e w9 ⟨rfl,rfl⟩))
 go_ret
 rw [HE.out,HN.out]
 exact ⟨rfl,HB1.out.trans (HB4.out.mono (by omega))⟩
set_option maxRecDepth 100000 in
set_option maxHeartbeats 4000000 in
theorem plain_13 (m : Mo) (g : Fn) (i : Ins) (w : World) (hop : i.op = 13) (h : PlainIn w m g i) :
  Calls Try.prog 126 #[.agg (jg m g),.agg i.cells] w fun e w' => e = .returned (.int .i64 (plainF m g.vs i)) ∧ Below w.heap.size w w' := by
 have HE : Hid (plainF m g.vs i = unl (tyAt g.vs i.a).1 7) := by
  unfold Hid plainF; rw [hop]; rfl
 obtain ⟨R,hR⟩ : ∃ R,plainF m g.vs i = R := ⟨_,rfl⟩
 rw [hR] at HE ⊢
 clear hR
 have HN0 := Lib.hid h
 have HT : Hid (∀ W v,Below w.heap.size w W → isVar g.vs.length v = true → Calls Try.prog 125 #[.agg (jg m g),.int .i64 v] W fun e w' => e = .returned (tyV (tyAt g.vs v)) ∧ Below W.heap.size W w') := fun W v hW hv => typ_calls m g v W (h.j.below hW).vars h.j.nv h.j.vl hv
 have HD : Hid (shD 13 = true → isVar g.vs.length i.d = true) := by have := h.d; rw [hop] at this; exact this
 have HA : Hid (shA 13 = true → isVar g.vs.length i.a = true) := by have := h.a; rw [hop] at this; exact this
 have HB : Hid (shB 13 = true → isVar g.vs.length i.b = true) := by have := h.b; rw [hop] at this; exact this
 clear h
 obtain ⟨N,hN⟩ : ∃ N,w.heap.size = N := ⟨_,rfl⟩
 obtain ⟨W1,hW1⟩ : ∃ W1,(w.alloc (.cells (jg m g) 113)).alloc (.cells i.cells 62) = W1 := ⟨_,rfl⟩
 have hb1 : Below N w W1 := by rw [← hW1,← hN]; exact ((Below.refl _ _).alloc (Nat.le_refl _) _).alloc (by simp) _
 have hs1 : W1.heap.size = N + 2 := by rw [← hW1]; simp [hN]
 have hr1 : W1.heap[N]? = some (.cells (jg m g) 113 (0,0)) := by rw [← hW1,← hN]; exact heap_alloc2_old _ _ _
 have hr2 : W1.heap[N + 1]? = some (.cells i.cells 62 (0,0)) := by rw [← hW1,← hN]; exact heap_alloc2_new _ _ _
 have i0 : W1.cell? ⟨N + 1,0,none⟩ = some (.int .i64 13) := by rw [cell_of_row _ _ _ _ _ _ hr2,← hop]; rfl
 have i1 : W1.cell? ⟨N + 1,1,none⟩ = some (.int .i64 i.d) := by rw [cell_of_row _ _ _ _ _ _ hr2]; rfl
 have i2 : W1.cell? ⟨N + 1,2,none⟩ = some (.int .i64 i.a) := by rw [cell_of_row _ _ _ _ _ _ hr2]; rfl
 have i3 : W1.cell? ⟨N + 1,3,none⟩ = some (.int .i64 i.b) := by rw [cell_of_row _ _ _ _ _ _ hr2]; rfl
 have i4 : W1.cell? ⟨N + 1,4,none⟩ = some (.int .i64 i.f) := by rw [cell_of_row _ _ _ _ _ _ hr2]; rfl
 have i6 : W1.cell? ⟨N + 1,6,none⟩ = some (.string i.sign) := by rw [cell_of_row _ _ _ _ _ _ hr2]; rfl
 have HB1 := Lib.hid hb1
 have HR1 := Lib.hid hr1
 have HR2 := Lib.hid hr2
 have HN := Lib.hid hN
 have HS1 := Lib.hid hs1
 have hNlt : N + 1 < W1.heap.size := by omega
 clear hb1 hr1 hr2 hop
 have HTC : Hid (Calls Try.prog 125 #[.agg (jg m g),.int .i64 i.a] W1 fun e w' => e = .returned (.agg #[.bool (tyAt g.vs i.a).1,.string (tyAt g.vs i.a).2]) ∧ Below W1.heap.size W1 w') := HT.out W1 i.a (by rw [HN.out]; exact HB1.out) (HA.out rfl)
 have hfld := field_typ
 clear HD HA HB HT HN0
 go_enter Try.func126,Try.ntmps126
 go_wp2_with (first
  | (refine wpList_load_row rfl 113 _ rfl N rfl 113 (jg m g) (0,0) _ HR1.out Try.underlying113 rfl (by kernel_rfl) ?_)
  | (go_at_call 125; refine HTC.out.mono ?_; rintro e w4 ⟨rfl,hb4⟩; have HB4 := Lib.hid hb4; clear hb4)
  | (go_at_call 81; refine (unless_calls _ _ _).mono ?_; rintro e w9 ⟨rfl,rfl⟩))
 go_ret
 rw [HE.out,HN.out]
 exact ⟨rfl,HB1.out.trans (HB4.out.mono (by omega))⟩
set_option maxRecDepth 100000 in
set_option maxHeartbeats 4000000 in
theorem plain_7 (m : Mo) (g : Fn) (i : Ins) (w : World) (hop : i.op = 7) (h : PlainIn w m g i) :
  Calls Try.prog 126 #[.agg (jg m g),.agg i.cells] w fun e w' => e = .returned (.int .i64 (plainF m g.vs i)) ∧ Below w.heap.size w w' := by
 have HE : Hid (plainF m g.vs i = heapF m g.vs i i.d false) := by
  unfold Hid plainF; rw [hop]; rfl
 obtain ⟨R,hR⟩ : ∃ R,plainF m g.vs i = R := ⟨_,rfl⟩
 rw [hR] at HE ⊢
 clear hR
 have HN0 := Lib.hid h
 have HT : Hid (∀ W v,Below w.heap.size w W → isVar g.vs.length v = true → Calls Try.prog 125 #[.agg (jg m g),.int .i64 v] W fun e w' => e = .returned (tyV (tyAt g.vs v)) ∧ Below W.heap.size W w') := fun W v hW hv => typ_calls m g v W (h.j.below hW).vars h.j.nv h.j.vl hv
 have HD : Hid (shD 7 = true → isVar g.vs.length i.d = true) := by have := h.d; rw [hop] at this; exact this
 have HA : Hid (shA 7 = true → isVar g.vs.length i.a = true) := by have := h.a; rw [hop] at this; exact this
 have HB : Hid (shB 7 = true → isVar g.vs.length i.b = true) := by have := h.b; rw [hop] at this; exact this
 clear h
 obtain ⟨N,hN⟩ : ∃ N,w.heap.size = N := ⟨_,rfl⟩
 obtain ⟨W1,hW1⟩ : ∃ W1,(w.alloc (.cells (jg m g) 113)).alloc (.cells i.cells 62) = W1 := ⟨_,rfl⟩
 have hb1 : Below N w W1 := by rw [← hW1,← hN]; exact ((Below.refl _ _).alloc (Nat.le_refl _) _).alloc (by simp) _
 have hs1 : W1.heap.size = N + 2 := by rw [← hW1]; simp [hN]
 have hr1 : W1.heap[N]? = some (.cells (jg m g) 113 (0,0)) := by rw [← hW1,← hN]; exact heap_alloc2_old _ _ _
 have hr2 : W1.heap[N + 1]? = some (.cells i.cells 62 (0,0)) := by rw [← hW1,← hN]; exact heap_alloc2_new _ _ _
 have i0 : W1.cell? ⟨N + 1,0,none⟩ = some (.int .i64 7) := by rw [cell_of_row _ _ _ _ _ _ hr2,← hop]; rfl
 have i1 : W1.cell? ⟨N + 1,1,none⟩ = some (.int .i64 i.d) := by rw [cell_of_row _ _ _ _ _ _ hr2]; rfl
 have i2 : W1.cell? ⟨N + 1,2,none⟩ = some (.int .i64 i.a) := by rw [cell_of_row _ _ _ _ _ _ hr2]; rfl
 have i3 : W1.cell? ⟨N + 1,3,none⟩ = some (.int .i64 i.b) := by rw [cell_of_row _ _ _ _ _ _ hr2]; rfl
 have i4 : W1.cell? ⟨N + 1,4,none⟩ = some (.int .i64 i.f) := by rw [cell_of_row _ _ _ _ _ _ hr2]; rfl
 have i6 : W1.cell? ⟨N + 1,6,none⟩ = some (.string i.sign) := by rw [cell_of_row _ _ _ _ _ _ hr2]; rfl
 have HB1 := Lib.hid hb1
 have HR1 := Lib.hid hr1
 have HR2 := Lib.hid hr2
 have HN := Lib.hid hN
 have HS1 := Lib.hid hs1
 have hNlt : N + 1 < W1.heap.size := by omega
 clear hb1 hr1 hr2 hop
 have HHC : Hid (Calls Try.prog 137 #[.agg (jg m g),.agg i.cells,.int .i64 i.d,.bool false] W1 fun e w' => e = .returned (.int .i64 (heapF m g.vs i i.d false)) ∧ Below W1.heap.size W1 w') :=
  heap_calls m g i i.d false W1 (HN0.out.j.below (by rw [HN.out]; exact HB1.out)) (HA.out rfl) (HD.out rfl) (HN0.out.kn _ (HA.out rfl))
 clear HD HA HB HT HN0
 go_enter Try.func126,Try.ntmps126
 go_wp2_with (first
  | (refine wpList_load_row rfl 113 _ rfl N rfl 113 (jg m g) (0,0) _ HR1.out Try.underlying113 rfl (by kernel_rfl) ?_)
  | (refine wpList_load_row rfl 62 _ rfl (N + 1) rfl 62 i.cells (0,0) _ HR2.out Try.underlying62 rfl (by kernel_rfl) ?_)
  | (go_at_call 137; refine HHC.out.mono ?_; rintro e w4 ⟨rfl,hb4⟩; have HB4 := Lib.hid hb4; clear hb4))
 go_ret
 rw [HE.out,HN.out]
 exact ⟨rfl,HB1.out.trans (HB4.out.mono (by omega))⟩
set_option maxRecDepth 100000 in
set_option maxHeartbeats 4000000 in
theorem plain_10 (m : Mo) (g : Fn) (i : Ins) (w : World) (hop : i.op = 10) (h : PlainIn w m g i) :
  Calls Try.prog 126 #[.agg (jg m g),.agg i.cells] w fun e w' => e = .returned (.int .i64 (plainF m g.vs i)) ∧ Below w.heap.size w w' := by
 have HE : Hid (plainF m g.vs i = heapF m g.vs i i.d true) := by
  unfold Hid plainF; rw [hop]; rfl
 obtain ⟨R,hR⟩ : ∃ R,plainF m g.vs i = R := ⟨_,rfl⟩
 rw [hR] at HE ⊢
 clear hR
 have HN0 := Lib.hid h
 have HT : Hid (∀ W v,Below w.heap.size w W → isVar g.vs.length v = true → Calls Try.prog 125 #[.agg (jg m g),.int .i64 v] W fun e w' => e = .returned (tyV (tyAt g.vs v)) ∧ Below W.heap.size W w') := fun W v hW hv => typ_calls m g v W (h.j.below hW).vars h.j.nv h.j.vl hv
 have HD : Hid (shD 10 = true → isVar g.vs.length i.d = true) := by have := h.d; rw [hop] at this; exact this
 have HA : Hid (shA 10 = true → isVar g.vs.length i.a = true) := by have := h.a; rw [hop] at this; exact this
 have HB : Hid (shB 10 = true → isVar g.vs.length i.b = true) := by have := h.b; rw [hop] at this; exact this
 clear h
 obtain ⟨N,hN⟩ : ∃ N,w.heap.size = N := ⟨_,rfl⟩
 obtain ⟨W1,hW1⟩ : ∃ W1,(w.alloc (.cells (jg m g) 113)).alloc (.cells i.cells 62) = W1 := ⟨_,rfl⟩
 have hb1 : Below N w W1 := by rw [← hW1,← hN]; exact ((Below.refl _ _).alloc (Nat.le_refl _) _).alloc (by simp) _
 have hs1 : W1.heap.size = N + 2 := by rw [← hW1]; simp [hN]
 have hr1 : W1.heap[N]? = some (.cells (jg m g) 113 (0,0)) := by rw [← hW1,← hN]; exact heap_alloc2_old _ _ _
 have hr2 : W1.heap[N + 1]? = some (.cells i.cells 62 (0,0)) := by rw [← hW1,← hN]; exact heap_alloc2_new _ _ _
 have i0 : W1.cell? ⟨N + 1,0,none⟩ = some (.int .i64 10) := by rw [cell_of_row _ _ _ _ _ _ hr2,← hop]; rfl
 have i1 : W1.cell? ⟨N + 1,1,none⟩ = some (.int .i64 i.d) := by rw [cell_of_row _ _ _ _ _ _ hr2]; rfl
 have i2 : W1.cell? ⟨N + 1,2,none⟩ = some (.int .i64 i.a) := by rw [cell_of_row _ _ _ _ _ _ hr2]; rfl
 have i3 : W1.cell? ⟨N + 1,3,none⟩ = some (.int .i64 i.b) := by rw [cell_of_row _ _ _ _ _ _ hr2]; rfl
 have i4 : W1.cell? ⟨N + 1,4,none⟩ = some (.int .i64 i.f) := by rw [cell_of_row _ _ _ _ _ _ hr2]; rfl
 have i6 : W1.cell? ⟨N + 1,6,none⟩ = some (.string i.sign) := by rw [cell_of_row _ _ _ _ _ _ hr2]; rfl
 have HB1 := Lib.hid hb1
 have HR1 := Lib.hid hr1
 have HR2 := Lib.hid hr2
 have HN := Lib.hid hN
 have HS1 := Lib.hid hs1
 have hNlt : N + 1 < W1.heap.size := by omega
 clear hb1 hr1 hr2 hop
 have HHC : Hid (Calls Try.prog 137 #[.agg (jg m g),.agg i.cells,.int .i64 i.d,.bool true] W1 fun e w' => e = .returned (.int .i64 (heapF m g.vs i i.d true)) ∧ Below W1.heap.size W1 w') :=
  heap_calls m g i i.d true W1 (HN0.out.j.below (by rw [HN.out]; exact HB1.out)) (HA.out rfl) (HD.out rfl) (HN0.out.kn _ (HA.out rfl))
 clear HD HA HB HT HN0
 go_enter Try.func126,Try.ntmps126
 go_wp2_with (first
  | (refine wpList_load_row rfl 113 _ rfl N rfl 113 (jg m g) (0,0) _ HR1.out Try.underlying113 rfl (by kernel_rfl) ?_)
  | (refine wpList_load_row rfl 62 _ rfl (N + 1) rfl 62 i.cells (0,0) _ HR2.out Try.underlying62 rfl (by kernel_rfl) ?_)
  | (go_at_call 137; refine HHC.out.mono ?_; rintro e w4 ⟨rfl,hb4⟩; have HB4 := Lib.hid hb4; clear hb4))
 go_ret
 rw [HE.out,HN.out]
 exact ⟨rfl,HB1.out.trans (HB4.out.mono (by omega))⟩
set_option maxRecDepth 100000 in
set_option maxHeartbeats 4000000 in
theorem plain_8 (m : Mo) (g : Fn) (i : Ins) (w : World) (hop : i.op = 8) (h : PlainIn w m g i) :
  Calls Try.prog 126 #[.agg (jg m g),.agg i.cells] w fun e w' => e = .returned (.int .i64 (plainF m g.vs i)) ∧ Below w.heap.size w w' := by
 have HE : Hid (plainF m g.vs i = heapF m g.vs i i.b false) := by
  unfold Hid plainF; rw [hop]; rfl
 obtain ⟨R,hR⟩ : ∃ R,plainF m g.vs i = R := ⟨_,rfl⟩
 rw [hR] at HE ⊢
 clear hR
 have HN0 := Lib.hid h
 have HT : Hid (∀ W v,Below w.heap.size w W → isVar g.vs.length v = true → Calls Try.prog 125 #[.agg (jg m g),.int .i64 v] W fun e w' => e = .returned (tyV (tyAt g.vs v)) ∧ Below W.heap.size W w') := fun W v hW hv => typ_calls m g v W (h.j.below hW).vars h.j.nv h.j.vl hv
 have HD : Hid (shD 8 = true → isVar g.vs.length i.d = true) := by have := h.d; rw [hop] at this; exact this
 have HA : Hid (shA 8 = true → isVar g.vs.length i.a = true) := by have := h.a; rw [hop] at this; exact this
 have HB : Hid (shB 8 = true → isVar g.vs.length i.b = true) := by have := h.b; rw [hop] at this; exact this
 clear h
 obtain ⟨N,hN⟩ : ∃ N,w.heap.size = N := ⟨_,rfl⟩
 obtain ⟨W1,hW1⟩ : ∃ W1,(w.alloc (.cells (jg m g) 113)).alloc (.cells i.cells 62) = W1 := ⟨_,rfl⟩
 have hb1 : Below N w W1 := by rw [← hW1,← hN]; exact ((Below.refl _ _).alloc (Nat.le_refl _) _).alloc (by simp) _
 have hs1 : W1.heap.size = N + 2 := by rw [← hW1]; simp [hN]
 have hr1 : W1.heap[N]? = some (.cells (jg m g) 113 (0,0)) := by rw [← hW1,← hN]; exact heap_alloc2_old _ _ _
 have hr2 : W1.heap[N + 1]? = some (.cells i.cells 62 (0,0)) := by rw [← hW1,← hN]; exact heap_alloc2_new _ _ _
 have i0 : W1.cell? ⟨N + 1,0,none⟩ = some (.int .i64 8) := by rw [cell_of_row _ _ _ _ _ _ hr2,← hop]; rfl
 have i1 : W1.cell? ⟨N + 1,1,none⟩ = some (.int .i64 i.d) := by rw [cell_of_row _ _ _ _ _ _ hr2]; rfl
 have i2 : W1.cell? ⟨N + 1,2,none⟩ = some (.int .i64 i.a) := by rw [cell_of_row _ _ _ _ _ _ hr2]; rfl
 have i3 : W1.cell? ⟨N + 1,3,none⟩ = some (.int .i64 i.b) := by rw [cell_of_row _ _ _ _ _ _ hr2]; rfl
 have i4 : W1.cell? ⟨N + 1,4,none⟩ = some (.int .i64 i.f) := by rw [cell_of_row _ _ _ _ _ _ hr2]; rfl
 have i6 : W1.cell? ⟨N + 1,6,none⟩ = some (.string i.sign) := by rw [cell_of_row _ _ _ _ _ _ hr2]; rfl
 have HB1 := Lib.hid hb1
 have HR1 := Lib.hid hr1
 have HR2 := Lib.hid hr2
 have HN := Lib.hid hN
 have HS1 := Lib.hid hs1
 have hNlt : N + 1 < W1.heap.size := by omega
 clear hb1 hr1 hr2 hop
 have HHC : Hid (Calls Try.prog 137 #[.agg (jg m g),.agg i.cells,.int .i64 i.b,.bool false] W1 fun e w' => e = .returned (.int .i64 (heapF m g.vs i i.b false)) ∧ Below W1.heap.size W1 w') :=
  heap_calls m g i i.b false W1 (HN0.out.j.below (by rw [HN.out]; exact HB1.out)) (HA.out rfl) (HB.out rfl) (HN0.out.kn _ (HA.out rfl))
 clear HD HA HB HT HN0
 go_enter Try.func126,Try.ntmps126
 go_wp2_with (first
  | (refine wpList_load_row rfl 113 _ rfl N rfl 113 (jg m g) (0,0) _ HR1.out Try.underlying113 rfl (by kernel_rfl) ?_)
  | (refine wpList_load_row rfl 62 _ rfl (N + 1) rfl 62 i.cells (0,0) _ HR2.out Try.underlying62 rfl (by kernel_rfl) ?_)
  | (go_at_call 137; refine HHC.out.mono ?_; rintro e w4 ⟨rfl,hb4⟩; have HB4 := Lib.hid hb4; clear hb4))
 go_ret
 rw [HE.out,HN.out]
 exact ⟨rfl,HB1.out.trans (HB4.out.mono (by omega))⟩
set_option maxRecDepth 100000 in
set_option maxHeartbeats 4000000 in
theorem plain_11 (m : Mo) (g : Fn) (i : Ins) (w : World) (hop : i.op = 11) (h : PlainIn w m g i) :
  Calls Try.prog 126 #[.agg (jg m g),.agg i.cells] w fun e w' => e = .returned (.int .i64 (plainF m g.vs i)) ∧ Below w.heap.size w w' := by
 have HE : Hid (plainF m g.vs i = heapF m g.vs i i.b true) := by
  unfold Hid plainF; rw [hop]; rfl
 obtain ⟨R,hR⟩ : ∃ R,plainF m g.vs i = R := ⟨_,rfl⟩
 rw [hR] at HE ⊢
 clear hR
 have HN0 := Lib.hid h
 have HT : Hid (∀ W v,Below w.heap.size w W → isVar g.vs.length v = true → Calls Try.prog 125 #[.agg (jg m g),.int .i64 v] W fun e w' => e = .returned (tyV (tyAt g.vs v)) ∧ Below W.heap.size W w') := fun W v hW hv => typ_calls m g v W (h.j.below hW).vars h.j.nv h.j.vl hv
 have HD : Hid (shD 11 = true → isVar g.vs.length i.d = true) := by have := h.d; rw [hop] at this; exact this
 have HA : Hid (shA 11 = true → isVar g.vs.length i.a = true) := by have := h.a; rw [hop] at this; exact this
 have HB : Hid (shB 11 = true → isVar g.vs.length i.b = true) := by have := h.b; rw [hop] at this; exact this
 clear h
 obtain ⟨N,hN⟩ : ∃ N,w.heap.size = N := ⟨_,rfl⟩
 obtain ⟨W1,hW1⟩ : ∃ W1,(w.alloc (.cells (jg m g) 113)).alloc (.cells i.cells 62) = W1 := ⟨_,rfl⟩
 have hb1 : Below N w W1 := by rw [← hW1,← hN]; exact ((Below.refl _ _).alloc (Nat.le_refl _) _).alloc (by simp) _
 have hs1 : W1.heap.size = N + 2 := by rw [← hW1]; simp [hN]
 have hr1 : W1.heap[N]? = some (.cells (jg m g) 113 (0,0)) := by rw [← hW1,← hN]; exact heap_alloc2_old _ _ _
 have hr2 : W1.heap[N + 1]? = some (.cells i.cells 62 (0,0)) := by rw [← hW1,← hN]; exact heap_alloc2_new _ _ _
 have i0 : W1.cell? ⟨N + 1,0,none⟩ = some (.int .i64 11) := by rw [cell_of_row _ _ _ _ _ _ hr2,← hop]; rfl
 have i1 : W1.cell? ⟨N + 1,1,none⟩ = some (.int .i64 i.d) := by rw [cell_of_row _ _ _ _ _ _ hr2]; rfl
 have i2 : W1.cell? ⟨N + 1,2,none⟩ = some (.int .i64 i.a) := by rw [cell_of_row _ _ _ _ _ _ hr2]; rfl
 have i3 : W1.cell? ⟨N + 1,3,none⟩ = some (.int .i64 i.b) := by rw [cell_of_row _ _ _ _ _ _ hr2]; rfl
 have i4 : W1.cell? ⟨N + 1,4,none⟩ = some (.int .i64 i.f) := by rw [cell_of_row _ _ _ _ _ _ hr2]; rfl
 have i6 : W1.cell? ⟨N + 1,6,none⟩ = some (.string i.sign) := by rw [cell_of_row _ _ _ _ _ _ hr2]; rfl
 have HB1 := Lib.hid hb1
 have HR1 := Lib.hid hr1
 have HR2 := Lib.hid hr2
 have HN := Lib.hid hN
 have HS1 := Lib.hid hs1
 have hNlt : N + 1 < W1.heap.size := by omega
 clear hb1 hr1 hr2 hop
 have HHC : Hid (Calls Try.prog 137 #[.agg (jg m g),.agg i.cells,.int .i64 i.b,.bool true] W1 fun e w' => e = .returned (.int .i64 (heapF m g.vs i i.b true)) ∧ Below W1.heap.size W1 w') :=
  heap_calls m g i i.b true W1 (HN0.out.j.below (by rw [HN.out]; exact HB1.out)) (HA.out rfl) (HB.out rfl) (HN0.out.kn _ (HA.out rfl))
 clear HD HA HB HT HN0
 go_enter Try.func126,Try.ntmps126
 go_wp2_with (first
  | (refine wpList_load_row rfl 113 _ rfl N rfl 113 (jg m g) (0,0) _ HR1.out Try.underlying113 rfl (by kernel_rfl) ?_)
  | (refine wpList_load_row rfl 62 _ rfl (N + 1) rfl 62 i.cells (0,0) _ HR2.out Try.underlying62 rfl (by kernel_rfl) ?_)
  | (go_at_call 137; refine HHC.out.mono ?_; rintro e w4 ⟨rfl,hb4⟩; have HB4 := Lib.hid hb4; clear hb4))
 go_ret
 rw [HE.out,HN.out]
 exact ⟨rfl,HB1.out.trans (HB4.out.mono (by omega))⟩
end Go.Proofs.Ytlggjbopfnndbaa
