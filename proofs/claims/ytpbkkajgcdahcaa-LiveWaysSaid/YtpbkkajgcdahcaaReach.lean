/- Which instructions are reached. -/
import Derived.Test.YtpbkkajgcdahcaaFrom
namespace Go.Proofs.Ytpbkkajgcdahcaa
open Go.RowKit

/-- M: what a walk from at_ meets. -/
def FromL (ins : List Ins) (at_ : Int) (M : List Nat) : Prop :=
  (inR ins.length at_ = true → ∃ (k a : Nat) (L : List Nat), at_ = (a : Int) ∧ wlk (nextN ins) k [(a, nextN ins a)] [a] [] = some (M, L)) ∧ (inR ins.length at_ = false → M = [])

/-- Behind From. -/
def FromD (c : Cod) (at_ : Int) (w : World) (e : Ending) (w' : World) : Prop :=
  e = .returned (.func (.func 60) #[] #[.pointer (some ⟨w.heap.size + 1, 0, none⟩), .pointer (some ⟨w.heap.size, 0, none⟩)]) ∧ w' = (w.alloc (.cells c.cells 30)).alloc (.cells #[.int .i64 at_] 3)

theorem from_calls (c : Cod) (at_ : Int) (w : World) : Calls Try.prog 26 #[.agg c.cells, .int .i64 at_] w (FromD c at_ w) := by
  obtain ⟨nm, par, varsA, nvars, varsC, rp, rto, rcl, fromA, nfrom, fromC, insA, insC, ins⟩ := c
  simp only [Cod.cells]
  go_enter Try.func26, Try.ntmps26
  go_wp2
  go_ret
  exact ⟨rfl, rfl⟩

theorem from_iter (c : Cod) (at_ : Int) (w : World) (M : List Nat) (hins : InsRow w w.heap.size c.insA c.ins) (hn : c.ins.length ≤ 90000) (hM : FromL c.ins at_ M) (hMl : M.length ≤ 90000) :
    Iter Try.prog 60 #[.pointer (some ⟨w.heap.size + 1, 0, none⟩), .pointer (some ⟨w.heap.size, 0, none⟩)] (fun x : Nat => #[.int .i64 (x : Int)]) M (fromRd c w.heap.size) ((w.alloc (.cells c.cells 30)).alloc (.cells #[.int .i64 at_] 3)) := by
  have hx : Ext (fun _ => False) w ((w.alloc (.cells c.cells 30)).alloc (.cells #[.int .i64 at_] 3)) := ((Ext.refl _ w).alloc _).alloc _
  refine from1_iter c at_ w.heap.size _ M ((hins.ext hx (Nat.le_refl _) (fun _ _ _ h => h)).mono hx.size) hn ?_ ?_ hM hMl
  · rw [Below.heap_alloc _ _ _ (by simp)]; exact alloc_at _ _
  · have := alloc_at (w.alloc (.cells c.cells 30)) (.cells #[.int .i64 at_] 3)
    rwa [World.size_alloc] at this

/-- An operation that yields none, inside a fence. -/
theorem wpListIn_skip {P : Program} {n : Nat} {ops : Array Oper} {rest : List Oper} {o : Oper} {a : Act} {w w' : World} {Q : Exit → Act → World → Prop} {r : Option Nat} (hgd : o.guard = none) (hd : ∀ c, o.op ≠ .defer c)
    (hrun : (execOp a.eval o).run P w = .ok .skip w') (h : wpListIn { Fence.wide with round := r } n P ops Q rest (a.put o.dst undef) w') : wpListIn { Fence.wide with round := r } n P ops Q (o :: rest) a w :=
  wpListIn_plain hgd fun _ hK => by
    refine ⟨fun _ _ => trivial, ?_⟩
    rw [Oper.semAt_eq _ _ _ hd, hrun]
    exact hK _ _ h

theorem wlk_lt {ins : List Ins} {M L : List Nat} : ∀ (k : Nat) (st : List (Nat × List Nat)) (m l : List Nat), wlk (nextN ins) k st m l = some (M, L) → (∀ x ∈ m, x < ins.length) → (∀ e ∈ st, ∀ y ∈ e.2, y < ins.length) → ∀ x ∈ M, x < ins.length
  | 0, _, _, _, h, _, _ => by simp [wlk] at h
  | _ + 1, [], m, l, h, hm, _ => by simp [wlk] at h; obtain ⟨rfl, rfl⟩ := h; exact hm
  | k + 1, (a, []) :: st, m, l, h, hm, hs => wlk_lt k st m (l ++ [a]) (by simpa [wlk] using h) hm (fun e he => hs e (List.mem_cons_of_mem _ he))
  | k + 1, (a, b :: r) :: st, m, l, h, hm, hs => by
    have hr : ∀ y ∈ r, y < ins.length := fun y hy => hs (a, b :: r) (by simp) y (List.mem_cons_of_mem _ hy)
    have hst : ∀ e ∈ st, ∀ y ∈ e.2, y < ins.length := fun e he => hs e (List.mem_cons_of_mem _ he)
    simp only [wlk] at h
    split at h
    · refine wlk_lt k _ m l h hm (fun e he => ?_)
      rcases List.mem_cons.1 he with rfl | he
      · exact hr
      · exact hst e he
    · refine wlk_lt k _ (m ++ [b]) l h (fun x hx => ?_) (fun e he => ?_)
      · rcases List.mem_append.1 hx with hx | hx
        · exact hm x hx
        · simp at hx; subst hx; exact hs (a, x :: r) (by simp) x (by simp)
      · rcases List.mem_cons.1 he with rfl | he
        · exact fun y hy => nextN_lt hy
        · rcases List.mem_cons.1 he with rfl | he
          · exact hr
          · exact hst e he

theorem FromL.lt {ins : List Ins} {at_ : Int} {M : List Nat} (h : FromL ins at_ M) : ∀ x ∈ M, x < ins.length := by
  by_cases hin : inR ins.length at_ = true
  · obtain ⟨k, a, L, rfl, hw⟩ := h.1 hin
    refine wlk_lt k _ _ _ hw ?_ ?_
    · intro x hx; simp at hx; subst hx; simp [inR] at hin; omega
    · intro e he y hy; simp at he; subst he; exact nextN_lt hy
  · rw [h.2 (by simpa using hin)]; simp

/-- Behind Reach: a row of its own. -/
def Truthed (w : World) (n : Nat) (M : List Nat) (e : Ending) (w' : World) : Prop :=
  ∃ b, e = .returned (.slice (some ⟨b, 0, none⟩) n n) ∧ w.heap.size ≤ b ∧ w'.heap[b]? = some (.cells (seenCells n M) 4 (0, 0)) ∧ Below w.heap.size w w'

theorem fold_one (p : Tmp) (v : Value) (t : Array Value) : ((#[p] : Array Tmp).zip #[v]).foldl (fun t (p, v) => t.setIfInBounds p v) t = t.setIfInBounds p v := by simp

set_option maxRecDepth 100000 in
set_option maxHeartbeats 2000000 in
theorem reach_calls (c : Cod) (w : World) (M : List Nat) (hins : InsRow w w.heap.size c.insA c.ins) (hn : c.ins.length ≤ 90000) (hM : FromL c.ins 0 M) (hMl : M.length ≤ 90000) :
    Calls Try.prog 17 #[.agg c.cells] w (Truthed w c.ins.length M) := by
  have HINS := Lib.hid hins
  have HM := Lib.hid hM
  clear hins hM
  obtain ⟨nm, par, varsA, nvars, varsC, rp, rto, rcl, fromA, nfrom, fromC, insA, insC, ins⟩ := c
  simp only [Cod.cells]
  obtain ⟨i0, hi, hz0, hz1, hz2⟩ := info_parts info_bool
  simp only at hn
  (refine calls_of_wp_marks Try.func17 rfl ?_
   simp only [Try.ntmps17, List.size_toArray, List.length_cons, List.length_nil, Nat.reduceAdd, Nat.reduceSub, Array.replicate_succ,
     Array.replicate_zero, List.push_toArray, List.append_toArray, List.nil_append, List.cons_append])
  go_wp2_with (at_make; refine wpList_make_at rfl (.tmp 7) (.tmp 7) 34 rfl 4 i0 (.bool false) Try.underlying34 hi hz0 hz1 rfl .i64 .i64 _ _ ins.length rfl rfl rfl rfl (by rw [hz2]; omega) (by unfold maxLen; omega) ?_)
  obtain ⟨W1, hW1⟩ : ∃ W1, ((w.alloc (.cells #[.string nm, .int .i64 par, .slice varsA nvars varsC, .bool rp, .string rto, .int .i64 rcl, .slice fromA nfrom fromC, .slice insA ins.length insC] 30)).alloc (.cells (Array.replicate ins.length (.bool false)) 4)).alloc
      (.cells #[.slice (some ⟨w.heap.size + 1, 0, none⟩) ins.length ins.length] 34) = W1 := ⟨_, rfl⟩
  have hs1 : W1.heap.size = w.heap.size + 3 := by rw [← hW1]; simp
  have hx1 : Ext (fun _ => False) w W1 := by rw [← hW1]; exact (((Ext.refl _ w).alloc _).alloc _).alloc _
  have hr1 : W1.heap[w.heap.size + 1]? = some (.cells (seenCells ins.length []) 4 (0, 0)) := by
    rw [← hW1, Below.heap_alloc _ _ _ (by simp), seenCells_nil, List.toArray_replicate]
    have := alloc_at (w.alloc (.cells #[.string nm, .int .i64 par, .slice varsA nvars varsC, .bool rp, .string rto, .int .i64 rcl, .slice fromA nfrom fromC, .slice insA ins.length insC] 30)) (.cells (Array.replicate ins.length (.bool false)) 4)
    rwa [World.size_alloc] at this
  have hv1 : W1.heap[w.heap.size + 2]? = some (.cells #[.slice (some ⟨w.heap.size + 1, 0, none⟩) ins.length ins.length] 34 (0, 0)) := by
    rw [← hW1]
    have := alloc_at ((w.alloc (.cells #[.string nm, .int .i64 par, .slice varsA nvars varsC, .bool rp, .string rto, .int .i64 rcl, .slice fromA nfrom fromC, .slice insA ins.length insC] 30)).alloc (.cells (Array.replicate ins.length (.bool false)) 4))
      (.cells #[.slice (some ⟨w.heap.size + 1, 0, none⟩) ins.length ins.length] 34)
    rwa [World.size_alloc, World.size_alloc] at this
  have HC := Lib.hid (from_calls ⟨nm, par, varsA, nvars, varsC, rp, rto, rcl, fromA, nfrom, fromC, insA, insC, ins⟩ 0 W1)
  have HW1 := Lib.hid hW1
  go_at_call 26
  simp only [hW1]
  refine HC.out.mono ?_
  clear hi hz0 hz1 hz2 HC hW1
  rintro e W2 ⟨rfl, hW2⟩
  have HIT := Lib.hid (from_iter ⟨nm, par, varsA, nvars, varsC, rp, rto, rcl, fromA, nfrom, fromC, insA, insC, ins⟩ 0 W1 M ((HINS.out.ext hx1 (Nat.le_refl _) (fun _ _ _ h => h)).mono hx1.size) hn HM.out hMl)
  have hx2 : Ext (fun _ => False) W1 W2 := by rw [hW2]; exact ((Ext.refl _ W1).alloc _).alloc _
  have hs2 : W2.heap.size = w.heap.size + 5 := by rw [hW2]; simp; omega
  try simp only [] at HIT
  rw [← hW2] at HIT
  rw [hs1] at HIT ⊢
  have HX1 := Lib.hid hx1
  have HX2 := Lib.hid hx2
  have HS1 := Lib.hid hs1
  have HS2 := Lib.hid hs2
  have HR1 := Lib.hid hr1
  have HV1 := Lib.hid hv1
  clear hW2 hx1 hx2 hs1 hs2 hr1 hv1 HW1
  obtain ⟨N, hN⟩ : ∃ N, w.heap.size = N := ⟨_, rfl⟩
  try simp only [Nat.add_assoc, Nat.reduceAdd]
  try simp only [Nat.add_assoc, Nat.reduceAdd] at HIT
  rw [hN] at HIT HS1 HS2 HR1 HV1 ⊢
  go_wp2_with fail
  refine wp_rangeFunc_sep (gf := 60) rfl Try.func60 (by rfl) rfl HIT.out ?hbel ?hRd (fun _ => rfl)
    (fun pre C W => C = (· = N + 1) ∧ W.heap[N + 1]? = some (.cells (seenCells ins.length pre) 4 (0, 0)) ∧ Ext (· = N + 1) W2 W) (fun _ _ _ _ => False) ?hI ?hIC (fun _ _ _ _ _ h _ => h.elim) (· = N + 1) ?h0 ?hround ?hdone (fun _ _ _ _ _ _ _ _ h _ => h.elim)
  case hbel => exact Below.refl _ _
  case hRd =>
    rintro k (rfl | rfl | ⟨a, hne, ha, rfl⟩)
    · have := HS2.out; omega
    · have := HS2.out; omega
    · obtain ⟨b, off, e, hb, _⟩ := HINS.out hne
      simp only at ha
      simp only [ha] at e
      obtain rfl := Option.some.inj e
      have := HS2.out
      show b < _; omega
  case hI =>
    rintro pre C W W' ⟨rfl, h1, h2⟩ hx
    have := HS2.out
    exact ⟨rfl, hx.heap h1 (fun h => by omega), h2.trans hx (fun j hj => .inr hj.1)⟩
  case hIC =>
    rintro pre C W ⟨rfl, h1, h2⟩ k rfl
    have := HS2.out
    refine ⟨by have := h2.size; omega, ?_⟩
    rintro (h | h | ⟨a, hne, ha, h⟩)
    · omega
    · omega
    · obtain ⟨b, off, e, hb, _⟩ := HINS.out hne
      simp only at ha
      simp only [ha] at e
      obtain rfl := Option.some.inj e
      simp only at h; omega
  case h0 =>
    have := HS1.out
    exact ⟨rfl, HX2.out.heap HR1.out (fun h => h), Ext.refl _ _⟩
  case hround =>
    rintro l pre x C W hl ⟨rfl, h1, h2⟩ hpre
    have hxn : x < ins.length := HM.out.lt x (hpre.subset (by simp))
    rw [fold_one]
    simp only [List.setIfInBounds_toArray, List.set_cons_zero, List.set_cons_succ]
    refine wpIn_region_lit (wpListIn_ok rfl (by simp) (.int .i64 (x : Int)) (w' := W) (by simp [go_sem]) ?_)
    simp only [Act.put, List.setIfInBounds_toArray, List.set_cons_zero, List.set_cons_succ]
    refine wpListIn_nil ⟨_, fun k hk => .inl hk, ⟨rfl, h1, h2⟩, Ext.refl _ _, ?_⟩
    rintro W₂ ⟨_, g1, g2⟩ hl2
    have hs2 := HS2.out
    have hs1 := HS1.out
    have hv : W₂.cell? ⟨N + 2, 0, none⟩ = some (.slice (some ⟨N + 1, 0, none⟩) ins.length ins.length) := by
      rw [cell_of_row _ _ _ _ _ _ (g2.heap (HX2.out.heap HV1.out (fun h => h)) (by omega))]; rfl
    have hfz : W₂.frozen? ⟨N + 1, x, none⟩ = false := frozen_of_row _ _ _ _ _ g1
    have hcx : W₂.cell? ⟨N + 1, x, none⟩ = some (.bool (decide (x ∈ pre))) := by rw [cell_of_row _ _ _ _ _ _ g1]; exact seenCells_get pre hxn
    have hxi : (x : Int) < (ins.length : Int) := by omega
    refine wpIn_block (wpIn_region_lit (wpListIn_ok rfl (by simp) (.slice (some ⟨N + 1, 0, none⟩) ins.length ins.length) (w' := W₂) (by simp [go_sem, hv]) ?_))
    simp only [Act.put, List.setIfInBounds_toArray, List.set_cons_zero, List.set_cons_succ]
    refine wpListIn_ok rfl (by simp) (.int .i64 (x : Int)) (w' := W₂) (by simp [go_sem]) ?_
    simp only [Act.put, List.setIfInBounds_toArray, List.set_cons_zero, List.set_cons_succ]
    refine wpListIn_ok rfl (by simp) (.pointer (some ⟨N + 1, x, none⟩)) (w' := W₂) (by simp [go_sem, hxi]) ?_
    simp only [Act.put, List.setIfInBounds_toArray, List.set_cons_zero, List.set_cons_succ]
    refine wpListIn_skip rfl (by simp) (w' := W₂.setCell ⟨N + 1, x, none⟩ (.bool true)) (by simp [go_sem, hcx, hfz]) ?_
    refine wpListIn_nil ⟨_, fun k hk => .inl hk, ⟨rfl, ?_, ?_⟩, Ext.set1 _ _ _ _⟩
    · rw [← seenCells_set]; exact heap_setCell_same _ _ _ _ _ _ g1
    · exact g2.trans (Ext.set1 _ _ _ _) (fun j hj => .inl hj)
  case hdone =>
    rintro D C W hD hCD ⟨rfl, h1, h2⟩ hdd
    have hs2 := HS2.out
    have hs1 := HS1.out
    have hv : W.cell? ⟨N + 2, 0, none⟩ = some (.slice (some ⟨N + 1, 0, none⟩) ins.length ins.length) := by
      rw [cell_of_row _ _ _ _ _ _ (h2.heap (HX2.out.heap HV1.out (fun h => h)) (by omega))]; rfl
    have HD := Lib.hid hdd
    have HR : Hid (∀ w', Ext (· ∈ [D]) W w' → Truthed w ins.length M (.returned (.slice (some ⟨N + 1, 0, none⟩) ins.length ins.length)) w') := by
      intro w' hx
      have hxa : Ext (fun k => k = N + 1 ∨ k = D) w w' := (((HX1.out.mono (fun _ h => h.elim)).trans HX2.out (fun _ h => h.elim)).trans h2 (fun j hj => .inl (.inl hj))).trans hx (fun j hj => .inl (.inr (by simpa using hj)))
      refine ⟨N + 1, rfl, by omega, hx.heap h1 (by simp; omega), hxa.below (by omega) (by rintro k (rfl | rfl) <;> omega)⟩
    clear h1 h2 hdd hs1 hs2 hCD
    go_wp2_with fail
    exact ⟨[D], rfl, by simp, by intro b hb; simp at hb; subst hb; exact HD.out, .slice (some ⟨N + 1, 0, none⟩) ins.length ins.length, fun w' hx => ⟨results_tmp (t := 2) rfl _ _ _, HR.out w' hx⟩⟩
end Go.Proofs.Ytpbkkajgcdahcaa
