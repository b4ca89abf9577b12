/- calls.Of, at any short module: the walk. -/
import Derived.Test.YtbbogkcfngpbbaaCaW
namespace Go.Proofs.Ytbbogkcfngpbbaa
open Go.RowKit

/-- A function's own calls, and calls of it, sorted. -/
def downF (m : Mo) (f : Nat) : List Nat := sel m.fs.length (dOf (allCalls m.fs.length 0 m.fs) f)
def upF (m : Mo) (f : Nat) : List Nat := sel m.fs.length (uOf (allCalls m.fs.length 0 m.fs) f)
def sitesF (m : Mo) (f : Nat) : List (Nat × Nat) := sOf (allCalls m.fs.length 0 m.fs) f
noncomputable def groupsF (m : Mo) : (Nat → Int) × List (List Nat) := partN m.fs.length (downF m) (reachB (downF m)) m.fs.length

/-- A module's graph, in memory. -/
def OfMade (m : Mo) (w : World) (e : Ending) (w' : World) : Prop :=
  ∃ (N G DN UP ST RE GP H : Nat) (gv : Value) (tag : Nat → Nat), e = .returned (.pointer (some ⟨G, 0, none⟩)) ∧
    GM w' N G m.fs.length DN UP ST RE GP gv tag (downF m) (upF m) (sitesF m) (fun f => (List.range m.fs.length).map (reachB (downF m) f)) (groupsF m).1 ∧ GrpI w' H gv (groupsF m).2 ∧ w.heap.size ≤ N ∧ w.heap.size ≤ H ∧ Below w.heap.size w w'

theorem mem_le_sum {x : Nat} : ∀ l : List Nat, x ∈ l → x ≤ l.sum
  | [], h => by simp at h
  | y :: r, h => by
    rw [List.sum_cons]
    rcases List.mem_cons.1 h with e | e
    · omega
    · have := mem_le_sum r e; omega

/-- Between two functions. -/
def OfI (fs : List Fn) (W1 : World) (B G n DN UP ST RE GP : Nat) (c : Value) (wr : World) : Prop :=
  ∃ (j : Nat) (E : List (Nat × Nat × Nat)) (tg : Nat → Nat), j ≤ n ∧ c = .int .i64 (j : Int) ∧ E ++ allCalls n j (fs.drop j) = allCalls n 0 fs ∧ GM wr B G n DN UP ST RE GP (.slice none 0 0) tg (dOf E) (uOf E) (sOf E) (fun _ => []) (fun _ => 0) ∧ Below B W1 wr

/-- Between two rows that are sorted. -/
def OfK (A : List (Nat × Nat × Nat)) (W1 : World) (B G n DN UP ST RE GP : Nat) (c : Value) (wr : World) : Prop :=
  ∃ (f : Nat) (dd uu : Nat → List Nat) (tg : Nat → Nat), f ≤ n ∧ c = .int .i64 (f : Int) ∧ GM wr B G n DN UP ST RE GP (.slice none 0 0) tg dd uu (sOf A) (fun _ => []) (fun _ => 0) ∧ Below B W1 wr ∧
    (∀ x, x < f → dd x = sel n (dOf A x) ∧ uu x = sel n (uOf A x)) ∧ ∀ x, f ≤ x → dd x = dOf A x ∧ uu x = uOf A x

/-- Between two functions, from which is walked. -/
def OfL (A : List (Nat × Nat × Nat)) (dn up : Nat → List Nat) (W1 : World) (B G n DN UP ST RE GP : Nat) (c : Value) (wr : World) : Prop :=
  ∃ (f : Nat) (rr : Nat → List Bool) (tg : Nat → Nat), f ≤ n ∧ c = .int .i64 (f : Int) ∧ GM wr B G n DN UP ST RE GP (.slice none 0 0) tg dn up (sOf A) rr (fun _ => 0) ∧ Below B W1 wr ∧
    ∀ x, x < f → rr x = (List.range n).map (reachB dn x)

theorem nums_inj {a b : List Nat} (h : nums a = nums b) : a = b := by
  have : (nums a).map Int.toNat = (nums b).map Int.toNat := by rw [h]
  unfold nums at this
  rw [List.map_map, List.map_map] at this
  have e : (Int.toNat ∘ fun x : Nat => (x : Int)) = id := funext fun x => by simp
  rw [e, List.map_id, List.map_id] at this
  exact this

theorem ownB {w : World} {b n : Nat} {f : Nat → Bool} (h : w.heap[b]? = some (.cells (truC n f) 4 (0, 0))) (hn : n ≤ 70) : w.ownsRow 0 4 1 (.slice (some ⟨b, 0, none⟩) n n) ((List.range n).map f).length (((List.range n).map f).flatMap encB) := by
  rw [encB_flat, show ((List.range n).map f).length = n from by simp]
  refine ⟨by simp, .inr ⟨b, n, _, rfl, Nat.zero_le _, h, Nat.le_refl _, by unfold maxLen; omega, by rw [truC_size, Nat.mul_one], ?_⟩⟩
  rw [List.take_of_length_le (by rw [Array.length_toList, truC_size]; omega)]
  simp [truC]

/-- Between two instructions. -/
def OfJ (fs : List Fn) (ins : List Ins) (j : Nat) (W1 : World) (B G n DN UP ST RE GP : Nat) (c : Value) (wr : World) : Prop :=
  ∃ (k : Nat) (E : List (Nat × Nat × Nat)) (tg : Nat → Nat), k ≤ ins.length ∧ c = .int .i64 (k : Int) ∧ E ++ (insCalls n j k (ins.drop k) ++ allCalls n (j + 1) (fs.drop (j + 1))) = allCalls n 0 fs ∧ GM wr B G n DN UP ST RE GP (.slice none 0 0) tg (dOf E) (uOf E) (sOf E) (fun _ => []) (fun _ => 0) ∧ Below B W1 wr

set_option maxRecDepth 100000 in
set_option maxHeartbeats 40000000 in
theorem of_calls (m : Mo) (w : World) (hin : OfIn w m) : Calls Try.prog 34 #[.agg m.cells] w (OfMade m w) := by
  obtain ⟨M, hM⟩ : ∃ M, m = M := ⟨_, rfl⟩
  have HM := Lib.hid hM
  have HIN := Lib.hid hin
  have hN70 := hin.nf
  have HTOT : Hid ((allCalls m.fs.length 0 m.fs).length ≤ 1200) := Nat.le_trans (allCalls_len _ _ _) hin.tot
  clear hin hM
  obtain ⟨sA, sC, fA, fC, ss, fs⟩ := m
  simp only at hN70 HTOT
  obtain ⟨n, hn⟩ : ∃ n, fs.length = n := ⟨_, rfl⟩
  have HN := Lib.hid hn
  simp only [Mo.cells]
  rw [hn] at hN70 HTOT ⊢
  have hn70 := hN70
  clear hn hN70
  obtain ⟨N, hN⟩ : ∃ N, w.heap.size = N := ⟨_, rfl⟩
  obtain ⟨W1, hW1⟩ : ∃ W1, w.alloc (.cells #[.slice sA ss.length sC, .slice fA n fC] 38) = W1 := ⟨_, rfl⟩
  have q1 : W1.heap[N]? = some (.cells #[.slice sA ss.length sC, .slice fA n fC] 38 (0, 0)) := by rw [← hW1, ← hN]; exact alloc_at _ _
  have hb1 : Below N w W1 := by rw [← hW1, ← hN]; exact (Below.refl _ _).alloc (Nat.le_refl _) _
  obtain ⟨B, hB⟩ : ∃ B, W1.heap.size = B := ⟨_, rfl⟩
  have hBN : N < B := by rw [← hB]; exact (Array.getElem?_eq_some_iff.1 q1).1
  have HB := Lib.hid hB
  have HOF : Hid (∀ W, Below B W1 W → OfIn W M ∧ W.cell? ⟨N, 0, none⟩ = some (.slice sA ss.length sC) ∧ W.cell? ⟨N, 1, none⟩ = some (.slice fA n fC) ∧ Below N w W) := by
    intro W hW
    have h2 : Below N w W := hb1.trans (hW.mono (Nat.le_of_lt hBN))
    have h3 := (hW.block N hBN).trans q1
    refine ⟨?_, (cell_of_row _ _ _ _ _ _ h3).trans rfl, (cell_of_row _ _ _ _ _ _ h3).trans rfl, h2⟩
    rw [← HM.out]; exact HIN.out.below (by rw [hN]; exact h2)
  obtain ⟨_, c1, c2, _⟩ := HOF.out W1 (Below.refl _ _)
  have HW1 := Lib.hid hW1
  clear hW1 q1 hb1 hB
  go_enter Try.func34, Try.ntmps34
  go_upto_region 2 with (fail)
  rw [HW1.out]
  clear c1 c2
  have mk1 := run_make_one Try.underlying63 info_rI rfl n hn70 (by decide)
  have mk2 := run_make_one Try.underlying114 info_rP rfl n hn70 (by decide)
  have mk3 := run_make_one Try.underlying72 info_rB rfl n hn70 (by decide)
  have mk4 := run_make_one Try.underlying22 info_int rfl n hn70 (by decide)
  go_cut [4] (fun s4 wc => OfStart W1 n s4 wc)
  case first =>
    refine wp_region_any (by kernel_rfl) ?_
    refine wpAny_take (i := 0) rfl (by kernel_rfl) (by kernel_rfl) (by kernel_rfl) (fun _ _ _ h => h) (Or.inl ⟨by rfl, fun w => by go_simp; rfl⟩) ?_
    simp only [List.getElem_toArray, List.getElem_cons_zero, Act.put, List.setIfInBounds_toArray, List.set_cons_zero, List.set_cons_succ]
    refine wpAny_take (i := 2) rfl (by kernel_rfl) (by kernel_rfl) (by kernel_rfl) (fun _ _ _ h => h) (Or.inl ⟨by rfl, fun w => by go_simp; rfl⟩) ?_
    simp only [List.getElem_toArray, List.getElem_cons_succ, List.getElem_cons_zero, Act.put, List.setIfInBounds_toArray, List.set_cons_zero, List.set_cons_succ]
    refine wpAny_take (i := 4) rfl (by kernel_rfl) (by kernel_rfl) (by kernel_rfl) (fun _ _ _ h => h) (Or.inl ⟨by rfl, fun w => by go_simp; rfl⟩) ?_
    simp only [List.getElem_toArray, List.getElem_cons_succ, List.getElem_cons_zero, Act.put, List.setIfInBounds_toArray, List.set_cons_zero, List.set_cons_succ]
    refine wpAny_take (i := 6) rfl (by kernel_rfl) (by kernel_rfl) (by kernel_rfl) (fun _ _ _ h => h) (Or.inl ⟨by rfl, fun w => by go_simp; rfl⟩) ?_
    simp only [List.getElem_toArray, List.getElem_cons_succ, List.getElem_cons_zero, Act.put, List.setIfInBounds_toArray, List.set_cons_zero, List.set_cons_succ]
    refine wpAny_take (i := 8) rfl (by kernel_rfl) (by kernel_rfl) (by kernel_rfl) (fun _ _ _ h => h) (Or.inl ⟨by rfl, fun w => by go_simp; rfl⟩) ?_
    simp only [List.getElem_toArray, List.getElem_cons_succ, List.getElem_cons_zero, Act.put, List.setIfInBounds_toArray, List.set_cons_zero, List.set_cons_succ]
    refine wpAny_inv' (MkI W1 n) ?_ (by decide +kernel) ?_ ?_
    · refine ⟨false, false, false, false, false, false, false, false, 0, 0, 0, 0, 0, undef, undef, undef, undef, undef, undef, undef, undef, rfl, by simp only [Act.put, List.setIfInBounds_toArray, List.set_cons_zero, List.set_cons_succ], ⟨(Below.refl _ _).drew, (fun h => by cases h), (fun h => by cases h), (fun h => by cases h), (fun h => by cases h), (fun h => by cases h), (fun h => by cases h), (fun h => by cases h), (fun h => by cases h), (fun h => by cases h), (fun h => by cases h), (fun h => by cases h), (fun h => by cases h), (fun h => by cases h), (fun h => by cases h), (fun h => by cases h), (fun h => by cases h), (fun h => by cases h), (fun h => by cases h)⟩⟩
    · rintro listed a' w' i ⟨l1, l3, l5, l7, l9, l10, l11, l12, b1, b3, b5, b7, b9, x15, x17, x19, x21, x23, x24, x25, x4, rfl, rfl, H⟩ hi
      have hlt := ready_lt hi
      obtain ⟨hu, o, ho, hall⟩ := mem_ready.1 hi
      have hr : i = 0 ∨ i = 1 ∨ i = 2 ∨ i = 3 ∨ i = 4 ∨ i = 5 ∨ i = 6 ∨ i = 7 ∨ i = 8 ∨ i = 9 ∨ i = 10 ∨ i = 11 ∨ i = 12 := by
        have h13 : i < 13 := hlt
        omega
      clear hi hlt
      rcases hr with rfl | rfl | rfl | rfl | rfl | rfl | rfl | rfl | rfl | rfl | rfl | rfl | rfl
      · cases hu
      · have hl : l1 = false := hu
        clear hall ho hu
        refine wpOp_step rfl fun K' hK => ?_
        rw [if_pos (by rfl)]
        simp only [List.getElem_toArray, List.getElem_cons_succ, List.getElem_cons_zero, Act.put, List.setIfInBounds_toArray, List.set_cons_zero, List.set_cons_succ]
        go_simp
        exact hK _ _ ⟨true, l3, l5, l7, l9, l10, l11, l12, _, b3, b5, b7, b9, _, x17, x19, x21, x23, x24, x25, x4, rfl, by simp only [Act.put, List.setIfInBounds_toArray, List.set_cons_zero, List.set_cons_succ], H.make1 hl⟩
      · cases hu
      · have hl : l3 = false := hu
        clear hall ho hu
        refine wpOp_step rfl fun K' hK => ?_
        rw [if_pos (by rfl)]
        simp only [List.getElem_toArray, List.getElem_cons_succ, List.getElem_cons_zero, Act.put, List.setIfInBounds_toArray, List.set_cons_zero, List.set_cons_succ]
        go_simp
        exact hK _ _ ⟨l1, true, l5, l7, l9, l10, l11, l12, b1, _, b5, b7, b9, x15, _, x19, x21, x23, x24, x25, x4, rfl, by simp only [Act.put, List.setIfInBounds_toArray, List.set_cons_zero, List.set_cons_succ], H.make3 hl⟩
      · cases hu
      · have hl : l5 = false := hu
        clear hall ho hu
        refine wpOp_step rfl fun K' hK => ?_
        rw [if_pos (by rfl)]
        simp only [List.getElem_toArray, List.getElem_cons_succ, List.getElem_cons_zero, Act.put, List.setIfInBounds_toArray, List.set_cons_zero, List.set_cons_succ]
        go_simp
        exact hK _ _ ⟨l1, l3, true, l7, l9, l10, l11, l12, b1, b3, _, b7, b9, x15, x17, _, x21, x23, x24, x25, x4, rfl, by simp only [Act.put, List.setIfInBounds_toArray, List.set_cons_zero, List.set_cons_succ], H.make5 hl⟩
      · cases hu
      · have hl : l7 = false := hu
        clear hall ho hu
        refine wpOp_step rfl fun K' hK => ?_
        rw [if_pos (by rfl)]
        simp only [List.getElem_toArray, List.getElem_cons_succ, List.getElem_cons_zero, Act.put, List.setIfInBounds_toArray, List.set_cons_zero, List.set_cons_succ]
        go_simp
        exact hK _ _ ⟨l1, l3, l5, true, l9, l10, l11, l12, b1, b3, b5, _, b9, x15, x17, x19, _, x23, x24, x25, x4, rfl, by simp only [Act.put, List.setIfInBounds_toArray, List.set_cons_zero, List.set_cons_succ], H.make7 hl⟩
      · cases hu
      · have hl : l9 = false := hu
        clear hall ho hu
        refine wpOp_step rfl fun K' hK => ?_
        rw [if_pos (by rfl)]
        simp only [List.getElem_toArray, List.getElem_cons_succ, List.getElem_cons_zero, Act.put, List.setIfInBounds_toArray, List.set_cons_zero, List.set_cons_succ]
        go_simp
        exact hK _ _ ⟨l1, l3, l5, l7, true, l10, l11, l12, b1, b3, b5, b7, _, x15, x17, x19, x21, _, x24, x25, x4, rfl, by simp only [Act.put, List.setIfInBounds_toArray, List.set_cons_zero, List.set_cons_succ], H.make9 hl⟩
      · have hl : l10 = false := hu
        simp only [List.getElem?_toArray, List.getElem?_cons_succ, List.getElem?_cons_zero, Option.some.injEq] at ho
        subst ho
        have t1 : l1 = true := hall ⟨1, .data⟩ (by simp) rfl
        have t3 : l3 = true := hall ⟨3, .data⟩ (by simp) rfl
        have t5 : l5 = true := hall ⟨5, .data⟩ (by simp) rfl
        have t7 : l7 = true := hall ⟨7, .data⟩ (by simp) rfl
        have t9 : l9 = true := hall ⟨9, .data⟩ (by simp) rfl
        clear hall hu
        obtain rfl := (H.c1 t1).1
        obtain rfl := (H.c3 t3).1
        obtain rfl := (H.c5 t5).1
        obtain rfl := (H.c7 t7).1
        obtain rfl := (H.c9 t9).1
        refine wpOp_step rfl fun K' hK => ?_
        rw [if_pos (by rfl)]
        simp only [List.getElem_toArray, List.getElem_cons_succ, List.getElem_cons_zero, Act.put, List.setIfInBounds_toArray, List.set_cons_zero, List.set_cons_succ]
        go_simp
        exact hK _ _ ⟨l1, l3, l5, l7, l9, true, l11, l12, b1, b3, b5, b7, b9, _, _, _, _, _, _, x25, x4, rfl, by simp only [Act.put, List.setIfInBounds_toArray, List.set_cons_zero, List.set_cons_succ], H.build hl t1 t3 t5 t7 t9⟩
      · have hl : l11 = false := hu
        simp only [List.getElem?_toArray, List.getElem?_cons_succ, List.getElem?_cons_zero, Option.some.injEq] at ho
        subst ho
        have t10 : l10 = true := hall ⟨10, .data⟩ (by simp) rfl
        subst t10
        have hl12 : l12 = false := by cases l12 with
          | false => rfl
          | true => exact (H.c12 rfl).1.symm.trans hl
        clear hall hu
        obtain rfl := (H.c10 rfl).1
        refine wpOp_step rfl fun K' hK => ?_
        rw [if_pos (by rfl)]
        simp only [List.getElem_toArray, List.getElem_cons_succ, List.getElem_cons_zero, Act.put, List.setIfInBounds_toArray, List.set_cons_zero, List.set_cons_succ]
        go_simp
        exact hK _ _ ⟨l1, l3, l5, l7, l9, true, true, l12, b1, b3, b5, b7, b9, x15, x17, x19, x21, x23, _, _, x4, rfl, by simp only [Act.put, List.setIfInBounds_toArray, List.set_cons_zero, List.set_cons_succ], H.box hl12⟩
      · simp only [List.getElem?_toArray, List.getElem?_cons_succ, List.getElem?_cons_zero, Option.some.injEq] at ho
        subst ho
        have t11 : l11 = true := hall ⟨11, .data⟩ (by simp) rfl
        subst t11
        clear hall hu
        refine wpOp_step rfl fun K' hK => ?_
        rw [if_pos (by rfl)]
        simp only [List.getElem_toArray, List.getElem_cons_succ, List.getElem_cons_zero, Act.put, List.setIfInBounds_toArray, List.set_cons_zero, List.set_cons_succ]
        go_simp
        exact hK _ _ ⟨l1, l3, l5, l7, l9, l10, true, true, b1, b3, b5, b7, b9, x15, x17, x19, x21, x23, x24, x25, _, rfl, by simp only [Act.put, List.setIfInBounds_toArray, List.set_cons_zero, List.set_cons_succ], H.assign⟩
    · rintro listed a' w' ⟨l1, l3, l5, l7, l9, l10, l11, l12, b1, b3, b5, b7, b9, x15, x17, x19, x21, x23, x24, x25, x4, rfl, rfl, H⟩ hr
      rw [List.eq_nil_iff_forall_not_mem] at hr
      have t1 : l1 = true := by
        cases l1 with
        | true => rfl
        | false => exact (hr 1 (mem_ready.2 ⟨rfl, _, rfl, fun e he _ => by simp at he; subst he; rfl⟩)).elim
      subst t1
      have t3 : l3 = true := by
        cases l3 with
        | true => rfl
        | false => exact (hr 3 (mem_ready.2 ⟨rfl, _, rfl, fun e he _ => by simp at he; subst he; rfl⟩)).elim
      subst t3
      have t5 : l5 = true := by
        cases l5 with
        | true => rfl
        | false => exact (hr 5 (mem_ready.2 ⟨rfl, _, rfl, fun e he _ => by simp at he; subst he; rfl⟩)).elim
      subst t5
      have t7 : l7 = true := by
        cases l7 with
        | true => rfl
        | false => exact (hr 7 (mem_ready.2 ⟨rfl, _, rfl, fun e he _ => by simp at he; subst he; rfl⟩)).elim
      subst t7
      have t9 : l9 = true := by
        cases l9 with
        | true => rfl
        | false => exact (hr 9 (mem_ready.2 ⟨rfl, _, rfl, fun e he _ => by simp at he; subst he; rfl⟩)).elim
      subst t9
      have t10 : l10 = true := by
        cases l10 with
        | true => rfl
        | false => exact (hr 10 (mem_ready.2 ⟨rfl, _, rfl, fun e he _ => by simp at he; rcases he with rfl | rfl | rfl | rfl | rfl <;> rfl⟩)).elim
      subst t10
      have t11 : l11 = true := by
        cases l11 with
        | true => rfl
        | false => exact (hr 11 (mem_ready.2 ⟨rfl, _, rfl, fun e he _ => by simp at he; subst he; rfl⟩)).elim
      subst t11
      have t12 : l12 = true := by
        cases l12 with
        | true => rfl
        | false => exact (hr 12 (mem_ready.2 ⟨rfl, _, rfl, fun e he _ => by simp at he; rcases he with rfl | rfl | rfl | rfl | rfl | rfl | rfl | rfl | rfl | rfl | rfl | rfl | rfl <;> rfl⟩)).elim
      subst t12
      clear hr
      simp only [Act.put, List.setIfInBounds_toArray, List.set_cons_zero, List.set_cons_succ]
      go_wp2
      go_meet
      case rel => exact H.done
  case rest =>
    obtain ⟨G, DN, UP, ST, RE, GP, tag, rfl, hgm, hb⟩ := hcut
    rw [HB.out] at hgm hb
    have HGM := Lib.hid hgm
    have HBC := Lib.hid hb
    obtain ⟨_, c1, c2, _⟩ := HOF.out wc hb
    clear hgm hb mk1 mk2 mk3 mk4
    go_wp2_with fail
    go_loopw [29] (fun c wr => OfI fs W1 B G n DN UP ST RE GP c wr) (fun c _ => n - (intOf c).toNat)
    case atStart =>
      refine ⟨0, [], tag, Nat.zero_le _, rfl, rfl, ?_, HBC.out⟩
      exact HGM.out
    case round =>
      obtain ⟨j, E0, tg0, hj, rfl, hE, hgm, hb⟩ := hrel
      by_cases hjn : j < n
      · have hjI : (j : Int) < (n : Int) := by omega
        obtain ⟨hof, d1, d2, _⟩ := HOF.out wr hb
        obtain ⟨f, hf⟩ : ∃ f, fs[j]? = some f := ⟨_, List.getElem?_eq_getElem (by have := HN.out; omega)⟩
        have hMf : M.fs = fs := by rw [← HM.out]
        have hMA : M.fA = fA := by rw [← HM.out]
        obtain ⟨g1, o1, hA, hg1, q1⟩ := hof.frow (by rw [hMf]; intro e; rw [e] at hf; simp at hf)
        rw [hMA] at hA
        rw [hMf] at q1
        subst hA
        have hfm : f ∈ M.fs := by rw [hMf]; exact List.mem_of_getElem? hf
        have HINS : Hid (∀ W, Below B W1 W → InsRow W W.heap.size f.c.insA f.c.ins) := fun W hW => (HOF.out W hW).1.row f hfm
        have HOK : Hid (∀ i ∈ f.c.ins, i.argsV.oneCell' = true ∧ i.modeV.oneCell' = true) := hof.ok f hfm
        have HIL : Hid (f.c.ins.length ≤ 1200) := by
          have h1 := hof.tot
          rw [hMf] at h1
          have h2 : f.c.ins.length ∈ fs.map fun f => f.c.ins.length := List.mem_map.2 ⟨f, List.mem_of_getElem? hf, rfl⟩
          exact Nat.le_trans (mem_le_sum _ h2) h1
        have HCA : Hid (∀ k u, f.cells.toList[k]? = some u → wr.cell? ((⟨g1, o1 + j * 8, none⟩ : Addr).add k) = some u) := fun k u hu => by rw [Addr.add_lit]; exact q1 j f hf k u hu
        have HST := allCalls_step (n := n) hf
        rw [HST] at hE
        have HE := Lib.hid hE
        have HGM0 := Lib.hid hgm
        have HB0 := Lib.hid hb
        obtain ⟨P, hP⟩ : ∃ P, wr.heap.size = P := ⟨_, rfl⟩
        have hst : ∀ c : Array Value, c.size = 8 → (storeCells ⟨wr.heap.size, 0, none⟩ f.cells.toList).run Try.prog (wr.alloc (.cells c 48)) = .ok () (wr.alloc (.cells f.cells 48)) := fun c hc =>
          run_storeCells_new (P := Try.prog) wr 48 c f.cells (by show _ = some 8; kernel_rfl) hc (fnOne f)
        obtain ⟨W5, hW5⟩ : ∃ W5, wr.alloc (.cells f.cells 48) = W5 := ⟨_, rfl⟩
        rw [hW5, hP] at hst
        have hb5 : Below wr.heap.size wr W5 := by rw [← hW5]; exact (Below.refl _ _).alloc (Nat.le_refl _) _
        have hr5 : W5.heap[P]? = some (.cells f.cells 48 (0, 0)) := by rw [← hW5, ← hP]; exact alloc_at _ _
        have e7 : W5.cell? ⟨P, 7, none⟩ = some (.slice f.c.insA f.c.ins.length f.c.insC) := (cell_of_row _ _ _ _ _ _ hr5).trans rfl
        have HGM5 := Lib.hid (hgm.below hb5)
        have HB5 : Hid (Below B W1 W5) := hb.trans (hb5.mono (by have := hb.size; have := HB.out; omega))
        have hP' := hP
        have hil := HIL.out
        clear hE hgm hb hof hMf hMA q1 hfm HST hW5 hb5 hr5 hf d1 d2
        go_upto_region 6 with (first | (refine wpList_load_at rfl 48 _ rfl ⟨g1, o1 + j * 8, none⟩ rfl f.cells _ HCA.out Try.underlying48 rfl (by kernel_rfl) ?_))
        clear hst hP hP'
        go_wp2_with fail
        go_loopw [37] (fun c w9 => OfJ fs f.c.ins j W1 B G n DN UP ST RE GP c w9) (fun c _ => f.c.ins.length - (intOf c).toNat)
        case atStart => exact ⟨0, E0, tg0, Nat.zero_le _, rfl, by rw [List.drop_zero]; exact HE.out, HGM5.out, HB5.out⟩
        case round =>
          clear e7 HGM5 HB5 HE HGM0 HB0 HCA
          obtain ⟨k, E, tg, hk, rfl, hE, hgm, hb⟩ := hrel
          by_cases hkl : k < f.c.ins.length
          · have hkI : (k : Int) < (f.c.ins.length : Int) := by omega
            obtain ⟨i, hi⟩ : ∃ i, f.c.ins[k]? = some i := ⟨_, List.getElem?_eq_getElem hkl⟩
            obtain ⟨g2, o2, hA2, hg2, q2⟩ := (HINS.out wr hb) (by intro e; rw [e] at hi; simp at hi)
            have HCB : Hid (∀ q u, i.cells.toList[q]? = some u → wr.cell? ((⟨g2, o2 + k * 13, none⟩ : Addr).add q) = some u) := fun q u hu => by rw [Addr.add_lit]; exact q2 k i hi q u hu
            have hone := insOne (HOK.out i (List.mem_of_getElem? hi))
            rw [insCalls_step (n := n) (f := j) hi, List.append_assoc] at hE
            have HE := Lib.hid hE
            obtain ⟨P2, hP2⟩ : ∃ P2, wr.heap.size = P2 := ⟨_, rfl⟩
            have hst : ∀ c : Array Value, c.size = 13 → (storeCells ⟨wr.heap.size, 0, none⟩ i.cells.toList).run Try.prog (wr.alloc (.cells c 26)) = .ok () (wr.alloc (.cells i.cells 26)) := fun c hc =>
              run_storeCells_new (P := Try.prog) wr 26 c i.cells (by show _ = some 13; kernel_rfl) hc hone
            obtain ⟨W6, hW6⟩ : ∃ W6, wr.alloc (.cells i.cells 26) = W6 := ⟨_, rfl⟩
            rw [hW6, hP2] at hst
            have hb6 : Below wr.heap.size wr W6 := by rw [← hW6]; exact (Below.refl _ _).alloc (Nat.le_refl _) _
            have hr6 : W6.heap[P2]? = some (.cells i.cells 26 (0, 0)) := by rw [← hW6, ← hP2]; exact alloc_at _ _
            have e0 : W6.cell? ⟨P2, 0, none⟩ = some (.int .i64 i.op) := (cell_of_row _ _ _ _ _ _ hr6).trans rfl
            have e4 : W6.cell? ⟨P2, 4, none⟩ = some (.int .i64 i.f) := (cell_of_row _ _ _ _ _ _ hr6).trans rfl
            have HGX := Lib.hid (hgm.below hb6)
            have HBX : Hid (Below B W1 W6) := hb.trans (hb6.mono (by have := hb.size; have := HB.out; omega))
            have HT2 : Hid (tg P2 = 0) := Classical.byContradiction fun h => by have := hgm.tagLt P2 h; omega
            have HEL : Hid (E.length ≤ 1200) := by
              have h1 := HTOT.out
              rw [← hE, List.length_append] at h1
              unfold Hid; omega
            rw [hA2]
            clear hE hgm hb hone hW6 hb6 hr6 hi q2 hA2
            go_upto_region 9 with (first | (refine wpList_load_at rfl 26 _ rfl ⟨g2, o2 + k * 13, none⟩ rfl i.cells _ HCB.out Try.underlying26 rfl (by kernel_rfl) ?_))
            clear hst hP2
            by_cases hop : i.op = 15
            · have hopb : (i.op == 15) = true := by rw [hop]; rfl
              by_cases hf0 : i.f < 0
              · have hd0 : decide (0 ≤ i.f) = false := decide_eq_false (by omega)
                have HN2 : Hid (OfJ fs f.c.ins j W1 B G n DN UP ST RE GP (.int .i64 ((k : Int) + 1)) W6) := by
                  refine ⟨k + 1, E, tg, by omega, by simp, ?_, HGX.out, HBX.out⟩
                  have h1 := HE.out
                  rw [show cAt n i = none from if_neg (by omega)] at h1
                  exact h1
                clear hf0 hop
                go_wp2
                go_roundw
                case rel => exact HN2.out
                case measure => simp [intOf]; omega
              · obtain ⟨g, hg⟩ : ∃ g : Nat, i.f = (g : Int) := ⟨i.f.toNat, by omega⟩
                rw [hg] at e4
                have hd0 : decide (0 ≤ (g : Int)) = true := decide_eq_true (by omega)
                by_cases hgn : g < n
                · have hgI : (g : Int) < (n : Int) := by omega
                  have HCT : Hid (cAt n i = some g) := by
                    unfold Hid cAt
                    rw [if_pos ⟨hop, by omega, by omega⟩, hg, Int.toNat_natCast]
                  clear hf0 hop hg
                  have HP4 := Lib.hid e4
                  go_upto_region 10 with (fail)
                  clear e0 e4 hd0 hopb
                  have hlE := HEL.out
                  obtain ⟨wd, hwd⟩ : ∃ wd, W6.drew = wd := ⟨_, rfl⟩
                  have hgd : GM wd B G n DN UP ST RE GP (.slice none 0 0) tg (dOf E) (uOf E) (sOf E) (fun _ => []) (fun _ => 0) := by rw [← hwd]; exact HGX.out.drew
                  have HGD := Lib.hid hgd
                  have HBD : Hid (Below B W1 wd) := by rw [← hwd]; exact HBX.out.drew
                  have hsd : B ≤ wd.heap.size := by have := HBD.out.size; have := HB.out; omega
                  obtain ⟨aov, capv, cv, ov, hk⟩ := hgd.storeD hsd hjn
                  have HKV := Lib.hid hk
                  have HOV := Lib.hid ov
                  have HCV := Lib.hid cv
                  obtain ⟨cG, _⟩ := hgd.cells
                  have HCG := Lib.hid cG
                  obtain ⟨S, hS⟩ : ∃ S : World → Prop, S = fun w' => w'.cell? ⟨G, 0, none⟩ = some (.slice (some ⟨DN, 0, none⟩) n n) ∧ w'.cell? ⟨DN, j, none⟩ = some (.slice aov (dOf E j).length capv) ∧ w'.cell? ⟨P2, 4, none⟩ = some (.int .i64 (g : Int)) := ⟨_, rfl⟩
                  have HSS : Hid (∀ w', S w' → w'.cell? ⟨G, 0, none⟩ = some (.slice (some ⟨DN, 0, none⟩) n n) ∧ w'.cell? ⟨DN, j, none⟩ = some (.slice aov (dOf E j).length capv) ∧ w'.cell? ⟨P2, 4, none⟩ = some (.int .i64 (g : Int))) := fun w' h => by rw [hS] at h; exact h
                  have HSM : Hid (∀ w', w'.cell? ⟨G, 0, none⟩ = some (.slice (some ⟨DN, 0, none⟩) n n) ∧ w'.cell? ⟨DN, j, none⟩ = some (.slice aov (dOf E j).length capv) ∧ w'.cell? ⟨P2, 4, none⟩ = some (.int .i64 (g : Int)) → S w') := fun w' h => by rw [hS]; exact h
                  have HQ4 : Hid (wd.cell? ⟨P2, 4, none⟩ = some (.int .i64 (g : Int))) := by rw [← hwd]; exact HP4.out
                  have hS0 : S wd := HSM.out _ ⟨cG, cv, HQ4.out⟩
                  clear hgd hk cv ov cG hS
                  refine wp_region_K 17 S (by kernel_rfl) ?_
                  rw [hwd]
                  clear hwd
                  refine wpAnyK_take (i := 0) rfl (by kernel_rfl) (by kernel_rfl) (by kernel_rfl) (by kernel_rfl) (fun _ _ _ h => h) (Or.inl ⟨by rfl, fun w hSw => by obtain ⟨s1, s2, s3⟩ := HSS.out w hSw; go_simp; rfl⟩) (by assumption) ?_
                  simp only [List.getElem_toArray, List.getElem_cons_zero, Act.put, List.setIfInBounds_toArray, List.set_cons_zero, List.set_cons_succ]
                  refine wpAnyK_take (i := 1) rfl (by kernel_rfl) (by kernel_rfl) (by kernel_rfl) (by kernel_rfl) (fun _ _ _ h => h) (Or.inl ⟨by rfl, fun w hSw => by obtain ⟨s1, s2, s3⟩ := HSS.out w hSw; go_simp; rfl⟩) (by assumption) ?_
                  simp only [List.getElem_toArray, List.getElem_cons_succ, List.getElem_cons_zero, Act.put, List.setIfInBounds_toArray, List.set_cons_zero, List.set_cons_succ]
                  refine wpAnyK_take (i := 2) rfl (by kernel_rfl) (by kernel_rfl) (by kernel_rfl) (by kernel_rfl) (fun _ _ _ h => h) (Or.inl ⟨by rfl, fun w hSw => by obtain ⟨s1, s2, s3⟩ := HSS.out w hSw; go_simp; rfl⟩) (by assumption) ?_
                  simp only [List.getElem_toArray, List.getElem_cons_succ, List.getElem_cons_zero, Act.put, List.setIfInBounds_toArray, List.set_cons_zero, List.set_cons_succ]
                  refine wpAnyK_take (i := 3) rfl (by kernel_rfl) (by kernel_rfl) (by kernel_rfl) (by kernel_rfl) (fun _ _ _ h => h) (Or.inl ⟨by rfl, fun w hSw => by obtain ⟨s1, s2, s3⟩ := HSS.out w hSw; go_simp; rfl⟩) (by assumption) ?_
                  simp only [List.getElem_toArray, List.getElem_cons_succ, List.getElem_cons_zero, Act.put, List.setIfInBounds_toArray, List.set_cons_zero, List.set_cons_succ]
                  refine wpAnyK_take (i := 4) rfl (by kernel_rfl) (by kernel_rfl) (by kernel_rfl) (by kernel_rfl) (fun _ _ _ h => h) (Or.inl ⟨by rfl, fun w hSw => by obtain ⟨s1, s2, s3⟩ := HSS.out w hSw; go_simp; rfl⟩) (by assumption) ?_
                  simp only [List.getElem_toArray, List.getElem_cons_succ, List.getElem_cons_zero, Act.put, List.setIfInBounds_toArray, List.set_cons_zero, List.set_cons_succ]
                  refine wpAnyK_take (i := 5) rfl (by kernel_rfl) (by kernel_rfl) (by kernel_rfl) (by kernel_rfl) (fun _ _ _ h => h) (Or.inl ⟨by rfl, fun w hSw => by obtain ⟨s1, s2, s3⟩ := HSS.out w hSw; go_simp; rfl⟩) (by assumption) ?_
                  simp only [List.getElem_toArray, List.getElem_cons_succ, List.getElem_cons_zero, Act.put, List.setIfInBounds_toArray, List.set_cons_zero, List.set_cons_succ]
                  refine wpAnyK_take (i := 6) rfl (by kernel_rfl) (by kernel_rfl) (by kernel_rfl) (by kernel_rfl) (fun _ _ _ h => h) (Or.inl ⟨by rfl, fun w hSw => by obtain ⟨s1, s2, s3⟩ := HSS.out w hSw; go_simp; rfl⟩) (by assumption) ?_
                  simp only [List.getElem_toArray, List.getElem_cons_succ, List.getElem_cons_zero, Act.put, List.setIfInBounds_toArray, List.set_cons_zero, List.set_cons_succ]
                  refine wpAnyK_take (i := 7) rfl (by kernel_rfl) (by kernel_rfl) (by kernel_rfl) (by kernel_rfl) (fun _ _ _ h => h) (Or.inl ⟨by rfl, fun w hSw => by obtain ⟨s1, s2, s3⟩ := HSS.out w hSw; go_simp; rfl⟩) (by assumption) ?_
                  simp only [List.getElem_toArray, List.getElem_cons_succ, List.getElem_cons_zero, Act.put, List.setIfInBounds_toArray, List.set_cons_zero, List.set_cons_succ]
                  refine wpAnyK_take (i := 8) rfl (by kernel_rfl) (by kernel_rfl) (by kernel_rfl) (by kernel_rfl) (fun _ _ _ h => h) (Or.inl ⟨by rfl, fun w hSw => by obtain ⟨s1, s2, s3⟩ := HSS.out w hSw; go_simp; rfl⟩) (by assumption) ?_
                  simp only [List.getElem_toArray, List.getElem_cons_succ, List.getElem_cons_zero, Act.put, List.setIfInBounds_toArray, List.set_cons_zero, List.set_cons_succ]
                  refine wpAnyK_take (i := 9) rfl (by kernel_rfl) (by kernel_rfl) (by kernel_rfl) (by kernel_rfl) (fun _ _ _ h => h) (Or.inl ⟨by rfl, fun w hSw => by obtain ⟨s1, s2, s3⟩ := HSS.out w hSw; go_simp; rfl⟩) (by assumption) ?_
                  simp only [List.getElem_toArray, List.getElem_cons_succ, List.getElem_cons_zero, Act.put, List.setIfInBounds_toArray, List.set_cons_zero, List.set_cons_succ]
                  refine wpAnyK_take (i := 10) rfl (by kernel_rfl) (by kernel_rfl) (by kernel_rfl) (by kernel_rfl) (fun _ _ _ h => h) (Or.inl ⟨by rfl, fun w hSw => by obtain ⟨s1, s2, s3⟩ := HSS.out w hSw; go_simp; rfl⟩) (by assumption) ?_
                  simp only [List.getElem_toArray, List.getElem_cons_succ, List.getElem_cons_zero, Act.put, List.setIfInBounds_toArray, List.set_cons_zero, List.set_cons_succ]
                  refine wpAnyK_take (i := 11) rfl (by kernel_rfl) (by kernel_rfl) (by kernel_rfl) (by kernel_rfl) (fun _ _ _ h => h) (Or.inl ⟨by rfl, fun w hSw => by obtain ⟨s1, s2, s3⟩ := HSS.out w hSw; go_simp; rfl⟩) (by assumption) ?_
                  simp only [List.getElem_toArray, List.getElem_cons_succ, List.getElem_cons_zero, Act.put, List.setIfInBounds_toArray, List.set_cons_zero, List.set_cons_succ]
                  refine wpAnyK_take (i := 12) rfl (by kernel_rfl) (by kernel_rfl) (by kernel_rfl) (by kernel_rfl) (fun _ _ _ h => h) (Or.inl ⟨by rfl, fun w hSw => by obtain ⟨s1, s2, s3⟩ := HSS.out w hSw; go_simp; rfl⟩) (by assumption) ?_
                  simp only [List.getElem_toArray, List.getElem_cons_succ, List.getElem_cons_zero, Act.put, List.setIfInBounds_toArray, List.set_cons_zero, List.set_cons_succ]
                  refine wpAnyK_take (i := 13) rfl (by kernel_rfl) (by kernel_rfl) (by kernel_rfl) (by kernel_rfl) (fun _ _ _ h => h) (Or.inl ⟨by rfl, fun w hSw => by obtain ⟨s1, s2, s3⟩ := HSS.out w hSw; go_simp; rfl⟩) (by assumption) ?_
                  simp only [List.getElem_toArray, List.getElem_cons_succ, List.getElem_cons_zero, Act.put, List.setIfInBounds_toArray, List.set_cons_zero, List.set_cons_succ]
                  have hlv := dOf_len E j
                  obtain ⟨i0, hi0, hi1, hi2, hi3⟩ := info_parts info_int
                  refine wpAnyK_run (i := 14) (v := .slice (some ⟨wd.heap.size, 0, none⟩) 1 1) (w' := wd.alloc (.cells #[.int .i64 (g : Int)] 3)) (by kernel_rfl) rfl (by rfl) (Or.inl (by go_simp)) (fun _ => HSM.out _ ?_) ?_
                  · exact ⟨(World.cell?_alloc_lt _ _ _ (spot_of_cell HCG.out).2).trans HCG.out, (World.cell?_alloc_lt _ _ _ (spot_of_cell HCV.out).2).trans HCV.out, (World.cell?_alloc_lt _ _ _ (spot_of_cell HQ4.out).2).trans HQ4.out⟩
                  simp only [List.getElem_toArray, List.getElem_cons_succ, List.getElem_cons_zero, Act.put, List.setIfInBounds_toArray, List.set_cons_zero, List.set_cons_succ]
                  refine wpAnyK_one (i := 15) (by kernel_rfl) rfl fun K' hK => ?_
                  rw [if_pos (by rfl)]
                  refine wp_append_lies _ (.tmp 67) (.tmp 70) 22 rfl 0 3 i0 (.int .i64 0) 1 8 Try.underlying22 hi0 hi1 hi2 hi3 rfl (by decide) (.slice aov (dOf E j).length capv) (dOf E j).length ((dOf E j).flatMap encN) rfl (ownsRow_below HOV.out ((Below.refl wd.heap.size wd).alloc (Nat.le_refl _) _)) ⟨wd.heap.size, 0, none⟩ 1 1 [.int .i64 (g : Int)] rfl rfl (cells_new _ _ _) (by simp [Value.oneCell']) (by decide) (by unfold maxLen; omega) (by omega) (Nat.zero_le _) _ rfl fun g3 cap3 w5 hown5 hgrow5 hat5 hlt5 => ?_
                  obtain ⟨p1, p2, p3, tg', p4, p5, p6, p7⟩ := HKV.out w5 (.slice (some ⟨g3, 0, none⟩) ((dOf E j).length + 1) cap3) (dOf E j ++ [g]) (ext_grown ((Ext.refl _ _).alloc _) hgrow5) (by rw [List.length_append, List.flatMap_append]; exact hown5) (fun k hk => by
                    have e : some g3 = some k := hk
                    obtain rfl := Option.some.inj e
                    rcases hat5 with h | h
                    · exact .inl h
                    · right; rw [h, World.size_alloc]; omega)
                  have s1 := p3 ⟨G, 0, none⟩ _ HCG.out HGD.out.tg
                  have s3 := p3 ⟨P2, 4, none⟩ _ HQ4.out HT2.out
                  have hS5 : S w5 := HSM.out _ ⟨s1, p1, s3⟩
                  refine hK _ _ (fun _ => hS5) ?_
                  simp only [List.getElem_toArray, List.getElem_cons_succ, List.getElem_cons_zero, Act.put, List.setIfInBounds_toArray, List.set_cons_zero, List.set_cons_succ]
                  obtain ⟨wy, hwy⟩ : ∃ wy, w5.setCell ⟨DN, j, none⟩ (.slice (some ⟨g3, 0, none⟩) ((dOf E j).length + 1) cap3) = wy := ⟨_, rfl⟩
                  rw [hwy] at p4 p5 p6
                  have HGX2 := Lib.hid p4
                  have HBX2 : Hid (Below B W1 wy) := HBD.out.trans (p5.below hsd (fun _ h => h))
                  have HP42 : Hid (wy.cell? ⟨P2, 4, none⟩ = some (.int .i64 (g : Int))) := p6 ⟨P2, 4, none⟩ _ HQ4.out HT2.out
                  have HT22 : Hid (tg' P2 = 0) := (p7 P2 (spot_of_cell HQ4.out).2).trans HT2.out
                  clear p3 p4 p5 p6 p7 hown5 hgrow5 hat5 hlt5
                  refine wpAnyK_run (i := 16) (v := .pointer (some ⟨DN, j, none⟩)) (w' := w5) (by kernel_rfl) rfl (by rfl) (Or.inl (by go_simp)) (fun _ => hS5) ?_
                  simp only [List.getElem_toArray, List.getElem_cons_succ, List.getElem_cons_zero, Act.put, List.setIfInBounds_toArray, List.set_cons_zero, List.set_cons_succ]
                  refine wpAnyK_run (i := 17) (v := undef) (w' := w5.setCell ⟨DN, j, none⟩ (.slice (some ⟨g3, 0, none⟩) ((dOf E j).length + 1) cap3)) (by kernel_rfl) rfl (by rfl) (Or.inr ⟨by go_simp, rfl⟩) (fun h => absurd rfl h) ?_
                  simp only [List.getElem_toArray, List.getElem_cons_succ, List.getElem_cons_zero, Act.put]
                  refine wpAnyK_done (by kernel_rfl) ?_ _
                  rw [hwy]
                  clear hwy s1 s3 hS5 hS0 p1 p2 hsd hK hi0 hi1 hi2 hi3 hlv HGX HBX HP4 HT2 HKV HOV HCV HCG HSS HSM HQ4 HGD HBD
                  have HGX := HGX2
                  have HBX := HBX2
                  have HP4 := HP42
                  have HT2 := HT22
                  clear HGX2 HBX2 HP42 HT22
                  go_wp2_with fail
                  obtain ⟨tgA, htgA⟩ : ∃ t, t = tg' := ⟨_, rfl⟩
                  rw [← htgA] at HGX HT2
                  clear htgA
                  obtain ⟨wx, hwx⟩ : ∃ wx, wx = wy := ⟨_, rfl⟩
                  rw [← hwx] at HGX HBX HP4
                  rw [← hwx]
                  clear hwx S
                  obtain ⟨wd, hwd⟩ : ∃ wd, wx.drew = wd := ⟨_, rfl⟩
                  have hgd : GM wd B G n DN UP ST RE GP (.slice none 0 0) tgA (fun x => if x = j then dOf E j ++ [g] else dOf E x) (uOf E) (sOf E) (fun _ => []) (fun _ => 0) := by rw [← hwd]; exact HGX.out.drew
                  have HGD := Lib.hid hgd
                  have HBD : Hid (Below B W1 wd) := by rw [← hwd]; exact HBX.out.drew
                  have hsd : B ≤ wd.heap.size := by have := HBD.out.size; have := HB.out; omega
                  obtain ⟨aov, capv, cv, ov, hk⟩ := hgd.storeU hsd hgn
                  have HKV := Lib.hid hk
                  have HOV := Lib.hid ov
                  have HCV := Lib.hid cv
                  obtain ⟨_, cG, _⟩ := hgd.cells
                  have HCG := Lib.hid cG
                  obtain ⟨S, hS⟩ : ∃ S : World → Prop, S = fun w' => w'.cell? ⟨G, 1, none⟩ = some (.slice (some ⟨UP, 0, none⟩) n n) ∧ w'.cell? ⟨UP, g, none⟩ = some (.slice aov (uOf E g).length capv) ∧ w'.cell? ⟨P2, 4, none⟩ = some (.int .i64 (g : Int)) := ⟨_, rfl⟩
                  have HSS : Hid (∀ w', S w' → w'.cell? ⟨G, 1, none⟩ = some (.slice (some ⟨UP, 0, none⟩) n n) ∧ w'.cell? ⟨UP, g, none⟩ = some (.slice aov (uOf E g).length capv) ∧ w'.cell? ⟨P2, 4, none⟩ = some (.int .i64 (g : Int))) := fun w' h => by rw [hS] at h; exact h
                  have HSM : Hid (∀ w', w'.cell? ⟨G, 1, none⟩ = some (.slice (some ⟨UP, 0, none⟩) n n) ∧ w'.cell? ⟨UP, g, none⟩ = some (.slice aov (uOf E g).length capv) ∧ w'.cell? ⟨P2, 4, none⟩ = some (.int .i64 (g : Int)) → S w') := fun w' h => by rw [hS]; exact h
                  have HQ4 : Hid (wd.cell? ⟨P2, 4, none⟩ = some (.int .i64 (g : Int))) := by rw [← hwd]; exact HP4.out
                  have hS0 : S wd := HSM.out _ ⟨cG, cv, HQ4.out⟩
                  clear hgd hk cv ov cG hS
                  refine wp_region_K 18 S (by kernel_rfl) ?_
                  rw [hwd]
                  clear hwd
                  refine wpAnyK_take (i := 0) rfl (by kernel_rfl) (by kernel_rfl) (by kernel_rfl) (by kernel_rfl) (fun _ _ _ h => h) (Or.inl ⟨by rfl, fun w hSw => by obtain ⟨s1, s2, s3⟩ := HSS.out w hSw; go_simp; rfl⟩) (by assumption) ?_
                  simp only [List.getElem_toArray, List.getElem_cons_zero, Act.put, List.setIfInBounds_toArray, List.set_cons_zero, List.set_cons_succ]
                  refine wpAnyK_take (i := 1) rfl (by kernel_rfl) (by kernel_rfl) (by kernel_rfl) (by kernel_rfl) (fun _ _ _ h => h) (Or.inl ⟨by rfl, fun w hSw => by obtain ⟨s1, s2, s3⟩ := HSS.out w hSw; go_simp; rfl⟩) (by assumption) ?_
                  simp only [List.getElem_toArray, List.getElem_cons_succ, List.getElem_cons_zero, Act.put, List.setIfInBounds_toArray, List.set_cons_zero, List.set_cons_succ]
                  refine wpAnyK_take (i := 2) rfl (by kernel_rfl) (by kernel_rfl) (by kernel_rfl) (by kernel_rfl) (fun _ _ _ h => h) (Or.inl ⟨by rfl, fun w hSw => by obtain ⟨s1, s2, s3⟩ := HSS.out w hSw; go_simp; rfl⟩) (by assumption) ?_
                  simp only [List.getElem_toArray, List.getElem_cons_succ, List.getElem_cons_zero, Act.put, List.setIfInBounds_toArray, List.set_cons_zero, List.set_cons_succ]
                  refine wpAnyK_take (i := 3) rfl (by kernel_rfl) (by kernel_rfl) (by kernel_rfl) (by kernel_rfl) (fun _ _ _ h => h) (Or.inl ⟨by rfl, fun w hSw => by obtain ⟨s1, s2, s3⟩ := HSS.out w hSw; go_simp; rfl⟩) (by assumption) ?_
                  simp only [List.getElem_toArray, List.getElem_cons_succ, List.getElem_cons_zero, Act.put, List.setIfInBounds_toArray, List.set_cons_zero, List.set_cons_succ]
                  refine wpAnyK_take (i := 4) rfl (by kernel_rfl) (by kernel_rfl) (by kernel_rfl) (by kernel_rfl) (fun _ _ _ h => h) (Or.inl ⟨by rfl, fun w hSw => by obtain ⟨s1, s2, s3⟩ := HSS.out w hSw; go_simp; rfl⟩) (by assumption) ?_
                  simp only [List.getElem_toArray, List.getElem_cons_succ, List.getElem_cons_zero, Act.put, List.setIfInBounds_toArray, List.set_cons_zero, List.set_cons_succ]
                  refine wpAnyK_take (i := 5) rfl (by kernel_rfl) (by kernel_rfl) (by kernel_rfl) (by kernel_rfl) (fun _ _ _ h => h) (Or.inl ⟨by rfl, fun w hSw => by obtain ⟨s1, s2, s3⟩ := HSS.out w hSw; go_simp; rfl⟩) (by assumption) ?_
                  simp only [List.getElem_toArray, List.getElem_cons_succ, List.getElem_cons_zero, Act.put, List.setIfInBounds_toArray, List.set_cons_zero, List.set_cons_succ]
                  refine wpAnyK_take (i := 6) rfl (by kernel_rfl) (by kernel_rfl) (by kernel_rfl) (by kernel_rfl) (fun _ _ _ h => h) (Or.inl ⟨by rfl, fun w hSw => by obtain ⟨s1, s2, s3⟩ := HSS.out w hSw; go_simp; rfl⟩) (by assumption) ?_
                  simp only [List.getElem_toArray, List.getElem_cons_succ, List.getElem_cons_zero, Act.put, List.setIfInBounds_toArray, List.set_cons_zero, List.set_cons_succ]
                  refine wpAnyK_take (i := 7) rfl (by kernel_rfl) (by kernel_rfl) (by kernel_rfl) (by kernel_rfl) (fun _ _ _ h => h) (Or.inl ⟨by rfl, fun w hSw => by obtain ⟨s1, s2, s3⟩ := HSS.out w hSw; go_simp; rfl⟩) (by assumption) ?_
                  simp only [List.getElem_toArray, List.getElem_cons_succ, List.getElem_cons_zero, Act.put, List.setIfInBounds_toArray, List.set_cons_zero, List.set_cons_succ]
                  refine wpAnyK_take (i := 8) rfl (by kernel_rfl) (by kernel_rfl) (by kernel_rfl) (by kernel_rfl) (fun _ _ _ h => h) (Or.inl ⟨by rfl, fun w hSw => by obtain ⟨s1, s2, s3⟩ := HSS.out w hSw; go_simp; rfl⟩) (by assumption) ?_
                  simp only [List.getElem_toArray, List.getElem_cons_succ, List.getElem_cons_zero, Act.put, List.setIfInBounds_toArray, List.set_cons_zero, List.set_cons_succ]
                  refine wpAnyK_take (i := 9) rfl (by kernel_rfl) (by kernel_rfl) (by kernel_rfl) (by kernel_rfl) (fun _ _ _ h => h) (Or.inl ⟨by rfl, fun w hSw => by obtain ⟨s1, s2, s3⟩ := HSS.out w hSw; go_simp; rfl⟩) (by assumption) ?_
                  simp only [List.getElem_toArray, List.getElem_cons_succ, List.getElem_cons_zero, Act.put, List.setIfInBounds_toArray, List.set_cons_zero, List.set_cons_succ]
                  refine wpAnyK_take (i := 10) rfl (by kernel_rfl) (by kernel_rfl) (by kernel_rfl) (by kernel_rfl) (fun _ _ _ h => h) (Or.inl ⟨by rfl, fun w hSw => by obtain ⟨s1, s2, s3⟩ := HSS.out w hSw; go_simp; rfl⟩) (by assumption) ?_
                  simp only [List.getElem_toArray, List.getElem_cons_succ, List.getElem_cons_zero, Act.put, List.setIfInBounds_toArray, List.set_cons_zero, List.set_cons_succ]
                  refine wpAnyK_take (i := 11) rfl (by kernel_rfl) (by kernel_rfl) (by kernel_rfl) (by kernel_rfl) (fun _ _ _ h => h) (Or.inl ⟨by rfl, fun w hSw => by obtain ⟨s1, s2, s3⟩ := HSS.out w hSw; go_simp; rfl⟩) (by assumption) ?_
                  simp only [List.getElem_toArray, List.getElem_cons_succ, List.getElem_cons_zero, Act.put, List.setIfInBounds_toArray, List.set_cons_zero, List.set_cons_succ]
                  refine wpAnyK_take (i := 12) rfl (by kernel_rfl) (by kernel_rfl) (by kernel_rfl) (by kernel_rfl) (fun _ _ _ h => h) (Or.inl ⟨by rfl, fun w hSw => by obtain ⟨s1, s2, s3⟩ := HSS.out w hSw; go_simp; rfl⟩) (by assumption) ?_
                  simp only [List.getElem_toArray, List.getElem_cons_succ, List.getElem_cons_zero, Act.put, List.setIfInBounds_toArray, List.set_cons_zero, List.set_cons_succ]
                  refine wpAnyK_take (i := 13) rfl (by kernel_rfl) (by kernel_rfl) (by kernel_rfl) (by kernel_rfl) (fun _ _ _ h => h) (Or.inl ⟨by rfl, fun w hSw => by obtain ⟨s1, s2, s3⟩ := HSS.out w hSw; go_simp; rfl⟩) (by assumption) ?_
                  simp only [List.getElem_toArray, List.getElem_cons_succ, List.getElem_cons_zero, Act.put, List.setIfInBounds_toArray, List.set_cons_zero, List.set_cons_succ]
                  refine wpAnyK_take (i := 14) rfl (by kernel_rfl) (by kernel_rfl) (by kernel_rfl) (by kernel_rfl) (fun _ _ _ h => h) (Or.inl ⟨by rfl, fun w hSw => by obtain ⟨s1, s2, s3⟩ := HSS.out w hSw; go_simp; rfl⟩) (by assumption) ?_
                  simp only [List.getElem_toArray, List.getElem_cons_succ, List.getElem_cons_zero, Act.put, List.setIfInBounds_toArray, List.set_cons_zero, List.set_cons_succ]
                  have hlv := uOf_len E g
                  obtain ⟨i0, hi0, hi1, hi2, hi3⟩ := info_parts info_int
                  refine wpAnyK_run (i := 15) (v := .slice (some ⟨wd.heap.size, 0, none⟩) 1 1) (w' := wd.alloc (.cells #[.int .i64 (j : Int)] 3)) (by kernel_rfl) rfl (by rfl) (Or.inl (by go_simp)) (fun _ => HSM.out _ ?_) ?_
                  · exact ⟨(World.cell?_alloc_lt _ _ _ (spot_of_cell HCG.out).2).trans HCG.out, (World.cell?_alloc_lt _ _ _ (spot_of_cell HCV.out).2).trans HCV.out, (World.cell?_alloc_lt _ _ _ (spot_of_cell HQ4.out).2).trans HQ4.out⟩
                  simp only [List.getElem_toArray, List.getElem_cons_succ, List.getElem_cons_zero, Act.put, List.setIfInBounds_toArray, List.set_cons_zero, List.set_cons_succ]
                  refine wpAnyK_one (i := 16) (by kernel_rfl) rfl fun K' hK => ?_
                  rw [if_pos (by rfl)]
                  refine wp_append_lies _ (.tmp 86) (.tmp 88) 22 rfl 0 3 i0 (.int .i64 0) 1 8 Try.underlying22 hi0 hi1 hi2 hi3 rfl (by decide) (.slice aov (uOf E g).length capv) (uOf E g).length ((uOf E g).flatMap encN) rfl (ownsRow_below HOV.out ((Below.refl wd.heap.size wd).alloc (Nat.le_refl _) _)) ⟨wd.heap.size, 0, none⟩ 1 1 [.int .i64 (j : Int)] rfl rfl (cells_new _ _ _) (by simp [Value.oneCell']) (by decide) (by unfold maxLen; omega) (by omega) (Nat.zero_le _) _ rfl fun g3 cap3 w5 hown5 hgrow5 hat5 hlt5 => ?_
                  obtain ⟨p1, p2, p3, tg', p4, p5, p6, p7⟩ := HKV.out w5 (.slice (some ⟨g3, 0, none⟩) ((uOf E g).length + 1) cap3) (uOf E g ++ [j]) (ext_grown ((Ext.refl _ _).alloc _) hgrow5) (by rw [List.length_append, List.flatMap_append]; exact hown5) (fun k hk => by
                    have e : some g3 = some k := hk
                    obtain rfl := Option.some.inj e
                    rcases hat5 with h | h
                    · exact .inl h
                    · right; rw [h, World.size_alloc]; omega)
                  have s1 := p3 ⟨G, 1, none⟩ _ HCG.out HGD.out.tg
                  have s3 := p3 ⟨P2, 4, none⟩ _ HQ4.out HT2.out
                  have hS5 : S w5 := HSM.out _ ⟨s1, p1, s3⟩
                  refine hK _ _ (fun _ => hS5) ?_
                  simp only [List.getElem_toArray, List.getElem_cons_succ, List.getElem_cons_zero, Act.put, List.setIfInBounds_toArray, List.set_cons_zero, List.set_cons_succ]
                  obtain ⟨wy, hwy⟩ : ∃ wy, w5.setCell ⟨UP, g, none⟩ (.slice (some ⟨g3, 0, none⟩) ((uOf E g).length + 1) cap3) = wy := ⟨_, rfl⟩
                  rw [hwy] at p4 p5 p6
                  have HGX2 := Lib.hid p4
                  have HBX2 : Hid (Below B W1 wy) := HBD.out.trans (p5.below hsd (fun _ h => h))
                  have HP42 : Hid (wy.cell? ⟨P2, 4, none⟩ = some (.int .i64 (g : Int))) := p6 ⟨P2, 4, none⟩ _ HQ4.out HT2.out
                  have HT22 : Hid (tg' P2 = 0) := (p7 P2 (spot_of_cell HQ4.out).2).trans HT2.out
                  clear p3 p4 p5 p6 p7 hown5 hgrow5 hat5 hlt5
                  refine wpAnyK_run (i := 17) (v := .pointer (some ⟨UP, g, none⟩)) (w' := w5) (by kernel_rfl) rfl (by rfl) (Or.inl (by go_simp)) (fun _ => hS5) ?_
                  simp only [List.getElem_toArray, List.getElem_cons_succ, List.getElem_cons_zero, Act.put, List.setIfInBounds_toArray, List.set_cons_zero, List.set_cons_succ]
                  refine wpAnyK_run (i := 18) (v := undef) (w' := w5.setCell ⟨UP, g, none⟩ (.slice (some ⟨g3, 0, none⟩) ((uOf E g).length + 1) cap3)) (by kernel_rfl) rfl (by rfl) (Or.inr ⟨by go_simp, rfl⟩) (fun h => absurd rfl h) ?_
                  simp only [List.getElem_toArray, List.getElem_cons_succ, List.getElem_cons_zero, Act.put]
                  refine wpAnyK_done (by kernel_rfl) ?_ _
                  rw [hwy]
                  clear hwy s1 s3 hS5 hS0 p1 p2 hsd hK hi0 hi1 hi2 hi3 hlv HGX HBX HP4 HT2 HKV HOV HCV HCG HSS HSM HQ4 HGD HBD
                  have HGX := HGX2
                  have HBX := HBX2
                  have HP4 := HP42
                  have HT2 := HT22
                  clear HGX2 HBX2 HP42 HT22
                  go_wp2_with fail
                  obtain ⟨tgB, htgB⟩ : ∃ t, t = tg' := ⟨_, rfl⟩
                  rw [← htgB] at HGX HT2
                  clear htgB
                  obtain ⟨wz, hwz⟩ : ∃ wz, wz = wy := ⟨_, rfl⟩
                  rw [← hwz] at HGX HBX HP4
                  rw [← hwz]
                  clear hwz S
                  obtain ⟨wd, hwd⟩ : ∃ wd, wz.drew = wd := ⟨_, rfl⟩
                  have hgd : GM wd B G n DN UP ST RE GP (.slice none 0 0) tgB (fun x => if x = j then dOf E j ++ [g] else dOf E x) (fun x => if x = g then uOf E g ++ [j] else uOf E x) (sOf E) (fun _ => []) (fun _ => 0) := by rw [← hwd]; exact HGX.out.drew
                  have HGD := Lib.hid hgd
                  have HBD : Hid (Below B W1 wd) := by rw [← hwd]; exact HBX.out.drew
                  have hsd : B ≤ wd.heap.size := by have := HBD.out.size; have := HB.out; omega
                  obtain ⟨aov, capv, cv, ov, hk⟩ := hgd.storeS hsd hgn
                  have HKV := Lib.hid hk
                  have HOV := Lib.hid ov
                  have HCV := Lib.hid cv
                  obtain ⟨_, _, cG, _⟩ := hgd.cells
                  have HCG := Lib.hid cG
                  obtain ⟨S, hS⟩ : ∃ S : World → Prop, S = fun w' => w'.cell? ⟨G, 2, none⟩ = some (.slice (some ⟨ST, 0, none⟩) n n) ∧ w'.cell? ⟨ST, g, none⟩ = some (.slice aov (sOf E g).length capv) ∧ w'.cell? ⟨P2, 4, none⟩ = some (.int .i64 (g : Int)) := ⟨_, rfl⟩
                  have HSS : Hid (∀ w', S w' → w'.cell? ⟨G, 2, none⟩ = some (.slice (some ⟨ST, 0, none⟩) n n) ∧ w'.cell? ⟨ST, g, none⟩ = some (.slice aov (sOf E g).length capv) ∧ w'.cell? ⟨P2, 4, none⟩ = some (.int .i64 (g : Int))) := fun w' h => by rw [hS] at h; exact h
                  have HSM : Hid (∀ w', w'.cell? ⟨G, 2, none⟩ = some (.slice (some ⟨ST, 0, none⟩) n n) ∧ w'.cell? ⟨ST, g, none⟩ = some (.slice aov (sOf E g).length capv) ∧ w'.cell? ⟨P2, 4, none⟩ = some (.int .i64 (g : Int)) → S w') := fun w' h => by rw [hS]; exact h
                  have HQ4 : Hid (wd.cell? ⟨P2, 4, none⟩ = some (.int .i64 (g : Int))) := by rw [← hwd]; exact HP4.out
                  have hS0 : S wd := HSM.out _ ⟨cG, cv, HQ4.out⟩
                  clear hgd hk cv ov cG hS
                  refine wp_region_K 20 S (by kernel_rfl) ?_
                  rw [hwd]
                  clear hwd
                  refine wpAnyK_take (i := 0) rfl (by kernel_rfl) (by kernel_rfl) (by kernel_rfl) (by kernel_rfl) (fun _ _ _ h => h) (Or.inl ⟨by rfl, fun w hSw => by obtain ⟨s1, s2, s3⟩ := HSS.out w hSw; go_simp; rfl⟩) (by assumption) ?_
                  simp only [List.getElem_toArray, List.getElem_cons_zero, Act.put, List.setIfInBounds_toArray, List.set_cons_zero, List.set_cons_succ]
                  refine wpAnyK_take (i := 1) rfl (by kernel_rfl) (by kernel_rfl) (by kernel_rfl) (by kernel_rfl) (fun _ _ _ h => h) (Or.inl ⟨by rfl, fun w hSw => by obtain ⟨s1, s2, s3⟩ := HSS.out w hSw; go_simp; rfl⟩) (by assumption) ?_
                  simp only [List.getElem_toArray, List.getElem_cons_succ, List.getElem_cons_zero, Act.put, List.setIfInBounds_toArray, List.set_cons_zero, List.set_cons_succ]
                  refine wpAnyK_take (i := 2) rfl (by kernel_rfl) (by kernel_rfl) (by kernel_rfl) (by kernel_rfl) (fun _ _ _ h => h) (Or.inl ⟨by rfl, fun w hSw => by obtain ⟨s1, s2, s3⟩ := HSS.out w hSw; go_simp; rfl⟩) (by assumption) ?_
                  simp only [List.getElem_toArray, List.getElem_cons_succ, List.getElem_cons_zero, Act.put, List.setIfInBounds_toArray, List.set_cons_zero, List.set_cons_succ]
                  refine wpAnyK_take (i := 3) rfl (by kernel_rfl) (by kernel_rfl) (by kernel_rfl) (by kernel_rfl) (fun _ _ _ h => h) (Or.inl ⟨by rfl, fun w hSw => by obtain ⟨s1, s2, s3⟩ := HSS.out w hSw; go_simp; rfl⟩) (by assumption) ?_
                  simp only [List.getElem_toArray, List.getElem_cons_succ, List.getElem_cons_zero, Act.put, List.setIfInBounds_toArray, List.set_cons_zero, List.set_cons_succ]
                  refine wpAnyK_take (i := 4) rfl (by kernel_rfl) (by kernel_rfl) (by kernel_rfl) (by kernel_rfl) (fun _ _ _ h => h) (Or.inl ⟨by rfl, fun w hSw => by obtain ⟨s1, s2, s3⟩ := HSS.out w hSw; go_simp; rfl⟩) (by assumption) ?_
                  simp only [List.getElem_toArray, List.getElem_cons_succ, List.getElem_cons_zero, Act.put, List.setIfInBounds_toArray, List.set_cons_zero, List.set_cons_succ]
                  refine wpAnyK_take (i := 5) rfl (by kernel_rfl) (by kernel_rfl) (by kernel_rfl) (by kernel_rfl) (fun _ _ _ h => h) (Or.inl ⟨by rfl, fun w hSw => by obtain ⟨s1, s2, s3⟩ := HSS.out w hSw; go_simp; rfl⟩) (by assumption) ?_
                  simp only [List.getElem_toArray, List.getElem_cons_succ, List.getElem_cons_zero, Act.put, List.setIfInBounds_toArray, List.set_cons_zero, List.set_cons_succ]
                  refine wpAnyK_take (i := 6) rfl (by kernel_rfl) (by kernel_rfl) (by kernel_rfl) (by kernel_rfl) (fun _ _ _ h => h) (Or.inl ⟨by rfl, fun w hSw => by obtain ⟨s1, s2, s3⟩ := HSS.out w hSw; go_simp; rfl⟩) (by assumption) ?_
                  simp only [List.getElem_toArray, List.getElem_cons_succ, List.getElem_cons_zero, Act.put, List.setIfInBounds_toArray, List.set_cons_zero, List.set_cons_succ]
                  refine wpAnyK_take (i := 7) rfl (by kernel_rfl) (by kernel_rfl) (by kernel_rfl) (by kernel_rfl) (fun _ _ _ h => h) (Or.inl ⟨by rfl, fun w hSw => by obtain ⟨s1, s2, s3⟩ := HSS.out w hSw; go_simp; rfl⟩) (by assumption) ?_
                  simp only [List.getElem_toArray, List.getElem_cons_succ, List.getElem_cons_zero, Act.put, List.setIfInBounds_toArray, List.set_cons_zero, List.set_cons_succ]
                  refine wpAnyK_take (i := 8) rfl (by kernel_rfl) (by kernel_rfl) (by kernel_rfl) (by kernel_rfl) (fun _ _ _ h => h) (Or.inl ⟨by rfl, fun w hSw => by obtain ⟨s1, s2, s3⟩ := HSS.out w hSw; go_simp; rfl⟩) (by assumption) ?_
                  simp only [List.getElem_toArray, List.getElem_cons_succ, List.getElem_cons_zero, Act.put, List.setIfInBounds_toArray, List.set_cons_zero, List.set_cons_succ]
                  refine wpAnyK_take (i := 9) rfl (by kernel_rfl) (by kernel_rfl) (by kernel_rfl) (by kernel_rfl) (fun _ _ _ h => h) (Or.inl ⟨by rfl, fun w hSw => by obtain ⟨s1, s2, s3⟩ := HSS.out w hSw; go_simp; rfl⟩) (by assumption) ?_
                  simp only [List.getElem_toArray, List.getElem_cons_succ, List.getElem_cons_zero, Act.put, List.setIfInBounds_toArray, List.set_cons_zero, List.set_cons_succ]
                  refine wpAnyK_take (i := 10) rfl (by kernel_rfl) (by kernel_rfl) (by kernel_rfl) (by kernel_rfl) (fun _ _ _ h => h) (Or.inl ⟨by rfl, fun w hSw => by obtain ⟨s1, s2, s3⟩ := HSS.out w hSw; go_simp; rfl⟩) (by assumption) ?_
                  simp only [List.getElem_toArray, List.getElem_cons_succ, List.getElem_cons_zero, Act.put, List.setIfInBounds_toArray, List.set_cons_zero, List.set_cons_succ]
                  refine wpAnyK_take (i := 11) rfl (by kernel_rfl) (by kernel_rfl) (by kernel_rfl) (by kernel_rfl) (fun _ _ _ h => h) (Or.inl ⟨by rfl, fun w hSw => by obtain ⟨s1, s2, s3⟩ := HSS.out w hSw; go_simp; rfl⟩) (by assumption) ?_
                  simp only [List.getElem_toArray, List.getElem_cons_succ, List.getElem_cons_zero, Act.put, List.setIfInBounds_toArray, List.set_cons_zero, List.set_cons_succ]
                  refine wpAnyK_take (i := 12) rfl (by kernel_rfl) (by kernel_rfl) (by kernel_rfl) (by kernel_rfl) (fun _ _ _ h => h) (Or.inl ⟨by rfl, fun w hSw => by obtain ⟨s1, s2, s3⟩ := HSS.out w hSw; go_simp; rfl⟩) (by assumption) ?_
                  simp only [List.getElem_toArray, List.getElem_cons_succ, List.getElem_cons_zero, Act.put, List.setIfInBounds_toArray, List.set_cons_zero, List.set_cons_succ]
                  refine wpAnyK_take (i := 13) rfl (by kernel_rfl) (by kernel_rfl) (by kernel_rfl) (by kernel_rfl) (fun _ _ _ h => h) (Or.inl ⟨by rfl, fun w hSw => by obtain ⟨s1, s2, s3⟩ := HSS.out w hSw; go_simp; rfl⟩) (by assumption) ?_
                  simp only [List.getElem_toArray, List.getElem_cons_succ, List.getElem_cons_zero, Act.put, List.setIfInBounds_toArray, List.set_cons_zero, List.set_cons_succ]
                  refine wpAnyK_take (i := 14) rfl (by kernel_rfl) (by kernel_rfl) (by kernel_rfl) (by kernel_rfl) (fun _ _ _ h => h) (Or.inl ⟨by rfl, fun w hSw => by obtain ⟨s1, s2, s3⟩ := HSS.out w hSw; go_simp; rfl⟩) (by assumption) ?_
                  simp only [List.getElem_toArray, List.getElem_cons_succ, List.getElem_cons_zero, Act.put, List.setIfInBounds_toArray, List.set_cons_zero, List.set_cons_succ]
                  refine wpAnyK_take (i := 15) rfl (by kernel_rfl) (by kernel_rfl) (by kernel_rfl) (by kernel_rfl) (fun _ _ _ h => h) (Or.inl ⟨by rfl, fun w hSw => by obtain ⟨s1, s2, s3⟩ := HSS.out w hSw; go_simp; rfl⟩) (by assumption) ?_
                  simp only [List.getElem_toArray, List.getElem_cons_succ, List.getElem_cons_zero, Act.put, List.setIfInBounds_toArray, List.set_cons_zero, List.set_cons_succ]
                  refine wpAnyK_take (i := 16) rfl (by kernel_rfl) (by kernel_rfl) (by kernel_rfl) (by kernel_rfl) (fun _ _ _ h => h) (Or.inl ⟨by rfl, fun w hSw => by obtain ⟨s1, s2, s3⟩ := HSS.out w hSw; go_simp; rfl⟩) (by assumption) ?_
                  simp only [List.getElem_toArray, List.getElem_cons_succ, List.getElem_cons_zero, Act.put, List.setIfInBounds_toArray, List.set_cons_zero, List.set_cons_succ]
                  have hlv := sOf_len E g
                  obtain ⟨i0, hi0, hi1, hi2, hi3⟩ := info_parts info_pair
                  refine wpAnyK_run (i := 17) (v := .slice (some ⟨wd.heap.size, 0, none⟩) 1 1) (w' := wd.alloc (.cells #[.int .i64 (j : Int), .int .i64 (k : Int)] 117)) (by kernel_rfl) rfl (by rfl) (Or.inl (by go_simp)) (fun _ => HSM.out _ ?_) ?_
                  · exact ⟨(World.cell?_alloc_lt _ _ _ (spot_of_cell HCG.out).2).trans HCG.out, (World.cell?_alloc_lt _ _ _ (spot_of_cell HCV.out).2).trans HCV.out, (World.cell?_alloc_lt _ _ _ (spot_of_cell HQ4.out).2).trans HQ4.out⟩
                  simp only [List.getElem_toArray, List.getElem_cons_succ, List.getElem_cons_zero, Act.put, List.setIfInBounds_toArray, List.set_cons_zero, List.set_cons_succ]
                  refine wpAnyK_one (i := 18) (by kernel_rfl) rfl fun K' hK => ?_
                  rw [if_pos (by rfl)]
                  refine wp_append_lies _ (.tmp 104) (.tmp 108) 76 rfl 0 117 i0 (.agg #[.int .i64 0, .int .i64 0]) 2 16 Try.underlying76 hi0 hi1 hi2 hi3 rfl (by decide) (.slice aov (sOf E g).length capv) (sOf E g).length ((sOf E g).flatMap encP) rfl (ownsRow_below HOV.out ((Below.refl wd.heap.size wd).alloc (Nat.le_refl _) _)) ⟨wd.heap.size, 0, none⟩ 1 1 [.int .i64 (j : Int), .int .i64 (k : Int)] rfl rfl (cells_new _ _ _) (by simp [Value.oneCell']) (by decide) (by unfold maxLen; omega) (by omega) (Nat.zero_le _) _ rfl fun g3 cap3 w5 hown5 hgrow5 hat5 hlt5 => ?_
                  obtain ⟨p1, p2, p3, tg', p4, p5, p6, p7⟩ := HKV.out w5 (.slice (some ⟨g3, 0, none⟩) ((sOf E g).length + 1) cap3) (sOf E g ++ [(j, k)]) (ext_grown ((Ext.refl _ _).alloc _) hgrow5) (by rw [List.length_append, List.flatMap_append]; exact hown5) (fun k hk => by
                    have e : some g3 = some k := hk
                    obtain rfl := Option.some.inj e
                    rcases hat5 with h | h
                    · exact .inl h
                    · right; rw [h, World.size_alloc]; omega)
                  have s1 := p3 ⟨G, 2, none⟩ _ HCG.out HGD.out.tg
                  have s3 := p3 ⟨P2, 4, none⟩ _ HQ4.out HT2.out
                  have hS5 : S w5 := HSM.out _ ⟨s1, p1, s3⟩
                  refine hK _ _ (fun _ => hS5) ?_
                  simp only [List.getElem_toArray, List.getElem_cons_succ, List.getElem_cons_zero, Act.put, List.setIfInBounds_toArray, List.set_cons_zero, List.set_cons_succ]
                  obtain ⟨wy, hwy⟩ : ∃ wy, w5.setCell ⟨ST, g, none⟩ (.slice (some ⟨g3, 0, none⟩) ((sOf E g).length + 1) cap3) = wy := ⟨_, rfl⟩
                  rw [hwy] at p4 p5 p6
                  have HGX2 := Lib.hid p4
                  have HBX2 : Hid (Below B W1 wy) := HBD.out.trans (p5.below hsd (fun _ h => h))
                  have HP42 : Hid (wy.cell? ⟨P2, 4, none⟩ = some (.int .i64 (g : Int))) := p6 ⟨P2, 4, none⟩ _ HQ4.out HT2.out
                  have HT22 : Hid (tg' P2 = 0) := (p7 P2 (spot_of_cell HQ4.out).2).trans HT2.out
                  clear p3 p4 p5 p6 p7 hown5 hgrow5 hat5 hlt5
                  refine wpAnyK_run (i := 19) (v := .pointer (some ⟨ST, g, none⟩)) (w' := w5) (by kernel_rfl) rfl (by rfl) (Or.inl (by go_simp)) (fun _ => hS5) ?_
                  simp only [List.getElem_toArray, List.getElem_cons_succ, List.getElem_cons_zero, Act.put, List.setIfInBounds_toArray, List.set_cons_zero, List.set_cons_succ]
                  refine wpAnyK_run (i := 20) (v := undef) (w' := w5.setCell ⟨ST, g, none⟩ (.slice (some ⟨g3, 0, none⟩) ((sOf E g).length + 1) cap3)) (by kernel_rfl) rfl (by rfl) (Or.inr ⟨by go_simp, rfl⟩) (fun h => absurd rfl h) ?_
                  simp only [List.getElem_toArray, List.getElem_cons_succ, List.getElem_cons_zero, Act.put]
                  refine wpAnyK_done (by kernel_rfl) ?_ _
                  rw [hwy]
                  clear hwy s1 s3 hS5 hS0 p1 p2 hsd hK hi0 hi1 hi2 hi3 hlv HGX HBX HP4 HT2 HKV HOV HCV HCG HSS HSM HQ4 HGD HBD
                  have HGX := HGX2
                  have HBX := HBX2
                  have HP4 := HP42
                  have HT2 := HT22
                  clear HGX2 HBX2 HP42 HT22
                  have HN2 : Hid (OfJ fs f.c.ins j W1 B G n DN UP ST RE GP (.int .i64 ((k : Int) + 1)) wy) := by
                    refine ⟨k + 1, E ++ [(j, k, g)], tg', by omega, by simp, ?_, ?_, HBX.out⟩
                    · have h1 := HE.out
                      rw [HCT.out] at h1
                      rw [List.append_assoc]; exact h1
                    · rw [dOf_push, uOf_push, sOf_push]; exact HGX.out
                  go_wp2
                  go_roundw
                  case rel => exact HN2.out
                  case measure => simp [intOf]; omega
                · have hgI : decide ((g : Int) < (n : Int)) = false := decide_eq_false (by omega)
                  have hge : decide (g < n) = false := decide_eq_false hgn
                  have HN2 : Hid (OfJ fs f.c.ins j W1 B G n DN UP ST RE GP (.int .i64 ((k : Int) + 1)) W6) := by
                    refine ⟨k + 1, E, tg, by omega, by simp, ?_, HGX.out, HBX.out⟩
                    have h1 := HE.out
                    rw [show cAt n i = none from if_neg (by omega)] at h1
                    exact h1
                  clear hf0 hop hg hgn
                  go_wp2
                  go_roundw
                  case rel => exact HN2.out
                  case measure => simp [intOf]; omega
            · have hopb : (i.op == 15) = false := by rw [beq_eq_false_iff_ne]; exact hop
              have HN2 : Hid (OfJ fs f.c.ins j W1 B G n DN UP ST RE GP (.int .i64 ((k : Int) + 1)) W6) := by
                refine ⟨k + 1, E, tg, by omega, by simp, ?_, HGX.out, HBX.out⟩
                have h1 := HE.out
                rw [show cAt n i = none from if_neg (fun h => hop h.1)] at h1
                exact h1
              clear hop
              go_wp2
              go_roundw
              case rel => exact HN2.out
              case measure => simp [intOf]; omega
          · have hke : k = f.c.ins.length := by omega
            have HN2 : Hid (OfI fs W1 B G n DN UP ST RE GP (.int .i64 ((j : Int) + 1)) wr) := by
              refine ⟨j + 1, E, tg, by omega, by simp, ?_, hgm, hb⟩
              rw [hke, List.drop_length] at hE
              exact hE
            clear hE hgm hb
            go_wp2
            go_roundw
            case rel => exact HN2.out
            case measure => simp [intOf]; omega
      · have hje : j = n := by omega
        subst hje
        have hEA : E0 = allCalls j 0 fs := by
          rw [show fs.drop j = [] from List.drop_of_length_le (by have := HN.out; omega)] at hE
          simpa [allCalls] using hE
        obtain ⟨A, hA⟩ : ∃ A, allCalls j 0 fs = A := ⟨_, rfl⟩
        rw [hA] at hEA HTOT
        subst hEA
        have HA := Lib.hid hA
        have HGM3 := Lib.hid hgm
        have HB3 := Lib.hid hb
        have HDLT : Hid (∀ x y, y ∈ dOf E0 x → y < j) := fun x y hy => by rw [← HA.out] at hy; exact dOf_lt hy
        have HULT : Hid (∀ x, Lib.compact (nums (uOf E0 x)) = nums (sel j (uOf E0 x))) := fun x => by
          rw [← HA.out]
          have := @up_sel j fs x
          rw [HN.out] at this
          exact this
        clear hA hE hgm hb
        go_wp2_with fail
        go_loopw [114] (fun c wr => OfK E0 W1 B G j DN UP ST RE GP c wr) (fun c _ => j - (intOf c).toNat)
        case atStart => exact ⟨0, dOf E0, uOf E0, tg0, Nat.zero_le _, rfl, HGM3.out, HB3.out, fun x h => absurd h (Nat.not_lt_zero _), fun x _ => ⟨rfl, rfl⟩⟩
        case round =>
          obtain ⟨f, dd, uu, tg, hf, rfl, hgm, hb, hlo, hhi⟩ := hrel
          by_cases hfj : f < j
          · have hfI : (f : Int) < (j : Int) := by omega
            obtain ⟨vv, cv, _, ov, tv⟩ := hgm.D.at_ hfj
            obtain ⟨aov, capv, rfl⟩ := ownsRow_slice ov
            have hl1 : (dd f).length ≤ 1200 := by rw [(hhi f (Nat.le_refl _)).1]; have := dOf_len E0 f; have := HTOT.out; omega
            have HSO := Lib.hid (sortN_calls wr _ (dd f) ov (by omega))
            have HTV : Hid (∀ k, (Value.slice aov (dd f).length capv).ownBlock = some k → tg k = 1) := fun k hk => (tv k hk).1
            obtain ⟨c0, _⟩ := hgm.cells
            have HGM4 := Lib.hid hgm
            have HB4 := Lib.hid hb
            have HLO := Lib.hid hlo
            have HHI := Lib.hid hhi
            have HCV0 := Lib.hid cv
            clear hgm hb hlo hhi ov tv
            go_upto_region 19 with (go_at_call 75; refine HSO.out.mono ?_; rintro e w2 ⟨rfl, ys, hys, hyl, hx2, hown2⟩; have HYS := Lib.hid hys; have HX2 := Lib.hid hx2; have HO2 := Lib.hid hown2; clear hys hx2 hown2)
            have hg2 := HGM4.out.turnD HCV0.out HX2.out HO2.out
            have HBX : Hid (Below B W1 w2) := HB4.out.trans (HX2.out.below (by have := HB4.out.size; have := HB.out; omega) (fun k hk => HGM4.out.low k (by rw [HTV.out k hk]; decide)))
            obtain ⟨dd2, hdd2⟩ : ∃ dd2 : Nat → List Nat, (fun x => if x = f then ys else dd x) = dd2 := ⟨_, rfl⟩
            rw [hdd2] at hg2
            have HD2 : Hid (dd2 f = ys ∧ ∀ x, x ≠ f → dd2 x = dd x) := by rw [← hdd2]; exact ⟨if_pos rfl, fun x hx => if_neg hx⟩
            have HGX := Lib.hid hg2
            have hl2 : (dd2 f).length ≤ 1200 := by rw [HD2.out.1]; omega
            clear c0 cv hdd2 hg2 HSO HTV HX2 HO2 HCV0
            obtain ⟨wd, hwd⟩ : ∃ wd, w2.drew = wd := ⟨_, rfl⟩
            have hgd : GM wd B G j DN UP ST RE GP (.slice none 0 0) tg dd2 uu (sOf E0) (fun _ => []) (fun _ => 0) := by rw [← hwd]; exact HGX.out.drew
            have HGD := Lib.hid hgd
            have HBD : Hid (Below B W1 wd) := by rw [← hwd]; exact HBX.out.drew
            have hsd : B ≤ wd.heap.size := by have := HBD.out.size; have := HB.out; omega
            obtain ⟨aov, capv, cv, ov, hk⟩ := hgd.storeD hsd hfj
            have HKV := Lib.hid hk
            have HOV := Lib.hid ov
            have HCV := Lib.hid cv
            obtain ⟨cG, _⟩ := hgd.cells
            have HCG := Lib.hid cG
            obtain ⟨S, hS⟩ : ∃ S : World → Prop, S = fun w' => w'.cell? ⟨G, 0, none⟩ = some (.slice (some ⟨DN, 0, none⟩) j j) ∧ w'.cell? ⟨DN, f, none⟩ = some (.slice aov (dd2 f).length capv) := ⟨_, rfl⟩
            have HSS : Hid (∀ w', S w' → w'.cell? ⟨G, 0, none⟩ = some (.slice (some ⟨DN, 0, none⟩) j j) ∧ w'.cell? ⟨DN, f, none⟩ = some (.slice aov (dd2 f).length capv)) := fun w' h => by rw [hS] at h; exact h
            have HSM : Hid (∀ w', w'.cell? ⟨G, 0, none⟩ = some (.slice (some ⟨DN, 0, none⟩) j j) ∧ w'.cell? ⟨DN, f, none⟩ = some (.slice aov (dd2 f).length capv) → S w') := fun w' h => by rw [hS]; exact h
            have hS0 : S wd := HSM.out _ ⟨cG, cv⟩
            clear hgd hk cv ov cG hS
            refine wp_region_K 14 S (by kernel_rfl) ?_
            rw [hwd]
            clear hwd
            refine wpAnyK_take (i := 0) rfl (by kernel_rfl) (by kernel_rfl) (by kernel_rfl) (by kernel_rfl) (fun _ _ _ h => h) (Or.inl ⟨by rfl, fun w hSw => by obtain ⟨s1, s2⟩ := HSS.out w hSw; go_simp; rfl⟩) (by assumption) ?_
            simp only [List.getElem_toArray, List.getElem_cons_zero, Act.put, List.setIfInBounds_toArray, List.set_cons_zero, List.set_cons_succ]
            refine wpAnyK_take (i := 1) rfl (by kernel_rfl) (by kernel_rfl) (by kernel_rfl) (by kernel_rfl) (fun _ _ _ h => h) (Or.inl ⟨by rfl, fun w hSw => by obtain ⟨s1, s2⟩ := HSS.out w hSw; go_simp; rfl⟩) (by assumption) ?_
            simp only [List.getElem_toArray, List.getElem_cons_succ, List.getElem_cons_zero, Act.put, List.setIfInBounds_toArray, List.set_cons_zero, List.set_cons_succ]
            refine wpAnyK_take (i := 2) rfl (by kernel_rfl) (by kernel_rfl) (by kernel_rfl) (by kernel_rfl) (fun _ _ _ h => h) (Or.inl ⟨by rfl, fun w hSw => by obtain ⟨s1, s2⟩ := HSS.out w hSw; go_simp; rfl⟩) (by assumption) ?_
            simp only [List.getElem_toArray, List.getElem_cons_succ, List.getElem_cons_zero, Act.put, List.setIfInBounds_toArray, List.set_cons_zero, List.set_cons_succ]
            refine wpAnyK_take (i := 3) rfl (by kernel_rfl) (by kernel_rfl) (by kernel_rfl) (by kernel_rfl) (fun _ _ _ h => h) (Or.inl ⟨by rfl, fun w hSw => by obtain ⟨s1, s2⟩ := HSS.out w hSw; go_simp; rfl⟩) (by assumption) ?_
            simp only [List.getElem_toArray, List.getElem_cons_succ, List.getElem_cons_zero, Act.put, List.setIfInBounds_toArray, List.set_cons_zero, List.set_cons_succ]
            refine wpAnyK_take (i := 4) rfl (by kernel_rfl) (by kernel_rfl) (by kernel_rfl) (by kernel_rfl) (fun _ _ _ h => h) (Or.inl ⟨by rfl, fun w hSw => by obtain ⟨s1, s2⟩ := HSS.out w hSw; go_simp; rfl⟩) (by assumption) ?_
            simp only [List.getElem_toArray, List.getElem_cons_succ, List.getElem_cons_zero, Act.put, List.setIfInBounds_toArray, List.set_cons_zero, List.set_cons_succ]
            refine wpAnyK_take (i := 5) rfl (by kernel_rfl) (by kernel_rfl) (by kernel_rfl) (by kernel_rfl) (fun _ _ _ h => h) (Or.inl ⟨by rfl, fun w hSw => by obtain ⟨s1, s2⟩ := HSS.out w hSw; go_simp; rfl⟩) (by assumption) ?_
            simp only [List.getElem_toArray, List.getElem_cons_succ, List.getElem_cons_zero, Act.put, List.setIfInBounds_toArray, List.set_cons_zero, List.set_cons_succ]
            refine wpAnyK_take (i := 6) rfl (by kernel_rfl) (by kernel_rfl) (by kernel_rfl) (by kernel_rfl) (fun _ _ _ h => h) (Or.inl ⟨by rfl, fun w hSw => by obtain ⟨s1, s2⟩ := HSS.out w hSw; go_simp; rfl⟩) (by assumption) ?_
            simp only [List.getElem_toArray, List.getElem_cons_succ, List.getElem_cons_zero, Act.put, List.setIfInBounds_toArray, List.set_cons_zero, List.set_cons_succ]
            refine wpAnyK_take (i := 7) rfl (by kernel_rfl) (by kernel_rfl) (by kernel_rfl) (by kernel_rfl) (fun _ _ _ h => h) (Or.inl ⟨by rfl, fun w hSw => by obtain ⟨s1, s2⟩ := HSS.out w hSw; go_simp; rfl⟩) (by assumption) ?_
            simp only [List.getElem_toArray, List.getElem_cons_succ, List.getElem_cons_zero, Act.put, List.setIfInBounds_toArray, List.set_cons_zero, List.set_cons_succ]
            refine wpAnyK_take (i := 8) rfl (by kernel_rfl) (by kernel_rfl) (by kernel_rfl) (by kernel_rfl) (fun _ _ _ h => h) (Or.inl ⟨by rfl, fun w hSw => by obtain ⟨s1, s2⟩ := HSS.out w hSw; go_simp; rfl⟩) (by assumption) ?_
            simp only [List.getElem_toArray, List.getElem_cons_succ, List.getElem_cons_zero, Act.put, List.setIfInBounds_toArray, List.set_cons_zero, List.set_cons_succ]
            refine wpAnyK_take (i := 9) rfl (by kernel_rfl) (by kernel_rfl) (by kernel_rfl) (by kernel_rfl) (fun _ _ _ h => h) (Or.inl ⟨by rfl, fun w hSw => by obtain ⟨s1, s2⟩ := HSS.out w hSw; go_simp; rfl⟩) (by assumption) ?_
            simp only [List.getElem_toArray, List.getElem_cons_succ, List.getElem_cons_zero, Act.put, List.setIfInBounds_toArray, List.set_cons_zero, List.set_cons_succ]
            refine wpAnyK_take (i := 10) rfl (by kernel_rfl) (by kernel_rfl) (by kernel_rfl) (by kernel_rfl) (fun _ _ _ h => h) (Or.inl ⟨by rfl, fun w hSw => by obtain ⟨s1, s2⟩ := HSS.out w hSw; go_simp; rfl⟩) (by assumption) ?_
            simp only [List.getElem_toArray, List.getElem_cons_succ, List.getElem_cons_zero, Act.put, List.setIfInBounds_toArray, List.set_cons_zero, List.set_cons_succ]
            refine wpAnyK_take (i := 11) rfl (by kernel_rfl) (by kernel_rfl) (by kernel_rfl) (by kernel_rfl) (fun _ _ _ h => h) (Or.inl ⟨by rfl, fun w hSw => by obtain ⟨s1, s2⟩ := HSS.out w hSw; go_simp; rfl⟩) (by assumption) ?_
            simp only [List.getElem_toArray, List.getElem_cons_succ, List.getElem_cons_zero, Act.put, List.setIfInBounds_toArray, List.set_cons_zero, List.set_cons_succ]
            have HCO := Lib.hid (compN_calls wd (.slice aov (dd2 f).length capv) (dd2 f) HOV.out (by omega))
            refine wpAnyK_one (i := 12) (by kernel_rfl) rfl fun K' hK => ?_
            rw [if_pos (by rfl)]
            go_simp
            go_at_call 53
            refine HCO.out.mono ?_
            rintro e w5 ⟨v5, zs19, rfl, hzs, hx5, hb5, hown5⟩
            have HZS19 := Lib.hid hzs
            obtain ⟨ao5, cap5, rfl⟩ := ownsRow_slice hown5
            obtain ⟨p1, p2, p3, tg', p4, p5, p6, p7⟩ := HKV.out w5 (.slice ao5 (zs19).length cap5) zs19 hx5 hown5 (fun k hk => .inl (by rw [← hb5]; exact hk))
            clear hzs hx5 hb5 hown5 HCO
            have s1 := p3 ⟨G, 0, none⟩ _ HCG.out HGD.out.tg
            have hS5 : S w5 := HSM.out _ ⟨s1, p1⟩
            refine hK _ _ (fun _ => hS5) ?_
            try simp only [List.getElem_toArray, List.getElem_cons_succ, List.getElem_cons_zero, Act.put, List.setIfInBounds_toArray, List.set_cons_zero, List.set_cons_succ]
            obtain ⟨wy, hwy⟩ : ∃ wy, w5.setCell ⟨DN, f, none⟩ (.slice ao5 zs19.length cap5) = wy := ⟨_, rfl⟩
            rw [hwy] at p4 p5 p6
            have HGX2 := Lib.hid p4
            have HBX2 : Hid (Below B W1 wy) := HBD.out.trans (p5.below hsd (fun _ h => h))
            clear p3 p4 p5 p6 p7
            refine wpAnyK_run (i := 13) (v := .pointer (some ⟨DN, f, none⟩)) (w' := w5) (by kernel_rfl) rfl (by rfl) (Or.inl (by go_simp)) (fun _ => hS5) ?_
            simp only [List.getElem_toArray, List.getElem_cons_succ, List.getElem_cons_zero, Act.put, List.setIfInBounds_toArray, List.set_cons_zero, List.set_cons_succ]
            refine wpAnyK_run (i := 14) (v := undef) (w' := w5.setCell ⟨DN, f, none⟩ (.slice ao5 zs19.length cap5)) (by kernel_rfl) rfl (by rfl) (Or.inr ⟨by go_simp, rfl⟩) (fun h => absurd rfl h) ?_
            simp only [List.getElem_toArray, List.getElem_cons_succ, List.getElem_cons_zero, Act.put]
            refine wpAnyK_done (by kernel_rfl) ?_ _
            rw [hwy]
            clear hwy s1 hS5 hS0 p1 p2 hsd hK HGX HBX HKV HOV HCV HCG HSS HSM HGD HBD
            have HGX := HGX2
            have HBX := HBX2
            clear HGX2 HBX2
            have HZ19 : Hid (zs19 = sel j (dOf E0 f)) := by
              refine nums_inj (HZS19.out.trans ?_)
              rw [HD2.out.1, HYS.out, (HHI.out f (Nat.le_refl _)).1]
              exact sort_sel (HDLT.out f)
            go_wp2_with fail
            obtain ⟨tgA, htgA⟩ : ∃ t, t = tg' := ⟨_, rfl⟩
            rw [← htgA] at HGX
            clear htgA
            obtain ⟨wx, hwx⟩ : ∃ wx, wx = wy := ⟨_, rfl⟩
            rw [← hwx] at HGX HBX
            rw [← hwx]
            have hlu : (uu f).length ≤ 1200 := by rw [(HHI.out f (Nat.le_refl _)).2]; have := uOf_len E0 f; have := HTOT.out; omega
            clear hwx S
            obtain ⟨wd, hwd⟩ : ∃ wd, wx.drew = wd := ⟨_, rfl⟩
            have hgd : GM wd B G j DN UP ST RE GP (.slice none 0 0) tgA (fun x => if x = f then zs19 else dd2 x) uu (sOf E0) (fun _ => []) (fun _ => 0) := by rw [← hwd]; exact HGX.out.drew
            have HGD := Lib.hid hgd
            have HBD : Hid (Below B W1 wd) := by rw [← hwd]; exact HBX.out.drew
            have hsd : B ≤ wd.heap.size := by have := HBD.out.size; have := HB.out; omega
            obtain ⟨aov, capv, cv, ov, hk⟩ := hgd.storeU hsd hfj
            have HKV := Lib.hid hk
            have HOV := Lib.hid ov
            have HCV := Lib.hid cv
            obtain ⟨_, cG, _⟩ := hgd.cells
            have HCG := Lib.hid cG
            obtain ⟨S, hS⟩ : ∃ S : World → Prop, S = fun w' => w'.cell? ⟨G, 1, none⟩ = some (.slice (some ⟨UP, 0, none⟩) j j) ∧ w'.cell? ⟨UP, f, none⟩ = some (.slice aov (uu f).length capv) := ⟨_, rfl⟩
            have HSS : Hid (∀ w', S w' → w'.cell? ⟨G, 1, none⟩ = some (.slice (some ⟨UP, 0, none⟩) j j) ∧ w'.cell? ⟨UP, f, none⟩ = some (.slice aov (uu f).length capv)) := fun w' h => by rw [hS] at h; exact h
            have HSM : Hid (∀ w', w'.cell? ⟨G, 1, none⟩ = some (.slice (some ⟨UP, 0, none⟩) j j) ∧ w'.cell? ⟨UP, f, none⟩ = some (.slice aov (uu f).length capv) → S w') := fun w' h => by rw [hS]; exact h
            have hS0 : S wd := HSM.out _ ⟨cG, cv⟩
            clear hgd hk cv ov cG hS
            refine wp_region_K 14 S (by kernel_rfl) ?_
            rw [hwd]
            clear hwd
            refine wpAnyK_take (i := 0) rfl (by kernel_rfl) (by kernel_rfl) (by kernel_rfl) (by kernel_rfl) (fun _ _ _ h => h) (Or.inl ⟨by rfl, fun w hSw => by obtain ⟨s1, s2⟩ := HSS.out w hSw; go_simp; rfl⟩) (by assumption) ?_
            simp only [List.getElem_toArray, List.getElem_cons_zero, Act.put, List.setIfInBounds_toArray, List.set_cons_zero, List.set_cons_succ]
            refine wpAnyK_take (i := 1) rfl (by kernel_rfl) (by kernel_rfl) (by kernel_rfl) (by kernel_rfl) (fun _ _ _ h => h) (Or.inl ⟨by rfl, fun w hSw => by obtain ⟨s1, s2⟩ := HSS.out w hSw; go_simp; rfl⟩) (by assumption) ?_
            simp only [List.getElem_toArray, List.getElem_cons_succ, List.getElem_cons_zero, Act.put, List.setIfInBounds_toArray, List.set_cons_zero, List.set_cons_succ]
            refine wpAnyK_take (i := 2) rfl (by kernel_rfl) (by kernel_rfl) (by kernel_rfl) (by kernel_rfl) (fun _ _ _ h => h) (Or.inl ⟨by rfl, fun w hSw => by obtain ⟨s1, s2⟩ := HSS.out w hSw; go_simp; rfl⟩) (by assumption) ?_
            simp only [List.getElem_toArray, List.getElem_cons_succ, List.getElem_cons_zero, Act.put, List.setIfInBounds_toArray, List.set_cons_zero, List.set_cons_succ]
            refine wpAnyK_take (i := 3) rfl (by kernel_rfl) (by kernel_rfl) (by kernel_rfl) (by kernel_rfl) (fun _ _ _ h => h) (Or.inl ⟨by rfl, fun w hSw => by obtain ⟨s1, s2⟩ := HSS.out w hSw; go_simp; rfl⟩) (by assumption) ?_
            simp only [List.getElem_toArray, List.getElem_cons_succ, List.getElem_cons_zero, Act.put, List.setIfInBounds_toArray, List.set_cons_zero, List.set_cons_succ]
            refine wpAnyK_take (i := 4) rfl (by kernel_rfl) (by kernel_rfl) (by kernel_rfl) (by kernel_rfl) (fun _ _ _ h => h) (Or.inl ⟨by rfl, fun w hSw => by obtain ⟨s1, s2⟩ := HSS.out w hSw; go_simp; rfl⟩) (by assumption) ?_
            simp only [List.getElem_toArray, List.getElem_cons_succ, List.getElem_cons_zero, Act.put, List.setIfInBounds_toArray, List.set_cons_zero, List.set_cons_succ]
            refine wpAnyK_take (i := 5) rfl (by kernel_rfl) (by kernel_rfl) (by kernel_rfl) (by kernel_rfl) (fun _ _ _ h => h) (Or.inl ⟨by rfl, fun w hSw => by obtain ⟨s1, s2⟩ := HSS.out w hSw; go_simp; rfl⟩) (by assumption) ?_
            simp only [List.getElem_toArray, List.getElem_cons_succ, List.getElem_cons_zero, Act.put, List.setIfInBounds_toArray, List.set_cons_zero, List.set_cons_succ]
            refine wpAnyK_take (i := 6) rfl (by kernel_rfl) (by kernel_rfl) (by kernel_rfl) (by kernel_rfl) (fun _ _ _ h => h) (Or.inl ⟨by rfl, fun w hSw => by obtain ⟨s1, s2⟩ := HSS.out w hSw; go_simp; rfl⟩) (by assumption) ?_
            simp only [List.getElem_toArray, List.getElem_cons_succ, List.getElem_cons_zero, Act.put, List.setIfInBounds_toArray, List.set_cons_zero, List.set_cons_succ]
            refine wpAnyK_take (i := 7) rfl (by kernel_rfl) (by kernel_rfl) (by kernel_rfl) (by kernel_rfl) (fun _ _ _ h => h) (Or.inl ⟨by rfl, fun w hSw => by obtain ⟨s1, s2⟩ := HSS.out w hSw; go_simp; rfl⟩) (by assumption) ?_
            simp only [List.getElem_toArray, List.getElem_cons_succ, List.getElem_cons_zero, Act.put, List.setIfInBounds_toArray, List.set_cons_zero, List.set_cons_succ]
            refine wpAnyK_take (i := 8) rfl (by kernel_rfl) (by kernel_rfl) (by kernel_rfl) (by kernel_rfl) (fun _ _ _ h => h) (Or.inl ⟨by rfl, fun w hSw => by obtain ⟨s1, s2⟩ := HSS.out w hSw; go_simp; rfl⟩) (by assumption) ?_
            simp only [List.getElem_toArray, List.getElem_cons_succ, List.getElem_cons_zero, Act.put, List.setIfInBounds_toArray, List.set_cons_zero, List.set_cons_succ]
            refine wpAnyK_take (i := 9) rfl (by kernel_rfl) (by kernel_rfl) (by kernel_rfl) (by kernel_rfl) (fun _ _ _ h => h) (Or.inl ⟨by rfl, fun w hSw => by obtain ⟨s1, s2⟩ := HSS.out w hSw; go_simp; rfl⟩) (by assumption) ?_
            simp only [List.getElem_toArray, List.getElem_cons_succ, List.getElem_cons_zero, Act.put, List.setIfInBounds_toArray, List.set_cons_zero, List.set_cons_succ]
            refine wpAnyK_take (i := 10) rfl (by kernel_rfl) (by kernel_rfl) (by kernel_rfl) (by kernel_rfl) (fun _ _ _ h => h) (Or.inl ⟨by rfl, fun w hSw => by obtain ⟨s1, s2⟩ := HSS.out w hSw; go_simp; rfl⟩) (by assumption) ?_
            simp only [List.getElem_toArray, List.getElem_cons_succ, List.getElem_cons_zero, Act.put, List.setIfInBounds_toArray, List.set_cons_zero, List.set_cons_succ]
            refine wpAnyK_take (i := 11) rfl (by kernel_rfl) (by kernel_rfl) (by kernel_rfl) (by kernel_rfl) (fun _ _ _ h => h) (Or.inl ⟨by rfl, fun w hSw => by obtain ⟨s1, s2⟩ := HSS.out w hSw; go_simp; rfl⟩) (by assumption) ?_
            simp only [List.getElem_toArray, List.getElem_cons_succ, List.getElem_cons_zero, Act.put, List.setIfInBounds_toArray, List.set_cons_zero, List.set_cons_succ]
            have HCO := Lib.hid (compN_calls wd (.slice aov (uu f).length capv) (uu f) HOV.out (by omega))
            refine wpAnyK_one (i := 12) (by kernel_rfl) rfl fun K' hK => ?_
            rw [if_pos (by rfl)]
            go_simp
            go_at_call 53
            refine HCO.out.mono ?_
            rintro e w5 ⟨v5, zs20, rfl, hzs, hx5, hb5, hown5⟩
            have HZS20 := Lib.hid hzs
            obtain ⟨ao5, cap5, rfl⟩ := ownsRow_slice hown5
            obtain ⟨p1, p2, p3, tg', p4, p5, p6, p7⟩ := HKV.out w5 (.slice ao5 (zs20).length cap5) zs20 hx5 hown5 (fun k hk => .inl (by rw [← hb5]; exact hk))
            clear hzs hx5 hb5 hown5 HCO
            have s1 := p3 ⟨G, 1, none⟩ _ HCG.out HGD.out.tg
            have hS5 : S w5 := HSM.out _ ⟨s1, p1⟩
            refine hK _ _ (fun _ => hS5) ?_
            try simp only [List.getElem_toArray, List.getElem_cons_succ, List.getElem_cons_zero, Act.put, List.setIfInBounds_toArray, List.set_cons_zero, List.set_cons_succ]
            obtain ⟨wy, hwy⟩ : ∃ wy, w5.setCell ⟨UP, f, none⟩ (.slice ao5 zs20.length cap5) = wy := ⟨_, rfl⟩
            rw [hwy] at p4 p5 p6
            have HGX2 := Lib.hid p4
            have HBX2 : Hid (Below B W1 wy) := HBD.out.trans (p5.below hsd (fun _ h => h))
            clear p3 p4 p5 p6 p7
            refine wpAnyK_run (i := 13) (v := .pointer (some ⟨UP, f, none⟩)) (w' := w5) (by kernel_rfl) rfl (by rfl) (Or.inl (by go_simp)) (fun _ => hS5) ?_
            simp only [List.getElem_toArray, List.getElem_cons_succ, List.getElem_cons_zero, Act.put, List.setIfInBounds_toArray, List.set_cons_zero, List.set_cons_succ]
            refine wpAnyK_run (i := 14) (v := undef) (w' := w5.setCell ⟨UP, f, none⟩ (.slice ao5 zs20.length cap5)) (by kernel_rfl) rfl (by rfl) (Or.inr ⟨by go_simp, rfl⟩) (fun h => absurd rfl h) ?_
            simp only [List.getElem_toArray, List.getElem_cons_succ, List.getElem_cons_zero, Act.put]
            refine wpAnyK_done (by kernel_rfl) ?_ _
            rw [hwy]
            clear hwy s1 hS5 hS0 p1 p2 hsd hK HGX HBX HKV HOV HCV HCG HSS HSM HGD HBD
            have HGX := HGX2
            have HBX := HBX2
            clear HGX2 HBX2
            have HZ20 : Hid (zs20 = sel j (uOf E0 f)) := by
              refine nums_inj (HZS20.out.trans ?_)
              rw [(HHI.out f (Nat.le_refl _)).2]
              exact HULT.out f
            have HN2 : Hid (OfK E0 W1 B G j DN UP ST RE GP (.int .i64 ((f : Int) + 1)) wy) := by
              refine ⟨f + 1, _, _, tg', by omega, by simp, HGX.out, HBX.out, fun x hx => ?_, fun x hx => ?_⟩
              · by_cases e : x = f
                · subst e; exact ⟨(if_pos rfl).trans HZ19.out, (if_pos rfl).trans HZ20.out⟩
                · have := HLO.out x (by omega)
                  exact ⟨(if_neg e).trans ((HD2.out.2 x e).trans this.1), (if_neg e).trans this.2⟩
              · have e : x ≠ f := by omega
                have := HHI.out x (by omega)
                exact ⟨(if_neg e).trans ((HD2.out.2 x e).trans this.1), (if_neg e).trans this.2⟩
            go_wp2
            go_roundw
            case rel => exact HN2.out
            case measure => simp [intOf]; omega
          · have hfe : f = j := by omega
            subst hfe
            obtain ⟨dn, hdn⟩ : ∃ dn : Nat → List Nat, (fun x => sel f (dOf E0 x)) = dn := ⟨_, rfl⟩
            obtain ⟨up, hup⟩ : ∃ up : Nat → List Nat, (fun x => sel f (uOf E0 x)) = up := ⟨_, rfl⟩
            have HGM5 : Hid (GM wr B G f DN UP ST RE GP (.slice none 0 0) tg dn up (sOf E0) (fun _ => []) (fun _ => 0)) := by
              refine hgm.congr (fun x hx => ?_) (fun x hx => ?_) (fun _ _ => rfl) (fun _ _ => rfl)
              · rw [(hlo x hx).1, ← hdn]
              · rw [(hlo x hx).2, ← hup]
            have HB5 := Lib.hid hb
            have HDN := Lib.hid hdn
            have HUP := Lib.hid hup
            have HDNL : Hid (∀ x, x < f → (dn x).length ≤ f) := fun x _ => by rw [← HDN.out]; exact sel_len _ _
            have HDNI : Hid (∀ x, ∀ y ∈ dn x, y < f) := fun x y hy => by rw [← HDN.out] at hy; exact (mem_sel.1 hy).1
            clear hdn hup hgm hb hlo hhi
            go_wp2_with fail
            go_loopw [155] (fun c wr => OfL E0 dn up W1 B G f DN UP ST RE GP c wr) (fun c _ => f - (intOf c).toNat)
            case atStart => exact ⟨0, _, tg, Nat.zero_le _, rfl, HGM5.out, HB5.out, fun x h => absurd h (Nat.not_lt_zero _)⟩
            case round =>
              obtain ⟨h, rr, tg, hh, rfl, hgm, hb, hlo⟩ := hrel
              by_cases hhf : h < f
              · have hhI : (h : Int) < (f : Int) := by omega
                have HGX := Lib.hid hgm
                have HBX := Lib.hid hb
                have HLO := Lib.hid hlo
                clear hgm hb hlo
                go_upto_region 25 with (fail)
                obtain ⟨wd, hwd⟩ : ∃ wd, wr.drew = wd := ⟨_, rfl⟩
                have hgd : GM wd B G f DN UP ST RE GP (.slice none 0 0) tg dn up (sOf E0) rr (fun _ => 0) := by rw [← hwd]; exact HGX.out.drew
                have HGD := Lib.hid hgd
                have HBD : Hid (Below B W1 wd) := by rw [← hwd]; exact HBX.out.drew
                have hsd : B ≤ wd.heap.size := by have := HBD.out.size; have := HB.out; omega
                obtain ⟨aov, capv, cv, ov, hk⟩ := hgd.storeR hsd hhf
                have HKV := Lib.hid hk
                have HOV := Lib.hid ov
                have HCV := Lib.hid cv
                obtain ⟨_, _, _, cG, _⟩ := hgd.cells
                have HCG := Lib.hid cG
                obtain ⟨S, hS⟩ : ∃ S : World → Prop, S = fun w' => w'.cell? ⟨G, 3, none⟩ = some (.slice (some ⟨RE, 0, none⟩) f f) ∧ w'.cell? ⟨RE, h, none⟩ = some (.slice aov (rr h).length capv) := ⟨_, rfl⟩
                have HSS : Hid (∀ w', S w' → w'.cell? ⟨G, 3, none⟩ = some (.slice (some ⟨RE, 0, none⟩) f f) ∧ w'.cell? ⟨RE, h, none⟩ = some (.slice aov (rr h).length capv)) := fun w' h => by rw [hS] at h; exact h
                have HSM : Hid (∀ w', w'.cell? ⟨G, 3, none⟩ = some (.slice (some ⟨RE, 0, none⟩) f f) ∧ w'.cell? ⟨RE, h, none⟩ = some (.slice aov (rr h).length capv) → S w') := fun w' h => by rw [hS]; exact h
                have hS0 : S wd := HSM.out _ ⟨cG, cv⟩
                clear hgd hk cv ov cG hS
                refine wp_region_K 9 S (by kernel_rfl) ?_
                rw [hwd]
                clear hwd
                refine wpAnyK_take (i := 0) rfl (by kernel_rfl) (by kernel_rfl) (by kernel_rfl) (by kernel_rfl) (fun _ _ _ h => h) (Or.inl ⟨by rfl, fun w hSw => by obtain ⟨s1, s2⟩ := HSS.out w hSw; go_simp; rfl⟩) (by assumption) ?_
                simp only [List.getElem_toArray, List.getElem_cons_zero, Act.put, List.setIfInBounds_toArray, List.set_cons_zero, List.set_cons_succ]
                refine wpAnyK_take (i := 1) rfl (by kernel_rfl) (by kernel_rfl) (by kernel_rfl) (by kernel_rfl) (fun _ _ _ h => h) (Or.inl ⟨by rfl, fun w hSw => by obtain ⟨s1, s2⟩ := HSS.out w hSw; go_simp; rfl⟩) (by assumption) ?_
                simp only [List.getElem_toArray, List.getElem_cons_succ, List.getElem_cons_zero, Act.put, List.setIfInBounds_toArray, List.set_cons_zero, List.set_cons_succ]
                refine wpAnyK_take (i := 2) rfl (by kernel_rfl) (by kernel_rfl) (by kernel_rfl) (by kernel_rfl) (fun _ _ _ h => h) (Or.inl ⟨by rfl, fun w hSw => by obtain ⟨s1, s2⟩ := HSS.out w hSw; go_simp; rfl⟩) (by assumption) ?_
                simp only [List.getElem_toArray, List.getElem_cons_succ, List.getElem_cons_zero, Act.put, List.setIfInBounds_toArray, List.set_cons_zero, List.set_cons_succ]
                refine wpAnyK_take (i := 3) rfl (by kernel_rfl) (by kernel_rfl) (by kernel_rfl) (by kernel_rfl) (fun _ _ _ h => h) (Or.inl ⟨by rfl, fun w hSw => by obtain ⟨s1, s2⟩ := HSS.out w hSw; go_simp; rfl⟩) (by assumption) ?_
                simp only [List.getElem_toArray, List.getElem_cons_succ, List.getElem_cons_zero, Act.put, List.setIfInBounds_toArray, List.set_cons_zero, List.set_cons_succ]
                refine wpAnyK_take (i := 4) rfl (by kernel_rfl) (by kernel_rfl) (by kernel_rfl) (by kernel_rfl) (fun _ _ _ h => h) (Or.inl ⟨by rfl, fun w hSw => by obtain ⟨s1, s2⟩ := HSS.out w hSw; go_simp; rfl⟩) (by assumption) ?_
                simp only [List.getElem_toArray, List.getElem_cons_succ, List.getElem_cons_zero, Act.put, List.setIfInBounds_toArray, List.set_cons_zero, List.set_cons_succ]
                refine wpAnyK_take (i := 5) rfl (by kernel_rfl) (by kernel_rfl) (by kernel_rfl) (by kernel_rfl) (fun _ _ _ h => h) (Or.inl ⟨by rfl, fun w hSw => by obtain ⟨s1, s2⟩ := HSS.out w hSw; go_simp; rfl⟩) (by assumption) ?_
                simp only [List.getElem_toArray, List.getElem_cons_succ, List.getElem_cons_zero, Act.put, List.setIfInBounds_toArray, List.set_cons_zero, List.set_cons_succ]
                refine wpAnyK_take (i := 6) rfl (by kernel_rfl) (by kernel_rfl) (by kernel_rfl) (by kernel_rfl) (fun _ _ _ h => h) (Or.inl ⟨by rfl, fun w hSw => by obtain ⟨s1, s2⟩ := HSS.out w hSw; go_simp; rfl⟩) (by assumption) ?_
                simp only [List.getElem_toArray, List.getElem_cons_succ, List.getElem_cons_zero, Act.put, List.setIfInBounds_toArray, List.set_cons_zero, List.set_cons_succ]
                have HFR := Lib.hid (from_calls wd B G f DN UP ST RE GP (.slice none 0 0) tg dn up (sOf E0) rr (fun _ => 0) HGD.out hn70 HDNL.out HDNI.out h hhf)
                refine wpAnyK_one (i := 7) (by kernel_rfl) rfl fun K' hK => ?_
                rw [if_pos (by rfl)]
                go_simp
                go_at_call 76
                refine HFR.out.mono ?_
                rintro e w5 ⟨b5, rfl, hlt5, hrow5, hb5⟩
                obtain ⟨p1, p2, p3, tg', p4, p5, p6, p7⟩ := HKV.out w5 (.slice (some ⟨b5, 0, none⟩) f f) ((List.range f).map (reachB dn h)) (Ext.of_below_size hb5) (ownB hrow5 hn70) (fun k hk => .inr (by have e : some b5 = some k := hk; have := Option.some.inj e; omega))
                clear hlt5 hrow5 hb5 HFR
                have s1 := p3 ⟨G, 3, none⟩ _ HCG.out HGD.out.tg
                have hS5 : S w5 := HSM.out _ ⟨s1, p1⟩
                refine hK _ _ (fun _ => hS5) ?_
                try simp only [List.getElem_toArray, List.getElem_cons_succ, List.getElem_cons_zero, Act.put, List.setIfInBounds_toArray, List.set_cons_zero, List.set_cons_succ]
                obtain ⟨wy, hwy⟩ : ∃ wy, w5.setCell ⟨RE, h, none⟩ (.slice (some ⟨b5, 0, none⟩) f f) = wy := ⟨_, rfl⟩
                rw [hwy] at p4 p5 p6
                have HGX2 := Lib.hid p4
                have HBX2 : Hid (Below B W1 wy) := HBD.out.trans (p5.below hsd (fun _ h => h))
                clear p3 p4 p5 p6 p7
                refine wpAnyK_run (i := 8) (v := .pointer (some ⟨RE, h, none⟩)) (w' := w5) (by kernel_rfl) rfl (by rfl) (Or.inl (by go_simp)) (fun _ => hS5) ?_
                simp only [List.getElem_toArray, List.getElem_cons_succ, List.getElem_cons_zero, Act.put, List.setIfInBounds_toArray, List.set_cons_zero, List.set_cons_succ]
                refine wpAnyK_run (i := 9) (v := undef) (w' := w5.setCell ⟨RE, h, none⟩ (.slice (some ⟨b5, 0, none⟩) f f)) (by kernel_rfl) rfl (by rfl) (Or.inr ⟨by go_simp, rfl⟩) (fun h => absurd rfl h) ?_
                simp only [List.getElem_toArray, List.getElem_cons_succ, List.getElem_cons_zero, Act.put]
                refine wpAnyK_done (by kernel_rfl) ?_ _
                rw [hwy]
                clear hwy s1 hS5 hS0 p1 p2 hsd hK HGX HBX HKV HOV HCV HCG HSS HSM HGD HBD
                have HGX := HGX2
                have HBX := HBX2
                clear HGX2 HBX2
                have HN2 : Hid (OfL E0 dn up W1 B G f DN UP ST RE GP (.int .i64 ((h : Int) + 1)) wy) := by
                  refine ⟨h + 1, _, tg', by omega, by simp, HGX.out, HBX.out, fun x hx => ?_⟩
                  by_cases e : x = h
                  · subst e; exact if_pos rfl
                  · exact (if_neg e).trans (HLO.out x (by omega))
                go_wp2
                go_roundw
                case rel => exact HN2.out
                case measure => simp [intOf]; omega
              · have hhe : h = f := by omega
                subst hhe
                have hgm2 := hgm.congr (r' := fun x => (List.range h).map (reachB dn x)) (fun _ _ => rfl) (fun _ _ => rfl) (fun _ _ => rfl) (fun x hx => hlo x hx)
                have HPT := Lib.hid (part_calls wr B G h DN UP ST RE GP tg dn up (sOf E0) (fun _ => 0) hgm2 hn70 HDNL.out HDNI.out)
                have HB6 := Lib.hid hb
                obtain ⟨H, hH⟩ : ∃ H, wr.heap.size = H := ⟨_, rfl⟩
                rw [hH] at HPT
                have HH := Lib.hid hH
                clear hgm hb hlo hgm2 hH
                go_wp2_with (go_at_call 77; refine HPT.out.mono ?_; rintro e w7 ⟨rfl, gv, hg7, hr7, hb7⟩; have HG7 := Lib.hid hg7; have HR7 := Lib.hid hr7; have HB7 := Lib.hid hb7; clear hg7 hr7 hb7)
                go_ret
                have hMf : M.fs = fs := by rw [← HM.out]
                have hMl : M.fs.length = h := by rw [hMf, HN.out]
                have hMA : allCalls M.fs.length 0 M.fs = E0 := by rw [hMl, hMf, HA.out]
                have e1 : downF M = dn := by
                  rw [← HDN.out]; funext x; unfold downF; rw [hMA, hMl]
                have e2 : upF M = up := by
                  rw [← HUP.out]; funext x; unfold upF; rw [hMA, hMl]
                have e3 : sitesF M = sOf E0 := by
                  funext x; unfold sitesF; rw [hMA]
                have e4 : groupsF M = partN h dn (reachB dn) h := by unfold groupsF; rw [e1, hMl]
                rw [HM.out]
                refine ⟨B, G, DN, UP, ST, RE, GP, H, gv, tg, rfl, ?_, ?_, by omega, ?_, ?_⟩
                · rw [e1, e2, e3, e4, hMl]; exact HG7.out
                · rw [e4]; exact HR7.out
                · have h1 := HB6.out.size
                  have h2 := HB.out
                  have h3 := HH.out
                  omega
                · rw [hN]
                  exact (HOF.out w7 (HB6.out.trans HB7.out)).2.2.2
end Go.Proofs.Ytbbogkcfngpbbaa
