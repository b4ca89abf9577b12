/- Functions and structs by names, the reference's; is a module short? -/
import Derived.Test.YtbbogkcfngpbbaaSmI
import Derived.Test.YtbbogkcfngpbbaaIrC
import Derived.Test.YtbbogkcfngpbbaaIrS
namespace Go.Proofs.Ytbbogkcfngpbbaa
open Go.RowKit

set_option maxRecDepth 100000 in
set_option maxHeartbeats 2000000 in
theorem refFunc_calls (m : Mo) (nm : ByteArray) (w : World) (hn : m.fs.length ≤ maxLen) (h : RowOf Fn.cells 8 w w.heap.size m.fA m.fs) :
    Calls Try.prog 27 #[.agg m.cells, .string nm] w fun e w' => e = .returned (.int .i64 (m.fnIx nm)) ∧ Below w.heap.size w w' := by
  obtain ⟨R, hR⟩ : ∃ R, m.fnIx nm = R := ⟨_, rfl⟩
  rw [hR]
  have HR : Hid (R = ixOf (fun f : Fn => f.c.nm == nm) m.fs) := by rw [← hR]; rfl
  obtain ⟨sA, sC, fA, fC, ss, fs⟩ := m
  simp only at hn h HR
  have H := Lib.hid h
  unfold maxLen at hn
  simp only [Mo.cells]
  clear hR h
  obtain ⟨N, hN⟩ : ∃ N, w.heap.size = N := ⟨_, rfl⟩
  obtain ⟨W1, hW1⟩ : ∃ W1, w.alloc (.cells #[.slice sA ss.length sC, .slice fA fs.length fC] 38) = W1 := ⟨_, rfl⟩
  have q1 : W1.heap[N]? = some (.cells #[.slice sA ss.length sC, .slice fA fs.length fC] 38 (0, 0)) := by rw [← hW1, ← hN]; exact alloc_at _ _
  have c1 : W1.cell? ⟨N, 0, none⟩ = some (.slice sA ss.length sC) := (cell_of_row _ _ _ _ _ _ q1).trans rfl
  have c2 : W1.cell? ⟨N, 1, none⟩ = some (.slice fA fs.length fC) := (cell_of_row _ _ _ _ _ _ q1).trans rfl
  have hb1 : Below w.heap.size w W1 := by rw [← hW1]; exact (Below.refl _ _).alloc (Nat.le_refl _) _
  have HB := Lib.hid hb1
  have HW1 := Lib.hid hW1
  have H1 := Lib.hid (H.out.grow hb1)
  clear q1 hb1 hW1
  go_enter Try.func27, Try.ntmps27
  go_upto_region 1 with (fail)
  rw [HW1.out]
  go_wp2_with fail
  go_loopw [5] (fun k wr => ∃ j : Nat, j ≤ fs.length ∧ k = .int .i64 (j : Int) ∧ (∀ f ∈ fs.take j, (f.c.nm == nm) = false) ∧ wr = W1) (fun k _ => fs.length - (intOf k).toNat)
  case atStart => exact ⟨0, Nat.zero_le _, rfl, by simp, rfl⟩
  case round =>
    obtain ⟨j, hj, rfl, hz, rfl⟩ := hrel
    by_cases hjl : j < fs.length
    · obtain ⟨f, hy⟩ : ∃ y, fs[j]? = some y := ⟨_, List.getElem?_eq_getElem hjl⟩
      obtain ⟨g1, off, rfl, hg1, q1⟩ := H1.out (by intro e; rw [e] at hjl; simp at hjl)
      have d0 : wr.cell? ⟨g1, off + j * 8, none⟩ = some (.string f.c.nm) := q1 j f hy 0 _ rfl
      have hjI : (j : Int) < (fs.length : Int) := by omega
      have HZ := Lib.hid hz
      have HY := Lib.hid hy
      by_cases hd : f.c.nm = nm
      · subst hd
        have HRR : Hid (R = (j : Int)) := by unfold Hid; rw [HR.out]; exact ixOf_at (p := fun g : Fn => g.c.nm == f.c.nm) HZ.out HY.out (by simp)
        clear hz hy q1
        go_wp2
        go_ret
        rw [HRR.out]
        exact ⟨rfl, HB.out⟩
      · have hd' : ¬ (f.c.nm.toList = nm.toList) := fun e => hd (eq_of_beq (by rw [beq_toListBytes, e]; simp))
        have hd1 : (f.c.nm.toList == nm.toList) = false := by simpa using hd'
        clear hd'
        have HD : Hid ((f.c.nm == nm) = false) := by unfold Hid; simp [hd]
        clear hz hy q1 hd
        go_wp2
        exact ⟨⟨j + 1, by omega, by go_num, take_false (p := fun f : Fn => f.c.nm == nm) HZ.out HY.out HD.out, by first | rfl | trivial⟩, by simp [intOf]; omega⟩
    · have hje : j = fs.length := by omega
      subst hje
      rw [List.take_length] at hz
      have HRR : Hid (R = -1) := by unfold Hid; rw [HR.out]; exact ixOf_none (p := fun f : Fn => f.c.nm == nm) hz
      clear hz
      go_wp2
      go_ret
      rw [HRR.out]
      exact ⟨rfl, HB.out⟩

set_option maxRecDepth 100000 in
set_option maxHeartbeats 2000000 in
theorem refStruct_calls (m : Mo) (nm : ByteArray) (w : World) (hn : m.ss.length ≤ maxLen) (h : RowOf St.cells 4 w w.heap.size m.sA m.ss) :
    Calls Try.prog 29 #[.agg m.cells, .string nm] w fun e w' => e = .returned (.int .i64 (m.stIx nm)) ∧ Below w.heap.size w w' := by
  obtain ⟨R, hR⟩ : ∃ R, m.stIx nm = R := ⟨_, rfl⟩
  rw [hR]
  have HR : Hid (R = ixOf (fun f : St => f.s.nm == nm) m.ss) := by rw [← hR]; rfl
  obtain ⟨sA, sC, fA, fC, ss, fs⟩ := m
  simp only at hn h HR
  have H := Lib.hid h
  unfold maxLen at hn
  simp only [Mo.cells]
  clear hR h
  obtain ⟨N, hN⟩ : ∃ N, w.heap.size = N := ⟨_, rfl⟩
  obtain ⟨W1, hW1⟩ : ∃ W1, w.alloc (.cells #[.slice sA ss.length sC, .slice fA fs.length fC] 38) = W1 := ⟨_, rfl⟩
  have q1 : W1.heap[N]? = some (.cells #[.slice sA ss.length sC, .slice fA fs.length fC] 38 (0, 0)) := by rw [← hW1, ← hN]; exact alloc_at _ _
  have c1 : W1.cell? ⟨N, 0, none⟩ = some (.slice sA ss.length sC) := (cell_of_row _ _ _ _ _ _ q1).trans rfl
  have c2 : W1.cell? ⟨N, 1, none⟩ = some (.slice fA fs.length fC) := (cell_of_row _ _ _ _ _ _ q1).trans rfl
  have hb1 : Below w.heap.size w W1 := by rw [← hW1]; exact (Below.refl _ _).alloc (Nat.le_refl _) _
  have HB := Lib.hid hb1
  have HW1 := Lib.hid hW1
  have H1 := Lib.hid (H.out.grow hb1)
  clear q1 hb1 hW1
  go_enter Try.func29, Try.ntmps29
  go_upto_region 1 with (fail)
  rw [HW1.out]
  go_wp2_with fail
  go_loopw [5] (fun k wr => ∃ j : Nat, j ≤ ss.length ∧ k = .int .i64 (j : Int) ∧ (∀ f ∈ ss.take j, (f.s.nm == nm) = false) ∧ wr = W1) (fun k _ => ss.length - (intOf k).toNat)
  case atStart => exact ⟨0, Nat.zero_le _, rfl, by simp, rfl⟩
  case round =>
    obtain ⟨j, hj, rfl, hz, rfl⟩ := hrel
    by_cases hjl : j < ss.length
    · obtain ⟨f, hy⟩ : ∃ y, ss[j]? = some y := ⟨_, List.getElem?_eq_getElem hjl⟩
      obtain ⟨g1, off, rfl, hg1, q1⟩ := H1.out (by intro e; rw [e] at hjl; simp at hjl)
      have d0 : wr.cell? ⟨g1, off + j * 4, none⟩ = some (.string f.s.nm) := q1 j f hy 0 _ rfl
      have hjI : (j : Int) < (ss.length : Int) := by omega
      have HZ := Lib.hid hz
      have HY := Lib.hid hy
      by_cases hd : f.s.nm = nm
      · subst hd
        have HRR : Hid (R = (j : Int)) := by unfold Hid; rw [HR.out]; exact ixOf_at (p := fun g : St => g.s.nm == f.s.nm) HZ.out HY.out (by simp)
        clear hz hy q1
        go_wp2
        go_ret
        rw [HRR.out]
        exact ⟨rfl, HB.out⟩
      · have hd' : ¬ (f.s.nm.toList = nm.toList) := fun e => hd (eq_of_beq (by rw [beq_toListBytes, e]; simp))
        have hd1 : (f.s.nm.toList == nm.toList) = false := by simpa using hd'
        clear hd'
        have HD : Hid ((f.s.nm == nm) = false) := by unfold Hid; simp [hd]
        clear hz hy q1 hd
        go_wp2
        exact ⟨⟨j + 1, by omega, by go_num, take_false (p := fun f : St => f.s.nm == nm) HZ.out HY.out HD.out, by first | rfl | trivial⟩, by simp [intOf]; omega⟩
    · have hje : j = ss.length := by omega
      subst hje
      rw [List.take_length] at hz
      have HRR : Hid (R = -1) := by unfold Hid; rw [HR.out]; exact ixOf_none (p := fun f : St => f.s.nm == nm) hz
      clear hz
      go_wp2
      go_ret
      rw [HRR.out]
      exact ⟨rfl, HB.out⟩

theorem RowOf.map {α β : Type} {f : α → β} {cells : β → Array Value} {stride : Nat} {w : World} {B : Nat} {ao : Option Addr} {xs : List α} (h : RowOf (fun a => cells (f a)) stride w B ao xs) : RowOf cells stride w B ao (xs.map f) := by
  intro hne
  obtain ⟨b, off, h1, h2, h3⟩ := h (fun e => hne (by rw [e]; rfl))
  refine ⟨b, off, h1, h2, fun i y hy k u hu => ?_⟩
  rw [List.getElem?_map] at hy
  obtain ⟨x, hx, rfl⟩ := Option.map_eq_some_iff.1 hy
  exact h3 i x hx k u hu

/-- A module is short. -/
def Mo.light (m : Mo) : Prop := LightM (m.ss.map St.s) (m.fs.map Fn.c)

theorem lightMo_calls (w : World) (m : Mo) (hm : m.inn w) : Calls Try.prog 21 #[.agg m.cells] w (SaysIf w w.heap.size m.light) := by
  have h := light5_calls w m.sA m.fA m.sC m.fC (m.ss.map St.s) (m.fs.map Fn.c) (RowOf.map hm.srow) (RowOf.map hm.frow) (by
    intro c hc; obtain ⟨f, hf, rfl⟩ := List.mem_map.1 hc; exact (hm.fin f hf).code.row) (by
    intro c hc x hx; obtain ⟨f, hf, rfl⟩ := List.mem_map.1 hc; exact ((hm.fin f hf).code.args x hx).1) (by have := hm.ns; unfold maxLen at this; simpa using this) (by have := hm.nf; unfold maxLen at this; simpa using this)
  simp only [List.length_map] at h
  exact h

/-- The modes of an instruction that lies in w. -/
noncomputable def mdOf (w : World) (i : Ins) : List Int := by
  classical
  exact if h : ∃ l : List Int, ∃ ao cap, i.modeV = .slice ao l.length cap ∧ IntRow w ao l then h.choose else []

theorem mdOf_at {w : World} {i : Ins} (h : ∃ l : List Int, ∃ ao cap, i.modeV = .slice ao l.length cap ∧ IntRow w ao l) : ModeAt w (mdOf w) i := by
  have e : mdOf w i = h.choose := by unfold mdOf; rw [dif_pos h]
  obtain ⟨ao, cap, h1, h2⟩ := h.choose_spec
  exact ⟨ao, cap, by rw [e]; exact h1, by rw [e]; exact h2⟩

theorem fitS_light {w : World} {m : Mo} (hm : m.inn w) (hl : m.light) : m.fitS (mdOf w) w := by
  obtain ⟨h1, h2, _, h4, _⟩ := hl
  simp only [List.length_map] at h1 h2
  refine ⟨hm, fun f hf => ?_, by omega, by omega⟩
  obtain ⟨g1, g2, _, g4, g5⟩ := h4 f.c (List.mem_map.2 ⟨f, hf, rfl⟩)
  have hi := hm.fin f hf
  have hmode : ∀ i ∈ f.c.ins, ModeAt w (mdOf w) i := by
    intro i him
    obtain ⟨k, hk⟩ := List.mem_iff_getElem?.1 him
    have hkl := (List.getElem?_eq_some_iff.1 hk).1
    obtain ⟨l, hl⟩ : ∃ l, f.mds[k]? = some l := ⟨_, List.getElem?_eq_getElem (by rw [hi.nmds]; exact hkl)⟩
    obtain ⟨ao, cap, e1, e2⟩ := hi.mds k i l hk hl
    exact mdOf_at ⟨l, ao, cap, e1, e2⟩
  refine ⟨hi, hmode, by rw [← hi.nfrom]; omega, by rw [← hi.nvars]; omega, by omega, fun i him => ⟨by have := (g5 i him).1; omega, ?_⟩⟩
  obtain ⟨ao, n, cap, e, hn⟩ := (g5 i him).2.1
  obtain ⟨ao2, cap2, e2, _⟩ := hmode i him
  rw [e] at e2
  simp at e2
  omega

set_option maxRecDepth 100000 in
set_option maxHeartbeats 8000000 in
theorem irSames_calls (m n : Mo) (nm : ByteArray) (w : World) (hm : m.inn w) (hn : n.inn w) :
    Calls Try.prog 4 #[.agg m.cells, .agg n.cells, .string nm] w fun e w' => e = .returned (.bool true) ∧ Below w.heap.size w w' := by
  have HA5 : Hid (∀ W, Calls Try.prog 11 #[] W fun e w' => e = .returned (.bool true) ∧ Below W.heap.size W w') := fun W => alive5_calls W
  have HL1 : Hid (∀ W, Below w.heap.size w W → Calls Try.prog 21 #[.agg m.cells] W (SaysIf W W.heap.size m.light)) := fun W hW => lightMo_calls W m (hm.below hW)
  have HL2 : Hid (∀ W, Below w.heap.size w W → Calls Try.prog 21 #[.agg n.cells] W (SaysIf W W.heap.size n.light)) := fun W hW => lightMo_calls W n (hn.below hW)
  have HFR : Hid (∀ W, Below w.heap.size w W → RowOf Fn.cells 8 W W.heap.size m.fA m.fs ∧ RowOf Fn.cells 8 W W.heap.size n.fA n.fs) := fun W hW => ⟨hm.frow.grow hW, hn.frow.grow hW⟩
  have HF1 : Hid (m.light → n.light → ∀ x ∈ m.fs, ∀ y ∈ n.fs, ∀ W, Below w.heap.size w W → Calls Try.prog 22 #[.agg x.cells, .agg y.cells] W fun e w' => e = .returned (.bool (sameC (mdOf w) x y)) ∧ Below W.heap.size W w') := fun l1 l2 x hx y hy W hW =>
    irSameC_calls W (mdOf w) x y (((fitS_light hm l1).below hW).fit x hx) (((fitS_light hn l2).below hW).fit y hy)
  have HF2 : Hid (m.light → n.light → ∀ x ∈ m.fs, ∀ y ∈ n.fs, ∀ W, Below w.heap.size w W → Calls Try.prog 23 #[.agg x.cells, .agg y.cells] W fun e w' => e = .returned (.bool (sameC (mdOf w) x y)) ∧ Below W.heap.size W w') := fun l1 l2 x hx y hy W hW =>
    refSameC_calls W (mdOf w) x y (((fitS_light hm l1).below hW).fit x hx) (((fitS_light hn l2).below hW).fit y hy)
  have HM1 : Hid (m.light → n.light → ∀ W, Below w.heap.size w W → Calls Try.prog 24 #[.agg m.cells, .agg n.cells] W fun e w' => e = .returned (.bool (sameM (mdOf w) m n)) ∧ Below W.heap.size W w') := fun l1 l2 W hW =>
    irSame_calls W (mdOf w) m n ((fitS_light hm l1).below hW) ((fitS_light hn l2).below hW)
  have HM2 : Hid (m.light → n.light → ∀ W, Below w.heap.size w W → Calls Try.prog 25 #[.agg m.cells, .agg n.cells] W fun e w' => e = .returned (.bool (sameM (mdOf w) m n)) ∧ Below W.heap.size W w') := fun l1 l2 W hW =>
    refSame_calls W (mdOf w) m n ((fitS_light hm l1).below hW) ((fitS_light hn l2).below hW)
  have HG1 : Hid (∀ W, Below w.heap.size w W → Calls Try.prog 26 #[.agg m.cells, .string nm] W fun e w' => e = .returned (.int .i64 (m.fnIx nm)) ∧ Below W.heap.size W w') := fun W hW => func_calls5 m nm W hm.nf (hm.frow.grow hW)
  have HG2 : Hid (∀ W, Below w.heap.size w W → Calls Try.prog 27 #[.agg m.cells, .string nm] W fun e w' => e = .returned (.int .i64 (m.fnIx nm)) ∧ Below W.heap.size W w') := fun W hW => refFunc_calls m nm W hm.nf (hm.frow.grow hW)
  have HG3 : Hid (∀ W, Below w.heap.size w W → Calls Try.prog 28 #[.agg m.cells, .string nm] W fun e w' => e = .returned (.int .i64 (m.stIx nm)) ∧ Below W.heap.size W w') := fun W hW => struct_calls5 m nm W hm.ns (hm.srow.grow hW)
  have HG4 : Hid (∀ W, Below w.heap.size w W → Calls Try.prog 29 #[.agg m.cells, .string nm] W fun e w' => e = .returned (.int .i64 (m.stIx nm)) ∧ Below W.heap.size W w') := fun W hW => refStruct_calls m nm W hm.ns (hm.srow.grow hW)
  have HLN : Hid (m.light → m.fs.length ≤ 70) := fun h => by have := h.2.1; simpa using this
  clear hm hn
  obtain ⟨v1, hv1⟩ : ∃ v, m.fnIx nm = v := ⟨_, rfl⟩
  obtain ⟨v2, hv2⟩ : ∃ v, m.stIx nm = v := ⟨_, rfl⟩
  obtain ⟨v3, hv3⟩ : ∃ v, sameM (mdOf w) m n = v := ⟨_, rfl⟩
  rw [hv1] at HG1 HG2
  rw [hv2] at HG3 HG4
  rw [hv3] at HM1 HM2
  obtain ⟨L1, hL1⟩ : ∃ L, m.light = L := ⟨_, rfl⟩
  obtain ⟨L2, hL2⟩ : ∃ L, n.light = L := ⟨_, rfl⟩
  rw [hL1] at HL1 HLN
  rw [hL2] at HL2
  rw [hL1, hL2] at HF1 HF2 HM1 HM2
  clear hv1 hv2 hv3 hL1 hL2
  obtain ⟨sA, sC, fA, fC, ss, fs⟩ := m
  obtain ⟨sA2, sC2, fA2, fC2, ss2, fs2⟩ := n
  simp only [Mo.cells] at HL1 HL2 HFR HF1 HF2 HM1 HM2 HG1 HG2 HG3 HG4 HLN ⊢
  obtain ⟨N, hN⟩ : ∃ N, w.heap.size = N := ⟨_, rfl⟩
  obtain ⟨W1, hW1⟩ : ∃ W1, W1 = ((w.alloc (.cells #[.slice sA ss.length sC, .slice fA fs.length fC] 38)).alloc (.cells #[.slice sA2 ss2.length sC2, .slice fA2 fs2.length fC2] 38)) := ⟨_, rfl⟩
  have q1 : W1.heap[N]? = some (.cells #[.slice sA ss.length sC, .slice fA fs.length fC] 38 (0, 0)) := by
    rw [hW1, Below.heap_alloc _ _ _ (by simp; omega), ← hN]; exact alloc_at _ _
  have q2 : W1.heap[N + 1]? = some (.cells #[.slice sA2 ss2.length sC2, .slice fA2 fs2.length fC2] 38 (0, 0)) := by
    rw [hW1]
    have := alloc_at (w.alloc (.cells #[.slice sA ss.length sC, .slice fA fs.length fC] 38)) (.cells #[.slice sA2 ss2.length sC2, .slice fA2 fs2.length fC2] 38)
    rwa [World.size_alloc, hN] at this
  have hs1 : W1.heap.size = N + 2 := by rw [hW1]; simp [hN]
  have HBX : Hid (Below w.heap.size w W1) := by unfold Hid; rw [hW1]; exact ((Below.refl _ _).alloc (Nat.le_refl _) _).alloc (by simp) _
  have HS : Hid (∀ W, Below W1.heap.size W1 W → W.cell? ⟨N, 0, none⟩ = some (.slice sA ss.length sC) ∧ W.cell? ⟨N, 1, none⟩ = some (.slice fA fs.length fC) ∧ W.cell? ⟨N + 1, 0, none⟩ = some (.slice sA2 ss2.length sC2) ∧ W.cell? ⟨N + 1, 1, none⟩ = some (.slice fA2 fs2.length fC2) ∧ Below w.heap.size w W) := by
    intro W hW
    have p1 := (hW.block N (by omega)).trans q1
    have p2 := (hW.block (N + 1) (by omega)).trans q2
    exact ⟨(cell_of_row _ _ _ _ _ _ p1).trans rfl, (cell_of_row _ _ _ _ _ _ p1).trans rfl, (cell_of_row _ _ _ _ _ _ p2).trans rfl, (cell_of_row _ _ _ _ _ _ p2).trans rfl, HBX.out.trans (hW.mono HBX.out.size)⟩
  have HW1 := Lib.hid hW1
  clear q1 q2 hW1
  go_enter Try.func4, Try.ntmps4
  go_upto_region 1 with (fail)
  rw [← HW1.out]
  obtain ⟨c1, c2, c3, c4, _⟩ := HS.out W1 (Below.refl _ _)
  go_wp2_with fail
  go_at_call 21
  refine (HL1.out W1 HBX.out).mono ?_
  rintro e w2 ⟨b1, rfl, hp1, hb2⟩
  have HP1 := Lib.hid hp1
  have HB2 := Lib.hid hb2
  clear c1 c2 c3 c4 hp1 hb2
  obtain ⟨c1, c2, c3, c4, _⟩ := HS.out w2 HB2.out
  cases b1 with
  | false =>
    go_wp2_with (go_at_call 11; refine (HA5.out _).mono ?_; rintro e w3 ⟨rfl, hb3⟩; have HB3 := Lib.hid (HB2.out.trans (hb3.mono HB2.out.size)); clear hb3)
    go_ret
    exact ⟨rfl, HBX.out.trans (HB3.out.mono HBX.out.size)⟩
  | true =>
    have HPA : Hid L1 := HP1.out rfl
    clear HP1
    go_wp2_with fail
    go_at_call 21
    refine (HL2.out w2 (HBX.out.trans (HB2.out.mono HBX.out.size))).mono ?_
    rintro e w3 ⟨b2, rfl, hp2, hb3⟩
    have HP2 := Lib.hid hp2
    have HB3 := Lib.hid (HB2.out.trans (hb3.mono HB2.out.size))
    clear c1 c2 c3 c4 hp2 hb3
    obtain ⟨c1, c2, c3, c4, _⟩ := HS.out w3 HB3.out
    cases b2 with
    | false =>
      go_wp2_with (go_at_call 11; refine (HA5.out _).mono ?_; rintro e w4 ⟨rfl, hb4⟩; have HB4 := Lib.hid (HB3.out.trans (hb4.mono HB3.out.size)); clear hb4)
      go_ret
      exact ⟨rfl, HBX.out.trans (HB4.out.mono HBX.out.size)⟩
    | true =>
      have HPB : Hid L2 := HP2.out rfl
      clear HP2
      by_cases hnm : 60 < nm.size
      · go_wp2_with (go_at_call 11; refine (HA5.out _).mono ?_; rintro e w4 ⟨rfl, hb4⟩; have HB4 := Lib.hid (HB3.out.trans (hb4.mono HB3.out.size)); clear hb4)
        go_ret
        exact ⟨rfl, HBX.out.trans (HB4.out.mono HBX.out.size)⟩
      · have HF1' : Hid (∀ x ∈ fs, ∀ y ∈ fs2, ∀ W, Below w.heap.size w W → Calls Try.prog 22 #[.agg x.cells, .agg y.cells] W fun e w' => e = .returned (.bool (sameC (mdOf w) x y)) ∧ Below W.heap.size W w') := HF1.out HPA.out HPB.out
        have HF2' : Hid (∀ x ∈ fs, ∀ y ∈ fs2, ∀ W, Below w.heap.size w W → Calls Try.prog 23 #[.agg x.cells, .agg y.cells] W fun e w' => e = .returned (.bool (sameC (mdOf w) x y)) ∧ Below W.heap.size W w') := HF2.out HPA.out HPB.out
        have HM1' := Lib.hid (HM1.out HPA.out HPB.out)
        have HM2' := Lib.hid (HM2.out HPA.out HPB.out)
        have hfl : fs.length ≤ 70 := HLN.out HPA.out
        clear HF1 HF2 HM1 HM2 HPA HPB HL1 HL2 HLN
        go_wp2_with fail
        go_loopw [7] (fun k wr => ∃ j : Nat, j ≤ fs.length ∧ k = .int .i64 (j : Int) ∧ Below W1.heap.size W1 wr) (fun k _ => fs.length - (intOf k).toNat)
        case atStart => exact ⟨0, Nat.zero_le _, rfl, HB3.out⟩
        case round =>
          clear c1 c2 c3 c4
          obtain ⟨j, hj, rfl, hbr⟩ := hrel
          have HBR := Lib.hid hbr
          obtain ⟨c1, c2, c3, c4, _⟩ := HS.out wr hbr
          clear hbr
          have b1 : ∀ p : BW wr, p.w.cell? ⟨N, 0, none⟩ = some (.slice sA ss.length sC) := fun p => (HS.out p.w (HBR.out.trans (p.h.mono HBR.out.size))).1
          have b2 : ∀ p : BW wr, p.w.cell? ⟨N, 1, none⟩ = some (.slice fA fs.length fC) := fun p => (HS.out p.w (HBR.out.trans (p.h.mono HBR.out.size))).2.1
          have b3 : ∀ p : BW wr, p.w.cell? ⟨N + 1, 0, none⟩ = some (.slice sA2 ss2.length sC2) := fun p => (HS.out p.w (HBR.out.trans (p.h.mono HBR.out.size))).2.2.1
          have b4 : ∀ p : BW wr, p.w.cell? ⟨N + 1, 1, none⟩ = some (.slice fA2 fs2.length fC2) := fun p => (HS.out p.w (HBR.out.trans (p.h.mono HBR.out.size))).2.2.2.1
          have HBP : Hid (∀ p : BW wr, Below w.heap.size w p.w) := fun p => (HS.out p.w (HBR.out.trans (p.h.mono HBR.out.size))).2.2.2.2
          obtain ⟨T, hT⟩ : ∃ T : Bool, T = (decide (j < fs.length) && decide (j < fs2.length)) := ⟨_, rfl⟩
          cases T with
          | true =>
            simp at hT
            obtain ⟨h1, h2⟩ := hT
            obtain ⟨x, hx⟩ : ∃ x, fs[j]? = some x := ⟨_, List.getElem?_eq_getElem h1⟩
            obtain ⟨y, hy⟩ : ∃ y, fs2[j]? = some y := ⟨_, List.getElem?_eq_getElem h2⟩
            obtain ⟨g1, o1, rfl, hg1, q1⟩ := (HFR.out wr (HBP.out default)).1 (by intro e; rw [e] at hx; simp at hx)
            obtain ⟨g2, o2, rfl, hg2, q2⟩ := (HFR.out wr (HBP.out default)).2 (by intro e; rw [e] at hy; simp at hy)
            have HX1 : Hid (∀ (p : BW wr) (i : Nat) (u : Value), x.cells.toList[i]? = some u → p.w.cell? ((⟨g1, o1 + j * 8, none⟩ : Addr).add i) = some u) := fun p i u hu => by
              rw [Addr.add_lit, p.h.cell (p := ⟨g1, _, none⟩) hg1]; exact q1 j x hx i u hu
            have HX2 : Hid (∀ (p : BW wr) (i : Nat) (u : Value), y.cells.toList[i]? = some u → p.w.cell? ((⟨g2, o2 + j * 8, none⟩ : Addr).add i) = some u) := fun p i u hu => by
              rw [Addr.add_lit, p.h.cell (p := ⟨g2, _, none⟩) hg2]; exact q2 j y hy i u hu
            obtain ⟨d, hd⟩ : ∃ d, sameC (mdOf w) x y = d := ⟨_, rfl⟩
            have HCC : Hid (∀ p : BW wr, Calls Try.prog 22 #[.agg x.cells, .agg y.cells] p.w fun e w' => e = .returned (.bool d) ∧ Below p.w.heap.size p.w w') := fun p => by
              rw [← hd]; exact HF1'.out x (List.mem_of_getElem? hx) y (List.mem_of_getElem? hy) p.w (HBP.out p)
            have HCD : Hid (∀ p : BW wr, Calls Try.prog 23 #[.agg x.cells, .agg y.cells] p.w fun e w' => e = .returned (.bool d) ∧ Below p.w.heap.size p.w w') := fun p => by
              rw [← hd]; exact HF2'.out x (List.mem_of_getElem? hx) y (List.mem_of_getElem? hy) p.w (HBP.out p)
            have hkI : (j : Int) < (fs.length : Int) := by omega
            have hkJ : (j : Int) < (fs2.length : Int) := by omega
            clear hd hx hy q1 q2
            go_wp2_with fail
            refine wp_region_quiet_bw (by kernel_rfl) (by kernel_rfl) ?_
            repeat (first
              | (go_big_quiet_want; (first
                  | (refine quiet_load_bw 48 _ rfl ⟨g1, o1 + j * 8, none⟩ rfl x.cells _ HX1.out Try.underlying48 rfl (by kernel_rfl) ?_)
                  | (refine quiet_load_bw 48 _ rfl ⟨g2, o2 + j * 8, none⟩ rfl y.cells _ HX2.out Try.underlying48 rfl (by kernel_rfl) ?_)); (simp only [Act.put, List.setIfInBounds_toArray, List.set_cons_zero, List.set_cons_succ]); go_big_quiet_on)
              | (go_big_quiet_step (first | (go_at_call 22; exact bw_of (HCC.out _)) | (go_at_call 23; exact bw_of (HCD.out _)))))
            refine wpQuiet_nil ?_
            rintro _ ⟨p, rfl⟩
            have HQ : Hid (Below W1.heap.size W1 p.w) := HBR.out.trans (p.h.mono HBR.out.size)
            cases d with
            | true =>
              go_wp2
              go_roundw
              case rel => exact ⟨j + 1, by omega, by go_num, HQ.out⟩
              case measure => simp [intOf]; omega
            | false =>
              go_wp2
              go_roundw
              case rel => exact ⟨j + 1, by omega, by go_num, HQ.out⟩
              case measure => simp [intOf]; omega
          | false =>
            have HC1 : Hid (∀ p : BW wr, Calls Try.prog 24 #[.agg #[.slice sA ss.length sC, .slice fA fs.length fC], .agg #[.slice sA2 ss2.length sC2, .slice fA2 fs2.length fC2]] p.w fun e w' => e = .returned (.bool v3) ∧ Below p.w.heap.size p.w w') := fun p => HM1'.out p.w (HBP.out p)
            have HC2 : Hid (∀ p : BW wr, Calls Try.prog 25 #[.agg #[.slice sA ss.length sC, .slice fA fs.length fC], .agg #[.slice sA2 ss2.length sC2, .slice fA2 fs2.length fC2]] p.w fun e w' => e = .returned (.bool v3) ∧ Below p.w.heap.size p.w w') := fun p => HM2'.out p.w (HBP.out p)
            have HC3 : Hid (∀ p : BW wr, Calls Try.prog 26 #[.agg #[.slice sA ss.length sC, .slice fA fs.length fC], .string nm] p.w fun e w' => e = .returned (.int .i64 v1) ∧ Below p.w.heap.size p.w w') := fun p => HG1.out p.w (HBP.out p)
            have HC4 : Hid (∀ p : BW wr, Calls Try.prog 27 #[.agg #[.slice sA ss.length sC, .slice fA fs.length fC], .string nm] p.w fun e w' => e = .returned (.int .i64 v1) ∧ Below p.w.heap.size p.w w') := fun p => HG2.out p.w (HBP.out p)
            have HC5 : Hid (∀ p : BW wr, Calls Try.prog 28 #[.agg #[.slice sA ss.length sC, .slice fA fs.length fC], .string nm] p.w fun e w' => e = .returned (.int .i64 v2) ∧ Below p.w.heap.size p.w w') := fun p => HG3.out p.w (HBP.out p)
            have HC6 : Hid (∀ p : BW wr, Calls Try.prog 29 #[.agg #[.slice sA ss.length sC, .slice fA fs.length fC], .string nm] p.w fun e w' => e = .returned (.int .i64 v2) ∧ Below p.w.heap.size p.w w') := fun p => HG4.out p.w (HBP.out p)
            have HC7 : Hid (∀ p : BW wr, Calls Try.prog 11 #[] p.w fun e w' => e = .returned (.bool true) ∧ Below p.w.heap.size p.w w') := fun p => HA5.out p.w
            by_cases h1 : j < fs.length
            · have h2 : ¬ (j < fs2.length) := fun h2 => by simp [h1, h2] at hT
              have h1I : (j : Int) < (fs.length : Int) := by omega
              have h2I : decide (j < fs2.length) = false := decide_eq_false h2
              clear hT h2
              go_wp2_with fail
              refine wp_region_quiet_bw (by kernel_rfl) (by kernel_rfl) ?_
              repeat (go_big_quiet_step (first
                | (go_at_call 24; exact bw_of (HC1.out _))
                | (go_at_call 25; exact bw_of (HC2.out _))
                | (go_at_call 26; exact bw_of (HC3.out _))
                | (go_at_call 27; exact bw_of (HC4.out _))
                | (go_at_call 28; exact bw_of (HC5.out _))
                | (go_at_call 29; exact bw_of (HC6.out _))
                | (go_at_call 11; exact bw_of (HC7.out _))))
              refine wpQuiet_nil ?_
              rintro _ ⟨p, rfl⟩
              have HQ : Hid (Below w.heap.size w p.w) := HBP.out p
              go_wp2
              go_ret
              exact ⟨by simp, HQ.out⟩
            · have h1I : decide (j < fs.length) = false := decide_eq_false h1
              clear hT h1
              go_wp2_with fail
              refine wp_region_quiet_bw (by kernel_rfl) (by kernel_rfl) ?_
              repeat (go_big_quiet_step (first
                | (go_at_call 24; exact bw_of (HC1.out _))
                | (go_at_call 25; exact bw_of (HC2.out _))
                | (go_at_call 26; exact bw_of (HC3.out _))
                | (go_at_call 27; exact bw_of (HC4.out _))
                | (go_at_call 28; exact bw_of (HC5.out _))
                | (go_at_call 29; exact bw_of (HC6.out _))
                | (go_at_call 11; exact bw_of (HC7.out _))))
              refine wpQuiet_nil ?_
              rintro _ ⟨p, rfl⟩
              have HQ : Hid (Below w.heap.size w p.w) := HBP.out p
              go_wp2
              go_ret
              exact ⟨by simp, HQ.out⟩
end Go.Proofs.Ytbbogkcfngpbbaa
