/- ir.Right's judge of a function's code. -/
import Derived.Test.YtbbogkcfngpbbaaIrK
namespace Go.Proofs.Ytbbogkcfngpbbaa
open Go.RowKit

theorem firstF_at {α : Type} {f : α → Int} : ∀ {l : List α} {j : Nat} {x : α}, (∀ y ∈ l.take j, f y = 0) → l[j]? = some x → f x ≠ 0 → firstF f l = f x
  | [], j, x, _, h, _ => by simp at h
  | y :: r, 0, x, _, h, hx => by
    simp at h; subst h
    unfold firstF; rw [if_neg hx]
  | y :: r, j + 1, x, hz, h, hx => by
    unfold firstF
    rw [if_pos (hz y (by simp))]
    exact firstF_at (j := j) (fun z hz' => hz z (by simp [hz'])) (by simpa using h) hx

theorem firstF_zero {α : Type} {f : α → Int} : ∀ {l : List α}, (∀ y ∈ l, f y = 0) → firstF f l = 0
  | [], _ => rfl
  | y :: r, h => by
    unfold firstF
    rw [if_pos (h y (by simp))]
    exact firstF_zero fun z hz => h z (by simp [hz])

theorem ins_cells_one {i : Ins} (h : i.ok) : (i.cells.all fun x => x.oneCell') = true := by
  obtain ⟨⟨ao, cap, h1⟩, ao2, n2, cap2, h2⟩ := h
  rw [← Array.all_toList]; simp [Ins.cells, Value.oneCell', h1, h2]

/-- What code leans on. -/
structure CodeIn (w : World) (m : Mo) (g : Fn) : Prop where
  mo : m.inn w
  fn : g.inn w
  al : ∀ i ∈ g.c.ins, i.args.length ≤ 40
  kn : ∀ v, isVar g.vs.length v = true → m.known (tyAt g.vs v) = true

set_option maxRecDepth 100000 in
set_option maxHeartbeats 8000000 in
theorem code_calls (m : Mo) (g : Fn) (w : World) (h : CodeIn w m g) :
    Calls Try.prog 72 #[.agg (jg m g)] w fun e w' => e = .returned (.int .i64 (codeF m g)) ∧ Below w.heap.size w w' := by
  have HJI : Hid (∀ i ∈ g.c.ins, ∀ W, Below w.heap.size w W → Calls Try.prog 87 #[.agg (jg m g), .agg i.cells] W fun e w' => e = .returned (.int .i64 (instrF m g i)) ∧ Below W.heap.size W w') := fun i hi W hW =>
    instr_calls m g i W ⟨(jIn_of h.mo h.fn).below hW, (h.fn.code.args i hi).below hW, h.al i hi, h.kn⟩
  have HIR := Lib.hid h.fn.code.row
  have HOK : Hid (∀ i ∈ g.c.ins, i.ok) := fun i hi => (h.fn.code.args i hi).1
  have hnv := h.fn.nvars
  have hvl := (jIn_of h.mo h.fn).vl
  unfold maxLen at hvl
  obtain ⟨R, hR⟩ : ∃ R, codeF m g = R := ⟨_, rfl⟩
  have HE : Hid (R = if 300 < g.vs.length ∨ g.c.ins.length < 1 ∨ 3000 < g.c.ins.length then 2
    else if g.c.par < 0 ∨ (g.vs.length : Int) < g.c.par then 15
    else if firstF (instrF m g) g.c.ins ≠ 0 then firstF (instrF m g) g.c.ins
    else unl (match g.c.ins.getLast? with
      | some i => decide (16 ≤ i.op)
      | none => false) 15) := hR.symm
  rw [hR]
  clear h hR
  obtain ⟨N, hN⟩ : ∃ N, w.heap.size = N := ⟨_, rfl⟩
  obtain ⟨W1, hW1⟩ : ∃ W1, w.alloc (.cells (jg m g) 107) = W1 := ⟨_, rfl⟩
  have hb1 : Below N w W1 := by rw [← hW1, ← hN]; exact (Below.refl _ _).alloc (Nat.le_refl _) _
  have hs1 : W1.heap.size = N + 1 := by rw [← hW1]; simp [hN]
  have hr1 : W1.heap[N]? = some (.cells (jg m g) 107 (0, 0)) := by rw [← hW1, ← hN]; exact alloc_at _ _
  have q3 : W1.cell? ⟨N, 3, none⟩ = some (.int .i64 g.c.par) := by rw [cell_of_row _ _ _ _ _ _ hr1]; rfl
  have q4 : W1.cell? ⟨N, 4, none⟩ = some (.slice g.c.varsA g.vs.length g.c.varsC) := by rw [cell_of_row _ _ _ _ _ _ hr1, ← hnv]; rfl
  have q9 : W1.cell? ⟨N, 9, none⟩ = some (.slice g.c.insA g.c.ins.length g.c.insC) := by rw [cell_of_row _ _ _ _ _ _ hr1]; rfl
  have HB1 := Lib.hid hb1
  have HN := Lib.hid hN
  have HR1 := Lib.hid hr1
  have HS1 := Lib.hid hs1
  have hNlt : N < W1.heap.size := by omega
  clear hb1 hr1 hnv
  by_cases c1 : 300 < g.vs.length
  · have HRR : Hid (R = 2) := by unfold Hid; rw [HE.out, if_pos (.inl c1)]
    clear HE
    go_enter Try.func72, Try.ntmps72
    go_wp2
    go_ret
    rw [HRR.out]
    try rw [HN.out]
    exact ⟨rfl, HB1.out⟩
  by_cases c2 : g.c.ins.length < 1
  · have HRR : Hid (R = 2) := by unfold Hid; rw [HE.out, if_pos (.inr (.inl c2))]
    clear HE
    go_enter Try.func72, Try.ntmps72
    go_wp2
    go_ret
    rw [HRR.out]
    try rw [HN.out]
    exact ⟨rfl, HB1.out⟩
  by_cases c3 : 3000 < g.c.ins.length
  · have HRR : Hid (R = 2) := by unfold Hid; rw [HE.out, if_pos (.inr (.inr c3))]
    clear HE
    go_enter Try.func72, Try.ntmps72
    go_wp2
    go_ret
    rw [HRR.out]
    try rw [HN.out]
    exact ⟨rfl, HB1.out⟩
  by_cases c4 : g.c.par < 0
  · have HRR : Hid (R = 15) := by unfold Hid; rw [HE.out, if_neg (by omega), if_pos (.inl c4)]
    clear HE
    go_enter Try.func72, Try.ntmps72
    go_wp2
    go_ret
    rw [HRR.out]
    try rw [HN.out]
    exact ⟨rfl, HB1.out⟩
  by_cases c5 : (g.vs.length : Int) < g.c.par
  · have HRR : Hid (R = 15) := by unfold Hid; rw [HE.out, if_neg (by omega), if_pos (.inr c5)]
    clear HE
    go_enter Try.func72, Try.ntmps72
    go_wp2
    go_ret
    rw [HRR.out]
    try rw [HN.out]
    exact ⟨rfl, HB1.out⟩
  have HE2 : Hid (R = if firstF (instrF m g) g.c.ins ≠ 0 then firstF (instrF m g) g.c.ins
    else unl (match g.c.ins.getLast? with
      | some i => decide (16 ≤ i.op)
      | none => false) 15) := by unfold Hid; rw [HE.out, if_neg (by omega), if_neg (by omega)]
  clear HE
  go_enter Try.func72, Try.ntmps72
  go_upto_region 8 with (refine wpList_load_row rfl 107 _ rfl N rfl 107 (jg m g) (0, 0) _ HR1.out Try.underlying107 rfl (by kernel_rfl) ?_)
  go_loopw [47] (fun c wr => ∃ j : Nat, j ≤ g.c.ins.length ∧ c = .int .i64 (j : Int) ∧ (∀ x ∈ g.c.ins.take j, instrF m g x = 0) ∧ Below W1.heap.size W1 wr) (fun c _ => g.c.ins.length - (intOf c).toNat)
  case atStart => exact ⟨0, Nat.zero_le _, rfl, by simp, Below.refl _ _⟩
  case round =>
    obtain ⟨j, hj, rfl, hz, hb⟩ := hrel
    have HB := Lib.hid hb
    have HZ := Lib.hid hz
    have HBW : Hid (Below N w wr) := HB1.out.trans (hb.mono (by omega))
    by_cases hjl : j < g.c.ins.length
    · obtain ⟨i, hi⟩ : ∃ i, g.c.ins[j]? = some i := ⟨_, List.getElem?_eq_getElem hjl⟩
      have him := List.mem_of_getElem? hi
      obtain ⟨b0, off, hA, hb0, hcell⟩ := HIR.out (by intro e; rw [e] at hjl; simp at hjl)
      have hb0N : b0 < N := by omega
      have HCA : Hid (∀ k u, i.cells.toList[k]? = some u → wr.cell? ((⟨b0, off + j * 13, none⟩ : Addr).add k) = some u) := fun k u hu => by
        rw [Addr.add_lit, HBW.out.cell (p := ⟨b0, _, none⟩) hb0N]; exact hcell j i hi k u hu
      have hst : ∀ (c : Array Value), c.size = 13 → (storeCells ⟨wr.heap.size, 0, none⟩ i.cells.toList 0).run Try.prog (wr.alloc (.cells c 26)) = .ok () (wr.alloc (.cells i.cells 26)) := fun c hc =>
        run_storeCells_new (P := Try.prog) wr 26 c i.cells (by show _ = some 13; kernel_rfl) hc (ins_cells_one (HOK.out i him))
      have HW2 : Hid ((wr.alloc (.cells i.cells 26)).heap[wr.heap.size]? = some (.cells i.cells 26 (0, 0))) := alloc_at _ _
      have HB2 : Hid (Below N w (wr.alloc (.cells i.cells 26))) := HBW.out.alloc (by have := HB.out.size; omega) _
      have HB12 : Hid (Below W1.heap.size W1 (wr.alloc (.cells i.cells 26))) := HB.out.alloc HB.out.size _
      have HIC : Hid (Calls Try.prog 87 #[.agg (jg m g), .agg i.cells] (wr.alloc (.cells i.cells 26)) fun e w' => e = .returned (.int .i64 (instrF m g i)) ∧ Below (wr.alloc (.cells i.cells 26)).heap.size (wr.alloc (.cells i.cells 26)) w') := HJI.out i him _ (by rw [HN.out]; exact HB2.out)
      have hjI : (j : Int) < (g.c.ins.length : Int) := by omega
      have HI := Lib.hid hi
      obtain ⟨z, hzz⟩ : ∃ z, instrF m g i = z := ⟨_, rfl⟩
      rw [hzz] at HIC
      have HZZ := Lib.hid hzz
      rw [hA]
      clear hz hb hi him hb0 hcell hzz
      by_cases hz0 : z = 0
      · subst hz0
        go_wp2_with (first
          | (refine wpList_load_at rfl 26 _ rfl ⟨b0, off + j * 13, none⟩ rfl i.cells _ HCA.out Try.underlying26 rfl (by kernel_rfl) ?_)
          | (refine wpList_load_row rfl 26 _ rfl wr.heap.size rfl 26 i.cells (0, 0) _ HW2.out Try.underlying26 rfl (by kernel_rfl) ?_)
          | (go_at_call 87; refine HIC.out.mono ?_; rintro e w3 ⟨rfl, hb3⟩; have HB3 : Hid (Below W1.heap.size W1 w3) := HB12.out.trans (hb3.mono HB12.out.size); clear hb3))
        go_roundw
        case rel => exact ⟨j + 1, by omega, by go_num, take_all (p := fun x => instrF m g x = 0) HZ.out HI.out HZZ.out, HB3.out⟩
        case measure => simp [intOf]; omega
      · have HRR : Hid (R = z) := by
          unfold Hid
          have e := firstF_at (f := instrF m g) HZ.out HI.out (by rw [HZZ.out]; exact hz0)
          rw [HE2.out, e, HZZ.out, if_pos hz0]
        have hzb : (z == 0) = false := by rw [beq_eq_false_iff_ne]; exact hz0
        go_wp2_with (first
          | (refine wpList_load_at rfl 26 _ rfl ⟨b0, off + j * 13, none⟩ rfl i.cells _ HCA.out Try.underlying26 rfl (by kernel_rfl) ?_)
          | (refine wpList_load_row rfl 26 _ rfl wr.heap.size rfl 26 i.cells (0, 0) _ HW2.out Try.underlying26 rfl (by kernel_rfl) ?_)
          | (go_at_call 87; refine HIC.out.mono ?_; rintro e w3 ⟨rfl, hb3⟩; have HB3 : Hid (Below W1.heap.size W1 w3) := HB12.out.trans (hb3.mono HB12.out.size); clear hb3))
        go_ret
        rw [HRR.out]
        try rw [HN.out]
        exact ⟨rfl, HB1.out.trans (HB3.out.mono (by omega))⟩
    · have hje : j = g.c.ins.length := by omega
      subst hje
      rw [List.take_length] at hz
      obtain ⟨i, hi⟩ : ∃ i, g.c.ins[g.c.ins.length - 1]? = some i := ⟨_, List.getElem?_eq_getElem (by omega)⟩
      have HRR : Hid (R = unl (decide (16 ≤ i.op)) 15) := by
        unfold Hid
        rw [HE2.out, firstF_zero hz, if_neg (by simp), List.getLast?_eq_getElem?, hi]
      obtain ⟨b0, off, hA, hb0, hcell⟩ := HIR.out (by intro e; rw [e] at hi; simp at hi)
      have hb0N : b0 < N := by omega
      obtain ⟨L, hL⟩ : ∃ L, g.c.ins.length = L + 1 := ⟨g.c.ins.length - 1, by omega⟩
      have hd : wr.cell? ⟨b0, off + L * 13, none⟩ = some (.int .i64 i.op) := by
        rw [HBW.out.cell (p := ⟨b0, _, none⟩) hb0N]
        rw [hL, Nat.add_sub_cancel] at hi
        exact hcell L i hi 0 _ rfl
      have q9r : wr.cell? ⟨N, 9, none⟩ = some (.slice (some ⟨b0, off, none⟩) (L + 1) g.c.insC) := by rw [hb.cell (p := ⟨N, 9, none⟩) hNlt, ← hA, ← hL]; exact q9
      have hbr : b0 < wr.heap.size := by have := hb.size; omega
      have hNr : N < wr.heap.size := by have := hb.size; omega
      have hLI : ((L + 1 : Nat) : Int) - 1 = (L : Int) := by omega
      have hL3 : L ≤ 3000 := by omega
      clear hz hb hi HE2 hcell q9
      rw [hL]
      go_wp2_with (go_at_call 73; refine (unless_calls _ _ _).mono ?_; rintro e w8 ⟨rfl, rfl⟩)
      go_ret
      rw [HRR.out]
      try rw [HN.out]
      exact ⟨rfl, HBW.out⟩
end Go.Proofs.Ytbbogkcfngpbbaa
