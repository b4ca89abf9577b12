import Derived.Test.YtlggjbopfnndbaaIrD
import Derived.Test.YtlggjbopfnndbaaQ11

namespace Go.Proofs.Ytlggjbopfnndbaa
open Go.RowKit

theorem ty_eqIn (a b : Bool) (s t : ByteArray) (w : World) : (Op.equalIn 10000 45 (.agg #[.bool a, .string s]) (.agg #[.bool b, .string t])).run Try.prog w = .ok (((a, s) : Ty) == (b, t)) w := by
  have hS : Try.prog.underlying 45 = some (.struct (Try.prog.fieldsOf 45)) := by kernel_rfl
  have hp : Try.prog.stoodInHeld 45 = false := by kernel_rfl
  rw [show (10000 : Nat) = 9999 + 1 from rfl, run_equalIn_agg w 9999 45 _ _ hS hp]
  simp only [Program.fieldsOf, Try.underlying45]
  have e : (((a, s) : Ty) == (b, t)) = (a == b && s.toList == t.toList) := by rw [← beq_toListBytes]; rfl
  rw [e]
  go_simp
  by_cases h1 : a = b <;> by_cases h2 : s.toList = t.toList <;> simp [h1, h2]
/-- A judge's cells in block N. -/
def JgAt (w : World) (N : Nat) (m : Mo) (g : Fn) : Prop := w.cell? ⟨N, 0, none⟩ = some (.slice m.sA m.ss.length m.sC) ∧ w.cell? ⟨N, 1, none⟩ = some (.slice m.fA m.fs.length m.fC) ∧ w.cell? ⟨N, 2, none⟩ = some (.string g.c.nm) ∧ w.cell? ⟨N, 3, none⟩ = some (.int .i64 g.c.par) ∧ w.cell? ⟨N, 4, none⟩ = some (.slice g.c.varsA g.c.nvars g.c.varsC) ∧ w.cell? ⟨N, 5, none⟩ = some (.bool g.c.rp) ∧ w.cell? ⟨N, 6, none⟩ = some (.string g.c.rto) ∧ w.cell? ⟨N, 7, none⟩ = some (.int .i64 g.c.rcl) ∧ w.cell? ⟨N, 8, none⟩ = some (.slice g.c.fromA g.c.nfrom g.c.fromC) ∧ w.cell? ⟨N, 9, none⟩ = some (.slice g.c.insA g.c.ins.length g.c.insC)

theorem JgAt.of {w : World} {N : Nat} {m : Mo} {g : Fn} (h : w.heap[N]? = some (.cells (jg m g) 113 (0, 0))) : JgAt w N m g := by
  refine ⟨?_, ?_, ?_, ?_, ?_, ?_, ?_, ?_, ?_, ?_⟩ <;> (rw [cell_of_row _ _ _ _ _ _ h]; rfl)

set_option maxRecDepth 100000 in
set_option maxHeartbeats 4000000 in
theorem heap_calls (m : Mo) (g : Fn) (i : Ins) (other : Int) (ptr : Bool) (w : World) (h : JIn w m g) (ha : isVar g.vs.length i.a = true) (ho : isVar g.vs.length other = true) (hk : m.known (tyAt g.vs i.a) = true) :
    Calls Try.prog 137 #[.agg (jg m g), .agg i.cells, .int .i64 other, .bool ptr] w fun e w' => e = .returned (.int .i64 (heapF m g.vs i other ptr)) ∧ Below w.heap.size w w' := by
  have HT : Hid (∀ W, Below w.heap.size w W → Calls Try.prog 125 #[.agg (jg m g), .int .i64 other] W fun e w' => e = .returned (tyV (tyAt g.vs other)) ∧ Below W.heap.size W w') := fun W hW => typ_calls m g other W (h.below hW).vars h.nv h.vl ho
  have HF : Hid (∀ W, Below w.heap.size w W → Calls Try.prog 140 #[.agg (jg m g), .int .i64 i.a, .int .i64 i.f] W fun e w' => e = .returned (.tuple #[tyV (fieldF m g.vs i.a i.f).1, .int .i64 (fieldF m g.vs i.a i.f).2]) ∧ Below W.heap.size W w') := fun W hW => field_calls m g i.a i.f W (h.below hW) ha hk
  clear h ha ho hk
  have HE : Hid (heapF m g.vs i other ptr = if (fieldF m g.vs i.a i.f).2 ≠ 0 then (fieldF m g.vs i.a i.f).2 else unl ((fieldF m g.vs i.a i.f).1 == tyAt g.vs other && (fieldF m g.vs i.a i.f).1.1 == ptr) 7) := rfl
  obtain ⟨R, hR⟩ : ∃ R, heapF m g.vs i other ptr = R := ⟨_, rfl⟩
  obtain ⟨⟨⟨b, s⟩, z⟩, hz⟩ : ∃ F, fieldF m g.vs i.a i.f = F := ⟨_, rfl⟩
  obtain ⟨⟨b2, s2⟩, ht⟩ : ∃ t, tyAt g.vs other = t := ⟨_, rfl⟩
  rw [hz, ht, hR] at HE
  rw [hz] at HF
  rw [ht] at HT
  rw [hR]
  unfold tyV at HT HF
  clear hz ht hR
  have hst : ∀ (w : World) (c : Array Value), c.size = 2 → (storeCells ⟨w.heap.size, 0, none⟩ [.bool b, .string s] 0).run Try.prog (w.alloc (.cells c 45)) = .ok () (w.alloc (.cells #[.bool b, .string s] 45)) := fun w c hc =>
    run_storeCells_new (P := Try.prog) w 45 c #[.bool b, .string s] (by show _ = some 2; kernel_rfl) hc (by simp [Value.oneCell'])
  obtain ⟨N, hN⟩ : ∃ N, w.heap.size = N := ⟨_, rfl⟩
  obtain ⟨W1, hW1⟩ : ∃ W1, (w.alloc (.cells (jg m g) 113)).alloc (.cells i.cells 62) = W1 := ⟨_, rfl⟩
  have hb1 : Below N w W1 := by rw [← hW1, ← hN]; exact ((Below.refl _ _).alloc (Nat.le_refl _) _).alloc (by simp) _
  have hs1 : W1.heap.size = N + 2 := by rw [← hW1]; simp [hN]
  have hr1 : W1.heap[N]? = some (.cells (jg m g) 113 (0, 0)) := by rw [← hW1, ← hN]; exact heap_alloc2_old _ _ _
  have hr2 : W1.heap[N + 1]? = some (.cells i.cells 62 (0, 0)) := by rw [← hW1, ← hN]; exact heap_alloc2_new _ _ _
  have i2 : W1.cell? ⟨N + 1, 2, none⟩ = some (.int .i64 i.a) := by rw [cell_of_row _ _ _ _ _ _ hr2]; rfl
  have i4 : W1.cell? ⟨N + 1, 4, none⟩ = some (.int .i64 i.f) := by rw [cell_of_row _ _ _ _ _ _ hr2]; rfl
  have HB1 := Lib.hid hb1
  have HR1 := Lib.hid hr1
  have HN := Lib.hid hN
  have HS1 := Lib.hid hs1
  clear hb1 hr1 hr2 hs1
  go_enter Try.func137, Try.ntmps137
  go_upto_region 2 with (first
    | (refine wpList_load_row rfl 113 _ rfl N rfl 113 (jg m g) (0, 0) _ HR1.out Try.underlying113 rfl (by kernel_rfl) ?_)
    | (go_at_call 140; refine (HF.out _ (by rw [HN.out]; exact HB1.out)).mono ?_; rintro e w2 ⟨rfl, hb2⟩; have HB2 := Lib.hid hb2; clear hb2))
  obtain ⟨T, hT⟩ : ∃ T, w2.heap.size = T := ⟨_, rfl⟩
  obtain ⟨W3, hW3⟩ : ∃ W3, w2.alloc (.cells #[.bool b, .string s] 45) = W3 := ⟨_, rfl⟩
  rw [hT, hW3]
  have hb13 : Below W1.heap.size W1 W3 := by rw [← hW3]; exact HB2.out.alloc HB2.out.size _
  have hTN : N + 2 ≤ T := by rw [← hT, ← HS1.out]; exact HB2.out.size
  have hs3 : W3.heap.size = T + 1 := by rw [← hW3, ← hT]; simp
  have hr3 : W3.heap[N]? = some (.cells (jg m g) 113 (0, 0)) := (hb13.block N (by have := HS1.out; omega)).trans HR1.out
  have hr5 : W3.heap[T]? = some (.cells #[.bool b, .string s] 45 (0, 0)) := by rw [← hW3, ← hT]; exact alloc_at _ _
  have HB3 : Hid (Below N w W3) := HB1.out.trans (hb13.mono (by have := HS1.out; omega))
  have HKEEP : Hid (∀ W, Below W3.heap.size W3 W → JgAt W N m g ∧ W.cell? ⟨T, 0, none⟩ = some (.bool b) ∧ W.cell? ⟨T, 1, none⟩ = some (.string s)) := by
    intro W hW
    have q5 := (hW.block T (by omega)).trans hr5
    refine ⟨JgAt.of ((hW.block N (by omega)).trans hr3), ?_, ?_⟩
    · rw [cell_of_row _ _ _ _ _ _ q5]; rfl
    · rw [cell_of_row _ _ _ _ _ _ q5]; rfl
  clear hst hW1 hW3 hb13 hr3 hr5 HR1 hT HB2 hN HS1 i2 i4 HF
  by_cases hz : z = 0
  · subst hz
    have HRR : Hid (R = unl (((b, s) : Ty) == (b2, s2) && b == ptr) 7) := by unfold Hid; rw [HE.out, if_neg (by simp)]
    obtain ⟨d, hd⟩ : ∃ d, (((b, s) : Ty) == (b2, s2)) = d := ⟨_, rfl⟩
    have heq : ∀ w, (Op.equalIn 10000 45 (.agg #[.bool b, .string s]) (.agg #[.bool b2, .string s2])).run Try.prog w = .ok d w := fun w => by rw [ty_eqIn, hd]
    rw [hd] at HRR
    have HTC : Hid (∀ p : BW W3, Calls Try.prog 125 #[.agg (jg m g), .int .i64 other] p.w fun e w' => e = .returned (.agg #[.bool b2, .string s2]) ∧ Below p.w.heap.size p.w w') :=
      fun p => HT.out p.w (by rw [HN.out]; exact HB3.out.trans (p.h.mono (by omega)))
    unfold jg at HTC
    have k0 : ∀ p : BW W3, p.w.cell? ⟨N, 0, none⟩ = some (.slice m.sA m.ss.length m.sC) := fun p => (HKEEP.out p.w p.h).1.1
    have k1 : ∀ p : BW W3, p.w.cell? ⟨N, 1, none⟩ = some (.slice m.fA m.fs.length m.fC) := fun p => (HKEEP.out p.w p.h).1.2.1
    have k2 : ∀ p : BW W3, p.w.cell? ⟨N, 2, none⟩ = some (.string g.c.nm) := fun p => (HKEEP.out p.w p.h).1.2.2.1
    have k3 : ∀ p : BW W3, p.w.cell? ⟨N, 3, none⟩ = some (.int .i64 g.c.par) := fun p => (HKEEP.out p.w p.h).1.2.2.2.1
    have k4 : ∀ p : BW W3, p.w.cell? ⟨N, 4, none⟩ = some (.slice g.c.varsA g.c.nvars g.c.varsC) := fun p => (HKEEP.out p.w p.h).1.2.2.2.2.1
    have k5 : ∀ p : BW W3, p.w.cell? ⟨N, 5, none⟩ = some (.bool g.c.rp) := fun p => (HKEEP.out p.w p.h).1.2.2.2.2.2.1
    have k6 : ∀ p : BW W3, p.w.cell? ⟨N, 6, none⟩ = some (.string g.c.rto) := fun p => (HKEEP.out p.w p.h).1.2.2.2.2.2.2.1
    have k7 : ∀ p : BW W3, p.w.cell? ⟨N, 7, none⟩ = some (.int .i64 g.c.rcl) := fun p => (HKEEP.out p.w p.h).1.2.2.2.2.2.2.2.1
    have k8 : ∀ p : BW W3, p.w.cell? ⟨N, 8, none⟩ = some (.slice g.c.fromA g.c.nfrom g.c.fromC) := fun p => (HKEEP.out p.w p.h).1.2.2.2.2.2.2.2.2.1
    have k9 : ∀ p : BW W3, p.w.cell? ⟨N, 9, none⟩ = some (.slice g.c.insA g.c.ins.length g.c.insC) := fun p => (HKEEP.out p.w p.h).1.2.2.2.2.2.2.2.2.2
    have t0 : ∀ p : BW W3, p.w.cell? ⟨T, 0, none⟩ = some (.bool b) := fun p => (HKEEP.out p.w p.h).2.1
    have t1 : ∀ p : BW W3, p.w.cell? ⟨T, 1, none⟩ = some (.string s) := fun p => (HKEEP.out p.w p.h).2.2
    clear hd HE HT HKEEP
    cases d with
    | false =>
      go_wp2
      refine wp_region_quiet_bw (by kernel_rfl) (by kernel_rfl) ?_
      repeat (go_big_quiet_step (first
        | (go_at_call 125; exact bw_of (HTC.out _))
        | (go_at_call 81; exact bw_same (unless_calls _ _ _))))
      refine wpQuiet_nil ?_
      rintro _ ⟨p, rfl⟩
      go_wp2
      go_ret
      rw [HRR.out, HN.out]
      exact ⟨rfl, HB3.out.trans (p.h.mono (by omega))⟩
    | true =>
      go_wp2
      refine wp_region_quiet_bw (by kernel_rfl) (by kernel_rfl) ?_
      repeat (go_big_quiet_step (first
        | (go_at_call 125; exact bw_of (HTC.out _))
        | (go_at_call 81; exact bw_same (unless_calls _ _ _))))
      refine wpQuiet_nil ?_
      rintro _ ⟨p, rfl⟩
      go_wp2
      go_ret
      rw [HRR.out, HN.out]
      exact ⟨rfl, HB3.out.trans (p.h.mono (by omega))⟩
  · have HRR : Hid (R = z) := by unfold Hid; rw [HE.out, if_pos hz]
    have hzb : (z == 0) = false := by rw [beq_eq_false_iff_ne]; exact hz
    clear HE HT HKEEP hz
    go_wp2
    go_ret
    rw [HRR.out, HN.out]
    exact ⟨rfl, HB3.out⟩
end Go.Proofs.Ytlggjbopfnndbaa
