/- Equality of instructions: ir's. -/
import Derived.Test.YtbbogkcfngpbbaaSmF0
namespace Go.Proofs.Ytbbogkcfngpbbaa
open Go.RowKit

set_option maxRecDepth 100000 in
set_option maxHeartbeats 8000000 in
theorem irSameI_calls (w : World) (md : Ins → List Int) (a b : Ins) (ha : a.args_in w) (hb : b.args_in w) (hma : ModeAt w md a) (hmb : ModeAt w md b) (h1 : a.args.length ≤ 90000) (h2 : (md a).length ≤ 90000) :
    Calls Try.prog 58 #[.agg a.cells, .agg b.cells] w fun e w' => e = .returned (.bool (sameI md a b)) ∧ Below w.heap.size w w' := by
  obtain ⟨R, hR⟩ : ∃ R, sameI md a b = R := ⟨_, rfl⟩
  rw [hR]
  have HR := Lib.hid hR
  unfold sameI at hR
  obtain ⟨_, aoA, capA, eA, rA⟩ := ha
  obtain ⟨_, aoB, capB, eB, rB⟩ := hb
  obtain ⟨moA, mcA, fA, sA⟩ := hma
  obtain ⟨moB, mcB, fB, sB⟩ := hmb
  have HEQ : Hid (∀ W, Below w.heap.size w W → Calls Try.prog 55 #[.slice aoA a.args.length capA, .slice aoB b.args.length capB] W fun e w' => e = .returned (.bool (eqI a.args b.args)) ∧ Below W.heap.size W w') := fun W hW =>
    eqInts_calls W aoA aoB capA capB a.args b.args (by unfold maxLen; omega) (rA.at_.below hW) (rB.at_.below hW)
  have HEM : Hid (∀ W, Below w.heap.size w W → Calls Try.prog 55 #[.slice moA (md a).length mcA, .slice moB (md b).length mcB] W fun e w' => e = .returned (.bool (eqI (md a) (md b))) ∧ Below W.heap.size W w') := fun W hW =>
    eqInts_calls W moA moB mcA mcB (md a) (md b) (by unfold maxLen; omega) (sA.at_.below hW) (sB.at_.below hW)
  clear rA rB sA sB h1 h2
  obtain ⟨la, hla⟩ : ∃ la, md a = la := ⟨_, rfl⟩
  obtain ⟨lb, hlb⟩ : ∃ lb, md b = lb := ⟨_, rfl⟩
  rw [hla, hlb] at HEM hR
  rw [hla] at fA
  rw [hlb] at fB
  clear hla hlb HR
  obtain ⟨op, d, x, y, f, n, sign, argsV, modeV, tgt, els, ln, cl, args⟩ := a
  obtain ⟨op2, d2, x2, y2, f2, n2, sign2, argsV2, modeV2, tgt2, els2, ln2, cl2, args2⟩ := b
  simp only at eA eB fA fB hR HEQ HEM
  subst eA eB fA fB
  simp only [Ins.cells]
  have HR := Lib.hid hR
  clear hR
  have hbx : Below w.heap.size w ((w.alloc (.cells #[.int .i64 op, .int .i64 d, .int .i64 x, .int .i64 y, .int .i64 f, .int .i64 n, .string sign, .slice aoA args.length capA, .slice moA la.length mcA, .int .i64 tgt, .int .i64 els, .int .i64 ln, .int .i64 cl] 26)).alloc (.cells #[.int .i64 op2, .int .i64 d2, .int .i64 x2, .int .i64 y2, .int .i64 f2, .int .i64 n2, .string sign2, .slice aoB args2.length capB, .slice moB lb.length mcB, .int .i64 tgt2, .int .i64 els2, .int .i64 ln2, .int .i64 cl2] 26)) := ((Below.refl _ _).alloc (Nat.le_refl _) _).alloc (by simp) _
  have HBX := Lib.hid hbx
  clear hbx
  by_cases k0 : op = op2
  rotate_left
  · have HRR : Hid (R = false) := by unfold Hid; rw [← HR.out]; simp [k0]
    clear HEQ HEM HR
    go_enter Try.func58, Try.ntmps58
    go_wp2
    go_ret
    rw [HRR.out]
    exact ⟨rfl, HBX.out⟩
  subst k0
  by_cases k1 : d = d2
  rotate_left
  · have HRR : Hid (R = false) := by unfold Hid; rw [← HR.out]; simp [k1]
    clear HEQ HEM HR
    go_enter Try.func58, Try.ntmps58
    go_wp2
    go_ret
    rw [HRR.out]
    exact ⟨rfl, HBX.out⟩
  subst k1
  by_cases k2 : x = x2
  rotate_left
  · have HRR : Hid (R = false) := by unfold Hid; rw [← HR.out]; simp [k2]
    clear HEQ HEM HR
    go_enter Try.func58, Try.ntmps58
    go_wp2
    go_ret
    rw [HRR.out]
    exact ⟨rfl, HBX.out⟩
  subst k2
  by_cases k3 : y = y2
  rotate_left
  · have HRR : Hid (R = false) := by unfold Hid; rw [← HR.out]; simp [k3]
    clear HEQ HEM HR
    go_enter Try.func58, Try.ntmps58
    go_wp2
    go_ret
    rw [HRR.out]
    exact ⟨rfl, HBX.out⟩
  subst k3
  by_cases k4 : f = f2
  rotate_left
  · have HRR : Hid (R = false) := by unfold Hid; rw [← HR.out]; simp [k4]
    clear HEQ HEM HR
    go_enter Try.func58, Try.ntmps58
    go_wp2
    go_ret
    rw [HRR.out]
    exact ⟨rfl, HBX.out⟩
  subst k4
  by_cases k5 : n = n2
  rotate_left
  · have HRR : Hid (R = false) := by unfold Hid; rw [← HR.out]; simp [k5]
    clear HEQ HEM HR
    go_enter Try.func58, Try.ntmps58
    go_wp2
    go_ret
    rw [HRR.out]
    exact ⟨rfl, HBX.out⟩
  subst k5
  by_cases k6 : sign = sign2
  rotate_left
  · have HRR : Hid (R = false) := by unfold Hid; rw [← HR.out]; simp [k6]
    have k6 : ¬ (sign.toList = sign2.toList) := fun e => k6 (eq_of_beq (by rw [beq_toListBytes, e]; simp))
    clear HEQ HEM HR
    go_enter Try.func58, Try.ntmps58
    go_wp2
    go_ret
    rw [HRR.out]
    exact ⟨rfl, HBX.out⟩
  subst k6
  by_cases k7 : tgt = tgt2
  rotate_left
  · have HRR : Hid (R = false) := by unfold Hid; rw [← HR.out]; simp [k7]
    clear HEQ HEM HR
    go_enter Try.func58, Try.ntmps58
    go_wp2
    go_ret
    rw [HRR.out]
    exact ⟨rfl, HBX.out⟩
  subst k7
  by_cases k8 : els = els2
  rotate_left
  · have HRR : Hid (R = false) := by unfold Hid; rw [← HR.out]; simp [k8]
    clear HEQ HEM HR
    go_enter Try.func58, Try.ntmps58
    go_wp2
    go_ret
    rw [HRR.out]
    exact ⟨rfl, HBX.out⟩
  subst k8
  obtain ⟨r1, hr1⟩ : ∃ r, eqI args args2 = r := ⟨_, rfl⟩
  obtain ⟨r2, hr2⟩ : ∃ r, eqI la lb = r := ⟨_, rfl⟩
  rw [hr1] at HEQ
  rw [hr2] at HEM
  have HRR : Hid (R = (r1 && r2)) := by unfold Hid; rw [← HR.out, hr1, hr2]; simp
  clear hr1 hr2 HR
  cases r1 with
  | false =>
    go_enter Try.func58, Try.ntmps58
    go_wp2_with (go_at_call 55; refine (HEQ.out _ HBX.out).mono ?_; rintro e w2 ⟨rfl, hb2⟩; have HB2 := Lib.hid (HBX.out.trans (hb2.mono HBX.out.size)); clear hb2)
    go_ret
    rw [HRR.out]
    exact ⟨rfl, HB2.out⟩
  | true =>
    obtain ⟨N, hN⟩ : ∃ N, w.heap.size = N := ⟨_, rfl⟩
    obtain ⟨W1, hW1⟩ : ∃ W1, W1 = ((w.alloc (.cells #[.int .i64 op, .int .i64 d, .int .i64 x, .int .i64 y, .int .i64 f, .int .i64 n, .string sign, .slice aoA args.length capA, .slice moA la.length mcA, .int .i64 tgt, .int .i64 els, .int .i64 ln, .int .i64 cl] 26)).alloc (.cells #[.int .i64 op, .int .i64 d, .int .i64 x, .int .i64 y, .int .i64 f, .int .i64 n, .string sign, .slice aoB args2.length capB, .slice moB lb.length mcB, .int .i64 tgt, .int .i64 els, .int .i64 ln2, .int .i64 cl2] 26)) := ⟨_, rfl⟩
    have c1 : W1.cell? ⟨N, 8, none⟩ = some (.slice moA la.length mcA) := by
      rw [hW1, World.cell?_alloc_lt _ _ _ (by simp; omega), ← hN]
      have := cells_new w [.int .i64 op, .int .i64 d, .int .i64 x, .int .i64 y, .int .i64 f, .int .i64 n, .string sign, .slice aoA args.length capA, .slice moA la.length mcA, .int .i64 tgt, .int .i64 els, .int .i64 ln, .int .i64 cl] 26 8 _ rfl
      rw [Addr.add_lit] at this
      simp
    have c2 : W1.cell? ⟨N + 1, 8, none⟩ = some (.slice moB lb.length mcB) := by
      rw [hW1]
      have := cells_new (w.alloc (.cells #[.int .i64 op, .int .i64 d, .int .i64 x, .int .i64 y, .int .i64 f, .int .i64 n, .string sign, .slice aoA args.length capA, .slice moA la.length mcA, .int .i64 tgt, .int .i64 els, .int .i64 ln, .int .i64 cl] 26)) [.int .i64 op, .int .i64 d, .int .i64 x, .int .i64 y, .int .i64 f, .int .i64 n, .string sign, .slice aoB args2.length capB, .slice moB lb.length mcB, .int .i64 tgt, .int .i64 els, .int .i64 ln2, .int .i64 cl2] 26 8 _ rfl
      rw [Addr.add_lit, World.size_alloc, hN] at this
      simp at this ⊢
      exact this
    have hs1 : W1.heap.size = N + 2 := by rw [hW1]; simp [hN]
    have HW1 := Lib.hid hW1
    have HN := Lib.hid hN
    rw [← hW1] at HBX
    clear hW1
    go_enter Try.func58, Try.ntmps58
    go_wp2_with (first
      | (go_at_call 55; rw [← HW1.out]; refine (HEQ.out _ HBX.out).mono ?_; rintro e w2 ⟨rfl, hb2⟩; have d1 := (hb2.cell (p := ⟨N, 8, none⟩) (by show N < _; omega)).trans c1; have d2 := (hb2.cell (p := ⟨N + 1, 8, none⟩) (by show N + 1 < _; omega)).trans c2; have HB2 := Lib.hid (HBX.out.trans (hb2.mono HBX.out.size)); clear hb2 HEQ)
      | (go_at_call 55; refine (HEM.out _ HB2.out).mono ?_; rintro e w3 ⟨rfl, hb3⟩; have HB3 := Lib.hid (HB2.out.trans (hb3.mono HB2.out.size)); clear hb3))
    go_ret
    rw [HRR.out]
    exact ⟨rfl, HB3.out⟩

end Go.Proofs.Ytbbogkcfngpbbaa
