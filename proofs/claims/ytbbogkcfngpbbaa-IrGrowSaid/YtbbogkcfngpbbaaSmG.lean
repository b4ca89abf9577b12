/- ir.SameCode and ir.Same say whether two codes, two modules are the same. -/
import Derived.Test.YtbbogkcfngpbbaaSmF
namespace Go.Proofs.Ytbbogkcfngpbbaa
open Go.RowKit

set_option maxRecDepth 100000 in
set_option maxHeartbeats 4000000 in
theorem same1_calls (w : World) (x y : Fd) : Calls Try.prog 60 #[.agg x.cells, .agg y.cells] w fun e w' => e = .returned (.bool (Fd.same x y)) ∧ Below w.heap.size w w' := by
  obtain ⟨R, hR⟩ : ∃ R, Fd.same x y = R := ⟨_, rfl⟩
  rw [hR]
  obtain ⟨nm, ptr, tgt, ln, cl⟩ := x
  obtain ⟨nm2, ptr2, tgt2, ln2, cl2⟩ := y
  simp only [Fd.same, Fd.ty] at hR
  rw [beq_toListBytes nm nm2] at hR
  obtain ⟨d, hd⟩ : ∃ d, (((ptr, tgt) : Ty) == (ptr2, tgt2)) = d := ⟨_, rfl⟩
  rw [hd] at hR
  have heq : ∀ w, (Op.equalIn 10000 43 (.agg #[.bool ptr, .string tgt]) (.agg #[.bool ptr2, .string tgt2])).run Try.prog w = .ok d w := fun w => by rw [ty_eqIn, hd]
  have HR := Lib.hid hR
  simp only [Fd.cells]
  clear hR hd
  by_cases k0 : nm.toList = nm2.toList
  · have HRR : Hid (R = d) := by unfold Hid; rw [← HR.out]; simp [k0]
    go_enter Try.func60, Try.ntmps60
    go_wp2
    go_ret
    rw [HRR.out]
    exact ⟨rfl, ((Below.refl _ _).alloc (Nat.le_refl _) _).alloc (by simp) _⟩
  · have HRR : Hid (R = false) := by unfold Hid; rw [← HR.out]; simp [k0]
    go_enter Try.func60, Try.ntmps60
    go_wp2
    go_ret
    rw [HRR.out]
    exact ⟨rfl, ((Below.refl _ _).alloc (Nat.le_refl _) _).alloc (by simp) _⟩

set_option maxRecDepth 100000 in
set_option maxHeartbeats 4000000 in
theorem same2_calls (w : World) (Bc : Nat) (x y : St) (hB : w.heap[Bc]? = some (.cells #[.func (.func 60) #[] #[]] 97 (0, 0))) (hx : x.inn w) (hy : y.inn w) :
    Calls Try.prog 61 #[.agg x.cells, .agg y.cells, .pointer (some ⟨Bc, 0, none⟩)] w fun e w' => e = .returned (.bool (sameS x y)) ∧ Below w.heap.size w w' := by
  obtain ⟨R, hR⟩ : ∃ R, sameS x y = R := ⟨_, rfl⟩
  rw [hR]
  have hBl := (Array.getElem?_eq_some_iff.1 hB).1
  have hBc : w.cell? ⟨Bc, 0, none⟩ = some (.func (.func 60) #[] #[]) := by rw [cell_of_row _ _ _ _ _ _ hB]; rfl
  have HF : Hid (∀ W, Below w.heap.size w W → Calls Try.prog 62 #[.slice x.s.fA x.fs.length x.s.fC, .slice y.s.fA y.fs.length y.s.fC, .func (.func 60) #[] #[]] W fun e w' => e = .returned (.bool (eqBy Fd.same x.fs y.fs)) ∧ Below W.heap.size W w') := fun W hW =>
    eqfFd_calls W x.s.fA y.s.fA x.s.fC y.s.fC x.fs y.fs Fd.same hx.len (hx.row.grow hW) (hy.row.grow hW) (fun f _ => by simp [Fd.cells, Value.oneCell']) (fun f _ => by simp [Fd.cells, Value.oneCell']) (fun a _ b _ W' _ => same1_calls W' a b)
  have e1 := hx.nf
  have e2 := hy.nf
  obtain ⟨⟨nm, fA, nf, fC, ln, cl⟩, fs⟩ := x
  obtain ⟨⟨nm2, fA2, nf2, fC2, ln2, cl2⟩, fs2⟩ := y
  simp only at e1 e2 HF
  subst e1 e2
  simp only [sameS] at hR
  rw [beq_toListBytes nm nm2] at hR
  obtain ⟨d, hd⟩ : ∃ d, eqBy Fd.same fs fs2 = d := ⟨_, rfl⟩
  rw [hd] at hR HF
  have HR := Lib.hid hR
  simp only [St.cells, Stc.cells]
  clear hR hd hx hy hB
  by_cases k0 : nm.toList = nm2.toList
  · have HRR : Hid (R = d) := by unfold Hid; rw [← HR.out]; simp [k0]
    go_enter Try.func61, Try.ntmps61
    go_wp2_with (go_at_call 62; refine (HF.out _ (((Below.refl _ _).alloc (Nat.le_refl _) _).alloc (by simp) _)).mono ?_; rintro e w2 ⟨rfl, hb2⟩; have HB2 := Lib.hid hb2; clear hb2)
    go_ret
    rw [HRR.out]
    exact ⟨rfl, (((Below.refl _ _).alloc (Nat.le_refl _) _).alloc (by simp) _).trans (HB2.out.mono (by simp <;> omega))⟩
  · have HRR : Hid (R = false) := by unfold Hid; rw [← HR.out]; simp [k0]
    go_enter Try.func61, Try.ntmps61
    go_wp2
    go_ret
    rw [HRR.out]
    exact ⟨rfl, ((Below.refl _ _).alloc (Nat.le_refl _) _).alloc (by simp) _⟩

/-- What is asked of a code to be held against another one. -/
structure Fn.fitS (md : Ins → List Int) (w : World) (f : Fn) : Prop where
  inn : f.inn w
  mode : ∀ i ∈ f.c.ins, ModeAt w md i
  nfrm : f.frm.length ≤ 90000
  nvs : f.vs.length ≤ 90000
  nins : f.c.ins.length ≤ 90000
  args : ∀ i ∈ f.c.ins, i.args.length ≤ 90000 ∧ (md i).length ≤ 90000

theorem Fn.fitS.below {md : Ins → List Int} {w w' : World} {f : Fn} (h : f.fitS md w) (hb : Below w.heap.size w w') : f.fitS md w' :=
  ⟨h.inn.below hb, fun i hi => (h.mode i hi).below hb, h.nfrm, h.nvs, h.nins, h.args⟩

set_option maxRecDepth 100000 in
set_option maxHeartbeats 8000000 in
theorem irSameC_calls (w : World) (md : Ins → List Int) (f g : Fn) (hf : f.fitS md w) (hg : g.fitS md w) :
    Calls Try.prog 22 #[.agg f.cells, .agg g.cells] w fun e w' => e = .returned (.bool (sameC md f g)) ∧ Below w.heap.size w w' := by
  obtain ⟨R, hR⟩ : ∃ R, sameC md f g = R := ⟨_, rfl⟩
  rw [hR]
  have HE1 : Hid (∀ W, Below w.heap.size w W → Calls Try.prog 55 #[.slice f.c.fromA f.frm.length f.c.fromC, .slice g.c.fromA g.frm.length g.c.fromC] W fun e w' => e = .returned (.bool (eqI f.frm g.frm)) ∧ Below W.heap.size W w') := fun W hW =>
    eqInts_calls W _ _ _ _ f.frm g.frm (by have := hf.nfrm; unfold maxLen; omega) (hf.inn.frm.at_.below hW) (hg.inn.frm.at_.below hW)
  have HE2 : Hid (∀ W, Below w.heap.size w W → Calls Try.prog 56 #[.slice f.c.varsA f.vs.length f.c.varsC, .slice g.c.varsA g.vs.length g.c.varsC] W fun e w' => e = .returned (.bool (eqBy Vr.same f.vs g.vs)) ∧ Below W.heap.size W w') := fun W hW =>
    eqVars_calls W _ _ _ _ f.vs g.vs (by have := hf.nvs; unfold maxLen; omega) (hf.inn.vars.grow hW) (hg.inn.vars.grow hW)
  have HE3 : Hid (∀ W, Below w.heap.size w W → Calls Try.prog 57 #[.slice f.c.insA f.c.ins.length f.c.insC, .slice g.c.insA g.c.ins.length g.c.insC, .func (.func 58) #[] #[]] W fun e w' => e = .returned (.bool (eqBy (sameI md) f.c.ins g.c.ins)) ∧ Below W.heap.size W w') := fun W hW =>
    eqfIns_calls W _ _ _ _ f.c.ins g.c.ins (sameI md) (by have := hf.nins; unfold maxLen; omega) (hf.below hW).inn.code.row (hg.below hW).inn.code.row (fun x hx => ins_cells_one (hf.inn.code.args x hx).1) (fun x hx => ins_cells_one (hg.inn.code.args x hx).1)
      (fun x hx y hy W' hW' => irSameI_calls W' md x y ((hf.below (hW.trans (hW'.mono hW.size))).inn.code.args x hx) ((hg.below (hW.trans (hW'.mono hW.size))).inn.code.args y hy) ((hf.below (hW.trans (hW'.mono hW.size))).mode x hx) ((hg.below (hW.trans (hW'.mono hW.size))).mode y hy) (hf.args x hx).1 (hf.args x hx).2)
  have n1 := hf.inn.nvars
  have n2 := hg.inn.nvars
  have n3 := hf.inn.nfrom
  have n4 := hg.inn.nfrom
  simp only [sameC] at hR
  clear hf hg
  obtain ⟨⟨nm, par, varsA, nvars, varsC, rp, rto, rcl, fromA, nfrom, fromC, insA, insC, ins⟩, vs, frm, mds⟩ := f
  obtain ⟨⟨nm2, par2, varsA2, nvars2, varsC2, rp2, rto2, rcl2, fromA2, nfrom2, fromC2, insA2, insC2, ins2⟩, vs2, frm2, mds2⟩ := g
  simp only at n1 n2 n3 n4 HE1 HE2 HE3 hR
  subst n1 n2 n3 n4
  obtain ⟨r1, hr1⟩ : ∃ r, eqI frm frm2 = r := ⟨_, rfl⟩
  obtain ⟨r2, hr2⟩ : ∃ r, eqBy Vr.same vs vs2 = r := ⟨_, rfl⟩
  obtain ⟨r3, hr3⟩ : ∃ r, eqBy (sameI md) ins ins2 = r := ⟨_, rfl⟩
  obtain ⟨d, hd⟩ : ∃ d, (rp == rp2 && rto == rto2 && rcl == rcl2) = d := ⟨_, rfl⟩
  have heq : ∀ w, (Op.equalIn 10000 45 (.agg #[.bool rp, .string rto, .int .i64 rcl]) (.agg #[.bool rp2, .string rto2, .int .i64 rcl2])).run Try.prog w = .ok d w := fun w => by rw [var_eqIn, hd]
  rw [hr1, hr2, hr3, hd] at hR
  rw [hr1] at HE1
  rw [hr2] at HE2
  rw [hr3] at HE3
  simp only [Fn.cells, Cod.cells]
  have HR := Lib.hid hR
  clear hr1 hr2 hr3 hd hR
  obtain ⟨N, hN⟩ : ∃ N, w.heap.size = N := ⟨_, rfl⟩
  obtain ⟨W1, hW1⟩ : ∃ W1, W1 = ((w.alloc (.cells #[.string nm, .int .i64 par, .slice varsA vs.length varsC, .bool rp, .string rto, .int .i64 rcl, .slice fromA frm.length fromC, .slice insA ins.length insC] 48)).alloc (.cells #[.string nm2, .int .i64 par2, .slice varsA2 vs2.length varsC2, .bool rp2, .string rto2, .int .i64 rcl2, .slice fromA2 frm2.length fromC2, .slice insA2 ins2.length insC2] 48)) := ⟨_, rfl⟩
  have q1 : W1.heap[N]? = some (.cells #[.string nm, .int .i64 par, .slice varsA vs.length varsC, .bool rp, .string rto, .int .i64 rcl, .slice fromA frm.length fromC, .slice insA ins.length insC] 48 (0, 0)) := by
    rw [hW1, Below.heap_alloc _ _ _ (by simp; omega), ← hN]; exact alloc_at _ _
  have q2 : W1.heap[N + 1]? = some (.cells #[.string nm2, .int .i64 par2, .slice varsA2 vs2.length varsC2, .bool rp2, .string rto2, .int .i64 rcl2, .slice fromA2 frm2.length fromC2, .slice insA2 ins2.length insC2] 48 (0, 0)) := by
    rw [hW1]
    have := alloc_at (w.alloc (.cells #[.string nm, .int .i64 par, .slice varsA vs.length varsC, .bool rp, .string rto, .int .i64 rcl, .slice fromA frm.length fromC, .slice insA ins.length insC] 48)) (.cells #[.string nm2, .int .i64 par2, .slice varsA2 vs2.length varsC2, .bool rp2, .string rto2, .int .i64 rcl2, .slice fromA2 frm2.length fromC2, .slice insA2 ins2.length insC2] 48)
    rwa [World.size_alloc, hN] at this
  have hs1 : W1.heap.size = N + 2 := by rw [hW1]; simp [hN]
  have HBX : Hid (Below w.heap.size w W1) := by unfold Hid; rw [hW1]; exact ((Below.refl _ _).alloc (Nat.le_refl _) _).alloc (by simp) _
  have HS : Hid (∀ W, Below W1.heap.size W1 W → W.cell? ⟨N, 2, none⟩ = some (.slice varsA vs.length varsC) ∧ W.cell? ⟨N, 7, none⟩ = some (.slice insA ins.length insC) ∧ W.cell? ⟨N + 1, 2, none⟩ = some (.slice varsA2 vs2.length varsC2) ∧ W.cell? ⟨N + 1, 7, none⟩ = some (.slice insA2 ins2.length insC2)) := by
    intro W hW
    have p1 := (hW.block N (by omega)).trans q1
    have p2 := (hW.block (N + 1) (by omega)).trans q2
    exact ⟨(cell_of_row _ _ _ _ _ _ p1).trans rfl, (cell_of_row _ _ _ _ _ _ p1).trans rfl, (cell_of_row _ _ _ _ _ _ p2).trans rfl, (cell_of_row _ _ _ _ _ _ p2).trans rfl⟩
  have HW1 := Lib.hid hW1
  clear q1 q2 hW1
  by_cases k0 : nm = nm2
  rotate_left
  · have HRR : Hid (R = false) := by unfold Hid; rw [← HR.out]; simp [k0]
    have k0 : ¬ (nm.toList = nm2.toList) := fun e => k0 (eq_of_beq (by rw [beq_toListBytes, e]; simp))
    go_enter Try.func22, Try.ntmps22
    go_wp2
    go_ret
    rw [HRR.out, ← HW1.out]
    exact ⟨rfl, HBX.out⟩
  subst k0
  by_cases k1 : par = par2
  rotate_left
  · have HRR : Hid (R = false) := by unfold Hid; rw [← HR.out]; simp [k1]
    go_enter Try.func22, Try.ntmps22
    go_wp2
    go_ret
    rw [HRR.out, ← HW1.out]
    exact ⟨rfl, HBX.out⟩
  subst k1
  cases d with
  | false =>
    have HRR : Hid (R = false) := by unfold Hid; rw [← HR.out]; simp
    go_enter Try.func22, Try.ntmps22
    go_wp2
    go_ret
    rw [HRR.out, ← HW1.out]
    exact ⟨rfl, HBX.out⟩
  | true =>
    cases r1 with
    | false =>
      have HRR : Hid (R = false) := by unfold Hid; rw [← HR.out]; simp
      go_enter Try.func22, Try.ntmps22
      go_wp2_with (go_at_call 55; rw [← HW1.out]; refine (HE1.out _ HBX.out).mono ?_; rintro e w2 ⟨rfl, hb2⟩; have HB2 := Lib.hid (HBX.out.trans (hb2.mono HBX.out.size)); clear hb2)
      go_ret
      rw [HRR.out]
      exact ⟨rfl, HB2.out⟩
    | true =>
      cases r2 with
      | false =>
        have HRR : Hid (R = false) := by unfold Hid; rw [← HR.out]; simp
        go_enter Try.func22, Try.ntmps22
        go_wp2_with (first
          | (go_at_call 55; rw [← HW1.out]; refine (HE1.out _ HBX.out).mono ?_; rintro e w2 ⟨rfl, hb2⟩; obtain ⟨c1, c2, c3, c4⟩ := HS.out _ hb2; have HB2 := Lib.hid (HBX.out.trans (hb2.mono HBX.out.size)); clear hb2)
          | (go_at_call 56; refine (HE2.out _ HB2.out).mono ?_; rintro e w3 ⟨rfl, hb3⟩; have HB3 := Lib.hid (HB2.out.trans (hb3.mono HB2.out.size)); clear hb3))
        go_ret
        rw [HRR.out]
        exact ⟨rfl, HB3.out⟩
      | true =>
        have HRR : Hid (R = r3) := by unfold Hid; rw [← HR.out]; simp
        go_enter Try.func22, Try.ntmps22
        go_wp2_with (first
          | (go_at_call 55; rw [← HW1.out]; refine (HE1.out _ HBX.out).mono ?_; rintro e w2 ⟨rfl, hb2⟩; obtain ⟨c1, c2, c3, c4⟩ := HS.out _ hb2; have HB2 := Lib.hid (HBX.out.trans (hb2.mono HBX.out.size)); have HC2 := Lib.hid hb2; clear hb2)
          | (go_at_call 56; refine (HE2.out _ HB2.out).mono ?_; rintro e w3 ⟨rfl, hb3⟩; clear c1 c2 c3 c4; have HC3 := Lib.hid (HC2.out.trans (hb3.mono HC2.out.size)); obtain ⟨c1, c2, c3, c4⟩ := HS.out _ HC3.out; have HB3 := Lib.hid (HB2.out.trans (hb3.mono HB2.out.size)); clear hb3)
          | (go_at_call 57; refine (HE3.out _ HB3.out).mono ?_; rintro e w4 ⟨rfl, hb4⟩; have HB4 := Lib.hid (HB3.out.trans (hb4.mono HB3.out.size)); clear hb4))
        go_ret
        rw [HRR.out]
        exact ⟨rfl, HB4.out⟩

/-- What is asked of a module to be held against another one. -/
structure Mo.fitS (md : Ins → List Int) (w : World) (m : Mo) : Prop where
  inn : m.inn w
  fit : ∀ f ∈ m.fs, f.fitS md w
  ns : m.ss.length ≤ 90000
  nf : m.fs.length ≤ 90000

theorem Mo.fitS.below {md : Ins → List Int} {w w' : World} {m : Mo} (h : m.fitS md w) (hb : Below w.heap.size w w') : m.fitS md w' :=
  ⟨h.inn.below hb, fun f hf => (h.fit f hf).below hb, h.ns, h.nf⟩

set_option maxRecDepth 100000 in
set_option maxHeartbeats 8000000 in
theorem irSame_calls (w : World) (md : Ins → List Int) (m n : Mo) (hm : m.fitS md w) (hn : n.fitS md w) :
    Calls Try.prog 24 #[.agg m.cells, .agg n.cells] w fun e w' => e = .returned (.bool (sameM md m n)) ∧ Below w.heap.size w w' := by
  obtain ⟨R, hR⟩ : ∃ R, sameM md m n = R := ⟨_, rfl⟩
  rw [hR]
  have HE1 : Hid (∀ (W : World) (Bc : Nat), W.heap[Bc]? = some (.cells #[.func (.func 60) #[] #[]] 97 (0, 0)) → Below w.heap.size w W → Calls Try.prog 63 #[.slice m.sA m.ss.length m.sC, .slice n.sA n.ss.length n.sC, .func (.func 61) #[] #[.pointer (some ⟨Bc, 0, none⟩)]] W fun e w' => e = .returned (.bool (eqBy sameS m.ss n.ss)) ∧ Below W.heap.size W w') := fun W Bc hB hW =>
    eqfSt_calls W _ _ _ _ m.ss n.ss sameS Bc (by have := hm.ns; unfold maxLen; omega) (hm.inn.srow.grow hW) (hn.inn.srow.grow hW) (fun x _ => by simp [St.cells, Stc.cells, Value.oneCell']) (fun x _ => by simp [St.cells, Stc.cells, Value.oneCell'])
      (fun x hx y hy W' hW' => same2_calls W' Bc x y ((hW'.block Bc (Array.getElem?_eq_some_iff.1 hB).1).trans hB) ((hm.below (hW.trans (hW'.mono hW.size))).inn.sin x hx) ((hn.below (hW.trans (hW'.mono hW.size))).inn.sin y hy))
  have HE2 : Hid (∀ W, Below w.heap.size w W → Calls Try.prog 64 #[.slice m.fA m.fs.length m.fC, .slice n.fA n.fs.length n.fC, .func (.func 22) #[] #[]] W fun e w' => e = .returned (.bool (eqBy (sameC md) m.fs n.fs)) ∧ Below W.heap.size W w') := fun W hW =>
    eqfFn_calls W _ _ _ _ m.fs n.fs (sameC md) (by have := hm.nf; unfold maxLen; omega) (hm.inn.frow.grow hW) (hn.inn.frow.grow hW) (fun x _ => by simp [Fn.cells, Cod.cells, Value.oneCell']) (fun x _ => by simp [Fn.cells, Cod.cells, Value.oneCell'])
      (fun x hx y hy W' hW' => irSameC_calls W' md x y ((hm.below (hW.trans (hW'.mono hW.size))).fit x hx) ((hn.below (hW.trans (hW'.mono hW.size))).fit y hy))
  obtain ⟨sA, sC, fA, fC, ss, fs⟩ := m
  obtain ⟨sA2, sC2, fA2, fC2, ss2, fs2⟩ := n
  simp only [sameM] at hR HE1 HE2
  obtain ⟨r1, hr1⟩ : ∃ r, eqBy sameS ss ss2 = r := ⟨_, rfl⟩
  obtain ⟨r2, hr2⟩ : ∃ r, eqBy (sameC md) fs fs2 = r := ⟨_, rfl⟩
  rw [hr1, hr2] at hR
  rw [hr1] at HE1
  rw [hr2] at HE2
  have HR := Lib.hid hR
  simp only [Mo.cells]
  clear hm hn hr1 hr2 hR
  obtain ⟨N, hN⟩ : ∃ N, w.heap.size = N := ⟨_, rfl⟩
  obtain ⟨W1, hW1⟩ : ∃ W1, W1 = ((w.alloc (.cells #[.slice sA ss.length sC, .slice fA fs.length fC] 38)).alloc (.cells #[.slice sA2 ss2.length sC2, .slice fA2 fs2.length fC2] 38)).alloc (.cells #[.func (.func 60) #[] #[]] 97) := ⟨_, rfl⟩
  have q1 : W1.heap[N]? = some (.cells #[.slice sA ss.length sC, .slice fA fs.length fC] 38 (0, 0)) := by
    rw [hW1, Below.heap_alloc _ _ _ (by simp; omega), Below.heap_alloc _ _ _ (by simp; omega), ← hN]; exact alloc_at _ _
  have q2 : W1.heap[N + 1]? = some (.cells #[.slice sA2 ss2.length sC2, .slice fA2 fs2.length fC2] 38 (0, 0)) := by
    rw [hW1, Below.heap_alloc _ _ _ (by simp; omega)]
    have := alloc_at (w.alloc (.cells #[.slice sA ss.length sC, .slice fA fs.length fC] 38)) (.cells #[.slice sA2 ss2.length sC2, .slice fA2 fs2.length fC2] 38)
    rwa [World.size_alloc, hN] at this
  have HQ3 : Hid (W1.heap[N + 2]? = some (.cells #[.func (.func 60) #[] #[]] 97 (0, 0))) := by
    unfold Hid
    rw [hW1]
    have := alloc_at ((w.alloc (.cells #[.slice sA ss.length sC, .slice fA fs.length fC] 38)).alloc (.cells #[.slice sA2 ss2.length sC2, .slice fA2 fs2.length fC2] 38)) (.cells #[.func (.func 60) #[] #[]] 97)
    rwa [World.size_alloc, World.size_alloc, hN] at this
  have hs1 : W1.heap.size = N + 3 := by rw [hW1]; simp [hN]
  have HBX : Hid (Below w.heap.size w W1) := by unfold Hid; rw [hW1]; exact (((Below.refl _ _).alloc (Nat.le_refl _) _).alloc (by simp) _).alloc (by simp <;> omega) _
  have HS : Hid (∀ W, Below W1.heap.size W1 W → W.cell? ⟨N, 0, none⟩ = some (.slice sA ss.length sC) ∧ W.cell? ⟨N, 1, none⟩ = some (.slice fA fs.length fC) ∧ W.cell? ⟨N + 1, 0, none⟩ = some (.slice sA2 ss2.length sC2) ∧ W.cell? ⟨N + 1, 1, none⟩ = some (.slice fA2 fs2.length fC2)) := by
    intro W hW
    have p1 := (hW.block N (by omega)).trans q1
    have p2 := (hW.block (N + 1) (by omega)).trans q2
    exact ⟨(cell_of_row _ _ _ _ _ _ p1).trans rfl, (cell_of_row _ _ _ _ _ _ p1).trans rfl, (cell_of_row _ _ _ _ _ _ p2).trans rfl, (cell_of_row _ _ _ _ _ _ p2).trans rfl⟩
  have HW1 := Lib.hid hW1
  clear q1 q2 hW1
  have hoc : ∀ (W : World) (a : Addr), (store a (Value.func (.func 60) #[] #[])).run Try.prog W = _ := fun W a => run_store Try.prog W a (Value.func (.func 60) #[] #[]) .plain rfl
  go_enter Try.func24, Try.ntmps24
  go_upto_region 2 with (fail)
  (try simp only [Nat.add_assoc, Nat.reduceAdd])
  rw [← HW1.out]
  obtain ⟨c1, c2, c3, c4⟩ := HS.out W1 (Below.refl _ _)
  cases r1 with
  | false =>
    have HRR : Hid (R = false) := by unfold Hid; rw [← HR.out]; simp
    go_wp2_with (go_at_call 63; refine (HE1.out _ _ HQ3.out HBX.out).mono ?_; rintro e w2 ⟨rfl, hb2⟩; have HB2 := Lib.hid (HBX.out.trans (hb2.mono HBX.out.size)); clear hb2)
    go_ret
    rw [HRR.out]
    exact ⟨rfl, HB2.out⟩
  | true =>
    have HRR : Hid (R = r2) := by unfold Hid; rw [← HR.out]; simp
    go_wp2_with (first
      | (go_at_call 63; refine (HE1.out _ _ HQ3.out HBX.out).mono ?_; rintro e w2 ⟨rfl, hb2⟩; clear c1 c2 c3 c4; obtain ⟨c1, c2, c3, c4⟩ := HS.out _ hb2; have HB2 := Lib.hid (HBX.out.trans (hb2.mono HBX.out.size)); clear hb2)
      | (go_at_call 64; refine (HE2.out _ HB2.out).mono ?_; rintro e w3 ⟨rfl, hb3⟩; have HB3 := Lib.hid (HB2.out.trans (hb3.mono HB2.out.size)); clear hb3))
    go_ret
    rw [HRR.out]
    exact ⟨rfl, HB3.out⟩
end Go.Proofs.Ytbbogkcfngpbbaa
