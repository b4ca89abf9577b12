/- Equality of instructions, codes and modules: ir's. -/
import Derived.Test.YtbbogkcfngpbbaaSmE
import Derived.Test.YtbbogkcfngpbbaaIrE
namespace Go.Proofs.Ytbbogkcfngpbbaa
open Go.RowKit

def eqI (xs ys : List Int) : Bool := eqBy (fun x y : Int => x == y) xs ys
def Vr.same (x y : Vr) : Bool := x.ptr == y.ptr && x.tgt == y.tgt && x.cls == y.cls
def Fd.same (x y : Fd) : Bool := x.nm == y.nm && (x.ty == y.ty)
def sameI (md : Ins → List Int) (a b : Ins) : Bool := a.op == b.op && a.d == b.d && a.a == b.a && a.b == b.b && a.f == b.f && a.n == b.n && a.sign == b.sign && a.to == b.to && a.els == b.els && eqI a.args b.args && eqI (md a) (md b)
def sameC (md : Ins → List Int) (f g : Fn) : Bool := f.c.nm == g.c.nm && f.c.par == g.c.par && (f.c.rp == g.c.rp && f.c.rto == g.c.rto && f.c.rcl == g.c.rcl) && eqI f.frm g.frm && eqBy Vr.same f.vs g.vs && eqBy (sameI md) f.c.ins g.c.ins
def sameS (x y : St) : Bool := x.s.nm == y.s.nm && eqBy Fd.same x.fs y.fs
def sameM (md : Ins → List Int) (m n : Mo) : Bool := eqBy sameS m.ss n.ss && eqBy (sameC md) m.fs n.fs

/-- md tells the modes of an instruction that lies in w. -/
def ModeAt (w : World) (md : Ins → List Int) (i : Ins) : Prop := ∃ ao cap, i.modeV = .slice ao (md i).length cap ∧ IntRow w ao (md i)
theorem ModeAt.below {w w' : World} {md : Ins → List Int} {i : Ins} (h : ModeAt w md i) (hb : Below w.heap.size w w') : ModeAt w' md i := by
  obtain ⟨ao, cap, e1, e2⟩ := h
  exact ⟨ao, cap, e1, RowOf.grow e2 hb⟩

theorem var_eqIn (a b : Bool) (s t : ByteArray) (x y : Int) (w : World) : (Op.equalIn 10000 45 (.agg #[.bool a, .string s, .int .i64 x]) (.agg #[.bool b, .string t, .int .i64 y])).run Try.prog w = .ok (a == b && s == t && x == y) w := by
  have hS : Try.prog.underlying 45 = some (.struct (Try.prog.fieldsOf 45)) := by kernel_rfl
  have hp : Try.prog.stoodInHeld 45 = false := by kernel_rfl
  have hS2 : Try.prog.underlying 43 = some (.struct (Try.prog.fieldsOf 43)) := by kernel_rfl
  have hp2 : Try.prog.stoodInHeld 43 = false := by kernel_rfl
  rw [show (10000 : Nat) = 9999 + 1 from rfl, run_equalIn_agg w 9999 45 _ _ hS hp]
  simp only [Program.fieldsOf, Try.underlying45, Try.underlying43] at hS2 ⊢
  rw [beq_toListBytes]
  go_simp
  by_cases h1 : a = b <;> by_cases h2 : s.toList = t.toList <;> by_cases h3 : x = y <;> simp [h1, h2, h3]

set_option maxRecDepth 100000 in
set_option maxHeartbeats 2000000 in
theorem eqVars_calls (w : World) (aA aB : Option Addr) (cA cB : Nat) (xs ys : List Vr) (hn : xs.length ≤ maxLen) (h1 : RowOf Vr.cells 3 w w.heap.size aA xs) (h2 : RowOf Vr.cells 3 w w.heap.size aB ys) :
    Calls Try.prog 56 #[.slice aA xs.length cA, .slice aB ys.length cB] w fun e w' => e = .returned (.bool (eqBy Vr.same xs ys)) ∧ Below w.heap.size w w' := by
  have H1 := Lib.hid h1
  have H2 := Lib.hid h2
  unfold maxLen at hn
  obtain ⟨R, hR⟩ : ∃ R, eqBy Vr.same xs ys = R := ⟨_, rfl⟩
  rw [hR]
  have HR := Lib.hid hR
  clear h1 h2 hR
  by_cases hl : xs.length = ys.length
  · rw [← hl]
    have HL := Lib.hid hl
    clear hl
    go_enter Try.func56, Try.ntmps56
    go_wp2_with fail
    go_loopw [13] (fun c wr => ∃ j n : Nat, j ≤ xs.length ∧ c = .int .i64 (j : Int) ∧ EqTo Vr.same xs ys j ∧ wr = w.drewN n) (fun c _ => xs.length - (intOf c).toNat)
    case atStart => exact ⟨0, 0, Nat.zero_le _, rfl, EqTo.zero _ _ _, rfl⟩
    case round =>
      obtain ⟨j, n, hj, rfl, hz, rfl⟩ := hrel
      have HZ := Lib.hid hz
      clear hz
      by_cases hjl : j < xs.length
      · obtain ⟨x, hx⟩ : ∃ x, xs[j]? = some x := ⟨_, List.getElem?_eq_getElem hjl⟩
        obtain ⟨y, hy⟩ : ∃ y, ys[j]? = some y := ⟨_, List.getElem?_eq_getElem (by have := HL.out; omega)⟩
        obtain ⟨g1, o1, rfl, hg1, q1⟩ := H1.out (by intro e; rw [e] at hjl; simp at hjl)
        obtain ⟨g2, o2, rfl, hg2, q2⟩ := H2.out (by intro e; rw [e] at hy; simp at hy)
        have d1 : w.cell? ⟨g1, o1 + j * 3, none⟩ = some (.bool x.ptr) := q1 j x hx 0 _ rfl
        have d2 : w.cell? ⟨g1, o1 + j * 3 + 1, none⟩ = some (.string x.tgt) := q1 j x hx 1 _ rfl
        have d3 : w.cell? ⟨g1, o1 + j * 3 + 2, none⟩ = some (.int .i64 x.cls) := q1 j x hx 2 _ rfl
        have d4 : w.cell? ⟨g2, o2 + j * 3, none⟩ = some (.bool y.ptr) := q2 j y hy 0 _ rfl
        have d5 : w.cell? ⟨g2, o2 + j * 3 + 1, none⟩ = some (.string y.tgt) := q2 j y hy 1 _ rfl
        have d6 : w.cell? ⟨g2, o2 + j * 3 + 2, none⟩ = some (.int .i64 y.cls) := q2 j y hy 2 _ rfl
        have hjI : (j : Int) < (xs.length : Int) := by omega
        obtain ⟨d, hd⟩ : ∃ d, Vr.same x y = d := ⟨_, rfl⟩
        have HX := Lib.hid hx
        have HY := Lib.hid hy
        have HD := Lib.hid hd
        have heq : ∀ w, (Op.equalIn 10000 45 (.agg #[.bool x.ptr, .string x.tgt, .int .i64 x.cls]) (.agg #[.bool y.ptr, .string y.tgt, .int .i64 y.cls])).run Try.prog w = .ok d w := fun w => by rw [var_eqIn, ← hd]; rfl
        clear hd
        clear hx hy q1 q2
        cases d with
        | true =>
          go_wp2
          go_quiet (fail)
          go_wp2
          go_roundw
          case rel => exact ⟨j + 1, _, by omega, by go_num, HZ.out.next HX.out HY.out HD.out, rfl⟩
          case measure => simp [intOf]; omega
        | false =>
          have HRR : Hid (R = false) := by unfold Hid; rw [← HR.out]; exact eqBy_false_at HX.out HY.out HD.out
          go_wp2
          go_quiet (fail)
          go_wp2
          go_ret
          rw [HRR.out]
          exact ⟨rfl, below_drewN (below_drewN (Below.refl _ _) _) _⟩
      · have hje : j = xs.length := by omega
        subst hje
        have HRR : Hid (R = true) := by unfold Hid; rw [← HR.out]; exact EqTo.all HZ.out HL.out
        go_wp2
        go_ret
        rw [HRR.out]
        exact ⟨rfl, below_drewN (Below.refl _ _) _⟩
  · have HRR : Hid (R = false) := by unfold Hid; rw [← HR.out]; exact eqBy_false_len hl
    have hlI : ¬ ((xs.length : Int) = (ys.length : Int)) := by omega
    go_enter Try.func56, Try.ntmps56
    go_wp2
    go_ret
    rw [HRR.out]
    exact ⟨rfl, Below.refl _ _⟩

set_option maxRecDepth 100000 in
set_option maxHeartbeats 2000000 in
theorem refNums_calls (w : World) (aA aB : Option Addr) (cA cB : Nat) (xs ys : List Int) (hn : xs.length ≤ maxLen) (h1 : IntsAt w aA xs) (h2 : IntsAt w aB ys) :
    Calls Try.prog 14 #[.slice aA xs.length cA, .slice aB ys.length cB] w fun e w' => e = .returned (.bool (eqBy (fun x y : Int => x == y) xs ys)) ∧ Below w.heap.size w w' := by
  have H1 := Lib.hid h1
  have H2 := Lib.hid h2
  unfold maxLen at hn
  obtain ⟨R, hR⟩ : ∃ R, eqBy (fun x y : Int => x == y) xs ys = R := ⟨_, rfl⟩
  rw [hR]
  have HR := Lib.hid hR
  clear h1 h2 hR
  by_cases hl : xs.length = ys.length
  · rw [← hl]
    have HL := Lib.hid hl
    clear hl
    go_enter Try.func14, Try.ntmps14
    go_wp2_with fail
    go_loopw [5] (fun c wr => ∃ j n : Nat, j ≤ xs.length ∧ c = .int .i64 (j : Int) ∧ EqTo (fun x y : Int => x == y) xs ys j ∧ wr = w.drewN n) (fun c _ => xs.length - (intOf c).toNat)
    case atStart => exact ⟨0, 0, Nat.zero_le _, rfl, EqTo.zero _ _ _, rfl⟩
    case round =>
      obtain ⟨j, n, hj, rfl, hz, rfl⟩ := hrel
      have HZ := Lib.hid hz
      clear hz
      by_cases hjl : j < xs.length
      · obtain ⟨x, hx⟩ : ∃ x, xs[j]? = some x := ⟨_, List.getElem?_eq_getElem hjl⟩
        obtain ⟨y, hy⟩ : ∃ y, ys[j]? = some y := ⟨_, List.getElem?_eq_getElem (by have := HL.out; omega)⟩
        obtain ⟨g1, o1, rfl, hg1, q1⟩ := H1.out (by intro e; rw [e] at hjl; simp at hjl)
        obtain ⟨g2, o2, rfl, hg2, q2⟩ := H2.out (by intro e; rw [e] at hy; simp at hy)
        have d1 : w.cell? ⟨g1, o1 + j, none⟩ = some (.int .i64 x) := q1 j x hx
        have d2 : w.cell? ⟨g2, o2 + j, none⟩ = some (.int .i64 y) := q2 j y hy
        have hjI : (j : Int) < (xs.length : Int) := by omega
        obtain ⟨d, hd⟩ : ∃ d, (fun x y : Int => x == y) x y = d := ⟨_, rfl⟩
        have HX := Lib.hid hx
        have HY := Lib.hid hy
        have HD := Lib.hid hd
        clear hx hy q1 q2
        cases d with
        | true =>
          go_wp2
          go_quiet (fail)
          go_wp2
          go_roundw
          case rel => exact ⟨j + 1, _, by omega, by go_num, HZ.out.next HX.out HY.out HD.out, rfl⟩
          case measure => simp [intOf]; omega
        | false =>
          have HRR : Hid (R = false) := by unfold Hid; rw [← HR.out]; exact eqBy_false_at HX.out HY.out HD.out
          go_wp2
          go_quiet (fail)
          go_wp2
          go_ret
          rw [HRR.out]
          exact ⟨rfl, below_drewN (below_drewN (Below.refl _ _) _) _⟩
      · have hje : j = xs.length := by omega
        subst hje
        have HRR : Hid (R = true) := by unfold Hid; rw [← HR.out]; exact EqTo.all HZ.out HL.out
        go_wp2
        go_ret
        rw [HRR.out]
        exact ⟨rfl, below_drewN (Below.refl _ _) _⟩
  · have HRR : Hid (R = false) := by unfold Hid; rw [← HR.out]; exact eqBy_false_len hl
    have hlI : ¬ ((xs.length : Int) = (ys.length : Int)) := by omega
    go_enter Try.func14, Try.ntmps14
    go_wp2
    go_ret
    rw [HRR.out]
    exact ⟨rfl, Below.refl _ _⟩

end Go.Proofs.Ytbbogkcfngpbbaa
