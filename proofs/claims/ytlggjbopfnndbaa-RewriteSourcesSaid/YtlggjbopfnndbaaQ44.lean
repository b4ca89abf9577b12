import Derived.Test.YtlggjbopfnndbaaRewV
import Derived.Test.YtlggjbopfnndbaaQ30
import Derived.Test.YtlggjbopfnndbaaIrO
import Derived.Test.YtlggjbopfnndbaaIrE

namespace Go.Proofs.Ytlggjbopfnndbaa
open Go.RowKit

def modeF (m : Mo) (f a : Int) : List Int :=
  if rightF m = 0 ∧ 0 ≤ f ∧ 0 ≤ a then (match m.fs[f.toNat]? with
    | some g => (match g.c.ins[a.toNat]? with
      | some i => modesF m g i
      | none => [])
    | none => []) else []

set_option maxRecDepth 100000 in
set_option maxHeartbeats 16000000 in
theorem mode_calls (m : Mo) (w : World) (hin : RightIn w m) (f a : Int) : Calls Try.prog 19 #[.agg m.cells, .int .i64 f, .int .i64 a] w (GivesI w (modeF m f a)) := by
  have HIN := Lib.hid hin
  obtain ⟨N, hN⟩ : ∃ N, w.heap.size = N := ⟨_, rfl⟩
  obtain ⟨W2, hW2⟩ : ∃ W2, w.alloc (.cells m.cells 25) = W2 := ⟨_, rfl⟩
  have hb2 : Below N w W2 := by rw [← hW2, ← hN]; exact (Below.refl _ _).alloc (Nat.le_refl _) _
  have hs2 : W2.heap.size = N + 1 := by rw [← hW2]; simp [hN]
  have hr1 : W2.heap[N]? = some (.cells m.cells 25 (0, 0)) := by rw [← hW2, ← hN]; exact alloc_at _ _
  have hin2 := hin.below (by rw [hN]; exact hb2)
  have HRI := Lib.hid (right_calls m W2 hin2)
  have HK : Hid (∀ W, Below W2.heap.size W2 W → W.cell? ⟨N, 0, none⟩ = some (.slice m.sA m.ss.length m.sC) ∧ W.cell? ⟨N, 1, none⟩ = some (.slice m.fA m.fs.length m.fC) ∧ Below N w W ∧ m.inn W) := fun W hW => by
    have h1 := (hW.block N (by omega)).trans hr1
    have h2 := hb2.trans (hW.mono (by omega))
    exact ⟨by rw [cell_of_row _ _ _ _ _ _ h1]; rfl, by rw [cell_of_row _ _ _ _ _ _ h1]; rfl, h2, hin.mo.below (by rw [hN]; exact h2)⟩
  obtain ⟨c0, c1, _, _⟩ := HK.out W2 (Below.refl _ _)
  obtain ⟨L, hL⟩ : ∃ L, modeF m f a = L := ⟨_, rfl⟩
  rw [hL]
  have HNIL : Hid (∀ W, Below W2.heap.size W2 W → L = [] → GivesI w L (.returned (.slice none 0 0)) W) := by
    intro W hW e
    rw [e]
    exact ⟨none, 0, rfl, OwnI.nil _ _, by rw [hN]; exact (HK.out W hW).2.2.1⟩
  have HL := Lib.hid hL
  have hW2' := hW2
  simp only [Mo.cells] at hW2' HRI
  have HW2 := Lib.hid hW2'
  have HS2 := Lib.hid hs2
  have HB2 := Lib.hid hb2
  have HN := Lib.hid hN
  simp only [Mo.cells]
  clear hin hin2 hW2 hW2' hb2 hs2 hr1 hL
  go_enter Try.func19, Try.ntmps19
  go_upto_region 1 with (fail)
  rw [HW2.out]
  go_wp2_with fail
  go_at_call 51
  refine HRI.out.mono ?_
  rintro e w3 ⟨rfl, hb3⟩
  obtain ⟨F, hF⟩ : ∃ F, rightF m = F := ⟨_, rfl⟩
  rw [hF]
  clear c0 c1
  obtain ⟨c0, c1, hbw, hmi⟩ := HK.out w3 hb3
  by_cases h0 : F = 0
  rotate_left
  · have d0 : (F != 0) = true := by rw [bne_iff_ne]; exact h0
    have HR := Lib.hid (HNIL.out w3 hb3 (by rw [← HL.out]; unfold modeF; rw [if_neg (by rw [hF]; omega)]))
    clear hbw hmi hb3 hF h0
    go_wp2
    go_ret
    exact HR.out
  subst h0
  have d0 : ((0 : Int) != 0) = false := rfl
  by_cases h1 : f < 0
  · have HR := Lib.hid (HNIL.out w3 hb3 (by rw [← HL.out]; unfold modeF; rw [if_neg (by omega)]))
    clear hbw hmi hb3 hF
    go_wp2
    go_ret
    exact HR.out
  obtain ⟨f, rfl⟩ : ∃ n : Nat, f = (n : Int) := ⟨f.toNat, by omega⟩
  clear h1
  by_cases h2 : f < m.fs.length
  rotate_left
  · have h2I : (m.fs.length : Int) ≤ (f : Int) := by omega
    have HR := Lib.hid (HNIL.out w3 hb3 (by rw [← HL.out]; unfold modeF; rw [Int.toNat_natCast, List.getElem?_eq_none (by omega)]; split <;> rfl))
    clear hbw hmi hb3 hF
    go_wp2
    go_ret
    exact HR.out
  have h2I : (f : Int) < (m.fs.length : Int) := by omega
  by_cases h3 : a < 0
  · have HR := Lib.hid (HNIL.out w3 hb3 (by rw [← HL.out]; unfold modeF; rw [if_neg (by omega)]))
    clear hbw hmi hb3 hF
    go_wp2
    go_ret
    exact HR.out
  obtain ⟨a, rfl⟩ : ∃ n : Nat, a = (n : Int) := ⟨a.toNat, by omega⟩
  clear h3
  obtain ⟨g, hg⟩ : ∃ g, m.fs[f]? = some g := ⟨_, List.getElem?_eq_getElem h2⟩
  have hgm := List.mem_of_getElem? hg
  obtain ⟨fb, fo, hfA, hfb, hfc⟩ := hmi.frow (by intro e; rw [e] at h2; simp at h2)
  have e7 := hfc f g hg 7 _ rfl
  by_cases h4 : a < g.c.ins.length
  rotate_left
  · have h4I : (g.c.ins.length : Int) ≤ (a : Int) := by omega
    have HR := Lib.hid (HNIL.out w3 hb3 (by rw [← HL.out]; unfold modeF; rw [Int.toNat_natCast, hg, Int.toNat_natCast]; dsimp only; rw [List.getElem?_eq_none (by omega)]; split <;> rfl))
    rw [hfA] at c1 ⊢
    clear hbw hmi hb3 hF hg hfc
    go_wp2
    go_ret
    exact HR.out
  have h4I : (a : Int) < (g.c.ins.length : Int) := by omega
  obtain ⟨i, hi⟩ : ∃ i, g.c.ins[a]? = some i := ⟨_, List.getElem?_eq_getElem h4⟩
  obtain ⟨b2, o2, hA2, hb2, hc2⟩ := (hmi.fin g hgm).code.row (by intro e; rw [e] at h4; simp at h4)
  have HOK := Lib.hid (OkR.of hF)
  have HMO : Hid (∀ p : BW w3, Calls Try.prog 44 #[.agg (jg m g), .agg i.cells] p.w (GivesI p.w (modesF m g i))) := fun p =>
    modes_calls p.w m (HK.out p.w (hb3.trans (p.h.mono hb3.size))).2.2.2 HOK.out f g hg i (List.mem_of_getElem? hi)
  have HLE : Hid (modesF m g i = L) := by rw [← HL.out]; unfold modeF; rw [if_pos ⟨hF, by omega, by omega⟩, Int.toNat_natCast, hg, Int.toNat_natCast]; dsimp only; rw [hi]; exact Lib.hid rfl
  rw [HLE.out] at HMO
  have HGL : Hid (∀ (p : BW w3) (k : Nat) (u : Value), (#[.string g.c.nm, .int .i64 g.c.par, .slice g.c.varsA g.c.nvars g.c.varsC, .bool g.c.rp, .string g.c.rto, .int .i64 g.c.rcl, .slice g.c.fromA g.c.nfrom g.c.fromC, .slice g.c.insA g.c.ins.length g.c.insC] : Array Value).toList[k]? = some u → p.w.cell? ((⟨fb, fo + f * 8, none⟩ : Addr).add k) = some u) := fun p k u hu => by
    obtain ⟨fb', fo', hfA', _, hfc'⟩ := (HK.out p.w (hb3.trans (p.h.mono hb3.size))).2.2.2.frow (by intro e; rw [e] at h2; simp at h2)
    rw [hfA] at hfA'
    simp only [Option.some.injEq, Addr.mk.injEq, and_true] at hfA'
    rw [Addr.add_lit, hfA'.1, hfA'.2]; exact hfc' f g hg k u hu
  have HIL : Hid (∀ (p : BW w3) k u, i.cells.toList[k]? = some u → p.w.cell? ((⟨b2, o2 + a * 13, none⟩ : Addr).add k) = some u) := fun p k u hu => by
    obtain ⟨fb', fo', hfA', _, hfc'⟩ := ((HK.out p.w (hb3.trans (p.h.mono hb3.size))).2.2.2.fin g hgm).code.row (by intro e; rw [e] at h4; simp at h4)
    rw [hA2] at hfA'
    simp only [Option.some.injEq, Addr.mk.injEq, and_true] at hfA'
    rw [Addr.add_lit, hfA'.1, hfA'.2]; exact hfc' a i hi k u hu
  have m0 : ∀ p : BW w3, p.w.cell? ⟨N, 0, none⟩ = some (.slice m.sA m.ss.length m.sC) := fun p => (HK.out p.w (hb3.trans (p.h.mono hb3.size))).1
  have m1 : ∀ p : BW w3, p.w.cell? ⟨N, 1, none⟩ = some (.slice (some ⟨fb, fo, none⟩) m.fs.length m.fC) := fun p => by rw [← hfA]; exact (HK.out p.w (hb3.trans (p.h.mono hb3.size))).2.1
  have m7 : ∀ p : BW w3, p.w.cell? ⟨fb, fo + f * 8 + 7, none⟩ = some (.slice (some ⟨b2, o2, none⟩) g.c.ins.length g.c.insC) := fun p => by
    have := HGL.out p 7 (.slice g.c.insA g.c.ins.length g.c.insC) rfl
    rw [Addr.add_lit, hA2] at this; exact this
  have HPOST : Hid (∀ (p : BW w3) e w', GivesI p.w L e w' → GivesI w L e w') := by
    rintro p e w' ⟨ao, cap, rfl, h1, h2⟩
    have hb := hb3.trans (p.h.mono hb3.size)
    refine ⟨ao, cap, rfl, h1.mono ?_, ?_⟩
    · have := hb.size; rw [HS2.out] at this; rw [HN.out]; omega
    · rw [HN.out]; exact (HK.out p.w hb).2.2.1.trans (h2.mono (by have := hb.size; rw [HS2.out] at this; omega))
  unfold jg at HMO
  rw [hfA] at c1 HMO ⊢
  rw [hA2] at e7 HMO
  clear hmi hb3 hbw hF hg hfc hi hc2
  go_wp2_with fail
  clear e7 c0 c1
  refine wp_region_phase 16 1 rfl (by kernel_rfl) (by kernel_rfl) (by kernel_rfl) (fun w' => ∃ p : BW w3, w' = p.w) ⟨⟨w3.drew, (Below.refl _ _).drew⟩, rfl⟩ ?_
  dsimp only [List.take]
  repeat (first
    | (go_big_quiet_want; (refine quiet_load_bw 50 _ rfl ⟨fb, fo + f * 8, none⟩ rfl _ _ HGL.out Try.underlying50 rfl (by kernel_rfl) ?_); (simp only [Act.put, List.setIfInBounds_toArray, List.set_cons_zero, List.set_cons_succ]); go_big_quiet_on)
    | (go_big_quiet_want; (refine quiet_load_bw 62 _ rfl ⟨b2, o2 + a * 13, none⟩ rfl _ _ HIL.out Try.underlying62 rfl (by kernel_rfl) ?_); (simp only [Act.put, List.setIfInBounds_toArray, List.set_cons_zero, List.set_cons_succ]); go_big_quiet_on)
    | (go_big_quiet_step (fail)))
  refine wpQuiet_nil ?_
  rintro _ ⟨p, rfl⟩
  refine wpOp_step rfl fun K' hK => ?_
  rw [if_pos (by rfl)]
  go_simp
  go_at_call 44
  refine (HMO.out p).mono ?_
  intro e w4 hg4
  have HR := Lib.hid (HPOST.out p e w4 hg4)
  obtain ⟨ao, cap, rfl, _, _⟩ := hg4
  refine hK _ _ ?_
  clear hK
  try simp only [Act.put, List.getElem_toArray, List.getElem_cons_zero, List.getElem_cons_succ, List.setIfInBounds_toArray, List.set_cons_zero, List.set_cons_succ]
  refine wpAny_end 17 rfl (by kernel_rfl) (by kernel_rfl) (· = w4) rfl ?_
  dsimp only [List.drop]
  repeat (go_big_quiet_step (fail))
  refine wpQuiet_nil ?_
  rintro _ rfl
  go_wp2
  go_ret
  exact HR.out
end Go.Proofs.Ytlggjbopfnndbaa


namespace Go.Proofs.Ytlggjbopfnndbaa
open Go.RowKit

def eqBy {α : Type} (p : α → α → Bool) : List α → List α → Bool
  | [], [] => true
  | x :: xs, y :: ys => p x y && eqBy p xs ys
  | _, _ => false

theorem eqBy_iff {α : Type} {p : α → α → Bool} : ∀ {xs ys : List α}, eqBy p xs ys = true ↔ xs.length = ys.length ∧ ∀ (k : Nat) (x y : α), xs[k]? = some x → ys[k]? = some y → p x y = true
  | [], [] => by simp [eqBy]
  | [], y :: ys => by simp [eqBy]
  | x :: xs, [] => by simp [eqBy]
  | x :: xs, y :: ys => by
    unfold eqBy
    rw [Bool.and_eq_true, eqBy_iff]
    constructor
    · rintro ⟨h1, h2, h3⟩
      refine ⟨by simp [h2], fun k a b ha hb => ?_⟩
      cases k with
      | zero => simp at ha hb; subst ha hb; exact h1
      | succ k => exact h3 k a b (by simpa using ha) (by simpa using hb)
    · rintro ⟨h1, h2⟩
      exact ⟨h2 0 x y rfl rfl, by simpa using h1, fun k a b ha hb => h2 (k + 1) a b (by simpa using ha) (by simpa using hb)⟩

theorem eqBy_false_len {α : Type} {p : α → α → Bool} {xs ys : List α} (h : xs.length ≠ ys.length) : eqBy p xs ys = false := by
  cases e : eqBy p xs ys with
  | false => rfl
  | true => exact absurd (eqBy_iff.1 e).1 h

theorem eqBy_false_at {α : Type} {p : α → α → Bool} {xs ys : List α} {k : Nat} {x y : α} (hx : xs[k]? = some x) (hy : ys[k]? = some y) (h : p x y = false) : eqBy p xs ys = false := by
  cases e : eqBy p xs ys with
  | false => rfl
  | true => have := (eqBy_iff.1 e).2 k x y hx hy; rw [h] at this; cases this

/-- What has been found alike so far. -/
def EqTo {α : Type} (p : α → α → Bool) (xs ys : List α) (j : Nat) : Prop := ∀ k x y, k < j → xs[k]? = some x → ys[k]? = some y → p x y = true

theorem EqTo.zero {α : Type} (p : α → α → Bool) (xs ys : List α) : EqTo p xs ys 0 := fun k x y h => absurd h (by omega)
theorem EqTo.next {α : Type} {p : α → α → Bool} {xs ys : List α} {j : Nat} {x y : α} (h : EqTo p xs ys j) (hx : xs[j]? = some x) (hy : ys[j]? = some y) (hp : p x y = true) : EqTo p xs ys (j + 1) := by
  intro k a b hk ha hb
  by_cases e : k = j
  · subst e
    rw [hx] at ha; rw [hy] at hb
    obtain rfl := Option.some.inj ha
    obtain rfl := Option.some.inj hb
    exact hp
  · exact h k a b (by omega) ha hb
theorem EqTo.all {α : Type} {p : α → α → Bool} {xs ys : List α} (h : EqTo p xs ys xs.length) (hl : xs.length = ys.length) : eqBy p xs ys = true :=
  eqBy_iff.2 ⟨hl, fun k x y hx hy => h k x y (List.getElem?_eq_some_iff.1 hx).1 hx hy⟩

end Go.Proofs.Ytlggjbopfnndbaa


namespace Go.Proofs.Ytlggjbopfnndbaa
open Go.RowKit

def eqI (xs ys : List Int) : Bool := eqBy (fun x y : Int => x == y) xs ys
def Vr.same (x y : Vr) : Bool := x.ptr == y.ptr && x.tgt == y.tgt && x.cls == y.cls
def Fd.same (x y : Fd) : Bool := x.nm == y.nm && (x.ty == y.ty)
def sameI (md : Ins → List Int) (a b : Ins) : Bool := a.op == b.op && a.d == b.d && a.a == b.a && a.b == b.b && a.f == b.f && a.n == b.n && a.sign == b.sign && a.to == b.to && a.els == b.els && eqI a.args b.args && eqI (md a) (md b)
def sameC (md : Ins → List Int) (f g : Fn) : Bool := f.c.nm == g.c.nm && f.c.par == g.c.par && (f.c.rp == g.c.rp && f.c.rto == g.c.rto && f.c.rcl == g.c.rcl) && eqI f.frm g.frm && eqBy Vr.same f.vs g.vs && eqBy (sameI md) f.c.ins g.c.ins
def sameS (x y : St) : Bool := x.s.nm == y.s.nm && eqBy Fd.same x.fs y.fs
def sameM (md : Ins → List Int) (m n : Mo) : Bool := eqBy sameS m.ss n.ss && eqBy (sameC md) m.fs n.fs

/-- md tells the modes of an instruction that lies in w. -/
def ModeAt (w : World) (md : Ins → List Int) (i : Ins) : Prop := ∃ ao cap, i.modeV = .slice ao (md i).length cap ∧ IntRow w ao (md i)
theorem ModeAt.below {w w' : World} {md : Ins → List Int} {i : Ins} (h : ModeAt w md i) (hb : Below w.heap.size w w') : ModeAt w' md i := by
  obtain ⟨ao, cap, e1, e2⟩ := h
  exact ⟨ao, cap, e1, RowOf.grow e2 hb⟩

theorem var_eqIn (a b : Bool) (s t : ByteArray) (x y : Int) (w : World) : (Op.equalIn 10000 47 (.agg #[.bool a, .string s, .int .i64 x]) (.agg #[.bool b, .string t, .int .i64 y])).run Try.prog w = .ok (a == b && s == t && x == y) w := by
  have hS : Try.prog.underlying 47 = some (.struct (Try.prog.fieldsOf 47)) := by kernel_rfl
  have hp : Try.prog.stoodInHeld 47 = false := by kernel_rfl
  have hS2 : Try.prog.underlying 45 = some (.struct (Try.prog.fieldsOf 45)) := by kernel_rfl
  have hp2 : Try.prog.stoodInHeld 45 = false := by kernel_rfl
  rw [show (10000 : Nat) = 9999 + 1 from rfl, run_equalIn_agg w 9999 47 _ _ hS hp]
  simp only [Program.fieldsOf, Try.underlying47, Try.underlying45] at hS2 ⊢
  rw [beq_toListBytes]
  go_simp
  by_cases h1 : a = b <;> by_cases h2 : s.toList = t.toList <;> by_cases h3 : x = y <;> simp [h1, h2, h3]

set_option maxRecDepth 100000 in
set_option maxHeartbeats 2000000 in
theorem refNums_calls (w : World) (aA aB : Option Addr) (cA cB : Nat) (xs ys : List Int) (hn : xs.length ≤ maxLen) (h1 : IntsAt w aA xs) (h2 : IntsAt w aB ys) :
    Calls Try.prog 18 #[.slice aA xs.length cA, .slice aB ys.length cB] w fun e w' => e = .returned (.bool (eqBy (fun x y : Int => x == y) xs ys)) ∧ Below w.heap.size w w' := by
  have H1 := Lib.hid h1
  have H2 := Lib.hid h2
  unfold maxLen at hn
  obtain ⟨R, hR⟩ : ∃ R, eqBy (fun x y : Int => x == y) xs ys = R := ⟨_, rfl⟩
  rw [hR]
  have HR := Lib.hid hR
  clear h1 h2 hR
  by_cases hl : xs.length = ys.length
  · rw [← hl]
    have HL := Lib.hid hl
    clear hl
    go_enter Try.func18, Try.ntmps18
    go_wp2_with fail
    go_loopw [5] (fun c wr => ∃ j n : Nat, j ≤ xs.length ∧ c = .int .i64 (j : Int) ∧ EqTo (fun x y : Int => x == y) xs ys j ∧ wr = w.drewN n) (fun c _ => xs.length - (intOf c).toNat)
    case atStart => exact ⟨0, 0, Nat.zero_le _, rfl, EqTo.zero _ _ _, rfl⟩
    case round =>
      obtain ⟨j, n, hj, rfl, hz, rfl⟩ := hrel
      have HZ := Lib.hid hz
      clear hz
      by_cases hjl : j < xs.length
      · obtain ⟨x, hx⟩ : ∃ x, xs[j]? = some x := ⟨_, List.getElem?_eq_getElem hjl⟩
        obtain ⟨y, hy⟩ : ∃ y, ys[j]? = some y := ⟨_, List.getElem?_eq_getElem (by have := HL.out; omega)⟩
        obtain ⟨g1, o1, rfl, hg1, q1⟩ := H1.out (by intro e; rw [e] at hjl; simp at hjl)
        obtain ⟨g2, o2, rfl, hg2, q2⟩ := H2.out (by intro e; rw [e] at hy; simp at hy)
        have d1 : w.cell? ⟨g1, o1 + j, none⟩ = some (.int .i64 x) := q1 j x hx
        have d2 : w.cell? ⟨g2, o2 + j, none⟩ = some (.int .i64 y) := q2 j y hy
        have hjI : (j : Int) < (xs.length : Int) := by omega
        obtain ⟨d, hd⟩ : ∃ d, (fun x y : Int => x == y) x y = d := ⟨_, rfl⟩
        have HX := Lib.hid hx
        have HY := Lib.hid hy
        have HD := Lib.hid hd
        clear hx hy q1 q2
        cases d with
        | true =>
          go_wp2
          go_quiet (fail)
          go_wp2
          go_roundw
          case rel => exact ⟨j + 1, _, by omega, by go_num, HZ.out.next HX.out HY.out HD.out, rfl⟩
          case measure => simp [intOf]; omega
        | false =>
          have HRR : Hid (R = false) := by unfold Hid; rw [← HR.out]; exact eqBy_false_at HX.out HY.out HD.out
          go_wp2
          go_quiet (fail)
          go_wp2
          go_ret
          rw [HRR.out]
          exact ⟨rfl, below_drewN (below_drewN (Below.refl _ _) _) _⟩
      · have hje : j = xs.length := by omega
        subst hje
        have HRR : Hid (R = true) := by unfold Hid; rw [← HR.out]; exact EqTo.all HZ.out HL.out
        go_wp2
        go_ret
        rw [HRR.out]
        exact ⟨rfl, below_drewN (Below.refl _ _) _⟩
  · have HRR : Hid (R = false) := by unfold Hid; rw [← HR.out]; exact eqBy_false_len hl
    have hlI : ¬ ((xs.length : Int) = (ys.length : Int)) := by omega
    go_enter Try.func18, Try.ntmps18
    go_wp2
    go_ret
    rw [HRR.out]
    exact ⟨rfl, Below.refl _ _⟩

end Go.Proofs.Ytlggjbopfnndbaa


namespace Go.Proofs.Ytlggjbopfnndbaa
open Go.RowKit

/-- What is asked of a code to be held against another one. -/
structure Fn.fitS (md : Ins → List Int) (w : World) (f : Fn) : Prop where
  inn : f.inn w
  mode : ∀ i ∈ f.c.ins, ModeAt w md i
  nfrm : f.frm.length ≤ 90000
  nvs : f.vs.length ≤ 90000
  nins : f.c.ins.length ≤ 90000
  args : ∀ i ∈ f.c.ins, i.args.length ≤ 90000 ∧ (md i).length ≤ 90000

theorem Fn.fitS.below {md : Ins → List Int} {w w' : World} {f : Fn} (h : f.fitS md w) (hb : Below w.heap.size w w') : f.fitS md w' :=
  ⟨h.inn.below hb, fun i hi => (h.mode i hi).below hb, h.nfrm, h.nvs, h.nins, h.args⟩

/-- What is asked of a module to be held against another one. -/
structure Mo.fitS (md : Ins → List Int) (w : World) (m : Mo) : Prop where
  inn : m.inn w
  fit : ∀ f ∈ m.fs, f.fitS md w
  ns : m.ss.length ≤ 90000
  nf : m.fs.length ≤ 90000

theorem Mo.fitS.below {md : Ins → List Int} {w w' : World} {m : Mo} (h : m.fitS md w) (hb : Below w.heap.size w w') : m.fitS md w' :=
  ⟨h.inn.below hb, fun f hf => (h.fit f hf).below hb, h.ns, h.nf⟩

end Go.Proofs.Ytlggjbopfnndbaa
