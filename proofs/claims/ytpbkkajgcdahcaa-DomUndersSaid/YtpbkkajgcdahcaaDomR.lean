/- Trees of who is over whom: reached, Over, Dominates, Path, Depth. -/
import Derived.Test.YtpbkkajgcdahcaaDomM
import Derived.Test.YtpbkkajgcdahcaaLite
namespace Go.Proofs.Ytpbkkajgcdahcaa
open Go.RowKit

variable {T O PL R n : Nat} {o : Nat → Option Nat} {q : List Nat}

def inQ (q : List Nat) (at_ : Int) : Bool := decide (0 ≤ at_) && decide (at_.toNat ∈ q)

theorem inQ_nat (q : List Nat) (x : Nat) : inQ q (x : Int) = decide (x ∈ q) := by
  unfold inQ; rw [decide_eq_true (show (0 : Int) ≤ (x : Int) by omega)]; simp

theorem inQ_iff {q : List Nat} {a : Int} : inQ q a = true ↔ ∃ x : Nat, a = (x : Int) ∧ x ∈ q := by
  unfold inQ
  rw [Bool.and_eq_true, decide_eq_true_eq, decide_eq_true_eq]
  constructor
  · rintro ⟨h1, h2⟩; exact ⟨a.toNat, by omega, h2⟩
  · rintro ⟨x, rfl, h⟩; exact ⟨by omega, by simpa using h⟩

def ReachedP (q : List Nat) (at_ : Int) (w : World) (e : Ending) (w' : World) : Prop := e = .returned (.bool (inQ q at_)) ∧ w' = w

set_option maxRecDepth 100000 in
set_option maxHeartbeats 1000000 in
theorem reached_calls (w : World) (h : TreeI w T O PL R n o q) (hq : Ord n q) (hn : n ≤ 90000) (at_ : Int) :
    Calls Try.prog 64 #[.pointer (some ⟨T, 0, none⟩), .int .i64 at_] w (ReachedP q at_ w) := by
  have H := Lib.hid h
  have HQ := Lib.hid hq
  clear h hq
  have c0 := H.out.c0
  have c1 := H.out.c1
  go_enter Try.func64, Try.ntmps64
  by_cases a1 : 0 ≤ at_
  · obtain ⟨x, rfl⟩ : ∃ x : Nat, at_ = (x : Int) := ⟨at_.toNat, by omega⟩
    clear a1
    by_cases a2 : x < n
    · have cp := H.out.cp a2
      have a2I : (x : Int) < (n : Int) := by omega
      obtain ⟨b, hb⟩ : ∃ b, decide (x ∈ q) = b := ⟨_, rfl⟩
      have HB := Lib.hid hb
      have hpl : (plI q x == -1) = !b := by
        rw [← hb]
        by_cases hm : x ∈ q
        · rw [plI_mem hm, decide_eq_true hm]; simp
        · simp [plI_not hm, hm]
      obtain ⟨z, hz⟩ : ∃ z, plI q x = z := ⟨_, rfl⟩
      rw [hz] at cp hpl
      clear hz hb
      cases b with
      | true =>
        have hpl' : (z == -1) = false := hpl
        have hpl2 : (z != -1) = true := by rw [bne, hpl']; rfl
        clear hpl
        go_wp2
        go_ret
        exact ⟨by rw [inQ_nat, HB.out]; rfl, rfl⟩
      | false =>
        have hz1 : z = -1 := by simpa using hpl
        subst hz1
        clear hpl
        go_wp2
        go_ret
        exact ⟨by rw [inQ_nat, HB.out]; rfl, rfl⟩
    · have a2d : decide (x < n) = false := decide_eq_false a2
      have HX : Hid (inQ q (x : Int) = false) := by unfold Hid; rw [inQ_nat]; exact decide_eq_false (fun hm => a2 (HQ.out.lt x hm))
      go_wp2
      go_ret
      exact ⟨by rw [HX.out]; rfl, rfl⟩
  · have a1d : decide (0 ≤ at_) = false := decide_eq_false a1
    have HX : Hid (inQ q at_ = false) := by unfold Hid inQ; rw [a1d]; rfl
    clear a1
    go_wp2
    go_ret
    exact ⟨by rw [HX.out]; rfl, rfl⟩

def overI (o : Nat → Option Nat) (q : List Nat) (at_ : Int) : Int := if inQ q at_ = true then oI (o at_.toNat) else -1

def OverP (o : Nat → Option Nat) (q : List Nat) (at_ : Int) (w : World) (e : Ending) (w' : World) : Prop := e = .returned (.int .i64 (overI o q at_)) ∧ w' = w

set_option maxRecDepth 100000 in
set_option maxHeartbeats 1000000 in
theorem over_calls (w : World) (h : TreeI w T O PL R n o q) (hq : Ord n q) (hn : n ≤ 90000) (at_ : Int) :
    Calls Try.prog 33 #[.pointer (some ⟨T, 0, none⟩), .int .i64 at_] w (OverP o q at_ w) := by
  have H := Lib.hid h
  have HQ := Lib.hid hq
  clear h hq
  have c0 := H.out.c0
  have HR := Lib.hid (reached_calls w H.out HQ.out hn at_)
  go_enter Try.func33, Try.ntmps33
  go_wp2_with fail
  go_at_call 64
  refine HR.out.mono ?_
  rintro e w2 ⟨rfl, rfl⟩
  obtain ⟨b, hb⟩ : ∃ b, inQ q at_ = b := ⟨_, rfl⟩
  rw [hb]
  have HB := Lib.hid hb
  clear hb
  cases b with
  | false =>
    go_wp2
    go_ret
    exact ⟨by unfold overI; rw [HB.out]; rfl, rfl⟩
  | true =>
    obtain ⟨x, rfl, hx⟩ := inQ_iff.1 HB.out
    have hxn := HQ.out.lt x hx
    have hxI : (x : Int) < (n : Int) := by omega
    have co := H.out.co hxn
    clear hx
    go_wp2
    go_ret
    exact ⟨by unfold overI; rw [HB.out]; rfl, rfl⟩

def DomsP (o : Nat → Option Nat) (q : List Nat) (a b : Int) (w : World) (e : Ending) (w' : World) : Prop :=
  ∃ r : Bool, e = .returned (.bool r) ∧ (r = true ↔ inQ q a = true ∧ inQ q b = true ∧ Up o b.toNat a.toNat) ∧ ∃ k, w' = w.drewN k

set_option maxRecDepth 100000 in
set_option maxHeartbeats 1000000 in
theorem dominates_calls (w : World) (h : TreeI w T O PL R n o q) (hq : Ord n q) (ht : Tr q (plN q) o) (hall : ∀ x ∈ q, Proc o x) (hn : n ≤ 90000) (a b : Int) :
    Calls Try.prog 38 #[.pointer (some ⟨T, 0, none⟩), .int .i64 a, .int .i64 b] w (DomsP o q a b w) := by
  have H := Lib.hid h
  have HQ := Lib.hid hq
  have HT := Lib.hid ht
  have HA := Lib.hid hall
  clear h hq ht hall
  have c0 := H.out.c0
  have c1 := H.out.c1
  have HR : Hid (∀ at_, Calls Try.prog 64 #[.pointer (some ⟨T, 0, none⟩), .int .i64 at_] w (ReachedP q at_ w)) := fun at_ => reached_calls w H.out HQ.out hn at_
  go_enter Try.func38, Try.ntmps38
  go_wp2_with fail
  go_at_call 64
  refine (HR.out a).mono ?_
  rintro e w2 ⟨rfl, rfl⟩
  obtain ⟨ra, hra⟩ : ∃ r, inQ q a = r := ⟨_, rfl⟩
  rw [hra]
  have HRA := Lib.hid hra
  clear hra
  cases ra with
  | false =>
    go_wp2
    go_ret
    exact ⟨false, rfl, ⟨fun h => by simp at h, fun h => by have := h.1; rw [HRA.out] at this; simp at this⟩, 0, rfl⟩
  | true =>
    go_wp2_with fail
    go_at_call 64
    refine (HR.out b).mono ?_
    rintro e w2 ⟨rfl, rfl⟩
    obtain ⟨rb, hrb⟩ : ∃ r, inQ q b = r := ⟨_, rfl⟩
    rw [hrb]
    have HRB := Lib.hid hrb
    clear hrb
    cases rb with
    | false =>
      go_wp2
      go_ret
      exact ⟨false, rfl, ⟨fun h => by simp at h, fun h => by have := h.2.1; rw [HRB.out] at this; simp at this⟩, 0, rfl⟩
    | true =>
      obtain ⟨x, hxe, hx⟩ := inQ_iff.1 HRA.out
      subst hxe
      obtain ⟨y0, hye, hy0⟩ := inQ_iff.1 HRB.out
      subst hye
      have hxn := HQ.out.lt x hx
      have hxI : (x : Int) < (n : Int) := by omega
      have dx := H.out.cp hxn
      rw [plI_mem hx] at dx
      have HX := Lib.hid hx
      have HY0 := Lib.hid hy0
      clear hx hy0
      go_wp2_with fail
      go_loopw [2] (fun vb wr => ∃ y : Nat, vb = .int .i64 (y : Int) ∧ y ∈ q ∧ (Up o y0 x ↔ Up o y x) ∧ ∃ k, wr = w2.drewN k) (fun vb _ => plN q (intOf vb).toNat)
      case atStart => exact ⟨y0, rfl, HY0.out, Iff.rfl, 0, rfl⟩
      case round =>
        obtain ⟨y, rfl, hy, hup, k, rfl⟩ := hrel
        have hyn := HQ.out.lt y hy
        have dy := H.out.cp hyn
        have oy := H.out.co hyn
        rw [plI_mem hy] at dy
        have HY := Lib.hid hy
        have HUP := Lib.hid hup
        clear hy hup
        have hyI : (y : Int) < (n : Int) := by omega
        have hyne : ((y : Int) == -1) = false := by rw [beq_eq_false_iff_ne]; omega
        by_cases hlt : plN q x < plN q y
        · obtain ⟨p, hp⟩ := some_up HQ.out ⟨HA.out y HY.out, HY.out⟩ hlt
          rw [hp] at oy
          replace oy : w2.cell? ⟨O, y, none⟩ = some (.int .i64 (p : Int)) := oy
          have hu := HT.out.up y p hp
          have hd : decide ((plN q x : Int) < (plN q y : Int)) = true := decide_eq_true (by omega)
          go_wp2
          go_quiet (fail)
          go_wp2
          go_roundw
          case rel =>
            refine ⟨p, rfl, hu.2.2.1, HUP.out.trans ⟨fun h => ?_, fun h => .step hp h⟩, _, rfl⟩
            rcases h.cases' with rfl | ⟨p', e', h'⟩
            · omega
            · rw [hp] at e'; obtain rfl := Option.some.inj e'; exact h'
          case measure => simp [intOf]; omega
        · have hd : decide ((plN q x : Int) < (plN q y : Int)) = false := decide_eq_false (by omega)
          have HG : Hid (Up o y0 x ↔ x = y) := HUP.out.trans ⟨fun h => by
            rcases HT.out.place h with e | e
            · exact e
            · exact absurd e hlt, fun h => by rw [h]; exact .refl _⟩
          obtain ⟨r, hr⟩ : ∃ r, ((x : Int) == (y : Int)) = r := ⟨_, rfl⟩
          have HR2 : Hid (r = true ↔ x = y) := by unfold Hid; rw [← hr, beq_iff_eq]; omega
          go_wp2
          go_quiet (fail)
          go_wp2
          go_ret
          exact ⟨r, rfl, ⟨fun h => ⟨HRA.out, HRB.out, HG.out.2 (HR2.out.1 h)⟩, fun h => HR2.out.2 (HG.out.1 h.2.2)⟩, _, rfl⟩

end Go.Proofs.Ytpbkkajgcdahcaa
