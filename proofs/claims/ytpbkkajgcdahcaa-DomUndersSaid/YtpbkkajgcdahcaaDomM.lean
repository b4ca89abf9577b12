/- Trees of who is over whom: meet, reached, Over, Dominates, Path, Depth. -/
import Derived.Test.YtpbkkajgcdahcaaDomI
import Derived.Test.YtpbkkajgcdahcaaLite
namespace Go.Proofs.Ytpbkkajgcdahcaa
open Go.RowKit

variable {T O PL R n : Nat} {o : Nat → Option Nat} {q : List Nat}

/-- Behind meet. -/
def MeetP (o : Nat → Option Nat) (a : Option Nat) (b : Nat) (w : World) (e : Ending) (w' : World) : Prop :=
  ∃ m : Nat, e = .returned (.int .i64 (m : Int)) ∧ (a = none → m = b) ∧ (∀ x, a = some x → MeetOf o x b m) ∧ ∃ k, w' = w.drewN k

set_option maxRecDepth 100000 in
set_option maxHeartbeats 1000000 in
theorem meet_calls (w : World) (h : TreeI w T O PL R n o q) (hq : Ord n q) (ht : Tr q (plN q) o) (hn : n ≤ 90000) (a : Option Nat) (b : Nat) (hb : Proc o b ∧ b ∈ q) (ha : ∀ x, a = some x → Proc o x ∧ x ∈ q) :
    Calls Try.prog 62 #[.pointer (some ⟨T, 0, none⟩), .int .i64 (oI a), .int .i64 (b : Int)] w (MeetP o a b w) := by
  have H := Lib.hid h
  have HQ := Lib.hid hq
  have HT := Lib.hid ht
  have HB := Lib.hid hb
  have HA := Lib.hid ha
  clear h hq ht hb ha
  have c0 := H.out.c0
  have c1 := H.out.c1
  go_enter Try.func62, Try.ntmps62
  cases a with
  | none =>
    have e : oI none = -1 := rfl
    rw [e]
    go_wp2
    go_ret
    exact ⟨b, rfl, fun _ => rfl, fun x hx => (by cases hx), 0, rfl⟩
  | some x0 =>
    have e : oI (some x0) = (x0 : Int) := rfl
    rw [e]
    have hne : ((x0 : Int) == -1) = false := by rw [beq_eq_false_iff_ne]; omega
    go_wp2_with fail
    go_loopw [1, 2] (fun va vb wr => ∃ x y : Nat, va = .int .i64 (x : Int) ∧ vb = .int .i64 (y : Int) ∧ (Proc o x ∧ x ∈ q) ∧ (Proc o y ∧ y ∈ q) ∧ (∀ m, MeetOf o x y m → MeetOf o x0 b m) ∧ ∃ k, wr = w.drewN k) (fun va vb _ => plN q (intOf va).toNat + plN q (intOf vb).toNat)
    case atStart => exact ⟨x0, b, rfl, rfl, HA.out x0 rfl, HB.out, fun _ h => h, 0, rfl⟩
    case round =>
      obtain ⟨x, y, rfl, rfl, hx, hy, hm, k, rfl⟩ := hrel
      have hxn := HQ.out.lt x hx.2
      have hyn := HQ.out.lt y hy.2
      have dx := H.out.cp hxn
      have dy := H.out.cp hyn
      rw [plI_mem hx.2] at dx
      rw [plI_mem hy.2] at dy
      have ox := H.out.co hxn
      have oy := H.out.co hyn
      have HX := Lib.hid hx
      have HY := Lib.hid hy
      have HM := Lib.hid hm
      clear hx hy hm
      have hxI : (x : Int) < (n : Int) := by omega
      have hyI : (y : Int) < (n : Int) := by omega
      by_cases hxy : x = y
      · subst hxy
        go_wp2
        go_ret
        exact ⟨x, rfl, fun h => (by cases h), fun z hz => (by obtain rfl := Option.some.inj hz; exact HM.out x (MeetOf.refl x)), k, rfl⟩
      · have hxyI : ((x : Int) == (y : Int)) = false := by rw [beq_eq_false_iff_ne]; omega
        by_cases hlt : plN q y < plN q x
        · obtain ⟨p, hp⟩ := some_up HQ.out HX.out hlt
          rw [hp] at ox
          replace ox : w.cell? ⟨O, x, none⟩ = some (.int .i64 (p : Int)) := ox
          have hu := HT.out.up x p hp
          have hd : decide ((plN q y : Int) < (plN q x : Int)) = true := decide_eq_true (by omega)
          go_wp2
          go_quiet (fail)
          go_wp2
          go_roundw
          case rel => exact ⟨p, y, rfl, rfl, ⟨hu.2.2.2.2, hu.2.2.1⟩, HY.out, fun m hm => HM.out m (hm.stepA HT.out hlt hp), _, rfl⟩
          case measure => simp [intOf]; omega
        · have hlt2 : plN q x < plN q y := by
            have : plN q x ≠ plN q y := fun e => hxy (HQ.out.inj x HX.out.2 y HY.out.2 e)
            omega
          obtain ⟨p, hp⟩ := some_up HQ.out HY.out hlt2
          rw [hp] at oy
          replace oy : w.cell? ⟨O, y, none⟩ = some (.int .i64 (p : Int)) := oy
          have hu := HT.out.up y p hp
          have hd : decide ((plN q y : Int) < (plN q x : Int)) = false := decide_eq_false (by omega)
          go_wp2
          go_quiet (fail)
          go_wp2
          go_roundw
          case rel => exact ⟨x, p, rfl, rfl, HX.out, ⟨hu.2.2.2.2, hu.2.2.1⟩, fun m hm => HM.out m (hm.stepB HT.out hlt2 hp), _, rfl⟩
          case measure => simp [intOf]; omega
end Go.Proofs.Ytpbkkajgcdahcaa
