/- math/bits.TrailingZeros64 by its table; and the lowest bit of a word. -/
import Derived.Test.YtpbkkajgcdahcaaDoorPicks
import Derived.Lib.TrailingZeros
import Derived.Laws.Bits64b
namespace Go.Proofs.YtpbkkajgcdahcaaDoor
open Go.RowKit

/-- The table in its variable. -/
def DbTab (w : World) : Prop := ∀ j, j < 64 → w.cell? ⟨0, j, none⟩ = some (.int .u8 ((Lib.deBruijn64tab.getD j 0 : Nat) : Int))

theorem low_spec {y : Nat} (h0 : y ≠ 0) (hy : y < 18446744073709551616) : ∃ k m, Lib.ctz 64 y = k ∧ k < 64 ∧ y = 2 ^ k * (2 * m + 1) := by
  obtain ⟨m, h1, h2⟩ := Lib.ctzFrom_spec 64 y (by omega) (by simpa using hy)
  refine ⟨Lib.ctz 64 y, m, rfl, ?_, ?_⟩
  · unfold Lib.ctz; rw [if_neg h0]; exact h2
  · unfold Lib.ctz; rw [if_neg h0]; exact h1

theorem low_bit {y k m : Nat} (h : y = 2 ^ k * (2 * m + 1)) (i : Nat) : y.testBit i = (decide (k ≤ i) && (2 * m + 1).testBit (i - k)) := by
  rw [h, Nat.mul_comm, Nat.testBit_mul_two_pow]

theorem low_clear {y k m : Nat} (h : y = 2 ^ k * (2 * m + 1)) (i : Nat) : (y &&& (y - 1)).testBit i = (y.testBit i && !decide (i = k)) := by
  have e : y - 1 = 2 ^ k * (2 * m) + (2 ^ k - 1) := by
    have hp : 0 < 2 ^ k := Nat.two_pow_pos k
    rw [h, Nat.mul_add, Nat.mul_one]; omega
  rw [Nat.testBit_and, e, Nat.testBit_two_pow_mul_add _ (by have : 0 < 2 ^ k := Nat.two_pow_pos k; omega), low_bit h]
  by_cases hi : i < k
  · have : decide (k ≤ i) = false := decide_eq_false (by omega)
    rw [this]; simp
  · rw [if_neg hi]
    by_cases he : i = k
    · subst he; simp
    · obtain ⟨d, hd⟩ : ∃ d, i - k = d + 1 := ⟨i - k - 1, by omega⟩
      rw [hd, Nat.testBit_succ, Nat.testBit_succ, show (2 * m + 1) / 2 = m by omega, show 2 * m / 2 = m by omega]
      simp [he]

set_option maxRecDepth 100000 in
theorem tz_calls (w : World) (y : Nat) (h0 : y ≠ 0) (hy : y < 18446744073709551616) (hT : DbTab w) :
    Calls Tryd.prog 45 #[.int .u64 (y : Int)] w fun e w' => e = .returned (.int .i64 ((Lib.ctz 64 y : Nat) : Int)) ∧ w = w' := by
  obtain ⟨hlow, hk⟩ := Lib.lowest_bit 64 y h0 hy
  obtain ⟨hi, htab⟩ := Lib.deBruijn64_at _ hk
  have key : IntKind.u64.wrap (bits BinOp.and IntKind.u64 (y : Int) (IntKind.u64.wrap (-(y : Int))) * 285870213051353865) / 288230376151711744 = ((2 ^ Lib.ctz 64 y * 285870213051353865 % 18446744073709551616 / 288230376151711744 : Nat) : Int) := by
    have e1 : IntKind.u64.wrap (-(y : Int)) = ((18446744073709551616 - y : Nat) : Int) := by rw [IntKind.wrap_u64]; omega
    rw [e1, u64_and_nat y _ hy (by omega)]
    obtain ⟨z, hz⟩ : ∃ z, 2 ^ Lib.ctz 64 y = z := ⟨_, rfl⟩
    rw [show y &&& (18446744073709551616 - y) = 2 ^ Lib.ctz 64 y from hlow, IntKind.wrap_u64, hz]
    omega
  have hcell := hT _ hi
  rw [htab] at hcell
  obtain ⟨k, hkk⟩ : ∃ k, Lib.ctz 64 y = k := ⟨_, rfl⟩
  rw [hkk] at key hcell hk hi ⊢
  obtain ⟨idx, hidx⟩ : ∃ idx, 2 ^ k * 285870213051353865 % 18446744073709551616 / 288230376151711744 = idx := ⟨_, rfl⟩
  rw [hidx] at key hcell hi
  have hy0 : ((y : Int) == 0) = false := by simp; omega
  clear hT hlow htab hkk hidx
  go_enter Tryd.func45, Tryd.ntmps45
  go_wp2_with (simp only [key])
  go_ret
  exact ⟨rfl, rfl⟩
end Go.Proofs.YtpbkkajgcdahcaaDoor
