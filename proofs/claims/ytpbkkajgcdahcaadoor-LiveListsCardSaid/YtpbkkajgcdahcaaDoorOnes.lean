/- math/bits.OnesCount64: the count of a word's bits. -/
import Derived.Test.YtpbkkajgcdahcaaDoorPop
import Derived.Test.YtpbkkajgcdahcaaDoorBase
import Derived.Laws.BitsAllLaws
import Derived.Laws.Bits64
namespace Go.Proofs.YtpbkkajgcdahcaaDoor
open Go.RowKit

theorem and_le_r (a b : Nat) : a &&& b ≤ b := Nat.and_le_right

theorem w64 {n : Nat} (h : n < 18446744073709551616) : IntKind.u64.wrap (n : Int) = (n : Int) := by
  rw [IntKind.wrap_u64]; omega

theorem r1 {x : Nat} (hx : x < 18446744073709551616) : IntKind.u64.wrap (bits .and .u64 ((x : Int) / 2) 6148914691236517205 + bits .and .u64 (x : Int) 6148914691236517205) = (pop1 x : Int) ∧ pop1 x ≤ 12297829382473034410 := by
  have h1 := and_le_r (x / 2) 6148914691236517205
  have h2 := and_le_r x 6148914691236517205
  have hp : pop1 x ≤ 12297829382473034410 := by unfold pop1; omega
  refine ⟨?_, hp⟩
  have e1 := u64_and_nat (x / 2) 6148914691236517205 (by omega) (by decide)
  have e2 := u64_and_nat x 6148914691236517205 hx (by decide)
  rw [show ((x : Int) / 2) = ((x / 2 : Nat) : Int) from rfl, show (6148914691236517205 : Int) = ((6148914691236517205 : Nat) : Int) from rfl, e1, e2, ← Int.natCast_add]
  exact w64 (by show pop1 x < _; omega)

theorem r2 {x : Nat} (hx : x < 18446744073709551616) : IntKind.u64.wrap (bits .and .u64 ((x : Int) / 4) 3689348814741910323 + bits .and .u64 (x : Int) 3689348814741910323) = (pop2 x : Int) ∧ pop2 x ≤ 7378697629483820646 := by
  have h1 := and_le_r (x / 4) 3689348814741910323
  have h2 := and_le_r x 3689348814741910323
  have hp : pop2 x ≤ 7378697629483820646 := by unfold pop2; omega
  refine ⟨?_, hp⟩
  have e1 := u64_and_nat (x / 4) 3689348814741910323 (by omega) (by decide)
  have e2 := u64_and_nat x 3689348814741910323 hx (by decide)
  rw [show ((x : Int) / 4) = ((x / 4 : Nat) : Int) from rfl, show (3689348814741910323 : Int) = ((3689348814741910323 : Nat) : Int) from rfl, e1, e2, ← Int.natCast_add]
  exact w64 (by show pop2 x < _; omega)

theorem r3 {x : Nat} (hx : x ≤ 7378697629483820646) : bits .and .u64 (IntKind.u64.wrap ((x : Int) / 16 + (x : Int))) 1085102592571150095 = (pop3 x : Int) ∧ pop3 x ≤ 1085102592571150095 := by
  refine ⟨?_, and_le_r _ _⟩
  have hs : x / 16 + x < 18446744073709551616 := by omega
  rw [show ((x : Int) / 16) = ((x / 16 : Nat) : Int) from rfl, show (1085102592571150095 : Int) = ((1085102592571150095 : Nat) : Int) from rfl, ← Int.natCast_add, w64 hs]
  exact u64_and_nat (x / 16 + x) 1085102592571150095 hs (by decide)

theorem r4 {x : Nat} (hx : pop4 x < 18446744073709551616) : IntKind.u64.wrap ((x : Int) + (x : Int) / 256) = (pop4 x : Int) := by
  rw [show ((x : Int) / 256) = ((x / 256 : Nat) : Int) from rfl, ← Int.natCast_add]; exact w64 hx
theorem r5 {x : Nat} (hx : pop5 x < 18446744073709551616) : IntKind.u64.wrap ((x : Int) + (x : Int) / 65536) = (pop5 x : Int) := by
  rw [show ((x : Int) / 65536) = ((x / 65536 : Nat) : Int) from rfl, ← Int.natCast_add]; exact w64 hx
theorem r6 {x : Nat} (hx : pop6 x < 18446744073709551616) : IntKind.u64.wrap ((x : Int) + (x : Int) / 4294967296) = (pop6 x : Int) := by
  rw [show ((x : Int) / 4294967296) = ((x / 4294967296 : Nat) : Int) from rfl, ← Int.natCast_add]; exact w64 hx

theorem and127 (a : Nat) (ha : a < 9223372036854775808) : bits .and .i64 (a : Int) 127 = ((a % 128 : Nat) : Int) := by
  have h127 : a &&& 127 = a % 128 := Nat.and_two_pow_sub_one_eq_mod a 7
  show IntKind.i64.wrap ((BitVec.ofInt 64 (a : Int) &&& BitVec.ofInt 64 ((127 : Nat) : Int)).toNat : Int) = _
  rw [BitVec.toNat_and, BitVec.ofInt_natCast, BitVec.ofInt_natCast, BitVec.toNat_ofNat, BitVec.toNat_ofNat, Nat.mod_eq_of_lt (show a < 2 ^ 64 by omega), show (127 : Nat) % 2 ^ 64 = 127 from rfl, h127, IntKind.wrap_i64]
  omega

set_option maxRecDepth 100000 in
set_option maxHeartbeats 1000000 in
theorem ones_calls (x : Nat) (w : World) (hx : x < 18446744073709551616) : Calls Tryd.prog 47 #[.int .u64 (x : Int)] w fun e w' => e = .returned (.int .i64 (popc x 64 : Nat)) ∧ w = w' := by
  obtain ⟨a1, b1⟩ := r1 hx
  obtain ⟨a2, b2⟩ := r2 (x := pop1 x) (Nat.lt_of_le_of_lt b1 (by decide))
  obtain ⟨a3, b3⟩ := r3 (x := pop2 (pop1 x)) b2
  obtain ⟨hp, p4, p5, p6⟩ := pop_all x hx
  have a4 := r4 p4
  have a5 := r5 p5
  have a6 := r6 (Nat.lt_trans p6 (by decide))
  have a7 := and127 _ p6
  rw [hp] at a7
  have a8 : wrap64 ((pop6 (pop5 (pop4 (pop3 (pop2 (pop1 x))))) : Nat) : Int) = ((pop6 (pop5 (pop4 (pop3 (pop2 (pop1 x))))) : Nat) : Int) := by
    unfold wrap64; omega
  clear b1 b2 b3 hp p4 p5 p6
  go_enter Tryd.func47, Tryd.ntmps47
  go_wp2
  go_ret
  exact ⟨rfl, rfl⟩
end Go.Proofs.YtpbkkajgcdahcaaDoor
