import Derived.Test.YtlggjbopfnndbaaProg
import Derived.Test.YtlggjbopfnndbaaG06
import Derived.RegionTactic
import Derived.Test.YtlggjbopfnndbaaG04
namespace Go.Proofs.Ytlggjbopfnndbaa
def nb : List Nat → List Nat
 | [] => []
 | [a] => [a]
 | a :: b :: r => (a + b) :: nb (b :: r)
end Go.Proofs.Ytlggjbopfnndbaa
namespace Go.Proofs.Ytlggjbopfnndbaa
open Go.RowKit
theorem w64 {n : Nat} (h : n < 18446744073709551616) : IntKind.u64.wrap (n : Int) = (n : Int) := by
 rw [IntKind.wrap_u64]; omega
def wordCells (n : Nat) (f : Nat → Nat) : Array Value := ((List.range n).map fun i => Value.int .u64 (f i : Int)).toArray
theorem wordCells_size (n : Nat) (f : Nat → Nat) : (wordCells n f).size = n := by simp [wordCells]
theorem wordCells_get {n i : Nat} (f : Nat → Nat) (h : i < n) : (wordCells n f)[i]? = some (.int .u64 (f i : Int)) := by
 simp [wordCells,h]
def RowW (w : World) (B n : Nat) (f : Nat → Nat) : Prop := ∃ cur,w.heap[B]? = some (.cells cur 125 (0,0)) ∧ n ≤ cur.size ∧ ∀ i,i < n → cur[i]? = some (.int .u64 (f i : Int))
theorem RowW.cell {w : World} {B n i : Nat} {f : Nat → Nat} (h : RowW w B n f) (hi : i < n) : w.cell? ⟨B,i,none⟩ = some (.int .u64 (f i : Int)) := by
 obtain ⟨cur,h1,_,h3⟩ := h
 rw [cell_of_row _ _ _ _ _ _ h1]; exact h3 i hi
theorem RowW.frozen {w : World} {B n i : Nat} {f : Nat → Nat} (h : RowW w B n f) : w.frozen? ⟨B,i,none⟩ = false := by
 obtain ⟨cur,h1,_⟩ := h
 exact frozen_of_row _ _ _ _ _ h1
theorem RowW.lt {w : World} {B n : Nat} {f : Nat → Nat} (h : RowW w B n f) : B < w.heap.size := by
 obtain ⟨cur,h1,_⟩ := h
 exact (Array.getElem?_eq_some_iff.1 h1).1
theorem RowW.congr {w : World} {B n : Nat} {f g : Nat → Nat} (h : RowW w B n f) (e : ∀ i,i < n → f i = g i) : RowW w B n g := by
 obtain ⟨cur,h1,h2,h3⟩ := h
 exact ⟨cur,h1,h2,fun i hi => by rw [← e i hi]; exact h3 i hi⟩
theorem RowW.keep {w w' : World} {B n : Nat} {f : Nat → Nat} (h : RowW w B n f) (e : w'.heap[B]? = w.heap[B]?) : RowW w' B n f := by
 obtain ⟨cur,h1,h2,h3⟩ := h
 exact ⟨cur,e.trans h1,h2,h3⟩
theorem RowW.ext {w w' : World} {B n : Nat} {f : Nat → Nat} {M : Nat → Prop} (h : RowW w B n f) (hx : Ext M w w') (hM : ¬ M B) : RowW w' B n f :=
 h.keep (hx.block B h.lt hM)
theorem RowW.below {w w' : World} {B n m : Nat} {f : Nat → Nat} (h : RowW w B n f) (hx : Below m w w') (hM : B < m) : RowW w' B n f :=
 h.keep (hx.block B hM)
theorem RowW.set {w : World} {B n i v : Nat} {f : Nat → Nat} (h : RowW w B n f) : RowW (w.setCell ⟨B,i,none⟩ (.int .u64 (v : Int))) B n (fun x => if x = i then v else f x) := by
 obtain ⟨cur,h1,h2,h3⟩ := h
 refine ⟨_,heap_setCell_same _ _ _ _ _ _ h1,by simpa using h2,fun j hj => ?_⟩
 rw [Array.getElem?_setIfInBounds]
 by_cases e : i = j
 ·subst e; rw [if_pos rfl,if_pos (by omega)]; simp
 ·rw [if_neg e]; have e' : ¬ j = i := fun h => e h.symm
  simp only [if_neg e']; exact h3 j hj
theorem RowW.of_cells {w : World} {B n : Nat} {f : Nat → Nat} (h : w.heap[B]? = some (.cells (wordCells n f) 125 (0,0))) : RowW w B n f :=
 ⟨_,h,by rw [wordCells_size]; exact Nat.le_refl _,fun _ hi => wordCells_get f hi⟩
theorem RowW.of_owns {w : World} {base n g cap : Nat} {f : Nat → Nat} (h : w.ownsRow base 125 1 (.slice (some ⟨g,0,none⟩) n cap) n ((List.range n).map fun i => Value.int .u64 (f i : Int))) : RowW w g n f := by
 rcases h.2 with ⟨h1,_⟩ | ⟨g',cap',cur,h1,h2,h3,h4,h5,h6,h7⟩
 ·cases h1
 ·simp only [Value.slice.injEq,Option.some.injEq,Addr.mk.injEq] at h1
  obtain ⟨⟨rfl,_,_⟩,_,rfl⟩ := h1
  refine ⟨cur,h3,by omega,fun i hi => ?_⟩
  have e : (cur.toList.take (n * 1))[i]? = some (.int .u64 (f i : Int)) := by rw [h7]; simp [hi]
  rw [List.getElem?_take,if_pos (by omega)] at e
  simpa using e
def bitOf (f : Nat → Nat) (v : Nat) : Bool := (f (v / 64)).testBit (v % 64)
theorem bit_eq (a k : Nat) (ha : a < 18446744073709551616) : (bits .and .u64 ((a : Int) / 2 ^ k) 1 == 1) = a.testBit k := by
 have e : ((a : Int) / 2 ^ k) = ((a / 2 ^ k : Nat) : Int) := by rw [Int.natCast_ediv,Int.natCast_pow]; rfl
 have hl : a / 2 ^ k < 18446744073709551616 := Nat.lt_of_le_of_lt (Nat.div_le_self _ _) ha
 rw [e,show (1 : Int) = ((1 : Nat) : Int) from rfl,u64_and_nat _ _ hl (by decide),Nat.and_one_is_mod,Nat.testBit_eq_decide_div_mod_eq]
 by_cases h : a / 2 ^ k % 2 = 1
 ·rw [h]; rfl
 ·have h0 : a / 2 ^ k % 2 = 0 := by omega
  rw [h0]; rfl
set_option maxRecDepth 100000 in
set_option maxHeartbeats 1000000 in
theorem bitsHas_calls (w : World) (B n cp v : Nat) (f : Nat → Nat) (hrow : RowW w B n f) (hf : ∀ i,f i < 18446744073709551616) (hv : v / 64 < n) (hn : n ≤ 90000) :
  Calls Try.prog 69 #[.slice (some ⟨B,0,none⟩) n cp,.int .i64 (v : Int)] w fun e w' => e = .returned (.bool (bitOf f v)) ∧ w = w' := by
 have hc : w.cell? ⟨B,v / 64,none⟩ = some (.int .u64 (f (v / 64) : Int)) := hrow.cell hv
 have hlt := hf (v / 64)
 have hvI : ((v / 64 : Nat) : Int) < (n : Int) := by omega
 have hvb : v < 9000000 := by omega
 have hq : (bits .and .u64 ((f (v / 64) : Int) / 2 ^ (v % 64)) 1 == 1) = bitOf f v := bit_eq _ _ hlt
 clear hrow hf
 go_enter Try.func69,Try.ntmps69
 go_wp2
 go_ret
 exact ⟨rfl,rfl⟩
theorem pow_lt64 {k : Nat} (h : k < 64) : 2 ^ k < 18446744073709551616 := Nat.lt_of_lt_of_le (Nat.pow_lt_pow_right (by decide) h) (by decide)
theorem wrap_pow {k : Nat} (h : k < 64) : IntKind.u64.wrap (2 ^ k) = ((2 ^ k : Nat) : Int) := by
 have e : ((2 : Int) ^ k) = ((2 ^ k : Nat) : Int) := by rw [Int.natCast_pow]; rfl
 rw [e]; exact w64 (pow_lt64 h)
theorem or_eq (a k : Nat) (ha : a < 18446744073709551616) (h : k < 64) : bits .or .u64 (a : Int) (IntKind.u64.wrap (2 ^ k)) = ((a ||| 2 ^ k : Nat) : Int) := by
 rw [wrap_pow h]; exact u64_or_nat _ _ ha (pow_lt64 h)
def WordSet (w : World) (B n : Nat) (g : Nat → Nat) (e : Ending) (w' : World) : Prop :=
 e = .returned (.tuple #[]) ∧ RowW w' B n g ∧ Ext (· = B) w w'
set_option maxRecDepth 100000 in
set_option maxHeartbeats 2000000 in
theorem bitsAdd_calls (w : World) (B n cp v : Nat) (f : Nat → Nat) (hrow : RowW w B n f) (hf : ∀ i,f i < 18446744073709551616) (hv : v / 64 < n) (hn : n ≤ 90000) :
  Calls Try.prog 63 #[.slice (some ⟨B,0,none⟩) n cp,.int .i64 (v : Int)] w (WordSet w B n (fun x => if x = v / 64 then f (v / 64) ||| 2 ^ (v % 64) else f x)) := by
 have hc : w.cell? ⟨B,v / 64,none⟩ = some (.int .u64 (f (v / 64) : Int)) := hrow.cell hv
 have hfz : w.frozen? ⟨B,v / 64,none⟩ = false := hrow.frozen
 have hlt := hf (v / 64)
 have hvI : ((v / 64 : Nat) : Int) < (n : Int) := by omega
 have hvb : v < 9000000 := by omega
 have ho := or_eq (f (v / 64)) (v % 64) hlt (Nat.mod_lt _ (by decide))
 have HP : Hid (WordSet w B n (fun x => if x = v / 64 then f (v / 64) ||| 2 ^ (v % 64) else f x) (.returned (.tuple #[])) (w.setCell ⟨B,v / 64,none⟩ (.int .u64 ((f (v / 64) ||| 2 ^ (v % 64) : Nat) : Int))).drew) :=
  ⟨rfl,hrow.set.keep rfl,(Ext.set1 _ _ _ _).drew⟩
 clear hrow hf
 go_enter Try.func63,Try.ntmps63
 go_wp2
 go_region
 all_goals (go_end0; exact HP.out)
theorem bit_add (f : Nat → Nat) (v u : Nat) : bitOf (fun x => if x = v / 64 then f (v / 64) ||| 2 ^ (v % 64) else f x) u = (bitOf f u || decide (u = v)) := by
 unfold bitOf
 by_cases h : u / 64 = v / 64
 ·simp only [if_pos h]
  rw [Nat.testBit_or,Nat.testBit_two_pow,← h]
  congr 1
  by_cases e : v % 64 = u % 64
  ·rw [decide_eq_true e,decide_eq_true (by omega)]
  ·rw [decide_eq_false e,decide_eq_false (by intro e2; subst e2; exact e rfl)]
 ·simp only [if_neg h]
  rw [decide_eq_false (by intro e; subst e; exact h rfl),Bool.or_false]
end Go.Proofs.Ytlggjbopfnndbaa
namespace Go.Proofs.Ytlggjbopfnndbaa
open Go.RowKit
theorem info_u64 : (Try.prog.info? 125).map (fun i => (i.zero,i.size,i.bytes)) = some (some (.int .u64 0),1,8) := by kernel_rfl
theorem wordCells_rep (n : Nat) : Array.replicate n (Value.int .u64 0) = wordCells n (fun _ => 0) := by
 apply Array.ext_getElem?
 intro j
 by_cases hj : j < n
 ·rw [wordCells_get _ hj]; simp [hj]
 ·rw [Array.getElem?_eq_none (by simp; omega),Array.getElem?_eq_none (by rw [wordCells_size]; omega)]
set_option maxRecDepth 100000 in
theorem newBits_calls (w : World) (n : Nat) (hn : n ≤ 90000) : Calls Try.prog 62 #[.int .i64 (n : Int)] w fun e w' =>
  e = .returned (.slice (some ⟨w.heap.size,0,none⟩) ((n + 63) / 64) ((n + 63) / 64)) ∧ w' = w.alloc (.cells (wordCells ((n + 63) / 64) (fun _ => 0)) 125) := by
 obtain ⟨q,hq⟩ : ∃ q,(n + 63) / 64 = q := ⟨_,rfl⟩
 have hqI : ((n : Int) + 63).tdiv 64 = (q : Int) := by rw [← hq,Int.tdiv_eq_ediv_of_nonneg (by omega)]; omega
 have hq2 : ((n : Int) + 63) / 64 = (q : Int) := by omega
 have hqb : q ≤ 90000 := by omega
 obtain ⟨i1,hi,hz0,hz1,hz2⟩ := info_parts info_u64
 rw [hq]
 go_enter Try.func62,Try.ntmps62
 go_wp2_with (at_make; refine wpList_make_at rfl (.tmp 5) (.tmp 5) 99 rfl 125 i1 (.int .u64 0) Try.underlying99 hi hz0 hz1 rfl .i64 .i64 _ _ q rfl rfl rfl rfl (by rw [hz2]; omega) (by unfold maxLen; omega) ?_; (try simp only [List.toArray_replicate]); rw [wordCells_rep])
 go_ret
 exact ⟨rfl,rfl⟩
end Go.Proofs.Ytlggjbopfnndbaa
