import Derived.Test.YtlggjbopfnndbaaG04
import Derived.Test.YtlggjbopfnndbaaG19
import Derived.Test.YtlggjbopfnndbaaH02
import Derived.Test.YtlggjbopfnndbaaG25
import Derived.Test.YtlggjbopfnndbaaRfH0
namespace Go.Proofs.Ytlggjbopfnndbaa
open Go.RowKit
def letterF (c : Int) : Bool := decide (65 ≤ c) && decide (c ≤ 90) || decide (97 ≤ c) && decide (c ≤ 122) || decide (c = 95)
def digitF (c : Int) : Bool := decide (48 ≤ c) && decide (c ≤ 57)
def byteI (s : ByteArray) (i : Nat) : Int := if h : i < s.size then ((s[i]'h).toNat : Int) else 0
theorem bool_iff {b : Bool} {p : Prop} {x : Bool} (hx : x = true ↔ p) (h : b = true ↔ p) : Ending.returned (.bool b) = .returned (.bool x) := by
 rw [Bool.eq_iff_iff.2 (h.trans hx.symm)]
theorem letter_iff (c : Int) : letterF c = true ↔ (65 ≤ c ∧ c ≤ 90 ∨ 97 ≤ c ∧ c ≤ 122) ∨ c = 95 := by unfold letterF; simp
theorem digit_iff (c : Int) : digitF c = true ↔ 48 ≤ c ∧ c ≤ 57 := by unfold digitF; simp
theorem letter_calls (c : Int) (w : World) : Calls Try.prog 105 #[.int .u8 c] w fun e w' => e = .returned (.bool (letterF c)) ∧ w = w' := by
 have HL := Lib.hid (letter_iff c)
 go_enter Try.func105,Try.ntmps105
 by_cases h1 : 65 ≤ c
 ·by_cases h2 : c ≤ 90
  ·go_wp2
   go_ret
   exact ⟨bool_iff HL.out (iff_of_true rfl (by omega)),rfl⟩
  ·by_cases h3 : 97 ≤ c
   ·by_cases h4 : c ≤ 122
    ·go_wp2
     go_ret
     exact ⟨bool_iff HL.out (iff_of_true rfl (by omega)),rfl⟩
    ·have e5 : (c == 95) = false := by rw [beq_eq_false_iff_ne]; omega
     go_wp2
     go_ret
     exact ⟨bool_iff HL.out (iff_of_false (fun h => by cases h) (by omega)),rfl⟩
   ·by_cases h5 : c = 95
    ·subst h5
     go_wp2
     go_ret
     exact ⟨bool_iff HL.out (iff_of_true rfl (by simp)),rfl⟩
    ·have e5 : (c == 95) = false := by rw [beq_eq_false_iff_ne]; exact h5
     go_wp2
     go_ret
     exact ⟨bool_iff HL.out (iff_of_false (fun h => by cases h) (by omega)),rfl⟩
 ·have h3 : ¬ 97 ≤ c := by omega
  have e5 : (c == 95) = false := by rw [beq_eq_false_iff_ne]; omega
  go_wp2
  go_ret
  exact ⟨bool_iff HL.out (iff_of_false (fun h => by cases h) (by omega)),rfl⟩
theorem digit_calls (c : Int) (w : World) : Calls Try.prog 107 #[.int .u8 c] w fun e w' => e = .returned (.bool (digitF c)) ∧ w = w' := by
 have HL := Lib.hid (digit_iff c)
 go_enter Try.func107,Try.ntmps107
 by_cases h1 : 48 ≤ c
 ·by_cases h2 : c ≤ 57
  ·go_wp2
   go_ret
   exact ⟨bool_iff HL.out (iff_of_true rfl (by omega)),rfl⟩
  ·go_wp2
   go_ret
   exact ⟨bool_iff HL.out (iff_of_false (fun h => by cases h) (by omega)),rfl⟩
 ·go_wp2
  go_ret
  exact ⟨bool_iff HL.out (iff_of_false (fun h => by cases h) (by omega)),rfl⟩
def words01 : List ByteArray := [⟨#[105,110,116]⟩,⟨#[115,116,114,117,99,116]⟩,⟨#[105,102]⟩,⟨#[101,108,115,101]⟩,⟨#[119,104,105,108,101]⟩,⟨#[98,114,101,97,107]⟩,⟨#[99,111,110,116,105,110,117,101]⟩,⟨#[114,101,116,117,114,110]⟩,⟨#[102,114,101,101]⟩,⟨#[112,117,116]⟩,⟨#[110,101,119]⟩,⟨#[110,117,108,108]⟩,⟨#[103,101,116]⟩]
theorem words01_calls (w : World) : Calls Try.prog 127 #[] w fun e w' => e = .returned (.slice (some ⟨w.heap.size,0,none⟩) 13 13) ∧ w' = w.alloc (.cells (words01.map Value.string).toArray 9) := by
 have hc : (words01.map Value.string).toArray = #[.string ⟨#[105,110,116]⟩,.string ⟨#[115,116,114,117,99,116]⟩,.string ⟨#[105,102]⟩,.string ⟨#[101,108,115,101]⟩,.string ⟨#[119,104,105,108,101]⟩,.string ⟨#[98,114,101,97,107]⟩,.string ⟨#[99,111,110,116,105,110,117,101]⟩,.string ⟨#[114,101,116,117,114,110]⟩,.string ⟨#[102,114,101,101]⟩,.string ⟨#[112,117,116]⟩,.string ⟨#[110,101,119]⟩,.string ⟨#[110,117,108,108]⟩,.string ⟨#[103,101,116]⟩] := rfl
 rw [hc]
 clear hc
 go_enter Try.func127,Try.ntmps127
 go_wp2
 go_ret
 exact ⟨rfl,rfl⟩
def wordF01 (s : ByteArray) : Bool := words01.any fun x => x == s
set_option maxRecDepth 100000 in
theorem word01_calls (s : ByteArray) (w : World) : Calls Try.prog 106 #[.string s] w fun e w' => e = .returned (.bool (wordF01 s)) ∧ Below w.heap.size w w' := by
 obtain ⟨N,hN⟩ : ∃ N,w.heap.size = N := ⟨_,rfl⟩
 obtain ⟨W1,hW1⟩ : ∃ W,w.alloc (.cells (words01.map Value.string).toArray 9) = W := ⟨_,rfl⟩
 have HWC := Lib.hid (words01_calls w)
 rw [hN,hW1] at HWC
 have hb1 : Below N w W1 := by rw [← hW1,← hN]; exact (Below.refl _ _).alloc (Nat.le_refl _) _
 have hr1 : W1.heap[N]? = some (.cells (words01.map Value.string).toArray 9 (0,0)) := by rw [← hW1,← hN]; exact alloc_at _ _
 have HC : Hid (∀ (j : Nat) (x : ByteArray),words01[j]? = some x → W1.cell? ⟨N,j,none⟩ = some (.string x)) := fun j x hx => by
  rw [cell_of_row _ _ _ _ _ _ hr1]
  simp [hx]
 have HB := Lib.hid hb1
 have HL : Hid (words01.length = 13) := rfl
 have HP : Hid (∀ b : Bool,b = wordF01 s → (Ending.returned (.bool b) = .returned (.bool (wordF01 s)) ∧ Below N w W1)) := fun b hb => by rw [hb]; exact ⟨rfl,hb1⟩
 clear hW1 hb1 hr1
 go_enter Try.func106,Try.ntmps106
 go_wp2_with (go_at_call 127; refine HWC.out.mono ?_; rintro e w2 ⟨rfl,rfl⟩)
 go_loop [4] (fun k => ∃ j : Nat,j ≤ 13 ∧ k = .int .i64 (j : Int) ∧ ∀ x ∈ words01.take j,(x == s) = false) (fun k => 13 - (intOf k).toNat)
 case atStart => exact ⟨0,Nat.zero_le _,rfl,by simp⟩
 case round =>
  obtain ⟨j,hj,rfl,hz⟩ := hrel
  by_cases hjl : j < 13
  ·obtain ⟨y,hy⟩ : ∃ y,words01[j]? = some y := ⟨_,List.getElem?_eq_getElem (by rw [HL.out]; exact hjl)⟩
   have d1 := HC.out j y hy
   have hjI : (j : Int) < 13 := by omega
   obtain ⟨d,hd0⟩ : ∃ d,(y == s) = d := ⟨_,rfl⟩
   have hd : (y.toList == s.toList) = d := by rw [← beq_toListBytes]; exact hd0
   have HZ := Lib.hid hz
   have HY := Lib.hid hy
   have HD := Lib.hid hd0
   clear hy hz hd0
   cases d with
   | true =>
    go_wp2
    go_ret
    refine HP.out true ?_
    unfold wordF01
    exact (List.any_eq_true.2 ⟨y,List.mem_of_getElem? HY.out,HD.out⟩).symm
   | false =>
    go_wp2
    go_round
    case rel =>
     refine ⟨j + 1,by omega,by go_num,fun x hx => ?_⟩
     rw [List.take_add_one,HY.out] at hx
     rcases List.mem_append.1 hx with h | h
     ·exact HZ.out x h
     ·have e : x = y := by simpa using h
      rw [e]; exact HD.out
    case measure => simp [intOf]; omega
  ·have hje : j = 13 := by omega
   subst hje
   have HM : Hid (false = wordF01 s) := by
    unfold Hid wordF01
    rw [eq_comm,List.any_eq_false]
    intro x hx
    have := hz x (by rw [List.take_of_length_le (by rw [HL.out]; exact Nat.le_refl _)]; exact hx)
    rw [this]; simp
   clear hz
   go_wp2
   go_ret
   exact HP.out false HM.out
def nameF (s : ByteArray) : Bool := !(decide (s.size < 1) || decide (40 < s.size) || !letterF (byteI s 0) || wordF01 s) && (List.range s.size).all fun i => letterF (byteI s i) || digitF (byteI s i)
set_option maxRecDepth 100000 in
theorem name_calls (s : ByteArray) (w : World) : Calls Try.prog 82 #[.string s] w fun e w' => e = .returned (.bool (nameF s)) ∧ Below w.heap.size w w' := by
 have HP : Hid (∀ (b : Bool) (w' : World),b = nameF s → Below w.heap.size w w' → (Ending.returned (.bool b) = .returned (.bool (nameF s)) ∧ Below w.heap.size w w')) := fun b w' hb h => by rw [hb]; exact ⟨rfl,h⟩
 have HW := Lib.hid (fun W => word01_calls s W)
 have HLT : Hid (∀ (c : Int) (W : World),Calls Try.prog 105 #[.int .u8 c] W fun e w' => e = .returned (.bool (letterF c)) ∧ W = w') := fun c W => letter_calls c W
 have HDG : Hid (∀ (c : Int) (W : World),Calls Try.prog 107 #[.int .u8 c] W fun e w' => e = .returned (.bool (digitF c)) ∧ W = w') := fun c W => digit_calls c W
 go_enter Try.func82,Try.ntmps82
 by_cases h1 : s.size < 1
 ·have HE : Hid (false = nameF s) := by unfold Hid nameF; rw [decide_eq_true h1]; simp
  have h1I : (s.size : Int) < 1 := by omega
  go_wp2
  go_ret
  exact HP.out _ _ HE.out (Below.refl _ _)
 have h1I : ¬ (s.size : Int) < 1 := by omega
 by_cases h2 : 40 < s.size
 ·have HE : Hid (false = nameF s) := by unfold Hid nameF; rw [decide_eq_true h2]; simp
  have h2I : (40 : Int) < (s.size : Int) := by omega
  go_wp2
  go_ret
  exact HP.out _ _ HE.out (Below.refl _ _)
 have h2I : ¬ (40 : Int) < (s.size : Int) := by omega
 have h0 : 0 < s.size := by omega
 have h0I : (0 : Int) < (s.size : Int) := by omega
 obtain ⟨c,hc⟩ : ∃ c : Int,((s[0]'h0).toNat : Int) = c := ⟨_,rfl⟩
 have hcb : byteI s 0 = c := by unfold byteI; rw [dif_pos h0]; exact hc
 have HL0 := Lib.hid (HLT.out c)
 obtain ⟨lf,hlf⟩ : ∃ b,letterF c = b := ⟨_,rfl⟩
 rw [hlf] at HL0
 have HCB := Lib.hid hcb
 have HLF := Lib.hid hlf
 have HC := Lib.hid hc
 clear hcb hlf
 cases lf with
 | false =>
  have HE : Hid (false = nameF s) := by unfold Hid nameF; rw [HCB.out,HLF.out]; simp
  go_wp2_with (go_at_call 105; (try rw [HC.out]); refine (HL0.out _).mono ?_; rintro e w2 ⟨rfl,rfl⟩)
  go_ret
  exact HP.out _ _ HE.out (Below.refl _ _)
 | true =>
 obtain ⟨wf,hwf⟩ : ∃ b,wordF01 s = b := ⟨_,rfl⟩
 have HWF := Lib.hid hwf
 rw [hwf] at HW
 clear hwf
 cases wf with
 | true =>
  have HE : Hid (false = nameF s) := by unfold Hid nameF; rw [HWF.out]; simp
  go_wp2_with (first
   | (go_at_call 105; (try rw [HC.out]); refine (HL0.out _).mono ?_; rintro e w2 ⟨rfl,rfl⟩)
   | (go_at_call 106; refine (HW.out _).mono ?_; rintro e w3 ⟨rfl,hb3⟩; have HB3 := Lib.hid hb3; clear hb3))
  go_ret
  exact HP.out _ _ HE.out HB3.out
 | false =>
  have HHEAD : Hid ((!(decide (s.size < 1) || decide (40 < s.size) || !letterF (byteI s 0) || wordF01 s)) = true) := by unfold Hid; rw [HCB.out,HLF.out,HWF.out,decide_eq_false h1,decide_eq_false h2]; rfl
  go_wp2_with (first
   | (go_at_call 105; (try rw [HC.out]); refine (HL0.out _).mono ?_; rintro e w2 ⟨rfl,rfl⟩)
   | (go_at_call 106; refine (HW.out _).mono ?_; rintro e w3 ⟨rfl,hb3⟩; have HB3 := Lib.hid hb3; clear hb3))
  clear hc
  go_loop [3] (fun k => ∃ j : Nat,j ≤ s.size ∧ k = .int .i64 (j : Int) ∧ ∀ i,i < j → (letterF (byteI s i) || digitF (byteI s i)) = true) (fun k => s.size - (intOf k).toNat)
  case atStart => exact ⟨0,Nat.zero_le _,rfl,fun i hi => absurd hi (Nat.not_lt_zero _)⟩
  case round =>
   obtain ⟨j,hj,rfl,hz⟩ := hrel
   have HZ := Lib.hid hz
   clear hz
   by_cases hjl : j < s.size
   ·have hjI : (j : Int) < (s.size : Int) := by omega
    obtain ⟨c2,hc2⟩ : ∃ c : Int,((s[j]'hjl).toNat : Int) = c := ⟨_,rfl⟩
    have hcb : byteI s j = c2 := by unfold byteI; rw [dif_pos hjl]; exact hc2
    have HC2 := Lib.hid hc2
    have HLJ := Lib.hid (HLT.out c2)
    have HDJ := Lib.hid (HDG.out c2)
    obtain ⟨lf,hlf⟩ : ∃ b,letterF c2 = b := ⟨_,rfl⟩
    obtain ⟨df,hdf⟩ : ∃ b,digitF c2 = b := ⟨_,rfl⟩
    rw [hlf] at HLJ
    rw [hdf] at HDJ
    have HO : Hid ((letterF (byteI s j) || digitF (byteI s j)) = (lf || df)) := by unfold Hid; rw [hcb,hlf,hdf]
    have HNEXT : Hid ((lf || df) = true → ∃ j' : Nat,j' ≤ s.size ∧ Value.int .i64 ((j : Int) + 1) = .int .i64 (j' : Int) ∧ ∀ i,i < j' → (letterF (byteI s i) || digitF (byteI s i)) = true) := fun h => ⟨j + 1,hjl,by simp,fun i hi => by
     by_cases e : i = j
     ·subst e; rw [HO.out]; exact h
     ·exact HZ.out i (by omega)⟩
    have HBAD : Hid ((lf || df) = false → false = nameF s) := fun h => by
     unfold nameF
     rw [eq_comm,Bool.and_eq_false_iff]
     right
     rw [List.all_eq_false]
     exact ⟨j,List.mem_range.2 hjl,by rw [HO.out,h]; simp⟩
    clear hcb hlf hdf hc2
    cases lf with
    | true =>
     go_wp2_with (go_at_call 105; (try rw [HC2.out]); refine (HLJ.out _).mono ?_; rintro e w4 ⟨rfl,rfl⟩)
     go_round
     case rel => exact HNEXT.out rfl
     case measure => simp [intOf]; omega
    | false =>
     cases df with
     | true =>
      go_wp2_with (first
       | (go_at_call 105; (try rw [HC2.out]); refine (HLJ.out _).mono ?_; rintro e w4 ⟨rfl,rfl⟩)
       | (go_at_call 107; (try rw [HC2.out]); refine (HDJ.out _).mono ?_; rintro e w5 ⟨rfl,rfl⟩))
      go_round
      case rel => exact HNEXT.out rfl
      case measure => simp [intOf]; omega
     | false =>
      go_wp2_with (first
       | (go_at_call 105; (try rw [HC2.out]); refine (HLJ.out _).mono ?_; rintro e w4 ⟨rfl,rfl⟩)
       | (go_at_call 107; (try rw [HC2.out]); refine (HDJ.out _).mono ?_; rintro e w5 ⟨rfl,rfl⟩))
      go_ret
      exact HP.out _ _ (HBAD.out rfl) HB3.out
   ·have HE : Hid (true = nameF s) := by
     unfold Hid nameF
     rw [HHEAD.out,Bool.true_and,eq_comm,List.all_eq_true]
     intro i hi
     exact HZ.out i (by have := List.mem_range.1 hi; omega)
    have hjI : ¬ (j : Int) < (s.size : Int) := by omega
    go_wp2
    go_ret
    exact HP.out _ _ HE.out HB3.out
end Go.Proofs.Ytlggjbopfnndbaa
namespace Go.Proofs.Ytlggjbopfnndbaa
open Go.RowKit
set_option maxRecDepth 100000 in
theorem classed20_calls (v : Vr) (w : World) : Calls Try.prog 54 #[.agg v.cells] w fun e w' => e = .returned (.bool (okC v)) ∧ Below w.heap.size w w' := by
 obtain ⟨N,hN⟩ : ∃ N,w.heap.size = N := ⟨_,rfl⟩
 obtain ⟨W1,hW1⟩ : ∃ W1,w.alloc (.cells v.cells 47) = W1 := ⟨_,rfl⟩
 have hb1 : Below N w W1 := by rw [← hW1,← hN]; exact (Below.refl _ _).alloc (Nat.le_refl _) _
 have q1 : W1.heap[N]? = some (.cells v.cells 47 (0,0)) := by rw [← hW1,← hN]; exact alloc_at _ _
 have c0 : W1.cell? ⟨N,0,none⟩ = some (.bool v.ptr) := by rw [cell_of_row _ _ _ _ _ _ q1]; rfl
 have c2 : W1.cell? ⟨N,2,none⟩ = some (.int .i64 v.cls) := by rw [cell_of_row _ _ _ _ _ _ q1]; rfl
 obtain ⟨p,hp⟩ : ∃ p,v.ptr = p := ⟨_,rfl⟩
 obtain ⟨c,hc⟩ : ∃ c,v.cls = c := ⟨_,rfl⟩
 rw [okC_eq,hp,hc]
 rw [hp] at c0
 rw [hc] at c2
 simp only [Vr.cells] at hW1 ⊢
 have HW1 := Lib.hid hW1
 rw [hN]
 have HB := Lib.hid hb1
 clear hW1 q1 hp hc hb1
 go_enter Try.func54,Try.ntmps54
 go_upto_region 1 with (fail)
 rw [HW1.out]
 clear hN
 cases p with
 | false =>
  go_wp2
  go_ret
  exact ⟨by simp,HB.out⟩
 | true =>
  by_cases h1 : 1 ≤ c
  ·have d1 : decide (1 ≤ c) = true := decide_eq_true h1
   by_cases h3 : c ≤ 3
   ·have d3 : decide (c ≤ 3) = true := decide_eq_true h3
    go_wp2
    go_ret
    exact ⟨by simp [d1,d3],HB.out⟩
   ·have d3 : decide (c ≤ 3) = false := decide_eq_false h3
    go_wp2
    go_ret
    exact ⟨by simp,HB.out⟩
  ·have d1 : decide (1 ≤ c) = false := decide_eq_false h1
   go_wp2
   go_ret
   exact ⟨by simp,HB.out⟩
structure Fn.fromOk (g : Fn) : Prop where
 at_ : ∀ (i : Nat) (n : Int),g.frm[i]? = some n → 0 ≤ n ∧ n < g.c.par ∧ ∃ v,g.vs[n.toNat]? = some v ∧ v.lent = true
 up : ∀ (i : Nat) (p n : Int),g.frm[i]? = some p → g.frm[i + 1]? = some n → p < n
 ret : g.frm ≠ [] → g.retV.lent = true
set_option maxRecDepth 100000 in
set_option maxHeartbeats 4000000 in
theorem from20_calls (g : Fn) (w : World) (hg : g.inn w) (ho : g.fromOk) : Calls Try.prog 55 #[.agg g.cells] w fun e w' => e = .returned (.bool true) ∧ Below w.heap.size w w' := by
 obtain ⟨N,hN⟩ : ∃ N,w.heap.size = N := ⟨_,rfl⟩
 obtain ⟨W1,hW1⟩ : ∃ W1,w.alloc (.cells g.cells 50) = W1 := ⟨_,rfl⟩
 have hb1 : Below N w W1 := by rw [← hW1,← hN]; exact (Below.refl _ _).alloc (Nat.le_refl _) _
 have q1 : W1.heap[N]? = some (.cells g.cells 50 (0,0)) := by rw [← hW1,← hN]; exact alloc_at _ _
 have hs1 : W1.heap.size = N + 1 := by rw [← hW1]; simp [hN]
 obtain ⟨nf,hnf⟩ : ∃ z,g.frm.length = z := ⟨_,rfl⟩
 have HQ : Hid (∀ W,Below W1.heap.size W1 W → W.heap[N]? = some (.cells #[.string g.c.nm,.int .i64 g.c.par,.slice g.c.varsA g.vs.length g.c.varsC,.bool g.c.rp,.string g.c.rto,.int .i64 g.c.rcl,.slice g.c.fromA nf g.c.fromC,.slice g.c.insA g.c.ins.length g.c.insC] 50 (0,0)) ∧ Below N w W ∧ g.inn W) := fun W hW => by
  have h1 := (hW.block N (by omega)).trans q1
  have h2 := hb1.trans (hW.mono (by omega))
  refine ⟨?_,h2,hg.below (by rw [hN]; exact h2)⟩
  rw [h1,← hnf,← hg.nfrom,← hg.nvars]; rfl
 have HO := Lib.hid ho
 have HNF := Lib.hid hnf
 have HLE : Hid (∀ (v : Vr) (W : World),Calls Try.prog 40 #[.agg v.cells] W fun e w' => e = .returned (.bool v.lent) ∧ Below W.heap.size W w') := fun v W => rlent19_calls v W
 have hmax : nf ≤ maxLen := by have := hg.code.nfrom; rw [hg.nfrom,hnf] at this; exact this
 unfold maxLen at hmax
 have HN := Lib.hid hN
 have hW1' := hW1
 simp only [Fn.cells,Cod.cells] at hW1'
 have HW1 := Lib.hid hW1'
 simp only [Fn.cells,Cod.cells]
 rw [hN]
 clear hg ho hW1 hW1' q1 hb1 hs1 hnf
 go_enter Try.func55,Try.ntmps55
 go_upto_region 1 with (fail)
 rw [HW1.out]
 clear hN HW1
 obtain ⟨r0,_,_⟩ := HQ.out W1 (Below.refl _ _)
 have e6 : W1.cell? ⟨N,6,none⟩ = some (.slice g.c.fromA nf g.c.fromC) := by rw [cell_of_row _ _ _ _ _ _ r0]; rfl
 clear r0
 go_wp2_with fail
 clear e6
 go_loopw [3] (fun c wr => ∃ i : Nat,i ≤ nf ∧ c = .int .i64 (i : Int) ∧ Below W1.heap.size W1 wr) (fun c _ => nf - (intOf c).toNat)
 case atStart => exact ⟨0,Nat.zero_le _,rfl,Below.refl _ _⟩
 case round =>
  obtain ⟨i,hi,rfl,hbr⟩ := hrel
  obtain ⟨r0,hbw,hgi⟩ := HQ.out wr hbr
  have e6 : wr.cell? ⟨N,6,none⟩ = some (.slice g.c.fromA nf g.c.fromC) := by rw [cell_of_row _ _ _ _ _ _ r0]; rfl
  by_cases hil : i < nf
  rotate_left
  ·have hie : i = nf := by omega
   subst hie
   by_cases h0 : i = 0
   ·subst h0
    have HB := Lib.hid hbw
    clear hbw hgi r0 hbr
    go_wp2
    go_ret
    exact ⟨rfl,HB.out⟩
   have h0I : ((i : Int) == 0) = false := by rw [beq_eq_false_iff_ne]; omega
   have HLR := Lib.hid (HLE.out g.retV)
   rw [HO.out.ret (by intro e; have := HNF.out; rw [e] at this; simp at this; omega)] at HLR
   simp only [Fn.retV,Vr.cells] at HLR
   have k3 : wr.cell? ⟨N,3,none⟩ = some (.bool g.c.rp) := by rw [cell_of_row _ _ _ _ _ _ r0]; rfl
   have k4 : wr.cell? ⟨N,4,none⟩ = some (.string g.c.rto) := by rw [cell_of_row _ _ _ _ _ _ r0]; rfl
   have k5 : wr.cell? ⟨N,5,none⟩ = some (.int .i64 g.c.rcl) := by rw [cell_of_row _ _ _ _ _ _ r0]; rfl
   have HB := Lib.hid hbw
   clear hbw hgi r0 hbr
   go_wp2_with (go_at_call 40; refine (HLR.out _).mono ?_; rintro e w4 ⟨rfl,hb4⟩; have HB4 := Lib.hid hb4; clear hb4)
   go_ret
   exact ⟨rfl,HB.out.trans (HB4.out.mono (by have := HB.out.size; have := HN.out; omega))⟩
  have hiI : (i : Int) < (nf : Int) := by omega
  obtain ⟨n,hn⟩ : ∃ n,g.frm[i]? = some n := ⟨_,List.getElem?_eq_getElem (by rw [HNF.out]; exact hil)⟩
  obtain ⟨fb,fo,hfA,_,hfc⟩ := hgi.frm (by intro e; rw [e] at hn; simp at hn)
  obtain ⟨n0,n1,v,hv,hlv⟩ := HO.out.at_ i n hn
  obtain ⟨n,rfl⟩ : ∃ k : Nat,n = (k : Int) := ⟨n.toNat,by omega⟩
  rw [Int.toNat_natCast] at hv
  obtain ⟨vb,vo,hvA,_,hvc⟩ := hgi.vars (by intro e; rw [e] at hv; simp at hv)
  have e1 : wr.cell? ⟨N,1,none⟩ = some (.int .i64 g.c.par) := by rw [cell_of_row _ _ _ _ _ _ r0]; rfl
  have e2 : wr.cell? ⟨N,2,none⟩ = some (.slice g.c.varsA g.vs.length g.c.varsC) := by rw [cell_of_row _ _ _ _ _ _ r0]; rfl
  have k0 : wr.cell? ⟨fb,fo + i,none⟩ = some (.int .i64 (n : Int)) := by have := hfc i _ hn 0 _ rfl; simpa using this
  have hnv : n < g.vs.length := (List.getElem?_eq_some_iff.1 hv).1
  have hnvI : (n : Int) < (g.vs.length : Int) := by omega
  have l0 : wr.cell? ⟨vb,vo + n * 3,none⟩ = some (.bool v.ptr) := by have := hvc n v hv 0 _ rfl; simpa using this
  have l1 : wr.cell? ⟨vb,vo + n * 3 + 1,none⟩ = some (.string v.tgt) := hvc n v hv 1 _ rfl
  have l2 : wr.cell? ⟨vb,vo + n * 3 + 2,none⟩ = some (.int .i64 v.cls) := hvc n v hv 2 _ rfl
  have HLV := Lib.hid (HLE.out v)
  rw [hlv] at HLV
  simp only [Vr.cells] at HLV
  rw [hfA] at e6
  rw [hvA] at e2
  have HBR := Lib.hid hbr
  have n1' : ¬ g.c.par ≤ (n : Int) := by omega
  have HNEXT : Hid (∀ W,Below wr.heap.size wr W → ∃ i' : Nat,i' ≤ nf ∧ Value.int .i64 ((i : Int) + 1) = .int .i64 (i' : Int) ∧ Below W1.heap.size W1 W) := fun W hW => ⟨i + 1,hil,by simp,HBR.out.trans (hW.mono HBR.out.size)⟩
  by_cases hi0 : i = 0
  ·subst hi0
   have k0' : wr.cell? ⟨fb,fo,none⟩ = some (.int .i64 (n : Int)) := by simpa using k0
   clear k0 hbw hgi r0 hbr hn hfA hfc hv hlv hvA hvc
   go_wp2_with (go_at_call 40; refine (HLV.out _).mono ?_; rintro e w4 ⟨rfl,hb4⟩; have HR := Lib.hid (HNEXT.out w4 hb4); clear hb4)
   go_roundw
   case rel => exact HR.out
   case measure => simp [intOf]; omega
  ·obtain ⟨j,rfl⟩ : ∃ j,i = j + 1 := ⟨i - 1,by omega⟩
   obtain ⟨p,hp⟩ : ∃ p,g.frm[j]? = some p := ⟨_,List.getElem?_eq_getElem (by rw [HNF.out]; omega)⟩
   have hpn := HO.out.up j p _ hp hn
   have k1 : wr.cell? ⟨fb,fo + j,none⟩ = some (.int .i64 p) := by have := hfc j _ hp 0 _ rfl; simpa using this
   have hjI : (0 : Int) < ((j + 1 : Nat) : Int) := by omega
   have hsub : ((j + 1 : Nat) : Int) - 1 = (j : Int) := by omega
   have hjb : (j : Int) < (nf : Int) := by omega
   have hpn' : ¬ (n : Int) ≤ p := by omega
   clear hbw hgi r0 hbr hn hfA hfc hv hlv hvA hvc hp
   go_wp2_with (go_at_call 40; refine (HLV.out _).mono ?_; rintro e w4 ⟨rfl,hb4⟩; have HR := Lib.hid (HNEXT.out w4 hb4); clear hb4)
   go_roundw
   case rel => exact HR.out
   case measure => simp [intOf]; omega
end Go.Proofs.Ytlggjbopfnndbaa
namespace Go.Proofs.Ytlggjbopfnndbaa
open Go.RowKit
def namesF (m : Mo) : Bool := (m.ss.all fun s => nameF s.s.nm && s.fs.all fun f => nameF f.nm) && m.fs.all fun g => nameF g.c.nm
theorem cell_below {w w' : World} {a : Addr} {v : Value} (hb : Below w.heap.size w w') (h : w.cell? a = some v) : w'.cell? a = some v := (hb.cell (World.block_lt_of_cell? _ _ h)).trans h
theorem all_take_next {α : Type} {p : α → Bool} {l : List α} {j : Nat} {x : α} (h : ∀ y ∈ l.take j,p y = true) (hx : l[j]? = some x) (hp : p x = true) : ∀ y ∈ l.take (j + 1),p y = true := by
 intro y hy
 rw [List.take_add_one,hx] at hy
 rcases List.mem_append.1 hy with h1 | h1
 ·exact h y h1
 ·have e : y = x := by simpa using h1
  rw [e]; exact hp
set_option maxRecDepth 100000 in
set_option maxHeartbeats 4000000 in
theorem named20_calls (m : Mo) (w : World) (hm : m.inn w) : Calls Try.prog 53 #[.agg m.cells] w fun e w' => e = .returned (.bool (namesF m)) ∧ Below w.heap.size w w' := by
 obtain ⟨N,hN⟩ : ∃ N,w.heap.size = N := ⟨_,rfl⟩
 obtain ⟨W1,hW1⟩ : ∃ W1,w.alloc (.cells m.cells 25) = W1 := ⟨_,rfl⟩
 have hb1 : Below N w W1 := by rw [← hW1,← hN]; exact (Below.refl _ _).alloc (Nat.le_refl _) _
 have q1 : W1.heap[N]? = some (.cells m.cells 25 (0,0)) := by rw [← hW1,← hN]; exact alloc_at _ _
 have hs1 : W1.heap.size = N + 1 := by rw [← hW1]; simp [hN]
 have HK : Hid (∀ W,Below W1.heap.size W1 W → W.cell? ⟨N,0,none⟩ = some (.slice m.sA m.ss.length m.sC) ∧ W.cell? ⟨N,1,none⟩ = some (.slice m.fA m.fs.length m.fC) ∧ m.inn W ∧ Below N w W) := fun W hW => by
  have h1 := (hW.block N (by omega)).trans q1
  have h3 := hb1.trans (hW.mono (by omega))
  exact ⟨by rw [cell_of_row _ _ _ _ _ _ h1]; rfl,by rw [cell_of_row _ _ _ _ _ _ h1]; rfl,hm.below (by rw [hN]; exact h3),h3⟩
 have HP : Hid (∀ (b : Bool) (W : World),b = namesF m → Below W1.heap.size W1 W → Ending.returned (.bool b) = .returned (.bool (namesF m)) ∧ Below N w W) := fun b W hb hW => ⟨by rw [hb],(HK.out W hW).2.2.2⟩
 have HNM : Hid (∀ (s : ByteArray) (W : World),Calls Try.prog 82 #[.string s] W fun e w' => e = .returned (.bool (nameF s)) ∧ Below W.heap.size W w') := fun s W => name_calls s W
 have hW1' := hW1
 simp only [Mo.cells] at hW1'
 have HW1 := Lib.hid hW1'
 have hns : m.ss.length ≤ 9223372036854775807 := by have := hm.ns; unfold maxLen at this; omega
 have hnf : m.fs.length ≤ 9223372036854775807 := by have := hm.nf; unfold maxLen at this; omega
 rw [hN]
 simp only [Mo.cells]
 clear hm hW1 hW1' q1 hb1 hs1
 obtain ⟨c0,c1,_,_⟩ := HK.out W1 (Below.refl _ _)
 go_enter Try.func53,Try.ntmps53
 go_upto_region 1 with (fail)
 rw [HW1.out]
 clear hN HW1
 go_wp2_with fail
 clear c0 c1
 go_loopw [3] (fun c wr => ∃ i : Nat,i ≤ m.ss.length ∧ c = .int .i64 (i : Int) ∧ (∀ s ∈ m.ss.take i,(nameF s.s.nm && s.fs.all fun f => nameF f.nm) = true) ∧ Below W1.heap.size W1 wr) (fun c _ => m.ss.length - (intOf c).toNat)
 case atStart => exact ⟨0,Nat.zero_le _,rfl,by simp,Below.refl _ _⟩
 case round =>
  obtain ⟨i,hi,rfl,hall,hbr⟩ := hrel
  obtain ⟨c0,c1,hmi,_⟩ := HK.out wr hbr
  by_cases hil : i < m.ss.length
  rotate_left
  ·have hie : i = m.ss.length := by omega
   rw [hie,List.take_length] at hall
   have HSS : Hid (∀ s ∈ m.ss,(nameF s.s.nm && s.fs.all fun f => nameF f.nm) = true) := hall
   have HBR := Lib.hid hbr
   clear hall hbr hmi
   subst hie
   go_wp2_with fail
   clear c0 c1
   go_loopw [5] (fun c wr => ∃ i : Nat,i ≤ m.fs.length ∧ c = .int .i64 (i : Int) ∧ (∀ g ∈ m.fs.take i,nameF g.c.nm = true) ∧ Below W1.heap.size W1 wr) (fun c _ => m.fs.length - (intOf c).toNat)
   case atStart => exact ⟨0,Nat.zero_le _,rfl,by simp,HBR.out⟩
   case round =>
    obtain ⟨j,hj,rfl,hall,hbr⟩ := hrel
    obtain ⟨c0,c1,hmi,_⟩ := HK.out wr hbr
    by_cases hjl : j < m.fs.length
    rotate_left
    ·have hje : j = m.fs.length := by omega
     rw [hje,List.take_length] at hall
     have HE : Hid (true = namesF m) := by
      unfold Hid namesF
      rw [eq_comm,Bool.and_eq_true,List.all_eq_true,List.all_eq_true]
      exact ⟨HSS.out,hall⟩
     have HB2 := Lib.hid hbr
     clear hall hbr hmi
     go_wp2
     go_ret
     exact HP.out true wr HE.out HB2.out
    have hjI : (j : Int) < (m.fs.length : Int) := by omega
    obtain ⟨g,hg⟩ : ∃ g,m.fs[j]? = some g := ⟨_,List.getElem?_eq_getElem hjl⟩
    obtain ⟨fb,fo,hfA,_,hfc⟩ := hmi.frow (by intro e; rw [e] at hjl; simp at hjl)
    have k0 : wr.cell? ⟨fb,fo + j * 8,none⟩ = some (.string g.c.nm) := by have := hfc j g hg 0 _ rfl; simpa using this
    have HNG := Lib.hid (HNM.out g.c.nm)
    obtain ⟨b,hb⟩ : ∃ b,nameF g.c.nm = b := ⟨_,rfl⟩
    rw [hb] at HNG
    have HBR2 := Lib.hid hbr
    rw [hfA] at c1
    cases b with
    | true =>
     have HNX : Hid (∀ W,Below wr.heap.size wr W → ∃ i : Nat,i ≤ m.fs.length ∧ Value.int .i64 ((j : Int) + 1) = .int .i64 (i : Int) ∧ (∀ g ∈ m.fs.take i,nameF g.c.nm = true) ∧ Below W1.heap.size W1 W) := fun W hW => ⟨j + 1,hjl,by simp,all_take_next (p := fun g : Fn => nameF g.c.nm) hall hg hb,HBR2.out.trans (hW.mono HBR2.out.size)⟩
     clear hall hbr hmi hg hfA hfc hb
     go_wp2_with (go_at_call 82; refine (HNG.out _).mono ?_; rintro e w4 ⟨rfl,hb4⟩; have HR := Lib.hid (HNX.out w4 hb4); clear hb4)
     go_roundw
     case rel => exact HR.out
     case measure => simp [intOf]; omega
    | false =>
     have HNX : Hid (∀ W,Below wr.heap.size wr W → Ending.returned (.bool false) = .returned (.bool (namesF m)) ∧ Below N w W) := fun W hW => HP.out false W (by
      unfold namesF
      rw [eq_comm,Bool.and_eq_false_iff]
      right
      rw [List.all_eq_false]
      exact ⟨g,List.mem_of_getElem? hg,by rw [hb]; simp⟩) (HBR2.out.trans (hW.mono HBR2.out.size))
     clear hall hbr hmi hg hfA hfc hb
     go_wp2_with (go_at_call 82; refine (HNG.out _).mono ?_; rintro e w4 ⟨rfl,hb4⟩; have HR := Lib.hid (HNX.out w4 hb4); clear hb4)
     go_ret
     exact HR.out
  have hiI : (i : Int) < (m.ss.length : Int) := by omega
  obtain ⟨s,hs⟩ : ∃ s,m.ss[i]? = some s := ⟨_,List.getElem?_eq_getElem hil⟩
  have hsm := List.mem_of_getElem? hs
  obtain ⟨sb,so,hsA,hsbl,hsc⟩ := hmi.srow (by intro e; rw [e] at hil; simp at hil)
  have HSA : Hid (∀ W,Below wr.heap.size wr W → W.cell? ⟨N,0,none⟩ = some (.slice (some ⟨sb,so,none⟩) m.ss.length m.sC) ∧ W.cell? ⟨sb,so + i * 4,none⟩ = some (.string s.s.nm) ∧ W.cell? ⟨sb,so + i * 4 + 1,none⟩ = some (.slice s.s.fA s.fs.length s.s.fC) ∧ s.inn W) := fun W hW => by
   have h0 := hsc i s hs 0 _ rfl
   have h1 := hsc i s hs 1 _ rfl
   rw [Nat.add_zero] at h0
   refine ⟨by rw [← hsA]; exact cell_below hW c0,cell_below hW h0,?_,(hmi.below hW).sin s hsm⟩
   rw [← (hmi.sin s hsm).nf]; exact cell_below hW h1
  have HNS := Lib.hid (HNM.out s.s.nm)
  obtain ⟨b,hb⟩ : ∃ b,nameF s.s.nm = b := ⟨_,rfl⟩
  rw [hb] at HNS
  have HBR := Lib.hid hbr
  obtain ⟨a0,a1,a2,a3⟩ := HSA.out wr (Below.refl _ _)
  have hnfl : s.fs.length ≤ 9223372036854775807 := by have := a3.len; unfold maxLen at this; omega
  have HALL := Lib.hid hall
  have HS := Lib.hid hs
  cases b with
  | false =>
   have HNX : Hid (∀ W,Below wr.heap.size wr W → Ending.returned (.bool false) = .returned (.bool (namesF m)) ∧ Below N w W) := fun W hW => HP.out false W (by
    unfold namesF
    rw [eq_comm,Bool.and_eq_false_iff]
    left
    rw [List.all_eq_false]
    exact ⟨s,hsm,by rw [hb]; simp⟩) (HBR.out.trans (hW.mono HBR.out.size))
   clear hall hbr hmi hs hsA hsc hb a2 a3 c0 c1
   go_wp2_with (go_at_call 82; refine (HNS.out _).mono ?_; rintro e w4 ⟨rfl,hb4⟩; have HR := Lib.hid (HNX.out w4 hb4); clear hb4)
   go_ret
   exact HR.out
  | true =>
   have HB := Lib.hid hb
   clear hall hbr hmi hs hsA hsc hb a2 a3 c0 c1
   go_wp2_with (go_at_call 82; refine (HNS.out _).mono ?_; rintro e w4 ⟨rfl,hb4⟩; have HB4 := Lib.hid hb4; obtain ⟨d0,d1,d2,_⟩ := HSA.out w4 hb4; clear hb4)
   clear a0 a1 d0 d1 d2
   obtain ⟨wo,hwo⟩ : ∃ wo : World,wo = wr := ⟨_,rfl⟩
   rw [← hwo] at HSA HBR HB4
   clear hwo
   go_loopw [4] (fun c wq => ∃ k : Nat,k ≤ s.fs.length ∧ c = .int .i64 (k : Int) ∧ (∀ f ∈ s.fs.take k,nameF f.nm = true) ∧ Below wo.heap.size wo wq) (fun c _ => s.fs.length - (intOf c).toNat)
   case atStart => exact ⟨0,Nat.zero_le _,rfl,by simp,HB4.out⟩
   case round =>
    obtain ⟨k,hk,rfl,hall,hbq⟩ := hrel
    obtain ⟨a0,a1,a2,a3⟩ := HSA.out wr hbq
    have HBQ := Lib.hid hbq
    by_cases hkl : k < s.fs.length
    rotate_left
    ·have hke : k = s.fs.length := by omega
     rw [hke,List.take_length] at hall
     have HNX : Hid (∃ i' : Nat,i' ≤ m.ss.length ∧ Value.int .i64 ((i : Int) + 1) = .int .i64 (i' : Int) ∧ (∀ s ∈ m.ss.take i',(nameF s.s.nm && s.fs.all fun f => nameF f.nm) = true) ∧ Below W1.heap.size W1 wr) :=
      ⟨i + 1,hil,by simp,all_take_next (p := fun s : St => nameF s.s.nm && s.fs.all fun f => nameF f.nm) HALL.out HS.out (by rw [HB.out,Bool.true_and,List.all_eq_true]; exact hall),HBR.out.trans (hbq.mono HBR.out.size)⟩
     clear hall hbq a1 a3
     go_wp2
     go_roundw
     case rel => exact HNX.out
     case measure => simp [intOf]; omega
    have hkI : (k : Int) < (s.fs.length : Int) := by omega
    obtain ⟨f,hf⟩ : ∃ f,s.fs[k]? = some f := ⟨_,List.getElem?_eq_getElem hkl⟩
    obtain ⟨fb,fo,hfA,_,hfc⟩ := a3.row (by intro e; rw [e] at hkl; simp at hkl)
    have k0 : wr.cell? ⟨fb,fo + k * 5,none⟩ = some (.string f.nm) := by have := hfc k f hf 0 _ rfl; simpa using this
    have HNG := Lib.hid (HNM.out f.nm)
    obtain ⟨b,hb2⟩ : ∃ b,nameF f.nm = b := ⟨_,rfl⟩
    rw [hb2] at HNG
    rw [hfA] at a2
    cases b with
    | true =>
     have HNX : Hid (∀ W,Below wr.heap.size wr W → ∃ i : Nat,i ≤ s.fs.length ∧ Value.int .i64 ((k : Int) + 1) = .int .i64 (i : Int) ∧ (∀ f ∈ s.fs.take i,nameF f.nm = true) ∧ Below wo.heap.size wo W) := fun W hW => ⟨k + 1,hkl,by simp,all_take_next (p := fun f : Fd => nameF f.nm) hall hf hb2,HBQ.out.trans (hW.mono HBQ.out.size)⟩
     clear hall hbq a1 a3 hf hfA hfc hb2
     go_wp2_with (go_at_call 82; refine (HNG.out _).mono ?_; rintro e w5 ⟨rfl,hb5⟩; have HR := Lib.hid (HNX.out w5 hb5); clear hb5)
     go_roundw
     case rel => exact HR.out
     case measure => simp [intOf]; omega
    | false =>
     have HNX : Hid (∀ W,Below wr.heap.size wr W → Ending.returned (.bool false) = .returned (.bool (namesF m)) ∧ Below N w W) := fun W hW => HP.out false W (by
      unfold namesF
      rw [eq_comm,Bool.and_eq_false_iff]
      left
      rw [List.all_eq_false]
      refine ⟨s,hsm,?_⟩
      rw [HB.out,Bool.true_and,List.all_eq_true]
      intro h
      have := h f (List.mem_of_getElem? hf)
      rw [hb2] at this; cases this) (HBR.out.trans ((hbq.trans (hW.mono hbq.size)).mono HBR.out.size))
     clear hall hbq a1 a3 hf hfA hfc hb2
     go_wp2_with (go_at_call 82; refine (HNG.out _).mono ?_; rintro e w5 ⟨rfl,hb5⟩; have HR := Lib.hid (HNX.out w5 hb5); clear hb5)
     go_ret
     exact HR.out
end Go.Proofs.Ytlggjbopfnndbaa
