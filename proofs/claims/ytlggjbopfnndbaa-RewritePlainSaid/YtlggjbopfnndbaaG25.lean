import Derived.Test.YtlggjbopfnndbaaG23
import Derived.Test.YtlggjbopfnndbaaG24
import Derived.Test.YtlggjbopfnndbaaG22
import Derived.Test.YtlggjbopfnndbaaG06
namespace Go.Proofs.Ytlggjbopfnndbaa
open Go.RowKit
set_option maxRecDepth 100000 in
set_option maxHeartbeats 2000000 in
theorem cloneW_calls (w : World) (ao : Option Addr) (n cap : Nat) (xs : List Value) (hl : xs.length = n * 1) (hnone : ao = none → n = 0) (hc : ∀ ad,ao = some ad → ∀ j u,xs[j]? = some u → w.cell? (ad.add j) = some u) (hg : ∀ ad,ao = some ad → ad.block < w.heap.size) (hone : ∀ u ∈ xs,u.oneCell' = true) (hn : n ≤ 90000) :
  Calls Try.prog 128 #[.slice ao n cap] w fun e w' => ∃ v',e = .returned v' ∧ w'.ownsRow w.heap.size 125 1 v' n xs ∧ Below w.heap.size w w' := by
 have q22 : ∀ (w : World) (a : Option Addr) (n c n' c' : Nat),(binOp .eql 99 (.slice a n c) (.slice none n' c')).run Try.prog w = .ok (.bool a.isNone) w := fun w a n c n' c' => Lib.run_eql_slice_nil w _ _ a n c n' c' Try.underlying99
 cases ao with
 | none =>
  obtain rfl := hnone rfl
  have hx : xs = [] := List.eq_nil_of_length_eq_zero (by omega)
  subst hx
  clear hl hnone hc hg hone
  go_enter Try.func128,Try.ntmps128
  go_wp2
  go_ret
  exact ⟨_,rfl,World.ownsRow_nil _ _ _ _,Below.refl _ _⟩
 | some ad =>
  have HN : Hid (xs.length = n * 1) := hl
  have HONE := Lib.hid hone
  have HC : Hid (∀ ad',some ad = some ad' → ∀ j u,xs[j]? = some u → (w.alloc (.cells #[] 125)).cell? (ad'.add j) = some u) := by
   intro ad' e j u hu
   obtain rfl := Option.some.inj e
   rw [World.cell?_alloc_lt _ _ _ (by have := hg ad rfl; unfold Addr.add; split <;> exact this)]
   exact hc ad rfl j u hu
  have HE : Hid ((w.alloc (.cells #[] 125)).ownsRow w.heap.size 125 1 (.slice (some ⟨w.heap.size,0,none⟩) 0 0) 0 []) := ownsRow_empty _ _ _ _ (Nat.le_refl _)
  obtain ⟨i0,hi0,hi1,hi2,hi3⟩ := info_parts info_u64
  clear hl hnone hc hg hone
  go_enter Try.func128,Try.ntmps128
  go_wp2_with (at_builtin; refine wpList_append_row rfl _ _ 99 rfl w.heap.size 125 i0 _ 1 8 Try.underlying99 hi0 hi1 hi2 hi3 rfl (by decide) _ 0 [] rfl HE.out (some ad) n cap xs rfl HN.out (fun h => by cases h) HC.out HONE.out (by unfold maxLen; omega) (by omega) (by rw [World.size_alloc]; omega) ?_; intro v7 w7 hown7 hgrow7 hat7; have HQ7 := Lib.hid hown7; have HG7 := Lib.hid hgrow7; clear hown7 hgrow7 hat7)
  go_ret
  refine ⟨_,rfl,?_,?_⟩
  ·have := HQ7.out
   simpa using this
  ·exact ((Below.refl _ _).alloc (Nat.le_refl _) _).grown HG7.out (by rw [World.size_alloc]; omega) (fun k hk => by have h9 : some w.heap.size = some k := hk; have := Option.some.inj h9; omega)
def eqW (q : Nat) (f g : Nat → Nat) : Bool := (List.range q).all fun i => f i == g i
theorem eqW_true {q : Nat} {f g : Nat → Nat} (h : ∀ i,i < q → f i = g i) : eqW q f g = true := by
 unfold eqW; rw [List.all_eq_true]; intro i hi; rw [h i (List.mem_range.1 hi)]; exact beq_self_eq_true _
theorem eqW_false {q i : Nat} {f g : Nat → Nat} (hi : i < q) (h : f i ≠ g i) : eqW q f g = false := by
 unfold eqW; rw [List.all_eq_false]; exact ⟨i,List.mem_range.2 hi,by rw [beq_iff_eq]; exact h⟩
set_option maxRecDepth 100000 in
set_option maxHeartbeats 2000000 in
theorem equalW_calls (w : World) (a b q ca cb : Nat) (f g : Nat → Nat) (ha : RowW w a q f) (hb : RowW w b q g) (hq : q ≤ 90000) :
  Calls Try.prog 129 #[.slice (some ⟨a,0,none⟩) q ca,.slice (some ⟨b,0,none⟩) q cb] w fun e w' => e = .returned (.bool (eqW q f g)) ∧ Below w.heap.size w w' := by
 have HA := Lib.hid ha
 have HB := Lib.hid hb
 clear ha hb
 obtain ⟨R,hR⟩ : ∃ R,eqW q f g = R := ⟨_,rfl⟩
 have HT : Hid ((∀ i,i < q → f i = g i) → R = true) := fun h => hR.symm.trans (eqW_true h)
 have HF : Hid (∀ i,i < q → f i ≠ g i → R = false) := fun i hi h => hR.symm.trans (eqW_false hi h)
 rw [hR]
 clear hR
 go_enter Try.func129,Try.ntmps129
 go_wp2
 go_loopw [13] (fun c wr => ∃ j : Nat,j ≤ q ∧ c = .int .i64 (j : Int) ∧ Below w.heap.size w wr ∧ ∀ i,i < j → f i = g i) (fun c _ => q - (intOf c).toNat)
 case atStart => exact ⟨0,Nat.zero_le _,rfl,Below.refl _ _,fun i hi => absurd hi (Nat.not_lt_zero _)⟩
 case round =>
  obtain ⟨j,hj,rfl,hb,hall⟩ := hrel
  have HALL : Hid (∀ i,i < j → f i = g i) := Lib.hid hall
  have HBW := Lib.hid hb
  have HA2 := Lib.hid (HA.out.below hb HA.out.lt)
  have HB2 := Lib.hid (HB.out.below hb HB.out.lt)
  clear hall hb
  by_cases hlt : j < q
  ·have hI : (j : Int) < (q : Int) := by omega
   have k1 : wr.cell? ⟨a,j,none⟩ = some (.int .u64 (f j : Int)) := HA2.out.cell hlt
   have k2 : wr.cell? ⟨b,j,none⟩ = some (.int .u64 (g j : Int)) := HB2.out.cell hlt
   by_cases e : f j = g j
   ·have en : ((f j : Int) != (g j : Int)) = false := by rw [e]; simp
    have en2 : (f j != g j) = false := by rw [e]; simp
    have HST : Hid (∀ i,i < j + 1 → f i = g i) := by
     intro i hi
     rcases Nat.lt_or_ge i j with h | h
     ·exact HALL.out i h
     ·have e2 : i = j := by omega
      rw [e2]; exact e
    go_wp2
    go_quiet (fail)
    go_wp2
    go_roundw
    case rel => exact ⟨j + 1,by omega,by go_num,below_drewN HBW.out _,HST.out⟩
    case measure => simp [intOf]; omega
   ·have en : ((f j : Int) != (g j : Int)) = true := by rw [bne_iff_ne]; omega
    have en2 : (f j != g j) = true := by rw [bne_iff_ne]; exact e
    go_wp2
    go_quiet (fail)
    go_wp2
    go_ret
    rw [HF.out j hlt e]; exact ⟨rfl,below_drewN HBW.out _⟩
  ·go_wp2
   go_ret
   rw [HT.out fun i hi => HALL.out i (by omega)]; exact ⟨rfl,HBW.out⟩
set_option maxRecDepth 100000 in
theorem equalW_nil (w : World) (ao bo : Option Addr) (ca cb : Nat) :
  Calls Try.prog 129 #[.slice ao 0 ca,.slice bo 0 cb] w fun e w' => e = .returned (.bool true) ∧ Below w.heap.size w w' := by
 have h00 : decide (((0 : Nat) : Int) < ((0 : Nat) : Int)) = false := by decide
 go_enter Try.func129,Try.ntmps129
 go_wp2
 go_loopw [13] (fun c wr => c = .int .i64 0 ∧ Below w.heap.size w wr) (fun c _ => (intOf c).toNat)
 case atStart => exact ⟨rfl,Below.refl _ _⟩
 case round =>
  obtain ⟨rfl,hb⟩ := hrel
  have HBW := Lib.hid hb
  clear hb
  go_wp2
  go_ret
  exact ⟨rfl,HBW.out⟩
def bitsOk (w : World) (b P : Nat) (x : Nat → Bool) : Prop := ∃ f : Nat → Nat,RowW w b ((P + 63) / 64) f ∧ (∀ i,f i < 18446744073709551616) ∧ ∀ n,n < 64 * ((P + 63) / 64) → bitOf f n = (decide (n < P) && x n)
theorem bitsOk_congr {w : World} {b P : Nat} {x y : Nat → Bool} (h : bitsOk w b P x) (e : ∀ n,n < P → x n = y n) : bitsOk w b P y := by
 obtain ⟨f,h1,h2,h3⟩ := h
 refine ⟨f,h1,h2,fun n hn => ?_⟩
 rw [h3 n hn]
 by_cases hp : n < P
 ·rw [e n hp]
 ·rw [decide_eq_false hp]; rfl
def bitsLeaf : Leaf where
 enc b P := .slice (some ⟨b,0,none⟩) ((P + 63) / 64) ((P + 63) / 64)
 ok := bitsOk
 keep := fun ⟨f,h1,h2⟩ e => ⟨f,h1.keep e,h2⟩
 lt := fun ⟨_,h1,_⟩ => h1.lt
 congr := bitsOk_congr
 one := fun _ _ => rfl
def newB (P : Nat) (x z : Nat → Bool) : Bool := (List.range P).any fun n => z n && !x n
theorem or_lt64 {a b : Nat} (ha : a < 18446744073709551616) (hb : b < 18446744073709551616) : a ||| b < 18446744073709551616 :=
 Nat.or_lt_two_pow (n := 64) ha hb
theorem tb64 {a k : Nat} (ha : a < 18446744073709551616) (hk : 64 ≤ k) : a.testBit k = false :=
 Nat.testBit_lt_two_pow (Nat.lt_of_lt_of_le ha (Nat.pow_le_pow_right (n := 2) (by decide) hk))
theorem eqW_new {P : Nat} {f g : Nat → Nat} {x z : Nat → Bool} (hf : ∀ i,f i < 18446744073709551616) (hg : ∀ i,g i < 18446744073709551616) (hx : ∀ n,n < 64 * ((P + 63) / 64) → bitOf f n = (decide (n < P) && x n)) (hz : ∀ n,n < 64 * ((P + 63) / 64) → bitOf g n = (decide (n < P) && z n)) :
  (!eqW ((P + 63) / 64) f (fun i => f i ||| g i)) = newB P x z := by
 rw [Bool.eq_iff_iff,Bool.not_eq_true']
 unfold newB
 rw [List.any_eq_true]
 constructor
 ·intro h
  unfold eqW at h
  rw [List.all_eq_false] at h
  obtain ⟨i,hi,hne⟩ := h
  rw [List.mem_range] at hi
  rw [beq_iff_eq] at hne
  refine Classical.byContradiction fun hno => hne (Nat.eq_of_testBit_eq fun k => ?_)
  rcases Nat.lt_or_ge k 64 with hk | hk
  ·have hn : i * 64 + k < 64 * ((P + 63) / 64) := by omega
   have e1 : (i * 64 + k) / 64 = i := by omega
   have e2 : (i * 64 + k) % 64 = k := by omega
   have a1 := hx _ hn
   have a2 := hz _ hn
   unfold bitOf at a1 a2
   rw [e1,e2] at a1 a2
   rw [Nat.testBit_or,a1,a2]
   by_cases hp : i * 64 + k < P
   ·rw [decide_eq_true hp]
    cases hzz : z (i * 64 + k) with
    | false => simp
    | true =>
     cases hxx : x (i * 64 + k) with
     | true => rfl
     | false => exact absurd ⟨_,List.mem_range.2 hp,by rw [hzz,hxx]; rfl⟩ hno
   ·rw [decide_eq_false hp]; rfl
  ·rw [tb64 (hf i) hk,tb64 (or_lt64 (hf i) (hg i)) hk]
 ·rintro ⟨n,hn,hnz⟩
  rw [List.mem_range] at hn
  simp only [Bool.and_eq_true,Bool.not_eq_true'] at hnz
  have hn2 : n < 64 * ((P + 63) / 64) := by omega
  refine eqW_false (i := n / 64) (by omega) fun e => ?_
  have a1 := hx _ hn2
  have a2 := hz _ hn2
  unfold bitOf at a1 a2
  rw [decide_eq_true hn] at a1 a2
  have e2 := congrArg (fun y => y.testBit (n % 64)) e
  simp only [Nat.testBit_or] at e2
  rw [a1,a2,hnz.1,hnz.2] at e2
  exact absurd e2 (by decide)
def Joined (K : Leaf) (w : World) (b P : Nat) (x z : Nat → Bool) (e : Ending) (w' : World) : Prop :=
 e = .returned (.bool (newB P x z)) ∧ K.ok w' b P (fun n => x n || z n) ∧ Ext (· = b) w w'
theorem or64 (a b : Nat) (ha : a < 18446744073709551616) (hb : b < 18446744073709551616) : bits .or .u64 (a : Int) (b : Int) = ((a ||| b : Nat) : Int) := u64_or_nat _ _ ha hb
set_option maxRecDepth 100000 in
set_option maxHeartbeats 4000000 in
theorem join_calls (w : World) (b c P : Nat) (x z : Nat → Bool) (hx : bitsOk w b P x) (hz : bitsOk w c P z) (hP : P ≤ 90000) :
  Calls Try.prog 111 #[bitsLeaf.enc b P,bitsLeaf.enc c P] w (Joined bitsLeaf w b P x z) := by
 obtain ⟨f,rf,bf,tf⟩ := hx
 obtain ⟨g,rg,bg,tg⟩ := hz
 have HNEW : Hid ((!eqW ((P + 63) / 64) f (fun i => f i ||| g i)) = newB P x z) := eqW_new bf bg tf tg
 have HOK : Hid (∀ w',RowW w' b ((P + 63) / 64) (fun i => f i ||| g i) → bitsOk w' b P (fun n => x n || z n)) := fun w' h => ⟨_,h,fun i => or_lt64 (bf i) (bg i),fun n hn => by
  have a1 := tf n hn
  have a2 := tg n hn
  unfold bitOf at a1 a2 ⊢
  rw [Nat.testBit_or,a1,a2]
  cases decide (n < P) <;> rfl⟩
 show Calls _ _ #[.slice (some ⟨b,0,none⟩) ((P + 63) / 64) ((P + 63) / 64),.slice (some ⟨c,0,none⟩) ((P + 63) / 64) ((P + 63) / 64)] w _
 obtain ⟨R,hR⟩ : ∃ R,newB P x z = R := ⟨_,rfl⟩
 have HPOST : Hid (∀ w',bitsOk w' b P (fun n => x n || z n) → Ext (· = b) w w' → Joined bitsLeaf w b P x z (.returned (.bool R)) w') := fun w' h1 h2 => ⟨by rw [hR],h1,h2⟩
 rw [hR] at HNEW
 obtain ⟨q,hq⟩ : ∃ q,(P + 63) / 64 = q := ⟨_,rfl⟩
 rw [hq] at rf rg HNEW HOK ⊢
 have hqb : q ≤ 90000 := by omega
 have HFB := Lib.hid bf
 have HGB := Lib.hid bg
 have hbl := rf.lt
 have hcl := rg.lt
 have HSAME : Hid (c = b → ∀ i,i < q → f i = g i) := by
  rintro rfl i hi
  have h1 := (rf.cell hi).symm.trans (rg.cell hi)
  have h2 : (f i : Int) = (g i : Int) := by simpa using h1
  omega
 have HRF := Lib.hid rf
 have HRG := Lib.hid rg
 clear rf rg bf bg tf tg hR hq hP
 have HCL := Lib.hid (cloneW_calls w (some ⟨b,0,none⟩) q q ((List.range q).map fun i => Value.int .u64 (f i : Int)) (by simp) (fun e => by cases e) (by
  rintro ad rfl' j u hu
  obtain rfl := Option.some.inj rfl'
  have hjq : j < q := by have := (List.getElem?_eq_some_iff.1 hu).1; simpa using this
  rw [Addr.add_lit,Nat.zero_add,HRF.out.cell hjq]
  rw [← hu]; simp [hjq]) (fun ad e => by obtain rfl := Option.some.inj e; exact hbl) (by
  intro u hu
  obtain ⟨i,_,rfl⟩ := List.mem_map.1 hu
  rfl) hqb)
 go_enter Try.func111,Try.ntmps111
 go_wp2_with fail
 go_at_call 128
 refine HCL.out.mono ?_
 rintro e w2 ⟨v2,rfl,hown,hb2⟩
 obtain ⟨ao,cap,rfl⟩ := ownsRow_slice hown
 rcases hown.2 with ⟨h0,h00⟩ | ⟨g0,cap',cur,h1,hlow,_⟩
 ·simp only [Value.slice.injEq] at h0
  obtain ⟨rfl,_,rfl⟩ := h0
  subst h00
  have HB2 := Lib.hid hb2
  have HRF2 := Lib.hid (HRF.out.below hb2 hbl)
  have HR1 : Hid (R = false) := HNEW.out.symm.trans (by rw [eqW_true fun i hi => absurd hi (Nat.not_lt_zero i)]; rfl)
  have HFIN : Hid (∀ w5,Below w2.heap.size w2 w5 → Joined bitsLeaf w b P x z (.returned (.bool R)) w5) := fun w5 h5 => HPOST.out w5 (HOK.out w5 ((HRF2.out.below h5 (Nat.lt_of_lt_of_le hbl HB2.out.size)).congr fun i hi => absurd hi (Nat.not_lt_zero i))) ((Ext.of_below_size (M := (· = b)) HB2.out).trans (Ext.of_below_size (M := (· = b)) h5) (fun k hk => .inl hk))
  rw [HR1.out] at HFIN
  clear hown hb2
  go_wp2_with fail
  go_loopw [11] (fun c wr => c = .int .i64 0 ∧ Below w2.heap.size w2 wr) (fun c _ => (intOf c).toNat)
  case atStart => exact ⟨rfl,Below.refl _ _⟩
  case round =>
   obtain ⟨rfl,hb⟩ := hrel
   have HBW := Lib.hid hb
   clear hb
   go_wp2_with (go_at_call 129; refine (equalW_nil _ _ _ _ _).mono ?_; rintro e w5 ⟨rfl,hb5⟩; have HB5 := Lib.hid hb5; clear hb5)
   go_ret
   exact HFIN.out _ (HBW.out.trans (HB5.out.mono HBW.out.size))
 ·simp only [Value.slice.injEq] at h1
  obtain ⟨rfl,_,rfl⟩ := h1
  have HO := Lib.hid (RowW.of_owns hown)
  have HB2 := Lib.hid hb2
  have HLOW := Lib.hid hlow
  clear hown hb2 hlow
  go_wp2
  go_loopw [11] (fun cc wr => ∃ j : Nat,j ≤ q ∧ cc = .int .i64 (j : Int) ∧ RowW wr b q (fun i => if i < j then f i ||| g i else f i) ∧ Ext (· = b) w2 wr) (fun cc _ => q - (intOf cc).toNat)
  case atStart => exact ⟨0,Nat.zero_le _,rfl,(HRF.out.below HB2.out hbl).congr (fun i _ => by rw [if_neg (Nat.not_lt_zero _)]),Ext.refl _ _⟩
  case round =>
   obtain ⟨j,hj,rfl,hrow,hx⟩ := hrel
   have HX := Lib.hid hx
   have HROW := Lib.hid hrow
   clear hx hrow
   by_cases hlt : j < q
   ·have hI : (j : Int) < (q : Int) := by omega
    have k1 : wr.cell? ⟨b,j,none⟩ = some (.int .u64 (f j : Int)) := by rw [HROW.out.cell hlt,if_neg (Nat.lt_irrefl _)]
    have k2 : wr.cell? ⟨c,j,none⟩ = some (.int .u64 (g j : Int)) := by
     by_cases e : c = b
     ·rw [e,k1,HSAME.out e j hlt]
     ·have h1 := (HRG.out.below HB2.out hcl).ext HX.out (by exact e)
      exact h1.cell hlt
    have kf : wr.frozen? ⟨b,j,none⟩ = false := HROW.out.frozen
    have hor := or64 (f j) (g j) (HFB.out j) (HGB.out j)
    have hl1 := HFB.out j
    have hl2 := HGB.out j
    have HN : Hid (RowW (wr.setCell ⟨b,j,none⟩ (.int .u64 ((f j ||| g j : Nat) : Int))) b q (fun i => if i < j + 1 then f i ||| g i else f i) ∧ Ext (· = b) w2 (wr.setCell ⟨b,j,none⟩ (.int .u64 ((f j ||| g j : Nat) : Int)))) := by
     refine ⟨HROW.out.set.congr fun i _ => ?_,HX.out.trans (Ext.set1 _ _ _ _) (fun k hk => .inl hk)⟩
     by_cases e : i = j
     ·subst e; rw [if_pos rfl,if_pos (by omega)]
     ·rw [if_neg e]
      by_cases h : i < j
      ·rw [if_pos h,if_pos (by omega)]
      ·rw [if_neg h,if_neg (by omega)]
    go_wp2
    go_region
    all_goals
     go_wp2
     go_roundw
     case rel => exact ⟨j + 1,by omega,by go_num,HN.out.1.keep rfl,HN.out.2.drew⟩
     case measure => simp [intOf]; omega
   ·obtain rfl : j = q := by omega
    have h1 : RowW wr b j (fun i => f i ||| g i) := HROW.out.congr fun i hi => by rw [if_pos hi]
    have hxx : Ext (· = b) w wr := (Ext.of_below_size (M := (· = b)) HB2.out).trans HX.out (fun k hk => .inl hk)
    have HFIN : Hid (∀ w5,Below wr.heap.size wr w5 → Joined bitsLeaf w b P x z (.returned (.bool R)) w5) := fun w5 h5 => HPOST.out _ (HOK.out _ (h1.below h5 h1.lt)) (hxx.trans (Ext.of_below_size (M := (· = b)) h5) (fun k hk => .inl hk))
    have HEQ := Lib.hid (equalW_calls wr g0 b j cap j f (fun i => f i ||| g i) (HO.out.ext HX.out (by intro e; have := HLOW.out; omega)) h1 hqb)
    have HNEW2 : Hid ((!eqW j f (fun i => f i ||| g i)) = R) := HNEW.out
    clear h1 hxx
    go_wp2_with (go_at_call 129; refine HEQ.out.mono ?_; rintro e w5 ⟨rfl,hb5⟩; have HB5 := Lib.hid hb5; clear hb5)
    go_ret
    rw [HNEW2.out]
    exact HFIN.out _ HB5.out
end Go.Proofs.Ytlggjbopfnndbaa
namespace Go.Proofs.Ytlggjbopfnndbaa
open Go.RowKit
theorem firstR_zero {α : Type} {f : α → Int} : ∀ {l : List α},firstF f l = 0 → ∀ x ∈ l,f x = 0
 | [],_,x,hx => absurd hx (by simp)
 | y :: r,h,x,hx => by
  unfold firstF at h
  by_cases hy : f y = 0
  ·rw [if_pos hy] at h
   rcases List.mem_cons.1 hx with e | e
   ·rw [e]; exact hy
   ·exact firstR_zero h x e
  ·rw [if_neg hy] at h; exact absurd h hy
theorem unlR_zero {b : Bool} {f : Int} (hf : f ≠ 0) (h : unl b f = 0) : b = true := by
 unfold unl at h
 cases b with
 | true => rfl
 | false => rw [if_neg (by simp)] at h; exact absurd h hf
theorem isVarR_iff {n : Nat} {v : Int} : isVar n v = true ↔ 0 ≤ v ∧ v < (n : Int) := by
 unfold isVar; simp
structure OkR (m : Mo) : Prop where
 nf : m.fs.length ≤ 60
 fn : ∀ g ∈ m.fs,0 ≤ g.c.par ∧ g.c.par ≤ (g.vs.length : Int) ∧ g.vs.length ≤ 300 ∧ g.c.ins.length ≤ 3000
 mv : ∀ g ∈ m.fs,∀ i ∈ g.c.ins,i.op = 9 ∨ i.op = 10 → isVar g.vs.length i.d = true ∧ isVar g.vs.length i.a = true
 call : ∀ g ∈ m.fs,∀ i ∈ g.c.ins,i.op = 15 → isVar g.vs.length i.d = true ∧ (∀ a ∈ i.args,isVar g.vs.length a = true) ∧ 0 ≤ i.f ∧ ∃ h,m.fs[i.f.toNat]? = some h ∧ (i.args.length : Int) = h.c.par
 ret : ∀ g ∈ m.fs,∀ i ∈ g.c.ins,i.op = 18 → isVar g.vs.length i.a = true
theorem right_parts {m : Mo} (h : rightF m = 0) : m.fs.length ≤ 60 ∧ m.ss.length ≤ 30 ∧ twiceF m = false ∧ (typesF m).all m.known = true ∧ (∀ g ∈ m.fs,codeF m g = 0) ∧ 0 ≤ m.fnIx mainB := by
 unfold rightF at h
 by_cases h1 : 30 < m.ss.length ∨ 60 < m.fs.length
 ·rw [if_pos h1] at h; exact absurd h (by decide)
 ·rw [if_neg h1] at h
  by_cases h2 : twiceF m = true
  ·rw [if_pos h2] at h; exact absurd h (by decide)
  ·rw [if_neg h2] at h
   by_cases h3 : (typesF m).all m.known = false
   ·rw [if_pos h3] at h; exact absurd h (by decide)
   ·rw [if_neg h3] at h
    by_cases h4 : firstF (codeF m) m.fs ≠ 0
    ·rw [if_pos h4] at h; exact absurd h h4
    ·rw [if_neg h4] at h
     have h5 := unlR_zero (by decide) h
     rw [Bool.and_eq_true,decide_eq_true_eq] at h5
     exact ⟨by omega,by omega,by simpa using h2,by simpa using h3,firstR_zero (Classical.byContradiction h4),h5.1⟩
theorem code_parts {m : Mo} {g : Fn} (h : codeF m g = 0) : g.vs.length ≤ 300 ∧ 1 ≤ g.c.ins.length ∧ g.c.ins.length ≤ 3000 ∧ 0 ≤ g.c.par ∧ g.c.par ≤ (g.vs.length : Int) ∧ (∀ i ∈ g.c.ins,instrF m g i = 0) := by
 unfold codeF at h
 by_cases h1 : 300 < g.vs.length ∨ g.c.ins.length < 1 ∨ 3000 < g.c.ins.length
 ·rw [if_pos h1] at h; exact absurd h (by decide)
 ·rw [if_neg h1] at h
  by_cases h2 : g.c.par < 0 ∨ (g.vs.length : Int) < g.c.par
  ·rw [if_pos h2] at h; exact absurd h (by decide)
  ·rw [if_neg h2] at h
   by_cases h3 : firstF (instrF m g) g.c.ins ≠ 0
   ·rw [if_pos h3] at h; exact absurd h h3
   ·exact ⟨by omega,by omega,by omega,by omega,by omega,firstR_zero (Classical.byContradiction h3)⟩
theorem instr_parts {m : Mo} {g : Fn} {i : Ins} (h : instrF m g i = 0) : 1 ≤ i.op ∧ i.op ≤ 18 ∧ (∀ v ∈ readsOf i,isVar g.vs.length v = true) ∧ (shD i.op = true → isVar g.vs.length i.d = true) ∧ (i.op = 15 → callF m g.vs i = 0) := by
 unfold instrF at h
 by_cases h1 : i.op < 1 ∨ 18 < i.op
 ·rw [if_pos h1] at h; exact absurd h (by decide)
 ·rw [if_neg h1] at h
  by_cases h2 : thereF g.vs.length (readsOf i ++ (if shD i.op then [i.d] else [])) = false
  ·rw [if_pos h2] at h; exact absurd h (by decide)
  ·rw [if_neg h2] at h
   have h3 : thereF g.vs.length (readsOf i ++ (if shD i.op then [i.d] else [])) = true := by simpa using h2
   unfold thereF at h3
   rw [List.all_append,Bool.and_eq_true,List.all_eq_true] at h3
   refine ⟨by omega,by omega,h3.1,fun hd => ?_,fun hop => ?_⟩
   ·have h4 := h3.2
    rw [hd] at h4
    simpa using h4
   ·rw [if_pos hop] at h; exact h
theorem call_parts {m : Mo} {vs : List Vr} {i : Ins} (h : callF m vs i = 0) : 0 ≤ i.f ∧ ∃ g,m.fs[i.f.toNat]? = some g ∧ (i.args.length : Int) = g.c.par ∧ g.c.par ≤ (g.vs.length : Int) ∧ argsF vs g.vs 0 i.args = true ∧ tyAt vs i.d = g.ret := by
 unfold callF at h
 by_cases h1 : i.f < 0
 ·rw [if_pos h1] at h; exact absurd h (by decide)
 ·rw [if_neg h1] at h
  cases hg : m.fs[i.f.toNat]? with
  | none => rw [hg] at h; exact absurd h (by simp)
  | some g =>
   rw [hg] at h
   simp only at h
   by_cases h2 : (i.args.length : Int) ≠ g.c.par ∨ (g.vs.length : Int) < g.c.par
   ·rw [if_pos h2] at h; exact absurd h (by decide)
   ·rw [if_neg h2] at h
    by_cases h3 : argsF vs g.vs 0 i.args = false
    ·rw [if_pos h3] at h; exact absurd h (by decide)
    ·rw [if_neg h3] at h
     have h4 := unlR_zero (by decide) h
     exact ⟨by omega,g,rfl,by omega,by omega,by simpa using h3,by simpa using h4⟩
theorem OkR.of {m : Mo} (h : rightF m = 0) : OkR m := by
 obtain ⟨h1,_,_,_,h5,_⟩ := right_parts h
 refine ⟨h1,fun g hg => ?_,fun g hg i hi ho => ?_,fun g hg i hi ho => ?_,fun g hg i hi ho => ?_⟩
 ·obtain ⟨a,b,c,d,e,_⟩ := code_parts (h5 g hg)
  exact ⟨d,e,a,c⟩
 ·obtain ⟨_,_,h3,h4,_⟩ := instr_parts ((code_parts (h5 g hg)).2.2.2.2.2 i hi)
  refine ⟨h4 (by rcases ho with e | e <;> rw [e] <;> rfl),h3 i.a ?_⟩
  unfold readsOf
  rcases ho with e | e <;> rw [e] <;> simp [shA]
 ·obtain ⟨_,_,h3,h4,h6⟩ := instr_parts ((code_parts (h5 g hg)).2.2.2.2.2 i hi)
  obtain ⟨c1,q,c2,c3,_⟩ := call_parts (h6 ho)
  refine ⟨h4 (by rw [ho]; rfl),fun a ha => h3 a ?_,c1,q,c2,c3⟩
  unfold readsOf
  rw [if_pos ho]
  simp [ha]
 ·obtain ⟨_,_,h3,_⟩ := instr_parts ((code_parts (h5 g hg)).2.2.2.2.2 i hi)
  refine h3 i.a ?_
  unfold readsOf
  rw [ho]; simp [shA]
end Go.Proofs.Ytlggjbopfnndbaa
namespace Go.Proofs.Ytlggjbopfnndbaa
open Go.RowKit
set_option maxRecDepth 100000 in
theorem lent19_calls (v : Vr) (w : World) : Calls Try.prog 29 #[.agg v.cells] w fun e w' => e = .returned (.bool v.lent) ∧ Below w.heap.size w w' := by
 obtain ⟨ptr,tgt,cls⟩ := v
 obtain ⟨b,hb⟩ : ∃ b,Vr.lent ⟨ptr,tgt,cls⟩ = b := ⟨_,rfl⟩
 have HBB : Hid (b = (ptr && (cls == 2 || cls == 3))) := by rw [← hb]; rfl
 rw [hb]
 clear hb
 simp only [Vr.cells]
 obtain ⟨N,hN⟩ : ∃ N,w.heap.size = N := ⟨_,rfl⟩
 obtain ⟨W1,hW1⟩ : ∃ W1,w.alloc (.cells #[.bool ptr,.string tgt,.int .i64 cls] 47) = W1 := ⟨_,rfl⟩
 have q1 : W1.heap[N]? = some (.cells #[.bool ptr,.string tgt,.int .i64 cls] 47 (0,0)) := by rw [← hW1,← hN]; exact alloc_at _ _
 have HB1 : Hid (Below w.heap.size w W1) := by rw [← hW1]; exact (Below.refl _ _).alloc (Nat.le_refl _) _
 have c0 : W1.cell? ⟨N,0,none⟩ = some (.bool ptr) := by rw [cell_of_row _ _ _ _ _ _ q1]; rfl
 have c2 : W1.cell? ⟨N,2,none⟩ = some (.int .i64 cls) := by rw [cell_of_row _ _ _ _ _ _ q1]; rfl
 have HW1 := Lib.hid hW1
 clear q1 hW1
 go_enter Try.func29,Try.ntmps29
 go_upto_region 1 with (fail)
 rw [HW1.out]
 cases ptr with
 | false =>
  go_wp2
  go_ret
  rw [hN] at HB1
  rw [HBB.out]
  exact ⟨rfl,by first | exact HB1.out | (rw [hN]; exact HB1.out)⟩
 | true =>
  by_cases h2 : cls = 2
  ·subst h2
   go_wp2
   go_ret
   rw [HBB.out]
   exact ⟨rfl,by first | exact HB1.out | (rw [← hN]; exact HB1.out)⟩
  ·have e2 : (cls == 2) = false := by rw [beq_eq_false_iff_ne]; exact h2
   obtain ⟨c3,hc3⟩ : ∃ c3,(cls == 3) = c3 := ⟨_,rfl⟩
   have HC3 := Lib.hid hc3
   go_wp2
   go_ret
   rw [HBB.out,e2,HC3.out]
   exact ⟨by simp,by first | exact HB1.out | (rw [← hN]; exact HB1.out)⟩
set_option maxRecDepth 100000 in
theorem rlent19_calls (v : Vr) (w : World) : Calls Try.prog 40 #[.agg v.cells] w fun e w' => e = .returned (.bool v.lent) ∧ Below w.heap.size w w' := by
 obtain ⟨ptr,tgt,cls⟩ := v
 obtain ⟨b,hb⟩ : ∃ b,Vr.lent ⟨ptr,tgt,cls⟩ = b := ⟨_,rfl⟩
 have HBB : Hid (b = (ptr && (cls == 2 || cls == 3))) := by rw [← hb]; rfl
 rw [hb]
 clear hb
 simp only [Vr.cells]
 obtain ⟨N,hN⟩ : ∃ N,w.heap.size = N := ⟨_,rfl⟩
 obtain ⟨W1,hW1⟩ : ∃ W1,w.alloc (.cells #[.bool ptr,.string tgt,.int .i64 cls] 47) = W1 := ⟨_,rfl⟩
 have q1 : W1.heap[N]? = some (.cells #[.bool ptr,.string tgt,.int .i64 cls] 47 (0,0)) := by rw [← hW1,← hN]; exact alloc_at _ _
 have HB1 : Hid (Below w.heap.size w W1) := by rw [← hW1]; exact (Below.refl _ _).alloc (Nat.le_refl _) _
 have c0 : W1.cell? ⟨N,0,none⟩ = some (.bool ptr) := by rw [cell_of_row _ _ _ _ _ _ q1]; rfl
 have c2 : W1.cell? ⟨N,2,none⟩ = some (.int .i64 cls) := by rw [cell_of_row _ _ _ _ _ _ q1]; rfl
 have HW1 := Lib.hid hW1
 clear q1 hW1
 go_enter Try.func40,Try.ntmps40
 go_upto_region 1 with (fail)
 rw [HW1.out]
 cases ptr with
 | false =>
  go_wp2
  go_ret
  rw [hN] at HB1
  rw [HBB.out]
  exact ⟨rfl,by first | exact HB1.out | (rw [hN]; exact HB1.out)⟩
 | true =>
  by_cases h2 : cls = 2
  ·subst h2
   go_wp2
   go_ret
   rw [HBB.out]
   exact ⟨rfl,by first | exact HB1.out | (rw [← hN]; exact HB1.out)⟩
  ·have e2 : (cls == 2) = false := by rw [beq_eq_false_iff_ne]; exact h2
   obtain ⟨c3,hc3⟩ : ∃ c3,(cls == 3) = c3 := ⟨_,rfl⟩
   have HC3 := Lib.hid hc3
   go_wp2
   go_ret
   rw [HBB.out,e2,HC3.out]
   exact ⟨by simp,by first | exact HB1.out | (rw [← hN]; exact HB1.out)⟩
end Go.Proofs.Ytlggjbopfnndbaa
