import Derived.Test.YtlggjbopfnndbaaProg
import Derived.Test.YtlggjbopfnndbaaG06
import Derived.RegionTactic
import Derived.Test.YtlggjbopfnndbaaG04
namespace Go.Proofs.Ytlggjbopfnndbaa
/-- A number out of its digits, the least first. -/
def ofD (B : Nat) : List Nat → Nat
 | [] => 0
 | d :: r => d + B * ofD B r
/-- The last n bits. -/
def bitsR : Nat → Nat → List Nat
 | _, 0 => []
 | x, n + 1 => x % 2 :: bitsR (x / 2) n
/-- How many of the last n bits are set. -/
def popc (x n : Nat) : Nat := (bitsR x n).sum
theorem ofD_bits : ∀ (n x : Nat), ofD 2 (bitsR x n) = x % 2 ^ n
 | 0, x => by simp [ofD, bitsR, Nat.mod_one]
 | n + 1, x => by
  simp only [ofD, bitsR, ofD_bits n (x / 2)]
  rw [Nat.pow_succ, Nat.mul_comm (2 ^ n) 2, Nat.mod_mul]
theorem bitsR_length : ∀ (n x : Nat), (bitsR x n).length = n
 | 0, _ => rfl
 | n + 1, x => by simp [bitsR, bitsR_length n]
theorem bitsR_lt : ∀ (n x : Nat), ∀ d ∈ bitsR x n, d < 2
 | 0, _ => by simp [bitsR]
 | n + 1, x => by
  intro d hd
  simp only [bitsR, List.mem_cons] at hd
  rcases hd with rfl | hd
  ·omega
  ·exact bitsR_lt n _ d hd
theorem and_split (w a x b y : Nat) (ha : a < 2 ^ w) (hb : b < 2 ^ w) : (a + 2 ^ w * x) &&& (b + 2 ^ w * y) = (a &&& b) + 2 ^ w * (x &&& y) := by
 have hab : a &&& b < 2 ^ w := Nat.and_lt_two_pow _ hb
 apply Nat.eq_of_testBit_eq
 intro j
 rw [Nat.testBit_and, Nat.add_comm a, Nat.add_comm b, Nat.add_comm (a &&& b), Nat.testBit_two_pow_mul_add _ ha, Nat.testBit_two_pow_mul_add _ hb, Nat.testBit_two_pow_mul_add _ hab]
 split <;> simp [Nat.testBit_and]
def ev : List Nat → List Nat
 | a :: _ :: r => a :: ev r
 | _ => []
def od : List Nat → List Nat
 | _ :: b :: r => b :: od r
 | _ => []
def pr : List Nat → List Nat
 | a :: b :: r => (a + b) :: pr r
 | _ => []
theorem pr_sum : ∀ (n : Nat) (l : List Nat), l.length = 2 * n → (pr l).sum = l.sum
 | 0, l, h => by rw [List.eq_nil_of_length_eq_zero h]; rfl
 | n + 1, [], h => by simp at h
 | n + 1, [a], h => by simp at h; omega
 | n + 1, a :: b :: r, h => by simp [pr, pr_sum n r (by simp at h; omega)]; omega
theorem pr_length : ∀ (n : Nat) (l : List Nat), l.length = 2 * n → (pr l).length = n
 | 0, l, h => by rw [List.eq_nil_of_length_eq_zero h]; rfl
 | n + 1, [], h => by simp at h
 | n + 1, [a], h => by simp at h; omega
 | n + 1, a :: b :: r, h => by simp [pr, pr_length n r (by simp at h; omega)]
theorem pr_le {k : Nat} : ∀ (l : List Nat), (∀ d ∈ l, d ≤ k) → ∀ d ∈ pr l, d ≤ 2 * k
 | [], _ => by simp [pr]
 | [a], _ => by simp [pr]
 | a :: b :: r, h => by
  intro d hd
  simp only [pr, List.mem_cons] at hd
  rcases hd with rfl | hd
  ·have := h a (by simp); have := h b (by simp); omega
  ·exact pr_le r (fun x hx => h x (by simp [hx])) d hd
/-- Every other digit whole. -/
def mask (w : Nat) : Nat → Nat
 | 0 => 0
 | n + 1 => (2 ^ w - 1) + 2 ^ w * (0 + 2 ^ w * mask w n)
theorem and_ones {w a : Nat} (h : a < 2 ^ w) : a &&& (2 ^ w - 1) = a := by rw [Nat.and_two_pow_sub_one_eq_mod]; exact Nat.mod_eq_of_lt h
theorem mask_ev (w : Nat) : ∀ (n : Nat) (l : List Nat), l.length = 2 * n → (∀ d ∈ l, d < 2 ^ w) → ofD (2 ^ w) l &&& mask w n = ofD (2 ^ w * 2 ^ w) (ev l)
 | 0, l, h, _ => by rw [List.eq_nil_of_length_eq_zero h]; simp [ofD, ev]
 | n + 1, [], h, _ => by simp at h
 | n + 1, [a], h, _ => by simp at h; omega
 | n + 1, a :: b :: r, h, hd => by
  have ha := hd a (by simp)
  have hb := hd b (by simp)
  have hp : 0 < 2 ^ w := Nat.two_pow_pos w
  simp only [ofD, ev, mask]
  rw [and_split w _ _ _ _ ha (by omega), and_split w _ _ _ _ hb hp, and_ones ha, Nat.and_zero, Nat.zero_add, mask_ev w n r (by simp at h; omega) (fun x hx => hd x (by simp [hx])), Nat.mul_assoc]
theorem mask_od (w : Nat) : ∀ (n : Nat) (l : List Nat), l.length = 2 * n → (∀ d ∈ l, d < 2 ^ w) → (ofD (2 ^ w) l / 2 ^ w) &&& mask w n = ofD (2 ^ w * 2 ^ w) (od l)
 | 0, l, h, _ => by rw [List.eq_nil_of_length_eq_zero h]; simp [ofD, od]
 | n + 1, [], h, _ => by simp at h
 | n + 1, [a], h, _ => by simp at h; omega
 | n + 1, a :: b :: r, h, hd => by
  have ha := hd a (by simp)
  have hb := hd b (by simp)
  have hp : 0 < 2 ^ w := Nat.two_pow_pos w
  simp only [ofD, od, mask]
  rw [Nat.add_mul_div_left _ _ hp, Nat.div_eq_of_lt ha, Nat.zero_add, and_split w _ _ _ _ hb (by omega), and_ones hb]
  have hr : ofD (2 ^ w) r &&& (0 + 2 ^ w * mask w n) = 2 ^ w * ofD (2 ^ w * 2 ^ w) (od r) := by
   have e : ofD (2 ^ w) r = ofD (2 ^ w) r % 2 ^ w + 2 ^ w * (ofD (2 ^ w) r / 2 ^ w) := (Nat.mod_add_div _ _).symm
   rw [e, and_split w _ _ _ _ (Nat.mod_lt _ hp) hp, Nat.and_zero, Nat.zero_add, mask_od w n r (by simp at h; omega) (fun x hx => hd x (by simp [hx]))]
  rw [hr, Nat.mul_assoc]
theorem ev_od {B : Nat} : ∀ (n : Nat) (l : List Nat), l.length = 2 * n → ofD B (od l) + ofD B (ev l) = ofD B (pr l)
 | 0, l, h => by rw [List.eq_nil_of_length_eq_zero h]; rfl
 | n + 1, [], h => by simp at h
 | n + 1, [a], h => by simp at h; omega
 | n + 1, a :: b :: r, h => by
  have := ev_od (B := B) n r (by simp at h; omega)
  simp only [ofD, ev, od, pr, ← this, Nat.mul_add]; omega
/-- Neighbours' sums, in place. -/
def nb : List Nat → List Nat
 | [] => []
 | [a] => [a]
 | a :: b :: r => (a + b) :: nb (b :: r)
theorem nb_sum {B : Nat} (hB : 0 < B) : ∀ (l : List Nat), (∀ d ∈ l, d < B) → ofD B l / B + ofD B l = ofD B (nb l)
 | [], _ => by simp [ofD, nb]
 | [a], h => by simp [ofD, nb, Nat.div_eq_of_lt (h a (by simp))]
 | a :: b :: r, h => by
  have ih := nb_sum hB (b :: r) (fun x hx => h x (List.mem_cons_of_mem _ hx))
  have ha := h a (by simp)
  have hb := h b (by simp)
  have e1 : ofD B (a :: b :: r) / B = ofD B (b :: r) := by
   show (a + B * ofD B (b :: r)) / B = _
   rw [Nat.add_mul_div_left _ _ hB, Nat.div_eq_of_lt ha, Nat.zero_add]
  have e2 : ofD B (b :: r) / B = ofD B r := by
   show (b + B * ofD B r) / B = _
   rw [Nat.add_mul_div_left _ _ hB, Nat.div_eq_of_lt hb, Nat.zero_add]
  rw [e1]
  rw [e2] at ih
  show (b + B * ofD B r) + (a + B * ofD B (b :: r)) = (a + b) + B * ofD B (nb (b :: r))
  rw [← ih, Nat.mul_add]; omega
theorem ev_nb : ∀ (n : Nat) (l : List Nat), l.length = 2 * n → ev (nb l) = pr l
 | 0, l, h => by rw [List.eq_nil_of_length_eq_zero h]; rfl
 | n + 1, [], h => by simp at h
 | n + 1, [a], h => by simp at h; omega
 | n + 1, [a, b], _ => rfl
 | n + 1, a :: b :: c :: r, h => by
  have := ev_nb n (c :: r) (by simp at h ⊢; omega)
  simp only [nb, ev, pr]
  rw [this]
theorem nb_length : ∀ (l : List Nat), (nb l).length = l.length
 | [] => rfl
 | [_] => rfl
 | a :: b :: r => by simp [nb, nb_length (b :: r)]
theorem nb_le {k : Nat} : ∀ (l : List Nat), (∀ d ∈ l, d ≤ k) → ∀ d ∈ nb l, d ≤ 2 * k
 | [], _ => by simp [nb]
 | [a], h => by intro d hd; simp [nb] at hd; subst hd; have := h d (by simp); omega
 | a :: b :: r, h => by
  intro d hd
  simp only [nb, List.mem_cons] at hd
  rcases hd with rfl | hd
  ·have := h a (by simp); have := h b (by simp); omega
  ·exact nb_le (b :: r) (fun x hx => h x (List.mem_cons_of_mem _ hx)) d hd
def pop1 (x : Nat) : Nat := ((x / 2) &&& 6148914691236517205) + (x &&& 6148914691236517205)
def pop2 (x : Nat) : Nat := ((x / 4) &&& 3689348814741910323) + (x &&& 3689348814741910323)
def pop3 (x : Nat) : Nat := (x / 16 + x) &&& 1085102592571150095
def pop4 (x : Nat) : Nat := x + x / 256
def pop5 (x : Nat) : Nat := x + x / 65536
def pop6 (x : Nat) : Nat := x + x / 4294967296
theorem m0_ : mask 1 32 = 6148914691236517205 := by decide
theorem m1_ : mask 2 16 = 3689348814741910323 := by decide
theorem m2_ : mask 4 8 = 1085102592571150095 := by decide
theorem pop_ok (x : Nat) (hx : x < 18446744073709551616) : ∃ e0 e1 e2 e3 e4 e5 e6 e7, pop3 (pop2 (pop1 x)) = e0 + 256 * (e1 + 256 * (e2 + 256 * (e3 + 256 * (e4 + 256 * (e5 + 256 * (e6 + 256 * e7)))))) ∧ e0 + e1 + e2 + e3 + e4 + e5 + e6 + e7 = popc x 64 ∧
  e0 ≤ 8 ∧ e1 ≤ 8 ∧ e2 ≤ 8 ∧ e3 ≤ 8 ∧ e4 ≤ 8 ∧ e5 ≤ 8 ∧ e6 ≤ 8 ∧ e7 ≤ 8 := by
 have h0 : ofD (2 ^ 1) (bitsR x 64) = x := by
  rw [Nat.pow_one, ofD_bits]; exact Nat.mod_eq_of_lt (by simpa using hx)
 have l0 := bitsR_length 64 x
 have d0 : ∀ d ∈ bitsR x 64, d < 2 ^ 1 := fun d hd => by have := bitsR_lt 64 x d hd; omega
 obtain ⟨a, ha⟩ : ∃ a, a = pr (bitsR x 64) := ⟨_, rfl⟩
 have la : a.length = 2 * 16 := by rw [ha]; exact pr_length 32 _ l0
 have s1 : pop1 x = ofD (2 ^ 2) a := by
  have e := mask_ev 1 32 _ l0 d0
  have o := mask_od 1 32 _ l0 d0
  rw [h0, m0_] at e o
  unfold pop1
  rw [show x / 2 = x / 2 ^ 1 from rfl, o, e, ev_od 32 _ l0, ha]
 have da : ∀ d ∈ a, d ≤ 2 := fun d hd => by
  rw [ha] at hd
  exact pr_le (k := 1) _ (fun y hy => by have := d0 y hy; omega) d hd
 obtain ⟨b, hb⟩ : ∃ b, b = pr a := ⟨_, rfl⟩
 have lb : b.length = 2 * 8 := by rw [hb]; exact pr_length 16 _ la
 have s2 : pop2 (pop1 x) = ofD (2 ^ 4) b := by
  have e := mask_ev 2 16 _ la (fun d hd => by have := da d hd; omega)
  have o := mask_od 2 16 _ la (fun d hd => by have := da d hd; omega)
  rw [← s1, m1_] at e o
  unfold pop2
  rw [show pop1 x / 4 = pop1 x / 2 ^ 2 from rfl, o, e, ev_od 16 _ la, hb]
 have db : ∀ d ∈ b, d ≤ 4 := fun d hd => by rw [hb] at hd; exact pr_le (k := 2) _ da d hd
 have s3 : pop3 (pop2 (pop1 x)) = ofD (2 ^ 8) (pr b) := by
  unfold pop3
  have h1 := nb_sum (B := 2 ^ 4) (by decide) b (fun d hd => by have := db d hd; omega)
  rw [← s2] at h1
  rw [show pop2 (pop1 x) / 16 = pop2 (pop1 x) / 2 ^ 4 from rfl, h1]
  have e := mask_ev 4 8 (nb b) (by rw [nb_length, lb]) (fun d hd => by have := nb_le (k := 4) b db d hd; omega)
  rw [m2_] at e
  rw [e, ev_nb 8 b lb]
 have lc : (pr b).length = 8 := pr_length 8 _ lb
 have dc : ∀ d ∈ pr b, d ≤ 8 := fun d hd => pr_le (k := 4) _ db d hd
 have sc : (pr b).sum = popc x 64 := by
  rw [pr_sum 8 b lb, hb, pr_sum 16 a la, ha, pr_sum 32 _ l0]; rfl
 obtain ⟨c, hc⟩ : ∃ c, c = pr b := ⟨_, rfl⟩
 rw [← hc] at s3 lc dc sc
 match c, lc with
 | [e0, e1, e2, e3, e4, e5, e6, e7], _ =>
  refine ⟨e0, e1, e2, e3, e4, e5, e6, e7, ?_, ?_, dc _ (by simp), dc _ (by simp), dc _ (by simp), dc _ (by simp), dc _ (by simp), dc _ (by simp), dc _ (by simp), dc _ (by simp)⟩
  ·rw [s3]; simp [ofD]
  ·rw [← sc]; simp; omega
theorem div_lem {a b : Nat} (q : Nat) (h : a < b) : (a + b * q) / b = q := by
 rw [Nat.add_mul_div_left _ _ (by omega), Nat.div_eq_of_lt h, Nat.zero_add]
theorem id4 (e0 e1 e2 e3 e4 e5 e6 e7 : Nat) : (e0 + 256 * (e1 + 256 * (e2 + 256 * (e3 + 256 * (e4 + 256 * (e5 + 256 * (e6 + 256 * e7))))))) + (e1 + 256 * (e2 + 256 * (e3 + 256 * (e4 + 256 * (e5 + 256 * (e6 + 256 * e7)))))) =
  (e0 + e1) + 256 * ((e1 + e2) + 256 * ((e2 + e3) + 256 * ((e3 + e4) + 256 * ((e4 + e5) + 256 * ((e5 + e6) + 256 * ((e6 + e7) + 256 * e7)))))) := by omega
theorem pop4_eq {y e0 e1 e2 e3 e4 e5 e6 e7 : Nat} (hy : y = e0 + 256 * (e1 + 256 * (e2 + 256 * (e3 + 256 * (e4 + 256 * (e5 + 256 * (e6 + 256 * e7))))))) (h : e0 < 256) :
  pop4 y = (e0 + e1) + 256 * ((e1 + e2) + 256 * ((e2 + e3) + 256 * ((e3 + e4) + 256 * ((e4 + e5) + 256 * ((e5 + e6) + 256 * ((e6 + e7) + 256 * e7)))))) := by
 have q : y / 256 = e1 + 256 * (e2 + 256 * (e3 + 256 * (e4 + 256 * (e5 + 256 * (e6 + 256 * e7))))) := by rw [hy, div_lem (a := e0) (b := 256) _ h]
 unfold pop4
 rw [q, hy]
 exact id4 _ _ _ _ _ _ _ _
theorem sp5 (f0 f1 t : Nat) : f0 + 256 * (f1 + 256 * t) = (f0 + 256 * f1) + 65536 * t := by omega
theorem id5 (f0 f1 f2 f3 f4 f5 f6 f7 : Nat) : (f0 + 256 * (f1 + 256 * (f2 + 256 * (f3 + 256 * (f4 + 256 * (f5 + 256 * (f6 + 256 * f7))))))) + (f2 + 256 * (f3 + 256 * (f4 + 256 * (f5 + 256 * (f6 + 256 * f7))))) =
  (f0 + f2) + 256 * ((f1 + f3) + 256 * ((f2 + f4) + 256 * ((f3 + f5) + 256 * ((f4 + f6) + 256 * ((f5 + f7) + 256 * (f6 + 256 * f7)))))) := by omega
theorem pop5_eq {y f0 f1 f2 f3 f4 f5 f6 f7 : Nat} (hy : y = f0 + 256 * (f1 + 256 * (f2 + 256 * (f3 + 256 * (f4 + 256 * (f5 + 256 * (f6 + 256 * f7))))))) (h0 : f0 < 256) (h1 : f1 < 256) :
  pop5 y = (f0 + f2) + 256 * ((f1 + f3) + 256 * ((f2 + f4) + 256 * ((f3 + f5) + 256 * ((f4 + f6) + 256 * ((f5 + f7) + 256 * (f6 + 256 * f7)))))) := by
 have q : y / 65536 = f2 + 256 * (f3 + 256 * (f4 + 256 * (f5 + 256 * (f6 + 256 * f7)))) := by
  have hlt : f0 + 256 * f1 < 65536 := by clear hy; omega
  rw [hy, sp5, div_lem (a := f0 + 256 * f1) (b := 65536) _ hlt]
 unfold pop5
 rw [q, hy]
 exact id5 _ _ _ _ _ _ _ _
theorem sp6 (f0 f1 f2 f3 t : Nat) : f0 + 256 * (f1 + 256 * (f2 + 256 * (f3 + 256 * t))) = (f0 + 256 * (f1 + 256 * (f2 + 256 * f3))) + 4294967296 * t := by omega
theorem sp6' (f0 g0 t s : Nat) : (f0 + 256 * t) + (g0 + 256 * s) = (f0 + g0) + 128 * (2 * (t + s)) := by omega
theorem pop6_eq {y f0 f1 f2 f3 f4 f5 f6 f7 : Nat} (hy : y = f0 + 256 * (f1 + 256 * (f2 + 256 * (f3 + 256 * (f4 + 256 * (f5 + 256 * (f6 + 256 * f7))))))) (h0 : f0 < 256) (h1 : f1 < 256) (h2 : f2 < 256) (h3 : f3 < 256) (h4 : f0 + f4 < 128) :
  pop6 y % 128 = f0 + f4 ∧ pop6 y = y + (f4 + 256 * (f5 + 256 * (f6 + 256 * f7))) := by
 have q : y / 4294967296 = f4 + 256 * (f5 + 256 * (f6 + 256 * f7)) := by
  have hlt : f0 + 256 * (f1 + 256 * (f2 + 256 * f3)) < 4294967296 := by clear hy; omega
  rw [hy, sp6, div_lem (a := f0 + 256 * (f1 + 256 * (f2 + 256 * f3))) (b := 4294967296) _ hlt]
 unfold pop6
 rw [q]
 refine ⟨?_, rfl⟩
 rw [hy, sp6', Nat.add_mul_mod_self_left, Nat.mod_eq_of_lt h4]
theorem below64 {f0 f1 f2 f3 f4 f5 f6 f7 : Nat} (h0 : f0 ≤ 64) (h1 : f1 ≤ 64) (h2 : f2 ≤ 64) (h3 : f3 ≤ 64) (h4 : f4 ≤ 64) (h5 : f5 ≤ 64) (h6 : f6 ≤ 64) (h7 : f7 ≤ 64) :
  f0 + 256 * (f1 + 256 * (f2 + 256 * (f3 + 256 * (f4 + 256 * (f5 + 256 * (f6 + 256 * f7)))))) ≤ 4629771061636907072 := by omega
theorem pop_all (x : Nat) (hx : x < 18446744073709551616) : pop6 (pop5 (pop4 (pop3 (pop2 (pop1 x))))) % 128 = popc x 64 ∧ pop4 (pop3 (pop2 (pop1 x))) < 18446744073709551616 ∧ pop5 (pop4 (pop3 (pop2 (pop1 x)))) < 18446744073709551616 ∧ pop6 (pop5 (pop4 (pop3 (pop2 (pop1 x))))) < 9223372036854775808 := by
 obtain ⟨e0, e1, e2, e3, e4, e5, e6, e7, h, hs, b0, b1, b2, b3, b4, b5, b6, b7⟩ := pop_ok x hx
 have l4 := below64 (f0 := e0 + e1) (f1 := e1 + e2) (f2 := e2 + e3) (f3 := e3 + e4) (f4 := e4 + e5) (f5 := e5 + e6) (f6 := e6 + e7) (f7 := e7) (by clear h hs; omega) (by clear h hs; omega) (by clear h hs; omega) (by clear h hs; omega) (by clear h hs; omega) (by clear h hs; omega) (by clear h hs; omega) (by clear h hs; omega)
 have l5 := below64 (f0 := e0 + e1 + (e2 + e3)) (f1 := e1 + e2 + (e3 + e4)) (f2 := e2 + e3 + (e4 + e5)) (f3 := e3 + e4 + (e5 + e6)) (f4 := e4 + e5 + (e6 + e7)) (f5 := e5 + e6 + e7) (f6 := e6 + e7) (f7 := e7) (by clear h hs l4; omega) (by clear h hs l4; omega) (by clear h hs l4; omega) (by clear h hs l4; omega) (by clear h hs l4; omega) (by clear h hs l4; omega) (by clear h hs l4; omega) (by clear h hs l4; omega)
 have l6 : e4 + e5 + (e6 + e7) + 256 * (e5 + e6 + e7 + 256 * (e6 + e7 + 256 * e7)) ≤ 1000000000000 := by clear h hs l4 l5; omega
 have r0 : e0 < 256 := by clear h hs l4 l5 l6; omega
 have r1 : e0 + e1 < 256 := by clear h hs l4 l5 l6; omega
 have r2 : e1 + e2 < 256 := by clear h hs l4 l5 l6; omega
 have r3 : e0 + e1 + (e2 + e3) < 256 := by clear h hs l4 l5 l6; omega
 have r4 : e1 + e2 + (e3 + e4) < 256 := by clear h hs l4 l5 l6; omega
 have r5 : e2 + e3 + (e4 + e5) < 256 := by clear h hs l4 l5 l6; omega
 have r6 : e3 + e4 + (e5 + e6) < 256 := by clear h hs l4 l5 l6; omega
 have r7 : e0 + e1 + (e2 + e3) + (e4 + e5 + (e6 + e7)) < 128 := by clear h hs l4 l5 l6; omega
 have r8 : e0 + e1 + (e2 + e3) + (e4 + e5 + (e6 + e7)) = popc x 64 := by rw [← hs]; clear h hs l4 l5 l6; omega
 have q4 := pop4_eq h r0
 have q5 := pop5_eq q4 r1 r2
 have q6 := pop6_eq q5 r3 r4 r5 r6 r7
 rw [← q4] at l4
 rw [← q5] at l5
 refine ⟨q6.1.trans r8, Nat.lt_of_le_of_lt l4 (by decide), Nat.lt_of_le_of_lt l5 (by decide), ?_⟩
 rw [q6.2]
 exact Nat.lt_of_le_of_lt (Nat.add_le_add l5 l6) (by decide)
end Go.Proofs.Ytlggjbopfnndbaa
namespace Go.Proofs.Ytlggjbopfnndbaa
open Go.RowKit
theorem w64 {n : Nat} (h : n < 18446744073709551616) : IntKind.u64.wrap (n : Int) = (n : Int) := by
 rw [IntKind.wrap_u64]; omega
/-- A row of words. -/
def wordCells (n : Nat) (f : Nat → Nat) : Array Value := ((List.range n).map fun i => Value.int .u64 (f i : Int)).toArray
theorem wordCells_size (n : Nat) (f : Nat → Nat) : (wordCells n f).size = n := by simp [wordCells]
theorem wordCells_get {n i : Nat} (f : Nat → Nat) (h : i < n) : (wordCells n f)[i]? = some (.int .u64 (f i : Int)) := by
 simp [wordCells, h]
/-- The first n cells of a block are words. -/
def RowW (w : World) (B n : Nat) (f : Nat → Nat) : Prop := ∃ cur, w.heap[B]? = some (.cells cur 125 (0, 0)) ∧ n ≤ cur.size ∧ ∀ i, i < n → cur[i]? = some (.int .u64 (f i : Int))
theorem RowW.cell {w : World} {B n i : Nat} {f : Nat → Nat} (h : RowW w B n f) (hi : i < n) : w.cell? ⟨B, i, none⟩ = some (.int .u64 (f i : Int)) := by
 obtain ⟨cur, h1, _, h3⟩ := h
 rw [cell_of_row _ _ _ _ _ _ h1]; exact h3 i hi
theorem RowW.frozen {w : World} {B n i : Nat} {f : Nat → Nat} (h : RowW w B n f) : w.frozen? ⟨B, i, none⟩ = false := by
 obtain ⟨cur, h1, _⟩ := h
 exact frozen_of_row _ _ _ _ _ h1
theorem RowW.lt {w : World} {B n : Nat} {f : Nat → Nat} (h : RowW w B n f) : B < w.heap.size := by
 obtain ⟨cur, h1, _⟩ := h
 exact (Array.getElem?_eq_some_iff.1 h1).1
theorem RowW.congr {w : World} {B n : Nat} {f g : Nat → Nat} (h : RowW w B n f) (e : ∀ i, i < n → f i = g i) : RowW w B n g := by
 obtain ⟨cur, h1, h2, h3⟩ := h
 exact ⟨cur, h1, h2, fun i hi => by rw [← e i hi]; exact h3 i hi⟩
theorem RowW.keep {w w' : World} {B n : Nat} {f : Nat → Nat} (h : RowW w B n f) (e : w'.heap[B]? = w.heap[B]?) : RowW w' B n f := by
 obtain ⟨cur, h1, h2, h3⟩ := h
 exact ⟨cur, e.trans h1, h2, h3⟩
theorem RowW.ext {w w' : World} {B n : Nat} {f : Nat → Nat} {M : Nat → Prop} (h : RowW w B n f) (hx : Ext M w w') (hM : ¬ M B) : RowW w' B n f :=
 h.keep (hx.block B h.lt hM)
theorem RowW.below {w w' : World} {B n m : Nat} {f : Nat → Nat} (h : RowW w B n f) (hx : Below m w w') (hM : B < m) : RowW w' B n f :=
 h.keep (hx.block B hM)
theorem RowW.set {w : World} {B n i v : Nat} {f : Nat → Nat} (h : RowW w B n f) : RowW (w.setCell ⟨B, i, none⟩ (.int .u64 (v : Int))) B n (fun x => if x = i then v else f x) := by
 obtain ⟨cur, h1, h2, h3⟩ := h
 refine ⟨_, heap_setCell_same _ _ _ _ _ _ h1, by simpa using h2, fun j hj => ?_⟩
 rw [Array.getElem?_setIfInBounds]
 by_cases e : i = j
 ·subst e; rw [if_pos rfl, if_pos (by omega)]; simp
 ·rw [if_neg e]; have e' : ¬ j = i := fun h => e h.symm
  simp only [if_neg e']; exact h3 j hj
theorem RowW.of_cells {w : World} {B n : Nat} {f : Nat → Nat} (h : w.heap[B]? = some (.cells (wordCells n f) 125 (0, 0))) : RowW w B n f :=
 ⟨_, h, by rw [wordCells_size]; exact Nat.le_refl _, fun _ hi => wordCells_get f hi⟩
theorem RowW.of_owns {w : World} {base n g cap : Nat} {f : Nat → Nat} (h : w.ownsRow base 125 1 (.slice (some ⟨g, 0, none⟩) n cap) n ((List.range n).map fun i => Value.int .u64 (f i : Int))) : RowW w g n f := by
 rcases h.2 with ⟨h1, _⟩ | ⟨g', cap', cur, h1, h2, h3, h4, h5, h6, h7⟩
 ·cases h1
 ·simp only [Value.slice.injEq, Option.some.injEq, Addr.mk.injEq] at h1
  obtain ⟨⟨rfl, _, _⟩, _, rfl⟩ := h1
  refine ⟨cur, h3, by omega, fun i hi => ?_⟩
  have e : (cur.toList.take (n * 1))[i]? = some (.int .u64 (f i : Int)) := by rw [h7]; simp [hi]
  rw [List.getElem?_take, if_pos (by omega)] at e
  simpa using e
/-- The set of which words tell. -/
def bitOf (f : Nat → Nat) (v : Nat) : Bool := (f (v / 64)).testBit (v % 64)
theorem bit_eq (a k : Nat) (ha : a < 18446744073709551616) : (bits .and .u64 ((a : Int) / 2 ^ k) 1 == 1) = a.testBit k := by
 have e : ((a : Int) / 2 ^ k) = ((a / 2 ^ k : Nat) : Int) := by rw [Int.natCast_ediv, Int.natCast_pow]; rfl
 have hl : a / 2 ^ k < 18446744073709551616 := Nat.lt_of_le_of_lt (Nat.div_le_self _ _) ha
 rw [e, show (1 : Int) = ((1 : Nat) : Int) from rfl, u64_and_nat _ _ hl (by decide), Nat.and_one_is_mod, Nat.testBit_eq_decide_div_mod_eq]
 by_cases h : a / 2 ^ k % 2 = 1
 ·rw [h]; rfl
 ·have h0 : a / 2 ^ k % 2 = 0 := by omega
  rw [h0]; rfl
set_option maxRecDepth 100000 in
set_option maxHeartbeats 1000000 in
theorem bitsHas_calls (w : World) (B n cp v : Nat) (f : Nat → Nat) (hrow : RowW w B n f) (hf : ∀ i, f i < 18446744073709551616) (hv : v / 64 < n) (hn : n ≤ 90000) :
  Calls Try.prog 69 #[.slice (some ⟨B, 0, none⟩) n cp, .int .i64 (v : Int)] w fun e w' => e = .returned (.bool (bitOf f v)) ∧ w = w' := by
 have hc : w.cell? ⟨B, v / 64, none⟩ = some (.int .u64 (f (v / 64) : Int)) := hrow.cell hv
 have hlt := hf (v / 64)
 have hvI : ((v / 64 : Nat) : Int) < (n : Int) := by omega
 have hvb : v < 9000000 := by omega
 have hq : (bits .and .u64 ((f (v / 64) : Int) / 2 ^ (v % 64)) 1 == 1) = bitOf f v := bit_eq _ _ hlt
 clear hrow hf
 go_enter Try.func69, Try.ntmps69
 go_wp2
 go_ret
 exact ⟨rfl, rfl⟩
theorem pow_lt64 {k : Nat} (h : k < 64) : 2 ^ k < 18446744073709551616 := Nat.lt_of_lt_of_le (Nat.pow_lt_pow_right (by decide) h) (by decide)
theorem wrap_pow {k : Nat} (h : k < 64) : IntKind.u64.wrap (2 ^ k) = ((2 ^ k : Nat) : Int) := by
 have e : ((2 : Int) ^ k) = ((2 ^ k : Nat) : Int) := by rw [Int.natCast_pow]; rfl
 rw [e]; exact w64 (pow_lt64 h)
theorem or_eq (a k : Nat) (ha : a < 18446744073709551616) (h : k < 64) : bits .or .u64 (a : Int) (IntKind.u64.wrap (2 ^ k)) = ((a ||| 2 ^ k : Nat) : Int) := by
 rw [wrap_pow h]; exact u64_or_nat _ _ ha (pow_lt64 h)
theorem andNot_eq (a k : Nat) (ha : a < 18446744073709551616) (h : k < 64) : bits .andNot .u64 (a : Int) (IntKind.u64.wrap (2 ^ k)) = ((a &&& (18446744073709551615 - 2 ^ k) : Nat) : Int) := by
 rw [wrap_pow h]; exact u64_andNot_nat _ _ ha (pow_lt64 h)
/-- Behind a write into a row of words. -/
def WordSet (w : World) (B n : Nat) (g : Nat → Nat) (e : Ending) (w' : World) : Prop :=
 e = .returned (.tuple #[]) ∧ RowW w' B n g ∧ Ext (· = B) w w'
set_option maxRecDepth 100000 in
set_option maxHeartbeats 2000000 in
theorem bitsAdd_calls (w : World) (B n cp v : Nat) (f : Nat → Nat) (hrow : RowW w B n f) (hf : ∀ i, f i < 18446744073709551616) (hv : v / 64 < n) (hn : n ≤ 90000) :
  Calls Try.prog 63 #[.slice (some ⟨B, 0, none⟩) n cp, .int .i64 (v : Int)] w (WordSet w B n (fun x => if x = v / 64 then f (v / 64) ||| 2 ^ (v % 64) else f x)) := by
 have hc : w.cell? ⟨B, v / 64, none⟩ = some (.int .u64 (f (v / 64) : Int)) := hrow.cell hv
 have hfz : w.frozen? ⟨B, v / 64, none⟩ = false := hrow.frozen
 have hlt := hf (v / 64)
 have hvI : ((v / 64 : Nat) : Int) < (n : Int) := by omega
 have hvb : v < 9000000 := by omega
 have ho := or_eq (f (v / 64)) (v % 64) hlt (Nat.mod_lt _ (by decide))
 have HP : Hid (WordSet w B n (fun x => if x = v / 64 then f (v / 64) ||| 2 ^ (v % 64) else f x) (.returned (.tuple #[])) (w.setCell ⟨B, v / 64, none⟩ (.int .u64 ((f (v / 64) ||| 2 ^ (v % 64) : Nat) : Int))).drew) :=
  ⟨rfl, hrow.set.keep rfl, (Ext.set1 _ _ _ _).drew⟩
 clear hrow hf
 go_enter Try.func63, Try.ntmps63
 go_wp2
 go_region
 all_goals (go_end0; exact HP.out)
theorem bit_add (f : Nat → Nat) (v u : Nat) : bitOf (fun x => if x = v / 64 then f (v / 64) ||| 2 ^ (v % 64) else f x) u = (bitOf f u || decide (u = v)) := by
 unfold bitOf
 by_cases h : u / 64 = v / 64
 ·simp only [if_pos h]
  rw [Nat.testBit_or, Nat.testBit_two_pow, ← h]
  congr 1
  by_cases e : v % 64 = u % 64
  ·rw [decide_eq_true e, decide_eq_true (by omega)]
  ·rw [decide_eq_false e, decide_eq_false (by intro e2; subst e2; exact e rfl)]
 ·simp only [if_neg h]
  rw [decide_eq_false (by intro e; subst e; exact h rfl), Bool.or_false]
theorem bit_drop (f : Nat → Nat) (v u : Nat) : bitOf (fun x => if x = v / 64 then f (v / 64) &&& (18446744073709551615 - 2 ^ (v % 64)) else f x) u = (bitOf f u && decide (u ≠ v)) := by
 unfold bitOf
 by_cases h : u / 64 = v / 64
 ·simp only [if_pos h]
  have hk : v % 64 < 64 := Nat.mod_lt _ (by decide)
  have e1 : 18446744073709551615 - 2 ^ (v % 64) = 2 ^ 64 - (2 ^ (v % 64) + 1) := by omega
  rw [Nat.testBit_and, e1, Nat.testBit_two_pow_sub_succ (pow_lt64 hk), ← h, Nat.testBit_two_pow]
  congr 1
  rw [decide_eq_true (show u % 64 < 64 from Nat.mod_lt _ (by decide)), Bool.true_and]
  by_cases e : v % 64 = u % 64
  ·rw [decide_eq_true e, decide_eq_false (by intro e2; exact e2 (by omega))]; rfl
  ·rw [decide_eq_false e, decide_eq_true (by intro e2; subst e2; exact e rfl)]; rfl
 ·simp only [if_neg h]
  rw [decide_eq_true (by intro e; subst e; exact h rfl), Bool.and_true]
end Go.Proofs.Ytlggjbopfnndbaa
namespace Go.Proofs.Ytlggjbopfnndbaa
open Go.RowKit
theorem info_u64 : (Try.prog.info? 125).map (fun i => (i.zero, i.size, i.bytes)) = some (some (.int .u64 0), 1, 8) := by kernel_rfl
theorem wordCells_rep (n : Nat) : Array.replicate n (Value.int .u64 0) = wordCells n (fun _ => 0) := by
 apply Array.ext_getElem?
 intro j
 by_cases hj : j < n
 ·rw [wordCells_get _ hj]; simp [hj]
 ·rw [Array.getElem?_eq_none (by simp; omega), Array.getElem?_eq_none (by rw [wordCells_size]; omega)]
set_option maxRecDepth 100000 in
theorem newBits_calls (w : World) (n : Nat) (hn : n ≤ 90000) : Calls Try.prog 62 #[.int .i64 (n : Int)] w fun e w' =>
  e = .returned (.slice (some ⟨w.heap.size, 0, none⟩) ((n + 63) / 64) ((n + 63) / 64)) ∧ w' = w.alloc (.cells (wordCells ((n + 63) / 64) (fun _ => 0)) 125) := by
 obtain ⟨q, hq⟩ : ∃ q, (n + 63) / 64 = q := ⟨_, rfl⟩
 have hqI : ((n : Int) + 63).tdiv 64 = (q : Int) := by rw [← hq, Int.tdiv_eq_ediv_of_nonneg (by omega)]; omega
 have hq2 : ((n : Int) + 63) / 64 = (q : Int) := by omega
 have hqb : q ≤ 90000 := by omega
 obtain ⟨i1, hi, hz0, hz1, hz2⟩ := info_parts info_u64
 rw [hq]
 go_enter Try.func62, Try.ntmps62
 go_wp2_with (at_make; refine wpList_make_at rfl (.tmp 5) (.tmp 5) 99 rfl 125 i1 (.int .u64 0) Try.underlying99 hi hz0 hz1 rfl .i64 .i64 _ _ q rfl rfl rfl rfl (by rw [hz2]; omega) (by unfold maxLen; omega) ?_; (try simp only [List.toArray_replicate]); rw [wordCells_rep])
 go_ret
 exact ⟨rfl, rfl⟩
end Go.Proofs.Ytlggjbopfnndbaa
