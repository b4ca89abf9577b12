/- LiveLists, the plain law: what the table tells is what the reference picks. -/
import Derived.Test.YtpbkkajgcdahcaaDoorTLast
import Derived.Test.YtpbkkajgcdahcaaDoorTVars
namespace Go.Proofs.YtpbkkajgcdahcaaDoor
open Go.RowKit

theorem pick_congr {p q : Nat → Bool} {n : Nat} (h : ∀ v, v < n → p v = q v) : pick p n = pick q n := by
  unfold pick
  exact List.filter_congr fun v hv => h v (List.mem_range.1 hv)

theorem pick_more {p : Nat → Bool} {m N : Nat} (hm : m ≤ N) (h : ∀ v, p v = true → v < m) : pick p N = pick p m := by
  rw [show N = m + (N - m) by omega]
  refine pick_skip (N - m) fun x h1 _ => ?_
  cases hp : p x with
  | false => rfl
  | true => have := h x hp; omega

/-- What the table's rows are, beside the reference's. -/
structure SameT (n m : Nat) (S : Nat → List Nat) (b : Nat → Nat → Nat) : Prop where
  same : ∀ x v, x < n → v < m → bitOf (b x) v = decide (x ∈ S v)
  low : ∀ x v, x < n → bitOf (b x) v = true → v < m

theorem SameT.vars {n m : Nat} {S : Nat → List Nat} {b : Nat → Nat → Nat} (h : SameT n m S b) {x : Nat} (hx : x < n) : pick (bitOf (b x)) (64 * ((m + 63) / 64)) = pick (atRow S n (x : Int)) m := by
  rw [pick_more (show m ≤ 64 * ((m + 63) / 64) by omega) (fun v hv => h.low x v hx hv)]
  refine pick_congr fun v hv => ?_
  rw [h.same x v hx hv]
  unfold atRow
  rw [decide_eq_true (show (0 : Int) ≤ (x : Int) by omega), decide_eq_true (show (x : Int) < (n : Int) by omega)]
  simp

theorem atRow_none {S : Nat → List Nat} {n m : Nat} {at_ : Int} (h : ¬ (0 ≤ at_ ∧ at_ < (n : Int))) : pick (atRow S n at_) m = [] := by
  refine pick_none (fun v => ?_) m
  unfold atRow
  by_cases h1 : 0 ≤ at_
  · rw [decide_eq_false (show ¬ at_ < (n : Int) from fun h2 => h ⟨h1, h2⟩)]; simp
  · rw [decide_eq_false h1]; simp

theorem SameT.idle {ins : List Ins} {m : Nat} {S : Nat → List Nat} {b : Nat → Nat → Nat} (h : SameT ins.length m S b) (hf : Fits ins m) :
    pick (fun j => match ins[j]? with | some i => (writesOf i).2 && !bitOf (b j) (writesOf i).1.toNat | none => false) ins.length = pick (idleAt ins S m) ins.length := by
  refine pick_congr fun j hj => ?_
  unfold idleAt
  cases hi : ins[j]? with
  | none => rfl
  | some i =>
    simp only []
    unfold idleD
    cases hw : (writesOf i).2 with
    | false => rfl
    | true =>
      obtain ⟨h1, h2⟩ := (hf i (List.mem_of_getElem? hi)).2 hw
      rw [decide_eq_true h1, decide_eq_true h2, h.same j _ hj (by omega)]
      simp

theorem SameT.last {ins : List Ins} {m : Nat} {S : Nat → List Nat} {b : Nat → Nat → Nat} (h : SameT ins.length m S b) (v : Int) :
    pick (fun j => match ins[j]? with | some i => decide (0 ≤ v) && decide (v < (m : Int)) && (decide (v ∈ readsOf i) && !bitOf (b j) v.toNat) | none => false) ins.length = pick (lastAt ins S m v) ins.length := by
  refine pick_congr fun j hj => ?_
  unfold lastAt
  cases hi : ins[j]? with
  | none => rfl
  | some i =>
    simp only []
    by_cases h1 : 0 ≤ v
    · by_cases h2 : v < (m : Int)
      · rw [h.same j _ hj (show v.toNat < m by omega)]
      · rw [decide_eq_false h2]; simp
    · rw [decide_eq_false h1]; simp

theorem pick_add_len (p : Nat → Bool) (a : Nat) : ∀ d, (pick p (a + d)).length = (pick p a).length + (pick (fun i => p (a + i)) d).length
  | 0 => by simp [pick]
  | d + 1 => by
    have ih := pick_add_len p a d
    rw [show a + (d + 1) = (a + d) + 1 by omega, pick_succ, pick_succ]
    by_cases h : p (a + d) = true
    · rw [if_pos h, if_pos h, List.length_append, List.length_append, ih]; simp; omega
    · rw [if_neg h, if_neg h, ih]

theorem popc_pick : ∀ (n x : Nat), popc x n = (pick (fun i => x.testBit i) n).length
  | 0, x => by simp [popc, bitsR, pick]
  | n + 1, x => by
    have ih := popc_pick n (x / 2)
    have e : popc x (n + 1) = x % 2 + popc (x / 2) n := by simp [popc, bitsR]
    rw [e, ih, show n + 1 = 1 + n by omega, pick_add_len]
    have e1 : (pick (fun i => x.testBit i) 1).length = x % 2 := by
      rw [show (1 : Nat) = 0 + 1 from rfl, pick_succ]
      by_cases h : x.testBit 0 = true
      · rw [if_pos h]; rw [Nat.testBit_zero, decide_eq_true_eq] at h; simp [pick, h]
      · rw [if_neg h]; rw [Nat.testBit_zero, decide_eq_true_eq] at h; simp [pick]; omega
    rw [e1]
    congr 2
    refine pick_congr fun i _ => ?_
    rw [show 1 + i = i + 1 by omega, Nat.testBit_succ]

theorem count_pick (f : Nat → Nat) : ∀ k, countOf k f = (pick (bitOf f) (64 * k)).length
  | 0 => by simp [countOf, pick]
  | k + 1 => by
    have e : countOf (k + 1) f = countOf k f + popc (f k) 64 := by simp [countOf, List.range_succ]
    rw [e, count_pick f k, popc_pick, show 64 * (k + 1) = 64 * k + 64 by omega, pick_add_len]
    congr 2
    exact pick_congr fun i hi => (bitOf_at f k hi).symm

theorem SameT.count {n m : Nat} {S : Nat → List Nat} {b : Nat → Nat → Nat} (h : SameT n m S b) {x : Nat} (hx : x < n) : countOf ((m + 63) / 64) (b x) = (pick (atRow S n (x : Int)) m).length := by
  rw [count_pick, h.vars hx]
end Go.Proofs.YtpbkkajgcdahcaaDoor
