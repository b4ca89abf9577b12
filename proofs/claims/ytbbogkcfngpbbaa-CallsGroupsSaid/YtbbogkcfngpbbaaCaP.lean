/- Who calls whom, plain. -/
import Derived.Test.YtbbogkcfngpbbaaMoD
import Derived.Lib.SlicesCompact
namespace Go.Proofs.Ytbbogkcfngpbbaa
open Go.RowKit

/-- Which function an instruction calls. -/
def cAt (n : Nat) (i : Ins) : Option Nat := if i.op = 15 ∧ 0 ≤ i.f ∧ i.f < (n : Int) then some i.f.toNat else none

def insCalls (n f : Nat) : Nat → List Ins → List (Nat × Nat × Nat)
  | _, [] => []
  | at_, i :: r => (match cAt n i with
    | some g => [(f, at_, g)]
    | none => []) ++ insCalls n f (at_ + 1) r

/-- All calls: who, where, whom. -/
def allCalls (n : Nat) : Nat → List Fn → List (Nat × Nat × Nat)
  | _, [] => []
  | f, x :: r => insCalls n f 0 x.c.ins ++ allCalls n (f + 1) r

def dOf (E : List (Nat × Nat × Nat)) (j : Nat) : List Nat := (E.filter fun e => e.1 == j).map fun e => e.2.2
def uOf (E : List (Nat × Nat × Nat)) (j : Nat) : List Nat := (E.filter fun e => e.2.2 == j).map fun e => e.1
def sOf (E : List (Nat × Nat × Nat)) (j : Nat) : List (Nat × Nat) := (E.filter fun e => e.2.2 == j).map fun e => (e.1, e.2.1)

theorem dOf_push (E : List (Nat × Nat × Nat)) (f a g : Nat) : dOf (E ++ [(f, a, g)]) = fun j => if j = f then dOf E f ++ [g] else dOf E j := by
  funext j
  unfold dOf
  by_cases h : j = f
  · subst h; simp
  · have : ¬ f = j := fun e => h e.symm
    simp [h, this]
theorem uOf_push (E : List (Nat × Nat × Nat)) (f a g : Nat) : uOf (E ++ [(f, a, g)]) = fun j => if j = g then uOf E g ++ [f] else uOf E j := by
  funext j
  unfold uOf
  by_cases h : j = g
  · subst h; simp
  · have : ¬ g = j := fun e => h e.symm
    simp [h, this]
theorem sOf_push (E : List (Nat × Nat × Nat)) (f a g : Nat) : sOf (E ++ [(f, a, g)]) = fun j => if j = g then sOf E g ++ [(f, a)] else sOf E j := by
  funext j
  unfold sOf
  by_cases h : j = g
  · subst h; simp
  · have : ¬ g = j := fun e => h e.symm
    simp [h, this]

theorem insCalls_step {n f j : Nat} {ins : List Ins} {i : Ins} (h : ins[j]? = some i) : insCalls n f j (ins.drop j) = (match cAt n i with
    | some g => [(f, j, g)]
    | none => []) ++ insCalls n f (j + 1) (ins.drop (j + 1)) := by
  obtain ⟨hj, e⟩ := List.getElem?_eq_some_iff.1 h
  rw [List.drop_eq_getElem_cons hj, e]; rfl
theorem allCalls_step {n j : Nat} {fs : List Fn} {x : Fn} (h : fs[j]? = some x) : allCalls n j (fs.drop j) = insCalls n j 0 x.c.ins ++ allCalls n (j + 1) (fs.drop (j + 1)) := by
  obtain ⟨hj, e⟩ := List.getElem?_eq_some_iff.1 h
  rw [List.drop_eq_getElem_cons hj, e]; rfl

theorem mem_insCalls {n f : Nat} : ∀ (ins : List Ins) (a : Nat) (e : Nat × Nat × Nat), e ∈ insCalls n f a ins ↔ e.1 = f ∧ ∃ k i, ins[k]? = some i ∧ cAt n i = some e.2.2 ∧ e.2.1 = a + k
  | [], a, e => by simp [insCalls]
  | i :: r, a, e => by
    unfold insCalls
    rw [List.mem_append, mem_insCalls r]
    constructor
    · rintro (h | ⟨h1, k, x, h2, h3, h4⟩)
      · cases hc : cAt n i with
        | none => rw [hc] at h; simp at h
        | some g =>
          rw [hc] at h; simp at h; subst h
          exact ⟨rfl, 0, i, rfl, hc, rfl⟩
      · exact ⟨h1, k + 1, x, by simpa using h2, h3, by omega⟩
    · rintro ⟨h1, k, x, h2, h3, h4⟩
      cases k with
      | zero =>
        simp at h2; subst h2
        left; rw [h3]
        obtain ⟨e1, e2, e3⟩ := e
        simp at h1 h4 ⊢
        exact ⟨h1, h4⟩
      | succ k => exact .inr ⟨h1, k, x, by simpa using h2, h3, by omega⟩

theorem mem_allCalls {n : Nat} : ∀ (fs : List Fn) (f : Nat) (e : Nat × Nat × Nat), e ∈ allCalls n f fs ↔ ∃ k x, fs[k]? = some x ∧ e.1 = f + k ∧ ∃ i, x.c.ins[e.2.1]? = some i ∧ cAt n i = some e.2.2
  | [], f, e => by simp [allCalls]
  | x :: r, f, e => by
    unfold allCalls
    rw [List.mem_append, mem_insCalls, mem_allCalls r]
    constructor
    · rintro (⟨h1, k, i, h2, h3, h4⟩ | ⟨k, y, h1, h2, h3⟩)
      · exact ⟨0, x, rfl, h1, i, by rw [h4, Nat.zero_add]; exact h2, h3⟩
      · exact ⟨k + 1, y, by simpa using h1, by omega, h3⟩
    · rintro ⟨k, y, h1, h2, i, h3, h4⟩
      cases k with
      | zero =>
        simp at h1; subst h1
        exact .inl ⟨h2, e.2.1, i, h3, h4, by omega⟩
      | succ k => exact .inr ⟨k, y, by simpa using h1, by omega, i, h3, h4⟩

theorem mem_dOf {n : Nat} {fs : List Fn} {f h : Nat} : h ∈ dOf (allCalls n 0 fs) f ↔ ∃ x, fs[f]? = some x ∧ ∃ i ∈ x.c.ins, cAt n i = some h := by
  unfold dOf
  simp only [List.mem_map, List.mem_filter, beq_iff_eq]
  constructor
  · rintro ⟨e, ⟨he, h1⟩, rfl⟩
    obtain ⟨k, x, h2, h3, i, h4, h5⟩ := (mem_allCalls fs 0 e).1 he
    exact ⟨x, by rw [← h1, h3, Nat.zero_add]; exact h2, i, List.mem_of_getElem? h4, h5⟩
  · rintro ⟨x, h1, i, h2, h3⟩
    obtain ⟨a, ha⟩ := List.mem_iff_getElem?.1 h2
    exact ⟨(f, a, h), ⟨(mem_allCalls fs 0 _).2 ⟨f, x, h1, by simp, i, ha, h3⟩, rfl⟩, rfl⟩

theorem mem_uOf {E : List (Nat × Nat × Nat)} {f h : Nat} : f ∈ uOf E h ↔ h ∈ dOf E f := by
  unfold dOf uOf
  simp only [List.mem_map, List.mem_filter, beq_iff_eq]
  constructor
  · rintro ⟨e, ⟨he, h1⟩, h2⟩; exact ⟨e, ⟨he, h2⟩, h1⟩
  · rintro ⟨e, ⟨he, h1⟩, h2⟩; exact ⟨e, ⟨he, h2⟩, h1⟩

theorem cAt_lt {n : Nat} {i : Ins} {g : Nat} (h : cAt n i = some g) : g < n := by
  unfold cAt at h
  split at h
  · rename_i hc; have := Option.some.inj h; omega
  · cases h

theorem dOf_lt {n : Nat} {fs : List Fn} {f h : Nat} (hh : h ∈ dOf (allCalls n 0 fs) f) : h < n := by
  obtain ⟨x, _, i, _, h3⟩ := mem_dOf.1 hh
  exact cAt_lt h3
theorem uOf_lt {n : Nat} {fs : List Fn} {f h : Nat} (hh : h ∈ uOf (allCalls n 0 fs) f) : h < fs.length := by
  obtain ⟨x, h1, _⟩ := mem_dOf.1 (mem_uOf.1 hh)
  exact (List.getElem?_eq_some_iff.1 h1).1

/-- What of a list is below n, once each, in order. -/
def sel (n : Nat) (l : List Nat) : List Nat := (List.range n).filter fun h => decide (h ∈ l)
theorem mem_sel {n : Nat} {l : List Nat} {h : Nat} : h ∈ sel n l ↔ h < n ∧ h ∈ l := by simp [sel]
theorem sel_len (n : Nat) (l : List Nat) : (sel n l).length ≤ n := by
  have := List.length_filter_le (fun h => decide (h ∈ l)) (List.range n)
  simpa [sel] using this

theorem strict_ext : ∀ {xs ys : List Int}, xs.Pairwise (· < ·) → ys.Pairwise (· < ·) → (∀ z, z ∈ xs ↔ z ∈ ys) → xs = ys
  | [], [], _, _, _ => rfl
  | [], y :: ys, _, _, h => absurd ((h y).2 (by simp)) (by simp)
  | x :: xs, [], _, _, h => absurd ((h x).1 (by simp)) (by simp)
  | x :: xs, y :: ys, hx, hy, h => by
    rw [List.pairwise_cons] at hx hy
    have e : x = y := by
      rcases List.mem_cons.1 ((h x).1 (by simp)) with e | e
      · exact e
      · rcases List.mem_cons.1 ((h y).2 (by simp)) with e2 | e2
        · exact e2.symm
        · have := hy.1 x e; have := hx.1 y e2; omega
    subst e
    have := strict_ext hx.2 hy.2 fun z => by
      constructor
      · intro hz
        rcases List.mem_cons.1 ((h z).1 (by simp [hz])) with e | e
        · subst e; have := hx.1 z hz; omega
        · exact e
      · intro hz
        rcases List.mem_cons.1 ((h z).2 (by simp [hz])) with e | e
        · subst e; have := hy.1 z hz; omega
        · exact e
    rw [this]

def nums (l : List Nat) : List Int := l.map fun x : Nat => (x : Int)

theorem sel_strict (n : Nat) (l : List Nat) : (nums (sel n l)).Pairwise (· < ·) := by
  unfold nums sel
  rw [List.pairwise_map]
  exact (List.pairwise_lt_range.filter _).imp (fun h => by omega)

theorem compact_mem {zs : List Int} {z : Int} : z ∈ Lib.compact zs ↔ z ∈ zs := by
  unfold Lib.compact Lib.compactUpTo
  simp only [List.mem_map, List.mem_filter, List.mem_range]
  constructor
  · rintro ⟨j, ⟨hj, _⟩, rfl⟩
    simp [hj]
  · intro hz
    have hp : ∃ j, j < zs.length ∧ zs.toArray[j]! = z := by
      obtain ⟨j, hj⟩ := List.mem_iff_getElem?.1 hz
      obtain ⟨hl, e⟩ := List.getElem?_eq_some_iff.1 hj
      exact ⟨j, hl, by simp [hl, e]⟩
    -- the first place
    have key : ∀ m, (∃ j, j < m ∧ j < zs.length ∧ zs.toArray[j]! = z) → ∃ j, (j < zs.length ∧ Lib.keeps zs.toArray j = true) ∧ zs.toArray[j]! = z := by
      intro m
      induction m with
      | zero => rintro ⟨j, h, _⟩; omega
      | succ m ih =>
        rintro ⟨j, h1, h2, h3⟩
        by_cases hlt : ∃ j, j < m ∧ j < zs.length ∧ zs.toArray[j]! = z
        · exact ih hlt
        · refine ⟨j, ⟨h2, ?_⟩, h3⟩
          have hjm : j = m := by
            rcases Nat.lt_or_ge j m with h | h
            · exact absurd ⟨j, h, h2, h3⟩ hlt
            · omega
          unfold Lib.keeps
          rw [decide_eq_true_eq]
          by_cases h0 : j = 0
          · exact .inl h0
          · right
            rw [h3]
            intro e
            exact hlt ⟨j - 1, by omega, by omega, e.symm⟩
    obtain ⟨j, hj, e⟩ := hp
    exact key (j + 1) ⟨j, by omega, hj, e⟩

theorem compact_strict {zs : List Int} (h : zs.Pairwise (· ≤ ·)) : (Lib.compact zs).Pairwise (· < ·) := by
  unfold Lib.compact Lib.compactUpTo
  rw [List.pairwise_map, List.pairwise_filter]
  refine List.Pairwise.imp_of_mem (R := (· < ·)) ?_ List.pairwise_lt_range
  intro a b ha hb hab _ hk
  simp only [List.mem_range] at ha hb
  unfold Lib.keeps at hk
  rw [decide_eq_true_eq] at hk
  have hne : zs.toArray[b]! ≠ zs.toArray[b - 1]! := by
    rcases hk with hk | hk
    · omega
    · exact hk
  have hle := List.pairwise_iff_getElem.1 h
  have h1 : zs.toArray[a]! = zs[a] := by simp [ha]
  have h2 : zs.toArray[b]! = zs[b] := by simp [hb]
  have h3 : zs.toArray[b - 1]! = zs[b - 1] := by simp [show b - 1 < zs.length by omega]
  rw [h1, h2]
  rw [h2, h3] at hne
  have q1 : zs[b - 1] ≤ zs[b] := hle (b - 1) b (by omega) hb (by omega)
  have q2 : zs[a] ≤ zs[b - 1] := by
    by_cases e : a = b - 1
    · subst e; exact Int.le_refl _
    · exact hle a (b - 1) ha (by omega) (by omega)
  omega

/-- Sorted and without doubles it is what was picked. -/
theorem compact_sel {n : Nat} {l : List Nat} {zs : List Int} (hs : zs.Pairwise (· ≤ ·)) (hm : ∀ z : Int, z ∈ zs ↔ z ∈ nums l) (hl : ∀ x ∈ l, x < n) : Lib.compact zs = nums (sel n l) := by
  refine strict_ext (compact_strict hs) (sel_strict n l) fun z => ?_
  rw [compact_mem, hm]
  unfold nums
  simp only [List.mem_map, mem_sel]
  exact ⟨fun ⟨x, h1, h2⟩ => ⟨x, ⟨hl x h1, h1⟩, h2⟩, fun ⟨x, h1, h2⟩ => ⟨x, h1.2, h2⟩⟩

theorem sort_sel {n : Nat} {l : List Nat} (hl : ∀ x ∈ l, x < n) : Lib.compact ((nums l).mergeSort fun x y => decide (x ≤ y)) = nums (sel n l) := by
  refine compact_sel ?_ (fun z => List.mem_mergeSort) hl
  have := List.pairwise_mergeSort (le := fun x y : Int => decide (x ≤ y)) (fun a b c h1 h2 => by simp at h1 h2 ⊢; omega) (fun a b => by simp; omega) (nums l)
  exact this.imp (fun h => by simpa using h)

theorem insCalls_fst {n f a : Nat} {ins : List Ins} {e : Nat × Nat × Nat} (h : e ∈ insCalls n f a ins) : e.1 = f := ((mem_insCalls ins a e).1 h).1
theorem allCalls_sorted {n : Nat} : ∀ (fs : List Fn) (f : Nat), (allCalls n f fs).Pairwise (fun x y => x.1 ≤ y.1)
  | [], f => List.Pairwise.nil
  | x :: r, f => by
    unfold allCalls
    rw [List.pairwise_append]
    refine ⟨?_, allCalls_sorted r (f + 1), fun a ha b hb => ?_⟩
    · refine List.pairwise_of_forall_mem_list fun a ha b hb => ?_
      rw [insCalls_fst ha, insCalls_fst hb]; exact Nat.le_refl _
    · obtain ⟨k, y, _, h2, _⟩ := (mem_allCalls r (f + 1) b).1 hb
      rw [insCalls_fst ha]; omega

theorem up_sel {n : Nat} {fs : List Fn} {g : Nat} : Lib.compact (nums (uOf (allCalls n 0 fs) g)) = nums (sel fs.length (uOf (allCalls n 0 fs) g)) := by
  refine compact_sel ?_ (fun z => Iff.rfl) (fun x hx => uOf_lt hx)
  unfold nums uOf
  rw [List.map_map, List.pairwise_map]
  exact ((allCalls_sorted fs 0).filter _).imp (fun h => by simp; omega)
end Go.Proofs.Ytbbogkcfngpbbaa
