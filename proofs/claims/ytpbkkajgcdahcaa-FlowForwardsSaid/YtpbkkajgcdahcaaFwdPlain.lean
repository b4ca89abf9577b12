/- What FlowForwards asks of the order, the heads and the blocks, in plain words. -/
import Derived.Test.YtpbkkajgcdahcaaReaches
namespace Go.Proofs.Ytpbkkajgcdahcaa

/-- Places in a row, from 1 on; 0: not there. -/
def plc (l : List Nat) (x : Nat) : Nat := if x ∈ l then l.idxOf x + 1 else 0

theorem plc_nil (x : Nat) : plc [] x = 0 := by simp [plc]

theorem plc_snoc {l : List Nat} {y : Nat} (hy : y ∉ l) (x : Nat) : plc (l ++ [y]) x = if x = y then l.length + 1 else plc l x := by
  unfold plc
  by_cases h : x = y
  · subst h
    rw [if_pos (by simp), if_pos rfl, List.idxOf_append, if_neg hy]
    simp
  · rw [if_neg h]
    by_cases hx : x ∈ l
    · rw [if_pos (by simp [hx]), if_pos hx, List.idxOf_append, if_pos hx]
    · rw [if_neg (by simp [hx, h]), if_neg hx]

theorem addHeads_mem {met : List Int} {at_ : Int} {z : Int} : ∀ (l h : List Int), z ∈ h → z ∈ addHeads met at_ h l
  | [], _, hz => hz
  | y :: r, h, hz => by
    unfold addHeads
    rw [List.foldl_cons]
    refine addHeads_mem r _ ?_
    split
    · exact hz
    · exact List.mem_cons_of_mem _ hz

theorem addHeads_new {met : List Int} {at_ : Int} {z : Int} (hz : ¬ (z ∈ met ∧ z ≠ at_)) : ∀ (l h : List Int), z ∈ l → z ∈ addHeads met at_ h l
  | y :: r, h, hm => by
    unfold addHeads
    rw [List.foldl_cons]
    rcases List.mem_cons.1 hm with rfl | hm
    · rw [if_neg hz]
      exact addHeads_mem r _ (by simp)
    · exact addHeads_new hz r _ hm

theorem headFold_mem {ins : List Ins} {z : Int} : ∀ (l : List Int) (s : List Int × List Int), z ∈ s.2 → z ∈ (l.foldl (headStep ins) s).2
  | [], _, hz => hz
  | y :: r, s, hz => headFold_mem r _ (addHeads_mem _ _ hz)

theorem headFold_met {ins : List Ins} : ∀ (l : List Int) (s : List Int × List Int), ∀ z, z ∈ (l.foldl (headStep ins) s).1 ↔ z ∈ l ∨ z ∈ s.1
  | [], _, z => by simp
  | y :: r, s, z => by
    rw [List.foldl_cons, headFold_met r]
    simp only [headStep, List.mem_cons]
    grind

/-- An edge from an instruction to one that is not left ahead of it, or to itself, ends in a head. -/
theorem heads_back {ins : List Ins} {pre post : List Nat} {x y : Nat} (hy : y ∈ nextN ins x) (h : y ∉ pre ∨ y = x) : (y : Int) ∈ (headsOf ins (ints (pre ++ x :: post))).2 := by
  have e : ints (pre ++ x :: post) = ints pre ++ (x : Int) :: ints post := by simp [ints]
  rw [e]
  unfold headsOf
  rw [List.foldl_append, List.foldl_cons]
  refine headFold_mem _ _ ?_
  have e2 : ∀ s : List Int × List Int, (headStep ins s (x : Int)).2 = addHeads ((x : Int) :: s.1) x s.2 (ints (nextN ins (x : Int).toNat)) := fun _ => rfl
  rw [e2]
  refine addHeads_new ?_ _ _ ?_
  · rintro ⟨h1, h2⟩
    rcases List.mem_cons.1 h1 with h1 | h1
    · exact h2 h1
    · rw [headFold_met] at h1
      simp at h1
      rcases h with h | h
      · exact h (by unfold ints at h1; rw [List.mem_map] at h1; obtain ⟨a, h3, h4⟩ := h1; have : a = y := by omega
                    subst this; exact h3)
      · exact h2 (by rw [h])
  · show (y : Int) ∈ ints (nextN ins ((x : Int)).toNat)
    unfold ints
    exact List.mem_map.2 ⟨y, by simpa using hy, rfl⟩

theorem fwd_ok {ins : List Ins} {L : List Nat} {i x y : Nat} (hn : L.Nodup) (hi : L.reverse[i]? = some x) (hy : y ∈ nextN ins x) (hyL : y ∈ L) (hle : plc L.reverse y ≤ i + 1) : y ∈ loopsOf ins L := by
  have hyn : y < ins.length := nextN_lt hy
  unfold loopsOf
  rw [List.mem_filter]
  refine ⟨by simpa using hyn, ?_⟩
  obtain ⟨o, ho⟩ : ∃ o, o = L.reverse := ⟨_, rfl⟩
  rw [← ho] at hi hle
  have hno : o.Nodup := by rw [ho]; exact List.pairwise_reverse.2 (hn.imp (fun h e => h e.symm))
  have hyo : y ∈ o := by rw [ho]; simpa using hyL
  have hlt : i < o.length := (List.getElem?_eq_some_iff.1 hi).1
  have hsp : o = o.take i ++ x :: o.drop (i + 1) := by
    conv => lhs; rw [← List.take_append_drop i o]
    rw [List.drop_eq_getElem_cons hlt]
    have : o[i] = x := by rw [List.getElem?_eq_getElem hlt] at hi; exact Option.some.inj hi
    rw [this]
  have hL : L = (o.drop (i + 1)).reverse ++ x :: (o.take i).reverse := by
    have : L = o.reverse := by rw [ho, List.reverse_reverse]
    rw [this]
    conv => lhs; rw [hsp]
    simp
  rw [hL]
  refine decide_eq_true (heads_back hy ?_)
  by_cases hxy : y = x
  · exact .inr hxy
  · left
    intro hd
    have hd' : y ∈ o.drop (i + 1) := by simpa using hd
    unfold plc at hle
    rw [if_pos hyo] at hle
    have h1 : y ∈ o.take (i + 1) := by
      rw [List.mem_take_iff_getElem]
      have h2 := List.idxOf_lt_length_iff.2 hyo
      exact ⟨o.idxOf y, by omega, List.getElem_idxOf h2⟩
    have := hno
    rw [← List.take_append_drop (i + 1) o, List.nodup_append] at this
    exact this.2.2 y h1 y hd' rfl

/-! ### Blocks -/

structure BlkP (M : List Nat) (j : Nat) (out : List (Nat × Nat)) (last : Int) : Prop where
  up : ∀ p ∈ out, p.1 ≤ p.2 ∧ p.2 < j
  apart : out.Pairwise fun p q => p.2 < q.1
  last : (out = [] ∧ last = -2) ∨ ∃ l p, out = l ++ [p] ∧ last = (p.2 : Int)
  sum : (out.map fun p => p.2 - p.1 + 1).sum = ((List.range j).filter fun x => decide (x ∈ M)).length

theorem blkP_step {begins : List Int} {M : List Nat} {j : Nat} {s : List (Nat × Nat) × Int} (h : BlkP M j s.1 s.2) : BlkP M (j + 1) (blockStep begins M s j).1 (blockStep begins M s j).2 := by
  obtain ⟨out, last⟩ := s
  obtain ⟨h1, h2, h3, h4⟩ := h
  simp only at h1 h2 h3 h4
  have hf : ((List.range (j + 1)).filter fun x => decide (x ∈ M)).length = ((List.range j).filter fun x => decide (x ∈ M)).length + if j ∈ M then 1 else 0 := by
    rw [List.range_succ, List.filter_append, List.length_append]
    by_cases hj : j ∈ M <;> simp [hj]
  unfold blockStep
  by_cases hj : j ∈ M
  · rw [if_pos hj] at hf ⊢
    by_cases hb : (j : Int) ∈ begins ∨ last ≠ (j : Int) - 1
    · simp only [if_pos hb]
      refine ⟨fun p hp => ?_, ?_, .inr ⟨out, (j, j), rfl, rfl⟩, ?_⟩
      · rcases List.mem_append.1 hp with hp | hp
        · exact ⟨(h1 p hp).1, by have := (h1 p hp).2; omega⟩
        · simp at hp; subst hp; exact ⟨Nat.le_refl _, by simp⟩
      · rw [List.pairwise_append]
        refine ⟨h2, by simp, fun p hp q hq => ?_⟩
        simp at hq; subst hq; exact (h1 p hp).2
      · rw [hf, ← h4]; simp
    · simp only [if_neg hb]
      have hl : last = (j : Int) - 1 := by
        by_cases e : last = (j : Int) - 1
        · exact e
        · exact absurd (.inr e) hb
      rcases h3 with ⟨rfl, e⟩ | ⟨l, p, rfl, e⟩
      · omega
      · have hp2 : p.2 + 1 = j := by omega
        rw [setEnd_snoc]
        have hp1 := (h1 p (by simp)).1
        refine ⟨fun q hq => ?_, ?_, .inr ⟨l, (p.1, j), rfl, rfl⟩, ?_⟩
        · rcases List.mem_append.1 hq with hq | hq
          · have := h1 q (by simp [hq]); exact ⟨this.1, by omega⟩
          · simp at hq; subst hq; exact ⟨by simp only; omega, by simp only; omega⟩
        · rw [List.pairwise_append] at h2 ⊢
          refine ⟨h2.1, by simp, fun q hq r hr => ?_⟩
          simp at hr; subst hr
          exact h2.2.2 q hq p (by simp)
        · rw [hf, ← h4]; simp; omega
  · rw [if_neg hj] at hf ⊢
    refine ⟨fun p hp => ⟨(h1 p hp).1, by have := (h1 p hp).2; omega⟩, h2, h3, by rw [hf, ← h4]; rfl⟩

theorem blkP_all (begins : List Int) (M : List Nat) : ∀ n, BlkP M n ((List.range n).foldl (blockStep begins M) ([], -2)).1 ((List.range n).foldl (blockStep begins M) ([], -2)).2
  | 0 => ⟨by simp, by simp, .inl ⟨rfl, rfl⟩, by simp⟩
  | n + 1 => by
    rw [List.range_succ, List.foldl_append]
    exact blkP_step (blkP_all begins M n)

theorem blocks_ok {ins : List Ins} {M : List Nat} (hn : M.Nodup) (hlt : ∀ x ∈ M, x < ins.length) :
    (∀ p ∈ blocksOf ins M, p.1 ≤ p.2 ∧ p.2 < ins.length) ∧ (blocksOf ins M).Pairwise (fun p q => p.2 < q.1) ∧ ((blocksOf ins M).map fun p => p.2 - p.1 + 1).sum = M.length := by
  obtain ⟨h1, h2, _, h4⟩ := blkP_all (beginsOf ins M) M ins.length
  refine ⟨h1, h2, ?_⟩
  unfold blocksOf
  rw [h4]
  refine List.Perm.length_eq ?_
  rw [List.perm_ext_iff_of_nodup (List.Pairwise.filter _ List.nodup_range) hn]
  intro x
  simp
  exact fun h => hlt x h
end Go.Proofs.Ytpbkkajgcdahcaa
