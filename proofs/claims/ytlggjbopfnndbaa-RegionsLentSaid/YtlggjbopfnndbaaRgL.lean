/- Lists of origins are of lent parameters, and rise. -/
import Derived.Test.YtlggjbopfnndbaaG59

namespace Go.Proofs.Ytlggjbopfnndbaa
open Go.RowKit

/-- A list of numbers that rise. -/
theorem rising (P : Nat) (p : Nat → Bool) {i a b : Nat} (ha : ((List.range P).filter p)[i]? = some a) (hb : ((List.range P).filter p)[i + 1]? = some b) : a < b := by
  have h : ((List.range P).filter p).Pairwise (· < ·) := List.Pairwise.filter _ List.pairwise_lt_range
  rw [List.pairwise_iff_getElem] at h
  obtain ⟨h1, rfl⟩ := List.getElem?_eq_some_iff.1 ha
  obtain ⟨h2, rfl⟩ := List.getElem?_eq_some_iff.1 hb
  exact h i (i + 1) h1 h2 (by omega)

/-- What a list of origins says. -/
structure LentL (g : Fn) (y : Vr) (L : List Nat) : Prop where
  up : ∀ (i a b : Nat), L[i]? = some a → L[i + 1]? = some b → a < b
  ok : ∀ (i n : Nat), L[i]? = some n → y.lent = true ∧ n < g.c.par.toNat ∧ ∃ v, g.vs[n]? = some v ∧ v.lent = true

theorem lentAt_var {g : Fn} {n : Nat} (h : g.lentAt (n : Int) = true) : ∃ v, g.vs[n]? = some v ∧ v.lent = true := by
  unfold Fn.lentAt at h
  rw [Bool.and_eq_true, Int.toNat_natCast] at h
  cases e : g.vs[n]? with
  | none => rw [e] at h; exact absurd h.2 (by simp)
  | some v => rw [e] at h; exact ⟨v, rfl, h.2⟩

theorem lentL_var {m : Mo} {X : Nat → Nat → Nat → Bool} (ho : OrigR m X) {j u : Nat} {g : Fn} {y : Vr} (hg : m.fs[j]? = some g) (hy : g.vs[u]? = some y) : LentL g y (varL m X (j : Int) (u : Int)) := by
  have hj : j < m.fs.length := (List.getElem?_eq_some_iff.1 hg).1
  have hu : u < g.vs.length := (List.getElem?_eq_some_iff.1 hy).1
  unfold varL
  rw [inR_nat, Int.toNat_natCast, Int.toNat_natCast, nv_get hg, inR_nat, decide_eq_true hj, decide_eq_true hu, if_pos ⟨rfl, rfl⟩, np_get hg]
  refine ⟨fun i a b ha hb => rising _ _ ha hb, fun i n hn => ?_⟩
  have hm := List.mem_of_getElem? hn
  rw [List.mem_filter, List.mem_range] at hm
  obtain ⟨g', h1, _, h3, h4⟩ := ho.ok j u n hm.2
  rw [hg] at h1
  obtain rfl := Option.some.inj h1
  refine ⟨?_, hm.1, lentAt_var h3⟩
  rcases h4 with ⟨_, h5⟩ | ⟨h5, _⟩
  · obtain ⟨v, h6, h7⟩ := lentAt_var h5
    rw [hy] at h6
    obtain rfl := Option.some.inj h6
    exact h7
  · omega

theorem lentL_ret {m : Mo} {X : Nat → Nat → Nat → Bool} (ho : OrigR m X) {j : Nat} {g : Fn} (hg : m.fs[j]? = some g) : LentL g ⟨g.c.rp, g.c.rto, g.c.rcl⟩ (fromL m X (j : Int)) := by
  have hj : j < m.fs.length := (List.getElem?_eq_some_iff.1 hg).1
  unfold fromL
  rw [inR_nat, Int.toNat_natCast, nv_get hg, decide_eq_true hj, if_pos rfl, np_get hg]
  refine ⟨fun i a b ha hb => rising _ _ ha hb, fun i n hn => ?_⟩
  have hm := List.mem_of_getElem? hn
  rw [List.mem_filter, List.mem_range] at hm
  obtain ⟨g', h1, _, h3, h4⟩ := ho.ok j _ n hm.2
  rw [hg] at h1
  obtain rfl := Option.some.inj h1
  refine ⟨?_, hm.1, lentAt_var h3⟩
  rcases h4 with ⟨h5, _⟩ | ⟨_, h5⟩
  · omega
  · exact h5

end Go.Proofs.Ytlggjbopfnndbaa
