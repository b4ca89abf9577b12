/- A region that draws its order, by an invariant. -/
import Derived.Test.YtbbogkcfngpbbaaCaR
import Derived.Orders
import Derived.RegionTactic
namespace Go.Proofs.Ytbbogkcfngpbbaa
open Go.RowKit

section
variable {P : Program} {md : Region.Mode} {ops : Array Oper} {Q : Exit → Act → World → Prop}

/-- How many have not come up. -/
def unN (ops : Array Oper) (listed : Array Bool) : Nat := ((List.range ops.size).filter fun i => !(listed.getD i true)).length

theorem ready_lt {listed : Array Bool} {i : Nat} (h : i ∈ Region.ready md ops listed) : i < ops.size := by
  obtain ⟨_, o, ho, _⟩ := mem_ready.1 h
  exact (Array.getElem?_eq_some_iff.1 ho).1

theorem wpAny_inv (I : Array Bool → Act → World → Prop)
    (hstep : ∀ listed a w i, I listed a w → i ∈ Region.ready md ops listed → wpOp P ops Q i (fun a' w' => I (listed.setIfInBounds i true) a' w') a w)
    (hend : ∀ listed a w, I listed a w → Region.ready md ops listed = [] → Q .normal a w) :
    ∀ (fuel : Nat) (listed : Array Bool) (a : Act) (w : World), unN ops listed ≤ fuel → I listed a w → wpAny P md ops Q fuel listed a w
  | 0, listed, a, w, hf, hi => by
    have hr : Region.ready md ops listed = [] := by
      refine List.eq_nil_iff_forall_not_mem.2 fun i him => ?_
      have h0 : i ∈ (List.range ops.size).filter fun i => !(listed.getD i true) := by
        rw [List.mem_filter]
        exact ⟨List.mem_range.2 (ready_lt him), by rw [(mem_ready.1 him).1]; rfl⟩
      rw [List.eq_nil_of_length_eq_zero (Nat.le_zero.1 hf)] at h0
      simp at h0
    exact ⟨hr, hend _ _ _ hi hr⟩
  | fuel + 1, listed, a, w, hf, hi => by
    refine ⟨fun hr => hend _ _ _ hi hr, fun i him => ?_⟩
    refine wpOp_mono (fun a' w' h' => wpAny_inv I hstep hend fuel _ a' w' ?_ h') (hstep listed a w i hi him)
    have hlt := ready_lt him
    have hu := (mem_ready.1 him).1
    have hs : i < listed.size := Classical.byContradiction fun h => by
      rw [Array.getD_eq_getD_getElem?, Array.getElem?_eq_none (by omega)] at hu
      simp at hu
    have := filter_lt (n := ops.size) (p := fun k => !((listed.setIfInBounds i true).getD k true)) (q := fun k => !(listed.getD k true)) (fun k hk => by
      by_cases e : i = k
      · subst e
        rw [Array.getD_eq_getD_getElem?, Array.getElem?_setIfInBounds_self_of_lt hs] at hk
        simp at hk
      · rw [Array.getD_eq_getD_getElem?, Array.getElem?_setIfInBounds_ne e, ← Array.getD_eq_getD_getElem?] at hk
        exact hk) hlt (by rw [hu]; rfl) (by rw [Array.getD_eq_getD_getElem?, Array.getElem?_setIfInBounds_self_of_lt hs]; rfl)
    unfold unN at hf ⊢
    omega
end
end Go.Proofs.Ytbbogkcfngpbbaa
