/- A region that draws its order and ends in one store that waits for all that reads: a load may be taken first, though the store overwrites what it read. -/
import Derived.Test.YtbbogkcfngpbbaaSep
import Derived.OrdersHeld
import Derived.Deep.RegionHeldLaw
namespace Go.Proofs.Ytbbogkcfngpbbaa
open Go.RowKit

section
variable {P : Program} {ops : Array Oper} {Q : Exit → Act → World → Prop} {md : Region.Mode} {S : World → Prop} {k : Nat}

/-- Operation i has not come up, and operation k waits for it, directly or through others that have not come up. -/
inductive Leads (md : Region.Mode) (ops : Array Oper) (k : Nat) (listed : Array Bool) : Nat → Prop
  | last {i : Nat} {o : Oper} {e : Edge} : listed[i]? = some false → ops[k]? = some o → e ∈ o.after → Region.binds md e = true → e.on = i → Leads md ops k listed i
  | step {i j : Nat} {o : Oper} {e : Edge} : listed[i]? = some false → ops[j]? = some o → e ∈ o.after → Region.binds md e = true → e.on = i → Leads md ops k listed j → Leads md ops k listed i

theorem Leads.un {listed : Array Bool} {i : Nat} (h : Leads md ops k listed i) : listed[i]? = some false := by cases h <;> assumption

theorem not_ready {listed : Array Bool} {i j : Nat} {o : Oper} {e : Edge} (hu : listed[i]? = some false) (ho : ops[j]? = some o) (he : e ∈ o.after) (hb : Region.binds md e = true) (hi : e.on = i) : j ∉ Region.ready md ops listed := by
  intro hj
  obtain ⟨_, oj, hoj, hall⟩ := mem_ready.1 hj
  rw [ho] at hoj
  obtain rfl := Option.some.inj hoj
  have h1 := hall e he hb
  rw [hi] at h1
  simp [hu] at h1

theorem Leads.notReady {listed : Array Bool} {i : Nat} (h : Leads md ops k listed i) : k ∉ Region.ready md ops listed := by
  induction h with
  | last hu ho he hb hi => exact not_ready hu ho he hb hi
  | step _ _ _ _ _ _ ih => exact ih

theorem Leads.set {listed : Array Bool} {i : Nat} (h : Leads md ops k listed i) {j : Nat} (hj : j ∈ Region.ready md ops listed) (hne : j ≠ i) : Leads md ops k (listed.setIfInBounds j true) i := by
  induction h with
  | last hu ho he hb hi => exact .last (by rw [Array.getElem?_setIfInBounds_ne hne]; exact hu) ho he hb hi
  | step hu ho he hb hi hl ih => exact .step (by rw [Array.getElem?_setIfInBounds_ne hne]; exact hu) ho he hb hi (ih (fun e => by subst e; exact not_ready hu ho he hb hi hj))

/-- Does it? -/
def leadsB (md : Region.Mode) (ops : Array Oper) (k : Nat) (listed : Array Bool) : Nat → Nat → Bool
  | 0, _ => false
  | f + 1, i => (listed[i]? == some false) && ((ops[k]?).any (fun o => o.after.any fun e => Region.binds md e && e.on == i) ||
      (List.range ops.size).any fun j => (ops[j]?).any (fun o => o.after.any fun e => Region.binds md e && e.on == i) && leadsB md ops k listed f j)

theorem leads_of {listed : Array Bool} : ∀ (f i : Nat), leadsB md ops k listed f i = true → Leads md ops k listed i
  | 0, _, h => by simp [leadsB] at h
  | f + 1, i, h => by
    simp only [leadsB, Bool.and_eq_true, Bool.or_eq_true, beq_iff_eq, List.any_eq_true, Option.any_eq_true, Array.any_eq_true'] at h
    obtain ⟨h1, h2⟩ := h
    rcases h2 with ⟨o, ho, e, he, hb, hi⟩ | ⟨j, _, ⟨o, ho, e, he, hb, hi⟩, hl⟩
    · exact .last h1 ho he hb hi
    · exact .step h1 ho he hb hi (leads_of f j hl)

/-- Whatever order is picked from here on, and S holds behind every operation but k. -/
def wpAnyK (P : Program) (md : Region.Mode) (ops : Array Oper) (Q : Exit → Act → World → Prop) (S : World → Prop) (k : Nat) : Nat → Array Bool → Act → World → Prop
  | 0, listed, a, w => Region.ready md ops listed = [] ∧ Q .normal a w
  | fuel + 1, listed, a, w =>
    (Region.ready md ops listed = [] → Q .normal a w) ∧
    ∀ i ∈ Region.ready md ops listed, wpOp P ops Q i (fun a' w' => (i ≠ k → S w') ∧ wpAnyK P md ops Q S k fuel (listed.setIfInBounds i true) a' w') a w

theorem wpAny_of_K : ∀ (fuel : Nat) (listed : Array Bool) (a : Act) (w : World), wpAnyK P md ops Q S k fuel listed a w → wpAny P md ops Q fuel listed a w
  | 0, _, _, _, h => h
  | fuel + 1, _, _, _, h => ⟨h.1, fun i hi => wpOp_mono (fun a' w' h' => wpAny_of_K fuel _ a' w' h'.2) (h.2 i hi)⟩

theorem wpAnyK_first {i : Nat} {oi : Oper} {v : Value} (hi : ops[i]? = some oi) (hsel : ∀ (j : Nat) (o : Oper) cs b, ops[j]? = some o → o.op ≠ .select cs b)
    (hQ : ∀ c a w, Q (.panic c) (a.put oi.dst v) w → Q (.panic c) a w) :
    ∀ (fuel : Nat) (listed : Array Bool) (a : Act) (w : World),
      (∀ j oj, ops[j]? = some oj → j ≠ i → listed.getD j true = false → (∀ e ∈ oj.after, Region.binds md e = true → e.on ≠ i) → oi.apart ops oj = true) →
      i ∈ Region.ready md ops listed → Leads md ops k listed i → YieldsIf P ops S oi v a → S w →
      wpAnyK P md ops Q S k fuel (listed.setIfInBounds i true) (a.put oi.dst v) w → wpAnyK P md ops Q S k (fuel + 1) listed a w := by
  intro fuel
  induction fuel with
  | zero =>
    intro listed a w _ hr _ hy hS H
    refine ⟨fun h => (by rw [h] at hr; cases hr), fun j hj => ?_⟩
    by_cases hji : j = i
    · subst hji; exact hy.wpOp hi hS ⟨fun _ => hS, H⟩
    · have := ready_mono hj hji
      rw [H.1] at this
      cases this
  | succ fuel ih =>
    intro listed a w hfree hr hle hy hS H
    refine ⟨fun h => (by rw [h] at hr; cases hr), fun j hj => ?_⟩
    by_cases hji : j = i
    · subst hji; exact hy.wpOp hi hS ⟨fun _ => hS, H⟩
    · have hjk : j ≠ k := fun e => by subst e; exact hle.notReady hj
      have h1 := H.2 j (ready_mono hj hji)
      obtain ⟨hjun, oj, hoj, hall⟩ := mem_ready.1 hj
      have hnot : ∀ e ∈ oj.after, Region.binds md e = true → e.on ≠ i := fun e he hb heq => not_ready hle.un hoj he hb heq hj
      have h2 := wpOp_putIf hoj (hfree j oj hoj hji hjun hnot) (fun cs b => hsel i oi cs b hi) (fun cs b => hsel j oj cs b hoj) hQ hy h1
      have hfree' : ∀ k ok, ops[k]? = some ok → k ≠ i → (listed.setIfInBounds j true).getD k true = false →
          (∀ e ∈ ok.after, Region.binds md e = true → e.on ≠ i) → oi.apart ops ok = true := fun k ok hk hki hun hno => by
        refine hfree k ok hk hki ?_ hno
        by_cases hjk : j = k
        · subst hjk; exact hjun
        · rw [getD_set_ne true hjk] at hun; exact hun
      refine wpOp_mono (fun a' w' h3 => ⟨fun _ => h3.2.1 hjk, ih (listed.setIfInBounds j true) a' w' hfree' (ready_mono hr (Ne.symm hji)) (hle.set hj hji) h3.1 (h3.2.1 hjk) ?_⟩) h2
      rw [Array.setIfInBounds_comm _ _ hji]
      exact h3.2.2

/-- Take number i first: it yields v in every world that meets S. -/
theorem wpAnyK_take {i : Nat} {oi : Oper} {v : Value} {fuel : Nat} {listed : Array Bool} {a : Act} {w : World} (hi : ops[i]? = some oi)
    (hs : Region.noSelect ops = true) (hf : Region.free md ops listed i = true) (hr : (Region.ready md ops listed).contains i = true) (hl : leadsB md ops k listed ops.size i = true)
    (hQ : ∀ c a w, Q (.panic c) (a.put oi.dst v) w → Q (.panic c) a w) (hy : YieldsIf P ops S oi v a) (hS : S w)
    (h : wpAnyK P md ops Q S k fuel (listed.setIfInBounds i true) (a.put oi.dst v) w) : wpAnyK P md ops Q S k (fuel + 1) listed a w :=
  wpAnyK_first hi (Region.noSelect_spec hs) hQ fuel listed a w (Region.free_spec hi hf) (by simpa using hr) (leads_of _ _ hl) hy hS h

/-- Number i alone may come up. -/
theorem wpAnyK_one {i : Nat} {o : Oper} {fuel : Nat} {listed : Array Bool} {a : Act} {w : World} (hr : Region.ready md ops listed = [i]) (ho : ops[i]? = some o)
    (h : ∀ K' : Act → World → Prop, (∀ a w, (i ≠ k → S w) → wpAnyK P md ops Q S k fuel (listed.setIfInBounds i true) a w → K' a w) → if Region.wanted o (yielded ops a.tmps) = true then Oper.wp P o a w K' Q else K' (a.put o.dst undef) w) :
    wpAnyK P md ops Q S k (fuel + 1) listed a w := by
  refine ⟨fun h0 => (by rw [hr] at h0; cases h0), fun j hj => ?_⟩
  rw [hr] at hj
  obtain rfl := List.mem_singleton.1 hj
  exact wpOp_step ho (fun K' hK => h K' (fun a w hS hW => hK a w ⟨hS, hW⟩))

/-- Number i alone may come up: it runs to its end. -/
theorem wpAnyK_run {i : Nat} {o : Oper} {v : Value} {fuel : Nat} {listed : Array Bool} {a : Act} {w w' : World} (hr : Region.ready md ops listed = [i]) (ho : ops[i]? = some o) (hw : Region.wanted o (yielded ops a.tmps) = true)
    (hrun : (execOp a.eval o).run P w = .ok (.value v) w' ∨ ((execOp a.eval o).run P w = .ok .skip w' ∧ v = undef)) (hS : i ≠ k → S w') (h : wpAnyK P md ops Q S k fuel (listed.setIfInBounds i true) (a.put o.dst v) w') :
    wpAnyK P md ops Q S k (fuel + 1) listed a w := by
  refine wpAnyK_one hr ho fun K' hK => ?_
  rw [if_pos hw]
  unfold Oper.wp
  rcases hrun with hrun | ⟨hrun, rfl⟩
  · rw [hrun]; exact hK _ _ hS h
  · rw [hrun]; exact hK _ _ hS h

theorem wpAnyK_done {listed : Array Bool} {a : Act} {w : World} (hr : Region.ready md ops listed = []) (h : Q .normal a w) :
    ∀ fuel, wpAnyK P md ops Q S k fuel listed a w
  | 0 => ⟨hr, h⟩
  | _ + 1 => ⟨fun _ => h, by rw [hr]; simp⟩

/-- The beginning. -/
theorem wp_region_K {id : Nat} {a : Act} {w : World} (k : Nat) (S : World → Prop) (hm : P.follows .mixedOrders = true)
    (h : wpAnyK P .any ops Q S k ops.size (Array.replicate ops.size false) a w.drew) : (Code.region id ops true).wp P Q a w :=
  wp_region_any hm (wpAny_of_K _ _ _ _ h)
end
end Go.Proofs.Ytbbogkcfngpbbaa
