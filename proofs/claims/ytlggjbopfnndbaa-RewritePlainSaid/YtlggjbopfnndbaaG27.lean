import Derived.Test.YtlggjbopfnndbaaG01
import Derived.OrdersHeld
import Derived.Deep.RegionHeldLaw
import Derived.Deep.Quiet
import Derived.BigQuiet
namespace Go.Proofs.Ytlggjbopfnndbaa
open Go.RowKit
section
variable {P : Program} {ops : Array Oper} {Q : Exit → Act → World → Prop} {md : Region.Mode} {S : World → Prop} {k : Nat}
inductive Leads (md : Region.Mode) (ops : Array Oper) (k : Nat) (listed : Array Bool) : Nat → Prop
 | last {i : Nat} {o : Oper} {e : Edge} : listed[i]? = some false → ops[k]? = some o → e ∈ o.after → Region.binds md e = true → e.on = i → Leads md ops k listed i
 | step {i j : Nat} {o : Oper} {e : Edge} : listed[i]? = some false → ops[j]? = some o → e ∈ o.after → Region.binds md e = true → e.on = i → Leads md ops k listed j → Leads md ops k listed i
theorem Leads.un {listed : Array Bool} {i : Nat} (h : Leads md ops k listed i) : listed[i]? = some false := by cases h <;> assumption
theorem not_ready {listed : Array Bool} {i j : Nat} {o : Oper} {e : Edge} (hu : listed[i]? = some false) (ho : ops[j]? = some o) (he : e ∈ o.after) (hb : Region.binds md e = true) (hi : e.on = i) : j ∉ Region.ready md ops listed := by
 intro hj
 obtain ⟨_,oj,hoj,hall⟩ := mem_ready.1 hj
 rw [ho] at hoj
 obtain rfl := Option.some.inj hoj
 have h1 := hall e he hb
 rw [hi] at h1
 simp [hu] at h1
theorem Leads.notReady {listed : Array Bool} {i : Nat} (h : Leads md ops k listed i) : k ∉ Region.ready md ops listed := by
 induction h with
 | last hu ho he hb hi => exact not_ready hu ho he hb hi
 | step _ _ _ _ _ _ ih => exact ih
theorem Leads.set {listed : Array Bool} {i : Nat} (h : Leads md ops k listed i) {j : Nat} (hj : j ∈ Region.ready md ops listed) (hne : j ≠ i) : Leads md ops k (listed.setIfInBounds j true) i := by
 induction h with
 | last hu ho he hb hi => exact .last (by rw [Array.getElem?_setIfInBounds_ne hne]; exact hu) ho he hb hi
 | step hu ho he hb hi hl ih => exact .step (by rw [Array.getElem?_setIfInBounds_ne hne]; exact hu) ho he hb hi (ih (fun e => by subst e; exact not_ready hu ho he hb hi hj))
def leadsB (md : Region.Mode) (ops : Array Oper) (k : Nat) (listed : Array Bool) : Nat → Nat → Bool
 | 0,_ => false
 | f + 1,i => (listed[i]? == some false) && ((ops[k]?).any (fun o => o.after.any fun e => Region.binds md e && e.on == i) ||
   (List.range ops.size).any fun j => (ops[j]?).any (fun o => o.after.any fun e => Region.binds md e && e.on == i) && leadsB md ops k listed f j)
theorem leads_of {listed : Array Bool} : ∀ (f i : Nat),leadsB md ops k listed f i = true → Leads md ops k listed i
 | 0,_,h => by simp [leadsB] at h
 | f + 1,i,h => by
  simp only [leadsB,Bool.and_eq_true,Bool.or_eq_true,beq_iff_eq,List.any_eq_true,Option.any_eq_true,Array.any_eq_true'] at h
  obtain ⟨h1,h2⟩ := h
  rcases h2 with ⟨o,ho,e,he,hb,hi⟩ | ⟨j,_,⟨o,ho,e,he,hb,hi⟩,hl⟩
  ·exact .last h1 ho he hb hi
  ·exact .step h1 ho he hb hi (leads_of f j hl)
def wpAnyK (P : Program) (md : Region.Mode) (ops : Array Oper) (Q : Exit → Act → World → Prop) (S : World → Prop) (k : Nat) : Nat → Array Bool → Act → World → Prop
 | 0,listed,a,w => Region.ready md ops listed = [] ∧ Q .normal a w
 | fuel + 1,listed,a,w =>
  (Region.ready md ops listed = [] → Q .normal a w) ∧
  ∀ i ∈ Region.ready md ops listed,wpOp P ops Q i (fun a' w' => (i ≠ k → S w') ∧ wpAnyK P md ops Q S k fuel (listed.setIfInBounds i true) a' w') a w
theorem wpAny_of_K : ∀ (fuel : Nat) (listed : Array Bool) (a : Act) (w : World),wpAnyK P md ops Q S k fuel listed a w → wpAny P md ops Q fuel listed a w
 | 0,_,_,_,h => h
 | fuel + 1,_,_,_,h => ⟨h.1,fun i hi => wpOp_mono (fun a' w' h' => wpAny_of_K fuel _ a' w' h'.2) (h.2 i hi)⟩
theorem wpAnyK_first {i : Nat} {oi : Oper} {v : Value} (hi : ops[i]? = some oi) (hsel : ∀ (j : Nat) (o : Oper) cs b,ops[j]? = some o → o.op ≠ .select cs b)
  (hQ : ∀ c a w,Q (.panic c) (a.put oi.dst v) w → Q (.panic c) a w) :
  ∀ (fuel : Nat) (listed : Array Bool) (a : Act) (w : World),
   (∀ j oj,ops[j]? = some oj → j ≠ i → listed.getD j true = false → (∀ e ∈ oj.after,Region.binds md e = true → e.on ≠ i) → oi.apart ops oj = true) →
   i ∈ Region.ready md ops listed → Leads md ops k listed i → YieldsIf P ops S oi v a → S w →
   wpAnyK P md ops Q S k fuel (listed.setIfInBounds i true) (a.put oi.dst v) w → wpAnyK P md ops Q S k (fuel + 1) listed a w := by
 intro fuel
 induction fuel with
 | zero =>
  intro listed a w _ hr _ hy hS H
  refine ⟨fun h => (by rw [h] at hr; cases hr),fun j hj => ?_⟩
  by_cases hji : j = i
  ·subst hji; exact hy.wpOp hi hS ⟨fun _ => hS,H⟩
  ·have := ready_mono hj hji
   rw [H.1] at this
   cases this
 | succ fuel ih =>
  intro listed a w hfree hr hle hy hS H
  refine ⟨fun h => (by rw [h] at hr; cases hr),fun j hj => ?_⟩
  by_cases hji : j = i
  ·subst hji; exact hy.wpOp hi hS ⟨fun _ => hS,H⟩
  ·have hjk : j ≠ k := fun e => by subst e; exact hle.notReady hj
   have h1 := H.2 j (ready_mono hj hji)
   obtain ⟨hjun,oj,hoj,hall⟩ := mem_ready.1 hj
   have hnot : ∀ e ∈ oj.after,Region.binds md e = true → e.on ≠ i := fun e he hb heq => not_ready hle.un hoj he hb heq hj
   have h2 := wpOp_putIf hoj (hfree j oj hoj hji hjun hnot) (fun cs b => hsel i oi cs b hi) (fun cs b => hsel j oj cs b hoj) hQ hy h1
   have hfree' : ∀ k ok,ops[k]? = some ok → k ≠ i → (listed.setIfInBounds j true).getD k true = false →
     (∀ e ∈ ok.after,Region.binds md e = true → e.on ≠ i) → oi.apart ops ok = true := fun k ok hk hki hun hno => by
    refine hfree k ok hk hki ?_ hno
    by_cases hjk : j = k
    ·subst hjk; exact hjun
    ·rw [getD_set_ne true hjk] at hun; exact hun
   refine wpOp_mono (fun a' w' h3 => ⟨fun _ => h3.2.1 hjk,ih (listed.setIfInBounds j true) a' w' hfree' (ready_mono hr (Ne.symm hji)) (hle.set hj hji) h3.1 (h3.2.1 hjk) ?_⟩) h2
   rw [Array.setIfInBounds_comm _ _ hji]
   exact h3.2.2
theorem wpAnyK_take {i : Nat} {oi : Oper} {v : Value} {fuel : Nat} {listed : Array Bool} {a : Act} {w : World} (hi : ops[i]? = some oi)
  (hs : Region.noSelect ops = true) (hf : Region.free md ops listed i = true) (hr : (Region.ready md ops listed).contains i = true) (hl : leadsB md ops k listed ops.size i = true)
  (hQ : ∀ c a w,Q (.panic c) (a.put oi.dst v) w → Q (.panic c) a w) (hy : YieldsIf P ops S oi v a) (hS : S w)
  (h : wpAnyK P md ops Q S k fuel (listed.setIfInBounds i true) (a.put oi.dst v) w) : wpAnyK P md ops Q S k (fuel + 1) listed a w :=
 wpAnyK_first hi (Region.noSelect_spec hs) hQ fuel listed a w (Region.free_spec hi hf) (by simpa using hr) (leads_of _ _ hl) hy hS h
theorem wpAnyK_one {i : Nat} {o : Oper} {fuel : Nat} {listed : Array Bool} {a : Act} {w : World} (hr : Region.ready md ops listed = [i]) (ho : ops[i]? = some o)
  (h : ∀ K' : Act → World → Prop,(∀ a w,(i ≠ k → S w) → wpAnyK P md ops Q S k fuel (listed.setIfInBounds i true) a w → K' a w) → if Region.wanted o (yielded ops a.tmps) = true then Oper.wp P o a w K' Q else K' (a.put o.dst undef) w) :
  wpAnyK P md ops Q S k (fuel + 1) listed a w := by
 refine ⟨fun h0 => (by rw [hr] at h0; cases h0),fun j hj => ?_⟩
 rw [hr] at hj
 obtain rfl := List.mem_singleton.1 hj
 exact wpOp_step ho (fun K' hK => h K' (fun a w hS hW => hK a w ⟨hS,hW⟩))
theorem wpAnyK_run {i : Nat} {o : Oper} {v : Value} {fuel : Nat} {listed : Array Bool} {a : Act} {w w' : World} (hr : Region.ready md ops listed = [i]) (ho : ops[i]? = some o) (hw : Region.wanted o (yielded ops a.tmps) = true)
  (hrun : (execOp a.eval o).run P w = .ok (.value v) w' ∨ ((execOp a.eval o).run P w = .ok .skip w' ∧ v = undef)) (hS : i ≠ k → S w') (h : wpAnyK P md ops Q S k fuel (listed.setIfInBounds i true) (a.put o.dst v) w') :
  wpAnyK P md ops Q S k (fuel + 1) listed a w := by
 refine wpAnyK_one hr ho fun K' hK => ?_
 rw [if_pos hw]
 unfold Oper.wp
 rcases hrun with hrun | ⟨hrun,rfl⟩
 ·rw [hrun]; exact hK _ _ hS h
 ·rw [hrun]; exact hK _ _ hS h
theorem wpAnyK_done {listed : Array Bool} {a : Act} {w : World} (hr : Region.ready md ops listed = []) (h : Q .normal a w) :
  ∀ fuel,wpAnyK P md ops Q S k fuel listed a w
 | 0 => ⟨hr,h⟩
 | _ + 1 => ⟨fun _ => h,by rw [hr]; simp⟩
theorem wp_region_K {id : Nat} {a : Act} {w : World} (k : Nat) (S : World → Prop) (hm : P.follows .mixedOrders = true)
  (h : wpAnyK P .any ops Q S k ops.size (Array.replicate ops.size false) a w.drew) : (Code.region id ops true).wp P Q a w :=
 wp_region_any hm (wpAny_of_K _ _ _ _ h)
end
end Go.Proofs.Ytlggjbopfnndbaa
namespace Go.Proofs.Ytlggjbopfnndbaa
open Go.RowKit
section
variable {P : Program} {ops : Array Oper} {md : Region.Mode} {C : World → Prop} {Q : Exit → Act → World → Prop} {k : Nat}
def wpAnyM (P : Program) (md : Region.Mode) (ops : Array Oper) (C : World → Prop) (Q : Exit → Act → World → Prop) (k : Nat) : Nat → Array Bool → Act → Prop
 | 0,_,_ => False
 | fuel + 1,listed,a => (Region.ready md ops listed = [] → False) ∧
  ∀ i ∈ Region.ready md ops listed,if i = k then (∀ w,C w → wpOp P ops Q i (wpAny P md ops Q fuel (listed.setIfInBounds i true)) a w) else qOp P ops C i (wpAnyM P md ops C Q k fuel (listed.setIfInBounds i true)) a
theorem wpAny_of_M : ∀ (fuel : Nat) (listed : Array Bool) (a : Act) (w : World),C w → wpAnyM P md ops C Q k fuel listed a → wpAny P md ops Q fuel listed a w
 | 0,_,_,_,_,h => h.elim
 | fuel + 1,listed,a,w,hw,h => by
  refine ⟨fun h0 => (h.1 h0).elim,fun i hi => ?_⟩
  have h1 := h.2 i hi
  by_cases e : i = k
  ·rw [if_pos e] at h1
   exact h1 w hw
  ·rw [if_neg e] at h1
   exact wpOp_of_qOp hw (fun a' w' hw' hK => wpAny_of_M fuel _ a' w' hw' hK) h1
theorem wpAnyM_first {i : Nat} {oi : Oper} {v : Value} (hi : ops[i]? = some oi) (hsel : ∀ (j : Nat) (o : Oper) cs b,ops[j]? = some o → o.op ≠ .select cs b) :
  ∀ (fuel : Nat) (listed : Array Bool) (a : Act),
   (∀ j oj,ops[j]? = some oj → j ≠ i → listed.getD j true = false → (∀ e ∈ oj.after,Region.binds md e = true → e.on ≠ i) → oi.apart ops oj = true) →
   i ∈ Region.ready md ops listed → Leads md ops k listed i → YieldsIn P ops C oi v a →
   wpAnyM P md ops C Q k fuel (listed.setIfInBounds i true) (a.put oi.dst v) → wpAnyM P md ops C Q k (fuel + 1) listed a := by
 intro fuel
 induction fuel with
 | zero => intro listed a _ _ _ _ H; exact H.elim
 | succ fuel ih =>
  intro listed a hfree hr hle hy H
  refine ⟨fun h => (by rw [h] at hr; cases hr),fun j hj => ?_⟩
  have hjk : j ≠ k := fun e => by subst e; exact hle.notReady hj
  rw [if_neg hjk]
  by_cases hji : j = i
  ·subst hji; exact hy.qOp hi H
  ·have h1 := H.2 j (ready_mono hj hji)
   rw [if_neg hjk] at h1
   obtain ⟨hjun,oj,hoj,hall⟩ := mem_ready.1 hj
   have hnot : ∀ e ∈ oj.after,Region.binds md e = true → e.on ≠ i := fun e he hb heq => not_ready hle.un hoj he hb heq hj
   have h2 := qOp_put hoj (hfree j oj hoj hji hjun hnot) (fun cs b => hsel i oi cs b hi) (fun cs b => hsel j oj cs b hoj) hy h1
   have hfree' : ∀ k ok,ops[k]? = some ok → k ≠ i → (listed.setIfInBounds j true).getD k true = false →
     (∀ e ∈ ok.after,Region.binds md e = true → e.on ≠ i) → oi.apart ops ok = true := fun k ok hk hki hun hno => by
    refine hfree k ok hk hki ?_ hno
    by_cases hjk : j = k
    ·subst hjk; exact hjun
    ·rw [getD_set_ne true hjk] at hun; exact hun
   refine qOp_mono (fun a' h3 => ih (listed.setIfInBounds j true) a' hfree' (ready_mono hr (Ne.symm hji)) (hle.set hj hji) h3.1 ?_) h2
   rw [Array.setIfInBounds_comm _ _ hji]
   exact h3.2
def linkB (md : Region.Mode) (ops : Array Oper) (i k : Nat) : Bool :=
 (List.range (k - i)).any fun d => (ops[i + 1 + d]?).any fun o => o.after.any fun e => Region.binds md e && e.on == i
theorem leads_links {listed : Array Bool} : ∀ (n i : Nat),i + n = k → 0 < n → (∀ j,i ≤ j → j < k → linkB md ops j k = true ∧ listed[j]? = some false) → Leads md ops k listed i
 | 0,_,_,h0,_ => absurd h0 (Nat.lt_irrefl _)
 | n + 1,i,hn,_,h => by
  obtain ⟨h1,h2⟩ := h i (Nat.le_refl _) (by omega)
  unfold linkB at h1
  simp only [List.any_eq_true,List.mem_range,Option.any_eq_true,Array.any_eq_true',Bool.and_eq_true,beq_iff_eq] at h1
  obtain ⟨d,hd,o,ho,e,he,hb,hi⟩ := h1
  by_cases e1 : i + 1 + d = k
  ·rw [e1] at ho
   exact .last h2 ho he hb hi
  ·exact .step h2 ho he hb hi (leads_links_aux n (i + 1 + d) (by omega) (by omega) fun j hj hjk => h j (by omega) hjk)
where
 leads_links_aux {listed : Array Bool} : ∀ (m i : Nat),i < k → k - i ≤ m → (∀ j,i ≤ j → j < k → linkB md ops j k = true ∧ listed[j]? = some false) → Leads md ops k listed i
  | 0,i,h1,h2,_ => absurd h2 (by omega)
  | m + 1,i,h1,h2,h => by
   obtain ⟨h3,h4⟩ := h i (Nat.le_refl _) h1
   unfold linkB at h3
   simp only [List.any_eq_true,List.mem_range,Option.any_eq_true,Array.any_eq_true',Bool.and_eq_true,beq_iff_eq] at h3
   obtain ⟨d,hd,o,ho,e,he,hb,hi⟩ := h3
   by_cases e1 : i + 1 + d = k
   ·rw [e1] at ho
    exact .last h4 ho he hb hi
   ·exact .step h4 ho he hb hi (leads_links_aux m (i + 1 + d) (by omega) (by omega) fun j hj hjk => h j (by omega) hjk)
def phaseB (md : Region.Mode) (ops : Array Oper) : Nat → Nat → Array Bool → Bool
 | 0,i,listed => Region.ready md ops listed == [i]
 | n + 1,i,listed => (Region.ready md ops listed).contains i && Region.free md ops listed i && linkB md ops i (i + n + 1) && listed[i]? == some false && phaseB md ops n (i + 1) (listed.setIfInBounds i true)
theorem phaseB_link {md : Region.Mode} {ops : Array Oper} : ∀ (n i : Nat) (listed : Array Bool),phaseB md ops n i listed = true → ∀ j,i ≤ j → j < i + n → linkB md ops j (i + n) = true ∧ listed[j]? = some false
 | 0,_,_,_,j,h1,h2 => absurd h2 (by omega)
 | n + 1,i,listed,h,j,h1,h2 => by
  simp only [phaseB,Bool.and_eq_true,beq_iff_eq] at h
  obtain ⟨⟨⟨⟨_,_⟩,h3⟩,h4⟩,h5⟩ := h
  by_cases e : j = i
  ·subst e; exact ⟨h3,h4⟩
  ·obtain ⟨a1,a2⟩ := phaseB_link n (i + 1) _ h5 j (by omega) (by omega)
   refine ⟨by rw [show i + (n + 1) = i + 1 + n from by omega]; exact a1,?_⟩
   rw [Array.getElem?_setIfInBounds_ne (fun e' => e e'.symm)] at a2
   exact a2
def setAll : Nat → Nat → Array Bool → Array Bool
 | 0,i,listed => listed.setIfInBounds i true
 | n + 1,i,listed => setAll n (i + 1) (listed.setIfInBounds i true)
theorem wpAnyM_lex {Qf : Act → Prop} (hs : Region.noSelect ops = true) {fuel : Nat} : ∀ (l : List Oper) (i : Nat) (listed : Array Bool) (a : Act),i + l.length = k → (∀ j,j < l.length → l[j]? = ops[i + j]?) →
  phaseB md ops l.length i listed = true → (∀ a w,Qf a → C w → wpOp P ops Q k (wpAny P md ops Q fuel (setAll l.length i listed)) a w) →
  wpQuiet P ops C Qf l a → wpAnyM P md ops C Q k (l.length + 1 + fuel) listed a
 | [],i,listed,a,hik,_,hB,hQ,h => by
  have hik' : i = k := by simpa using hik
  subst hik'
  simp only [List.length_nil,phaseB,beq_iff_eq] at hB
  rw [show ([] : List Oper).length + 1 + fuel = fuel + 1 from by simp; omega]
  refine ⟨fun h0 => (by rw [hB] at h0; cases h0),fun j hj => ?_⟩
  rw [hB] at hj
  obtain rfl := List.mem_singleton.1 hj
  rw [if_pos rfl]
  intro w hw
  exact hQ a w h hw
 | o :: l,i,listed,a,hik,hl,hB,hQ,h => by
  have hB0 := hB
  have h0 : ops[i]? = some o := by have := hl 0 (by simp); simpa using this.symm
  simp only [List.length_cons,phaseB,Bool.and_eq_true] at hB
  obtain ⟨⟨⟨⟨hr,hf⟩,_⟩,_⟩,hB'⟩ := hB
  have hst : qOp P ops C i (wpQuiet P ops C Qf l) a := by unfold qOp; simp only [h0]; exact h
  obtain ⟨v,hy,hK⟩ := yieldsIn_of_qOp h0 hst
  have hlen : (o :: l).length = l.length + 1 := rfl
  rw [show (o :: l).length + 1 + fuel = (l.length + 1 + fuel) + 1 from by rw [hlen]; omega]
  refine wpAnyM_first h0 (Region.noSelect_spec hs) _ listed a (Region.free_spec h0 hf) (by simpa using hr) ?_ hy
   (wpAnyM_lex hs l (i + 1) _ _ (by rw [hlen] at hik; omega) (fun j hj => by have := hl (j + 1) (by rw [hlen]; omega); simpa [Nat.add_assoc,Nat.add_comm 1 j] using this) hB' hQ hK)
  refine leads_links (o :: l).length i hik (by rw [hlen]; omega) fun j h1 h2 => ?_
  have := phaseB_link _ _ _ hB0 j h1 (by omega)
  rw [hik] at this
  exact this
theorem wpAny_phase {fuel : Nat} {listed : Array Bool} {a : Act} {w : World} (l : List Oper) (i : Nat) (hs : Region.noSelect ops = true) (hB : phaseB md ops l.length i listed = true) (hl : (ops.toList.drop i).take l.length = l) (C : World → Prop) (hC : C w) (listed' : Array Bool)
  (hL : setAll l.length i listed = listed')
  (h : wpQuiet P ops C (fun a' => ∀ w,C w → wpOp P ops Q (i + l.length) (wpAny P md ops Q fuel listed') a' w) l a) : wpAny P md ops Q (l.length + 1 + fuel) listed a w := by
 refine wpAny_of_M (k := i + l.length) _ _ _ _ hC (wpAnyM_lex hs l i listed a rfl (fun j hj => ?_) hB (fun a' w' hq hw' => ?_) h)
 ·have h1 : l[j]? = ((ops.toList.drop i).take l.length)[j]? := by rw [hl]
  rw [h1,List.getElem?_take,if_pos hj,List.getElem?_drop]
  simp
 ·rw [hL]; exact hq w' hw'
theorem wpAny_last {listed : Array Bool} {a : Act} {w : World} (l : List Oper) (i : Nat) (hs : Region.noSelect ops = true) (hB : Region.lexFrom md ops l.length i listed = true) (hl : ops.toList.drop i = l) (C : World → Prop) (hC : C w)
  (h : wpQuiet P ops C (fun a' => ∀ w',C w' → Q .normal a' w') l a) : wpAny P md ops Q l.length listed a w := by
 refine wpAny_of_quiet (Q := fun a' => ∀ w',C w' → Q .normal a' w') (fun _ w' hw' h => h w' hw') _ _ _ _ hC (wpAnyQ_lex hs l i listed a (fun j => ?_) hB h)
 rw [← hl,List.getElem?_drop]; simp
section
variable {l : List Oper}
theorem wp_region_phase {id : Nat} {a : Act} {w : World} (n fuel : Nat) (hn : l.length = n + 1 + fuel) (hm : P.follows .mixedOrders = true) (hs : Region.noSelect l.toArray = true) (hB : phaseB .any l.toArray n 0 (Array.replicate (n + 1 + fuel) false) = true) (C : World → Prop) (hC : C w.drew)
  (h : wpQuiet P l.toArray C (fun a' => ∀ w,C w → wpOp P l.toArray Q n (wpAny P .any l.toArray Q fuel (setAll n 0 (Array.replicate (n + 1 + fuel) false))) a' w) (l.take n) a) : (Code.region id l.toArray true).wp P Q a w := by
 refine wp_region_any hm ?_
 have hln : (l.take n).length = n := by rw [List.length_take]; omega
 have hsz : l.toArray.size = n + 1 + fuel := by simpa using hn
 rw [hsz]
 have := wpAny_phase (P := P) (ops := l.toArray) (md := .any) (Q := Q) (fuel := fuel) (listed := Array.replicate (n + 1 + fuel) false) (a := a) (w := w.drew) (l.take n) 0 hs (by rw [hln]; exact hB) (by rw [hln]; simp) C hC _ rfl (by rw [hln,Nat.zero_add]; exact h)
 rw [hln] at this
 exact this
theorem wpAny_next {listed : Array Bool} {a : Act} {w : World} {fuel0 : Nat} (i n fuel : Nat) (hf : fuel0 = n + 1 + fuel) (hn : l.length = i + n + 1 + fuel) (hs : Region.noSelect l.toArray = true) (hB : phaseB md l.toArray n i listed = true) (C : World → Prop) (hC : C w)
  (h : wpQuiet P l.toArray C (fun a' => ∀ w,C w → wpOp P l.toArray Q (i + n) (wpAny P md l.toArray Q fuel (setAll n i listed)) a' w) ((l.drop i).take n) a) : wpAny P md l.toArray Q fuel0 listed a w := by
 subst hf
 have hln : ((l.drop i).take n).length = n := by rw [List.length_take,List.length_drop]; omega
 have := wpAny_phase (P := P) (ops := l.toArray) (md := md) (Q := Q) (fuel := fuel) (listed := listed) (a := a) (w := w) ((l.drop i).take n) i hs (by rw [hln]; exact hB) (by rw [hln]) C hC _ rfl (by rw [hln]; exact h)
 rw [hln] at this
 exact this
theorem wpAny_end {listed : Array Bool} {a : Act} {w : World} {fuel0 : Nat} (i : Nat) (hn : l.length = i + fuel0) (hs : Region.noSelect l.toArray = true) (hB : Region.lexFrom md l.toArray fuel0 i listed = true) (C : World → Prop) (hC : C w)
  (h : wpQuiet P l.toArray C (fun a' => ∀ w',C w' → Q .normal a' w') (l.drop i) a) : wpAny P md l.toArray Q fuel0 listed a w := by
 have hln : (l.drop i).length = fuel0 := by rw [List.length_drop]; omega
 have := wpAny_last (P := P) (ops := l.toArray) (md := md) (Q := Q) (listed := listed) (a := a) (w := w) (l.drop i) i hs (by rw [hln]; exact hB) (by simp) C hC h
 rw [hln] at this
 exact this
end
theorem wpOp_run {i : Nat} {o : Oper} {a : Act} {w w' : World} {v : Value} {K : Act → World → Prop} (ho : ops[i]? = some o) (hw : Region.wanted o (yielded ops a.tmps) = true)
  (hrun : (execOp a.eval o).run P w = .ok (.value v) w' ∨ ((execOp a.eval o).run P w = .ok .skip w' ∧ v = undef)) (h : K (a.put o.dst v) w') : wpOp P ops Q i K a w := by
 refine wpOp_step ho fun K' hK => ?_
 rw [if_pos hw]
 unfold Oper.wp
 rcases hrun with hrun | ⟨hrun,rfl⟩
 ·rw [hrun]; exact hK _ _ h
 ·rw [hrun]; exact hK _ _ h
end
end Go.Proofs.Ytlggjbopfnndbaa
