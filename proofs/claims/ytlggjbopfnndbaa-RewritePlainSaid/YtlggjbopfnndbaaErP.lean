/- A module without what Rewrite writes: what decides. -/
import Derived.Test.YtlggjbopfnndbaaRewR
import Derived.Test.YtlggjbopfnndbaaG19
namespace Go.Proofs.Ytlggjbopfnndbaa
open Go.RowKit
def erI (i : Ins) : Ins := { i with modeV := .bool false }
def erF (g : Fn) : Fn := ⟨⟨g.c.nm,g.c.par,none,0,0,g.c.rp,g.c.rto,g.c.rcl,none,0,0,none,0,g.c.ins.map erI⟩,g.vs,[],[]⟩
def erM (m : Mo) : Mo := ⟨none,0,none,0,m.ss,m.fs.map erF⟩
theorem erM_get (m : Mo) (f : Nat) : (erM m).fs[f]? = (m.fs[f]?).map erF := by show (m.fs.map erF)[f]? = _; rw [List.getElem?_map]
theorem firstF_map {α β : Type} (f : β → Int) (e : α → β) : ∀ l : List α,firstF f (l.map e) = firstF (fun x => f (e x)) l
  | [] => rfl
  | x :: r => by simp only [List.map_cons,firstF,firstF_map f e r]
theorem callF_er (m : Mo) (vs : List Vr) (i : Ins) : callF (erM m) vs (erI i) = callF m vs i := by
  unfold callF
  have e : (erI i).f = i.f := rfl
  rw [e,erM_get]
  cases m.fs[i.f.toNat]? <;> rfl
theorem instrF_er (m : Mo) (g : Fn) (i : Ins) : instrF (erM m) (erF g) (erI i) = instrF m g i := by
  have h1 : callF (erM m) (erF g).vs (erI i) = callF m g.vs i := callF_er m g.vs i
  have h2 : (erF g).c.ins.length = g.c.ins.length := List.length_map _
  have h3 : plainF (erM m) (erF g).vs (erI i) = plainF m g.vs i := rfl
  have h4 : readsOf (erI i) = readsOf i := rfl
  unfold instrF
  rw [h1,h2,h3,h4]
  rfl
theorem codeF_er (m : Mo) (g : Fn) : codeF (erM m) (erF g) = codeF m g := by
  have h1 : firstF (instrF (erM m) (erF g)) (erF g).c.ins = firstF (instrF m g) g.c.ins := by
    show firstF (instrF (erM m) (erF g)) (g.c.ins.map erI) = _
    rw [firstF_map]
    congr 1
    exact funext fun i => instrF_er m g i
  have h2 : (erF g).c.ins.length = g.c.ins.length := List.length_map _
  have h3 : (erF g).c.ins.getLast? = (g.c.ins.getLast?).map erI := List.getLast?_map
  unfold codeF
  rw [h1,h2,h3]
  cases g.c.ins.getLast? <;> rfl
theorem ixOf_map {α β : Type} (p : β → Bool) (e : α → β) (l : List α) : ixOf p (l.map e) = ixOf (fun x => p (e x)) l := by
  unfold ixOf
  rw [List.length_map,List.findIdx_map]
  rfl
theorem rightF_er (m : Mo) : rightF (erM m) = rightF m := by
  have h1 : twiceF (erM m) = twiceF m := by
    unfold twiceF
    show ((m.ss.any _) || _ || decide (¬ ((m.fs.map erF).map fun f => f.c.nm).Nodup)) = _
    rw [List.map_map]
    rfl
  have h2 : typesF (erM m) = typesF m := by
    unfold typesF
    show _ ++ ((m.fs.map erF).flatMap fun f => f.ret :: f.vs.map Vr.ty) = _
    rw [List.flatMap_map]
    rfl
  have h3 : (erM m).known = m.known := rfl
  have h4 : firstF (codeF (erM m)) (erM m).fs = firstF (codeF m) m.fs := by
    show firstF (codeF (erM m)) (m.fs.map erF) = _
    rw [firstF_map]
    congr 1
    exact funext fun g => codeF_er m g
  have h5 : (erM m).fnIx mainB = m.fnIx mainB := ixOf_map _ _ _
  have h6 : (erM m).fs.length = m.fs.length := List.length_map _
  have h7 : (erM m).ss = m.ss := rfl
  unfold rightF
  rw [h1,h2,h3,h4,h5,h6,h7,erM_get]
  cases m.fs[(m.fnIx mainB).toNat]? <;> rfl
theorem rewFn_er {m : Mo} {x : Nat → Nat → Nat → Bool} {f : Nat} {g g' : Fn} (h : RewFn m x f g g') : erF g' = erF g := by
  have e : g'.c.ins.map erI = g.c.ins.map erI := by
    refine List.ext_getElem? fun k => ?_
    rw [List.getElem?_map,List.getElem?_map]
    rcases Nat.lt_or_ge k g.c.ins.length with hk | hk
    · obtain ⟨i,hi⟩ : ∃ i,g.c.ins[k]? = some i := ⟨_,List.getElem?_eq_getElem hk⟩
      obtain ⟨v,hv⟩ := h.ins k i hi
      rw [hi,hv]; rfl
    · rw [List.getElem?_eq_none hk,List.getElem?_eq_none (by rw [h.len]; exact hk)]
  unfold erF
  rw [h.nm,h.par,h.rp,h.rto,h.rcl,h.vs,e]
theorem rewOf_er {m n : Mo} (h : RewOf m n) : erM n = erM m := by
  obtain ⟨h1,h2,k,_,h3⟩ := h
  have e : n.fs.map erF = m.fs.map erF := by
    refine List.ext_getElem? fun f => ?_
    rw [List.getElem?_map,List.getElem?_map]
    rcases Nat.lt_or_ge f m.fs.length with hf | hf
    · obtain ⟨g,hg⟩ : ∃ g,m.fs[f]? = some g := ⟨_,List.getElem?_eq_getElem hf⟩
      obtain ⟨g',hg',hr⟩ := h3 f g hg
      rw [hg,hg',Option.map_some,Option.map_some,rewFn_er hr]
    · rw [List.getElem?_eq_none hf,List.getElem?_eq_none (by rw [h2]; exact hf)]
  unfold erM
  rw [h1,e]
theorem rewOf_right {w w' : World} {m n : Mo} (hin : RightIn w m) (h : RewOf m n) (hn : n.inn w') : RightIn w' n := by
  obtain ⟨a1,a2,k,a3,a4⟩ := h
  have key : ∀ g' ∈ n.fs,∃ g ∈ m.fs,∃ x f,RewFn m x f g g' := by
    intro g' hg'
    obtain ⟨f,hf⟩ := List.mem_iff_getElem?.1 hg'
    have hfl : f < m.fs.length := by rw [← a2]; exact (List.getElem?_eq_some_iff.1 hf).1
    obtain ⟨g,hg⟩ : ∃ g,m.fs[f]? = some g := ⟨_,List.getElem?_eq_getElem hfl⟩
    obtain ⟨y,hy,hR⟩ := a4 f g hg
    rw [hf] at hy
    obtain rfl := Option.some.inj hy
    exact ⟨g,List.mem_of_getElem? hg,_,_,hR⟩
  refine ⟨hn,by rw [a1]; exact hin.sl,by rw [a2]; exact hin.fl,by rw [a1]; exact hin.fd,fun g' hg' => ?_,fun g' hg' i' hi' => ?_⟩
  · obtain ⟨g,hg,x,f,hR⟩ := key g' hg'
    rw [hR.vs]; exact hin.vl g hg
  · obtain ⟨g,hg,x,f,hR⟩ := key g' hg'
    obtain ⟨q,hq⟩ := List.mem_iff_getElem?.1 hi'
    have hql : q < g.c.ins.length := by rw [← hR.len]; exact (List.getElem?_eq_some_iff.1 hq).1
    obtain ⟨i,hi⟩ : ∃ i,g.c.ins[q]? = some i := ⟨_,List.getElem?_eq_getElem hql⟩
    obtain ⟨v,hv⟩ := hR.ins q i hi
    rw [hq] at hv
    rw [Option.some.inj hv]
    exact hin.al g hg i (List.mem_of_getElem? hi)
end Go.Proofs.Ytlggjbopfnndbaa
