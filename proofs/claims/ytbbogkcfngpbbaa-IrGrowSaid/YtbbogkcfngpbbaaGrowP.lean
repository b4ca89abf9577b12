/- IrGrow, plain: a module that is right is so with one variable more in each function. -/
import Derived.Test.YtbbogkcfngpbbaaIrK
namespace Go.Proofs.Ytbbogkcfngpbbaa
open Go.RowKit

def zVr : Vr := ⟨false, ⟨#[]⟩, 0⟩

/-- g is f with one variable more. -/
structure Grown (f g : Fn) : Prop where
  nm : g.c.nm = f.c.nm
  par : g.c.par = f.c.par
  rp : g.c.rp = f.c.rp
  rto : g.c.rto = f.c.rto
  ins : g.c.ins = f.c.ins
  vs : g.vs = f.vs ++ [zVr]

theorem Grown.ret {f g : Fn} (h : Grown f g) : g.ret = f.ret := by unfold Fn.ret; rw [h.rp, h.rto]

/-- n is m with one variable more in each function. -/
structure GrownM (m n : Mo) : Prop where
  ss : n.ss = m.ss
  len : n.fs.length = m.fs.length
  at_ : ∀ (k : Nat) (f g : Fn), m.fs[k]? = some f → n.fs[k]? = some g → Grown f g

theorem tyAt_app {vs : List Vr} {v : Int} (h : isVar vs.length v = true) (x : Vr) : tyAt (vs ++ [x]) v = tyAt vs v := by
  have h' := isVar_iff.1 h
  unfold tyAt
  rw [List.getElem?_append_left (by omega)]

theorem isVar_up {n : Nat} {v : Int} (h : isVar n v = true) : isVar (n + 1) v = true := by
  rw [isVar_iff] at h ⊢; omega

theorem thereF_up {n : Nat} {l : List Int} (h : thereF n l = true) : thereF (n + 1) l = true :=
  List.all_eq_true.2 fun v hv => isVar_up (List.all_eq_true.1 h v hv)

theorem stIx_ss {m n : Mo} (h : n.ss = m.ss) (nm : ByteArray) : n.stIx nm = m.stIx nm := by unfold Mo.stIx; rw [h]

theorem fieldF_app {m n : Mo} {vs : List Vr} {v f : Int} (hs : n.ss = m.ss) (h : isVar vs.length v = true) (x : Vr) : fieldF n (vs ++ [x]) v f = fieldF m vs v f := by
  unfold fieldF
  rw [tyAt_app h, stIx_ss hs, hs]

theorem heapF_app {m n : Mo} {vs : List Vr} {i : Ins} {o : Int} {p : Bool} (hs : n.ss = m.ss) (h : isVar vs.length i.a = true) (ho : isVar vs.length o = true) (x : Vr) : heapF n (vs ++ [x]) i o p = heapF m vs i o p := by
  unfold heapF
  rw [fieldF_app hs h, tyAt_app ho]

theorem argsF_app {vs gs : List Vr} (x y : Vr) : ∀ (k : Nat) (l : List Int), (∀ a ∈ l, isVar vs.length a = true) → k + l.length ≤ gs.length → argsF (vs ++ [x]) (gs ++ [y]) k l = argsF vs gs k l
  | _, [], _, _ => rfl
  | k, a :: r, h, hl => by
    simp at hl
    unfold argsF
    rw [tyAt_app (h a (by simp)), tyAt_app (by rw [isVar_iff]; omega), argsF_app x y (k + 1) r (fun b hb => h b (by simp [hb])) (by omega)]

theorem numsF_app {vs : List Vr} {l : List Int} (h : ∀ a ∈ l, isVar vs.length a = true) (x : Vr) : numsF (vs ++ [x]) l = numsF vs l := by
  unfold numsF
  congr 1
  rw [Bool.eq_iff_iff, List.all_eq_true, List.all_eq_true]
  exact ⟨fun q a ha => by rw [← tyAt_app (h a ha) x]; exact q a ha, fun q a ha => by rw [tyAt_app (h a ha) x]; exact q a ha⟩

theorem callF_app {m n : Mo} {vs : List Vr} {i : Ins} (G : GrownM m n) (hi : ∀ a ∈ i.args, isVar vs.length a = true) (hd : isVar vs.length i.d = true) (h : callF m vs i = 0) (x : Vr) : callF n (vs ++ [x]) i = 0 := by
  unfold callF at h ⊢
  by_cases h1 : i.f < 0
  · rw [if_pos h1] at h; exact absurd h (by decide)
  rw [if_neg h1] at h ⊢
  cases hm : m.fs[i.f.toNat]? with
  | none => rw [hm] at h; exact absurd (show (15 : Int) = 0 from h) (by decide)
  | some g =>
    have hlt := (List.getElem?_eq_some_iff.1 hm).1
    obtain ⟨g', hg'⟩ : ∃ g', n.fs[i.f.toNat]? = some g' := ⟨_, List.getElem?_eq_getElem (by rw [G.len]; exact hlt)⟩
    have A := G.at_ _ _ _ hm hg'
    rw [hm] at h
    rw [hg']
    simp only at h ⊢
    by_cases h2 : (i.args.length : Int) ≠ g.c.par ∨ (g.vs.length : Int) < g.c.par
    · rw [if_pos h2] at h; exact absurd h (by decide)
    rw [if_neg h2] at h
    have h3 : (i.args.length : Int) = g.c.par := Classical.byContradiction fun e => h2 (.inl e)
    have h4 : ¬ (g.vs.length : Int) < g.c.par := fun e => h2 (.inr e)
    rw [if_neg (by rw [A.par, A.vs]; rintro (e | e); exact e h3; simp at e; omega)]
    by_cases h5 : argsF vs g.vs 0 i.args = false
    · rw [if_pos h5] at h; exact absurd h (by decide)
    rw [if_neg h5] at h
    rw [A.vs, argsF_app _ _ 0 i.args hi (by omega), if_neg h5, tyAt_app hd, A.ret]
    exact h

theorem instrF_app {m n : Mo} {f g : Fn} {i : Ins} (G : GrownM m n) (A : Grown f g) (h : instrF m f i = 0) : instrF n g i = 0 := by
  unfold instrF at h ⊢
  by_cases h1 : i.op < 1 ∨ 18 < i.op
  · rw [if_pos h1] at h; exact absurd h (by decide)
  rw [if_neg h1] at h ⊢
  by_cases h2 : thereF f.vs.length (readsOf i ++ (if shD i.op = true then [i.d] else [])) = false
  · rw [if_pos h2] at h; exact absurd h (by decide)
  rw [if_neg h2] at h
  have ht : thereF f.vs.length (readsOf i ++ (if shD i.op = true then [i.d] else [])) = true := by simpa using h2
  have hl : g.vs.length = f.vs.length + 1 := by rw [A.vs]; simp
  rw [if_neg (by rw [hl, thereF_up ht]; simp)]
  have ha : shA i.op = true → isVar f.vs.length i.a = true := fun e => there_all ht (by simp [readsOf, e])
  have hb : shB i.op = true → isVar f.vs.length i.b = true := fun e => there_all ht (by simp [readsOf, e])
  have hd : shD i.op = true → isVar f.vs.length i.d = true := fun e => there_all ht (by simp [e])
  have hr : i.op = 15 → ∀ a ∈ i.args, isVar f.vs.length a = true := fun e a hm => there_all ht (by simp [readsOf, e, hm])
  rw [A.vs, A.ins, A.ret]
  have hops : i.op = 1 ∨ i.op = 2 ∨ i.op = 3 ∨ i.op = 4 ∨ i.op = 5 ∨ i.op = 6 ∨ i.op = 7 ∨ i.op = 8 ∨ i.op = 9 ∨ i.op = 10 ∨ i.op = 11 ∨ i.op = 12 ∨ i.op = 13 ∨ i.op = 14 ∨ i.op = 15 ∨ i.op = 16 ∨ i.op = 17 ∨ i.op = 18 := by omega
  clear h1 h2 ht hl
  rcases hops with e | e | e | e | e | e | e | e | e | e | e | e | e | e | e | e | e | e <;>
    rw [e] at ha hb hd <;> simp [shA] at ha <;> simp [shB] at hb <;> simp [shD] at hd <;>
    simp [e, plainF] at h ⊢
  all_goals first
    | exact h
    | (rw [numsF_app (by simp [*])]; exact h)
    | (rw [tyAt_app hd]; exact h)
    | (rw [tyAt_app ha]; exact h)
    | (rw [heapF_app G.ss ha hd]; exact h)
    | (rw [heapF_app G.ss ha hb]; exact h)
    | (rw [tyAt_app ha, tyAt_app hd]; exact h)
    | (rw [G.ss, tyAt_app hd]; exact h)
    | (exact callF_app G (hr e) hd h _)
    | skip
end Go.Proofs.Ytbbogkcfngpbbaa
