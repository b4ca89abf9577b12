/- IrGrow, plain: what it says of a module that is right. -/
import Derived.Test.YtbbogkcfngpbbaaGrowP
import Derived.Test.YtbbogkcfngpbbaaIrL
import Derived.Test.YtbbogkcfngpbbaaSmF0
namespace Go.Proofs.Ytbbogkcfngpbbaa
open Go.RowKit

theorem firstF_iff {α : Type} {f : α → Int} : ∀ {l : List α}, firstF f l = 0 ↔ ∀ y ∈ l, f y = 0
  | [] => by simp [firstF]
  | x :: r => by
    unfold firstF
    by_cases h : f x = 0
    · rw [if_pos h, firstF_iff]
      exact ⟨fun hh y hy => by rcases List.mem_cons.1 hy with rfl | hy; exact h; exact hh y hy, fun hh y hy => hh y (by simp [hy])⟩
    · rw [if_neg h]
      exact ⟨fun e => absurd e h, fun hh => absurd (hh x (by simp)) h⟩

theorem unl_zero {b : Bool} {f : Int} (hf : f ≠ 0) (h : unl b f = 0) : b = true := by
  cases b with
  | true => rfl
  | false => exact absurd h hf

/-- What ir.Right's yes says. -/
structure RightP (m : Mo) : Prop where
  ns : m.ss.length ≤ 30
  nf : m.fs.length ≤ 60
  once : twiceF m = false
  known : (typesF m).all m.known = true
  code : ∀ f ∈ m.fs, codeF m f = 0
  main : (decide (0 ≤ m.fnIx mainB) && (match m.fs[(m.fnIx mainB).toNat]? with
    | some g => decide (g.c.par = 0) && !g.c.rp
    | none => false)) = true

theorem right_iff {m : Mo} : rightF m = 0 ↔ RightP m := by
  constructor
  · intro h
    unfold rightF at h
    by_cases h1 : 30 < m.ss.length ∨ 60 < m.fs.length
    · rw [if_pos h1] at h; exact absurd h (by decide)
    rw [if_neg h1] at h
    by_cases h2 : twiceF m = true
    · rw [if_pos h2] at h; exact absurd h (by decide)
    rw [if_neg h2] at h
    by_cases h3 : (typesF m).all m.known = false
    · rw [if_pos h3] at h; exact absurd h (by decide)
    rw [if_neg h3] at h
    by_cases h4 : firstF (codeF m) m.fs ≠ 0
    · rw [if_pos h4] at h; exact absurd h h4
    rw [if_neg h4] at h
    exact ⟨by omega, by omega, by simpa using h2, by simpa using h3, firstF_iff.1 (Classical.not_not.1 h4), unl_zero (by decide) h⟩
  · rintro ⟨h1, h2, h3, h4, h5, h6⟩
    unfold rightF
    rw [if_neg (by omega), if_neg (by rw [h3]; decide), if_neg (by rw [h4]; decide), if_neg (by rw [firstF_iff.2 h5]; decide)]
    have q : ∀ b : Bool, b = true → unl b 9 = 0 := by rintro _ rfl; rfl
    exact q _ h6

theorem GrownM.map {m n : Mo} {β : Type} (G : GrownM m n) (p : Fn → β) (hp : ∀ f g, Grown f g → p g = p f) : n.fs.map p = m.fs.map p := by
  apply List.ext_getElem?
  intro k
  rw [List.getElem?_map, List.getElem?_map]
  cases hm : m.fs[k]? with
  | none =>
    have : n.fs[k]? = none := by rw [List.getElem?_eq_none_iff] at hm ⊢; rw [G.len]; exact hm
    rw [this]
  | some f =>
    have hlt := (List.getElem?_eq_some_iff.1 hm).1
    obtain ⟨g, hg⟩ : ∃ g, n.fs[k]? = some g := ⟨_, List.getElem?_eq_getElem (by rw [G.len]; exact hlt)⟩
    rw [hg]; simp [hp f g (G.at_ k f g hm hg)]

theorem GrownM.back {m n : Mo} (G : GrownM m n) {g : Fn} (h : g ∈ n.fs) : ∃ f ∈ m.fs, Grown f g := by
  obtain ⟨k, hk⟩ := List.mem_iff_getElem?.1 h
  have hlt := (List.getElem?_eq_some_iff.1 hk).1
  obtain ⟨f, hf⟩ : ∃ f, m.fs[k]? = some f := ⟨_, List.getElem?_eq_getElem (by rw [← G.len]; exact hlt)⟩
  exact ⟨f, List.mem_of_getElem? hf, G.at_ k f g hf hk⟩

theorem known_ss {m n : Mo} (h : n.ss = m.ss) (t : Ty) : n.known t = m.known t := by unfold Mo.known; rw [stIx_ss h]

theorem ixOf_map {α β : Type} (p : β → Bool) (f : α → β) (l : List α) : ixOf p (l.map f) = ixOf (fun x => p (f x)) l := by
  unfold ixOf
  rw [List.findIdx_map, List.length_map]
  rfl

theorem fnIx_grown {m n : Mo} (G : GrownM m n) (nm : ByteArray) : n.fnIx nm = m.fnIx nm := by
  unfold Mo.fnIx
  have h1 : ∀ fs : List Fn, ixOf (fun f : Fn => f.c.nm == nm) fs = ixOf (fun x => x == nm) (fs.map fun f => f.c.nm) := fun fs => (ixOf_map (fun x => x == nm) (fun f : Fn => f.c.nm) fs).symm
  rw [h1, h1, G.map (fun f => f.c.nm) (fun f g A => A.nm)]

/-- **A module that is right is so with one variable more in each function.** -/
theorem grow_right {m n : Mo} (G : GrownM m n) (h : rightF m = 0) (hv : ∀ f ∈ m.fs, f.vs.length < 300) : rightF n = 0 := by
  have R := right_iff.1 h
  refine right_iff.2 ⟨by rw [G.ss]; exact R.ns, by rw [G.len]; exact R.nf, ?_, ?_, ?_, ?_⟩
  · have := R.once
    unfold twiceF at this ⊢
    rw [G.ss, G.map (fun f => f.c.nm) (fun f g A => A.nm)]
    exact this
  · rw [List.all_eq_true]
    intro t ht
    rw [known_ss G.ss]
    have hk := List.all_eq_true.1 R.known
    unfold typesF at ht
    rcases List.mem_append.1 ht with h1 | h1
    · rw [G.ss] at h1
      exact hk t (List.mem_append.2 (.inl h1))
    · obtain ⟨g, hg, h2⟩ := List.mem_flatMap.1 h1
      obtain ⟨f, hf, A⟩ := G.back hg
      rw [A.ret, A.vs, List.map_append] at h2
      have hold : ∀ u, u ∈ f.ret :: f.vs.map Vr.ty → m.known u = true := fun u hu => hk u (List.mem_append.2 (.inr (List.mem_flatMap.2 ⟨f, hf, hu⟩)))
      rcases List.mem_cons.1 h2 with rfl | h3
      · exact hold _ (by simp)
      · rcases List.mem_append.1 h3 with h4 | h4
        · exact hold t (List.mem_cons.2 (.inr h4))
        · simp at h4
          subst h4
          rfl
  · intro g hg
    obtain ⟨f, hf, A⟩ := G.back hg
    have hc := R.code f hf
    have hvf := hv f hf
    unfold codeF at hc ⊢
    have hl : g.vs.length = f.vs.length + 1 := by rw [A.vs]; simp
    by_cases h1 : 300 < f.vs.length ∨ f.c.ins.length < 1 ∨ 3000 < f.c.ins.length
    · rw [if_pos h1] at hc; exact absurd hc (by decide)
    rw [if_neg h1] at hc
    rw [if_neg (by rw [hl, A.ins]; omega)]
    by_cases h2 : f.c.par < 0 ∨ (f.vs.length : Int) < f.c.par
    · rw [if_pos h2] at hc; exact absurd hc (by decide)
    rw [if_neg h2] at hc
    rw [if_neg (by rw [hl, A.par]; push_cast; omega)]
    by_cases h3 : firstF (instrF m f) f.c.ins ≠ 0
    · rw [if_pos h3] at hc; exact absurd hc h3
    rw [if_neg h3] at hc
    have h4 : firstF (instrF n g) g.c.ins = 0 := by
      rw [A.ins]
      exact firstF_iff.2 fun i hi => instrF_app G A (firstF_iff.1 (Classical.not_not.1 h3) i hi)
    rw [h4, if_neg (by decide), A.ins]
    exact hc
  · rw [fnIx_grown G]
    have := R.main
    rw [Bool.and_eq_true] at this ⊢
    refine ⟨this.1, ?_⟩
    have h2 := this.2
    cases hm : m.fs[(m.fnIx mainB).toNat]? with
    | none => rw [hm] at h2; exact absurd (show false = true from h2) (by decide)
    | some f =>
      have hlt := (List.getElem?_eq_some_iff.1 hm).1
      obtain ⟨g, hg⟩ : ∃ g, n.fs[(m.fnIx mainB).toNat]? = some g := ⟨_, List.getElem?_eq_getElem (by rw [G.len]; exact hlt)⟩
      have A := G.at_ _ f g hm hg
      rw [hm] at h2
      rw [hg]
      simp only at h2 ⊢
      rw [A.par, A.rp]
      exact h2

theorem nodup_findIdx {xs : List ByteArray} (h : xs.Nodup) {j : Nat} {x : ByteArray} (hx : xs[j]? = some x) : xs.findIdx (fun y => y == x) = j := by
  obtain ⟨hj, e⟩ := List.getElem?_eq_some_iff.1 hx
  refine (List.findIdx_eq hj).2 ⟨by rw [e]; simp, fun i hi => ?_⟩
  have hne : xs[i] ≠ xs[j] := List.pairwise_iff_getElem.1 h i j (by omega) hj hi
  rw [e] at hne
  simp [hne]

/-- No two of its functions have one name. -/
theorem right_names {m : Mo} (h : rightF m = 0) {j : Nat} {f : Fn} (hf : m.fs[j]? = some f) : m.fnIx f.c.nm = (j : Int) := by
  have ho := (right_iff.1 h).once
  unfold twiceF at ho
  simp only [Bool.or_eq_false_iff, decide_eq_false_iff_not, Classical.not_not] at ho
  have hn := ho.2
  have hlt := (List.getElem?_eq_some_iff.1 hf).1
  unfold Mo.fnIx
  have h1 : ixOf (fun g : Fn => g.c.nm == f.c.nm) m.fs = ixOf (fun x => x == f.c.nm) (m.fs.map fun g => g.c.nm) := (ixOf_map (fun x => x == f.c.nm) (fun g : Fn => g.c.nm) m.fs).symm
  rw [h1]
  unfold ixOf
  rw [nodup_findIdx hn (j := j) (by rw [List.getElem?_map, hf]; rfl), if_pos (by simpa using hlt)]

/-- With one variable more it is not the same. -/
theorem grow_other {m n : Mo} {md : Ins → List Int} (G : GrownM m n) (h : rightF m = 0) : sameM md m n = false := by
  have hm := (right_iff.1 h).main
  rw [Bool.and_eq_true] at hm
  cases hk : m.fs[(m.fnIx mainB).toNat]? with
  | none => rw [hk] at hm; exact absurd (show false = true from hm.2) (by decide)
  | some f =>
    have hlt := (List.getElem?_eq_some_iff.1 hk).1
    obtain ⟨g, hg⟩ : ∃ g, n.fs[(m.fnIx mainB).toNat]? = some g := ⟨_, List.getElem?_eq_getElem (by rw [G.len]; exact hlt)⟩
    have A := G.at_ _ f g hk hg
    have hs : sameC md f g = false := by
      unfold sameC
      rw [eqBy_false_len (p := Vr.same) (xs := f.vs) (ys := g.vs) (by rw [A.vs]; simp)]
      simp
    unfold sameM
    rw [eqBy_false_at hk hg hs, Bool.and_false]
end Go.Proofs.Ytbbogkcfngpbbaa
