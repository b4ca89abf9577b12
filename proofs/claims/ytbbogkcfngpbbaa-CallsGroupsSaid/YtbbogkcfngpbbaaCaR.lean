/- Who reaches whom, plain; groups. -/
import Derived.Test.YtbbogkcfngpbbaaCaP
namespace Go.Proofs.Ytbbogkcfngpbbaa
open Go.RowKit

/-- One calls the other, directly or through others. -/
def Rch (D : Nat → List Nat) : Nat → Nat → Prop := Relation.TransGen (fun a b => b ∈ D a)

theorem Rch.step {D : Nat → List Nat} {a b : Nat} (h : b ∈ D a) : Rch D a b := Relation.TransGen.single h
theorem Rch.trans {D : Nat → List Nat} {a b c : Nat} (h1 : Rch D a b) (h2 : Rch D b c) : Rch D a c := by
  induction h2 with
  | single h => exact Relation.TransGen.tail h1 h
  | tail _ h ih => exact Relation.TransGen.tail ih h

/-- A set that has what is called from f, and what is called from its own, has all that is reached. -/
theorem Rch.closed {D : Nat → List Nat} {f h : Nat} (S : Nat → Prop) (h0 : ∀ b ∈ D f, S b) (h1 : ∀ a, S a → ∀ b ∈ D a, S b) (hr : Rch D f h) : S h := by
  induction hr with
  | single h => exact h0 _ h
  | tail _ h ih => exact h1 _ ih _ h

theorem Rch.lt {D : Nat → List Nat} {n f h : Nat} (hD : ∀ a, ∀ b ∈ D a, b < n) (hr : Rch D f h) : h < n := Rch.closed (fun b => b < n) (fun b hb => hD f b hb) (fun a _ b hb => hD a b hb) hr

/-- Depth first: what is met, what is to do. -/
structure Dfs (D : Nat → List Nat) (f : Nat) (met : Nat → Bool) (todo : List Nat) : Prop where
  sub : ∀ h, met h = true ∨ h ∈ todo → Rch D f h
  start : ∀ h ∈ D f, met h = true ∨ h ∈ todo
  closed : ∀ h, met h = true → ∀ k ∈ D h, met k = true ∨ k ∈ todo

theorem Dfs.begin (D : Nat → List Nat) (f : Nat) : Dfs D f (fun _ => false) (D f) :=
  ⟨fun h hh => by rcases hh with hh | hh; cases hh; exact Rch.step hh, fun h hh => .inr hh, fun h hh => by cases hh⟩

theorem Dfs.skip {D : Nat → List Nat} {f h : Nat} {met : Nat → Bool} {t : List Nat} (H : Dfs D f met (t ++ [h])) (hm : met h = true) : Dfs D f met t := by
  refine ⟨fun k hk => H.sub k (hk.imp id (fun e => by simp [e])), fun k hk => ?_, fun a ha k hk => ?_⟩
  · rcases H.start k hk with e | e
    · exact .inl e
    · rcases List.mem_append.1 e with e | e
      · exact .inr e
      · simp at e; subst e; exact .inl hm
  · rcases H.closed a ha k hk with e | e
    · exact .inl e
    · rcases List.mem_append.1 e with e | e
      · exact .inr e
      · simp at e; subst e; exact .inl hm

theorem Dfs.meet {D : Nat → List Nat} {f h : Nat} {met : Nat → Bool} {t : List Nat} (H : Dfs D f met (t ++ [h])) : Dfs D f (fun k => if k = h then true else met k) (t ++ D h) := by
  have hr : Rch D f h := H.sub h (.inr (by simp))
  have fix : ∀ k, met k = true ∨ k ∈ t ++ [h] → (if k = h then true else met k) = true ∨ k ∈ t ++ D h := by
    intro k hk
    by_cases e : k = h
    · left; rw [if_pos e]
    · rw [if_neg e]
      rcases hk with hk | hk
      · exact .inl hk
      · rcases List.mem_append.1 hk with q | q
        · exact .inr (by simp [q])
        · simp at q; exact absurd q e
  refine ⟨fun k hk => ?_, fun k hk => fix k (H.start k hk), fun a ha k hk => ?_⟩
  · rcases hk with hk | hk
    · by_cases e : k = h
      · subst e; exact hr
      · rw [if_neg e] at hk; exact H.sub k (.inl hk)
    · rcases List.mem_append.1 hk with q | q
      · exact H.sub k (.inr (by simp [q]))
      · exact hr.trans (Rch.step q)
  · by_cases e : a = h
    · subst e; exact .inr (by simp [hk])
    · rw [if_neg e] at ha
      exact fix k (H.closed a ha k hk)

theorem Dfs.done {D : Nat → List Nat} {f h : Nat} {met : Nat → Bool} (H : Dfs D f met []) : met h = true ↔ Rch D f h :=
  ⟨fun hm => H.sub h (.inl hm), fun hr => Rch.closed (fun b => met b = true) (fun b hb => by rcases H.start b hb with e | e; exact e; simp at e) (fun a ha b hb => by rcases H.closed a ha b hb with e | e; exact e; simp at e) hr⟩

/-- How many of the first n are met. -/
def metN (n : Nat) (met : Nat → Bool) : Nat := ((List.range n).filter met).length
theorem metN_le (n : Nat) (met : Nat → Bool) : metN n met ≤ n := by
  have := List.length_filter_le met (List.range n)
  simpa [metN] using this
theorem metN_add {n h : Nat} {met : Nat → Bool} (hn : h < n) (hm : met h = false) : metN n (fun k => if k = h then true else met k) = metN n met + 1 := by
  unfold metN
  induction n with
  | zero => omega
  | succ n ih =>
    rw [List.range_succ, List.filter_append, List.filter_append, List.length_append, List.length_append]
    by_cases e : h = n
    · subst e
      have h1 : (List.range h).filter (fun k => if k = h then true else met k) = (List.range h).filter met := by
        refine List.filter_congr fun k hk => ?_
        have := List.mem_range.1 hk
        rw [if_neg (by omega)]
      rw [h1]
      simp [hm]
    · rw [ih (by omega)]
      have hne : ¬ n = h := fun e' => e e'.symm
      have h2 : [n].filter (fun k => if k = h then true else met k) = [n].filter met := List.filter_congr fun k hk => by
        simp at hk; subst hk; rw [if_neg hne]
      rw [h2]
      omega

/-- A function's group. -/
def grp (n : Nat) (T : Nat → Nat → Bool) (f : Nat) : List Nat := (List.range n).filter fun h => decide (h = f) || (T f h && T h f)

/-- Who reaches whom. -/
noncomputable def reachB (D : Nat → List Nat) (f h : Nat) : Bool := by
  classical
  exact decide (Rch D f h)
theorem reachB_iff {D : Nat → List Nat} {f h : Nat} : reachB D f h = true ↔ Rch D f h := by
  unfold reachB; simp

theorem Dfs.all {D : Nat → List Nat} {f : Nat} {met : Nat → Bool} (H : Dfs D f met []) (h : Nat) : met h = reachB D f h := by
  rw [Bool.eq_iff_iff, reachB_iff]; exact H.done

theorem mem_grp {n f h : Nat} {D : Nat → List Nat} : h ∈ grp n (reachB D) f ↔ h < n ∧ (h = f ∨ (Rch D f h ∧ Rch D h f)) := by
  unfold grp
  simp [reachB_iff]

theorem grp_self {n f : Nat} {D : Nat → List Nat} (hf : f < n) : f ∈ grp n (reachB D) f := mem_grp.2 ⟨hf, .inl rfl⟩

/-- All of a group have the same group. -/
theorem grp_same {n f h : Nat} {D : Nat → List Nat} (hh : h ∈ grp n (reachB D) f) : grp n (reachB D) h = grp n (reachB D) f := by
  obtain ⟨_, e | ⟨h1, h2⟩⟩ := mem_grp.1 hh
  · rw [e]
  · unfold grp
    refine List.filter_congr fun k _ => ?_
    rw [Bool.eq_iff_iff]
    simp only [Bool.or_eq_true, decide_eq_true_eq, Bool.and_eq_true, reachB_iff]
    constructor
    · rintro (e | ⟨q1, q2⟩)
      · subst e; exact .inr ⟨h1, h2⟩
      · exact .inr ⟨h1.trans q1, q2.trans h2⟩
    · rintro (e | ⟨q1, q2⟩)
      · subst e; exact .inr ⟨h2, h1⟩
      · exact .inr ⟨h2.trans q1, q2.trans h1⟩

/-- Do functions call only each other, and those that have a group? -/
def readyF (D : Nat → List Nat) (gi : Nat → Int) (l : List Nat) : Bool := l.all fun f => (D f).all fun h => !(gi h == -1) || decide (h ∈ l)

/-- The first that has no group and whose group is ready. -/
def pickF (n : Nat) (D : Nat → List Nat) (T : Nat → Nat → Bool) (gi : Nat → Int) : Option Nat := (List.range n).find? fun f => gi f == -1 && readyF D gi (grp n T f)

def setF (gi : Nat → Int) (l : List Nat) (k : Int) : Nat → Int := fun h => if h ∈ l then k else gi h

/-- A round. -/
def partS (n : Nat) (D : Nat → List Nat) (T : Nat → Nat → Bool) (s : (Nat → Int) × List (List Nat)) : (Nat → Int) × List (List Nat) :=
  match pickF n D T s.1 with
  | none => s
  | some f => (setF s.1 (grp n T f) (s.2.length : Int), s.2 ++ [grp n T f])

def partN (n : Nat) (D : Nat → List Nat) (T : Nat → Nat → Bool) : Nat → (Nat → Int) × List (List Nat)
  | 0 => (fun _ => -1, [])
  | k + 1 => partS n D T (partN n D T k)

/-- What holds behind k rounds. -/
structure PartI (n : Nat) (D : Nat → List Nat) (s : (Nat → Int) × List (List Nat)) : Prop where
  -- who has a group has the number of a group that has it
  num : ∀ h < n, s.1 h = -1 ∨ ∃ k : Nat, s.1 h = (k : Int) ∧ ∃ f, f < n ∧ s.2[k]? = some (grp n (reachB D) f) ∧ h ∈ grp n (reachB D) f
  of : ∀ (k : Nat) (l : List Nat), s.2[k]? = some l → (∃ f, f < n ∧ l = grp n (reachB D) f) ∧ ∀ h ∈ l, s.1 h = (k : Int)
  -- a group stands behind all that it calls
  calls : ∀ f h, f < n → h ∈ D f → s.1 f ≠ -1 → s.1 h ≠ -1 ∧ s.1 h ≤ s.1 f

theorem PartI.same {n : Nat} {D : Nat → List Nat} {s : (Nat → Int) × List (List Nat)} (h : PartI n D s) {f g : Nat} (hg : g ∈ grp n (reachB D) f) (hf : f < n) : s.1 g = -1 ↔ s.1 f = -1 := by
  have hgn := (mem_grp.1 hg).1
  have key : ∀ a b : Nat, a < n → b ∈ grp n (reachB D) a → b < n → s.1 a ≠ -1 → s.1 b ≠ -1 := by
    intro a b ha hb hbn hne
    rcases h.num a ha with e | ⟨k, e, c, hc, hk, hac⟩
    · exact absurd e hne
    · have h1 := (h.of k _ hk).2 b (by rw [← grp_same hac]; exact hb)
      rw [h1]; omega
  have hfg : f ∈ grp n (reachB D) g := by rw [grp_same hg]; exact grp_self hf
  constructor
  · intro e; exact Classical.byContradiction fun hne => key f g hf hg hgn hne e
  · intro e; exact Classical.byContradiction fun hne => key g f hgn hfg hf hne e

theorem PartI.start (n : Nat) (D : Nat → List Nat) : PartI n D (fun _ => -1, []) :=
  ⟨fun _ _ => .inl rfl, fun k l h => by simp at h, fun f h _ _ hne => absurd rfl hne⟩

theorem PartI.next {n : Nat} {D : Nat → List Nat} {s : (Nat → Int) × List (List Nat)} (hD : ∀ a, ∀ b ∈ D a, b < n) (h : PartI n D s) : PartI n D (partS n D (reachB D) s) := by
  unfold partS
  cases hp : pickF n D (reachB D) s.1 with
  | none => exact h
  | some f =>
    unfold pickF at hp
    have hfn : f < n := by simpa using List.mem_of_find?_eq_some hp
    have hpf := List.find?_some hp
    simp only [Bool.and_eq_true, beq_iff_eq] at hpf
    obtain ⟨hgf, hrd⟩ := hpf
    have hnone : ∀ g ∈ grp n (reachB D) f, s.1 g = -1 := fun g hg => (h.same hg hfn).2 hgf
    have hnum : ∀ g, s.1 g ≠ -1 → g < n → ∃ k : Nat, s.1 g = (k : Int) ∧ k < s.2.length := by
      intro g hg hgn
      rcases h.num g hgn with e | ⟨k, e, c, _, hk, _⟩
      · exact absurd e hg
      · exact ⟨k, e, (List.getElem?_eq_some_iff.1 hk).1⟩
    refine ⟨fun g hg => ?_, fun k l hk => ?_, fun a b ha hb hne => ?_⟩
    · by_cases e : g ∈ grp n (reachB D) f
      · right
        exact ⟨s.2.length, by simp [setF, e], f, hfn, by simp, e⟩
      · rcases h.num g hg with q | ⟨k, q, c, hc, hk, hgc⟩
        · left; simp [setF, e, q]
        · right
          refine ⟨k, by simp [setF, e, q], c, hc, ?_, hgc⟩
          simp only
          rw [List.getElem?_append_left (List.getElem?_eq_some_iff.1 hk).1]; exact hk
    · simp only at hk
      rcases Nat.lt_or_ge k s.2.length with hlt | hge
      · rw [List.getElem?_append_left hlt] at hk
        refine ⟨(h.of k l hk).1, fun g hg => ?_⟩
        have hne : g ∉ grp n (reachB D) f := fun e => by
          have h1 := hnone g e
          have h2 := (h.of k l hk).2 g hg
          omega
        simp [setF, hne, (h.of k l hk).2 g hg]
      · have hkl : k = s.2.length := by
          have := (List.getElem?_eq_some_iff.1 hk).1
          simp at this; omega
        subst hkl
        simp at hk
        subst hk
        exact ⟨⟨f, hfn, rfl⟩, fun g hg => by simp [setF, hg]⟩
    · simp only at hne ⊢
      by_cases ea : a ∈ grp n (reachB D) f
      · have hr := List.all_eq_true.1 (List.all_eq_true.1 hrd a ea) b hb
        by_cases eb : b ∈ grp n (reachB D) f
        · simp [setF, ea, eb]
        · have hb1 : s.1 b ≠ -1 := by simpa [eb] using hr
          obtain ⟨k, q1, q2⟩ := hnum b hb1 (hD a b hb)
          simp [setF, ea, eb]
          omega
      · have ha1 : s.1 a ≠ -1 := by simpa [setF, ea] using hne
        obtain ⟨q1, q2⟩ := h.calls a b ha hb ha1
        have eb : b ∉ grp n (reachB D) f := fun e => q1 (hnone b e)
        simp [setF, ea, eb]
        exact ⟨q1, q2⟩

theorem partN_inv {n : Nat} {D : Nat → List Nat} (hD : ∀ a, ∀ b ∈ D a, b < n) : ∀ k, PartI n D (partN n D (reachB D) k)
  | 0 => PartI.start n D
  | k + 1 => (partN_inv hD k).next hD

theorem partS_stop {n : Nat} {D : Nat → List Nat} {T : Nat → Nat → Bool} {s : (Nat → Int) × List (List Nat)} (h : pickF n D T s.1 = none) : partS n D T s = s := by unfold partS; rw [h]
theorem partN_stop {n : Nat} {D : Nat → List Nat} {T : Nat → Nat → Bool} {k : Nat} (h : pickF n D T (partN n D T k).1 = none) : ∀ j, k ≤ j → partN n D T j = partN n D T k := by
  intro j hj
  induction j with
  | zero => have : k = 0 := by omega
            rw [this]
  | succ j ih =>
    by_cases e : k = j + 1
    · rw [e]
    · rw [show partN n D T (j + 1) = partS n D T (partN n D T j) from rfl, ih (by omega), partS_stop h]

/-- How many have no group. -/
def freeN (n : Nat) (gi : Nat → Int) : Nat := ((List.range n).filter fun h => gi h == -1).length

theorem filter_lt {n : Nat} {p q : Nat → Bool} (h : ∀ g, p g = true → q g = true) {g : Nat} (hg : g < n) (hq : q g = true) (hp : p g = false) : ((List.range n).filter p).length < ((List.range n).filter q).length := by
  have hle : ∀ m, ((List.range m).filter p).length ≤ ((List.range m).filter q).length := by
    intro m
    induction m with
    | zero => simp
    | succ m ih =>
      rw [List.range_succ, List.filter_append, List.filter_append, List.length_append, List.length_append]
      have : ([m].filter p).length ≤ ([m].filter q).length := by
        cases e : p m with
        | false => simp [e]
        | true => simp [e, h m e]
      omega
  induction n with
  | zero => omega
  | succ n ih =>
    rw [List.range_succ, List.filter_append, List.filter_append, List.length_append, List.length_append]
    by_cases e : g = n
    · subst e
      have h1 := hle g
      have h2 : ([g].filter p).length = 0 := by simp [hp]
      have h3 : ([g].filter q).length = 1 := by simp [hq]
      omega
    · have h1 := ih (by omega)
      have h2 : ([n].filter p).length ≤ ([n].filter q).length := by
        cases e : p n with
        | false => simp [e]
        | true => simp [e, h n e]
      omega

theorem freeN_lt {n f : Nat} {gi : Nat → Int} {l : List Nat} {k : Int} (hf : f < n) (hl : f ∈ l) (hg : gi f = -1) (hk : k ≠ -1) : freeN n (setF gi l k) < freeN n gi :=
  filter_lt (p := fun h => setF gi l k h == -1) (q := fun h => gi h == -1) (fun g hq => by
    by_cases e : g ∈ l
    · simp [setF, e, hk] at hq
    · simpa [setF, e] using hq) hf (by simp [hg]) (by simp [setF, hl, hk])

theorem partS_free {n : Nat} {D : Nat → List Nat} {s : (Nat → Int) × List (List Nat)} {f : Nat} (h : pickF n D (reachB D) s.1 = some f) : freeN n (partS n D (reachB D) s).1 < freeN n s.1 := by
  unfold partS
  rw [h]
  unfold pickF at h
  have hfn : f < n := by simpa using List.mem_of_find?_eq_some h
  have hpf := List.find?_some h
  simp only [Bool.and_eq_true, beq_iff_eq] at hpf
  exact freeN_lt hfn (grp_self hfn) hpf.1 (by omega)

/-- Behind n rounds there is no more. -/
theorem partN_end {n : Nat} {D : Nat → List Nat} : pickF n D (reachB D) (partN n D (reachB D) n).1 = none := by
  have key : ∀ k, pickF n D (reachB D) (partN n D (reachB D) k).1 = none ∨ freeN n (partN n D (reachB D) k).1 + k ≤ n := by
    intro k
    induction k with
    | zero =>
      right
      have := List.length_filter_le (fun h => (partN n D (reachB D) 0).1 h == -1) (List.range n)
      simpa [freeN] using this
    | succ k ih =>
      rcases ih with e | e
      · left
        rw [show partN n D (reachB D) (k + 1) = partS n D (reachB D) (partN n D (reachB D) k) from rfl, partS_stop e]; exact e
      · cases hp : pickF n D (reachB D) (partN n D (reachB D) k).1 with
        | none =>
          left
          rw [show partN n D (reachB D) (k + 1) = partS n D (reachB D) (partN n D (reachB D) k) from rfl, partS_stop hp]; exact hp
        | some f =>
          right
          have := partS_free hp
          rw [show partN n D (reachB D) (k + 1) = partS n D (reachB D) (partN n D (reachB D) k) from rfl]
          omega
  rcases key n with e | e
  · exact e
  · have h0 : freeN n (partN n D (reachB D) n).1 = 0 := by omega
    unfold pickF
    rw [List.find?_eq_none]
    intro f hf
    have hfn := List.mem_range.1 hf
    simp only [Bool.and_eq_true, beq_iff_eq, not_and]
    intro hg
    exfalso
    unfold freeN at h0
    have : f ∈ (List.range n).filter fun h => (partN n D (reachB D) n).1 h == -1 := by simp [hfn, hg]
    rw [List.eq_nil_of_length_eq_zero h0] at this
    simp at this

/-- **Where nobody is ready, all have a group.** -/
theorem all_grouped {n : Nat} {D : Nat → List Nat} {s : (Nat → Int) × List (List Nat)} (hD : ∀ a, ∀ b ∈ D a, b < n) (hp : pickF n D (reachB D) s.1 = none) : ∀ f < n, s.1 f ≠ -1 := by
  let p : Nat → Nat → Bool := fun f g => (decide (g = f) || reachB D f g) && (s.1 g == -1)
  suffices key : ∀ m f, ((List.range n).filter (p f)).length ≤ m → f < n → s.1 f ≠ -1 from fun f hf => key _ f (Nat.le_refl _) hf
  intro m
  induction m with
  | zero =>
    intro f hR hf hg
    have : f ∈ (List.range n).filter (p f) := by simp [p, hf, hg]
    rw [List.eq_nil_of_length_eq_zero (Nat.le_zero.1 hR)] at this
    simp at this
  | succ m ih =>
    intro f hR hf hg
    unfold pickF at hp
    rw [List.find?_eq_none] at hp
    refine hp f (by simpa using hf) ?_
    simp only [Bool.and_eq_true, beq_iff_eq]
    refine ⟨hg, List.all_eq_true.2 fun a ha => List.all_eq_true.2 fun b hb => ?_⟩
    by_cases hb1 : s.1 b = -1
    · by_cases hbg : b ∈ grp n (reachB D) f
      · simp [hbg]
      · exfalso
        have hbn := hD a b hb
        have hfb : Rch D f b := by
          rcases (mem_grp.1 ha).2 with e | ⟨q, _⟩
          · subst e; exact Rch.step hb
          · exact q.trans (Rch.step hb)
        refine ih b ?_ hbn hb1
        have hlt := filter_lt (p := p b) (q := p f) (g := f) (n := n) (fun g hq => by
          simp [p, reachB_iff] at hq ⊢
          refine ⟨.inr ?_, hq.2⟩
          rcases hq.1 with e | e
          · subst e; exact hfb
          · exact hfb.trans e) hf (by simp [p, hg]) (by
          have h1 : ¬ f = b := fun e => hbg (by subst e; exact grp_self hf)
          have h2 : reachB D b f = false := by
            cases e : reachB D b f with
            | false => rfl
            | true => exact absurd (mem_grp.2 ⟨hbn, .inr ⟨hfb, reachB_iff.1 e⟩⟩) hbg
          simp [p, h1, h2])
        omega
    · simp [hb1]
end Go.Proofs.Ytbbogkcfngpbbaa
