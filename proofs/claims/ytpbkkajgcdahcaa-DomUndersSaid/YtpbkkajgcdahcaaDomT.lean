/- Who is over whom: what a made tree says (plain). -/
import Derived.Test.YtpbkkajgcdahcaaDomI
import Derived.Test.YtpbkkajgcdahcaaDomW
import Derived.Test.YtpbkkajgcdahcaaBehind
import Derived.Test.YtpbkkajgcdahcaaOrder2
namespace Go.Proofs.Ytpbkkajgcdahcaa

/-- Reached from the first without one. -/
inductive RW (succ : Nat → List Nat) (d : Nat) : Nat → Prop
  | here : d ≠ 0 → RW succ d 0
  | step {u v : Nat} : RW succ d u → v ∈ succ u → v ≠ d → RW succ d v

theorem idx_lt {u b : Nat} : ∀ (q : List Nat), q.Nodup → [u, b].Sublist q → q.idxOf u < q.idxOf b
  | [], _, h => by cases h
  | a :: q, hn, h => by
    rw [List.nodup_cons] at hn
    cases h with
    | cons _ h =>
      have hu : u ∈ q := h.subset (by simp)
      have hb : b ∈ q := h.subset (by simp)
      have ih := idx_lt q hn.2 h
      rw [List.idxOf_cons, List.idxOf_cons]
      have h1 : (a == u) = false := by rw [beq_eq_false_iff_ne]; rintro rfl; exact hn.1 hu
      have h2 : (a == b) = false := by rw [beq_eq_false_iff_ne]; rintro rfl; exact hn.1 hb
      rw [h1, h2]; simp only [cond_false]; omega
    | cons_cons _ h =>
      have hb : b ∈ q := h.subset (by simp)
      rw [List.idxOf_cons, List.idxOf_cons]
      have h2 : (u == b) = false := by rw [beq_eq_false_iff_ne]; rintro rfl; exact hn.1 hb
      rw [h2]; simp

/-- What is known of the order. -/
structure OrdT (ins : List Ins) (q : List Nat) : Prop where
  ord : Ord ins.length q
  order : OrderL ins q.reverse
  mem : ins ≠ [] → ∀ x, x ∈ q ↔ Leads (nextN ins) 0 x
  nil : ins = [] → q = []
  par : ∀ v ∈ q, v ≠ 0 → ∃ u ∈ q, v ∈ nextN ins u ∧ plN q u < plN q v

theorem ordT_of (ins : List Ins) (hn : ins.length ≤ 90000) : ∃ q, OrdT ins q := by
  by_cases h0 : ins = []
  · exact ⟨[], ⟨⟨by simp, by simp, by simp, by simp⟩, ⟨fun _ => rfl, fun h => absurd h0 h⟩, fun h => absurd h0 h, fun _ => rfl, by simp⟩⟩
  · have hpos : 0 < ins.length := List.length_pos_iff.2 h0
    obtain ⟨k, M, L, h1, h2, h3, h4, h5, h6⟩ := wlk_from (succ := nextN ins) (a := 0) (n := ins.length) (fun x y h => nextN_lt h) (nextN_length ins) hpos
    obtain ⟨g1, g2⟩ := wlk_later h1
    have hln := h4.length_eq
    have hmem : ∀ x, x ∈ L.reverse ↔ x ∈ M := fun x => by rw [List.mem_reverse]; exact h4.mem_iff
    have hnd : L.reverse.Nodup := (List.reverse_perm L).nodup_iff.2 (h4.nodup_iff.2 h2)
    refine ⟨L.reverse, ⟨⟨hnd, fun x hx => h3 x ((hmem x).1 hx), fun x _ => by rw [← List.head?_eq_getElem?, List.head?_reverse]; exact g1, by rw [List.length_reverse]; omega⟩, ⟨fun h => absurd h h0, fun _ => ⟨k, M, by rw [List.reverse_reverse]; exact h1, by omega, by rw [List.length_reverse, List.length_reverse]; omega⟩⟩, fun _ x => (hmem x).trans (h5 x), fun h => absurd h h0, fun v hv hv0 => ?_⟩⟩
    obtain ⟨u, e1, e2⟩ := g2 v ((hmem v).1 hv) hv0
    have e3 : [u, v].Sublist L.reverse := by simpa using e2.reverse
    exact ⟨u, e3.subset (by simp), e1, idx_lt _ hnd e3⟩

variable {ins : List Ins} {q : List Nat} {o : Nat → Option Nat}

theorem OrdT.gr (h : OrdT ins q) : ∃ u0, Gr q (behindOf ins) (plN q) u0 := by
  have hc : ∀ v, ∃ u, v ∈ q → v ≠ 0 → u ∈ behindOf ins v ∧ u ∈ q ∧ plN q u < plN q v := by
    intro v
    by_cases hv : v ∈ q ∧ v ≠ 0
    · obtain ⟨u, h1, h2, h3⟩ := h.par v hv.1 hv.2
      exact ⟨u, fun _ _ => ⟨(mem_behindOf _ _ _).2 ⟨h.ord.lt u h1, h2⟩, h1, h3⟩⟩
    · exact ⟨0, fun h1 h2 => absurd ⟨h1, h2⟩ hv⟩
  obtain ⟨u0, hu0⟩ := Classical.axiomOfChoice hc
  refine ⟨u0, ⟨?_, h.ord.inj, fun v hv => h.ord.mem0 hv, hu0⟩⟩
  cases q with
  | nil => rfl
  | cons a l => exact h.ord.zero (x := a) (by simp)

/-- One that is over v is on each way to it. -/
def Dm (ins : List Ins) (d v : Nat) : Prop := ¬ RW (nextN ins) d v

theorem dm_pred (h : OrdT ins q) (d v : Nat) (hd : Dm ins d v) (_ : v ∈ q) (_ : v ≠ 0) (hne : d ≠ v) (u : Nat) (hu : u ∈ behindOf ins v) (_ : u ∈ q) : Dm ins d u :=
  fun hr => hd (.step hr ((mem_behindOf _ _ _).1 hu).2 (fun e => hne e.symm))

theorem dm_zero (d : Nat) (hd : Dm ins d 0) : d = 0 := by
  by_cases h : d = 0
  · exact h
  · exact absurd (RW.here h) hd

abbrev Sw (ins : List Ins) (q : List Nat) (u0 : Nat → Nat) (i : Nat) (o : Nat → Option Nat) : Prop := SwI q (behindOf ins) (plN q) u0 (Dm ins) i o

theorem sw_start (u0 : Nat → Nat) : Sw ins q u0 0 (fun _ => none) :=
  ⟨⟨fun v p e => by cases e⟩, fun v _ h => absurd h (Nat.not_lt_zero _), fun v p e => (by cases e), fun v p e => (by cases e), fun v p e => (by cases e)⟩

theorem sw_first {u0 : Nat → Nat} (hq : Ord ins.length q) (h : Sw ins q u0 0 o) : Sw ins q u0 1 o := by
  refine ⟨h.tr, fun v hv hlt => .inl ?_, h.dm, h.J, fun v p e x hx hc => h.R v p e x hx (.inr (Nat.zero_le _))⟩
  exact hq.inj v hv 0 (hq.mem0 hv) (by have := hq.zero hv; omega)

theorem sw_again {u0 : Nat → Nat} {n : Nat} (hn : q.length ≤ n) (h : Sw ins q u0 n o) : Sw ins q u0 0 o := by
  refine ⟨h.tr, fun v _ h => absurd h (Nat.not_lt_zero _), h.dm, h.J, fun v p e x hx _ => h.R v p e x hx (.inl ?_)⟩
  have := List.idxOf_lt_length_of_mem (h.tr.up v p e).1
  simp only [plN]; omega

/-- What one costs; what is left to fall. -/
def costOf (q : List Nat) (n : Nat) (o : Nat → Option Nat) (v : Nat) : Nat := match o v with
  | none => n
  | some p => plN q p

def leftOf (q : List Nat) (n : Nat) (o : Nat → Option Nat) : Nat := (q.map (costOf q n o)).sum

theorem sum_one {f g : Nat → Nat} {v : Nat} (h : ∀ x, x ≠ v → g x = f x) : ∀ (q : List Nat), q.Nodup → v ∈ q → (q.map g).sum + f v = (q.map f).sum + g v
  | [], _, hv => by simp at hv
  | a :: q, hn, hv => by
    rw [List.nodup_cons] at hn
    rcases List.mem_cons.1 hv with rfl | hv
    · have e : q.map g = q.map f := List.map_congr_left fun x hx => h x (fun e => hn.1 (e ▸ hx))
      simp [e]; omega
    · have ih := sum_one h q hn.2 hv
      have e : g a = f a := h a (fun e => hn.1 (e ▸ hv))
      simp [e]; omega

theorem left_fall {n v m : Nat} (hq : Ord n q) (ht : Tr q (plN q) o) (hv : v ∈ q) (hmq : m ∈ q) (hs : ∀ p, o v = some p → Up o p m) : leftOf q n (upd o v m) ≤ leftOf q n o ∧ (o v ≠ some m → leftOf q n (upd o v m) < leftOf q n o) := by
  have h1 := sum_one (f := costOf q n o) (g := costOf q n (upd o v m)) (v := v) (fun x hx => by unfold costOf; rw [upd_other m hx]) q hq.nodup hv
  have h2 : costOf q n (upd o v m) v = plN q m := by unfold costOf; rw [upd_same]
  rw [h2] at h1
  have hlm := List.idxOf_lt_length_of_mem hmq
  have hql := hq.len
  unfold leftOf
  simp only [plN] at h1
  cases e : o v with
  | none =>
    have h3 : costOf q n o v = n := by unfold costOf; rw [e]
    rw [h3] at h1
    exact ⟨by omega, fun _ => by omega⟩
  | some p =>
    have h3 : costOf q n o v = plN q p := by unfold costOf; rw [e]
    rw [h3] at h1
    simp only [plN] at h1
    rcases ht.place (hs p e) with rfl | h4
    · exact ⟨by omega, fun h => absurd rfl h⟩
    · simp only [plN] at h4
      exact ⟨by omega, fun _ => by omega⟩

/-- A tree that is made. -/
structure DomT (ins : List Ins) (q : List Nat) (o : Nat → Option Nat) : Prop where
  ord : OrdT ins q
  tr : Tr q (plN q) o
  all : ∀ v ∈ q, Proc o v
  iff : ∀ v ∈ q, ∀ d, Up o v d ↔ ¬ RW (nextN ins) d v

theorem domT_of {u0 : Nat → Nat} {n : Nat} (hq : OrdT ins q) (hn : q.length ≤ n) (h : Sw ins q u0 n o) (hf : ∀ v ∈ q, v ≠ 0 → FixAt (behindOf ins) o v) : DomT ins q o := by
  have hall : ∀ v ∈ q, Proc o v := fun v hv => h.met v hv (by have := List.idxOf_lt_length_of_mem hv; simp only [plN]; omega)
  refine ⟨hq, h.tr, hall, fun v hv d => ⟨fun hu hr => ?_, fun hd => ?_⟩⟩
  · have hne : ins ≠ [] := fun e => by rw [hq.nil e] at hv; simp at hv
    have hm := hq.mem hne
    have : ∀ v, RW (nextN ins) d v → v ∈ q ∧ ¬ Up o v d := by
      intro v hr
      induction hr with
      | here h0 =>
        refine ⟨(hm 0).2 .here, fun hu => ?_⟩
        rcases hu.cases' with e | ⟨p, e, _⟩
        · exact h0 e
        · rw [h.tr.zero] at e; cases e
      | @step u v hr hv' hne' ih =>
        have hvq : v ∈ q := (hm v).2 (.step ((hm u).1 ih.1) hv')
        refine ⟨hvq, fun hu => ?_⟩
        rcases hu.cases' with e | ⟨p, e, hp⟩
        · exact hne' e.symm
        · have hv0 : v ≠ 0 := (h.tr.up v p e).2.1
          obtain ⟨p', e', hml⟩ := hf v hvq hv0
          rw [e] at e'
          obtain rfl := Option.some.inj e'
          exact ih.2 ((hml.2.1 u ((mem_behindOf _ _ _).2 ⟨hq.ord.lt u ih.1, hv'⟩) (hall u ih.1)).trans hp)
    exact (this v hr).2 hu
  · have : ∀ k v, plN q v ≤ k → v ∈ q → Dm ins d v → Up o v d := by
      intro k
      induction k with
      | zero =>
        intro v hk hv hd
        have hv0 : v = 0 := hq.ord.inj v hv 0 (hq.ord.mem0 hv) (by have := hq.ord.zero hv; omega)
        subst hv0
        rw [dm_zero d hd]; exact .refl _
      | succ k ih =>
        intro v hk hv hd
        by_cases hdv : d = v
        · rw [hdv]; exact .refl _
        · cases e : o v with
          | none =>
            rcases hall v hv with h0 | h0
            · subst h0; rw [dm_zero d hd]; exact .refl _
            · exact absurd e h0
          | some p =>
            have hu := h.tr.up v p e
            exact .step e (ih p (by omega) hu.2.2.1 (h.dm v p e d hd hdv))
    exact this _ v (Nat.le_refl _) hv hd
end Go.Proofs.Ytpbkkajgcdahcaa
