/- Sweeps over a tree of who is over whom: the plain law. -/
import Derived.Test.YtpbkkajgcdahcaaLite
namespace Go.Proofs.Ytpbkkajgcdahcaa

/-- x is v, or over it. -/
inductive Up (o : Nat → Option Nat) : Nat → Nat → Prop
  | refl (v : Nat) : Up o v v
  | step {v p x : Nat} : o v = some p → Up o p x → Up o v x

theorem Up.trans {o : Nat → Option Nat} {a b c : Nat} (h : Up o a b) (k : Up o b c) : Up o a c := by
  induction h with
  | refl => exact k
  | step e _ ih => exact .step e (ih k)

theorem Up.cases' {o : Nat → Option Nat} {v x : Nat} (h : Up o v x) : x = v ∨ ∃ p, o v = some p ∧ Up o p x := by
  cases h with
  | refl => exact .inl rfl
  | step e k => exact .inr ⟨_, e, k⟩

/-- Of two that are over the same one, one is over the other. -/
theorem Up.total {o : Nat → Option Nat} {v a b : Nat} (h : Up o v a) (k : Up o v b) : Up o a b ∨ Up o b a := by
  induction h with
  | refl => exact .inl k
  | step e h' ih =>
    rcases k.cases' with rfl | ⟨p, e2, k'⟩
    · exact .inr (.step e h')
    · rw [e] at e2; obtain rfl := Option.some.inj e2; exact ih k'

/-- The setting: the order's places, who is behind whom; each but the first has one behind it with a smaller place. -/
structure Gr (L : List Nat) (P : Nat → List Nat) (pl : Nat → Nat) (u0 : Nat → Nat) : Prop where
  zero : pl 0 = 0
  inj : ∀ u ∈ L, ∀ v ∈ L, pl u = pl v → u = v
  has0 : ∀ v ∈ L, 0 ∈ L
  u0 : ∀ v ∈ L, v ≠ 0 → u0 v ∈ P v ∧ u0 v ∈ L ∧ pl (u0 v) < pl v

/-- Whether one has been met by a sweep. -/
def Proc (o : Nat → Option Nat) (v : Nat) : Prop := v = 0 ∨ o v ≠ none

/-- The tree's shape. -/
structure Tr (L : List Nat) (pl : Nat → Nat) (o : Nat → Option Nat) : Prop where
  up : ∀ v p, o v = some p → v ∈ L ∧ v ≠ 0 ∧ p ∈ L ∧ pl p < pl v ∧ Proc o p

variable {L : List Nat} {P : Nat → List Nat} {pl u0 : Nat → Nat} {o : Nat → Option Nat}

theorem Tr.zero (h : Tr L pl o) : o 0 = none := by
  cases e : o 0 with
  | none => rfl
  | some p => exact absurd rfl (h.up 0 p e).2.1

theorem Tr.place (h : Tr L pl o) {v x : Nat} (k : Up o v x) : x = v ∨ pl x < pl v := by
  induction k with
  | refl => exact .inl rfl
  | step e _ ih =>
    have := (h.up _ _ e).2.2.2.1
    rcases ih with rfl | ih
    · exact .inr this
    · exact .inr (by omega)

theorem Tr.le (h : Tr L pl o) {v x : Nat} (k : Up o v x) : pl x ≤ pl v := by
  rcases h.place k with rfl | h
  · exact Nat.le_refl _
  · omega

theorem Tr.anti (h : Tr L pl o) {v x : Nat} (k : Up o v x) (k2 : Up o x v) : x = v := by
  rcases h.place k with e | e
  · exact e
  · have := h.le k2; omega

theorem Tr.mem (h : Tr L pl o) {v x : Nat} (k : Up o v x) (hv : v ∈ L) : x ∈ L := by
  induction k with
  | refl => exact hv
  | step e _ ih => exact ih (h.up _ _ e).2.2.1

theorem Tr.proc (h : Tr L pl o) {v x : Nat} (k : Up o v x) (hv : Proc o v) : Proc o x := by
  induction k with
  | refl => exact hv
  | step e _ ih => exact ih (h.up _ _ e).2.2.2.2

theorem Tr.inL (h : Tr L pl o) {v : Nat} (h0 : 0 ∈ L) (k : Proc o v) : v ∈ L := by
  rcases k with rfl | k
  · exact h0
  · cases e : o v with
    | none => exact absurd e k
    | some p => exact (h.up v p e).1

/-- The nearest that is over both. -/
def MeetOf (o : Nat → Option Nat) (a b m : Nat) : Prop := Up o a m ∧ Up o b m ∧ ∀ x, Up o a x → Up o b x → Up o m x

theorem MeetOf.refl (a : Nat) : MeetOf o a a a := ⟨.refl a, .refl a, fun _ h _ => h⟩

/-- One step of the search of the nearest. -/
theorem MeetOf.stepA (h : Tr L pl o) {a b p m : Nat} (hlt : pl b < pl a) (e : o a = some p) (k : MeetOf o p b m) : MeetOf o a b m := by
  refine ⟨.step e k.1, k.2.1, fun x h1 h2 => ?_⟩
  rcases h1.cases' with rfl | ⟨q, e2, h3⟩
  · have := h.le h2; omega
  · rw [e] at e2; obtain rfl := Option.some.inj e2; exact k.2.2 x h3 h2

theorem MeetOf.stepB (h : Tr L pl o) {a b p m : Nat} (hlt : pl a < pl b) (e : o b = some p) (k : MeetOf o a p m) : MeetOf o a b m := by
  refine ⟨k.1, .step e k.2.1, fun x h1 h2 => ?_⟩
  rcases h2.cases' with rfl | ⟨q, e2, h3⟩
  · have := h.le h1; omega
  · rw [e] at e2; obtain rfl := Option.some.inj e2; exact k.2.2 x h1 h3

theorem Tr.some_of (h : Tr L pl o) (g : Gr L P pl u0) {a b : Nat} (hlt : pl b < pl a) (hp : Proc o a) : ∃ p, o a = some p := by
  rcases hp with rfl | hp
  · have := g.zero; omega
  · cases e : o a with
    | none => exact absurd e hp
    | some p => exact ⟨p, rfl⟩

/-- What the search over those behind one has found, so far: the nearest that is over all of them that have been met. -/
def MeetL (o : Nat → Option Nat) (us : List Nat) : Option Nat → Prop
  | none => ∀ u ∈ us, ¬ Proc o u
  | some m => (∃ u ∈ us, Proc o u) ∧ (∀ u ∈ us, Proc o u → Up o u m) ∧ ∀ x, (∀ u ∈ us, Proc o u → Up o u x) → Up o m x

theorem MeetL.nil : MeetL o [] none := fun u hu => by simp at hu

theorem MeetL.skip {us : List Nat} {r : Option Nat} {u : Nat} (h : MeetL o us r) (hu : ¬ Proc o u) : MeetL o (us ++ [u]) r := by
  cases r with
  | none =>
    intro v hv
    rcases List.mem_append.1 hv with hv | hv
    · exact h v hv
    · simp at hv; subst hv; exact hu
  | some m =>
    refine ⟨⟨h.1.choose, List.mem_append.2 (.inl h.1.choose_spec.1), h.1.choose_spec.2⟩, fun v hv hp => ?_, fun x hx => h.2.2 x fun v hv hp => hx v (List.mem_append.2 (.inl hv)) hp⟩
    rcases List.mem_append.1 hv with hv | hv
    · exact h.2.1 v hv hp
    · simp at hv; subst hv; exact absurd hp hu

theorem MeetL.first {us : List Nat} {u : Nat} (h : MeetL o us none) (hu : Proc o u) : MeetL o (us ++ [u]) (some u) := by
  refine ⟨⟨u, by simp, hu⟩, fun v hv hp => ?_, fun x hx => hx u (by simp) hu⟩
  rcases List.mem_append.1 hv with hv | hv
  · exact absurd hp (h v hv)
  · simp at hv; subst hv; exact .refl _

theorem MeetL.more {us : List Nat} {u m m' : Nat} (h : MeetL o us (some m)) (hu : Proc o u) (hm : MeetOf o m u m') : MeetL o (us ++ [u]) (some m') := by
  refine ⟨⟨u, by simp, hu⟩, fun v hv hp => ?_, fun x hx => ?_⟩
  · rcases List.mem_append.1 hv with hv | hv
    · exact (h.2.1 v hv hp).trans hm.1
    · simp at hv; subst hv; exact hm.2.1
  · exact hm.2.2 x (h.2.2 x fun v hv hp => hx v (List.mem_append.2 (.inl hv)) hp) (hx u (by simp) hu)

theorem MeetL.proc (h : Tr L pl o) {us : List Nat} {m : Nat} (k : MeetL o us (some m)) : Proc o m := by
  obtain ⟨⟨u, h1, h2⟩, h3, _⟩ := k
  exact h.proc (h3 u h1 h2) h2

/-- What holds between two updates of a sweep: i is the place that comes next. -/
structure SwI (L : List Nat) (P : Nat → List Nat) (pl u0 : Nat → Nat) (Dm : Nat → Nat → Prop) (i : Nat) (o : Nat → Option Nat) : Prop where
  tr : Tr L pl o
  met : ∀ v ∈ L, pl v < i → Proc o v
  dm : ∀ v p, o v = some p → ∀ d, Dm d v → d ≠ v → Dm d p
  J : ∀ v p, o v = some p → ∀ x, (∀ u ∈ P v, Proc o u → Up o u x) → x = v ∨ Up o p x
  R : ∀ v p, o v = some p → ∀ x, Up o p x → (pl v < i ∨ i ≤ pl x) → Up o (u0 v) x

def upd (o : Nat → Option Nat) (v m : Nat) : Nat → Option Nat := fun x => if x = v then some m else o x

theorem upd_same (o : Nat → Option Nat) (v m : Nat) : upd o v m v = some m := by simp [upd]
theorem upd_other {v x : Nat} (m : Nat) (h : x ≠ v) : upd o v m x = o x := by simp [upd, h]
theorem upd_id {v m : Nat} (h : o v = some m) : upd o v m = o := by
  funext x; unfold upd; split
  · next e => rw [e, h]
  · rfl

theorem proc_upd {v m x : Nat} : Proc (upd o v m) x ↔ x = v ∨ Proc o x := by
  unfold Proc upd
  by_cases h : x = v
  · simp [h]
  · simp [h]

/-- A chain that does not go through v is as it was. -/
theorem up_upd_low {v m x y : Nat} (h : Tr L pl o) (hx : pl x < pl v ∨ ¬ Up o x v) : Up (upd o v m) x y ↔ Up o x y := by
  constructor
  · intro k
    induction k with
    | refl => exact .refl _
    | @step a p z e _ ih =>
      have hne : a ≠ v := by
        rintro rfl
        rcases hx with hx | hx
        · omega
        · exact hx (.refl _)
      rw [upd_other m hne] at e
      refine .step e (ih ?_)
      rcases hx with hx | hx
      · have := (h.up _ _ e).2.2.2.1; exact .inl (by omega)
      · exact .inr (fun h' => hx (.step e h'))
  · intro k
    induction k with
    | refl => exact .refl _
    | @step a p z e _ ih =>
      have hne : a ≠ v := by
        rintro rfl
        rcases hx with hx | hx
        · omega
        · exact hx (.refl _)
      refine .step (by rw [upd_other m hne]; exact e) (ih ?_)
      rcases hx with hx | hx
      · have := (h.up _ _ e).2.2.2.1; exact .inl (by omega)
      · exact .inr (fun h' => hx (.step e h'))

/-- The part of a chain up to v is as it was. -/
theorem up_upd_high {v m x y : Nat} (h : Tr L pl o) (h' : Tr L pl (upd o v m)) (hy : pl v ≤ pl y) (hyv : pl v = pl y → y = v) : Up (upd o v m) x y ↔ Up o x y := by
  constructor
  · intro k
    induction k with
    | refl => exact .refl _
    | @step a p z e k' ih =>
      by_cases hne : a = v
      · subst hne
        have h1 := (h'.up _ _ e).2.2.2.1
        have h2 := h'.le k'
        omega
      · rw [upd_other m hne] at e
        exact .step e (ih hy hyv)
  · intro k
    induction k with
    | refl => exact .refl _
    | @step a p z e k' ih =>
      by_cases hne : a = v
      · subst hne
        have h1 := (h.up _ _ e).2.2.2.1
        have h2 := h.le k'
        omega
      · exact .step (by rw [upd_other m hne]; exact e) (ih hy hyv)

/-- What lies beyond v is so in v's own new chain. -/
theorem up_thru {v m a x : Nat} (h : Tr L pl o) (k : Up o a v) (hlt : pl x < pl v) (k2 : Up (upd o v m) a x) : Up (upd o v m) v x := by
  induction k with
  | refl => exact k2
  | @step a q z e k' ih =>
    have h1 := (h.up _ _ e).2.2.2.1
    have h2 := h.le k'
    have hne : a ≠ z := by rintro rfl; omega
    rcases k2.cases' with rfl | ⟨q', e2, h3⟩
    · omega
    · rw [upd_other m hne, e] at e2
      obtain rfl := Option.some.inj e2
      exact ih hlt h3

/-- One update. -/
theorem SwI.update {Dm : Nat → Nat → Prop} {i v m : Nat} (g : Gr L P pl u0) (h : SwI L P pl u0 Dm i o) (hDm : ∀ d v, Dm d v → v ∈ L → v ≠ 0 → d ≠ v → ∀ u ∈ P v, u ∈ L → Dm d u)
    (hd0 : ∀ d, Dm d 0 → d = 0) (hv : v ∈ L) (hv0 : v ≠ 0) (hi : pl v = i) (hm : MeetL o (P v) (some m)) :
    SwI L P pl u0 Dm (i + 1) (upd o v m) ∧ ∀ q, o v = some q → Up o q m := by
  obtain ⟨hu1, hu2, hu3⟩ := g.u0 v hv hv0
  have hup : Proc o (u0 v) := h.met _ hu2 (by omega)
  have hum := hm.2.1 _ hu1 hup
  have hmp : Proc o m := hm.proc h.tr
  have hmL : m ∈ L := h.tr.mem hum hu2
  have hmlt : pl m < pl v := by have := h.tr.le hum; omega
  have hT : Tr L pl (upd o v m) := by
    refine ⟨fun x p e => ?_⟩
    by_cases hx : x = v
    · subst hx
      rw [upd_same] at e
      obtain rfl := Option.some.inj e
      exact ⟨hv, hv0, hmL, hmlt, proc_upd.2 (.inr hmp)⟩
    · rw [upd_other m hx] at e
      obtain ⟨h1, h2, h3, h4, h5⟩ := h.tr.up x p e
      exact ⟨h1, h2, h3, h4, proc_upd.2 (.inr h5)⟩
  -- the new chain of v is within the old one
  have hshr : ∀ q, o v = some q → Up o q m := by
    intro q hq
    rcases h.J v q hq m hm.2.1 with rfl | h1
    · omega
    · exact h1
  have hlow : ∀ x, Up (upd o v m) m x ↔ Up o m x := fun x => up_upd_low h.tr (.inl hmlt)
  have hvx : ∀ x, Up (upd o v m) v x ↔ x = v ∨ Up o m x := by
    intro x
    constructor
    · intro k
      rcases k.cases' with rfl | ⟨p, e, k'⟩
      · exact .inl rfl
      · rw [upd_same] at e
        obtain rfl := Option.some.inj e
        exact .inr ((hlow x).1 k')
    · rintro (rfl | k)
      · exact .refl _
      · exact .step (upd_same o v m) ((hlow x).2 k)
  -- chains shrink
  have hsub : ∀ w x, (w = v → o v ≠ none) → Up (upd o v m) w x → Up o w x := by
    intro w x hw k
    induction k with
    | refl => exact .refl _
    | @step a p z e k' ih =>
      by_cases hav : a = v
      · subst hav
        rw [upd_same] at e
        obtain rfl := Option.some.inj e
        cases hq : o a with
        | none => exact absurd hq (hw rfl)
        | some q => exact .step hq ((hshr q hq).trans ((hlow z).1 k'))
      · rw [upd_other m hav] at e
        have h5 := (h.tr.up _ _ e).2.2.2.2
        refine .step e (ih fun hpv => ?_)
        subst hpv
        rcases h5 with h5 | h5
        · exact absurd h5 hv0
        · exact h5
  refine ⟨⟨hT, ?_, ?_, ?_, ?_⟩, hshr⟩
  · intro x hx hlt
    by_cases hxv : x = v
    · exact proc_upd.2 (.inl hxv)
    · refine proc_upd.2 (.inr (h.met x hx ?_))
      have : pl x ≠ pl v := fun e => hxv (g.inj x hx v hv e)
      omega
  · intro x p e d hd hne
    by_cases hxv : x = v
    · subst hxv
      rw [upd_same] at e
      obtain rfl := Option.some.inj e
      -- d is over each that is behind
      have hD : ∀ u y, Up o u y → Dm d u → (∀ z, Up o u z → Up o z y → z ≠ y → z ≠ d) → Dm d y := by
        intro u y k
        induction k with
        | refl => exact fun h _ => h
        | @step a q z e' k' ih =>
          intro h1 h2
          have haz : a ≠ z := by
            rintro rfl
            have := (h.tr.up _ _ e').2.2.2.1
            have := h.tr.le k'
            omega
          refine ih (h.dm a q e' d h1 (fun ed => h2 a (.refl _) (.step e' k') haz ed.symm)) fun y h3 h4 h5 => h2 y (.step e' h3) h4 h5
      have hDS : ∀ n u, pl u ≤ n → Proc o u → Dm d u → Up o u d := by
        intro n
        induction n with
        | zero =>
          intro u hu hp hdu
          rcases hp with rfl | hp
          · rw [hd0 d hdu]; exact .refl _
          · cases e' : o u with
            | none => exact absurd e' hp
            | some q => have := (h.tr.up u q e').2.2.2.1; omega
        | succ n ih =>
          intro u hu hp hdu
          by_cases hud : d = u
          · rw [hud]; exact .refl _
          · rcases hp with rfl | hp
            · rw [hd0 d hdu]; exact .refl _
            · cases e' : o u with
              | none => exact absurd e' hp
              | some q =>
                have h5 := h.tr.up u q e'
                exact .step e' (ih q (by omega) h5.2.2.2.2 (h.dm u q e' d hdu hud))
      have hdu : ∀ u ∈ P x, Proc o u → Dm d u := fun u hu hp => hDm d x hd hv hv0 hne u hu (h.tr.inL (g.has0 x hv) hp)
      have hmd : Up o m d := hm.2.2 d fun u hu hp => hDS (pl u) u (Nat.le_refl _) hp (hdu u hu hp)
      refine hD (u0 x) m hum (hdu _ hu1 hup) fun z h1 h2 h3 hzd => ?_
      subst hzd
      exact h3 (h.tr.anti h2 hmd).symm
    · rw [upd_other m hxv] at e
      exact h.dm x p e d hd hne
  · intro w p e x hx
    by_cases hwv : w = v
    · subst hwv
      rw [upd_same] at e
      obtain rfl := Option.some.inj e
      have h1 : Up o m x := hm.2.2 x fun u hu hp => by
        have hu' := hx u hu (proc_upd.2 (.inr hp))
        refine hsub u x (fun e' => ?_) hu'
        subst e'
        rcases hp with hp | hp
        · exact absurd hp hv0
        · exact hp
      exact .inr ((hlow x).2 h1)
    · rw [upd_other m hwv] at e
      have hJ : x = w ∨ Up o p x := by
        refine h.J w p e x fun u hu hp => hsub u x (fun e' => ?_) (hx u hu (proc_upd.2 (.inr hp)))
        subst e'
        rcases hp with hp | hp
        · exact absurd hp hv0
        · exact hp
      rcases hJ with rfl | hJ
      · exact .inl rfl
      right
      by_cases hwt : Up o p v
      · -- v is over w
        have hpw := (h.tr.up w p e).2.2.2.1
        have hwL := (h.tr.up w p e).1
        have hw0 := (h.tr.up w p e).2.1
        have hvw := h.tr.le hwt
        have hu0v : Up o (u0 w) v := h.R w p e v hwt (.inr (by omega))
        by_cases hlt : pl v ≤ pl x
        · have hxL := h.tr.mem hJ (h.tr.up w p e).2.2.1
          exact (up_upd_high h.tr hT hlt (fun e' => (g.inj v hv x hxL e').symm)).2 hJ
        · obtain ⟨q1, q2, q3⟩ := g.u0 w hwL hw0
          have hpu : Proc o v := h.tr.proc hwt (h.tr.up w p e).2.2.2.2
          -- the one behind w is met
          have hpu0 : Proc (upd o v m) (u0 w) := by
            rcases hu0v.cases' with e' | ⟨q, e', _⟩
            · exact proc_upd.2 (.inl e'.symm)
            · exact proc_upd.2 (.inr (.inr (by rw [e']; simp)))
          have hx' := hx (u0 w) q1 hpu0
          have h6 := up_thru h.tr hu0v (by omega) hx'
          have h7 : Up (upd o v m) p v := (up_upd_high h.tr hT (Nat.le_refl _) (fun _ => rfl)).2 hwt
          exact h7.trans h6
      · exact (up_upd_low h.tr (.inr hwt)).2 hJ
  · intro w p e x hx hc
    by_cases hwv : w = v
    · subst hwv
      rw [upd_same] at e
      obtain rfl := Option.some.inj e
      exact (up_upd_low h.tr (.inl hu3)).2 (hum.trans ((hlow x).1 hx))
    · rw [upd_other m hwv] at e
      have h5 := h.tr.up w p e
      obtain ⟨q1, q2, q3⟩ := g.u0 w h5.1 h5.2.1
      by_cases hwl : pl w < i
      · have h6 : Up o p x := (up_upd_low h.tr (.inl (by omega))).1 hx
        exact (up_upd_low h.tr (.inl (by omega))).2 (h.R w p e x h6 (.inl hwl))
      · have hne : pl w ≠ pl v := fun e' => hwv (g.inj w h5.1 v hv e')
        have hxi : i + 1 ≤ pl x := by omega
        have h6 : Up o p x := (up_upd_high h.tr hT (by omega) (by omega)).1 hx
        exact (up_upd_high h.tr hT (by omega) (by omega)).2 (h.R w p e x h6 (.inr (by omega)))

/-- A tree that a sweep leaves as it was: those over one are those that are on each way to it. -/
def FixAt (P : Nat → List Nat) (o : Nat → Option Nat) (v : Nat) : Prop := ∃ p, o v = some p ∧ MeetL o (P v) (some p)
end Go.Proofs.Ytpbkkajgcdahcaa
