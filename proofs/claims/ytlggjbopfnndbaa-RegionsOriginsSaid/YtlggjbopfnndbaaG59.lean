import Derived.Test.YtlggjbopfnndbaaG24
import Derived.Test.YtlggjbopfnndbaaG30
import Derived.Test.YtlggjbopfnndbaaG61
import Derived.Test.YtlggjbopfnndbaaRegMd
namespace Go.Proofs.Ytlggjbopfnndbaa
open Go.RowKit
/-- Origins are lent parameters, of what is lent. -/
structure OrigR (m : Mo) (x : Nat → Nat → Nat → Bool) : Prop where
 ok : ∀ f u n, x f u n = true → ∃ g, m.fs[f]? = some g ∧ (n : Int) < g.c.par ∧ g.lentAt (n : Int) = true ∧ ((u < g.vs.length ∧ g.lentAt (u : Int) = true) ∨ (u = g.vs.length ∧ g.lentRet = true))
theorem OrigR.start (m : Mo) : OrigR m (initR m) := by
 refine ⟨fun f u n h => ?_⟩
 unfold initR at h
 cases hg : m.fs[f]? with
 | none => rw [hg] at h; exact absurd h (by simp)
 | some g =>
  rw [hg] at h
  simp only [Bool.and_eq_true, decide_eq_true_eq] at h
  obtain ⟨⟨⟨rfl, h2⟩, h3⟩, h4⟩ := h
  exact ⟨g, rfl, h2, h4, .inl ⟨h3, h4⟩⟩
theorem OrigR.or {m : Mo} {x : Nat → Nat → Nat → Bool} (h : OrigR m x) {f d a : Nat} {g : Fn} (hg : m.fs[f]? = some g) (hd : (d < g.vs.length ∧ g.lentAt (d : Int) = true) ∨ (d = g.vs.length ∧ g.lentRet = true)) : OrigR m (orR x f d a) := by
 refine ⟨fun f' u n hx => ?_⟩
 unfold orR at hx
 split at hx
 ·rename_i e
  obtain ⟨rfl, rfl⟩ := e
  rcases Bool.or_eq_true .. ▸ hx with q | q
  ·exact h.ok _ _ _ q
  ·obtain ⟨g', h1, h2, h3, _⟩ := h.ok _ _ _ q
   rw [hg] at h1
   obtain rfl := Option.some.inj h1
   exact ⟨g, hg, h2, h3, hd⟩
 ·exact h.ok _ _ _ hx
theorem lentAt_nat {g : Fn} {v : Int} (h : g.lentAt v = true) : g.lentAt ((v.toNat : Nat) : Int) = true := by
 have h0 := (lentAt_lt h).1
 rw [Int.toNat_of_nonneg h0]; exact h
theorem OrigR.call {m : Mo} {ml : Nat → Nat} {f : Nat} {g : Fn} (hg : m.fs[f]? = some g) (d : Int) (h : Nat) : ∀ (l : List Int) (n : Nat) (s : RS), OrigR m s.x → OrigR m (callR ml f g d h n l s).x
 | [], _, s, hs => hs
 | a :: r, n, s, hs => by
  unfold callR
  refine OrigR.call hg d h r (n + 1) _ ?_
  split
  ·rename_i hc
   simp only [Bool.and_eq_true] at hc
   exact hs.or hg (.inl ⟨(lentAt_lt hc.1.1).2, lentAt_nat hc.1.1⟩)
  ·exact hs
theorem OrigR.ins {m : Mo} {ml : Nat → Nat} {f : Nat} {g : Fn} (hg : m.fs[f]? = some g) (i : Ins) (s : RS) (hs : OrigR m s.x) : OrigR m (insR ml f g i s).x := by
 unfold insR
 split
 ·split
  ·rename_i hc
   simp only [Bool.and_eq_true] at hc
   exact hs.or hg (.inl ⟨(lentAt_lt hc.1).2, lentAt_nat hc.1⟩)
  ·exact hs
 ·split
  ·exact OrigR.call hg _ _ _ _ _ hs
  ·split
   ·split
    ·rename_i hc
     simp only [Bool.and_eq_true] at hc
     exact hs.or hg (.inr ⟨rfl, hc.1⟩)
    ·exact hs
   ·exact hs
theorem OrigR.code {m : Mo} {ml : Nat → Nat} {f : Nat} {g : Fn} (hg : m.fs[f]? = some g) : ∀ (l : List Ins) (s : RS), OrigR m s.x → OrigR m (codeR ml f g l s).x
 | [], _, hs => hs
 | i :: r, s, hs => OrigR.code hg r _ (OrigR.ins hg i s hs)
theorem OrigR.funcs {m : Mo} {ml : Nat → Nat} : ∀ (l : List Fn) (f : Nat) (s : RS), (∀ (k : Nat) (g : Fn), l[k]? = some g → m.fs[f + k]? = some g) → OrigR m s.x → OrigR m (funcsR ml f l s).x
 | [], _, _, _, hs => hs
 | g :: r, f, s, h, hs => OrigR.funcs r (f + 1) _ (fun k x hx => by rw [show f + 1 + k = f + (k + 1) from by omega]; exact h (k + 1) x (by simpa using hx)) (OrigR.code (h 0 g rfl) _ _ hs)
theorem origR_rounds (m : Mo) : ∀ k, OrigR m (roundsR m k)
 | 0 => OrigR.start m
 | k + 1 => OrigR.funcs m.fs 0 _ (fun j g hg => by rw [Nat.zero_add]; exact hg) (origR_rounds m k)
/-- Where a run of instructions has nothing new, none of them had. -/
theorem codeR_none {B V ml : Nat → Nat} {f : Nat} {g : Fn} (hP : g.c.par.toNat = B f) (hV : g.vs.length = V f) : ∀ (l : List Ins) (s : RS), (codeR ml f g l s).is = false → ∀ i ∈ l, ∃ t : RS, (insR ml f g i t).is = false ∧ ∀ f' u n, n < B f' → t.x f' u n = s.x f' u n
 | [], _, _, _, hi => absurd hi (by simp)
 | j :: r, s, h, i, hi => by
  have h1 : (insR ml f g j s).is = false := ((StepR.code (B := B) (V := V) hP hV r (insR ml f g j s)).was h).1
  rcases List.mem_cons.1 hi with e | e
  ·subst e; exact ⟨s, h1, fun _ _ _ _ => rfl⟩
  ·obtain ⟨t, h2, h3⟩ := codeR_none hP hV r (insR ml f g j s) h i e
   exact ⟨t, h2, fun f' u n hn => (h3 f' u n hn).trans (((StepR.ins (B := B) (V := V) hP hV j s).was h1).2 f' u n hn)⟩
theorem funcsR_none {B V ml : Nat → Nat} : ∀ (l : List Fn) (f : Nat) (s : RS), (∀ (k : Nat) (g : Fn), l[k]? = some g → g.c.par.toNat = B (f + k) ∧ g.vs.length = V (f + k)) → (funcsR ml f l s).is = false →
  ∀ (k : Nat) (g : Fn), l[k]? = some g → ∀ i ∈ g.c.ins, ∃ t : RS, (insR ml (f + k) g i t).is = false ∧ ∀ f' u n, n < B f' → t.x f' u n = s.x f' u n
 | [], _, _, _, _, k, g, hg => absurd hg (by simp)
 | x :: r, f, s, hb, h, k, g, hg => by
  have hr : ∀ (k : Nat) (g : Fn), r[k]? = some g → g.c.par.toNat = B (f + 1 + k) ∧ g.vs.length = V (f + 1 + k) := fun k y hy => by rw [show f + 1 + k = f + (k + 1) from by omega]; exact hb (k + 1) y (by simpa using hy)
  have h1 : (codeR ml f x x.c.ins s).is = false := ((StepR.funcs (B := B) (V := V) r (f + 1) _ hr).was h).1
  cases k with
  | zero =>
   obtain rfl := Option.some.inj (show some x = some g from by simpa using hg)
   exact fun i hi => codeR_none (hb 0 x rfl).1 (hb 0 x rfl).2 _ s h1 i hi
  | succ k =>
   intro i hi
   obtain ⟨t, h2, h3⟩ := funcsR_none r (f + 1) _ hr h k g (by simpa using hg) i hi
   rw [show f + 1 + k = f + (k + 1) from by omega] at h2
   exact ⟨t, h2, fun f' u n hn => (h3 f' u n hn).trans (((StepR.code (B := B) (V := V) (hb 0 x rfl).1 (hb 0 x rfl).2 x.c.ins s).was h1).2 f' u n hn)⟩
/-- **Behind the last round** a variable has all that it is given from has. -/
theorem fix_give {m : Mo} {x : Nat → Nat → Nat → Bool} (h : (passR m x).is = false) {f : Nat} {g : Fn} (hg : m.fs[f]? = some g) {i : Ins} (hi : i ∈ g.c.ins) (ho : i.op = 9 ∨ i.op = 10) (hd : g.lentAt i.d = true) (ha : g.lentAt i.a = true) (n : Nat) (hn : n < m.np f)
  (hx : x f i.a.toNat n = true) : x f i.d.toNat n = true := by
 obtain ⟨t, h1, h2⟩ := funcsR_none (B := m.np) (V := m.nv) m.fs 0 _ (fun k g hg => by unfold Mo.np Mo.nv; rw [Nat.zero_add, hg]; exact ⟨rfl, rfl⟩) h f g hg i hi
 rw [Nat.zero_add] at h1
 unfold insR at h1
 rw [if_pos ho, hd, ha, if_pos (by rfl)] at h1
 unfold RS.join at h1
 simp only [Bool.or_eq_false_iff] at h1
 have h3 := h1.1
 unfold newR at h3
 rw [List.any_eq_false] at h3
 have hP : g.c.par.toNat = m.np f := by unfold Mo.np; rw [hg]
 have h4 := h3 n (by rw [List.mem_range, hP]; exact hn)
 rw [h2 f _ n hn, h2 f _ n hn] at h4
 cases e : x f i.d.toNat n with
 | true => rfl
 | false => exact absurd (by rw [show (RS.x ⟨x, false⟩ f i.a.toNat n) = true from hx, show (RS.x ⟨x, false⟩ f i.d.toNat n) = false from e]; rfl) h4
end Go.Proofs.Ytlggjbopfnndbaa
namespace Go.Proofs.Ytlggjbopfnndbaa
open Go.RowKit
theorem encN_map (L : List Nat) : L.flatMap encN = L.map fun n : Nat => Value.int .i64 (n : Int) := by
 induction L with
 | nil => rfl
 | cons a r ih => rw [List.flatMap_cons, ih]; rfl
/-- Behind a function that makes a row of numbers, at any place of it. -/
theorem givesN_at {w w' : World} {L : List Nat} {e : Ending} (h : GivesN w L e w') :
  ∃ ao cap, e = .returned (.slice ao L.length cap) ∧ Below w.heap.size w w' ∧ (L ≠ [] → ∃ b, ao = some ⟨b, 0, none⟩ ∧ w.heap.size ≤ b ∧ b < w'.heap.size ∧ ∀ (i n : Nat), L[i]? = some n → w'.cell? ⟨b, i, none⟩ = some (.int .i64 (n : Int))) := by
 obtain ⟨v, rfl, ho, hb⟩ := h
 obtain ⟨ao, cap, rfl⟩ := ownsRow_slice ho
 refine ⟨ao, cap, rfl, hb, fun hne => ?_⟩
 rw [encN_map] at ho
 have hget : ∀ (i n : Nat), L[i]? = some n → (L.map fun n : Nat => Value.int .i64 (n : Int))[i]? = some (.int .i64 (n : Int)) := fun i n hi => by rw [List.getElem?_map, hi]; rfl
 obtain ⟨a, r, rfl⟩ := List.exists_cons_of_ne_nil hne
 obtain ⟨b, e, hlt, _⟩ := ownsRow_get ho (hget 0 a rfl)
 refine ⟨b, e, (ho.lt b (by rw [e]; rfl)).1, hlt, fun i n hi => ?_⟩
 obtain ⟨b', e', _, hc⟩ := ownsRow_get ho (hget i n hi)
 rw [e] at e'
 simp only [Option.some.injEq, Addr.mk.injEq, and_true] at e'
 rw [e']; exact hc
theorem lists_len (m : Mo) (X : Nat → Nat → Nat → Bool) (j : Nat) : (fromL m X (j : Int)).length ≤ m.np j := by
 unfold fromL
 split
 ·exact Nat.le_trans (List.length_filter_le _ _) (by rw [List.length_range, Int.toNat_natCast]; exact Nat.le_refl _)
 ·exact Nat.zero_le _
theorem varl_len (m : Mo) (X : Nat → Nat → Nat → Bool) (j : Nat) (v : Int) : (varL m X (j : Int) v).length ≤ m.np j := by
 unfold varL
 split
 ·exact Nat.le_trans (List.length_filter_le _ _) (by rw [List.length_range, Int.toNat_natCast]; exact Nat.le_refl _)
 ·exact Nat.zero_le _
end Go.Proofs.Ytlggjbopfnndbaa
namespace Go.Proofs.Ytlggjbopfnndbaa
open Go.RowKit
/-- Behind Module, of a module: n is m, with these origins. -/
structure ModOf (m : Mo) (x : Nat → Nat → Nat → Bool) (n : Mo) : Prop where
 ss : n.ss = m.ss
 len : n.fs.length = m.fs.length
 up : FnsUp m x n.fs
theorem withFrom_er {g g' : Fn} {l : List Nat} (h : WithFrom g g' l) : erF g' = erF g := by
 unfold WithFrom at h
 rw [h]; rfl
theorem modOf_get {m n : Mo} {x : Nat → Nat → Nat → Bool} (h : ModOf m x n) {f : Nat} {g : Fn} (hg : m.fs[f]? = some g) : ∃ g', n.fs[f]? = some g' ∧ WithFrom g g' (fromL m x (f : Int)) := by
 have hf := (List.getElem?_eq_some_iff.1 hg).1
 obtain ⟨g', hg'⟩ : ∃ g', n.fs[f]? = some g' := ⟨_, List.getElem?_eq_getElem (by rw [h.len]; exact hf)⟩
 obtain ⟨g2, h1, h2⟩ := h.up f g' hg'
 rw [hg] at h1
 obtain rfl := Option.some.inj h1
 exact ⟨g', hg', h2⟩
theorem modOf_er {m n : Mo} {x : Nat → Nat → Nat → Bool} (h : ModOf m x n) : erM n = erM m := by
 have e : n.fs.map erF = m.fs.map erF := by
  refine List.ext_getElem? fun f => ?_
  rw [List.getElem?_map, List.getElem?_map]
  rcases Nat.lt_or_ge f m.fs.length with hf | hf
  ·obtain ⟨g, hg⟩ : ∃ g, m.fs[f]? = some g := ⟨_, List.getElem?_eq_getElem hf⟩
   obtain ⟨g', hg', hr⟩ := modOf_get h hg
   rw [hg, hg', Option.map_some, Option.map_some, withFrom_er hr]
  ·rw [List.getElem?_eq_none hf, List.getElem?_eq_none (by rw [h.len]; exact hf)]
 unfold erM
 rw [h.ss, e]
theorem er_pass {m n : Mo} (h : erM n = erM m) (x : Nat → Nat → Nat → Bool) : passR n x = passR m x := by rw [← passR_er n, ← passR_er m, h]
theorem er_rounds {m n : Mo} (h : erM n = erM m) (k : Nat) : roundsR n k = roundsR m k := by rw [← roundsR_er n, ← roundsR_er m, h]
theorem er_is {m n : Mo} (h : erM n = erM m) {k : Nat} (hk : RoundsIs n k) : RoundsIs m k := by
 refine ⟨?_, fun q hq => ?_⟩
 ·have := hk.1; rw [er_pass h, er_rounds h] at this; exact this
 ·have := hk.2 q hq; rw [er_pass h, er_rounds h] at this; exact this
theorem er_from {m n : Mo} (h : erM n = erM m) (x : Nat → Nat → Nat → Bool) (f : Int) : fromL n x f = fromL m x f := by rw [← fromL_er n, ← fromL_er m, h]
/-- The origins asked again are the same: the module too. -/
theorem stay_same {md : Ins → List Int} {m n n' o : Mo} {k j : Nat} (h1 : ModOf m (roundsR m (k + 1)) n) (h3 : ModOf m (roundsR m (k + 1)) n') (hk : RoundsIs m k) (h2 : ModOf n (roundsR n (j + 1)) o) (hj : RoundsIs n j) : sameM md o n' = true := by
 have he := modOf_er h1
 obtain rfl := roundsIs_one hk (er_is he hj)
 unfold sameM
 rw [h2.ss, h1.ss, h3.ss, eqBy_self stSame_self, Bool.true_and]
 refine eqBy_iff.2 ⟨by rw [h2.len, h1.len, h3.len], fun f g'' g' hg'' hg' => ?_⟩
 have hf : f < m.fs.length := by rw [← h3.len]; exact (List.getElem?_eq_some_iff.1 hg').1
 obtain ⟨g, hg⟩ : ∃ g, m.fs[f]? = some g := ⟨_, List.getElem?_eq_getElem hf⟩
 obtain ⟨x1, e1, w1⟩ := modOf_get h1 hg
 obtain ⟨x3, e3, w3⟩ := modOf_get h3 hg
 rw [hg'] at e3
 obtain rfl := Option.some.inj e3
 obtain ⟨x2, e2, w2⟩ := modOf_get h2 e1
 rw [hg''] at e2
 obtain rfl := Option.some.inj e2
 unfold WithFrom at w1 w2 w3
 have a1 : g'.frm = (fromL m (roundsR m (k + 1)) (f : Int)).map fun n : Nat => (n : Int) := by rw [w3]
 have a2 : g''.frm = (fromL n (roundsR n (k + 1)) (f : Int)).map fun n : Nat => (n : Int) := by rw [w2]
 have a3 : g''.frm = g'.frm := by rw [a1, a2, er_rounds he, er_from he]
 have a4 : g''.vs = g'.vs := by rw [w2, w3]; rw [w1]
 have a5 : g''.c.ins = g'.c.ins := by rw [w2, w3]; rw [w1]
 have a6 : g''.c.nm = g'.c.nm ∧ g''.c.par = g'.c.par ∧ g''.c.rp = g'.c.rp ∧ g''.c.rto = g'.c.rto ∧ g''.c.rcl = g'.c.rcl := by rw [w2, w3]; rw [w1]; exact ⟨rfl, rfl, rfl, rfl, rfl⟩
 obtain ⟨b1, b2, b3, b4, b5⟩ := a6
 unfold sameC
 rw [a3, a4, a5, b1, b2, b3, b4, b5, eqI_self, eqBy_self vrSame_self, eqBy_self (p := sameI md) (fun i => by unfold sameI; simp [eqI_self])]
 simp
/-- A module with its origins serves as one that comes in. -/
theorem modOf_right {w w' : World} {m n : Mo} {x : Nat → Nat → Nat → Bool} (hin : RightIn w m) (h : ModOf m x n) (hn : n.inn w') : RightIn w' n := by
 have key : ∀ g' ∈ n.fs, ∃ g ∈ m.fs, g'.vs = g.vs ∧ g'.c.ins = g.c.ins := by
  intro g' hg'
  obtain ⟨f, hf⟩ := List.mem_iff_getElem?.1 hg'
  obtain ⟨g, hg, hw⟩ := h.up f g' hf
  unfold WithFrom at hw
  exact ⟨g, List.mem_of_getElem? hg, by rw [hw], by rw [hw]⟩
 refine ⟨hn, by rw [h.ss]; exact hin.sl, by rw [h.len]; exact hin.fl, by rw [h.ss]; exact hin.fd, fun g' hg' => ?_, fun g' hg' i' hi' => ?_⟩
 ·obtain ⟨g, hg, e, _⟩ := key g' hg'
  rw [e]; exact hin.vl g hg
 ·obtain ⟨g, hg, _, e⟩ := key g' hg'
  rw [e] at hi'; exact hin.al g hg i' hi'
/-- .. and may be held against another one. -/
theorem modOf_fit {w : World} {m n : Mo} {x : Nat → Nat → Nat → Bool} (hF : rightF m = 0) (hl : ∀ g ∈ m.fs, ∀ i ∈ g.c.ins, i.light) (h : ModOf m x n) (hn : n.inn w) : n.fitS (mdOf w) w := by
 have hok := OkR.of hF
 have hss := (right_parts hF).2.1
 have key : ∀ g' ∈ n.fs, ∃ (f : Nat) (g : Fn), m.fs[f]? = some g ∧ g'.vs = g.vs ∧ g'.c.ins = g.c.ins ∧ g'.frm = (fromL m x (f : Int)).map fun n : Nat => (n : Int) := by
  intro g' hg'
  obtain ⟨f, hf⟩ := List.mem_iff_getElem?.1 hg'
  obtain ⟨g, hg, hw⟩ := h.up f g' hf
  unfold WithFrom at hw
  exact ⟨f, g, hg, by rw [hw], by rw [hw], by rw [hw]⟩
 refine ⟨hn, fun g' hg' => ?_, by rw [h.ss]; omega, by rw [h.len]; have := hok.nf; omega⟩
 obtain ⟨f, g, hg, e1, e2, e3⟩ := key g' hg'
 have hgm := List.mem_of_getElem? hg
 obtain ⟨p0, p1, p2, p3⟩ := hok.fn g hgm
 have hgi := hn.fin g' hg'
 have hmode : ∀ i ∈ g'.c.ins, ModeAt w (mdOf w) i := by
  intro i him
  obtain ⟨k, hk⟩ := List.mem_iff_getElem?.1 him
  have hkl := (List.getElem?_eq_some_iff.1 hk).1
  obtain ⟨l, hl⟩ : ∃ l, g'.mds[k]? = some l := ⟨_, List.getElem?_eq_getElem (by rw [hgi.nmds]; exact hkl)⟩
  obtain ⟨ao, cap, e1, e2⟩ := hgi.mds k i l hk hl
  exact mdOf_at ⟨l, ao, cap, e1, e2⟩
 refine ⟨hgi, hmode, ?_, by rw [e1]; omega, by rw [e2]; omega, fun i him => ?_⟩
 ·rw [e3, List.length_map]
  have := fromL_len m x (f : Int)
  rw [Int.toNat_natCast, np_get hg] at this
  omega
 ·have hil := hl g hgm i (by rw [← e2]; exact him)
  refine ⟨by have := hil.1; omega, ?_⟩
  obtain ⟨ao, n, cap, e, hn⟩ := hil.2.1
  obtain ⟨ao2, cap2, e2, _⟩ := hmode i him
  rw [e] at e2
  simp at e2
  omega
/-- Lights of a module that is short. -/
theorem light_ins {m : Mo} (hl : m.lightL) : ∀ g ∈ m.fs, ∀ i ∈ g.c.ins, i.light := by
 obtain ⟨_, _, _, h4, _⟩ := hl
 intro g hg i hi
 exact (h4 g.c (List.mem_map.2 ⟨g, hg, rfl⟩)).2.2.2.2 i hi
/-- What a variable is given from has no origin that it has not. -/
theorem stay_has {m : Mo} {k : Nat} (hk : RoundsIs m k) {j : Nat} {g : Fn} (hg : m.fs[j]? = some g) {i : Ins} (hi : i ∈ g.c.ins) (ho : i.op = 9 ∨ i.op = 10) {d a : Nat} {yd ya : Vr} (hd : i.d = (d : Int)) (ha : i.a = (a : Int)) (hyd : g.vs[d]? = some yd) (hya : g.vs[a]? = some ya) (ld : yd.lent = true) (la : ya.lent = true)
  {q n : Nat} (hn : (varL m (roundsR m (k + 1)) (j : Int) (a : Int))[q]? = some n) : n ∈ varL m (roundsR m (k + 1)) (j : Int) (d : Int) := by
 have hj : j < m.fs.length := (List.getElem?_eq_some_iff.1 hg).1
 have hm := List.mem_of_getElem? hn
 have hdl : d < g.vs.length := (List.getElem?_eq_some_iff.1 hyd).1
 have hal : a < g.vs.length := (List.getElem?_eq_some_iff.1 hya).1
 unfold varL at hm ⊢
 rw [inR_nat, Int.toNat_natCast, Int.toNat_natCast, nv_get hg, inR_nat, decide_eq_true hj, decide_eq_true hal, if_pos ⟨rfl, rfl⟩, List.mem_filter, List.mem_range] at hm
 rw [inR_nat, Int.toNat_natCast, Int.toNat_natCast, nv_get hg, inR_nat, decide_eq_true hj, decide_eq_true hdl, if_pos ⟨rfl, rfl⟩, List.mem_filter, List.mem_range]
 refine ⟨hm.1, ?_⟩
 have h1 : ∀ f u n, n < m.np f → roundsR m (k + 1) f u n = roundsR m k f u n := fun f u n hn => ((passR_step m (roundsR m k)).was hk.1).2 f u n hn
 have h2 := hm.2
 rw [h1 j a n hm.1] at h2
 rw [h1 j d n hm.1]
 have e1 : g.lentAt i.d = true := by unfold Fn.lentAt; rw [hd, Int.toNat_natCast, hyd, decide_eq_true (by omega)]; exact ld
 have e2 : g.lentAt i.a = true := by unfold Fn.lentAt; rw [ha, Int.toNat_natCast, hya, decide_eq_true (by omega)]; exact la
 have := fix_give hk.1 hg hi ho e1 e2 n hm.1 (by rw [ha, Int.toNat_natCast]; exact h2)
 rw [hd, Int.toNat_natCast] at this; exact this
/-- Numbers at a place. -/
def NumsAt (W : World) (ao : Option Addr) (L : List Nat) : Prop := L ≠ [] → ∃ b, ao = some ⟨b, 0, none⟩ ∧ b < W.heap.size ∧ ∀ (i n : Nat), L[i]? = some n → W.cell? ⟨b, i, none⟩ = some (.int .i64 (n : Int))
theorem NumsAt.below {W W' : World} {ao : Option Addr} {L : List Nat} (h : NumsAt W ao L) (hb : Below W.heap.size W W') : NumsAt W' ao L := fun hne => by
 obtain ⟨b, e, h1, h2⟩ := h hne
 exact ⟨b, e, Nat.lt_of_lt_of_le h1 hb.size, fun i n hi => by rw [hb.cell (p := ⟨b, i, none⟩) h1]; exact h2 i n hi⟩
set_option maxRecDepth 100000 in
theorem has19_calls (w : World) (ao : Option Addr) (L : List Nat) (cap n : Nat) (h : NumsAt w ao L) (hn : n ∈ L) (hl : L.length ≤ 90000) :
  Calls Try.prog 33 #[.slice ao L.length cap, .int .i64 (n : Int)] w fun e w' => e = .returned (.bool true) ∧ Below w.heap.size w w' := by
 obtain ⟨b, rfl, _, hc⟩ := h (by intro e; rw [e] at hn; simp at hn)
 have HC := Lib.hid hc
 have HN := Lib.hid hn
 clear h hc hn
 go_enter Try.func33, Try.ntmps33
 go_wp2_with fail
 go_loop [5] (fun c => ∃ i : Nat, i ≤ L.length ∧ c = .int .i64 (i : Int) ∧ ∀ x ∈ L.take i, x ≠ n) (fun c => L.length - (intOf c).toNat)
 case atStart => exact ⟨0, Nat.zero_le _, rfl, by simp⟩
 case round =>
  obtain ⟨i, hi, rfl, hz⟩ := hrel
  by_cases hil : i < L.length
  ·obtain ⟨x, hx⟩ : ∃ x, L[i]? = some x := ⟨_, List.getElem?_eq_getElem hil⟩
   have hiI : (i : Int) < (L.length : Int) := by omega
   have c0 := HC.out i x hx
   by_cases hxn : x = n
   ·subst hxn
    clear hx hz
    go_wp2
    go_ret
    exact ⟨rfl, Below.refl _ _⟩
   ·have e0 : ((x : Int) == (n : Int)) = false := by rw [beq_eq_false_iff_ne]; omega
    have e1 : (x == n) = false := by rw [beq_eq_false_iff_ne]; exact hxn
    have HT : Hid (∀ y ∈ L.take (i + 1), y ≠ n) := take_all (p := fun y => y ≠ n) hz hx hxn
    clear hx hz
    go_wp2
    go_round
    case rel => exact ⟨i + 1, by omega, by go_num, HT.out⟩
    case measure => simp [intOf]; omega
  ·have hie : i = L.length := by omega
   subst hie
   rw [List.take_length] at hz
   exact (hz n HN.out rfl).elim
end Go.Proofs.Ytlggjbopfnndbaa
