/- Rewritten twice, plain: what a module says without addresses, origins and modes decides all. -/
import Derived.Test.YtlggjbopfnndbaaRewR
import Derived.Test.YtlggjbopfnndbaaG19

namespace Go.Proofs.Ytlggjbopfnndbaa
open Go.RowKit

/-- A module without what Rewrite writes. -/
def erI (i : Ins) : Ins := { i with modeV := .bool false }
def erF (g : Fn) : Fn := ⟨⟨g.c.nm, g.c.par, none, 0, 0, g.c.rp, g.c.rto, g.c.rcl, none, 0, 0, none, 0, g.c.ins.map erI⟩, g.vs, [], []⟩
def erM (m : Mo) : Mo := ⟨none, 0, none, 0, m.ss, m.fs.map erF⟩

theorem erM_get (m : Mo) (f : Nat) : (erM m).fs[f]? = (m.fs[f]?).map erF := by show (m.fs.map erF)[f]? = _; rw [List.getElem?_map]

theorem firstF_map {α β : Type} (f : β → Int) (e : α → β) : ∀ l : List α, firstF f (l.map e) = firstF (fun x => f (e x)) l
  | [] => rfl
  | x :: r => by simp only [List.map_cons, firstF, firstF_map f e r]

theorem callF_er (m : Mo) (vs : List Vr) (i : Ins) : callF (erM m) vs (erI i) = callF m vs i := by
  unfold callF
  have e : (erI i).f = i.f := rfl
  rw [e, erM_get]
  cases m.fs[i.f.toNat]? <;> rfl

theorem instrF_er (m : Mo) (g : Fn) (i : Ins) : instrF (erM m) (erF g) (erI i) = instrF m g i := by
  have h1 : callF (erM m) (erF g).vs (erI i) = callF m g.vs i := callF_er m g.vs i
  have h2 : (erF g).c.ins.length = g.c.ins.length := List.length_map _
  have h3 : plainF (erM m) (erF g).vs (erI i) = plainF m g.vs i := rfl
  have h4 : readsOf (erI i) = readsOf i := rfl
  unfold instrF
  rw [h1, h2, h3, h4]
  rfl

theorem codeF_er (m : Mo) (g : Fn) : codeF (erM m) (erF g) = codeF m g := by
  have h1 : firstF (instrF (erM m) (erF g)) (erF g).c.ins = firstF (instrF m g) g.c.ins := by
    show firstF (instrF (erM m) (erF g)) (g.c.ins.map erI) = _
    rw [firstF_map]
    congr 1
    exact funext fun i => instrF_er m g i
  have h2 : (erF g).c.ins.length = g.c.ins.length := List.length_map _
  have h3 : (erF g).c.ins.getLast? = (g.c.ins.getLast?).map erI := List.getLast?_map
  unfold codeF
  rw [h1, h2, h3]
  cases g.c.ins.getLast? <;> rfl

theorem ixOf_map {α β : Type} (p : β → Bool) (e : α → β) (l : List α) : ixOf p (l.map e) = ixOf (fun x => p (e x)) l := by
  unfold ixOf
  rw [List.length_map, List.findIdx_map]
  rfl

theorem rightF_er (m : Mo) : rightF (erM m) = rightF m := by
  have h1 : twiceF (erM m) = twiceF m := by
    unfold twiceF
    show ((m.ss.any _) || _ || decide (¬ ((m.fs.map erF).map fun f => f.c.nm).Nodup)) = _
    rw [List.map_map]
    rfl
  have h2 : typesF (erM m) = typesF m := by
    unfold typesF
    show _ ++ ((m.fs.map erF).flatMap fun f => f.ret :: f.vs.map Vr.ty) = _
    rw [List.flatMap_map]
    rfl
  have h3 : (erM m).known = m.known := rfl
  have h4 : firstF (codeF (erM m)) (erM m).fs = firstF (codeF m) m.fs := by
    show firstF (codeF (erM m)) (m.fs.map erF) = _
    rw [firstF_map]
    congr 1
    exact funext fun g => codeF_er m g
  have h5 : (erM m).fnIx mainB = m.fnIx mainB := ixOf_map _ _ _
  have h6 : (erM m).fs.length = m.fs.length := List.length_map _
  have h7 : (erM m).ss = m.ss := rfl
  unfold rightF
  rw [h1, h2, h3, h4, h5, h6, h7, erM_get]
  cases m.fs[(m.fnIx mainB).toNat]? <;> rfl

theorem eachFrom_er : ∀ (j : Nat) (l : List Fn), eachFrom j (l.map erF) = eachFrom j l
  | _, [] => rfl
  | j, f :: r => by
    rw [List.map_cons, eachFrom, eachFrom, eachFrom_er (j + 1) r]
    rfl

theorem classedF_er (m : Mo) : classedF (erM m) = classedF m := by
  unfold classedF eachF
  show (eachFrom 0 (m.fs.map erF)).all _ = _
  rw [eachFrom_er]

theorem nv_er (m : Mo) : (erM m).nv = m.nv := by
  funext f
  unfold Mo.nv
  rw [erM_get]
  cases m.fs[f]? <;> rfl
theorem np_er (m : Mo) (f : Nat) : (erM m).np f = m.np f := by
  unfold Mo.np
  rw [erM_get]
  cases m.fs[f]? <;> rfl
theorem initR_er (m : Mo) : initR (erM m) = initR m := by
  funext f u n
  unfold initR
  rw [erM_get]
  cases m.fs[f]? <;> rfl

theorem callR_er (ml : Nat → Nat) (f : Nat) (g : Fn) (d : Int) (h : Nat) : ∀ (l : List Int) (n : Nat) (s : RS), callR ml f (erF g) d h n l s = callR ml f g d h n l s
  | [], _, _ => rfl
  | a :: r, n, s => by
    show callR ml f (erF g) d h (n + 1) r _ = callR ml f g d h (n + 1) r _
    rw [callR_er ml f g d h r (n + 1)]
    rfl

theorem insR_er (ml : Nat → Nat) (f : Nat) (g : Fn) (i : Ins) (s : RS) : insR ml f (erF g) (erI i) s = insR ml f g i s := by
  have h : callR ml f (erF g) (erI i).d (erI i).f.toNat 0 (erI i).args s = callR ml f g i.d i.f.toNat 0 i.args s := callR_er _ _ _ _ _ _ _ _
  unfold insR
  rw [h]
  rfl

theorem codeR_er (ml : Nat → Nat) (f : Nat) (g : Fn) : ∀ (l : List Ins) (s : RS), codeR ml f (erF g) (l.map erI) s = codeR ml f g l s
  | [], _ => rfl
  | i :: r, s => by
    show codeR ml f (erF g) (r.map erI) (insR ml f (erF g) (erI i) s) = codeR ml f g r (insR ml f g i s)
    rw [insR_er, codeR_er ml f g r]

theorem funcsR_er (ml : Nat → Nat) : ∀ (l : List Fn) (f : Nat) (s : RS), funcsR ml f (l.map erF) s = funcsR ml f l s
  | [], _, _ => rfl
  | g :: r, f, s => by
    show funcsR ml (f + 1) (r.map erF) (codeR ml f (erF g) (g.c.ins.map erI) s) = funcsR ml (f + 1) r (codeR ml f g g.c.ins s)
    rw [codeR_er, funcsR_er ml r]

theorem passR_er (m : Mo) (x : Nat → Nat → Nat → Bool) : passR (erM m) x = passR m x := by
  unfold passR
  rw [nv_er]
  exact funcsR_er _ _ _ _

theorem roundsR_er (m : Mo) : ∀ k, roundsR (erM m) k = roundsR m k
  | 0 => initR_er m
  | k + 1 => by show (passR (erM m) (roundsR (erM m) k)).x = _; rw [roundsR_er m k, passR_er]; rfl

theorem fromL_er (m : Mo) (x : Nat → Nat → Nat → Bool) (f : Int) : fromL (erM m) x f = fromL m x f := by
  unfold fromL
  rw [np_er, nv_er, show (erM m).fs.length = m.fs.length from List.length_map _]

theorem modesF_er (m : Mo) (g : Fn) (i : Ins) : modesF (erM m) (erF g) (erI i) = modesF m g i := by
  unfold modesF
  show (if i.op = 9 ∨ i.op = 10 then _ else if i.op = 18 then _ else if i.op = 15 then (match (erM m).fs[i.f.toNat]? with
    | some h => (h.vs.take i.args.length).map (fun x => x.cls)
    | none => []) else []) = _
  rw [erM_get]
  cases m.fs[i.f.toNat]? <;> rfl

theorem rewFn_er {m : Mo} {x : Nat → Nat → Nat → Bool} {f : Nat} {g g' : Fn} (h : RewFn m x f g g') : erF g' = erF g := by
  have e : g'.c.ins.map erI = g.c.ins.map erI := by
    refine List.ext_getElem? fun k => ?_
    rw [List.getElem?_map, List.getElem?_map]
    rcases Nat.lt_or_ge k g.c.ins.length with hk | hk
    · obtain ⟨i, hi⟩ : ∃ i, g.c.ins[k]? = some i := ⟨_, List.getElem?_eq_getElem hk⟩
      obtain ⟨v, hv⟩ := h.ins k i hi
      rw [hi, hv]; rfl
    · rw [List.getElem?_eq_none hk, List.getElem?_eq_none (by rw [h.len]; exact hk)]
  unfold erF
  rw [h.nm, h.par, h.rp, h.rto, h.rcl, h.vs, e]

theorem rewOf_er {m n : Mo} (h : RewOf m n) : erM n = erM m := by
  obtain ⟨h1, h2, k, _, h3⟩ := h
  have e : n.fs.map erF = m.fs.map erF := by
    refine List.ext_getElem? fun f => ?_
    rw [List.getElem?_map, List.getElem?_map]
    rcases Nat.lt_or_ge f m.fs.length with hf | hf
    · obtain ⟨g, hg⟩ : ∃ g, m.fs[f]? = some g := ⟨_, List.getElem?_eq_getElem hf⟩
      obtain ⟨g', hg', hr⟩ := h3 f g hg
      rw [hg, hg', Option.map_some, Option.map_some, rewFn_er hr]
    · rw [List.getElem?_eq_none hf, List.getElem?_eq_none (by rw [h2]; exact hf)]
  unfold erM
  rw [h1, e]

theorem roundsIs_one {m : Mo} {k j : Nat} (h1 : RoundsIs m k) (h2 : RoundsIs m j) : k = j := by
  rcases Nat.lt_trichotomy k j with h | h | h
  · have := h2.2 k h; rw [h1.1] at this; cases this
  · exact h
  · have := h1.2 j h; rw [h2.1] at this; cases this

theorem eqBy_self {α : Type} {p : α → α → Bool} (h : ∀ x, p x x = true) (xs : List α) : eqBy p xs xs = true :=
  eqBy_iff.2 ⟨rfl, fun k x y h1 h2 => by rw [h1] at h2; cases h2; exact h x⟩

theorem vrSame_self (x : Vr) : Vr.same x x = true := by simp [Vr.same]
theorem stSame_self (x : St) : sameS x x = true := by
  unfold sameS
  rw [eqBy_self (fun y => by simp [Fd.same])]
  simp
theorem eqI_self (l : List Int) : eqI l l = true := eqBy_self (fun x => by simp) l

/-- What modes an instruction has in a module. -/
def MdAt (md : Ins → List Int) (n : Mo) : Prop := ∀ g ∈ n.fs, ∀ (k : Nat) (i : Ins) (l : List Int), g.c.ins[k]? = some i → g.mds[k]? = some l → md i = l

/-- Rewritten again: the same. -/
theorem rewTwice {md : Ins → List Int} {m n o : Mo} (h1 : RewOf m n) (h2 : RewOf n o) (hn : MdAt md n) (ho : MdAt md o) : sameM md n o = true := by
  have he := rewOf_er h1
  have hp : ∀ x, passR n x = passR m x := fun x => by rw [← passR_er n, ← passR_er m, he]
  have hr : ∀ k, roundsR n k = roundsR m k := fun k => by rw [← roundsR_er n, ← roundsR_er m, he]
  obtain ⟨a1, a2, k, a3, a4⟩ := h1
  obtain ⟨b1, b2, j, b3, b4⟩ := h2
  have b3' : RoundsIs m j := by
    refine ⟨?_, fun q hq => ?_⟩
    · have := b3.1; rw [hp, hr] at this; exact this
    · have := b3.2 q hq; rw [hp, hr] at this; exact this
  obtain rfl := roundsIs_one a3 b3'
  unfold sameM
  rw [b1, eqBy_self stSame_self, Bool.true_and]
  refine eqBy_iff.2 ⟨b2.symm, fun f g' g'' hg' hg'' => ?_⟩
  have hf : f < m.fs.length := by rw [← a2]; exact (List.getElem?_eq_some_iff.1 hg').1
  obtain ⟨g, hg⟩ : ∃ g, m.fs[f]? = some g := ⟨_, List.getElem?_eq_getElem hf⟩
  obtain ⟨x', hx', hR1⟩ := a4 f g hg
  rw [hg'] at hx'
  obtain rfl := Option.some.inj hx'
  obtain ⟨x'', hx'', hR2⟩ := b4 f g' hg'
  rw [hg''] at hx''
  obtain rfl := Option.some.inj hx''
  have hfrm : g''.frm = g'.frm := by
    rw [hR2.frm, hR1.frm, hr, ← fromL_er n, ← fromL_er m, he]
  unfold sameC
  rw [hR2.nm, hR2.par, hR2.rp, hR2.rto, hR2.rcl, hfrm, hR2.vs, eqI_self, eqBy_self vrSame_self]
  have hins : eqBy (sameI md) g'.c.ins g''.c.ins = true := by
    refine eqBy_iff.2 ⟨hR2.len.symm, fun q i' i'' hi' hi'' => ?_⟩
    obtain ⟨v, hv⟩ := hR2.ins q i' hi'
    rw [hi''] at hv
    have hq : q < g.c.ins.length := by rw [← hR1.len]; exact (List.getElem?_eq_some_iff.1 hi').1
    obtain ⟨i, hi⟩ : ∃ i, g.c.ins[q]? = some i := ⟨_, List.getElem?_eq_getElem hq⟩
    obtain ⟨v1, hv1⟩ := hR1.ins q i hi
    rw [hi'] at hv1
    have e1 := Option.some.inj hv1
    have e2 := Option.some.inj hv
    have m1 : md i' = modesF m g i := hn g' (List.mem_of_getElem? hg') q i' _ hi' (by rw [hR1.mds, List.getElem?_map, hi]; rfl)
    have m2 : md i'' = modesF n g' i' := ho g'' (List.mem_of_getElem? hg'') q i'' _ hi'' (by rw [hR2.mds, List.getElem?_map, hi']; rfl)
    have m3 : md i' = md i'' := by
      rw [m1, m2, ← modesF_er m, ← modesF_er n, he, rewFn_er hR1]
      congr 1
      rw [e1]; rfl
    unfold sameI
    rw [m3, eqI_self, e2]
    simp [eqI_self]
  rw [hins]
  simp

theorem mdOf_eq {w : World} {i : Ins} {l : List Int} {ao : Option Addr} {cap : Nat} (h1 : i.modeV = .slice ao l.length cap) (h2 : IntRow w ao l) : mdOf w i = l := by
  obtain ⟨ao', cap', e1, e2⟩ := mdOf_at (w := w) (i := i) ⟨l, ao, cap, h1, h2⟩
  rw [h1] at e1
  simp only [Value.slice.injEq] at e1
  obtain ⟨rfl, hl, _⟩ := e1
  refine List.ext_getElem? fun k => ?_
  rcases Nat.lt_or_ge k l.length with hk | hk
  · obtain ⟨x, hx⟩ : ∃ x, l[k]? = some x := ⟨_, List.getElem?_eq_getElem hk⟩
    obtain ⟨y, hy⟩ : ∃ y, (mdOf w i)[k]? = some y := ⟨_, List.getElem?_eq_getElem (by rw [← hl]; exact hk)⟩
    obtain ⟨b, o, ea, _, hc⟩ := h2 (by intro e; rw [e] at hk; simp at hk)
    obtain ⟨b', o', ea', _, hc'⟩ := e2 (by intro e; rw [e] at hl; simp at hl; rw [hl] at hk; simp at hk)
    rw [ea] at ea'
    simp only [Option.some.injEq, Addr.mk.injEq, and_true] at ea'
    obtain ⟨rfl, rfl⟩ := ea'
    have c1 := hc k x hx 0 _ rfl
    have c2 := hc' k y hy 0 _ rfl
    rw [c1] at c2
    have e3 : x = y := by simpa using c2
    rw [hx, hy, e3]
  · rw [List.getElem?_eq_none hk, List.getElem?_eq_none (by rw [← hl]; exact hk)]

theorem mdOf_mdAt {w : World} {n : Mo} (hn : n.inn w) : MdAt (mdOf w) n := by
  intro g hg k i l hi hl
  obtain ⟨ao, cap, h1, h2⟩ := (hn.fin g hg).mds k i l hi hl
  exact mdOf_eq h1 h2

/-- A rewritten module serves as one that comes in. -/
theorem rewOf_right {w w' : World} {m n : Mo} (hin : RightIn w m) (h : RewOf m n) (hn : n.inn w') : RightIn w' n := by
  obtain ⟨a1, a2, k, a3, a4⟩ := h
  have key : ∀ g' ∈ n.fs, ∃ g ∈ m.fs, ∃ x f, RewFn m x f g g' := by
    intro g' hg'
    obtain ⟨f, hf⟩ := List.mem_iff_getElem?.1 hg'
    have hfl : f < m.fs.length := by rw [← a2]; exact (List.getElem?_eq_some_iff.1 hf).1
    obtain ⟨g, hg⟩ : ∃ g, m.fs[f]? = some g := ⟨_, List.getElem?_eq_getElem hfl⟩
    obtain ⟨y, hy, hR⟩ := a4 f g hg
    rw [hf] at hy
    obtain rfl := Option.some.inj hy
    exact ⟨g, List.mem_of_getElem? hg, _, _, hR⟩
  refine ⟨hn, by rw [a1]; exact hin.sl, by rw [a2]; exact hin.fl, by rw [a1]; exact hin.fd, fun g' hg' => ?_, fun g' hg' i' hi' => ?_⟩
  · obtain ⟨g, hg, x, f, hR⟩ := key g' hg'
    rw [hR.vs]; exact hin.vl g hg
  · obtain ⟨g, hg, x, f, hR⟩ := key g' hg'
    obtain ⟨q, hq⟩ := List.mem_iff_getElem?.1 hi'
    have hql : q < g.c.ins.length := by rw [← hR.len]; exact (List.getElem?_eq_some_iff.1 hq).1
    obtain ⟨i, hi⟩ : ∃ i, g.c.ins[q]? = some i := ⟨_, List.getElem?_eq_getElem hql⟩
    obtain ⟨v, hv⟩ := hR.ins q i hi
    rw [hq] at hv
    rw [Option.some.inj hv]
    exact hin.al g hg i (List.mem_of_getElem? hi)

theorem fromL_len (m : Mo) (x : Nat → Nat → Nat → Bool) (f : Int) : (fromL m x f).length ≤ m.np f.toNat := by
  unfold fromL
  split
  · exact Nat.le_trans (List.length_filter_le _ _) (by rw [List.length_range]; exact Nat.le_refl _)
  · exact Nat.zero_le _

/-- A rewritten module may be held against another one. -/
theorem rewOf_fit {w : World} {m n : Mo} (hF : rightF m = 0) (hal : ∀ f ∈ m.fs, ∀ i ∈ f.c.ins, i.args.length ≤ 40) (h : RewOf m n) (hn : n.inn w) : n.fitS (mdOf w) w := by
  have hok := OkR.of hF
  have hss := (right_parts hF).2.1
  have hmd := mdOf_mdAt hn
  obtain ⟨a1, a2, k, a3, a4⟩ := h
  refine ⟨hn, fun g' hg' => ?_, by rw [a1]; omega, by rw [a2]; have := hok.nf; omega⟩
  obtain ⟨f, hf⟩ := List.mem_iff_getElem?.1 hg'
  have hfl : f < m.fs.length := by rw [← a2]; exact (List.getElem?_eq_some_iff.1 hf).1
  obtain ⟨g, hg⟩ : ∃ g, m.fs[f]? = some g := ⟨_, List.getElem?_eq_getElem hfl⟩
  obtain ⟨y, hy, hR⟩ := a4 f g hg
  rw [hf] at hy
  obtain rfl := Option.some.inj hy
  have hgm := List.mem_of_getElem? hg
  obtain ⟨p0, p1, p2, p3⟩ := hok.fn g hgm
  have hgi := hn.fin g' hg'
  have key : ∀ i' ∈ g'.c.ins, ∃ (q : Nat) (i : Ins) (l : List Int), g'.c.ins[q]? = some i' ∧ g.c.ins[q]? = some i ∧ i'.args = i.args ∧ g'.mds[q]? = some l ∧ l = modesF m g i := by
    intro i' hi'
    obtain ⟨q, hq⟩ := List.mem_iff_getElem?.1 hi'
    have hql : q < g.c.ins.length := by rw [← hR.len]; exact (List.getElem?_eq_some_iff.1 hq).1
    obtain ⟨i, hi⟩ : ∃ i, g.c.ins[q]? = some i := ⟨_, List.getElem?_eq_getElem hql⟩
    obtain ⟨v, hv⟩ := hR.ins q i hi
    rw [hq] at hv
    refine ⟨q, i, modesF m g i, hq, hi, by rw [Option.some.inj hv], by rw [hR.mds, List.getElem?_map, hi]; rfl, rfl⟩
  refine ⟨hgi, fun i' hi' => ?_, ?_, by rw [hR.vs]; omega, by rw [hR.len]; omega, fun i' hi' => ?_⟩
  · obtain ⟨q, i, l, h1, _, _, h4, _⟩ := key i' hi'
    obtain ⟨ao, cap, e1, e2⟩ := hgi.mds q i' l h1 h4
    exact mdOf_at ⟨l, ao, cap, e1, e2⟩
  · rw [hR.frm, List.length_map]
    have := fromL_len m (roundsR m (k + 1)) (f : Int)
    rw [Int.toNat_natCast, np_get hg] at this
    omega
  · obtain ⟨q, i, l, h1, h2, h3, h4, h5⟩ := key i' hi'
    have e := hmd g' hg' q i' l h1 h4
    rw [e, h5, h3]
    have := hal g hgm i (List.mem_of_getElem? h2)
    have := modesF_len hok hg (List.mem_of_getElem? h2)
    omega
end Go.Proofs.Ytlggjbopfnndbaa
