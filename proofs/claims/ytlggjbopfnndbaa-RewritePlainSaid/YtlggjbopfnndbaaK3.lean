import Derived.Test.YtlggjbopfnndbaaErP
import Derived.Test.YtlggjbopfnndbaaG24
import Derived.Test.YtlggjbopfnndbaaK2
import Derived.Test.YtlggjbopfnndbaaH01
import Derived.Test.YtlggjbopfnndbaaG61
namespace Go.Proofs.Ytlggjbopfnndbaa
open Go.RowKit
structure OrigR (m : Mo) (x : Nat → Nat → Nat → Bool) : Prop where
 ok : ∀ f u n,x f u n = true → ∃ g,m.fs[f]? = some g ∧ (n : Int) < g.c.par ∧ g.lentAt (n : Int) = true ∧ ((u < g.vs.length ∧ g.lentAt (u : Int) = true) ∨ (u = g.vs.length ∧ g.lentRet = true))
theorem OrigR.start (m : Mo) : OrigR m (initR m) := by
 refine ⟨fun f u n h => ?_⟩
 unfold initR at h
 cases hg : m.fs[f]? with
 | none => rw [hg] at h; exact absurd h (by simp)
 | some g =>
  rw [hg] at h
  simp only [Bool.and_eq_true,decide_eq_true_eq] at h
  obtain ⟨⟨⟨rfl,h2⟩,h3⟩,h4⟩ := h
  exact ⟨g,rfl,h2,h4,.inl ⟨h3,h4⟩⟩
theorem OrigR.or {m : Mo} {x : Nat → Nat → Nat → Bool} (h : OrigR m x) {f d a : Nat} {g : Fn} (hg : m.fs[f]? = some g) (hd : (d < g.vs.length ∧ g.lentAt (d : Int) = true) ∨ (d = g.vs.length ∧ g.lentRet = true)) : OrigR m (orR x f d a) := by
 refine ⟨fun f' u n hx => ?_⟩
 unfold orR at hx
 split at hx
 ·rename_i e
  obtain ⟨rfl,rfl⟩ := e
  rcases Bool.or_eq_true .. ▸ hx with q | q
  ·exact h.ok _ _ _ q
  ·obtain ⟨g',h1,h2,h3,_⟩ := h.ok _ _ _ q
   rw [hg] at h1
   obtain rfl := Option.some.inj h1
   exact ⟨g,hg,h2,h3,hd⟩
 ·exact h.ok _ _ _ hx
theorem lentAt_nat {g : Fn} {v : Int} (h : g.lentAt v = true) : g.lentAt ((v.toNat : Nat) : Int) = true := by
 have h0 := (lentAt_lt h).1
 rw [Int.toNat_of_nonneg h0]; exact h
theorem OrigR.call {m : Mo} {ml : Nat → Nat} {f : Nat} {g : Fn} (hg : m.fs[f]? = some g) (d : Int) (h : Nat) : ∀ (l : List Int) (n : Nat) (s : RS),OrigR m s.x → OrigR m (callR ml f g d h n l s).x
 | [],_,s,hs => hs
 | a :: r,n,s,hs => by
  unfold callR
  refine OrigR.call hg d h r (n + 1) _ ?_
  split
  ·rename_i hc
   simp only [Bool.and_eq_true] at hc
   exact hs.or hg (.inl ⟨(lentAt_lt hc.1.1).2,lentAt_nat hc.1.1⟩)
  ·exact hs
theorem OrigR.ins {m : Mo} {ml : Nat → Nat} {f : Nat} {g : Fn} (hg : m.fs[f]? = some g) (i : Ins) (s : RS) (hs : OrigR m s.x) : OrigR m (insR ml f g i s).x := by
 unfold insR
 split
 ·split
  ·rename_i hc
   simp only [Bool.and_eq_true] at hc
   exact hs.or hg (.inl ⟨(lentAt_lt hc.1).2,lentAt_nat hc.1⟩)
  ·exact hs
 ·split
  ·exact OrigR.call hg _ _ _ _ _ hs
  ·split
   ·split
    ·rename_i hc
     simp only [Bool.and_eq_true] at hc
     exact hs.or hg (.inr ⟨rfl,hc.1⟩)
    ·exact hs
   ·exact hs
theorem OrigR.code {m : Mo} {ml : Nat → Nat} {f : Nat} {g : Fn} (hg : m.fs[f]? = some g) : ∀ (l : List Ins) (s : RS),OrigR m s.x → OrigR m (codeR ml f g l s).x
 | [],_,hs => hs
 | i :: r,s,hs => OrigR.code hg r _ (OrigR.ins hg i s hs)
theorem OrigR.funcs {m : Mo} {ml : Nat → Nat} : ∀ (l : List Fn) (f : Nat) (s : RS),(∀ (k : Nat) (g : Fn),l[k]? = some g → m.fs[f + k]? = some g) → OrigR m s.x → OrigR m (funcsR ml f l s).x
 | [],_,_,_,hs => hs
 | g :: r,f,s,h,hs => OrigR.funcs r (f + 1) _ (fun k x hx => by rw [show f + 1 + k = f + (k + 1) from by omega]; exact h (k + 1) x (by simpa using hx)) (OrigR.code (h 0 g rfl) _ _ hs)
theorem origR_rounds (m : Mo) : ∀ k,OrigR m (roundsR m k)
 | 0 => OrigR.start m
 | k + 1 => OrigR.funcs m.fs 0 _ (fun j g hg => by rw [Nat.zero_add]; exact hg) (origR_rounds m k)
theorem codeR_none {B V ml : Nat → Nat} {f : Nat} {g : Fn} (hP : g.c.par.toNat = B f) (hV : g.vs.length = V f) : ∀ (l : List Ins) (s : RS),(codeR ml f g l s).is = false → ∀ i ∈ l,∃ t : RS,(insR ml f g i t).is = false ∧ ∀ f' u n,n < B f' → t.x f' u n = s.x f' u n
 | [],_,_,_,hi => absurd hi (by simp)
 | j :: r,s,h,i,hi => by
  have h1 : (insR ml f g j s).is = false := ((StepR.code (B := B) (V := V) hP hV r (insR ml f g j s)).was h).1
  rcases List.mem_cons.1 hi with e | e
  ·subst e; exact ⟨s,h1,fun _ _ _ _ => rfl⟩
  ·obtain ⟨t,h2,h3⟩ := codeR_none hP hV r (insR ml f g j s) h i e
   exact ⟨t,h2,fun f' u n hn => (h3 f' u n hn).trans (((StepR.ins (B := B) (V := V) hP hV j s).was h1).2 f' u n hn)⟩
theorem funcsR_none {B V ml : Nat → Nat} : ∀ (l : List Fn) (f : Nat) (s : RS),(∀ (k : Nat) (g : Fn),l[k]? = some g → g.c.par.toNat = B (f + k) ∧ g.vs.length = V (f + k)) → (funcsR ml f l s).is = false →
  ∀ (k : Nat) (g : Fn),l[k]? = some g → ∀ i ∈ g.c.ins,∃ t : RS,(insR ml (f + k) g i t).is = false ∧ ∀ f' u n,n < B f' → t.x f' u n = s.x f' u n
 | [],_,_,_,_,k,g,hg => absurd hg (by simp)
 | x :: r,f,s,hb,h,k,g,hg => by
  have hr : ∀ (k : Nat) (g : Fn),r[k]? = some g → g.c.par.toNat = B (f + 1 + k) ∧ g.vs.length = V (f + 1 + k) := fun k y hy => by rw [show f + 1 + k = f + (k + 1) from by omega]; exact hb (k + 1) y (by simpa using hy)
  have h1 : (codeR ml f x x.c.ins s).is = false := ((StepR.funcs (B := B) (V := V) r (f + 1) _ hr).was h).1
  cases k with
  | zero =>
   obtain rfl := Option.some.inj (show some x = some g from by simpa using hg)
   exact fun i hi => codeR_none (hb 0 x rfl).1 (hb 0 x rfl).2 _ s h1 i hi
  | succ k =>
   intro i hi
   obtain ⟨t,h2,h3⟩ := funcsR_none r (f + 1) _ hr h k g (by simpa using hg) i hi
   rw [show f + 1 + k = f + (k + 1) from by omega] at h2
   exact ⟨t,h2,fun f' u n hn => (h3 f' u n hn).trans (((StepR.code (B := B) (V := V) (hb 0 x rfl).1 (hb 0 x rfl).2 x.c.ins s).was h1).2 f' u n hn)⟩
theorem fix_give {m : Mo} {x : Nat → Nat → Nat → Bool} (h : (passR m x).is = false) {f : Nat} {g : Fn} (hg : m.fs[f]? = some g) {i : Ins} (hi : i ∈ g.c.ins) (ho : i.op = 9 ∨ i.op = 10) (hd : g.lentAt i.d = true) (ha : g.lentAt i.a = true) (n : Nat) (hn : n < m.np f)
  (hx : x f i.a.toNat n = true) : x f i.d.toNat n = true := by
 obtain ⟨t,h1,h2⟩ := funcsR_none (B := m.np) (V := m.nv) m.fs 0 _ (fun k g hg => by unfold Mo.np Mo.nv; rw [Nat.zero_add,hg]; exact ⟨rfl,rfl⟩) h f g hg i hi
 rw [Nat.zero_add] at h1
 unfold insR at h1
 rw [if_pos ho,hd,ha,if_pos (by rfl)] at h1
 unfold RS.join at h1
 simp only [Bool.or_eq_false_iff] at h1
 have h3 := h1.1
 unfold newR at h3
 rw [List.any_eq_false] at h3
 have hP : g.c.par.toNat = m.np f := by unfold Mo.np; rw [hg]
 have h4 := h3 n (by rw [List.mem_range,hP]; exact hn)
 rw [h2 f _ n hn,h2 f _ n hn] at h4
 cases e : x f i.d.toNat n with
 | true => rfl
 | false => exact absurd (by rw [show (RS.x ⟨x,false⟩ f i.a.toNat n) = true from hx,show (RS.x ⟨x,false⟩ f i.d.toNat n) = false from e]; rfl) h4
end Go.Proofs.Ytlggjbopfnndbaa
namespace Go.Proofs.Ytlggjbopfnndbaa
open Go.RowKit
structure HdFn (nm : ByteArray) (g : Fn) : Prop where
 nm : g.c.nm = nm
 par : g.c.par = 0
 rp : g.c.rp = false
 rto : g.c.rto = ⟨#[]⟩
 rcl : g.c.rcl = 0
 vs : g.vs = [alV false ⟨#[]⟩ 0]
 frm : g.frm = []
 ins : g.c.ins = [alI 1 0 0,alI 18 0 0]
 mds : g.mds = [[],[]]
structure HeadsOf (m h : Mo) : Prop where
 ss : h.ss = m.ss
 len : h.fs.length = m.fs.length
 fs : ∀ (f : Nat) (g' : Fn),h.fs[f]? = some g' → ∃ g,m.fs[f]? = some g ∧ HdFn g.c.nm g'
theorem HeadsOf.mem {m h : Mo} (H : HeadsOf m h) {g' : Fn} (hg : g' ∈ h.fs) : ∃ nm,HdFn nm g' := by
 obtain ⟨f,hf⟩ := List.mem_iff_getElem?.1 hg
 obtain ⟨g,_,h1⟩ := H.fs f g' hf
 exact ⟨_,h1⟩
theorem HeadsOf.names {m h : Mo} (H : HeadsOf m h) : h.fs.map (fun f => f.c.nm) = m.fs.map fun f => f.c.nm := by
 refine List.ext_getElem? fun f => ?_
 rw [List.getElem?_map,List.getElem?_map]
 rcases Nat.lt_or_ge f h.fs.length with hf | hf
 ·obtain ⟨g',hg'⟩ : ∃ g',h.fs[f]? = some g' := ⟨_,List.getElem?_eq_getElem hf⟩
  obtain ⟨g,hg,h1⟩ := H.fs f g' hg'
  rw [hg',hg,Option.map_some,Option.map_some,h1.nm]
 ·rw [List.getElem?_eq_none hf,List.getElem?_eq_none (by rw [← H.len]; exact hf)]
theorem hd_code {m : Mo} {nm : ByteArray} {g : Fn} (h : HdFn nm g) : codeF m g = 0 := by
 have i1 : instrF m g (alI 1 0 0) = 0 := by
  unfold instrF
  rw [h.vs]
  rfl
 have i2 : instrF m g (alI 18 0 0) = 0 := by
  unfold instrF Fn.ret
  rw [h.vs,h.rp,h.rto]
  rfl
 unfold codeF
 rw [h.vs,h.ins,h.par]
 have e : firstF (instrF m g) [alI 1 0 0,alI 18 0 0] = 0 := by
  unfold firstF
  rw [i1,if_pos rfl]
  unfold firstF
  rw [i2,if_pos rfl]
  rfl
 rw [e]
 rfl
theorem firstF_all {α : Type} {f : α → Int} : ∀ {l : List α},(∀ x ∈ l,f x = 0) → firstF f l = 0
 | [],_ => rfl
 | x :: r,h => by
  unfold firstF
  rw [if_pos (h x (by simp))]
  exact firstF_all fun y hy => h y (by simp [hy])
theorem heads_right {m h : Mo} (hF : rightF m = 0) (H : HeadsOf m h) : rightF h = 0 := by
 obtain ⟨a1,a2,a3,a4,_,a6⟩ := right_parts hF
 have hkn : h.known = m.known := by
  funext t
  unfold Mo.known Mo.stIx
  rw [H.ss]
 have htw : twiceF h = false := by
  have : twiceF h = twiceF m := by
   unfold twiceF
   rw [H.ss,H.names]
  rw [this,a3]
 have hty : (typesF h).all h.known = true := by
  rw [List.all_eq_true] at a4 ⊢
  intro t ht
  rw [hkn]
  unfold typesF at ht a4
  rcases List.mem_append.1 ht with h1 | h1
  ·rw [H.ss] at h1
   exact a4 t (List.mem_append.2 (.inl h1))
  ·obtain ⟨g',hg',h2⟩ := List.mem_flatMap.1 h1
   obtain ⟨nm,hd⟩ := H.mem hg'
   have e : t = (false,(⟨#[]⟩ : ByteArray)) := by
    rcases List.mem_cons.1 h2 with h3 | h3
    ·rw [h3]; unfold Fn.ret; rw [hd.rp,hd.rto]
    ·rw [hd.vs] at h3
     simpa [Vr.ty,alV] using h3
   rw [e]; rfl
 have hix : h.fnIx mainB = m.fnIx mainB := by
  have e : ∀ l : List Fn,ixOf (fun f : Fn => f.c.nm == mainB) l = ixOf (fun s : ByteArray => s == mainB) (l.map fun f => f.c.nm) := fun l => (ixOf_map (fun s : ByteArray => s == mainB) (fun f : Fn => f.c.nm) l).symm
  unfold Mo.fnIx
  rw [e,e,H.names]
 have hlt : (m.fnIx mainB).toNat < h.fs.length := by
  rw [H.len]
  unfold Mo.fnIx ixOf at a6 ⊢
  by_cases hh : m.fs.findIdx (fun f => f.c.nm == mainB) < m.fs.length
  ·rw [if_pos hh]; simpa using hh
  ·rw [if_neg hh] at a6; omega
 unfold rightF
 rw [if_neg (by rw [H.ss,H.len]; omega),if_neg (by rw [htw]; simp),if_neg (by rw [hty]; simp),firstF_all (fun g' hg' => by obtain ⟨nm,hd⟩ := H.mem hg'; exact hd_code hd),if_neg (by simp),hix]
 obtain ⟨g',hg'⟩ : ∃ g',h.fs[(m.fnIx mainB).toNat]? = some g' := ⟨_,List.getElem?_eq_getElem hlt⟩
 obtain ⟨nm,hd⟩ := H.mem (List.mem_of_getElem? hg')
 rw [hg']
 simp only [hd.par,hd.rp,decide_eq_true a6]
 rfl
theorem heads_form {m h : Mo} (hF : rightF m = 0) (H : HeadsOf m h) : FormOk h := by
 refine ⟨heads_right hF H,fun g hg => ?_,fun g hg => ?_,fun g hg k i l hi hl => ?_⟩
 ·obtain ⟨nm,hd⟩ := H.mem hg
  refine ⟨fun v hv => ?_,?_⟩
  ·rw [hd.vs] at hv
   have e : v = alV false ⟨#[]⟩ 0 := by simpa using hv
   rw [e]; rfl
  ·unfold Fn.retV; rw [hd.rp,hd.rcl]; rfl
 ·obtain ⟨nm,hd⟩ := H.mem hg
  exact ⟨fun i n hn => by rw [hd.frm] at hn; simp at hn,fun i p n hp => by rw [hd.frm] at hp; simp at hp,fun hne => absurd hd.frm hne⟩
 ·obtain ⟨nm,hd⟩ := H.mem hg
  rw [hd.ins] at hi
  rw [hd.mds] at hl
  have hk : k < 2 := (List.getElem?_eq_some_iff.1 hi).1
  have hl0 : l = [] := by
   match k,hk,hl with
   | 0,_,hl => simpa using hl.symm
   | 1,_,hl => simpa using hl.symm
  have hof : ofTy g i = [] ∧ i.op ≠ 9 ∧ i.op ≠ 10 ∧ i.op ≠ 15 ∧ i.args = [] := by
   match k,hk,hi with
   | 0,_,hi =>
    have e : i = alI 1 0 0 := by simpa using hi.symm
    rw [e]
    exact ⟨rfl,by decide,by decide,by decide,rfl⟩
   | 1,_,hi =>
    have e : i = alI 18 0 0 := by simpa using hi.symm
    rw [e]
    refine ⟨?_,by decide,by decide,by decide,rfl⟩
    show (if g.c.rp = true then [g.ret] else []) = []
    rw [hd.rp]; rfl
  obtain ⟨o1,o2,o3,o4,o5⟩ := hof
  refine ⟨by rw [o1,hl0]; rfl,fun q t c ht => by rw [o1] at ht; simp at ht,fun h => by omega,fun h => absurd h o4,by rw [o5]; simp⟩
theorem heads_names {m h : Mo} (H : HeadsOf m h) : namesF h = namesF m := by
 unfold namesF
 have e : ∀ l : List Fn,l.all (fun g => nameF g.c.nm) = (l.map fun f => f.c.nm).all nameF := fun l => by rw [List.all_map]; rfl
 rw [H.ss,e,e,H.names]
theorem rew_names {m n : Mo} (H : RewOf m n) : namesF n = namesF m := by
 obtain ⟨h1,h2,k,_,h3⟩ := H
 have hn : n.fs.map (fun f => f.c.nm) = m.fs.map fun f => f.c.nm := by
  refine List.ext_getElem? fun f => ?_
  rw [List.getElem?_map,List.getElem?_map]
  rcases Nat.lt_or_ge f m.fs.length with hf | hf
  ·obtain ⟨g,hg⟩ : ∃ g,m.fs[f]? = some g := ⟨_,List.getElem?_eq_getElem hf⟩
   obtain ⟨g',hg',hr⟩ := h3 f g hg
   rw [hg,hg',Option.map_some,Option.map_some,hr.nm]
  ·rw [List.getElem?_eq_none hf,List.getElem?_eq_none (by rw [h2]; exact hf)]
 unfold namesF
 have e : ∀ l : List Fn,l.all (fun g => nameF g.c.nm) = (l.map fun f => f.c.nm).all nameF := fun l => by rw [List.all_map]; rfl
 rw [h1,e,e,hn]
theorem classed_fm {m : Mo} (h : classedF m = true) : ∀ g ∈ m.fs,(∀ v ∈ g.vs,okC v = true) ∧ okC g.retV = true := by
 have key : ∀ (l : List Fn) (j : Nat),(eachFrom j l).all (fun p => okC p.1) = true → ∀ g ∈ l,(∀ v ∈ g.vs,okC v = true) ∧ okC g.retV = true := by
  intro l
  induction l with
  | nil => intro j _ g hg; simp at hg
  | cons f r ih =>
   intro j h g hg
   rw [eachFrom,List.all_append,Bool.and_eq_true,List.all_cons,Bool.and_eq_true] at h
   rcases List.mem_cons.1 hg with rfl | hg
   ·refine ⟨fun v hv => ?_,h.2.1⟩
    have := List.all_eq_true.1 h.1 (v,j) (List.mem_map.2 ⟨v,hv,rfl⟩)
    exact this
   ·exact ih (j + 1) h.2.2 g hg
 exact key m.fs 0 h
theorem rew_form {m n : Mo} (hF : rightF m = 0) (hC : classedF m = true) (hal : ∀ f ∈ m.fs,∀ i ∈ f.c.ins,i.args.length ≤ 40) (H : RewOf m n) : FormOk n := by
 have he := rewOf_er H
 have hRn : rightF n = 0 := by rw [← rightF_er n,he,rightF_er m]; exact hF
 have hok := OkR.of hF
 have hcl := classed_fm hC
 obtain ⟨_,_,_,_,hcode,_⟩ := right_parts hF
 obtain ⟨h1,h2,k,hk,h3⟩ := H
 have key : ∀ g' ∈ n.fs,∃ (f : Nat) (g : Fn),m.fs[f]? = some g ∧ RewFn m (roundsR m (k + 1)) f g g' := by
  intro g' hg'
  obtain ⟨f,hf⟩ := List.mem_iff_getElem?.1 hg'
  have hfl : f < m.fs.length := by rw [← h2]; exact (List.getElem?_eq_some_iff.1 hf).1
  obtain ⟨g,hg⟩ : ∃ g,m.fs[f]? = some g := ⟨_,List.getElem?_eq_getElem hfl⟩
  obtain ⟨y,hy,hR⟩ := h3 f g hg
  rw [hf] at hy
  obtain rfl := Option.some.inj hy
  exact ⟨f,g,hg,hR⟩
 have hor := origR_rounds m (k + 1)
 refine ⟨hRn,fun g' hg' => ?_,fun g' hg' => ?_,fun g' hg' q i' l hi' hl => ?_⟩
 ·obtain ⟨f,g,hg,hR⟩ := key g' hg'
  obtain ⟨c1,c2⟩ := hcl g (List.mem_of_getElem? hg)
  refine ⟨by rw [hR.vs]; exact c1,?_⟩
  have e : g'.retV = g.retV := by unfold Fn.retV; rw [hR.rp,hR.rto,hR.rcl]
  rw [e]; exact c2
 ·obtain ⟨f,g,hg,hR⟩ := key g' hg'
  have hlist : fromL m (roundsR m (k + 1)) (f : Int) = (List.range g.c.par.toNat).filter (roundsR m (k + 1) f g.vs.length) := by
   unfold fromL
   rw [inR_nat,Int.toNat_natCast,nv_get hg,np_get hg,decide_eq_true (List.getElem?_eq_some_iff.1 hg).1,if_pos rfl]
  have hfrm := hR.frm
  rw [hlist] at hfrm
  have hget : ∀ (i : Nat) (n : Int),g'.frm[i]? = some n → ∃ u : Nat,n = (u : Int) ∧ ((List.range g.c.par.toNat).filter (roundsR m (k + 1) f g.vs.length))[i]? = some u := by
   intro i n hn
   rw [hfrm,List.getElem?_map] at hn
   cases hu : ((List.range g.c.par.toNat).filter (roundsR m (k + 1) f g.vs.length))[i]? with
   | none => rw [hu] at hn; cases hn
   | some u => rw [hu] at hn; exact ⟨u,(Option.some.inj hn).symm,rfl⟩
  have hor' : ∀ (i u : Nat),((List.range g.c.par.toNat).filter (roundsR m (k + 1) f g.vs.length))[i]? = some u → (u : Int) < g.c.par ∧ g.lentAt (u : Int) = true ∧ g.lentRet = true := by
   intro i u hu
   have := (List.mem_filter.1 (List.mem_of_getElem? hu)).2
   obtain ⟨g2,e2,e3,e4,e5⟩ := hor.ok _ _ _ this
   rw [hg] at e2
   obtain rfl := Option.some.inj e2
   refine ⟨e3,e4,?_⟩
   rcases e5 with ⟨e5,_⟩ | ⟨_,e5⟩
   ·omega
   ·exact e5
  refine ⟨fun i n hn => ?_,fun i p n hp hn => ?_,fun hne => ?_⟩
  ·obtain ⟨u,rfl,hu⟩ := hget i n hn
   obtain ⟨o1,o2,_⟩ := hor' i u hu
   refine ⟨by omega,by rw [hR.par]; exact o1,?_⟩
   unfold Fn.lentAt at o2
   rw [Int.toNat_natCast,Bool.and_eq_true] at o2
   rw [Int.toNat_natCast,hR.vs]
   cases hv : g.vs[u]? with
   | none => rw [hv] at o2; exact absurd o2.2 (by simp)
   | some v => rw [hv] at o2; exact ⟨v,rfl,o2.2⟩
  ·obtain ⟨u,rfl,hu⟩ := hget i p hp
   obtain ⟨v,rfl,hv⟩ := hget (i + 1) n hn
   have hpw : List.Pairwise (· < ·) ((List.range g.c.par.toNat).filter (roundsR m (k + 1) f g.vs.length)) := List.Pairwise.filter _ List.pairwise_lt_range
   obtain ⟨l1,e1⟩ := List.getElem?_eq_some_iff.1 hu
   obtain ⟨l2,e2⟩ := List.getElem?_eq_some_iff.1 hv
   have := List.pairwise_iff_getElem.1 hpw i (i + 1) l1 l2 (by omega)
   rw [e1,e2] at this
   omega
  ·obtain ⟨x,r,hx⟩ := List.exists_cons_of_ne_nil hne
   obtain ⟨u,_,hu⟩ := hget 0 x (by rw [hx]; rfl)
   obtain ⟨_,_,o3⟩ := hor' 0 u hu
   unfold Fn.retV
   rw [hR.rp,hR.rto,hR.rcl]
   exact o3
 ·obtain ⟨f,g,hg,hR⟩ := key g' hg'
  have hgm := List.mem_of_getElem? hg
  have hq : q < g.c.ins.length := by rw [← hR.len]; exact (List.getElem?_eq_some_iff.1 hi').1
  obtain ⟨i,hi⟩ : ∃ i,g.c.ins[q]? = some i := ⟨_,List.getElem?_eq_getElem hq⟩
  have him := List.mem_of_getElem? hi
  obtain ⟨v,hv⟩ := hR.ins q i hi
  rw [hi'] at hv
  obtain rfl := Option.some.inj hv
  have hll : l = modesF m g i := by
   rw [hR.mds,List.getElem?_map,hi] at hl
   exact (Option.some.inj hl).symm
  have hof : ofTy g' { i with modeV := v } = ofTy g i := by
   unfold ofTy Fn.ret
   rw [hR.vs,hR.rp,hR.rto]
  obtain ⟨c1,c2⟩ := hcl g hgm
  obtain ⟨p0,p1,p2,p3⟩ := hok.fn g hgm
  have hvar : ∀ d : Int,isVar g.vs.length d = true → ∃ k : Nat,d = (k : Int) ∧ k < g.vs.length := fun d hd => by
   have := isVar_iff.1 hd
   exact ⟨d.toNat,by omega,by omega⟩
  have hty : ∀ a : Int,isVar g.vs.length a = true → ∃ x ∈ g.vs,g.vs[a.toNat]? = some x ∧ tyAt g.vs a = (x.ptr,x.tgt) := fun a ha => by
   obtain ⟨k,rfl,hk⟩ := hvar a ha
   obtain ⟨x,hx⟩ : ∃ x,g.vs[k]? = some x := ⟨_,List.getElem?_eq_getElem hk⟩
   refine ⟨x,List.mem_of_getElem? hx,by rw [Int.toNat_natCast]; exact hx,?_⟩
   unfold tyAt
   rw [Int.toNat_natCast,hx]; rfl
  rw [hll]
  refine ⟨?_,fun z t c ht hc => ?_,fun h => ?_,fun h a ha => ?_,by have := hal g hgm i him; show i.args.length ≤ 3000; omega⟩
  ·rw [hof]
   unfold modesF ofTy
   split
   ·rfl
   ·split
    ·split <;> rfl
    ·split
     ·rename_i h15
      obtain ⟨_,_,_,h,hh,hlen⟩ := hok.call g hgm i him h15
      obtain ⟨_,r1,_,_⟩ := hok.fn h (List.mem_of_getElem? hh)
      rw [hh]
      rw [List.length_map,List.length_take,List.length_map]
      omega
     ·rfl
  ·rw [hof] at ht
   unfold modesF at hc
   unfold ofTy at ht
   by_cases h9 : i.op = 9 ∨ i.op = 10
   ·rw [if_pos h9] at hc ht
    obtain ⟨x,hx,hxe,hxt⟩ := hty i.d (hok.mv g hgm i him h9).1
    have hz : z = 0 := by
     have := (List.getElem?_eq_some_iff.1 ht).1
     simpa using this
    subst hz
    have e1 : t = tyAt g.vs i.d := by simpa using ht.symm
    have e2 : c = clsAt g.vs i.d := by simpa using hc.symm
    have e3 : clsAt g.vs i.d = x.cls := by unfold clsAt; rw [hxe]
    rw [e1,e2,e3,hxt]
    exact c1 x hx
   ·rw [if_neg h9] at hc ht
    by_cases h18 : i.op = 18
    ·rw [if_pos h18] at hc ht
     cases hrp : g.c.rp with
     | false => rw [hrp] at ht; simp at ht
     | true =>
      rw [hrp,if_pos rfl] at hc ht
      have hz : z = 0 := by
       have := (List.getElem?_eq_some_iff.1 ht).1
       simpa using this
      subst hz
      have e1 : t = g.ret := by simpa using ht.symm
      have e2 : c = g.c.rcl := by simpa using hc.symm
      rw [e1,e2]
      exact c2
    ·rw [if_neg h18] at hc ht
     by_cases h15 : i.op = 15
     ·rw [if_pos h15] at hc ht
      obtain ⟨_,hav,_,h,hh,hlen⟩ := hok.call g hgm i him h15
      rw [hh] at hc
      obtain ⟨_,q2,hq2,_,_,hargs,_⟩ := call_parts ((instr_parts ((code_parts (hcode g hgm)).2.2.2.2.2 i him)).2.2.2.2 h15)
      rw [hh] at hq2
      obtain rfl := Option.some.inj hq2
      rw [List.getElem?_map] at hc ht
      cases ha : i.args[z]? with
      | none => rw [ha] at ht; cases ht
      | some a =>
       rw [ha] at ht
       have e1 : t = tyAt g.vs a := (Option.some.inj ht).symm
       have hzl : z < i.args.length := (List.getElem?_eq_some_iff.1 ha).1
       rw [List.getElem?_take,if_pos hzl] at hc
       cases hx : h.vs[z]? with
       | none => rw [hx] at hc; cases hc
       | some x =>
        rw [hx] at hc
        have e2 : c = x.cls := (Option.some.inj hc).symm
        have e3 := eq_of_beq ((argsF_iff g.vs h.vs i.args 0).1 hargs z a ha)
        have e4 : tyAt h.vs ((0 + z : Nat) : Int) = (x.ptr,x.tgt) := by
         unfold tyAt
         rw [Nat.zero_add,Int.toNat_natCast,hx]; rfl
        rw [e1,e2,e3,e4]
        exact (hcl h (List.mem_of_getElem? hh)).1 x (List.mem_of_getElem? hx)
     ·rw [if_neg h15] at ht; simp at ht
  ·rw [hR.vs]
   exact hvar i.d (hok.mv g hgm i him h).1
  ·rw [hR.vs]
   obtain ⟨_,hav,_⟩ := hok.call g hgm i him h
   exact hvar a (hav a ha)
end Go.Proofs.Ytlggjbopfnndbaa
