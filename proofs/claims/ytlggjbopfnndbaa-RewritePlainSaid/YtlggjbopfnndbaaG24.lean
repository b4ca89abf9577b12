import Derived.Test.YtlggjbopfnndbaaG04
import Derived.Test.YtlggjbopfnndbaaG22
namespace Go.Proofs.Ytlggjbopfnndbaa
open Go.RowKit
def lentC (ptr : Bool) (cls : Int) : Bool := ptr && (cls == 2 || cls == 3)
def Vr.lent (v : Vr) : Bool := lentC v.ptr v.cls
def Fn.lentAt (g : Fn) (v : Int) : Bool := decide (0 ≤ v) && (match g.vs[v.toNat]? with
 | some x => x.lent
 | none => false)
def Fn.lentRet (g : Fn) : Bool := lentC g.c.rp g.c.rcl
structure RS where
 x : Nat → Nat → Nat → Bool
 is : Bool
def newR (P : Nat) (x : Nat → Nat → Nat → Bool) (f d a : Nat) : Bool := (List.range P).any fun n => x f a n && !x f d n
def orR (x : Nat → Nat → Nat → Bool) (f d a : Nat) : Nat → Nat → Nat → Bool := fun g u n => if g = f ∧ u = d then x f d n || x f a n else x g u n
def RS.join (P : Nat) (s : RS) (f d a : Nat) : RS := ⟨orR s.x f d a,newR P s.x f d a || s.is⟩
def callR (ml : Nat → Nat) (f : Nat) (g : Fn) (d : Int) (h : Nat) : Nat → List Int → RS → RS
 | _,[],s => s
 | n,a :: r,s => callR ml f g d h (n + 1) r (if (g.lentAt d && g.lentAt a && s.x h (ml h) n) = true then s.join g.c.par.toNat f d.toNat a.toNat else s)
def insR (ml : Nat → Nat) (f : Nat) (g : Fn) (i : Ins) (s : RS) : RS :=
 if i.op = 9 ∨ i.op = 10 then (if (g.lentAt i.d && g.lentAt i.a) = true then s.join g.c.par.toNat f i.d.toNat i.a.toNat else s)
 else if i.op = 15 then callR ml f g i.d i.f.toNat 0 i.args s
 else if i.op = 18 then (if (g.lentRet && g.lentAt i.a) = true then s.join g.c.par.toNat f g.vs.length i.a.toNat else s)
 else s
def codeR (ml : Nat → Nat) (f : Nat) (g : Fn) (l : List Ins) (s : RS) : RS := l.foldl (fun s i => insR ml f g i s) s
def funcsR (ml : Nat → Nat) : Nat → List Fn → RS → RS
 | _,[],s => s
 | f,g :: r,s => funcsR ml (f + 1) r (codeR ml f g g.c.ins s)
def Mo.nv (m : Mo) (f : Nat) : Nat := match m.fs[f]? with
 | some g => g.vs.length
 | none => 0
def passR (m : Mo) (x : Nat → Nat → Nat → Bool) : RS := funcsR m.nv 0 m.fs ⟨x,false⟩
def initR (m : Mo) : Nat → Nat → Nat → Bool := fun f u n => match m.fs[f]? with
 | some g => decide (u = n) && decide ((u : Int) < g.c.par) && decide (u < g.vs.length) && g.lentAt (u : Int)
 | none => false
def roundsR (m : Mo) : Nat → Nat → Nat → Nat → Bool
 | 0 => initR m
 | k + 1 => (passR m (roundsR m k)).x
def leR (x y : Nat → Nat → Nat → Bool) : Prop := ∀ f u n,x f u n = true → y f u n = true
theorem leR.refl (x : Nat → Nat → Nat → Bool) : leR x x := fun _ _ _ h => h
theorem leR.trans {x y z : Nat → Nat → Nat → Bool} (h1 : leR x y) (h2 : leR y z) : leR x z := fun f u n h => h2 f u n (h1 f u n h)
theorem leR_or (x : Nat → Nat → Nat → Bool) (f d a : Nat) : leR x (orR x f d a) := by
 intro g u n h
 unfold orR
 split
 ·rename_i e; rw [← e.1,← e.2,h]; rfl
 ·exact h
structure StepR (B V : Nat → Nat) (s t : RS) : Prop where
 le : leR s.x t.x
 was : t.is = false → s.is = false ∧ ∀ f u n,n < B f → t.x f u n = s.x f u n
 new : s.is = false → t.is = true → ∃ f u n,n < B f ∧ u ≤ V f ∧ s.x f u n = false ∧ t.x f u n = true
theorem StepR.refl (B V : Nat → Nat) (s : RS) : StepR B V s s := ⟨leR.refl _,fun h => ⟨h,fun _ _ _ _ => rfl⟩,fun h1 h2 => absurd (h1.symm.trans h2) (by decide)⟩
theorem StepR.trans {B V : Nat → Nat} {s t q : RS} (h1 : StepR B V s t) (h2 : StepR B V t q) : StepR B V s q := by
 refine ⟨h1.le.trans h2.le,fun h => ?_,fun h3 h4 => ?_⟩
 ·obtain ⟨a1,a2⟩ := h2.was h
  obtain ⟨b1,b2⟩ := h1.was a1
  exact ⟨b1,fun f u n hn => (a2 f u n hn).trans (b2 f u n hn)⟩
 ·cases ht : t.is with
  | true =>
   obtain ⟨f,u,n,e1,e0,e2,e3⟩ := h1.new h3 ht
   exact ⟨f,u,n,e1,e0,e2,h2.le f u n e3⟩
  | false =>
   obtain ⟨f,u,n,e1,e0,e2,e3⟩ := h2.new ht h4
   obtain ⟨_,b2⟩ := h1.was ht
   exact ⟨f,u,n,e1,e0,by rw [← b2 f u n e1]; exact e2,e3⟩
theorem StepR.join {B V : Nat → Nat} {P : Nat} (s : RS) (f d a : Nat) (hP : P = B f) (hd : d ≤ V f) : StepR B V s (s.join P f d a) := by
 refine ⟨leR_or _ _ _ _,fun h => ?_,fun h1 h2 => ?_⟩
 ·unfold RS.join at h
  simp only [Bool.or_eq_false_iff] at h
  refine ⟨h.2,fun g u n hn => ?_⟩
  show orR s.x f d a g u n = s.x g u n
  unfold orR
  split
  ·rename_i e
   obtain ⟨rfl,rfl⟩ := e
   have h3 := h.1
   unfold newR at h3
   rw [List.any_eq_false] at h3
   have h4 := h3 n (by rw [List.mem_range,hP]; exact hn)
   cases e1 : s.x g u n <;> cases e2 : s.x g a n <;> simp_all
  ·rfl
 ·unfold RS.join at h2
  simp only [h1,Bool.or_false] at h2
  unfold newR at h2
  rw [List.any_eq_true] at h2
  obtain ⟨n,hn,hx⟩ := h2
  rw [List.mem_range,hP] at hn
  simp only [Bool.and_eq_true,Bool.not_eq_true'] at hx
  refine ⟨f,d,n,hn,hd,hx.2,?_⟩
  show orR s.x f d a f d n = true
  unfold orR
  rw [if_pos ⟨rfl,rfl⟩,hx.1,Bool.or_true]
theorem lentAt_lt {g : Fn} {v : Int} (h : g.lentAt v = true) : 0 ≤ v ∧ v.toNat < g.vs.length := by
 unfold Fn.lentAt at h
 rw [Bool.and_eq_true,decide_eq_true_eq] at h
 refine ⟨h.1,?_⟩
 rcases Nat.lt_or_ge v.toNat g.vs.length with q | q
 ·exact q
 ·rw [List.getElem?_eq_none q] at h; exact absurd h.2 (by simp)
theorem StepR.call {B V ml : Nat → Nat} {f : Nat} {g : Fn} (hP : g.c.par.toNat = B f) (hV : g.vs.length = V f) (d : Int) (h : Nat) : ∀ (l : List Int) (n : Nat) (s : RS),StepR B V s (callR ml f g d h n l s)
 | [],_,s => StepR.refl B V s
 | a :: r,n,s => by
  unfold callR
  split
  ·rename_i hc
   simp only [Bool.and_eq_true] at hc
   exact (StepR.join s f _ _ hP (by have := (lentAt_lt hc.1.1).2; omega)).trans (StepR.call hP hV d h r (n + 1) _)
  ·exact StepR.call hP hV d h r (n + 1) _
theorem StepR.ins {B V ml : Nat → Nat} {f : Nat} {g : Fn} (hP : g.c.par.toNat = B f) (hV : g.vs.length = V f) (i : Ins) (s : RS) : StepR B V s (insR ml f g i s) := by
 unfold insR
 split
 ·split
  ·rename_i hc
   simp only [Bool.and_eq_true] at hc
   exact StepR.join s _ _ _ hP (by have := (lentAt_lt hc.1).2; omega)
  ·exact StepR.refl B V s
 ·split
  ·exact StepR.call hP hV _ _ _ _ _
  ·split
   ·split
    ·exact StepR.join s _ _ _ hP (by omega)
    ·exact StepR.refl B V s
   ·exact StepR.refl B V s
theorem StepR.code {B V ml : Nat → Nat} {f : Nat} {g : Fn} (hP : g.c.par.toNat = B f) (hV : g.vs.length = V f) : ∀ (l : List Ins) (s : RS),StepR B V s (codeR ml f g l s)
 | [],s => StepR.refl B V s
 | i :: r,s => (StepR.ins hP hV i s).trans (StepR.code hP hV r _)
theorem StepR.funcs {B V ml : Nat → Nat} : ∀ (l : List Fn) (f : Nat) (s : RS),(∀ (k : Nat) (g : Fn),l[k]? = some g → g.c.par.toNat = B (f + k) ∧ g.vs.length = V (f + k)) → StepR B V s (funcsR ml f l s)
 | [],_,s,_ => StepR.refl B V s
 | g :: r,f,s,h => (StepR.code (h 0 g rfl).1 (h 0 g rfl).2 g.c.ins s).trans (StepR.funcs r (f + 1) _ (fun k x hx => by rw [show f + 1 + k = f + (k + 1) from by omega]; exact h (k + 1) x (by simpa using hx)))
def Mo.np (m : Mo) (f : Nat) : Nat := match m.fs[f]? with
 | some g => g.c.par.toNat
 | none => 0
theorem passR_step (m : Mo) (x : Nat → Nat → Nat → Bool) : StepR m.np m.nv ⟨x,false⟩ (passR m x) :=
 StepR.funcs m.fs 0 _ fun k g hg => by unfold Mo.np Mo.nv; rw [Nat.zero_add,hg]; exact ⟨rfl,rfl⟩
def Mo.places (m : Mo) : List (Nat × Nat × Nat) := (List.range m.fs.length).flatMap fun f => (List.range (m.nv f + 1)).flatMap fun u => (List.range (m.np f)).map fun n => (f,u,n)
theorem mem_places {m : Mo} {f u n : Nat} (hu : u ≤ m.nv f) (hn : n < m.np f) : (f,u,n) ∈ m.places := by
 have hf : f < m.fs.length := by
  rcases Nat.lt_or_ge f m.fs.length with h | h
  ·exact h
  ·unfold Mo.np at hn; rw [List.getElem?_eq_none h] at hn; exact absurd hn (Nat.not_lt_zero _)
 unfold Mo.places
 simp only [List.mem_flatMap,List.mem_range,List.mem_map]
 exact ⟨f,hf,u,by omega,n,hn,rfl⟩
def Mo.lack (m : Mo) (x : Nat → Nat → Nat → Bool) : Nat := (m.places.filter fun p => !x p.1 p.2.1 p.2.2).length
theorem filter_len_le {α : Type} {p q : α → Bool} (h : ∀ a,p a = true → q a = true) : ∀ l : List α,(l.filter p).length ≤ (l.filter q).length
 | [] => Nat.le_refl _
 | a :: r => by
  have ih := filter_len_le h r
  rw [List.filter_cons,List.filter_cons]
  cases hp : p a with
  | true => rw [h a hp]; simp; exact ih
  | false =>
   cases hq : q a with
   | true => simp; omega
   | false => simpa using ih
theorem filter_len_lt {α : Type} {p q : α → Bool} (h : ∀ a,p a = true → q a = true) {b : α} (hp : p b = false) (hq : q b = true) : ∀ l : List α,b ∈ l → (l.filter p).length < (l.filter q).length
 | [],hb => absurd hb (by simp)
 | a :: r,hb => by
  rw [List.filter_cons,List.filter_cons]
  rcases List.mem_cons.1 hb with e | e
  ·subst e
   rw [hp,hq]
   have := filter_len_le h r
   simp; omega
  ·have ih := filter_len_lt h hp hq r e
   cases h1 : p a with
   | true => rw [h a h1]; simp; exact ih
   | false =>
    cases h2 : q a with
    | true => simp; omega
    | false => simpa using ih
theorem passR_less (m : Mo) (x : Nat → Nat → Nat → Bool) (h : (passR m x).is = true) : m.lack (passR m x).x < m.lack x := by
 obtain ⟨f,u,n,e1,e2,e3,e4⟩ := (passR_step m x).new rfl h
 refine filter_len_lt (b := (f,u,n)) (fun p hp => ?_) (by simp only [e4,Bool.not_true]) (by simp only [show x f u n = false from e3,Bool.not_false]) m.places (mem_places e2 e1)
 cases hx : x p.1 p.2.1 p.2.2 with
 | false => rfl
 | true => rw [(passR_step m x).le _ _ _ hx] at hp; exact absurd hp (by simp)
end Go.Proofs.Ytlggjbopfnndbaa
namespace Go.Proofs.Ytlggjbopfnndbaa
open Go.RowKit
structure Leaf where
 enc : Nat → Nat → Value
 ok : World → Nat → Nat → (Nat → Bool) → Prop
 keep : ∀ {w w' : World} {b P : Nat} {x : Nat → Bool},ok w b P x → w'.heap[b]? = w.heap[b]? → ok w' b P x
 lt : ∀ {w : World} {b P : Nat} {x : Nat → Bool},ok w b P x → b < w.heap.size
 congr : ∀ {w : World} {b P : Nat} {x y : Nat → Bool},ok w b P x → (∀ n,n < P → x n = y n) → ok w b P y
 one : ∀ b P,(enc b P).oneCell' = true
structure FR where
 tv : Value
 locs : List Nat
 fl : Nat
 P : Nat
abbrev Tag := Nat → Nat × Nat × Nat
structure RowT (K : Leaf) (E2 : TypeId) (w : World) (f : Nat) (tv : Value) (locs : List Nat) (P : Nat) (x : Nat → Nat → Bool) (tag : Tag) : Prop where
 own : w.ownsRow 0 E2 1 tv locs.length (locs.map fun b => K.enc b P)
 leaf : ∀ (u b : Nat),locs[u]? = some b → K.ok w b P (x u) ∧ tag b = (4,f,u)
 tr : ∀ k,tv.ownBlock = some k → tag k = (3,f,0)
structure RegT (K : Leaf) (E1 E2 : TypeId) (B : Nat) (w : World) (vv fv : Value) (rows : List FR) (x : Nat → Nat → Nat → Bool) (tag : Tag) : Prop where
 vars : w.ownsRow 0 E1 1 vv rows.length (rows.map FR.tv)
 from_ : w.ownsRow 0 E2 1 fv rows.length (rows.map fun r => K.enc r.fl r.P)
 row : ∀ (f : Nat) (r : FR),rows[f]? = some r → RowT K E2 w f r.tv r.locs r.P (x f) tag
 res : ∀ (f : Nat) (r : FR),rows[f]? = some r → K.ok w r.fl r.P (x f r.locs.length) ∧ tag r.fl = (4,f,r.locs.length)
 tv : ∀ k,vv.ownBlock = some k → tag k = (1,0,0)
 tf : ∀ k,fv.ownBlock = some k → tag k = (2,0,0)
 low : ∀ k,tag k ≠ (0,0,0) → B ≤ k ∧ k < w.heap.size
section
variable {K : Leaf} {E1 E2 : TypeId} {B : Nat} {w w' : World} {vv fv tv : Value} {rows : List FR} {x y : Nat → Nat → Nat → Bool} {tag tag' : Tag}
def tagNew (tag : Tag) (a b : Nat) (c : Nat × Nat × Nat) : Tag := fun k => if a ≤ k ∧ k < b then c else tag k
theorem tagNew_old {a b k : Nat} {c : Nat × Nat × Nat} (h : k < a) : tagNew tag a b c k = tag k := by unfold tagNew; rw [if_neg (by omega)]
theorem tagNew_new {a b k : Nat} {c : Nat × Nat × Nat} (h : a ≤ k) (h2 : k < b) : tagNew tag a b c k = c := by unfold tagNew; rw [if_pos ⟨h,h2⟩]
theorem own_tag {e : TypeId} {sz m base : Nat} {xs : List Value} {v : Value} {c : Nat × Nat × Nat} {M : Nat → Prop} (h : w.ownsRow base e sz v m xs) (hx : Ext M w w') (ht : ∀ k,v.ownBlock = some k → tag k = c) (hM : ∀ k,M k → k < w.heap.size → tag k ≠ c) : w'.ownsRow base e sz v m xs :=
 ownsRow_ext h hx fun k hk hk' => hM k hk' (h.lt k hk).2 (ht k hk)
theorem ok_tag {b P : Nat} {z : Nat → Bool} {c : Nat × Nat × Nat} {M : Nat → Prop} (h : K.ok w b P z) (hx : Ext M w w') (ht : tag b = c) (hM : ∀ k,M k → k < w.heap.size → tag k ≠ c) : K.ok w' b P z :=
 K.keep h (hx.block b (K.lt h) fun hk => hM b hk (K.lt h) ht)
theorem RowT.ext {f P : Nat} {locs : List Nat} {z : Nat → Nat → Bool} {M : Nat → Prop} (h : RowT K E2 w f tv locs P z tag) (hx : Ext M w w') (hM : ∀ k,M k → k < w.heap.size → tag k ≠ (3,f,0) ∧ ∀ u,tag k ≠ (4,f,u)) (hag : ∀ k,k < w.heap.size → tag' k = tag k) : RowT K E2 w' f tv locs P z tag' := by
 refine ⟨own_tag h.own hx h.tr fun k hk hl => (hM k hk hl).1,fun u b hb => ?_,fun k hk => (hag k (h.own.lt k hk).2).trans (h.tr k hk)⟩
 obtain ⟨h1,h2⟩ := h.leaf u b hb
 exact ⟨ok_tag h1 hx h2 fun k hk hl => (hM k hk hl).2 u,(hag b (K.lt h1)).trans h2⟩
theorem RegT.ext {M : Nat → Prop} (h : RegT K E1 E2 B w vv fv rows x tag) (hx : Ext M w w') (hM : ∀ k,M k → k < w.heap.size → tag k ≠ (1,0,0) ∧ tag k ≠ (2,0,0) ∧ ∀ f u,f < rows.length → tag k ≠ (3,f,0) ∧ tag k ≠ (4,f,u))
  (hag : ∀ k,k < w.heap.size → tag' k = tag k) (hlow : ∀ k,w.heap.size ≤ k → tag' k ≠ (0,0,0) → B ≤ k ∧ k < w'.heap.size) : RegT K E1 E2 B w' vv fv rows x tag' := by
 have hlt : ∀ {f : Nat} {r : FR},rows[f]? = some r → f < rows.length := fun h => (List.getElem?_eq_some_iff.1 h).1
 refine ⟨own_tag h.vars hx h.tv fun k hk hl => (hM k hk hl).1,own_tag h.from_ hx h.tf fun k hk hl => (hM k hk hl).2.1,fun f r hr => (h.row f r hr).ext hx (fun k hk hl => ⟨((hM k hk hl).2.2 f 0 (hlt hr)).1,fun u => ((hM k hk hl).2.2 f u (hlt hr)).2⟩) hag,fun f r hr => ?_,
  fun k hk => (hag k (h.vars.lt k hk).2).trans (h.tv k hk),fun k hk => (hag k (h.from_.lt k hk).2).trans (h.tf k hk),fun k hk => ?_⟩
 ·obtain ⟨h1,h2⟩ := h.res f r hr
  exact ⟨ok_tag h1 hx h2 fun k hk hl => ((hM k hk hl).2.2 f _ (hlt hr)).2,(hag _ (K.lt h1)).trans h2⟩
 ·rcases Nat.lt_or_ge k w.heap.size with q | q
  ·rw [hag k q] at hk
   obtain ⟨h1,h2⟩ := h.low k hk
   exact ⟨h1,Nat.lt_of_lt_of_le h2 hx.size⟩
  ·exact hlow k q hk
theorem RegT.below (h : RegT K E1 E2 B w vv fv rows x tag) (hb : Below w.heap.size w w') : RegT K E1 E2 B w' vv fv rows x tag :=
 h.ext (M := fun _ => False) (Ext.of_below_size hb) (fun _ h => h.elim) (fun _ _ => rfl) fun k hk hk' => by
  have := (h.low k hk').2; omega
theorem RegT.keep {M : Nat → Prop} (h : RegT K E1 E2 B w vv fv rows x tag) (hx : Ext M w w') (hM : ∀ k,M k → tag k = (0,0,0) ∨ tag k = (5,0,0)) : RegT K E1 E2 B w' vv fv rows x tag :=
 h.ext hx (fun k hk _ => by rcases hM k hk with e | e <;> rw [e] <;> exact ⟨by simp,by simp,fun _ _ _ => ⟨by simp,by simp⟩⟩) (fun _ _ => rfl) fun k hk hk' => by have := (h.low k hk').2; omega
def FR.at_ (r : FR) (u : Nat) : Nat := (r.locs ++ [r.fl])[u]?.getD 0
theorem FR.at_var {r : FR} {u b : Nat} (h : r.locs[u]? = some b) : r.at_ u = b := by
 unfold FR.at_
 rw [List.getElem?_append_left (List.getElem?_eq_some_iff.1 h).1,h]; rfl
theorem FR.at_res (r : FR) : r.at_ r.locs.length = r.fl := by unfold FR.at_; simp
theorem RegT.leaf (h : RegT K E1 E2 B w vv fv rows x tag) {f u : Nat} {r : FR} (hr : rows[f]? = some r) (hu : u ≤ r.locs.length) : K.ok w (r.at_ u) r.P (x f u) ∧ tag (r.at_ u) = (4,f,u) := by
 rcases Nat.lt_or_ge u r.locs.length with q | q
 ·rw [FR.at_var (List.getElem?_eq_getElem q)]
  exact (h.row f r hr).leaf u _ (List.getElem?_eq_getElem q)
 ·obtain rfl : u = r.locs.length := by omega
  rw [FR.at_res]
  exact h.res f r hr
theorem RegT.set (h : RegT K E1 E2 B w vv fv rows x tag) {f u : Nat} {r : FR} (hr : rows[f]? = some r) (hu : u ≤ r.locs.length) (hx : Ext (· = r.at_ u) w w') (hy : K.ok w' (r.at_ u) r.P (y f u)) (he : ∀ g v,¬ (g = f ∧ v = u) → ∀ n,y g v n = x g v n) : RegT K E1 E2 B w' vv fv rows y tag := by
 obtain ⟨h1,h2⟩ := h.leaf hr hu
 have hne : ∀ g v,¬ (g = f ∧ v = u) → y g v = x g v := fun g v hg => funext (he g v hg)
 have hM1 : ∀ c,c ≠ (4,f,u) → ∀ k,k = r.at_ u → k < w.heap.size → tag k ≠ c := by
  rintro c hc k rfl _ e
  rw [h2] at e
  exact hc e.symm
 have hlf : ∀ g v b P,(g = f ∧ v = u → b = r.at_ u ∧ P = r.P) → K.ok w b P (x g v) → tag b = (4,g,v) → K.ok w' b P (y g v) := by
  intro g v b P hq ho ht
  by_cases e : g = f ∧ v = u
  ·obtain ⟨rfl,rfl⟩ := e
   obtain ⟨rfl,rfl⟩ := hq ⟨rfl,rfl⟩
   exact hy
  ·rw [hne g v e]
   exact ok_tag ho hx ht (hM1 _ fun e2 => e (by simp only [Prod.mk.injEq] at e2; exact e2.2))
 refine ⟨own_tag h.vars hx h.tv (hM1 _ (by simp)),own_tag h.from_ hx h.tf (hM1 _ (by simp)),fun g q hq => ⟨own_tag (h.row g q hq).own hx (h.row g q hq).tr (hM1 _ (by simp)),fun v b hb => ?_,(h.row g q hq).tr⟩,fun g q hq => ?_,h.tv,h.tf,fun k hk => ⟨(h.low k hk).1,Nat.lt_of_lt_of_le (h.low k hk).2 hx.size⟩⟩
 ·obtain ⟨a1,a2⟩ := (h.row g q hq).leaf v b hb
  refine ⟨hlf g v b q.P ?_ a1 a2,a2⟩
  rintro ⟨rfl,rfl⟩
  rw [hr] at hq
  obtain rfl := Option.some.inj hq
  exact ⟨(FR.at_var hb).symm,rfl⟩
 ·obtain ⟨a1,a2⟩ := h.res g q hq
  refine ⟨hlf g _ q.fl q.P ?_ a1 a2,a2⟩
  rintro ⟨rfl,e⟩
  rw [hr] at hq
  obtain rfl := Option.some.inj hq
  exact ⟨by rw [← e,FR.at_res],rfl⟩
theorem RegT.fn (h : RegT K E1 E2 B w vv fv rows x tag) {f : Nat} {r : FR} (hr : rows[f]? = some r) : ∃ VA FA cv cf,vv = .slice (some ⟨VA,0,none⟩) rows.length cv ∧ fv = .slice (some ⟨FA,0,none⟩) rows.length cf ∧ VA < w.heap.size ∧ FA < w.heap.size ∧
  w.cell? ⟨VA,f,none⟩ = some r.tv ∧ w.cell? ⟨FA,f,none⟩ = some (K.enc (r.at_ r.locs.length) r.P) := by
 obtain ⟨ao,cv,rfl⟩ := ownsRow_slice h.vars
 obtain ⟨bo,cf,rfl⟩ := ownsRow_slice h.from_
 obtain ⟨VA,rfl,h1,h2⟩ := ownsRow_get h.vars (j := f) (u := r.tv) (by rw [List.getElem?_map,hr]; rfl)
 obtain ⟨FA,rfl,h3,h4⟩ := ownsRow_get h.from_ (j := f) (u := K.enc r.fl r.P) (by rw [List.getElem?_map,hr]; rfl)
 exact ⟨VA,FA,cv,cf,rfl,rfl,h1,h3,h2,by rw [FR.at_res]; exact h4⟩
theorem RegT.var (h : RegT K E1 E2 B w vv fv rows x tag) {f u : Nat} {r : FR} (hr : rows[f]? = some r) (hu : u < r.locs.length) : ∃ T c,r.tv = .slice (some ⟨T,0,none⟩) r.locs.length c ∧ T < w.heap.size ∧ w.cell? ⟨T,u,none⟩ = some (K.enc (r.at_ u) r.P) := by
 have ho := (h.row f r hr).own
 obtain ⟨ao,c,e⟩ := ownsRow_slice ho
 rw [e] at ho
 obtain ⟨T,rfl,h1,h2⟩ := ownsRow_get ho (j := u) (u := K.enc (r.at_ u) r.P) (by rw [List.getElem?_map,FR.at_var (List.getElem?_eq_getElem hu),List.getElem?_eq_getElem hu]; rfl)
 exact ⟨T,c,e,h1,h2⟩
end
end Go.Proofs.Ytlggjbopfnndbaa
