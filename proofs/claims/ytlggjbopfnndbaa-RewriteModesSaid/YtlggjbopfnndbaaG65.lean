import Derived.Test.YtlggjbopfnndbaaG64
import Derived.Test.YtlggjbopfnndbaaG33
import Derived.Test.YtlggjbopfnndbaaG27
namespace Go.Proofs.Ytlggjbopfnndbaa
open Go.RowKit
structure RqB (w : World) (m : Mo) (B R j : Nat) (vv fv : Value) (rows : List FR) (x : Nat → Nat → Nat → Bool) (tag : Tag) : Prop where
 mod : ∃ w0 : World,m.inn w0 ∧ w0.heap.size ≤ B ∧ Below w0.heap.size w0 w
 rec_ : w.heap[R]? = some (.cells #[vv,fv,.int .i64 0] 67 (0,0))
 tab : RegT boolLeaf 65 70 B w vv fv rows x tag
 tR : tag R = (5,0,0)
 fit : ∀ (f : Nat) (r : FR) (g : Fn),rows[f]? = some r → m.fs[f]? = some g → r.P = g.c.par.toNat ∧ r.locs.length = g.vs.length
 n : rows.length = j
section
variable {w w' w2 w5 w7 w8 : World} {m : Mo} {B R j : Nat} {vv fv tv v5 v8 : Value} {rows : List FR} {x : Nat → Nat → Nat → Bool} {tag : Tag}
theorem RqB.inn (h : RqB w m B R j vv fv rows x tag) : m.inn w := by
 obtain ⟨w0,h1,_,h2⟩ := h.mod
 exact h1.below h2
theorem RqB.low (h : RqB w m B R j vv fv rows x tag) : B ≤ R ∧ R < w.heap.size := h.tab.low R (by rw [h.tR]; simp)
theorem RqB.below (h : RqB w m B R j vv fv rows x tag) (hb : Below w.heap.size w w') : RqB w' m B R j vv fv rows x tag := by
 obtain ⟨w0,h1,h3,h2⟩ := h.mod
 exact ⟨⟨w0,h1,h3,h2.trans (hb.mono h2.size)⟩,(hb.block R (Array.getElem?_eq_some_iff.1 h.rec_).1).trans h.rec_,h.tab.below hb,h.tR,h.fit,h.n⟩
theorem RqB.done (h : RqB w m B R m.fs.length vv fv rows x tag) : RqM w m B R vv fv rows x tag 0 := ⟨h.mod,h.rec_,h.tab,h.tR,h.fit,h.n⟩
theorem RqB.start {w0 : World} (hm : m.inn w0) (hB : w0.heap.size ≤ B) (hb : Below w0.heap.size w0 w) (hR : w.heap[R]? = some (.cells #[.slice none 0 0,.slice none 0 0,.int .i64 0] 67 (0,0))) (hBR : B ≤ R) :
  RqB w m B R 0 (.slice none 0 0) (.slice none 0 0) [] x (fun k => if k = R then (5,0,0) else (0,0,0)) := by
 refine ⟨⟨w0,hm,hB,hb⟩,hR,⟨World.ownsRow_nil _ _ _ _,World.ownsRow_nil _ _ _ _,fun f r h => by simp at h,fun f r h => by simp at h,fun k h => by simp [Value.ownBlock] at h,fun k h => by simp [Value.ownBlock] at h,fun k hk => ?_⟩,by rw [if_pos rfl],fun f r g h => by simp at h,rfl⟩
 by_cases e : k = R
 ·subst e; exact ⟨hBR,(Array.getElem?_eq_some_iff.1 hR).1⟩
 ·rw [if_neg e] at hk; exact absurd rfl hk
theorem RqB.var {o : Obj} {locs : List Nat} {P nb : Nat} (h : RqB w m B R j vv fv rows x tag) (ht : RowT boolLeaf 70 w j tv locs P (x j) tag) (hb : Below w.heap.size w w2) (hnb : w.heap.size ≤ nb) (hnb2 : nb < w2.heap.size) (hok : boolsOk w2 nb P (x j locs.length))
  (hown : w5.ownsRow 0 70 1 v5 (locs.length + 1) (locs.map (fun b => boolLeaf.enc b P) ++ [boolLeaf.enc nb P])) (hg : (w2.alloc o).grownBy w5 tv.ownBlock) (hat : ∀ k,v5.ownBlock = some k → tv.ownBlock = some k ∨ (w2.alloc o).heap.size ≤ k) :
  ∃ tag',RqB w5 m B R j vv fv rows x tag' ∧ RowT boolLeaf 70 w5 j v5 (locs ++ [nb]) P (x j) tag' ∧ Ext (fun k => tv.ownBlock = some k) w w5 ∧ ∀ k,k < w.heap.size → tag' k = tag k := by
 have hx2 : Ext (fun k => tv.ownBlock = some k) w2 w5 := ext_grown ((Ext.refl _ _).alloc _) hg
 have hx : Ext (fun k => tv.ownBlock = some k) w w5 := (Ext.of_below_size (M := fun k => tv.ownBlock = some k) hb).trans hx2 (fun k hk => .inl hk)
 have hs2 := hb.size
 have hs5 := hx2.size
 have hT : ∀ k,tv.ownBlock = some k → tag k = (3,j,0) ∧ k < w.heap.size := fun k hk => ⟨ht.tr k hk,(ht.own.lt k hk).2⟩
 have hold : ∀ k,k < w.heap.size → tagNew (tagNew tag nb (nb + 1) (4,j,locs.length)) w2.heap.size w5.heap.size (3,j,0) k = tag k := fun k hk => by
  rw [tagNew_old (by omega),tagNew_old (by omega)]
 have hBw := h.low
 refine ⟨tagNew (tagNew tag nb (nb + 1) (4,j,locs.length)) w2.heap.size w5.heap.size (3,j,0),⟨?_,?_,?_,?_,h.fit,h.n⟩,⟨?_,?_,?_⟩,hx,hold⟩
 ·obtain ⟨w0,h1,h3,h2⟩ := h.mod
  refine ⟨w0,h1,h3,h2.trans (hx.below h2.size (fun k hk => ?_))⟩
  have := (h.tab.low k (by rw [(hT k hk).1]; simp)).1
  omega
 ·refine hx.heap h.rec_ fun hk => ?_
  have := (hT R hk).1
  rw [h.tR] at this; simp at this
 ·refine h.tab.ext hx (fun k hk _ => ?_) hold fun k hk hk' => ?_
  ·rw [(hT k hk).1]
   refine ⟨by simp,by simp,fun f u hf => ⟨?_,by simp⟩⟩
   rw [h.n] at hf
   intro e
   simp only [Prod.mk.injEq] at e
   omega
  ·by_cases e : k < w5.heap.size
   ·exact ⟨by omega,e⟩
   ·unfold tagNew at hk'
    rw [if_neg (by omega),if_neg (by omega)] at hk'
    have := (h.tab.low k hk').2
    omega
 ·rw [hold R hBw.2]; exact h.tR
 ·rw [List.length_append,List.map_append]; exact hown
 ·intro u b hub
  rcases Nat.lt_or_ge u locs.length with q | q
  ·rw [List.getElem?_append_left q] at hub
   obtain ⟨h1,h2⟩ := ht.leaf u b hub
   refine ⟨ok_tag h1 hx h2 fun k hk _ e => ?_,by rw [hold b (boolLeaf.lt h1)]; exact h2⟩
   rw [(hT k hk).1] at e; simp at e
  ·have hu : u = locs.length := by
    have := (List.getElem?_eq_some_iff.1 hub).1
    rw [List.length_append] at this
    simp at this; omega
   subst hu
   rw [List.getElem?_append_right (Nat.le_refl _),Nat.sub_self] at hub
   obtain rfl : nb = b := by simpa using hub
   refine ⟨boolLeaf.keep (w := w2) hok (hx2.block nb hnb2 fun hk => by have := (hT nb hk).2; omega),?_⟩
   rw [tagNew_old hnb2,tagNew_new (Nat.le_refl _) (by omega)]
 ·intro k hk
  rcases hat k hk with e | e
  ·rw [hold k (hT k e).2]; exact (hT k e).1
  ·rw [World.size_alloc] at e
   exact tagNew_new (by omega) (hown.lt k hk).2
theorem RqB.func {o o2 : Obj} {locs : List Nat} {P : Nat} {g : Fn} (h : RqB w m B R j vv fv rows x tag) (ht : RowT boolLeaf 70 w j tv locs P (x j) tag) (hgj : m.fs[j]? = some g) (hP : P = g.c.par.toNat) (hL : locs.length = g.vs.length)
  (hown5 : w5.ownsRow 0 65 1 v5 (rows.length + 1) (rows.map FR.tv ++ [tv])) (hg5 : (w.alloc o).grownBy w5 vv.ownBlock) (hat5 : ∀ k,v5.ownBlock = some k → vv.ownBlock = some k ∨ (w.alloc o).heap.size ≤ k)
  (hb7 : Below (w5.setCell ⟨R,0,none⟩ v5).heap.size (w5.setCell ⟨R,0,none⟩ v5) w7) {nb : Nat} (hnb : w5.heap.size ≤ nb) (hnb7 : nb < w7.heap.size) (hok : boolsOk w7 nb P (x j locs.length))
  (hown8 : w8.ownsRow 0 70 1 v8 (rows.length + 1) ((rows.map fun r => boolLeaf.enc r.fl r.P) ++ [boolLeaf.enc nb P])) (hg8 : (w7.alloc o2).grownBy w8 fv.ownBlock) (hat8 : ∀ k,v8.ownBlock = some k → fv.ownBlock = some k ∨ (w7.alloc o2).heap.size ≤ k) :
  ∃ tag',RqB (w8.setCell ⟨R,1,none⟩ v8) m B R (j + 1) v5 v8 (rows ++ [⟨tv,locs,nb,P⟩]) x tag' ∧ Ext (fun k => tag k ≠ (0,0,0)) w (w8.setCell ⟨R,1,none⟩ v8) := by
 have hBw := h.low
 have hx5 : Ext (fun k => vv.ownBlock = some k) w w5 := ext_grown ((Ext.refl _ _).alloc _) hg5
 have hxR : Ext (· = R) w5 (w5.setCell ⟨R,0,none⟩ v5) := Ext.set1 _ _ _ _
 have hx8 : Ext (fun k => fv.ownBlock = some k) w7 w8 := ext_grown ((Ext.refl _ _).alloc _) hg8
 have hxR2 : Ext (· = R) w8 (w8.setCell ⟨R,1,none⟩ v8) := Ext.set1 _ _ _ _
 have s5 := hx5.size
 have sR := World.size_setCell w5 ⟨R,0,none⟩ v5
 have s7 := hb7.size
 have s8 := hx8.size
 have sR2 := World.size_setCell w8 ⟨R,1,none⟩ v8
 have hV : ∀ k,vv.ownBlock = some k → tag k = (1,0,0) ∧ k < w.heap.size := fun k hk => ⟨h.tab.tv k hk,(h.tab.vars.lt k hk).2⟩
 have hF : ∀ k,fv.ownBlock = some k → tag k = (2,0,0) ∧ k < w.heap.size := fun k hk => ⟨h.tab.tf k hk,(h.tab.from_.lt k hk).2⟩
 have hMall : ∀ k,(vv.ownBlock = some k ∨ fv.ownBlock = some k ∨ k = R) → tag k = (1,0,0) ∨ tag k = (2,0,0) ∨ tag k = (5,0,0) := by
  rintro k (hk | hk | hk)
  ·exact .inl (hV k hk).1
  ·exact .inr (.inl (hF k hk).1)
  ·exact .inr (.inr (by rw [hk]; exact h.tR))
 have hx57 : Ext (fun k => vv.ownBlock = some k ∨ fv.ownBlock = some k ∨ k = R) w w7 :=
  ((hx5.mono (M' := fun k => vv.ownBlock = some k ∨ fv.ownBlock = some k ∨ k = R) (fun _ hk => .inl hk)).trans hxR (fun k hk => .inl (.inr (.inr hk)))).trans (Ext.of_below_size (M := fun _ => False) hb7) (fun _ h => h.elim)
 have hx : Ext (fun k => vv.ownBlock = some k ∨ fv.ownBlock = some k ∨ k = R) w (w8.setCell ⟨R,1,none⟩ v8) :=
  (hx57.trans hx8 (fun k hk => .inl (.inr (.inl hk)))).trans hxR2 (fun k hk => .inl (.inr (.inr hk)))
 obtain ⟨tag',htag⟩ : ∃ tag',tagNew (tagNew (tagNew tag w.heap.size w5.heap.size (1,0,0)) nb (nb + 1) (4,j,locs.length)) w7.heap.size w8.heap.size (2,0,0) = tag' := ⟨_,rfl⟩
 have hold : ∀ k,k < w.heap.size → tag' k = tag k := fun k hk => by
  rw [← htag,tagNew_old (by omega),tagNew_old (by omega),tagNew_old hk]
 have hlow : ∀ k,w.heap.size ≤ k → tag' k ≠ (0,0,0) → B ≤ k ∧ k < (w8.setCell ⟨R,1,none⟩ v8).heap.size := by
  intro k hk hk'
  by_cases e : k < w8.heap.size
  ·exact ⟨by omega,by omega⟩
  ·rw [← htag] at hk'
   unfold tagNew at hk'
   rw [if_neg (by omega),if_neg (by omega),if_neg (by omega)] at hk'
   have := (h.tab.low k hk').2
   omega
 have hnbt : tag' nb = (4,j,locs.length) := by rw [← htag,tagNew_old hnb7,tagNew_new (Nat.le_refl _) (by omega)]
 have hfl : ∀ {f : Nat} {r : FR},rows[f]? = some r → f < rows.length := fun h => (List.getElem?_eq_some_iff.1 h).1
 have hM34 : ∀ k,(vv.ownBlock = some k ∨ fv.ownBlock = some k ∨ k = R) → ∀ f u,tag k ≠ (3,f,0) ∧ tag k ≠ (4,f,u) := by
  intro k hk f u
  rcases hMall k hk with e | e | e <;> rw [e] <;> exact ⟨by simp,by simp⟩
 have hget : ∀ {f : Nat} {r : FR},(rows ++ [(⟨tv,locs,nb,P⟩ : FR)])[f]? = some r → (f < rows.length ∧ rows[f]? = some r) ∨ (f = j ∧ r = ⟨tv,locs,nb,P⟩) := by
  intro f r hr
  rcases Nat.lt_or_ge f rows.length with q | q
  ·rw [List.getElem?_append_left q] at hr
   exact .inl ⟨q,hr⟩
  ·have hfl : f < (rows ++ [(⟨tv,locs,nb,P⟩ : FR)]).length := (List.getElem?_eq_some_iff.1 hr).1
   rw [List.length_append] at hfl
   have hfe : f = rows.length := by simp at hfl; omega
   subst hfe
   rw [List.getElem?_append_right (Nat.le_refl _),Nat.sub_self] at hr
   exact .inr ⟨h.n,by simpa using hr.symm⟩
 have hv5 : ∀ k,v5.ownBlock = some k → (vv.ownBlock = some k ∨ w.heap.size ≤ k) ∧ k < w5.heap.size := fun k hk => ⟨by rcases hat5 k hk with e | e; exact .inl e; right; rw [World.size_alloc] at e; omega,(hown5.lt k hk).2⟩
 have hv8 : ∀ k,v8.ownBlock = some k → (fv.ownBlock = some k ∨ w7.heap.size ≤ k) ∧ k < w8.heap.size := fun k hk => ⟨by rcases hat8 k hk with e | e; exact .inl e; right; rw [World.size_alloc] at e; omega,(hown8.lt k hk).2⟩
 have hvf : ∀ k,vv.ownBlock = some k → fv.ownBlock = some k → False := fun k h1 h2 => by
  have e := (hV k h1).1
  rw [(hF k h2).1] at e; simp at e
 refine ⟨tag',⟨?_,?_,⟨?_,?_,?_,?_,?_,?_,?_⟩,?_,?_,?_⟩,hx.mono fun k hk => ?_⟩
 ·obtain ⟨w0,h1,h3,h2⟩ := h.mod
  refine ⟨w0,h1,h3,h2.trans (hx.below h2.size (fun k hk => ?_))⟩
  have : tag k ≠ (0,0,0) := by rcases hMall k hk with e | e | e <;> rw [e] <;> simp
  have := (h.tab.low k this).1
  omega
 ·have e5 := hx5.heap h.rec_ (fun hk => by have := (hV R hk).1; rw [h.tR] at this; simp at this)
  have e6 := heap_setCell_same w5 R 0 _ _ v5 e5
  have e7 := (hb7.block R (by rw [sR]; omega)).trans e6
  have e8 := hx8.heap e7 (fun hk => by have := (hF R hk).1; rw [h.tR] at this; simp at this)
  exact heap_setCell_same w8 R 1 _ _ v8 e8
 ·rw [List.length_append,List.map_append]
  have h1 := ownsRow_ext hown5 hxR (fun k hk e => by
   subst e
   rcases (hv5 k hk).1 with e | e
   ·have := (hV k e).1; rw [h.tR] at this; simp at this
   ·omega)
  have h2 := ownsRow_ext h1 (Ext.of_below_size (M := fun _ => False) hb7) (fun _ _ h => h)
  have h3 := ownsRow_ext h2 hx8 (fun k hk hk' => by
   rcases (hv5 k hk).1 with e | e
   ·exact hvf k e hk'
   ·have := (hF k hk').2; omega)
  exact ownsRow_ext h3 hxR2 (fun k hk e => by
   subst e
   rcases (hv5 k hk).1 with e | e
   ·have := (hV k e).1; rw [h.tR] at this; simp at this
   ·omega)
 ·rw [List.length_append,List.map_append]
  exact ownsRow_ext hown8 hxR2 (fun k hk e => by
   subst e
   rcases (hv8 k hk).1 with e | e
   ·have := (hF k e).1; rw [h.tR] at this; simp at this
   ·omega)
 ·intro f r hr
  rcases hget hr with ⟨_,hr'⟩ | ⟨rfl,rfl⟩
  ·exact (h.tab.row f r hr').ext hx (fun k hk _ => ⟨(hM34 k hk f 0).1,fun u => (hM34 k hk f u).2⟩) hold
  ·exact ht.ext hx (fun k hk _ => ⟨(hM34 k hk f 0).1,fun u => (hM34 k hk f u).2⟩) hold
 ·intro f r hr
  rcases hget hr with ⟨_,hr'⟩ | ⟨rfl,rfl⟩
  ·obtain ⟨h1,h2⟩ := h.tab.res f r hr'
   exact ⟨ok_tag h1 hx h2 fun k hk _ => (hM34 k hk f _).2,by rw [hold _ (boolLeaf.lt h1)]; exact h2⟩
  ·refine ⟨?_,hnbt⟩
   have h1 : boolLeaf.ok w8 nb P (x f locs.length) := boolLeaf.keep (w := w7) hok (hx8.block nb hnb7 fun hk => by have := (hF nb hk).2; omega)
   exact boolLeaf.keep h1 (hxR2.block nb (boolLeaf.lt h1) (fun e => by omega))
 ·intro k hk
  rcases (hv5 k hk).1 with e | e
  ·rw [hold k (hV k e).2]; exact (hV k e).1
  ·have := (hv5 k hk).2
   rw [← htag,tagNew_old (by omega),tagNew_old (by omega),tagNew_new e this]
 ·intro k hk
  rcases (hv8 k hk).1 with e | e
  ·rw [hold k (hF k e).2]; exact (hF k e).1
  ·rw [← htag,tagNew_new e (hv8 k hk).2]
 ·intro k hk
  rcases Nat.lt_or_ge k w.heap.size with q | q
  ·rw [hold k q] at hk
   obtain ⟨h1,h2⟩ := h.tab.low k hk
   exact ⟨h1,by omega⟩
  ·exact hlow k q hk
 ·rw [hold R hBw.2]; exact h.tR
 ·intro f r g' hr hg'
  rcases hget hr with ⟨_,hr'⟩ | ⟨rfl,rfl⟩
  ·exact h.fit f r g' hr' hg'
  ·rw [hgj] at hg'
   obtain rfl := Option.some.inj hg'
   exact ⟨hP,hL⟩
 ·rw [List.length_append,h.n]; rfl
 ·rcases hMall k hk with e | e | e <;> rw [e] <;> simp
end
end Go.Proofs.Ytlggjbopfnndbaa
namespace Go.Proofs.Ytlggjbopfnndbaa
open Go.RowKit
theorem info_bools : (Try.prog.info? 70).map (fun i => (i.zero,i.size,i.bytes)) = some (some (.slice none 0 0),1,24) := by kernel_rfl
theorem info_boolss : (Try.prog.info? 65).map (fun i => (i.zero,i.size,i.bytes)) = some (some (.slice none 0 0),1,24) := by kernel_rfl
theorem info_bool1 : (Try.prog.info? 4).map (fun i => (i.zero,i.size,i.bytes)) = some (some (.bool false),1,1) := by kernel_rfl
theorem boolRow_rep (n : Nat) : (List.replicate n (Value.bool false)).toArray = boolRow n (fun _ => false) := by
 apply Array.ext_getElem?
 intro j
 by_cases hj : j < n
 ·rw [boolRow_get _ hj]; simp [hj]
 ·rw [Array.getElem?_eq_none (by simp; omega),Array.getElem?_eq_none (by unfold boolRow; simp; omega)]
theorem wp_make_at {P : Program} {w : World} {o : Oper} {a : Act} {K : Act → World → Prop} {Q : Exit → Act → World → Prop} (l c : Operand) (t : TypeId) (hop : o.op = Op.makeSlice t l c)
  (e : TypeId) (i : TypeInfo) (z : Value) (h1 : P.underlying t = some (.slice e)) (h2 : P.info? e = some i) (h3 : i.zero = some z) (h4 : i.size = 1) (hzc : z.cells = #[z])
  (n : Nat) (hl : a.eval l = .int .i64 (n : Int)) (hc : a.eval c = .int .i64 (n : Int)) (b2 : i.bytes * n ≤ 281474976710656) (b3 : n ≤ maxLen)
  (hK : K (a.put o.dst (.slice (some ⟨w.heap.size,0,none⟩) n n)) (w.alloc (.cells (List.replicate n z).toArray e))) : o.wp P a w K Q := by
 have h63' : (n : Int) ≤ 9223372036854775807 := by
  have h := b3
  simp [maxLen] at h
  omega
 have hb' : (i.bytes : Int) * (n : Int) ≤ 281474976710656 := by
  have h : ((i.bytes * n : Nat) : Int) ≤ 281474976710656 := by omega
  rwa [Int.natCast_mul] at h
 have hr := run_make (P := P) w t e i z h1 h2 h3 .i64 .i64 n n (by omega) (Int.le_refl _) hb' h63'
 simp only [Int.toNat_natCast,h4,hzc,Nat.mul_one] at hr
 have hm : madeCells #[z] n = (List.replicate n z).toArray := by
  rw [← toList_madeCells_one]
 rw [hm] at hr
 unfold Oper.wp
 simp [execOp,hop,hl,hc,hr,Result.andThen]
 simpa [Oper.upon] using hK
theorem rleaf_none {w : World} {m : Mo} {j u P b : Nat} {g : Fn} (hg : m.fs[j]? = some g) (hn : (decide ((u : Int) < g.c.par) && (decide (u < g.vs.length) && g.lentAt (u : Int))) = false) (hr : boolsOk w b P (fun _ => false)) : boolsOk w b P (initR m j u) := by
 unfold boolsOk at hr ⊢
 rw [hr,boolRow_congr fun n _ => ?_]
 rw [initR_eq hg]
 have e : (decide (u = n) && decide ((u : Int) < g.c.par) && decide (u < g.vs.length) && g.lentAt (u : Int)) = (decide (u = n) && (decide ((u : Int) < g.c.par) && (decide (u < g.vs.length) && g.lentAt (u : Int)))) := by simp [Bool.and_assoc]
 rw [e,hn]; simp
theorem rleaf_one {w : World} {m : Mo} {j u P b : Nat} {g : Fn} {x : Vr} (hg : m.fs[j]? = some g) (hP : g.c.par = (P : Int)) (hu : u < P) (hx : g.vs[u]? = some x) (hl : x.lent = true)
  (hr : boolsOk w b P (fun n => if n = u then true else false)) : boolsOk w b P (initR m j u) := by
 unfold boolsOk at hr ⊢
 rw [hr,boolRow_congr fun n _ => ?_]
 rw [initR_eq hg,lentAt_get hx,hl,decide_eq_true (show (u : Int) < g.c.par by omega),decide_eq_true (show u < g.vs.length from (List.getElem?_eq_some_iff.1 hx).1)]
 by_cases e : n = u
 ·subst e; simp
 ·have e' : ¬ u = n := fun h => e h.symm
  rw [decide_eq_false e',if_neg e]; simp
section
variable {w w' : World} {m : Mo} {B R : Nat} {vv fv : Value} {rows : List FR} {x : Nat → Nat → Nat → Bool} {tag : Tag} {rn : Int}
theorem RqM.count (h : RqM w m B R vv fv rows x tag rn) (z : Int) : RqM (w.setCell ⟨R,2,none⟩ (.int .i64 z)) m B R vv fv rows x tag z := by
 obtain ⟨w0,h1,h3,h2⟩ := h.mod
 have hx : Ext (· = R) w (w.setCell ⟨R,2,none⟩ (.int .i64 z)) := Ext.set1 _ _ _ _
 have hl := (h.tab.low R (by rw [h.tR]; simp)).1
 refine ⟨⟨w0,h1,h3,h2.trans (hx.below h2.size (fun k hk => by rw [hk]; omega))⟩,?_,h.tab.keep hx (fun k hk => .inr (by rw [hk]; exact h.tR)),h.tR,h.fit,h.n⟩
 exact heap_setCell_same _ _ _ _ _ _ h.rec_
theorem RqM.copy {R2 : Nat} (h : RqM w m B R vv fv rows x tag rn) (hb : Below w.heap.size w w') (hR : w'.heap[R2]? = some (.cells #[vv,fv,.int .i64 rn] 67 (0,0))) (hs : w.heap.size ≤ R2) : RqM w' m B R2 vv fv rows x (fun k => if k = R2 then (5,0,0) else tag k) rn := by
 obtain ⟨w0,h1,h3,h2⟩ := h.mod
 have hBs : B ≤ w.heap.size := by have := (h.tab.low R (by rw [h.tR]; simp)); omega
 refine ⟨⟨w0,h1,h3,h2.trans (hb.mono h2.size)⟩,hR,h.tab.ext (M := fun _ => False) (Ext.of_below_size hb) (fun _ h => h.elim) (fun k hk => if_neg (by omega)) (fun k hk hk' => ?_),if_pos rfl,h.fit,h.n⟩
 by_cases e : k = R2
 ·rw [e]; exact ⟨by omega,(Array.getElem?_eq_some_iff.1 hR).1⟩
 ·rw [if_neg e] at hk'
  have := (h.tab.low k hk').2
  omega
end
def OfQ (m : Mo) (w : World) (e : Ending) (w' : World) : Prop :=
 ∃ (B R : Nat) (vv fv : Value) (rows : List FR) (tag : Tag) (k : Nat),e = .returned (.agg #[vv,fv,.int .i64 ((k + 1 : Nat) : Int)]) ∧ w.heap.size ≤ B ∧
  RqM w' m B R vv fv rows (roundsR m (k + 1)) tag ((k + 1 : Nat) : Int) ∧ RoundsIs m k ∧ k ≤ 5418000 ∧ Below w.heap.size w w'
structure OfBx (m : Mo) (w : World) (B : Nat) (wr : World) : Prop where
 below : Below B w wr
 mod : wr.heap[B]? = some (.cells m.cells 25 (0,0))
 res : wr.heap[B + 1]? = some (.cells #[.slice none 0 0,.slice none 0 0,.int .i64 0] 67 (0,0))
theorem OfBx.ext {m : Mo} {w wr w' : World} {B : Nat} {M : Nat → Prop} (h : OfBx m w B wr) (hB : w.heap.size = B) (hx : Ext M wr w') (hM : ∀ k,M k → B + 2 ≤ k) : OfBx m w B w' :=
 ⟨h.below.trans (hx.below (by have := h.below.size; omega) (fun k hk => by have := hM k hk; omega)),hx.heap h.mod (fun hk => by have := hM _ hk; omega),hx.heap h.res (fun hk => by have := hM _ hk; omega)⟩
def OfSI (m : Mo) (w : World) (B R : Nat) (c : Value) (wr : World) : Prop :=
 ∃ (j : Nat) (vv fv : Value) (rows : List FR) (tag : Tag),j ≤ m.fs.length ∧ c = .int .i64 (j : Int) ∧ RqB wr m (B + 2) R j vv fv rows (initR m) tag ∧ OfBx m w B wr
def OfSJ (m : Mo) (w : World) (B R j : Nat) (g : Fn) (P N4 : Nat) (vv fv : Value) (rows : List FR) (l c : Value) (wr : World) : Prop :=
 ∃ (u : Nat) (locs : List Nat) (tag : Tag),u ≤ g.vs.length ∧ c = .int .i64 (u : Int) ∧ locs.length = u ∧ RqB wr m (B + 2) R j vv fv rows (initR m) tag ∧ RowT boolLeaf 70 wr j l locs P (initR m j) tag ∧
  wr.heap[N4]? = some (.cells g.cells 50 (0,0)) ∧ tag N4 = (0,0,0) ∧ OfBx m w B wr
def OfSK (m : Mo) (w : World) (B R : Nat) (vv fv : Value) (rows : List FR) (tag : Tag) (c : Value) (mm : Nat) (wr : World) : Prop :=
 OfBx m w B wr ∧
 ((∃ k : Nat,c = .bool true ∧ mm = m.lack (roundsR m k) + 1 ∧ k + mm ≤ m.lack (roundsR m 0) + 1 ∧ RqM wr m (B + 2) R vv fv rows (roundsR m k) tag ((k : Nat) : Int) ∧ (∀ j,j < k → (passR m (roundsR m j)).is = true)) ∨
  (∃ k : Nat,c = .bool false ∧ mm = 0 ∧ RqM wr m (B + 2) R vv fv rows (roundsR m (k + 1)) tag ((k + 1 : Nat) : Int) ∧ RoundsIs m k ∧ k ≤ 5418000))
end Go.Proofs.Ytlggjbopfnndbaa
