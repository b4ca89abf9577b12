import Derived.Test.YtlggjbopfnndbaaG30
import Derived.Test.YtlggjbopfnndbaaIrQ
namespace Go.Proofs.Ytlggjbopfnndbaa
open Go.RowKit
structure RgB (w : World) (m : Mo) (B R j : Nat) (vv fv : Value) (rows : List FR) (x : Nat → Nat → Nat → Bool) (tag : Tag) : Prop where
 mod : ∃ w0 : World,m.inn w0 ∧ w0.heap.size ≤ B ∧ Below w0.heap.size w0 w
 rec_ : w.heap[R]? = some (.cells #[.slice m.sA m.ss.length m.sC,.slice m.fA m.fs.length m.fC,vv,fv,.int .i64 0] 97 (0,0))
 tab : RegT bitsLeaf 95 99 B w vv fv rows x tag
 tR : tag R = (5,0,0)
 fit : ∀ (f : Nat) (r : FR) (g : Fn),rows[f]? = some r → m.fs[f]? = some g → r.P = g.c.par.toNat ∧ r.locs.length = g.vs.length
 n : rows.length = j
section
variable {w w' w2 w5 w7 w8 : World} {m : Mo} {B R j : Nat} {vv fv tv v5 v8 : Value} {rows : List FR} {x : Nat → Nat → Nat → Bool} {tag : Tag}
theorem RgB.inn (h : RgB w m B R j vv fv rows x tag) : m.inn w := by
 obtain ⟨w0,h1,_,h2⟩ := h.mod
 exact h1.below h2
theorem RgB.low (h : RgB w m B R j vv fv rows x tag) : B ≤ R ∧ R < w.heap.size := h.tab.low R (by rw [h.tR]; simp)
theorem RgB.below (h : RgB w m B R j vv fv rows x tag) (hb : Below w.heap.size w w') : RgB w' m B R j vv fv rows x tag := by
 obtain ⟨w0,h1,h3,h2⟩ := h.mod
 exact ⟨⟨w0,h1,h3,h2.trans (hb.mono h2.size)⟩,(hb.block R (Array.getElem?_eq_some_iff.1 h.rec_).1).trans h.rec_,h.tab.below hb,h.tR,h.fit,h.n⟩
theorem RgB.done (h : RgB w m B R m.fs.length vv fv rows x tag) : RgM w m B R vv fv rows x tag 0 := ⟨h.mod,h.rec_,h.tab,h.tR,h.fit,h.n⟩
theorem RgB.start {w0 : World} (hm : m.inn w0) (hB : w0.heap.size ≤ B) (hb : Below w0.heap.size w0 w) (hR : w.heap[R]? = some (.cells #[.slice m.sA m.ss.length m.sC,.slice m.fA m.fs.length m.fC,.slice none 0 0,.slice none 0 0,.int .i64 0] 97 (0,0))) (hBR : B ≤ R) :
  RgB w m B R 0 (.slice none 0 0) (.slice none 0 0) [] x (fun k => if k = R then (5,0,0) else (0,0,0)) := by
 refine ⟨⟨w0,hm,hB,hb⟩,hR,⟨World.ownsRow_nil _ _ _ _,World.ownsRow_nil _ _ _ _,fun f r h => by simp at h,fun f r h => by simp at h,fun k h => by simp [Value.ownBlock] at h,fun k h => by simp [Value.ownBlock] at h,fun k hk => ?_⟩,by rw [if_pos rfl],fun f r g h => by simp at h,rfl⟩
 by_cases e : k = R
 ·subst e; exact ⟨hBR,(Array.getElem?_eq_some_iff.1 hR).1⟩
 ·rw [if_neg e] at hk; exact absurd rfl hk
theorem RgB.var {o : Obj} {locs : List Nat} {P nb : Nat} (h : RgB w m B R j vv fv rows x tag) (ht : RowT bitsLeaf 99 w j tv locs P (x j) tag) (hb : Below w.heap.size w w2) (hnb : w.heap.size ≤ nb) (hnb2 : nb < w2.heap.size) (hok : bitsOk w2 nb P (x j locs.length))
  (hown : w5.ownsRow 0 99 1 v5 (locs.length + 1) (locs.map (fun b => bitsLeaf.enc b P) ++ [bitsLeaf.enc nb P])) (hg : (w2.alloc o).grownBy w5 tv.ownBlock) (hat : ∀ k,v5.ownBlock = some k → tv.ownBlock = some k ∨ (w2.alloc o).heap.size ≤ k) :
  ∃ tag',RgB w5 m B R j vv fv rows x tag' ∧ RowT bitsLeaf 99 w5 j v5 (locs ++ [nb]) P (x j) tag' ∧ Ext (fun k => tv.ownBlock = some k) w w5 ∧ ∀ k,k < w.heap.size → tag' k = tag k := by
 have hx2 : Ext (fun k => tv.ownBlock = some k) w2 w5 := ext_grown ((Ext.refl _ _).alloc _) hg
 have hx : Ext (fun k => tv.ownBlock = some k) w w5 := (Ext.of_below_size (M := fun k => tv.ownBlock = some k) hb).trans hx2 (fun k hk => .inl hk)
 have hs2 := hb.size
 have hs5 := hx2.size
 have hT : ∀ k,tv.ownBlock = some k → tag k = (3,j,0) ∧ k < w.heap.size := fun k hk => ⟨ht.tr k hk,(ht.own.lt k hk).2⟩
 have hold : ∀ k,k < w.heap.size → tagNew (tagNew tag nb (nb + 1) (4,j,locs.length)) w2.heap.size w5.heap.size (3,j,0) k = tag k := fun k hk => by
  rw [tagNew_old (by omega),tagNew_old (by omega)]
 have hBw := h.low
 refine ⟨tagNew (tagNew tag nb (nb + 1) (4,j,locs.length)) w2.heap.size w5.heap.size (3,j,0),⟨?_,?_,?_,?_,h.fit,h.n⟩,⟨?_,?_,?_⟩,hx,hold⟩
 ·obtain ⟨w0,h1,h3,h2⟩ := h.mod
  refine ⟨w0,h1,h3,h2.trans (hx.below h2.size (fun k hk => ?_))⟩
  have := (h.tab.low k (by rw [(hT k hk).1]; simp)).1
  omega
 ·refine hx.heap h.rec_ fun hk => ?_
  have := (hT R hk).1
  rw [h.tR] at this; simp at this
 ·refine h.tab.ext hx (fun k hk _ => ?_) hold fun k hk hk' => ?_
  ·rw [(hT k hk).1]
   refine ⟨by simp,by simp,fun f u hf => ⟨?_,by simp⟩⟩
   rw [h.n] at hf
   intro e
   simp only [Prod.mk.injEq] at e
   omega
  ·by_cases e : k < w5.heap.size
   ·exact ⟨by omega,e⟩
   ·unfold tagNew at hk'
    rw [if_neg (by omega),if_neg (by omega)] at hk'
    have := (h.tab.low k hk').2
    omega
 ·rw [hold R hBw.2]; exact h.tR
 ·rw [List.length_append,List.map_append]; exact hown
 ·intro u b hub
  rcases Nat.lt_or_ge u locs.length with q | q
  ·rw [List.getElem?_append_left q] at hub
   obtain ⟨h1,h2⟩ := ht.leaf u b hub
   refine ⟨ok_tag h1 hx h2 fun k hk _ e => ?_,by rw [hold b (bitsLeaf.lt h1)]; exact h2⟩
   rw [(hT k hk).1] at e; simp at e
  ·have hu : u = locs.length := by
    have := (List.getElem?_eq_some_iff.1 hub).1
    rw [List.length_append] at this
    simp at this; omega
   subst hu
   rw [List.getElem?_append_right (Nat.le_refl _),Nat.sub_self] at hub
   obtain rfl : nb = b := by simpa using hub
   refine ⟨bitsLeaf.keep (w := w2) hok (hx2.block nb hnb2 fun hk => by have := (hT nb hk).2; omega),?_⟩
   rw [tagNew_old hnb2,tagNew_new (Nat.le_refl _) (by omega)]
 ·intro k hk
  rcases hat k hk with e | e
  ·rw [hold k (hT k e).2]; exact (hT k e).1
  ·rw [World.size_alloc] at e
   exact tagNew_new (by omega) (hown.lt k hk).2
theorem RgB.func {o o2 : Obj} {locs : List Nat} {P : Nat} {g : Fn} (h : RgB w m B R j vv fv rows x tag) (ht : RowT bitsLeaf 99 w j tv locs P (x j) tag) (hgj : m.fs[j]? = some g) (hP : P = g.c.par.toNat) (hL : locs.length = g.vs.length)
  (hown5 : w5.ownsRow 0 95 1 v5 (rows.length + 1) (rows.map FR.tv ++ [tv])) (hg5 : (w.alloc o).grownBy w5 vv.ownBlock) (hat5 : ∀ k,v5.ownBlock = some k → vv.ownBlock = some k ∨ (w.alloc o).heap.size ≤ k)
  (hb7 : Below (w5.setCell ⟨R,2,none⟩ v5).heap.size (w5.setCell ⟨R,2,none⟩ v5) w7) {nb : Nat} (hnb : w5.heap.size ≤ nb) (hnb7 : nb < w7.heap.size) (hok : bitsOk w7 nb P (x j locs.length))
  (hown8 : w8.ownsRow 0 99 1 v8 (rows.length + 1) ((rows.map fun r => bitsLeaf.enc r.fl r.P) ++ [bitsLeaf.enc nb P])) (hg8 : (w7.alloc o2).grownBy w8 fv.ownBlock) (hat8 : ∀ k,v8.ownBlock = some k → fv.ownBlock = some k ∨ (w7.alloc o2).heap.size ≤ k) :
  ∃ tag',RgB (w8.setCell ⟨R,3,none⟩ v8) m B R (j + 1) v5 v8 (rows ++ [⟨tv,locs,nb,P⟩]) x tag' ∧ Ext (fun k => tag k ≠ (0,0,0)) w (w8.setCell ⟨R,3,none⟩ v8) := by
 have hBw := h.low
 have hx5 : Ext (fun k => vv.ownBlock = some k) w w5 := ext_grown ((Ext.refl _ _).alloc _) hg5
 have hxR : Ext (· = R) w5 (w5.setCell ⟨R,2,none⟩ v5) := Ext.set1 _ _ _ _
 have hx8 : Ext (fun k => fv.ownBlock = some k) w7 w8 := ext_grown ((Ext.refl _ _).alloc _) hg8
 have hxR2 : Ext (· = R) w8 (w8.setCell ⟨R,3,none⟩ v8) := Ext.set1 _ _ _ _
 have s5 := hx5.size
 have sR := World.size_setCell w5 ⟨R,2,none⟩ v5
 have s7 := hb7.size
 have s8 := hx8.size
 have sR2 := World.size_setCell w8 ⟨R,3,none⟩ v8
 have hV : ∀ k,vv.ownBlock = some k → tag k = (1,0,0) ∧ k < w.heap.size := fun k hk => ⟨h.tab.tv k hk,(h.tab.vars.lt k hk).2⟩
 have hF : ∀ k,fv.ownBlock = some k → tag k = (2,0,0) ∧ k < w.heap.size := fun k hk => ⟨h.tab.tf k hk,(h.tab.from_.lt k hk).2⟩
 have hMall : ∀ k,(vv.ownBlock = some k ∨ fv.ownBlock = some k ∨ k = R) → tag k = (1,0,0) ∨ tag k = (2,0,0) ∨ tag k = (5,0,0) := by
  rintro k (hk | hk | hk)
  ·exact .inl (hV k hk).1
  ·exact .inr (.inl (hF k hk).1)
  ·exact .inr (.inr (by rw [hk]; exact h.tR))
 have hx57 : Ext (fun k => vv.ownBlock = some k ∨ fv.ownBlock = some k ∨ k = R) w w7 :=
  ((hx5.mono (M' := fun k => vv.ownBlock = some k ∨ fv.ownBlock = some k ∨ k = R) (fun _ hk => .inl hk)).trans hxR (fun k hk => .inl (.inr (.inr hk)))).trans (Ext.of_below_size (M := fun _ => False) hb7) (fun _ h => h.elim)
 have hx : Ext (fun k => vv.ownBlock = some k ∨ fv.ownBlock = some k ∨ k = R) w (w8.setCell ⟨R,3,none⟩ v8) :=
  (hx57.trans hx8 (fun k hk => .inl (.inr (.inl hk)))).trans hxR2 (fun k hk => .inl (.inr (.inr hk)))
 obtain ⟨tag',htag⟩ : ∃ tag',tagNew (tagNew (tagNew tag w.heap.size w5.heap.size (1,0,0)) nb (nb + 1) (4,j,locs.length)) w7.heap.size w8.heap.size (2,0,0) = tag' := ⟨_,rfl⟩
 have hold : ∀ k,k < w.heap.size → tag' k = tag k := fun k hk => by
  rw [← htag,tagNew_old (by omega),tagNew_old (by omega),tagNew_old hk]
 have hlow : ∀ k,w.heap.size ≤ k → tag' k ≠ (0,0,0) → B ≤ k ∧ k < (w8.setCell ⟨R,3,none⟩ v8).heap.size := by
  intro k hk hk'
  by_cases e : k < w8.heap.size
  ·exact ⟨by omega,by omega⟩
  ·rw [← htag] at hk'
   unfold tagNew at hk'
   rw [if_neg (by omega),if_neg (by omega),if_neg (by omega)] at hk'
   have := (h.tab.low k hk').2
   omega
 have hnbt : tag' nb = (4,j,locs.length) := by rw [← htag,tagNew_old hnb7,tagNew_new (Nat.le_refl _) (by omega)]
 have hfl : ∀ {f : Nat} {r : FR},rows[f]? = some r → f < rows.length := fun h => (List.getElem?_eq_some_iff.1 h).1
 have hM34 : ∀ k,(vv.ownBlock = some k ∨ fv.ownBlock = some k ∨ k = R) → ∀ f u,tag k ≠ (3,f,0) ∧ tag k ≠ (4,f,u) := by
  intro k hk f u
  rcases hMall k hk with e | e | e <;> rw [e] <;> exact ⟨by simp,by simp⟩
 have hget : ∀ {f : Nat} {r : FR},(rows ++ [(⟨tv,locs,nb,P⟩ : FR)])[f]? = some r → (f < rows.length ∧ rows[f]? = some r) ∨ (f = j ∧ r = ⟨tv,locs,nb,P⟩) := by
  intro f r hr
  rcases Nat.lt_or_ge f rows.length with q | q
  ·rw [List.getElem?_append_left q] at hr
   exact .inl ⟨q,hr⟩
  ·have hfl : f < (rows ++ [(⟨tv,locs,nb,P⟩ : FR)]).length := (List.getElem?_eq_some_iff.1 hr).1
   rw [List.length_append] at hfl
   have hfe : f = rows.length := by simp at hfl; omega
   subst hfe
   rw [List.getElem?_append_right (Nat.le_refl _),Nat.sub_self] at hr
   exact .inr ⟨h.n,by simpa using hr.symm⟩
 have hv5 : ∀ k,v5.ownBlock = some k → (vv.ownBlock = some k ∨ w.heap.size ≤ k) ∧ k < w5.heap.size := fun k hk => ⟨by rcases hat5 k hk with e | e; exact .inl e; right; rw [World.size_alloc] at e; omega,(hown5.lt k hk).2⟩
 have hv8 : ∀ k,v8.ownBlock = some k → (fv.ownBlock = some k ∨ w7.heap.size ≤ k) ∧ k < w8.heap.size := fun k hk => ⟨by rcases hat8 k hk with e | e; exact .inl e; right; rw [World.size_alloc] at e; omega,(hown8.lt k hk).2⟩
 have hvf : ∀ k,vv.ownBlock = some k → fv.ownBlock = some k → False := fun k h1 h2 => by
  have e := (hV k h1).1
  rw [(hF k h2).1] at e; simp at e
 refine ⟨tag',⟨?_,?_,⟨?_,?_,?_,?_,?_,?_,?_⟩,?_,?_,?_⟩,hx.mono fun k hk => ?_⟩
 ·obtain ⟨w0,h1,h3,h2⟩ := h.mod
  refine ⟨w0,h1,h3,h2.trans (hx.below h2.size (fun k hk => ?_))⟩
  have : tag k ≠ (0,0,0) := by rcases hMall k hk with e | e | e <;> rw [e] <;> simp
  have := (h.tab.low k this).1
  omega
 ·have e5 := hx5.heap h.rec_ (fun hk => by have := (hV R hk).1; rw [h.tR] at this; simp at this)
  have e6 := heap_setCell_same w5 R 2 _ _ v5 e5
  have e7 := (hb7.block R (by rw [sR]; omega)).trans e6
  have e8 := hx8.heap e7 (fun hk => by have := (hF R hk).1; rw [h.tR] at this; simp at this)
  exact heap_setCell_same w8 R 3 _ _ v8 e8
 ·rw [List.length_append,List.map_append]
  have h1 := ownsRow_ext hown5 hxR (fun k hk e => by
   subst e
   rcases (hv5 k hk).1 with e | e
   ·have := (hV k e).1; rw [h.tR] at this; simp at this
   ·omega)
  have h2 := ownsRow_ext h1 (Ext.of_below_size (M := fun _ => False) hb7) (fun _ _ h => h)
  have h3 := ownsRow_ext h2 hx8 (fun k hk hk' => by
   rcases (hv5 k hk).1 with e | e
   ·exact hvf k e hk'
   ·have := (hF k hk').2; omega)
  exact ownsRow_ext h3 hxR2 (fun k hk e => by
   subst e
   rcases (hv5 k hk).1 with e | e
   ·have := (hV k e).1; rw [h.tR] at this; simp at this
   ·omega)
 ·rw [List.length_append,List.map_append]
  exact ownsRow_ext hown8 hxR2 (fun k hk e => by
   subst e
   rcases (hv8 k hk).1 with e | e
   ·have := (hF k e).1; rw [h.tR] at this; simp at this
   ·omega)
 ·intro f r hr
  rcases hget hr with ⟨_,hr'⟩ | ⟨rfl,rfl⟩
  ·exact (h.tab.row f r hr').ext hx (fun k hk _ => ⟨(hM34 k hk f 0).1,fun u => (hM34 k hk f u).2⟩) hold
  ·exact ht.ext hx (fun k hk _ => ⟨(hM34 k hk f 0).1,fun u => (hM34 k hk f u).2⟩) hold
 ·intro f r hr
  rcases hget hr with ⟨_,hr'⟩ | ⟨rfl,rfl⟩
  ·obtain ⟨h1,h2⟩ := h.tab.res f r hr'
   exact ⟨ok_tag h1 hx h2 fun k hk _ => (hM34 k hk f _).2,by rw [hold _ (bitsLeaf.lt h1)]; exact h2⟩
  ·refine ⟨?_,hnbt⟩
   have h1 : bitsLeaf.ok w8 nb P (x f locs.length) := bitsLeaf.keep (w := w7) hok (hx8.block nb hnb7 fun hk => by have := (hF nb hk).2; omega)
   exact bitsLeaf.keep h1 (hxR2.block nb (bitsLeaf.lt h1) (fun e => by omega))
 ·intro k hk
  rcases (hv5 k hk).1 with e | e
  ·rw [hold k (hV k e).2]; exact (hV k e).1
  ·have := (hv5 k hk).2
   rw [← htag,tagNew_old (by omega),tagNew_old (by omega),tagNew_new e this]
 ·intro k hk
  rcases (hv8 k hk).1 with e | e
  ·rw [hold k (hF k e).2]; exact (hF k e).1
  ·rw [← htag,tagNew_new e (hv8 k hk).2]
 ·intro k hk
  rcases Nat.lt_or_ge k w.heap.size with q | q
  ·rw [hold k q] at hk
   obtain ⟨h1,h2⟩ := h.tab.low k hk
   exact ⟨h1,by omega⟩
  ·exact hlow k q hk
 ·rw [hold R hBw.2]; exact h.tR
 ·intro f r g' hr hg'
  rcases hget hr with ⟨_,hr'⟩ | ⟨rfl,rfl⟩
  ·exact h.fit f r g' hr' hg'
  ·rw [hgj] at hg'
   obtain rfl := Option.some.inj hg'
   exact ⟨hP,hL⟩
 ·rw [List.length_append,h.n]; rfl
 ·rcases hMall k hk with e | e | e <;> rw [e] <;> simp
end
end Go.Proofs.Ytlggjbopfnndbaa
namespace Go.Proofs.Ytlggjbopfnndbaa
open Go.RowKit
theorem RightIn.below {w w' : World} {m : Mo} (h : RightIn w m) (hb : Below w.heap.size w w') : RightIn w' m := ⟨h.mo.below hb,h.sl,h.fl,h.fd,h.vl,h.al⟩
theorem info_bits : (Try.prog.info? 99).map (fun i => (i.zero,i.size,i.bytes)) = some (some (.slice none 0 0),1,24) := by kernel_rfl
theorem info_bitss : (Try.prog.info? 95).map (fun i => (i.zero,i.size,i.bytes)) = some (some (.slice none 0 0),1,24) := by kernel_rfl
theorem flat_len_le {α β : Type} {f : α → List β} {c : Nat} : ∀ {l : List α},(∀ x ∈ l,(f x).length ≤ c) → (l.flatMap f).length ≤ l.length * c
 | [],_ => by simp
 | x :: r,h => by
  have h1 := flat_len_le (l := r) (f := f) (c := c) (fun y hy => h y (by simp [hy]))
  have h2 := h x (by simp)
  rw [List.flatMap_cons,List.length_append,List.length_cons,Nat.add_mul]
  omega
theorem lack_le {m : Mo} (hok : OkR m) (x : Nat → Nat → Nat → Bool) : m.lack x ≤ 5418000 := by
 refine Nat.le_trans (List.length_filter_le _ _) ?_
 unfold Mo.places
 have h1 : ∀ f ∈ List.range m.fs.length,((List.range (m.nv f + 1)).flatMap fun u => (List.range (m.np f)).map fun n => (f,u,n)).length ≤ 90300 := by
  intro f hf
  have hf' := List.mem_range.1 hf
  obtain ⟨g,hg⟩ : ∃ g,m.fs[f]? = some g := ⟨_,List.getElem?_eq_getElem hf'⟩
  obtain ⟨p0,p1,p2,_⟩ := hok.fn g (List.mem_of_getElem? hg)
  have e1 : m.nv f = g.vs.length := by unfold Mo.nv; rw [hg]
  have e2 : m.np f = g.c.par.toNat := by unfold Mo.np; rw [hg]
  refine Nat.le_trans (flat_len_le (c := 300) fun u _ => ?_) ?_
  ·rw [List.length_map,List.length_range,e2]; omega
  ·rw [List.length_range,e1]; omega
 have h2 := flat_len_le h1
 rw [List.length_range] at h2
 have := hok.nf
 omega
def RoundsIs (m : Mo) (k : Nat) : Prop := (passR m (roundsR m k)).is = false ∧ ∀ j,j < k → (passR m (roundsR m j)).is = true
def OfP (m : Mo) (w : World) (e : Ending) (w' : World) : Prop :=
 (rightF m ≠ 0 ∧ e = .returned (.tuple #[.pointer none,.int .i64 (rightF m)]) ∧ Below w.heap.size w w') ∨
 (rightF m = 0 ∧ ∃ (R : Nat) (vv fv : Value) (rows : List FR) (tag : Tag) (k : Nat),e = .returned (.tuple #[.pointer (some ⟨R,0,none⟩),.int .i64 0]) ∧
  RgM w' m w.heap.size R vv fv rows (roundsR m (k + 1)) tag ((k + 1 : Nat) : Int) ∧ RoundsIs m k ∧ k ≤ 5418000 ∧ Below w.heap.size w w')
theorem initR_eq {m : Mo} {j u n : Nat} {g : Fn} (hg : m.fs[j]? = some g) : initR m j u n = (decide (u = n) && decide ((u : Int) < g.c.par) && decide (u < g.vs.length) && g.lentAt (u : Int)) := by
 unfold initR; rw [hg]
theorem bit0 (n : Nat) : bitOf (fun _ => 0) n = false := by unfold bitOf; simp
theorem leaf_none {w : World} {m : Mo} {j u P b : Nat} {g : Fn} (hg : m.fs[j]? = some g) (hn : (decide ((u : Int) < g.c.par) && (decide (u < g.vs.length) && g.lentAt (u : Int))) = false) (hr : RowW w b ((P + 63) / 64) (fun _ => 0)) : bitsOk w b P (initR m j u) := by
 refine ⟨_,hr,fun _ => by decide,fun n _ => ?_⟩
 rw [bit0,initR_eq hg]
 have e : (decide (u = n) && decide ((u : Int) < g.c.par) && decide (u < g.vs.length) && g.lentAt (u : Int)) = (decide (u = n) && (decide ((u : Int) < g.c.par) && (decide (u < g.vs.length) && g.lentAt (u : Int)))) := by simp [Bool.and_assoc]
 rw [e,hn]; simp
theorem leaf_one {w : World} {m : Mo} {j u P b : Nat} {g : Fn} {x : Vr} (hg : m.fs[j]? = some g) (hP : g.c.par = (P : Int)) (hu : u < P) (hx : g.vs[u]? = some x) (hl : x.lent = true)
  (hr : RowW w b ((P + 63) / 64) (fun y => if y = u / 64 then 0 ||| 2 ^ (u % 64) else 0)) : bitsOk w b P (initR m j u) := by
 refine ⟨_,hr,fun i => ?_,fun n _ => ?_⟩
 ·split
  ·rw [Nat.zero_or]; exact pow_lt64 (Nat.mod_lt _ (by decide))
  ·decide
 ·have h1 := bit_add (fun _ => 0) u n
  rw [h1,bit0,Bool.false_or,initR_eq hg,lentAt_get hx,hl,decide_eq_true (show (u : Int) < g.c.par by omega),decide_eq_true (show u < g.vs.length from (List.getElem?_eq_some_iff.1 hx).1)]
  by_cases e : n = u
  ·subst e; simp [hu]
  ·have e' : ¬ u = n := fun h => e h.symm
   rw [decide_eq_false e,decide_eq_false e']; simp
theorem own_at {v : Value} {g n c H : Nat} (h : v.ownBlock = some g ∨ g = H) : ∀ k,(Value.slice (some ⟨g,0,none⟩) n c).ownBlock = some k → v.ownBlock = some k ∨ H ≤ k := by
 intro k hk
 have e : some g = some k := hk
 obtain rfl := Option.some.inj e
 rcases h with h | h
 ·exact .inl h
 ·exact .inr (by omega)
def OfRI (m : Mo) (w : World) (B R : Nat) (c : Value) (wr : World) : Prop :=
 ∃ (j : Nat) (vv fv : Value) (rows : List FR) (tag : Tag),j ≤ m.fs.length ∧ c = .int .i64 (j : Int) ∧ RgB wr m B R j vv fv rows (initR m) tag ∧ Below B w wr
def OfRJ (m : Mo) (w : World) (B R j : Nat) (g : Fn) (P N4 : Nat) (vv fv : Value) (rows : List FR) (l c : Value) (wr : World) : Prop :=
 ∃ (u : Nat) (locs : List Nat) (tag : Tag),u ≤ g.vs.length ∧ c = .int .i64 (u : Int) ∧ locs.length = u ∧ RgB wr m B R j vv fv rows (initR m) tag ∧ RowT bitsLeaf 99 wr j l locs P (initR m j) tag ∧
  wr.heap[N4]? = some (.cells g.cells 50 (0,0)) ∧ tag N4 = (0,0,0) ∧ Below B w wr
def OfRK (m : Mo) (w : World) (B R : Nat) (vv fv : Value) (rows : List FR) (tag : Tag) (mm : Nat) (wr : World) : Prop :=
 ∃ k : Nat,mm = m.lack (roundsR m k) ∧ k + mm ≤ m.lack (roundsR m 0) ∧ RgM wr m B R vv fv rows (roundsR m k) tag ((k : Nat) : Int) ∧ (∀ j,j < k → (passR m (roundsR m j)).is = true) ∧ Below B w wr
set_option maxRecDepth 100000 in
set_option maxHeartbeats 16000000 in
theorem of19_calls (m : Mo) (w : World) (hin : RightIn w m) : Calls Try.prog 26 #[.agg m.cells] w (OfP m w) := by
 have HIN := Lib.hid hin
 obtain ⟨B,hB⟩ : ∃ B,w.heap.size = B := ⟨_,rfl⟩
 obtain ⟨W1,hW1⟩ : ∃ W1,w.alloc (.cells m.cells 25) = W1 := ⟨_,rfl⟩
 have hb1 : Below B w W1 := by rw [← hW1,← hB]; exact (Below.refl _ _).alloc (Nat.le_refl _) _
 have q1 : W1.heap[B]? = some (.cells m.cells 25 (0,0)) := by rw [← hW1,← hB]; exact alloc_at _ _
 have hs1 : W1.heap.size = B + 1 := by rw [← hW1]; simp [hB]
 have c0 : W1.cell? ⟨B,0,none⟩ = some (.slice m.sA m.ss.length m.sC) := by rw [cell_of_row _ _ _ _ _ _ q1]; rfl
 have c1 : W1.cell? ⟨B,1,none⟩ = some (.slice m.fA m.fs.length m.fC) := by rw [cell_of_row _ _ _ _ _ _ q1]; rfl
 have HR := Lib.hid (right_calls m W1 (hin.below (by rw [hB]; exact hb1)))
 have HC : Hid (∀ W,Below W1.heap.size W1 W → W.cell? ⟨B,0,none⟩ = some (.slice m.sA m.ss.length m.sC) ∧ W.cell? ⟨B,1,none⟩ = some (.slice m.fA m.fs.length m.fC) ∧ Below B w W) := by
  intro W hW
  refine ⟨?_,?_,hb1.trans (hW.mono (by omega))⟩
  ·rw [hW.cell (p := ⟨B,0,none⟩) (by show B < _; omega)]; exact c0
  ·rw [hW.cell (p := ⟨B,1,none⟩) (by show B < _; omega)]; exact c1
 simp only [Mo.cells] at HR
 have HW1 : Hid (w.alloc (.cells #[.slice m.sA m.ss.length m.sC,.slice m.fA m.fs.length m.fC] 25) = W1) := hW1
 have HB := Lib.hid hB
 have HS1 := Lib.hid hs1
 obtain ⟨F,hF⟩ : ∃ F,rightF m = F := ⟨_,rfl⟩
 have HF := Lib.hid hF
 rw [hF] at HR
 simp only [Mo.cells]
 clear hin hW1 q1 hb1 hs1 hF
 go_enter Try.func26,Try.ntmps26
 go_upto_region 1 with (fail)
 rw [HW1.out]
 go_step3
 go_wp2_with fail
 go_at_call 51
 refine HR.out.mono ?_
 rintro e w2 ⟨rfl,hb2⟩
 obtain ⟨d0,d1,d2⟩ := HC.out w2 hb2
 have HB2 := Lib.hid d2
 have HB12 := Lib.hid hb2
 clear d2 hb2 c0 c1
 by_cases hF0 : F = 0
 ·have hFb : (F != 0) = false := by rw [hF0]; rfl
  have HF0 : Hid (rightF m = 0) := HF.out.trans hF0
  have HOK := Lib.hid (OkR.of HF0.out)
  have hn60 := HOK.out.nf
  obtain ⟨R,hRz⟩ : ∃ R,w2.heap.size = R := ⟨_,rfl⟩
  obtain ⟨W3,hW3⟩ : ∃ W3,w2.alloc (.cells #[.slice m.sA m.ss.length m.sC,.slice m.fA m.fs.length m.fC,.slice none 0 0,.slice none 0 0,.int .i64 0] 97) = W3 := ⟨_,rfl⟩
  have hb3 : Below w2.heap.size w2 W3 := by rw [← hW3]; exact (Below.refl _ _).alloc (Nat.le_refl _) _
  have hr3 : W3.heap[R]? = some (.cells #[.slice m.sA m.ss.length m.sC,.slice m.fA m.fs.length m.fC,.slice none 0 0,.slice none 0 0,.int .i64 0] 97 (0,0)) := by rw [← hW3,← hRz]; exact alloc_at _ _
  have hbB : Below B w W3 := HB2.out.trans (hb3.mono (by have := HB2.out.size; have := HB.out; omega))
  have hBR : B ≤ R := by have := HB2.out.size; have := HB.out; omega
  have HG0 : Hid (RgB W3 m B R 0 (.slice none 0 0) (.slice none 0 0) [] (initR m) (fun k => if k = R then (5,0,0) else (0,0,0))) := RgB.start HIN.out.mo (by rw [HB.out]; exact Nat.le_refl _) (by rw [HB.out]; exact hbB) hr3 hBR
  have HBB3 := Lib.hid hbB
  have e1 : W3.cell? ⟨B,1,none⟩ = some (.slice m.fA m.fs.length m.fC) := by rw [hb3.cell (p := ⟨B,1,none⟩) (by show B < _; have := HB12.out.size; have := HS1.out; omega)]; exact d1
  have HW3 := Lib.hid hW3
  clear hF0 hW3 hb3 hr3 hbB
  go_upto_region 5 with (fail)
  rw [HW3.out]
  clear d0 d1
  go_wp2_with fail
  clear e1
  go_loopw [23] (fun c wr => OfRI m w B R c wr) (fun c _ => m.fs.length - (intOf c).toNat)
  case atStart => exact ⟨0,_,_,_,_,Nat.zero_le _,rfl,HG0.out,HBB3.out⟩
  case round =>
   obtain ⟨j,vv,fv,rows,tag,hj,rfl,hgm,hbw⟩ := hrel
   by_cases hjn : j < m.fs.length
   ·have hjI : (j : Int) < (m.fs.length : Int) := by omega
    obtain ⟨g,hg⟩ : ∃ g,m.fs[j]? = some g := ⟨_,List.getElem?_eq_getElem hjn⟩
    obtain ⟨p0,p1,p2,p3⟩ := HOK.out.fn g (List.mem_of_getElem? hg)
    obtain ⟨P,hP⟩ : ∃ P : Nat,g.c.par = (P : Int) := ⟨g.c.par.toNat,by omega⟩
    have hPb : P ≤ 300 := by omega
    have HPN : Hid (P = g.c.par.toNat) := by unfold Hid; omega
    obtain ⟨fb,fo,hfA,hfb,hfc⟩ := hgm.inn.frow (by intro e; rw [e] at hjn; simp at hjn)
    have HCA : Hid (∀ k u,g.cells.toList[k]? = some u → wr.cell? ((⟨fb,fo + j * 8,none⟩ : Addr).add k) = some u) := fun k u hu => by rw [Addr.add_lit]; exact hfc j g hg k u hu
    have hnv := (hgm.inn.fin g (List.mem_of_getElem? hg)).nvars
    obtain ⟨N4,hN4⟩ : ∃ N,wr.heap.size = N := ⟨_,rfl⟩
    have hst : ∀ c : Array Value,c.size = 8 → (storeCells ⟨wr.heap.size,0,none⟩ g.cells.toList).run Try.prog (wr.alloc (.cells c 50)) = .ok () (wr.alloc (.cells g.cells 50)) := fun c hc =>
     run_storeCells_new (P := Try.prog) wr 50 c g.cells (by show _ = some 8; kernel_rfl) hc (fnOne g)
    obtain ⟨W4,hW4⟩ : ∃ W4,wr.alloc (.cells g.cells 50) = W4 := ⟨_,rfl⟩
    rw [hW4,hN4] at hst
    have hb4 : Below wr.heap.size wr W4 := by rw [← hW4]; exact (Below.refl _ _).alloc (Nat.le_refl _) _
    have hr4 : W4.heap[N4]? = some (.cells g.cells 50 (0,0)) := by rw [← hW4,← hN4]; exact alloc_at _ _
    have e2 : W4.cell? ⟨N4,2,none⟩ = some (.slice g.c.varsA g.vs.length g.c.varsC) := by rw [cell_of_row _ _ _ _ _ _ hr4,← hnv]; rfl
    have HG4 := Lib.hid (hgm.below hb4)
    have HT4 : Hid (tag N4 = (0,0,0)) := Classical.byContradiction fun h => by have := (hgm.tab.low N4 h).2; omega
    have HR4 := Lib.hid hr4
    have HB4 : Hid (Below B w W4) := hbw.trans (hb4.mono (by have := hbw.size; have := HB.out; omega))
    have HGG := Lib.hid hg
    have hrl : rows.length = j := hgm.n
    have HRL := Lib.hid hrl
    clear hg hgm hbw hfc hW4 hb4 hr4 p0 p1 p3 hrl hnv
    rw [hfA]
    go_upto_region 9 with (first | (refine wpList_load_at rfl 50 _ rfl ⟨fb,fo + j * 8,none⟩ rfl g.cells _ HCA.out Try.underlying50 rfl (by kernel_rfl) ?_))
    clear hst
    go_wp2_with fail
    clear e2 HCA
    go_loopw [8,30] (fun l c w9 => OfRJ m w B R j g P N4 vv fv rows l c w9) (fun _ c _ => g.vs.length - (intOf c).toNat)
    case atStart => exact ⟨0,[],tag,Nat.zero_le _,rfl,rfl,HG4.out,⟨World.ownsRow_nil _ _ _ _,fun u b h => (by simp at h),fun k h => (by simp [Value.ownBlock] at h)⟩,HR4.out,HT4.out,HB4.out⟩
    case round =>
     clear HG4 HR4 HT4 HB4
     obtain ⟨u,locs,tag2,hu,rfl,hl,hgm,hrt,hr4,ht4,hbw⟩ := hrel
     have hN4s : N4 < wr.heap.size := (Array.getElem?_eq_some_iff.1 hr4).1
     by_cases huv : u < g.vs.length
     ·subst hl
      have huI : (locs.length : Int) < (g.vs.length : Int) := by omega
      obtain ⟨x,hx⟩ : ∃ x,g.vs[locs.length]? = some x := ⟨_,List.getElem?_eq_getElem huv⟩
      obtain ⟨vb,vo,hvA,hvb,hvc⟩ := (hgm.inn.fin g (List.mem_of_getElem? HGG.out)).vars (by intro e; rw [e] at huv; simp at huv)
      have HCX : Hid (∀ k w',x.cells.toList[k]? = some w' → wr.cell? ((⟨vb,vo + locs.length * 3,none⟩ : Addr).add k) = some w') := fun k w' hw => by rw [Addr.add_lit]; exact hvc _ x hx k w' hw
      obtain ⟨N5,hN5⟩ : ∃ N,wr.heap.size = N := ⟨_,rfl⟩
      have hone : x.cells.all (·.oneCell') = true := by rw [← Array.all_toList]; simp only [Vr.cells,List.all_cons,List.all_nil]; rfl
      have hst : ∀ c : Array Value,c.size = 3 → (storeCells ⟨wr.heap.size,0,none⟩ x.cells.toList).run Try.prog (wr.alloc (.cells c 47)) = .ok () (wr.alloc (.cells x.cells 47)) := fun c hc =>
       run_storeCells_new (P := Try.prog) wr 47 c x.cells (by show _ = some 3; kernel_rfl) hc hone
      obtain ⟨W5,hW5⟩ : ∃ W5,wr.alloc (.cells x.cells 47) = W5 := ⟨_,rfl⟩
      rw [hW5,hN5] at hst
      have hb5 : Below wr.heap.size wr W5 := by rw [← hW5]; exact (Below.refl _ _).alloc (Nat.le_refl _) _
      have hr5 : W5.heap[N5]? = some (.cells x.cells 47 (0,0)) := by rw [← hW5,← hN5]; exact alloc_at _ _
      have hs5 : W5.heap.size = N5 + 1 := by rw [← hW5]; simp [hN5]
      obtain ⟨q,hq⟩ : ∃ q,(P + 63) / 64 = q := ⟨_,rfl⟩
      have HENC : Hid (∀ b,bitsLeaf.enc b P = .slice (some ⟨b,0,none⟩) q q) := fun b => by rw [← hq]; rfl
      have HNB := Lib.hid (newBits_calls W5 P (by omega))
      rw [hq,hs5] at HNB
      obtain ⟨W6,hW6⟩ : ∃ W6,W5.alloc (.cells (wordCells q (fun _ => 0)) 125) = W6 := ⟨_,rfl⟩
      rw [hW6] at HNB
      have hb56 : Below W5.heap.size W5 W6 := by rw [← hW6]; exact (Below.refl _ _).alloc (Nat.le_refl _) _
      have hs6 : W6.heap.size = N5 + 1 + 1 := by rw [← hW6]; simp [hs5]
      have hr6 : RowW W6 (N5 + 1) q (fun _ => 0) := RowW.of_cells (by rw [← hW6,← hs5]; exact alloc_at _ _)
      have hb6 : Below wr.heap.size wr W6 := hb5.trans (hb56.mono (by omega))
      have n41 : W5.cell? ⟨N4,1,none⟩ = some (.int .i64 (P : Int)) := by rw [hb5.cell (p := ⟨N4,1,none⟩) hN4s,cell_of_row _ _ _ _ _ _ hr4,← hP]; rfl
      have n41' : W6.cell? ⟨N4,1,none⟩ = some (.int .i64 (P : Int)) := by rw [hb6.cell (p := ⟨N4,1,none⟩) hN4s,cell_of_row _ _ _ _ _ _ hr4,← hP]; rfl
      have HLX : Hid (∀ k w',x.cells.toList[k]? = some w' → W6.cell? ((⟨N5,0,none⟩ : Addr).add k) = some w') := fun k w' hw => by
       rw [Addr.add_lit,Nat.zero_add,hb56.cell (p := ⟨N5,k,none⟩) (by show N5 < _; omega),cell_of_row _ _ _ _ _ _ hr5]; simpa using hw
      have x0 : W6.cell? ⟨N5,0,none⟩ = some (.bool x.ptr) := HLX.out 0 _ rfl
      have x1 : W6.cell? ⟨N5,1,none⟩ = some (.string x.tgt) := HLX.out 1 _ rfl
      have x2 : W6.cell? ⟨N5,2,none⟩ = some (.int .i64 x.cls) := HLX.out 2 _ rfl
      have HLENT := Lib.hid (lent19_calls x W6)
      simp only [Vr.cells] at HLENT
      have HOWN : Hid (∀ w7,Below wr.heap.size wr w7 → w7.ownsRow 0 99 1 u8 locs.length (locs.map fun b => bitsLeaf.enc b P)) := fun w7 h7 => ownsRow_below hrt.own h7
      have HNXT : Hid (∀ (w7 w8 : World) (o : Obj) (v8 : Value),Below wr.heap.size wr w7 → N5 + 1 < w7.heap.size → bitsOk w7 (N5 + 1) P (initR m j locs.length) → w8.ownsRow 0 99 1 v8 (locs.length + 1) ((locs.map fun b => bitsLeaf.enc b P) ++ [.slice (some ⟨N5 + 1,0,none⟩) q q]) →
        (w7.alloc o).grownBy w8 u8.ownBlock → (∀ k,v8.ownBlock = some k → u8.ownBlock = some k ∨ (w7.alloc o).heap.size ≤ k) → OfRJ m w B R j g P N4 vv fv rows v8 (.int .i64 ((locs.length : Int) + 1)) w8) := by
       intro w7 w8 o v8 h7 h7s hok7 hown8 hg8 hat8
       rw [← HENC.out] at hown8
       obtain ⟨tag',q1,q2,q3,q4⟩ := hgm.var hrt h7 (by rw [hN5]; omega) h7s hok7 hown8 hg8 hat8
       have hT : ∀ k,u8.ownBlock = some k → tag2 k = (3,j,0) := hrt.tr
       refine ⟨locs.length + 1,locs ++ [N5 + 1],tag',huv,by simp,by simp,q1,q2,q3.heap hr4 (fun hk => by have := hT N4 hk; rw [ht4] at this; simp at this),by rw [q4 N4 hN4s]; exact ht4,hbw.trans (q3.below (by have := hbw.size; have := HB.out; omega) (fun k hk => (hgm.tab.low k (by rw [hT k hk]; simp)).1))⟩
      have HOKN : Hid ((decide ((locs.length : Int) < g.c.par) && x.lent) = false → ∀ w7,RowW w7 (N5 + 1) q (fun _ => 0) → bitsOk w7 (N5 + 1) P (initR m j locs.length)) := fun hc w7 h7 =>
       leaf_none HGG.out (by rw [lentAt_get hx,decide_eq_true huv,Bool.true_and]; exact hc) (by rw [hq]; exact h7)
      have HOKY : Hid (locs.length < P → x.lent = true → ∀ w7,RowW w7 (N5 + 1) q (fun y => if y = locs.length / 64 then 0 ||| 2 ^ (locs.length % 64) else 0) → bitsOk w7 (N5 + 1) P (initR m j locs.length)) := fun h1 h2 w7 h7 =>
       leaf_one HGG.out hP h1 hx h2 (by rw [hq]; exact h7)
      have HR6 := Lib.hid hr6
      have HB6 := Lib.hid hb6
      have HS6 := Lib.hid hs6
      have HW5 := Lib.hid hW5
      have HQ : Hid ((P + 63) / 64 = q) := hq
      have HN5 := Lib.hid hN5
      have hqb : q ≤ 10 := by omega
      obtain ⟨i0,hi0,hi1,hi2,hi3⟩ := info_parts info_bits
      clear hx hvc hone hW5 hb5 hr5 hW6 hb56 hr6 hb6 hgm hrt hr4 ht4 hbw hq hs5 hs6
      rw [hvA]
      go_upto_region 12 with (first | (refine wpList_load_at rfl 47 _ rfl ⟨vb,vo + locs.length * 3,none⟩ rfl x.cells _ HCX.out Try.underlying47 rfl (by kernel_rfl) ?_))
      clear hst HCX
      go_wp2_with fail
      go_at_call 62
      refine HNB.out.mono ?_
      rintro e w6 ⟨rfl,rfl⟩
      clear n41
      by_cases hup : locs.length < P
      ·have hd : decide (locs.length < P) = true := decide_eq_true hup
       cases hxl : x.lent with
       | true =>
        rw [hxl] at HLENT
        have HOKY2 := Lib.hid (HOKY.out hup hxl)
        clear hxl
        go_wp2_with (first
         | (go_at_call 29; refine HLENT.out.mono ?_; rintro e w7 ⟨rfl,hb7⟩; have HB67 := Lib.hid hb7; have HADD := Lib.hid (bitsAdd_calls w7 (N5 + 1) q q locs.length (fun _ => 0) (HR6.out.below hb7 (by rw [HS6.out]; omega)) (fun _ => by decide) (by have := HQ.out; omega) (by omega)); clear hb7)
         | fail)
        go_at_call 63
        refine HADD.out.mono ?_
        rintro e w9 hws
        obtain ⟨rfl,ha1,ha2⟩ := hws
        obtain ⟨w7,hw7⟩ : ∃ w7,w9 = w7 := ⟨_,rfl⟩
        subst hw7
        have HB7 : Hid (Below wr.heap.size wr w9) := (HB6.out.trans (HB67.out.mono HB6.out.size)).trans (ha2.below (by have := HB6.out.size; have := HB67.out.size; omega) (fun k hk => by rw [hk]; have := HN5.out; omega))
        have HS7 : Hid (N5 + 1 < w9.heap.size) := by have := HS6.out; have := HB67.out.size; have := ha2.size; unfold Hid; omega
        have HOK7 := Lib.hid (HOKY2.out w9 ha1)
        clear ha1 ha2
        have HOWN7 := Lib.hid (HOWN.out w9 HB7.out)
        go_wp2_with (at_builtin; refine wpList_append_lies _ rfl (.tmp 49) (.tmp 51) 95 rfl 0 99 i0 (.slice none 0 0) 1 24 Try.underlying95 hi0 hi1 hi2 hi3 rfl (by decide) u8 locs.length (locs.map fun b => bitsLeaf.enc b P) rfl (ownsRow_below HOWN7.out ((Below.refl w9.heap.size w9).alloc (Nat.le_refl _) _)) ⟨w9.heap.size,0,none⟩ 1 1 [.slice (some ⟨N5 + 1,0,none⟩) q q] rfl rfl (cells_new _ _ _) (by simp [Value.oneCell']) (by decide) (by unfold maxLen; omega) (by omega) (Nat.zero_le _) _ rfl ?_; intro g8 cap8 w8 hown8 hgrow8 hat8 hlt8; have HREL := Lib.hid (HNXT.out w9 w8 _ (.slice (some ⟨g8,0,none⟩) (locs.length + 1) cap8) HB7.out HS7.out HOK7.out hown8 hgrow8 (own_at hat8)); clear hown8 hgrow8 hat8 hlt8)
        go_roundw
        case rel => exact HREL.out
        case measure => simp [intOf]; omega
       | false =>
        rw [hxl] at HLENT
        have HOKN2 := Lib.hid (HOKN.out (by rw [hxl,Bool.and_false]))
        clear hxl
        go_wp2_with (first
         | (go_at_call 29; refine HLENT.out.mono ?_; rintro e w7 ⟨rfl,hb7⟩; have HB7 : Hid (Below wr.heap.size wr w7) := HB6.out.trans (hb7.mono HB6.out.size); have HS7 : Hid (N5 + 1 < w7.heap.size) := (by have := HS6.out; have := hb7.size; unfold Hid; omega); have HOK7 := Lib.hid (HOKN2.out w7 (HR6.out.below hb7 (by rw [HS6.out]; omega))); have HOWN7 := Lib.hid (HOWN.out w7 HB7.out); clear hb7)
         | (at_builtin; refine wpList_append_lies _ rfl (.tmp 49) (.tmp 51) 95 rfl 0 99 i0 (.slice none 0 0) 1 24 Try.underlying95 hi0 hi1 hi2 hi3 rfl (by decide) u8 locs.length (locs.map fun b => bitsLeaf.enc b P) rfl (ownsRow_below HOWN7.out ((Below.refl w7.heap.size w7).alloc (Nat.le_refl _) _)) ⟨w7.heap.size,0,none⟩ 1 1 [.slice (some ⟨N5 + 1,0,none⟩) q q] rfl rfl (cells_new _ _ _) (by simp [Value.oneCell']) (by decide) (by unfold maxLen; omega) (by omega) (Nat.zero_le _) _ rfl ?_; intro g8 cap8 w8 hown8 hgrow8 hat8 hlt8; have HREL := Lib.hid (HNXT.out w7 w8 _ (.slice (some ⟨g8,0,none⟩) (locs.length + 1) cap8) HB7.out HS7.out HOK7.out hown8 hgrow8 (own_at hat8)); clear hown8 hgrow8 hat8 hlt8))
        go_roundw
        case rel => exact HREL.out
        case measure => simp [intOf]; omega
      ·have hd : decide (locs.length < P) = false := decide_eq_false hup
       have HB7 := HB6
       have HS7 : Hid (N5 + 1 < w6.heap.size) := by unfold Hid; rw [HS6.out]; omega
       have HOK7 := Lib.hid (HOKN.out (by rw [decide_eq_false (by omega : ¬ (locs.length : Int) < g.c.par)]; rfl) w6 HR6.out)
       have HOWN7 := Lib.hid (HOWN.out w6 HB7.out)
       go_wp2_with (at_builtin; refine wpList_append_lies _ rfl (.tmp 49) (.tmp 51) 95 rfl 0 99 i0 (.slice none 0 0) 1 24 Try.underlying95 hi0 hi1 hi2 hi3 rfl (by decide) u8 locs.length (locs.map fun b => bitsLeaf.enc b P) rfl (ownsRow_below HOWN7.out ((Below.refl w6.heap.size w6).alloc (Nat.le_refl _) _)) ⟨w6.heap.size,0,none⟩ 1 1 [.slice (some ⟨N5 + 1,0,none⟩) q q] rfl rfl (cells_new _ _ _) (by simp [Value.oneCell']) (by decide) (by unfold maxLen; omega) (by omega) (Nat.zero_le _) _ rfl ?_; intro g8 cap8 w8 hown8 hgrow8 hat8 hlt8; have HREL := Lib.hid (HNXT.out w6 w8 _ (.slice (some ⟨g8,0,none⟩) (locs.length + 1) cap8) HB7.out HS7.out HOK7.out hown8 hgrow8 (own_at hat8)); clear hown8 hgrow8 hat8 hlt8)
       go_roundw
       case rel => exact HREL.out
       case measure => simp [intOf]; omega
     ·have hle : locs.length = g.vs.length := by omega
      have hrl : rows.length ≤ 60 := by have := HRL.out; omega
      obtain ⟨ao8,c8,he8⟩ := ownsRow_slice hrt.own
      subst he8
      have r2 : wr.cell? ⟨R,2,none⟩ = some vv := by rw [cell_of_row _ _ _ _ _ _ hgm.rec_]; rfl
      have HOV : Hid (wr.ownsRow 0 95 1 vv rows.length (rows.map FR.tv)) := hgm.tab.vars
      have hTV : ∀ k,vv.ownBlock = some k → tag2 k = (1,0,0) := hgm.tab.tv
      have HR5 : Hid (∀ w5,Ext (fun k => vv.ownBlock = some k) wr w5 → w5.cell? ⟨R,2,none⟩ = some vv ∧ w5.frozen? ⟨R,2,none⟩ = false) := by
       intro w5 h5
       have h6 := h5.heap hgm.rec_ (fun hk => by have := hTV R hk; rw [hgm.tR] at this; simp at this)
       exact ⟨by rw [cell_of_row _ _ _ _ _ _ h6]; rfl,frozen_of_row _ _ _ _ _ h6⟩
      have HG := Lib.hid hgm
      have HRT := Lib.hid hrt
      have HR4 := Lib.hid hr4
      have HT4 := Lib.hid ht4
      have HBW := Lib.hid hbw
      have HLE := Lib.hid hle
      have HTV := Lib.hid hTV
      obtain ⟨i1,hj0,hj1,hj2,hj3⟩ := info_parts info_bitss
      obtain ⟨i0,hi0,hi1,hi2,hi3⟩ := info_parts info_bits
      clear hgm hrt hr4 ht4 hbw hle hl hTV
      go_wp2_with (at_builtin; refine wpList_append_lies _ rfl (.tmp 58) (.tmp 60) 94 rfl 0 95 i1 (.slice none 0 0) 1 24 Try.underlying94 hj0 hj1 hj2 hj3 rfl (by decide) vv rows.length (rows.map FR.tv) rfl (ownsRow_below HOV.out ((Below.refl wr.heap.size wr).alloc (Nat.le_refl _) _)) ⟨wr.heap.size,0,none⟩ 1 1 [.slice ao8 locs.length c8] rfl rfl (cells_new _ _ _) (by simp [Value.oneCell']) (by decide) (by unfold maxLen; omega) (by omega) (Nat.zero_le _) _ rfl ?_; intro g5 cap5 w5 hown5 hgrow5 hat5 hlt5; obtain ⟨z2,f2⟩ := HR5.out w5 (ext_grown ((Ext.refl _ _).alloc _) hgrow5); have HO5 := Lib.hid hown5; have HW5 := Lib.hid hgrow5; have HA5 := Lib.hid hat5; clear hown5 hgrow5 hat5 hlt5)
      obtain ⟨W6,hW6⟩ : ∃ W6,w5.setCell ⟨R,2,none⟩ (.slice (some ⟨g5,0,none⟩) (rows.length + 1) cap5) = W6 := ⟨_,rfl⟩
      rw [hW6]
      have hx5 : Ext (fun k => vv.ownBlock = some k) wr w5 := ext_grown ((Ext.refl _ _).alloc _) HW5.out
      have hx6 : Ext (fun k => vv.ownBlock = some k ∨ k = R) wr W6 := by
       rw [← hW6]; exact (hx5.mono (M' := fun k => vv.ownBlock = some k ∨ k = R) (fun _ h => .inl h)).trans (Ext.set1 _ _ _ _) (fun k hk => .inl (.inr hk))
      have hT12 : ∀ k,(vv.ownBlock = some k ∨ k = R) → tag2 k ≠ (2,0,0) ∧ tag2 k ≠ (0,0,0) := by
       rintro k (hk | hk)
       ·rw [HTV.out k hk]; simp
       ·rw [hk,HG.out.tR]; simp
      have HOF : Hid (W6.ownsRow 0 99 1 fv rows.length (rows.map fun r => bitsLeaf.enc r.fl r.P)) := own_tag HG.out.tab.from_ hx6 HG.out.tab.tf (fun k hk _ => (hT12 k hk).1)
      have s3 : W6.cell? ⟨R,3,none⟩ = some fv := by
       have h1 := hx5.heap HG.out.rec_ (fun hk => by have := HTV.out R hk; rw [HG.out.tR] at this; simp at this)
       have h2 := heap_setCell_same w5 R 2 _ _ (.slice (some ⟨g5,0,none⟩) (rows.length + 1) cap5) h1
       rw [hW6] at h2
       rw [cell_of_row _ _ _ _ _ _ h2]; rfl
      have s4 : W6.cell? ⟨N4,1,none⟩ = some (.int .i64 (P : Int)) := by
       have h1 := hx6.heap HR4.out (fun hk => (hT12 N4 hk).2 HT4.out)
       rw [cell_of_row _ _ _ _ _ _ h1,← hP]; rfl
      have HR8 : Hid (∀ w8,Ext (fun k => fv.ownBlock = some k) W6 w8 → w8.cell? ⟨R,3,none⟩ = some fv ∧ w8.frozen? ⟨R,3,none⟩ = false) := by
       intro w8 h8
       have h1 := hx5.heap HG.out.rec_ (fun hk => by have := HTV.out R hk; rw [HG.out.tR] at this; simp at this)
       have h2 := heap_setCell_same w5 R 2 _ _ (.slice (some ⟨g5,0,none⟩) (rows.length + 1) cap5) h1
       rw [hW6] at h2
       have h3 := h8.heap h2 (fun hk => by have := HG.out.tab.tf R hk; rw [HG.out.tR] at this; simp at this)
       exact ⟨by rw [cell_of_row _ _ _ _ _ _ h3]; rfl,frozen_of_row _ _ _ _ _ h3⟩
      obtain ⟨nb,hnb⟩ : ∃ nb,W6.heap.size = nb := ⟨_,rfl⟩
      have hs65 : W6.heap.size = w5.heap.size := by rw [← hW6]; exact World.size_setCell _ _ _
      have hs5r := hx5.size
      obtain ⟨q,hq⟩ : ∃ q,(P + 63) / 64 = q := ⟨_,rfl⟩
      have HENC : Hid (∀ b,bitsLeaf.enc b P = .slice (some ⟨b,0,none⟩) q q) := fun b => by rw [← hq]; rfl
      have HNB := Lib.hid (newBits_calls W6.drew P (by omega))
      have hsd : W6.drew.heap.size = nb := hnb
      rw [hq,hsd] at HNB
      obtain ⟨W7,hW7⟩ : ∃ W7,W6.drew.alloc (.cells (wordCells q (fun _ => 0)) 125) = W7 := ⟨_,rfl⟩
      rw [hW7] at HNB
      have hb7 : Below W6.heap.size W6 W7 := by rw [← hW7]; exact ((Below.refl _ _).drew).alloc (Nat.le_refl _) _
      have hs7 : W7.heap.size = nb + 1 := by rw [← hW7]; simp [hnb]
      have hr7 : RowW W7 nb q (fun _ => 0) := RowW.of_cells (by rw [← hW7,← hsd]; exact alloc_at _ _)
      have hok7 : bitsOk W7 nb P (initR m j locs.length) := leaf_none HGG.out (by rw [HLE.out,decide_eq_false (Nat.lt_irrefl _)]; simp) (by rw [hq]; exact hr7)
      have HOF7 : Hid (W7.ownsRow 0 99 1 fv rows.length (rows.map fun r => bitsLeaf.enc r.fl r.P)) := ownsRow_below HOF.out hb7
      obtain ⟨S,hS⟩ : ∃ S : World → Prop,S = fun w' => w'.cell? ⟨R,3,none⟩ = some fv ∧ w'.cell? ⟨N4,1,none⟩ = some (.int .i64 (P : Int)) := ⟨_,rfl⟩
      have HSS : Hid (∀ w',S w' → w'.cell? ⟨R,3,none⟩ = some fv ∧ w'.cell? ⟨N4,1,none⟩ = some (.int .i64 (P : Int))) := fun w' h => by rw [hS] at h; exact h
      have hlow4 : N4 < W6.heap.size ∧ R < W6.heap.size := ⟨by have := (Array.getElem?_eq_some_iff.1 HR4.out).1; omega,by have := HG.out.low.2; omega⟩
      have HSM : Hid (∀ w',Ext (fun k => fv.ownBlock = some k) W6 w' → S w') := fun w' h => by
       rw [hS]
       refine ⟨(HR8.out w' h).1,?_⟩
       rw [h.cell (a := ⟨N4,1,none⟩) hlow4.1 (fun hk => by have := HG.out.tab.tf N4 hk; rw [HT4.out] at this; simp at this)]
       exact s4
      have HFIN : Hid (∀ (g8 cap8 : Nat) (w8 : World),w8.ownsRow 0 99 1 (.slice (some ⟨g8,0,none⟩) (rows.length + 1) cap8) (rows.length + 1) ((rows.map fun r => bitsLeaf.enc r.fl r.P) ++ [.slice (some ⟨nb,0,none⟩) q q]) →
        (W7.alloc (.cells #[.slice (some ⟨nb,0,none⟩) q q] 99)).grownBy w8 fv.ownBlock → (fv.ownBlock = some g8 ∨ g8 = (W7.alloc (.cells #[.slice (some ⟨nb,0,none⟩) q q] 99)).heap.size) → OfRI m w B R (.int .i64 ((j : Int) + 1)) (w8.setCell ⟨R,3,none⟩ (.slice (some ⟨g8,0,none⟩) (rows.length + 1) cap8))) := by
       intro g8 cap8 w8 hown8 hg8 hat8
       rw [← HENC.out] at hown8
       have h7' : Below (w5.setCell ⟨R,2,none⟩ (.slice (some ⟨g5,0,none⟩) (rows.length + 1) cap5)).heap.size (w5.setCell ⟨R,2,none⟩ (.slice (some ⟨g5,0,none⟩) (rows.length + 1) cap5)) W7 := by rw [hW6]; exact hb7
       obtain ⟨tag',q1,q2⟩ := HG.out.func HRT.out HGG.out HPN.out HLE.out HO5.out HW5.out (own_at HA5.out) h7' (by omega : w5.heap.size ≤ nb) (by omega : nb < W7.heap.size) hok7 hown8 hg8 (own_at hat8)
       refine ⟨j + 1,_,_,_,tag',hjn,by simp,q1,HBW.out.trans (q2.below (by have := HBW.out.size; have := HB.out; omega) (fun k hk => (HG.out.tab.low k hk).1))⟩
      have hS0 : S W6.drew := HSM.out _ (Ext.refl _ _).drew
      have HX67 : Hid (Ext (fun k => fv.ownBlock = some k) W6 W7) := Ext.of_below_size hb7
      have HS7 : Hid (W7.heap.size = nb + 1) := hs7
      clear hW6 hx5 hx6 hT12 s3 s4 hnb hs65 hs5r hq hsd hW7 hb7 hs7 hr7 hok7 hS hlow4 z2 f2 r2 HR5 HOV HW5 HO5 HA5 HR4 HT4 HRT HLE HENC hj0 hj1 hj2 hj3 hrl
      have hrl : rows.length ≤ 60 := by have := HRL.out; omega
      refine wp_region_K 12 S (by kernel_rfl) ?_
      refine wpAnyK_take (i := 0) rfl (by kernel_rfl) (by kernel_rfl) (by kernel_rfl) (by kernel_rfl) (fun _ _ _ h => h) (Or.inl ⟨by rfl,fun w hSw => by obtain ⟨s1,s2⟩ := HSS.out w hSw; go_simp; rfl⟩) (by assumption) ?_
      try go_simp
      refine wpAnyK_take (i := 1) rfl (by kernel_rfl) (by kernel_rfl) (by kernel_rfl) (by kernel_rfl) (fun _ _ _ h => h) (Or.inl ⟨by rfl,fun w hSw => by obtain ⟨s1,s2⟩ := HSS.out w hSw; go_simp; rfl⟩) (by assumption) ?_
      try go_simp
      refine wpAnyK_take (i := 2) rfl (by kernel_rfl) (by kernel_rfl) (by kernel_rfl) (by kernel_rfl) (fun _ _ _ h => h) (Or.inl ⟨by rfl,fun w hSw => by obtain ⟨s1,s2⟩ := HSS.out w hSw; go_simp; rfl⟩) (by assumption) ?_
      try go_simp
      refine wpAnyK_take (i := 3) rfl (by kernel_rfl) (by kernel_rfl) (by kernel_rfl) (by kernel_rfl) (fun _ _ _ h => h) (Or.inl ⟨by rfl,fun w hSw => by obtain ⟨s1,s2⟩ := HSS.out w hSw; go_simp; rfl⟩) (by assumption) ?_
      try go_simp
      refine wpAnyK_take (i := 4) rfl (by kernel_rfl) (by kernel_rfl) (by kernel_rfl) (by kernel_rfl) (fun _ _ _ h => h) (Or.inl ⟨by rfl,fun w hSw => by obtain ⟨s1,s2⟩ := HSS.out w hSw; go_simp; rfl⟩) (by assumption) ?_
      try go_simp
      refine wpAnyK_take (i := 5) rfl (by kernel_rfl) (by kernel_rfl) (by kernel_rfl) (by kernel_rfl) (fun _ _ _ h => h) (Or.inl ⟨by rfl,fun w hSw => by obtain ⟨s1,s2⟩ := HSS.out w hSw; go_simp; rfl⟩) (by assumption) ?_
      try go_simp
      refine wpAnyK_take (i := 6) rfl (by kernel_rfl) (by kernel_rfl) (by kernel_rfl) (by kernel_rfl) (fun _ _ _ h => h) (Or.inl ⟨by rfl,fun w hSw => by obtain ⟨s1,s2⟩ := HSS.out w hSw; go_simp; rfl⟩) (by assumption) ?_
      try go_simp
      refine wpAnyK_one (i := 7) (by kernel_rfl) rfl fun K' hK => ?_
      rw [if_pos (by rfl)]
      go_simp
      go_at_call 62
      refine HNB.out.mono ?_
      rintro e w7 ⟨rfl,rfl⟩
      have hS7 : S w7 := HSM.out _ HX67.out
      refine hK _ _ (fun _ => hS7) ?_
      clear hK
      try go_simp
      have hS7a : S (w7.alloc (.cells #[.slice (some ⟨nb,0,none⟩) q q] 99)) := HSM.out _ (HX67.out.alloc _)
      refine wpAnyK_run (i := 8) (v := .slice (some ⟨w7.heap.size,0,none⟩) 1 1) (w' := w7.alloc (.cells #[.slice (some ⟨nb,0,none⟩) q q] 99)) (by kernel_rfl) rfl (by rfl) (Or.inl (by go_simp)) (fun _ => hS7a) ?_
      try go_simp
      refine wpAnyK_one (i := 9) (by kernel_rfl) rfl fun K' hK => ?_
      rw [if_pos (by rfl)]
      refine wp_append_lies _ (.tmp 68) (.tmp 72) 95 rfl 0 99 i0 (.slice none 0 0) 1 24 Try.underlying95 hi0 hi1 hi2 hi3 rfl (by decide) fv rows.length (rows.map fun r => bitsLeaf.enc r.fl r.P) rfl (ownsRow_below HOF7.out ((Below.refl w7.heap.size w7).alloc (Nat.le_refl _) _)) ⟨w7.heap.size,0,none⟩ 1 1 [.slice (some ⟨nb,0,none⟩) q q] rfl rfl (cells_new _ _ _) (by simp [Value.oneCell']) (by decide) (by unfold maxLen; omega) (by omega) (Nat.zero_le _) _ rfl fun g8 cap8 w8 hown8 hgrow8 hat8 hlt8 => ?_
      have hx8 : Ext (fun k => fv.ownBlock = some k) W6 w8 := HX67.out.trans (ext_grown ((Ext.refl _ _).alloc _) hgrow8) (fun k hk => .inl hk)
      have hS8 : S w8 := HSM.out _ hx8
      obtain ⟨y3,y4⟩ := HR8.out w8 hx8
      have HREL := Lib.hid (HFIN.out g8 cap8 w8 hown8 hgrow8 hat8)
      refine hK _ _ (fun _ => hS8) ?_
      clear hK hx8 hown8 hgrow8 hat8 hlt8
      try go_simp
      refine wpAnyK_run (i := 10) (v := .pointer (some ⟨R,0,none⟩)) (w' := w8) (by kernel_rfl) rfl (by rfl) (Or.inl (by go_simp)) (fun _ => hS8) ?_
      try go_simp
      refine wpAnyK_run (i := 11) (v := .pointer (some ⟨R,3,none⟩)) (w' := w8) (by kernel_rfl) rfl (by rfl) (Or.inl (by go_simp)) (fun _ => hS8) ?_
      try go_simp
      refine wpAnyK_run (i := 12) (v := undef) (w' := w8.setCell ⟨R,3,none⟩ (.slice (some ⟨g8,0,none⟩) (rows.length + 1) cap8)) (by kernel_rfl) rfl (by rfl) (Or.inr ⟨by go_simp,rfl⟩) (fun h => absurd rfl h) ?_
      try go_simp
      refine wpAnyK_done (by kernel_rfl) ?_ _
      clear hS0 hS7 hS7a hS8 y3 y4 hi0 hi1 hi2 hi3
      go_wp2
      go_roundw
      case rel => exact HREL.out
      case measure => simp [intOf]; omega
   ·have hje : j = m.fs.length := by omega
    rw [hje] at hgm
    have HG : Hid (RgM wr m B R vv fv rows (roundsR m 0) tag ((0 : Nat) : Int)) := hgm.done
    have HBW := Lib.hid hbw
    clear hgm hbw hje
    go_wp2_with fail
    go_step3
    go_wp2_with fail
    go_loopg [] (m.lack (roundsR m 0)) (fun mm wo => OfRK m w B R vv fv rows tag mm wo)
    case atStart => exact ⟨0,rfl,by omega,HG.out,fun i hi => absurd hi (Nat.not_lt_zero _),HBW.out⟩
    case round =>
     clear HG HBW
     obtain ⟨k,rfl,hk,hgm,hall,hb⟩ := hrel
     have hlk := lack_le HOK.out (roundsR m 0)
     have HRC := Lib.hid (round_calls wr m B R vv fv rows (roundsR m k) tag k hgm HOK.out (by omega))
     obtain ⟨PS,hPS⟩ : ∃ PS,passR m (roundsR m k) = PS := ⟨_,rfl⟩
     rw [hPS] at HRC
     have HPS := Lib.hid hPS
     have HALL : Hid (∀ i,i < k → (passR m (roundsR m i)).is = true) := Lib.hid hall
     have HBW := Lib.hid hb
     have HLOW : Hid (∀ i,turnR tag R i → B ≤ i) := by
      rintro i (⟨f,u,e⟩ | e)
      ·exact (hgm.tab.low i (by rw [e]; simp)).1
      ·rw [e]; exact (hgm.tab.low R (by rw [hgm.tR]; simp)).1
     have HKL := Lib.hid hk
     have hkb : k ≤ 5418000 := by omega
     clear hPS hgm hall hb hk
     go_wp2_with fail
     go_at_call 64
     refine HRC.out.mono ?_
     rintro e w6 hr
     obtain ⟨e1,h2,h3⟩ := hr
     subst e1
     have HX : roundsR m (k + 1) = PS.x := by show (passR m (roundsR m k)).x = PS.x; rw [HPS.out]
     have HG6 : Hid (RgM w6 m B R vv fv rows (roundsR m (k + 1)) tag ((k + 1 : Nat) : Int)) := by
      unfold Hid; rw [HX,Int.natCast_add]; exact h2
     have HB6 : Hid (Below B w w6) := HBW.out.trans (h3.below (by have := HBW.out.size; have := HB.out; omega) HLOW.out)
     clear h2 h3 HX
     cases his : PS.is with
     | true =>
      have HL : Hid (m.lack (roundsR m (k + 1)) < m.lack (roundsR m k)) := passR_less m (roundsR m k) (by rw [HPS.out]; exact his)
      have HALL2 : Hid (∀ i,i < k + 1 → (passR m (roundsR m i)).is = true) := by
       intro i hi
       rcases Nat.lt_or_ge i k with h | h
       ·exact HALL.out i h
       ·have : i = k := by omega
        rw [this,HPS.out]; exact his
      clear his
      go_wp2
      go_roundg (m.lack (roundsR m (k + 1)))
      case measure => exact HL.out
      case rel => exact ⟨k + 1,rfl,by have := HL.out; have := HKL.out; omega,HG6.out,HALL2.out,HB6.out⟩
     | false =>
      have HFIN : Hid (OfP m w (.returned (.tuple #[.pointer (some ⟨R,0,none⟩),.int .i64 0])) w6) := .inr ⟨HF0.out,R,vv,fv,rows,tag,k,rfl,by rw [HB.out]; exact HG6.out,⟨by rw [HPS.out]; exact his,HALL.out⟩,hkb,by rw [HB.out]; exact HB6.out⟩
      clear his
      go_wp2
      go_ret2
      exact HFIN.out
 ·have hFb : (F != 0) = true := by rw [bne_iff_ne]; exact hF0
  have HFIN : Hid (OfP m w (.returned (.tuple #[.pointer none,.int .i64 F])) w2) := .inl ⟨by rw [HF.out]; exact hF0,by rw [HF.out],by rw [HB.out]; exact HB2.out⟩
  clear hF0
  go_wp2
  go_ret2
  exact HFIN.out
end Go.Proofs.Ytlggjbopfnndbaa
