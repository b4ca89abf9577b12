import Derived.Test.YtlggjbopfnndbaaG25
import Derived.Test.YtlggjbopfnndbaaRegC
import Derived.Test.YtlggjbopfnndbaaG36
import Derived.Test.YtlggjbopfnndbaaG19
namespace Go.Proofs.Ytlggjbopfnndbaa
open Go.RowKit
def boolRow (P : Nat) (x : Nat → Bool) : Array Value := ((List.range P).map fun n => Value.bool (x n)).toArray
def boolsOk (w : World) (b P : Nat) (x : Nat → Bool) : Prop := w.heap[b]? = some (.cells (boolRow P x) 4 (0,0))
theorem boolRow_congr {P : Nat} {x y : Nat → Bool} (e : ∀ n,n < P → x n = y n) : boolRow P x = boolRow P y := by
 unfold boolRow
 congr 1
 exact List.map_congr_left fun n hn => by rw [e n (List.mem_range.1 hn)]
theorem boolRow_get {P n : Nat} (x : Nat → Bool) (h : n < P) : (boolRow P x)[n]? = some (.bool (x n)) := by
 unfold boolRow; simp [h]
theorem boolRow_set {P i : Nat} (x : Nat → Bool) (v : Bool) : (boolRow P x).setIfInBounds i (.bool v) = boolRow P (fun n => if n = i then v else x n) := by
 refine Array.ext_getElem? fun k => ?_
 rw [Array.getElem?_setIfInBounds]
 have hs : (boolRow P x).size = P := by unfold boolRow; simp
 by_cases hk : k < P
 ·rw [boolRow_get _ hk,boolRow_get _ hk,hs]
  by_cases e : i = k
  ·rw [if_pos e,if_pos (by omega),if_pos e.symm]
  ·rw [if_neg e,if_neg (fun h => e h.symm)]
 ·have h1 : ∀ y : Nat → Bool,(boolRow P y)[k]? = none := fun y => by rw [Array.getElem?_eq_none]; unfold boolRow; simp; omega
  rw [h1,h1,hs]
  by_cases e : i = k
  ·rw [if_pos e,if_neg (by omega)]
  ·rw [if_neg e]
theorem boolsOk.cell {w : World} {b P n : Nat} {x : Nat → Bool} (h : boolsOk w b P x) (hn : n < P) : w.cell? ⟨b,n,none⟩ = some (.bool (x n)) := by
 rw [cell_of_row _ _ _ _ _ _ h]; exact boolRow_get x hn
theorem boolsOk.lt {w : World} {b P : Nat} {x : Nat → Bool} (h : boolsOk w b P x) : b < w.heap.size := (Array.getElem?_eq_some_iff.1 h).1
def boolLeaf : Leaf where
 enc b P := .slice (some ⟨b,0,none⟩) P P
 ok := boolsOk
 keep := fun h e => by unfold boolsOk at h ⊢; rw [e]; exact h
 lt := fun h => (Array.getElem?_eq_some_iff.1 h).1
 congr := fun h e => by unfold boolsOk at h ⊢; rw [← boolRow_congr e]; exact h
 one := fun _ _ => rfl
theorem anyR_succ (p : Nat → Bool) (i : Nat) : ((List.range (i + 1)).any p) = ((List.range i).any p || p i) := by
 rw [List.range_succ,List.any_append]; simp
set_option maxRecDepth 100000 in
set_option maxHeartbeats 4000000 in
theorem rjoin_calls (w : World) (b c P : Nat) (x z : Nat → Bool) (hx : boolsOk w b P x) (hz : boolsOk w c P z) (hP : P ≤ 90000) :
  Calls Try.prog 112 #[boolLeaf.enc b P,boolLeaf.enc c P] w (Joined boolLeaf w b P x z) := by
 show Calls _ _ #[.slice (some ⟨b,0,none⟩) P P,.slice (some ⟨c,0,none⟩) P P] w _
 have HPOST : Hid (∀ w' t,t = newB P x z → boolsOk w' b P (fun n => x n || z n) → Ext (· = b) w w' → Joined boolLeaf w b P x z (.returned (.bool t)) w') := fun w' t h0 h1 h2 => ⟨by rw [h0],h1,h2⟩
 have HNB : Hid (newB P x z = (List.range P).any fun n => z n && !x n) := rfl
 have HSAME : Hid (c = b → ∀ i,i < P → z i = x i) := by
  rintro rfl i hi
  have h1 := (hx.cell hi).symm.trans (hz.cell hi)
  have h2 : x i = z i := by simpa using h1
  exact h2.symm
 have HX := Lib.hid hx
 have HZ := Lib.hid hz
 clear hx hz
 go_enter Try.func112,Try.ntmps112
 go_wp2_with fail
 go_loopw [5,6] (fun s k wr => ∃ i : Nat,i ≤ P ∧ k = .int .i64 (i : Int) ∧ s = .bool ((List.range i).any fun n => z n && !x n) ∧ boolsOk wr b P (fun n => if n < i then x n || z n else x n) ∧ Ext (· = b) w wr) (fun _ k _ => P - (intOf k).toNat)
 case atStart => exact ⟨0,Nat.zero_le _,rfl,rfl,by
  have := HX.out
  unfold boolsOk at this ⊢
  rw [boolRow_congr (y := x) (fun n _ => by rw [if_neg (Nat.not_lt_zero n)])]; exact this,Ext.refl _ _⟩
 case round =>
  obtain ⟨i,hi,rfl,rfl,hrow,hext⟩ := hrel
  have HROW := Lib.hid hrow
  have HEXT := Lib.hid hext
  by_cases hil : i < P
  ·have hiI : (i : Int) < (P : Int) := by omega
   have c0 : wr.cell? ⟨b,i,none⟩ = some (.bool (x i)) := by
    rw [hrow.cell hil,if_neg (by omega)]
   have f0 := frozen_of_row _ _ i _ _ hrow
   have c1 : wr.cell? ⟨c,i,none⟩ = some (.bool (z i)) := by
    by_cases e : c = b
    ·rw [e,c0,HSAME.out e i hil]
    ·have h1 : wr.heap[c]? = w.heap[c]? := hext.block c HZ.out.lt (by exact e)
     have h2 : wr.cell? ⟨c,i,none⟩ = w.cell? ⟨c,i,none⟩ := World.cell?_of_block (w := w) h1
     rw [h2]; exact HZ.out.cell hil
   obtain ⟨xi,hxi⟩ : ∃ t,x i = t := ⟨_,rfl⟩
   obtain ⟨zi,hzi⟩ : ∃ t,z i = t := ⟨_,rfl⟩
   obtain ⟨s,hs⟩ : ∃ s,((List.range i).any fun n => z n && !x n) = s := ⟨_,rfl⟩
   have HN : Hid (((List.range (i + 1)).any fun n => z n && !x n) = (s || (zi && !xi))) := by unfold Hid; rw [anyR_succ,hs,hzi,hxi]
   have HNX : Hid (∀ v,v = (xi || zi) → boolsOk (wr.setCell ⟨b,i,none⟩ (.bool v)) b P (fun n => if n < i + 1 then x n || z n else x n) ∧ Ext (· = b) w (wr.setCell ⟨b,i,none⟩ (.bool v))) := by
    intro v hv
    refine ⟨?_,HEXT.out.trans (Ext.set1 _ _ _ _) (fun _ h => .inl h)⟩
    have h1 := heap_setCell_same wr b i _ _ (.bool v) HROW.out
    unfold boolsOk
    rw [h1,boolRow_set]
    congr 2
    refine boolRow_congr fun n _ => ?_
    by_cases e : n = i
    ·rw [if_pos e,if_pos (by omega),e,hxi,hzi,hv]
    ·rw [if_neg e]
     by_cases h : n < i
     ·rw [if_pos h,if_pos (by omega)]
     ·rw [if_neg h,if_neg (by omega)]
   rw [hxi] at c0
   rw [hzi] at c1
   rw [hs]
   clear hrow hext hxi hzi hs
   cases s <;> cases zi <;> cases xi
   all_goals
    go_wp2
    go_roundw
    case rel => exact ⟨i + 1,by omega,by go_num,by rw [HN.out]; rfl,HNX.out _ rfl⟩
    case measure => simp [intOf]; omega
  ·have hie : i = P := by omega
   subst hie
   have HR : Hid (boolsOk wr b i (fun n => x n || z n)) := by
    unfold Hid boolsOk
    rw [← boolRow_congr (x := fun n => if n < i then x n || z n else x n) (fun n hn => by rw [if_pos hn])]; exact hrow
   obtain ⟨s,hs⟩ : ∃ s,((List.range i).any fun n => z n && !x n) = s := ⟨_,rfl⟩
   have HS := Lib.hid hs
   rw [hs]
   clear hrow hext hs
   go_wp2
   go_ret
   exact HPOST.out _ _ (by rw [HNB.out,HS.out]) HR.out HEXT.out
end Go.Proofs.Ytlggjbopfnndbaa
namespace Go.Proofs.Ytlggjbopfnndbaa
open Go.RowKit
structure RqM (w : World) (m : Mo) (B R : Nat) (vv fv : Value) (rows : List FR) (x : Nat → Nat → Nat → Bool) (tag : Tag) (rn : Int) : Prop where
 mod : ∃ w0 : World,m.inn w0 ∧ w0.heap.size ≤ B ∧ Below w0.heap.size w0 w
 rec_ : w.heap[R]? = some (.cells #[vv,fv,.int .i64 rn] 67 (0,0))
 tab : RegT boolLeaf 65 70 B w vv fv rows x tag
 tR : tag R = (5,0,0)
 fit : ∀ (f : Nat) (r : FR) (g : Fn),rows[f]? = some r → m.fs[f]? = some g → r.P = g.c.par.toNat ∧ r.locs.length = g.vs.length
 n : rows.length = m.fs.length
section
variable {w w' : World} {m : Mo} {B R : Nat} {vv fv : Value} {rows : List FR} {x y : Nat → Nat → Nat → Bool} {tag : Tag} {rn : Int}
theorem RqM.inn (h : RqM w m B R vv fv rows x tag rn) : m.inn w := by
 obtain ⟨w0,h1,_,h2⟩ := h.mod
 exact h1.below h2
theorem RqM.below (h : RqM w m B R vv fv rows x tag rn) (hb : Below w.heap.size w w') : RqM w' m B R vv fv rows x tag rn := by
 obtain ⟨w0,h1,h3,h2⟩ := h.mod
 exact ⟨⟨w0,h1,h3,h2.trans (hb.mono h2.size)⟩,(hb.block R (Array.getElem?_eq_some_iff.1 h.rec_).1).trans h.rec_,h.tab.below hb,h.tR,h.fit,h.n⟩
theorem RqM.set (h : RqM w m B R vv fv rows x tag rn) {f u : Nat} {r : FR} (hr : rows[f]? = some r) (hu : u ≤ r.locs.length) (hx : Ext (· = r.at_ u) w w') (hy : boolLeaf.ok w' (r.at_ u) r.P (y f u)) (he : ∀ g v,¬ (g = f ∧ v = u) → ∀ n,y g v n = x g v n) : RqM w' m B R vv fv rows y tag rn := by
 obtain ⟨w0,h1,h3,h2⟩ := h.mod
 have ht := (h.tab.leaf hr hu).2
 have hl := (h.tab.low (r.at_ u) (by rw [ht]; simp)).1
 exact ⟨⟨w0,h1,h3,h2.trans (hx.below h2.size (fun k hk => by rw [hk]; omega))⟩,hx.heap h.rec_ (fun e => by have := h.tR; rw [e,ht] at this; simp at this),h.tab.set hr hu hx hy he,h.tR,h.fit,h.n⟩
theorem RqM.row (h : RqM w m B R vv fv rows x tag rn) {f : Nat} {g : Fn} (hg : m.fs[f]? = some g) : ∃ r,rows[f]? = some r ∧ r.P = g.c.par.toNat ∧ r.locs.length = g.vs.length := by
 have hf : f < rows.length := by rw [h.n]; exact (List.getElem?_eq_some_iff.1 hg).1
 obtain ⟨r,hr⟩ : ∃ r,rows[f]? = some r := ⟨_,List.getElem?_eq_getElem hf⟩
 exact ⟨r,hr,h.fit f r g hr hg⟩
structure RqAt (W : World) (R VA FA cv cf T ct f nv P : Nat) (nr : Nat) (at_ : Nat → Nat) : Prop where
 c0 : W.cell? ⟨R,0,none⟩ = some (.slice (some ⟨VA,0,none⟩) nr cv)
 c1 : W.cell? ⟨R,1,none⟩ = some (.slice (some ⟨FA,0,none⟩) nr cf)
 kv : W.cell? ⟨VA,f,none⟩ = some (.slice (some ⟨T,0,none⟩) nv ct)
 kf : W.cell? ⟨FA,f,none⟩ = some (.slice (some ⟨at_ nv,0,none⟩) P P)
 ku : ∀ u,u < nv → W.cell? ⟨T,u,none⟩ = some (.slice (some ⟨at_ u,0,none⟩) P P)
theorem RqM.cells (h : RqM w m B R vv fv rows x tag rn) {f : Nat} {g : Fn} {r : FR} (hg : m.fs[f]? = some g) (hr : rows[f]? = some r) (hne : 0 < g.vs.length) : ∃ VA FA cv cf T ct,∀ W y,RqM W m B R vv fv rows y tag rn → RqAt W R VA FA cv cf T ct f g.vs.length g.c.par.toNat m.fs.length r.at_ := by
 obtain ⟨hP,hL⟩ := h.fit f r g hr hg
 obtain ⟨VA,FA,cv,cf,e1,e2,_⟩ := h.tab.fn hr
 obtain ⟨T,ct,e3,_⟩ := h.tab.var hr (u := 0) (by rw [hL]; exact hne)
 refine ⟨VA,FA,cv,cf,T,ct,fun W y hq => ?_⟩
 obtain ⟨VA',FA',cv',cf',d1,d2,_,_,kv,kf⟩ := hq.tab.fn hr
 rw [e1] at d1
 rw [e2] at d2
 simp only [Value.slice.injEq,Option.some.injEq,Addr.mk.injEq] at d1 d2
 obtain ⟨⟨rfl,_⟩,_,rfl⟩ := d1
 obtain ⟨⟨rfl,_⟩,_,rfl⟩ := d2
 refine ⟨?_,?_,?_,?_,fun u hu => ?_⟩
 ·rw [cell_of_row _ _ _ _ _ _ hq.rec_,e1,h.n]; rfl
 ·rw [cell_of_row _ _ _ _ _ _ hq.rec_,e2,h.n]; rfl
 ·rw [kv,e3,hL]
 ·rw [kf,hL,hP]; rfl
 ·obtain ⟨T',ct',d3,_,ku⟩ := hq.tab.var hr (u := u) (by rw [hL]; exact hu)
  rw [e3] at d3
  simp only [Value.slice.injEq,Option.some.injEq,Addr.mk.injEq] at d3
  obtain ⟨⟨rfl,_⟩,_,_⟩ := d3
  rw [ku,hP]; rfl
theorem RqM.res (h : RqM w m B R vv fv rows x tag rn) {f : Nat} {g : Fn} {r : FR} (hg : m.fs[f]? = some g) (hr : rows[f]? = some r) {FA cf : Nat} (hc : w.cell? ⟨R,1,none⟩ = some (.slice (some ⟨FA,0,none⟩) m.fs.length cf)) : w.cell? ⟨FA,f,none⟩ = some (.slice (some ⟨r.at_ g.vs.length,0,none⟩) g.c.par.toNat g.c.par.toNat) := by
 obtain ⟨hP,hL⟩ := h.fit f r g hr hg
 obtain ⟨VA',FA',cv',cf',d1,d2,_,_,kv,kf⟩ := h.tab.fn hr
 rw [cell_of_row _ _ _ _ _ _ h.rec_] at hc
 have e : fv = .slice (some ⟨FA,0,none⟩) m.fs.length cf := by simpa using hc
 rw [e] at d2
 simp only [Value.slice.injEq,Option.some.injEq,Addr.mk.injEq] at d2
 obtain ⟨⟨rfl,_⟩,_,_⟩ := d2
 rw [kf,hL,hP]; rfl
end
def InsQ (w : World) (m : Mo) (B R : Nat) (vv fv : Value) (rows : List FR) (tag : Tag) (rn : Int) (s : RS) (e : Ending) (w' : World) : Prop :=
 e = .returned (.bool s.is) ∧ RqM w' m B R vv fv rows s.x tag rn ∧ Ext (fun k => ∃ f u,tag k = (4,f,u)) w w'
theorem RqM.join {W W2 : World} {m : Mo} {B R : Nat} {vv fv : Value} {rows : List FR} {x : Nat → Nat → Nat → Bool} {tag : Tag} {rn : Int} (h : RqM W m B R vv fv rows x tag rn) (hok : OkR m) {f d a : Nat} {g : Fn} {r : FR} (hg : m.fs[f]? = some g) (hr : rows[f]? = some r) (hd : d ≤ g.vs.length) (ha : a ≤ g.vs.length)
  (hx : Ext (fun k => ∃ f u,tag k = (4,f,u)) W2 W) :
  Calls Try.prog 112 #[.slice (some ⟨r.at_ d,0,none⟩) g.c.par.toNat g.c.par.toNat,.slice (some ⟨r.at_ a,0,none⟩) g.c.par.toNat g.c.par.toNat] W fun e w' => e = .returned (.bool (newR g.c.par.toNat x f d a)) ∧ RqM w' m B R vv fv rows (orR x f d a) tag rn ∧ Ext (fun k => ∃ f u,tag k = (4,f,u)) W2 w' := by
 obtain ⟨hP,hL⟩ := h.fit f r g hr hg
 have hleafd := h.tab.leaf hr (u := d) (by rw [hL]; exact hd)
 have hleafa := h.tab.leaf hr (u := a) (by rw [hL]; exact ha)
 have p2 := hok.fn g (List.mem_of_getElem? hg)
 rw [hP] at hleafd hleafa
 refine (rjoin_calls W (r.at_ d) (r.at_ a) g.c.par.toNat (x f d) (x f a) hleafd.1 hleafa.1 (by omega)).mono fun e w6 hj => ?_
 obtain ⟨e1,j1,j2⟩ := hj
 refine ⟨e1,h.set hr (by rw [hL]; exact hd) j2 ?_ ?_,hx.trans j2 fun k hk => .inl ⟨f,d,by rw [hk]; exact hleafd.2⟩⟩
 ·rw [hP]
  refine boolLeaf.congr j1 fun n _ => ?_
  unfold orR; rw [if_pos ⟨rfl,rfl⟩]
 ·intro g' v hne n
  unfold orR; rw [if_neg hne]
end Go.Proofs.Ytlggjbopfnndbaa
