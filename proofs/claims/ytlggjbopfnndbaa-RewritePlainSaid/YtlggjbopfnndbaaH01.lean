import Derived.Test.YtlggjbopfnndbaaRewR
import Derived.Test.YtlggjbopfnndbaaG61
import Derived.Test.YtlggjbopfnndbaaG39
namespace Go.Proofs.Ytlggjbopfnndbaa
open Go.RowKit
def MdAt (md : Ins → List Int) (n : Mo) : Prop := ∀ g ∈ n.fs,∀ (k : Nat) (i : Ins) (l : List Int),g.c.ins[k]? = some i → g.mds[k]? = some l → md i = l
theorem mdOf_eq {w : World} {i : Ins} {l : List Int} {ao : Option Addr} {cap : Nat} (h1 : i.modeV = .slice ao l.length cap) (h2 : IntRow w ao l) : mdOf w i = l := by
 obtain ⟨ao',cap',e1,e2⟩ := mdOf_at (w := w) (i := i) ⟨l,ao,cap,h1,h2⟩
 rw [h1] at e1
 simp only [Value.slice.injEq] at e1
 obtain ⟨rfl,hl,_⟩ := e1
 refine List.ext_getElem? fun k => ?_
 rcases Nat.lt_or_ge k l.length with hk | hk
 ·obtain ⟨x,hx⟩ : ∃ x,l[k]? = some x := ⟨_,List.getElem?_eq_getElem hk⟩
  obtain ⟨y,hy⟩ : ∃ y,(mdOf w i)[k]? = some y := ⟨_,List.getElem?_eq_getElem (by rw [← hl]; exact hk)⟩
  obtain ⟨b,o,ea,_,hc⟩ := h2 (by intro e; rw [e] at hk; simp at hk)
  obtain ⟨b',o',ea',_,hc'⟩ := e2 (by intro e; rw [e] at hl; simp at hl; rw [hl] at hk; simp at hk)
  rw [ea] at ea'
  simp only [Option.some.injEq,Addr.mk.injEq,and_true] at ea'
  obtain ⟨rfl,rfl⟩ := ea'
  have c1 := hc k x hx 0 _ rfl
  have c2 := hc' k y hy 0 _ rfl
  rw [c1] at c2
  have e3 : x = y := by simpa using c2
  rw [hx,hy,e3]
 ·rw [List.getElem?_eq_none hk,List.getElem?_eq_none (by rw [← hl]; exact hk)]
theorem mdOf_mdAt {w : World} {n : Mo} (hn : n.inn w) : MdAt (mdOf w) n := by
 intro g hg k i l hi hl
 obtain ⟨ao,cap,h1,h2⟩ := (hn.fin g hg).mds k i l hi hl
 exact mdOf_eq h1 h2
theorem rewOf_fit {w : World} {m n : Mo} (hF : rightF m = 0) (hal : ∀ f ∈ m.fs,∀ i ∈ f.c.ins,i.args.length ≤ 40) (h : RewOf m n) (hn : n.inn w) : n.fitS (mdOf w) w := by
 have hok := OkR.of hF
 have hss := (right_parts hF).2.1
 have hmd := mdOf_mdAt hn
 obtain ⟨a1,a2,k,a3,a4⟩ := h
 refine ⟨hn,fun g' hg' => ?_,by rw [a1]; omega,by rw [a2]; have := hok.nf; omega⟩
 obtain ⟨f,hf⟩ := List.mem_iff_getElem?.1 hg'
 have hfl : f < m.fs.length := by rw [← a2]; exact (List.getElem?_eq_some_iff.1 hf).1
 obtain ⟨g,hg⟩ : ∃ g,m.fs[f]? = some g := ⟨_,List.getElem?_eq_getElem hfl⟩
 obtain ⟨y,hy,hR⟩ := a4 f g hg
 rw [hf] at hy
 obtain rfl := Option.some.inj hy
 have hgm := List.mem_of_getElem? hg
 obtain ⟨p0,p1,p2,p3⟩ := hok.fn g hgm
 have hgi := hn.fin g' hg'
 have key : ∀ i' ∈ g'.c.ins,∃ (q : Nat) (i : Ins) (l : List Int),g'.c.ins[q]? = some i' ∧ g.c.ins[q]? = some i ∧ i'.args = i.args ∧ g'.mds[q]? = some l ∧ l = modesF m g i := by
  intro i' hi'
  obtain ⟨q,hq⟩ := List.mem_iff_getElem?.1 hi'
  have hql : q < g.c.ins.length := by rw [← hR.len]; exact (List.getElem?_eq_some_iff.1 hq).1
  obtain ⟨i,hi⟩ : ∃ i,g.c.ins[q]? = some i := ⟨_,List.getElem?_eq_getElem hql⟩
  obtain ⟨v,hv⟩ := hR.ins q i hi
  rw [hq] at hv
  refine ⟨q,i,modesF m g i,hq,hi,by rw [Option.some.inj hv],by rw [hR.mds,List.getElem?_map,hi]; rfl,rfl⟩
 refine ⟨hgi,fun i' hi' => ?_,?_,by rw [hR.vs]; omega,by rw [hR.len]; omega,fun i' hi' => ?_⟩
 ·obtain ⟨q,i,l,h1,_,_,h4,_⟩ := key i' hi'
  obtain ⟨ao,cap,e1,e2⟩ := hgi.mds q i' l h1 h4
  exact mdOf_at ⟨l,ao,cap,e1,e2⟩
 ·rw [hR.frm,List.length_map]
  have := fromL_len m (roundsR m (k + 1)) (f : Int)
  rw [Int.toNat_natCast,np_get hg] at this
  omega
 ·obtain ⟨q,i,l,h1,h2,h3,h4,h5⟩ := key i' hi'
  have e := hmd g' hg' q i' l h1 h4
  rw [e,h5,h3]
  have := hal g hgm i (List.mem_of_getElem? h2)
  have := modesF_len hok hg (List.mem_of_getElem? h2)
  omega
end Go.Proofs.Ytlggjbopfnndbaa
namespace Go.Proofs.Ytlggjbopfnndbaa
open Go.RowKit
def zeroMo : Mo := ⟨none,0,none,0,[],[]⟩
def rewCode (m : Mo) : Int := if rightF m ≠ 0 then rightF m else if classedF m = true then 0 else 1
def RewIs (m a : Mo) : Prop := (a = zeroMo ∧ ¬ (rightF m = 0 ∧ classedF m = true)) ∨ (rightF m = 0 ∧ classedF m = true ∧ RewOf m a)
theorem zeroMo_inn (w : World) : zeroMo.inn w := ⟨fun h => absurd rfl h,fun h => absurd rfl h,fun s hs => absurd hs (by simp [zeroMo]),fun f hf => absurd hf (by simp [zeroMo]),by simp [zeroMo],by simp [zeroMo]⟩
theorem rewP_is {m : Mo} {w w' : World} {e : Ending} (h : RewP m w e w') : ∃ a : Mo,e = .returned (.tuple #[.agg a.cells,.int .i64 (rewCode m)]) ∧ a.inn w' ∧ RewIs m a ∧ Below w.heap.size w w' := by
 rcases h with ⟨h1,rfl,hb⟩ | ⟨h1,h2,rfl,hb⟩ | ⟨h1,h2,n,rfl,hn,hr,hb⟩
 ·exact ⟨zeroMo,by unfold rewCode; rw [if_pos h1]; rfl,zeroMo_inn _,.inl ⟨rfl,fun h => h1 h.1⟩,hb⟩
 ·exact ⟨zeroMo,by unfold rewCode; rw [if_neg (by omega),if_neg (by rw [h2]; simp)]; rfl,zeroMo_inn _,.inl ⟨rfl,fun h => by rw [h2] at h; exact absurd h.2 (by simp)⟩,hb⟩
 ·exact ⟨n,by unfold rewCode; rw [if_neg (by omega),if_pos h2],hn,.inr ⟨h1,h2,hr⟩,hb⟩
theorem rewIs_fit {w : World} {m a : Mo} (hal : ∀ f ∈ m.fs,∀ i ∈ f.c.ins,i.args.length ≤ 40) (h : RewIs m a) (ha : a.inn w) : a.fitS (mdOf w) w := by
 rcases h with ⟨rfl,_⟩ | ⟨h1,_,h3⟩
 ·exact ⟨ha,fun f hf => absurd hf (by simp [zeroMo]),by simp [zeroMo],by simp [zeroMo]⟩
 ·exact rewOf_fit h1 hal h3 ha
theorem rewIs_same {md : Ins → List Int} {m a b : Mo} (h1 : RewIs m a) (h2 : RewIs m b) (ha : MdAt md a) (hb : MdAt md b) : sameM md a b = true := by
 rcases h1 with ⟨rfl,n1⟩ | ⟨r1,c1,h1⟩
 ·rcases h2 with ⟨rfl,_⟩ | ⟨r2,c2,_⟩
  ·rfl
  ·exact absurd ⟨r2,c2⟩ n1
 rcases h2 with ⟨_,n2⟩ | ⟨_,_,h2⟩
 ·exact absurd ⟨r1,c1⟩ n2
 obtain ⟨a1,a2,k,a3,a4⟩ := h1
 obtain ⟨b1,b2,j,b3,b4⟩ := h2
 obtain rfl := roundsIs_one a3 b3
 unfold sameM
 rw [a1,b1,eqBy_self stSame_self,Bool.true_and]
 refine eqBy_iff.2 ⟨by rw [a2,b2],fun f g1 g2 hg1 hg2 => ?_⟩
 have hf : f < m.fs.length := by rw [← a2]; exact (List.getElem?_eq_some_iff.1 hg1).1
 obtain ⟨g,hg⟩ : ∃ g,m.fs[f]? = some g := ⟨_,List.getElem?_eq_getElem hf⟩
 obtain ⟨x1,e1,R1⟩ := a4 f g hg
 rw [hg1] at e1
 obtain rfl := Option.some.inj e1
 obtain ⟨x2,e2,R2⟩ := b4 f g hg
 rw [hg2] at e2
 obtain rfl := Option.some.inj e2
 unfold sameC
 rw [R1.nm,R1.par,R1.rp,R1.rto,R1.rcl,R1.frm,R1.vs,R2.nm,R2.par,R2.rp,R2.rto,R2.rcl,R2.frm,R2.vs,eqI_self,eqBy_self vrSame_self]
 have hins : eqBy (sameI md) g1.c.ins g2.c.ins = true := by
  refine eqBy_iff.2 ⟨by rw [R1.len,R2.len],fun q i1 i2 hi1 hi2 => ?_⟩
  have hq : q < g.c.ins.length := by rw [← R1.len]; exact (List.getElem?_eq_some_iff.1 hi1).1
  obtain ⟨i,hi⟩ : ∃ i,g.c.ins[q]? = some i := ⟨_,List.getElem?_eq_getElem hq⟩
  obtain ⟨v1,hv1⟩ := R1.ins q i hi
  obtain ⟨v2,hv2⟩ := R2.ins q i hi
  rw [hi1] at hv1
  rw [hi2] at hv2
  have m1 : md i1 = modesF m g i := ha g1 (List.mem_of_getElem? hg1) q i1 _ hi1 (by rw [R1.mds,List.getElem?_map,hi]; rfl)
  have m2 : md i2 = modesF m g i := hb g2 (List.mem_of_getElem? hg2) q i2 _ hi2 (by rw [R2.mds,List.getElem?_map,hi]; rfl)
  unfold sameI
  rw [m1,m2,eqI_self,Option.some.inj hv1,Option.some.inj hv2]
  simp [eqI_self]
 rw [hins]
 simp
theorem modeF_len {m : Mo} (f a : Int) : (modeF m f a).length ≤ 90000 := by
 unfold modeF
 split
 ·rename_i h
  split
  ·rename_i g hg
   split
   ·rename_i i hi
    have := modesF_len (OkR.of h.1) hg (List.mem_of_getElem? hi)
    omega
   ·simp
  ·simp
 ·simp
end Go.Proofs.Ytlggjbopfnndbaa
