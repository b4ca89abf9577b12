/- Walks. -/
import Derived.Deep.WholeRow
import Derived.Test.YtjomgckjhcfbgaaGreatS8
set_option maxRecDepth 100000
set_option maxHeartbeats 64000000
set_option linter.all false
namespace Go.Proofs.YtjomgckjhcfbgaaGreat
open Go.RowKit
open _root_.List renaming getElem?_eq_getElem→GN,getElem?_eq_some_iff→GQ,setIfInBounds_toArray→GX,set_cons_zero→GY,set_cons_succ→GZ,getElem_cons_zero→G6,getElem_cons_succ→G7,getElem_toArray→G9
open _root_.Array renaming getElem?_eq_some_iff→GR
open _root_.Nat renaming le_refl→He,zero_add→Hf
open _root_.Int renaming toNat_natCast→Ho
open Go.RowKit.Below renaming refl→Hw
open Go renaming World→H5
open Go.RowKit renaming Below→H9,Hid→Ia
open Tryz
structure dJ (w:H5)(m:Mo)(g:Fn)(i:Ins):Prop where
 j:nC w m g
 d:pV i.op=true→isVar g.vs.length i.d=true
 a:sZ i.op=true→isVar g.vs.length i.a=true
 b:qN i.op=true→isVar g.vs.length i.b=true
 kn:∀v,isVar g.vs.length v=true→m.known (ax g.vs v)=true
theorem yM {w:H5}{z:Int}:ak (w.alloc (.cells #[.int .i64 z] 3)) (some ⟨w.heap.size,0,none⟩) [z]:=ak.one w z rfl
theorem Gg {w:H5}{y z:Int}:ak (w.alloc (.cells #[.int .i64 y,.int .i64 z] 3)) (some ⟨w.heap.size,0,none⟩) [y,z]:=by
 intro _;refine⟨w.heap.size,0,rfl,by simp,fun k u hk=> ?_⟩;rw[Hf,World.cell?_alloc_new];have:k<2:=(GQ.1 hk).1;obtain rfl|rfl:k=0∨k=1:=by omega
 ·simp at hk;subst hk;rfl
 ·simp at hk;subst hk;rfl
theorem bT {m:Mo}{g:Fn}{i:Ins}{w:H5}{k:Int}(hop:i.op=k)(h:dJ w m g i):∃N W1,w.heap.size=N∧(w.alloc (.cells (jg m g) 184)).alloc (.cells i.cells 42)=W1∧W1.heap.size=N+2∧N+1<W1.heap.size∧
  (W1.cell? ⟨N+1,0,none⟩=some (.int .i64 k)∧W1.cell? ⟨N+1,1,none⟩=some (.int .i64 i.d)∧W1.cell? ⟨N+1,2,none⟩=some (.int .i64 i.a)∧W1.cell? ⟨N+1,3,none⟩=some (.int .i64 i.b)∧W1.cell? ⟨N+1,4,none⟩=some (.int .i64 i.f)∧W1.cell? ⟨N+1,6,none⟩=some (.string i.sign))∧
  Ia (w.heap.size=N)∧Ia (W1.heap.size=N+2)∧Ia (H9 N w W1)∧Ia (W1.heap[N]?=some (.cells (jg m g) 184 (0,0)))∧Ia (W1.heap[N+1]?=some (.cells i.cells 42 (0,0)))∧
  Ia (∀W v,H9 w.heap.size w W→isVar g.vs.length v=true→zP 188 #[.agg (jg m g),.int .i64 v] W (uO (ax g.vs v)))∧Ia (pV k=true→isVar g.vs.length i.d=true)∧Ia (sZ k=true→isVar g.vs.length i.a=true)∧Ia (qN k=true→isVar g.vs.length i.b=true):=by
 obtain⟨N,hN⟩:=zE w.heap.size;obtain⟨W1,hW1⟩:=zE ((w.alloc (.cells (jg m g) 184)).alloc (.cells i.cells 42));have hs1:W1.heap.size=N+2:=by rw[←hW1];simp[hN]
 have hr2:=zV hW1 hN;refine⟨N,W1,hN,hW1,hs1,by omega,⟨?_,zR hr2 1 _,zR hr2 2 _,zR hr2 3 _,zR hr2 4 _,zR hr2 6 _⟩,hN,hs1,uG hW1 hN,xV hW1 hN,hr2,fun W v hW hv=>gG m g v W (h.j.below hW).vars h.j.nv h.j.vl hv, ?_, ?_, ?_⟩
 ·rw[cell_of_row _ _ _ _ _ _ hr2,←hop];rfl
 ·rw[←hop];exact h.d
 ·rw[←hop];exact h.a
 ·rw[←hop];exact h.b
theorem EN (m:Mo)(g:Fn)(i:Ins)(w:H5)(hop:i.op=1)(h:dJ w m g i):
  zP 189 #[.agg (jg m g),.agg i.cells] w (.int .i64 (au m g.vs i)):=by
 have HE:Ia (au m g.vs i=dR g.vs [i.d]):=by
  unfold Ia au;rw[hop];rfl
 obtain⟨R,hR⟩:=zE (au m g.vs i);rw[hR] at HE⊢;clear hR;have HN0:=zH h;obtain⟨N,W1,hN,hW1,hs1,hNlt,⟨i0,i1,i2,i3,i4,i6⟩,HN,HS1,HB1,HR1,HR2,HT,HD,HA,HB⟩:=bT hop h;clear h hop;have HW2:Ia (H9 N w (W1.alloc (.cells #[.int .i64 i.d] 3))):=HB1.out.alloc (by omega) _;have HNC:Ia (zP 187 #[.agg (jg m g),.slice (some ⟨N+2,0,none⟩) 1 1] (W1.alloc (.cells #[.int .i64 i.d] 3)) (.int .i64 R)):=by
  have hj:=HN0.out.j.below (by rw[HN.out];exact HW2.out);have:=cB m g (some ⟨N+2,0,none⟩) [i.d] 1 (W1.alloc (.cells #[.int .i64 i.d] 3)) hj.vars hj.nv hj.vl (by unfold maxLen;simp) (by rw[←HS1.out];exact yM) (by simp;exact HD.out rfl);rw[←HE.out] at this;exact this
 clear HE HD HA HB HT HN0;go_enter func189,ntmps189
 go_wp2_with (first
  |(refine wpList_load_row rfl 184 _ rfl N rfl 184 (jg m g) (0,0) _ HR1.out underlying184 rfl (by kernel_rfl) ?_)
  |(go_at_call 187;refine HNC.out.mono ?_;rintro e w4 ⟨rfl,hb4⟩;have HB4:=zH hb4;clear hb4))
 go_ret;refine⟨rfl, ?_⟩;rw[HN.out];exact HW2.out.trans (HB4.out.mono (by have:=HS1.out;simp;omega))
theorem EO (m:Mo)(g:Fn)(i:Ins)(w:H5)(hop:i.op=5)(h:dJ w m g i):
  zP 189 #[.agg (jg m g),.agg i.cells] w (.int .i64 (au m g.vs i)):=by
 have HE:Ia (au m g.vs i=dR g.vs [i.d]):=by
  unfold Ia au;rw[hop];rfl
 obtain⟨R,hR⟩:=zE (au m g.vs i);rw[hR] at HE⊢;clear hR;have HN0:=zH h;obtain⟨N,W1,hN,hW1,hs1,hNlt,⟨i0,i1,i2,i3,i4,i6⟩,HN,HS1,HB1,HR1,HR2,HT,HD,HA,HB⟩:=bT hop h;clear h hop;have HW2:Ia (H9 N w (W1.alloc (.cells #[.int .i64 i.d] 3))):=HB1.out.alloc (by omega) _;have HNC:Ia (zP 187 #[.agg (jg m g),.slice (some ⟨N+2,0,none⟩) 1 1] (W1.alloc (.cells #[.int .i64 i.d] 3)) (.int .i64 R)):=by
  have hj:=HN0.out.j.below (by rw[HN.out];exact HW2.out);have:=cB m g (some ⟨N+2,0,none⟩) [i.d] 1 (W1.alloc (.cells #[.int .i64 i.d] 3)) hj.vars hj.nv hj.vl (by unfold maxLen;simp) (by rw[←HS1.out];exact yM) (by simp;exact HD.out rfl);rw[←HE.out] at this;exact this
 clear HE HD HA HB HT HN0;go_enter func189,ntmps189
 go_wp2_with (first
  |(refine wpList_load_row rfl 184 _ rfl N rfl 184 (jg m g) (0,0) _ HR1.out underlying184 rfl (by kernel_rfl) ?_)
  |(go_at_call 187;refine HNC.out.mono ?_;rintro e w4 ⟨rfl,hb4⟩;have HB4:=zH hb4;clear hb4))
 go_ret;refine⟨rfl, ?_⟩;rw[HN.out];exact HW2.out.trans (HB4.out.mono (by have:=HS1.out;simp;omega))
theorem EP (m:Mo)(g:Fn)(i:Ins)(w:H5)(hop:i.op=6)(h:dJ w m g i):
  zP 189 #[.agg (jg m g),.agg i.cells] w (.int .i64 (au m g.vs i)):=by
 have HE:Ia (au m g.vs i=dR g.vs [i.a]):=by
  unfold Ia au;rw[hop];rfl
 obtain⟨R,hR⟩:=zE (au m g.vs i);rw[hR] at HE⊢;clear hR;have HN0:=zH h;obtain⟨N,W1,hN,hW1,hs1,hNlt,⟨i0,i1,i2,i3,i4,i6⟩,HN,HS1,HB1,HR1,HR2,HT,HD,HA,HB⟩:=bT hop h;clear h hop;have HW2:Ia (H9 N w (W1.alloc (.cells #[.int .i64 i.a] 3))):=HB1.out.alloc (by omega) _;have HNC:Ia (zP 187 #[.agg (jg m g),.slice (some ⟨N+2,0,none⟩) 1 1] (W1.alloc (.cells #[.int .i64 i.a] 3)) (.int .i64 R)):=by
  have hj:=HN0.out.j.below (by rw[HN.out];exact HW2.out);have:=cB m g (some ⟨N+2,0,none⟩) [i.a] 1 (W1.alloc (.cells #[.int .i64 i.a] 3)) hj.vars hj.nv hj.vl (by unfold maxLen;simp) (by rw[←HS1.out];exact yM) (by simp;exact HA.out rfl);rw[←HE.out] at this;exact this
 clear HE HD HA HB HT HN0;go_enter func189,ntmps189
 go_wp2_with (first
  |(refine wpList_load_row rfl 184 _ rfl N rfl 184 (jg m g) (0,0) _ HR1.out underlying184 rfl (by kernel_rfl) ?_)
  |(go_at_call 187;refine HNC.out.mono ?_;rintro e w4 ⟨rfl,hb4⟩;have HB4:=zH hb4;clear hb4))
 go_ret;refine⟨rfl, ?_⟩;rw[HN.out];exact HW2.out.trans (HB4.out.mono (by have:=HS1.out;simp;omega))
theorem EQ (m:Mo)(g:Fn)(i:Ins)(w:H5)(hop:i.op=3)(h:dJ w m g i):
  zP 189 #[.agg (jg m g),.agg i.cells] w (.int .i64 (au m g.vs i)):=by
 have HE:Ia (au m g.vs i=dR g.vs [i.d,i.a]):=by
  unfold Ia au;rw[hop];rfl
 obtain⟨R,hR⟩:=zE (au m g.vs i);rw[hR] at HE⊢;clear hR;have HN0:=zH h;obtain⟨N,W1,hN,hW1,hs1,hNlt,⟨i0,i1,i2,i3,i4,i6⟩,HN,HS1,HB1,HR1,HR2,HT,HD,HA,HB⟩:=bT hop h;clear h hop;have HW2:Ia (H9 N w (W1.alloc (.cells #[.int .i64 i.d,.int .i64 i.a] 3))):=HB1.out.alloc (by omega) _;have HNC:Ia (zP 187 #[.agg (jg m g),.slice (some ⟨N+2,0,none⟩) 2 2] (W1.alloc (.cells #[.int .i64 i.d,.int .i64 i.a] 3)) (.int .i64 R)):=by
  have hj:=HN0.out.j.below (by rw[HN.out];exact HW2.out);have:=cB m g (some ⟨N+2,0,none⟩) [i.d,i.a] 2 (W1.alloc (.cells #[.int .i64 i.d,.int .i64 i.a] 3)) hj.vars hj.nv hj.vl (by unfold maxLen;simp) (by rw[←HS1.out];exact Gg) (by simp;exact⟨HD.out rfl,HA.out rfl⟩);rw[←HE.out] at this;exact this
 clear HE HD HA HB HT HN0;go_enter func189,ntmps189
 go_wp2_with (first
  |(refine wpList_load_row rfl 184 _ rfl N rfl 184 (jg m g) (0,0) _ HR1.out underlying184 rfl (by kernel_rfl) ?_)
  |(go_at_call 187;refine HNC.out.mono ?_;rintro e w4 ⟨rfl,hb4⟩;have HB4:=zH hb4;clear hb4))
 go_ret;refine⟨rfl, ?_⟩;rw[HN.out];exact HW2.out.trans (HB4.out.mono (by have:=HS1.out;simp;omega))
theorem ER (m:Mo)(g:Fn)(i:Ins)(w:H5)(hop:i.op=2)(h:dJ w m g i):
  zP 189 #[.agg (jg m g),.agg i.cells] w (.int .i64 (au m g.vs i)):=by
 have HE:Ia (au m g.vs i=bM (ax g.vs i.d).1 7):=by
  unfold Ia au;rw[hop];rfl
 obtain⟨R,hR⟩:=zE (au m g.vs i);rw[hR] at HE⊢;clear hR;have HN0:=zH h;obtain⟨N,W1,hN,hW1,hs1,hNlt,⟨i0,i1,i2,i3,i4,i6⟩,HN,HS1,HB1,HR1,HR2,HT,HD,HA,HB⟩:=bT hop h;clear h hop;have HTC:Ia (zP 188 #[.agg (jg m g),.int .i64 i.d] W1 (.agg #[.bool (ax g.vs i.d).1,.string (ax g.vs i.d).2])):=HT.out W1 i.d (by rw[HN.out];exact HB1.out) (HD.out rfl);have hfld:=jL;clear HD HA HB HT HN0;go_enter func189,ntmps189
 go_wp2_with (first
  |(refine wpList_load_row rfl 184 _ rfl N rfl 184 (jg m g) (0,0) _ HR1.out underlying184 rfl (by kernel_rfl) ?_)
  |(go_at_call 188;refine HTC.out.mono ?_;rintro e w4 ⟨rfl,hb4⟩;have HB4:=zH hb4;clear hb4)
  |(go_at_call 99;refine(aB _ _ _).mono ?_;rintro e w9 ⟨rfl,rfl⟩))
 go_ret;rw[HE.out,HN.out];exact⟨rfl,HB1.out.trans (HB4.out.mono (by omega))⟩
theorem DU (m:Mo)(g:Fn)(i:Ins)(w:H5)(hop:i.op=13)(h:dJ w m g i):
  zP 189 #[.agg (jg m g),.agg i.cells] w (.int .i64 (au m g.vs i)):=by
 have HE:Ia (au m g.vs i=bM (ax g.vs i.a).1 7):=by
  unfold Ia au;rw[hop];rfl
 obtain⟨R,hR⟩:=zE (au m g.vs i);rw[hR] at HE⊢;clear hR;have HN0:=zH h;obtain⟨N,W1,hN,hW1,hs1,hNlt,⟨i0,i1,i2,i3,i4,i6⟩,HN,HS1,HB1,HR1,HR2,HT,HD,HA,HB⟩:=bT hop h;clear h hop;have HTC:Ia (zP 188 #[.agg (jg m g),.int .i64 i.a] W1 (.agg #[.bool (ax g.vs i.a).1,.string (ax g.vs i.a).2])):=HT.out W1 i.a (by rw[HN.out];exact HB1.out) (HA.out rfl);have hfld:=jL;clear HD HA HB HT HN0;go_enter func189,ntmps189
 go_wp2_with (first
  |(refine wpList_load_row rfl 184 _ rfl N rfl 184 (jg m g) (0,0) _ HR1.out underlying184 rfl (by kernel_rfl) ?_)
  |(go_at_call 188;refine HTC.out.mono ?_;rintro e w4 ⟨rfl,hb4⟩;have HB4:=zH hb4;clear hb4)
  |(go_at_call 99;refine(aB _ _ _).mono ?_;rintro e w9 ⟨rfl,rfl⟩))
 go_ret;rw[HE.out,HN.out];exact⟨rfl,HB1.out.trans (HB4.out.mono (by omega))⟩
theorem ES (m:Mo)(g:Fn)(i:Ins)(w:H5)(hop:i.op=7)(h:dJ w m g i):
  zP 189 #[.agg (jg m g),.agg i.cells] w (.int .i64 (au m g.vs i)):=by
 have HE:Ia (au m g.vs i=cu m g.vs i i.d false):=by
  unfold Ia au;rw[hop];rfl
 obtain⟨R,hR⟩:=zE (au m g.vs i);rw[hR] at HE⊢;clear hR;have HN0:=zH h;obtain⟨N,W1,hN,hW1,hs1,hNlt,⟨i0,i1,i2,i3,i4,i6⟩,HN,HS1,HB1,HR1,HR2,HT,HD,HA,HB⟩:=bT hop h;clear h hop;have HHC:Ia (zP 227 #[.agg (jg m g),.agg i.cells,.int .i64 i.d,.bool false] W1 (.int .i64 (cu m g.vs i i.d false))):=
  jZ m g i i.d false W1 (HN0.out.j.below (by rw[HN.out];exact HB1.out)) (HA.out rfl) (HD.out rfl) (HN0.out.kn _ (HA.out rfl))
 clear HD HA HB HT HN0;go_enter func189,ntmps189
 go_wp2_with (first
  |(refine wpList_load_row rfl 184 _ rfl N rfl 184 (jg m g) (0,0) _ HR1.out underlying184 rfl (by kernel_rfl) ?_)
  |(refine wpList_load_row rfl 42 _ rfl (N+1) rfl 42 i.cells (0,0) _ HR2.out underlying42 rfl (by kernel_rfl) ?_)
  |(go_at_call 227;refine HHC.out.mono ?_;rintro e w4 ⟨rfl,hb4⟩;have HB4:=zH hb4;clear hb4))
 go_ret;rw[HE.out,HN.out];exact⟨rfl,HB1.out.trans (HB4.out.mono (by omega))⟩
theorem DV (m:Mo)(g:Fn)(i:Ins)(w:H5)(hop:i.op=10)(h:dJ w m g i):
  zP 189 #[.agg (jg m g),.agg i.cells] w (.int .i64 (au m g.vs i)):=by
 have HE:Ia (au m g.vs i=cu m g.vs i i.d true):=by
  unfold Ia au;rw[hop];rfl
 obtain⟨R,hR⟩:=zE (au m g.vs i);rw[hR] at HE⊢;clear hR;have HN0:=zH h;obtain⟨N,W1,hN,hW1,hs1,hNlt,⟨i0,i1,i2,i3,i4,i6⟩,HN,HS1,HB1,HR1,HR2,HT,HD,HA,HB⟩:=bT hop h;clear h hop;have HHC:Ia (zP 227 #[.agg (jg m g),.agg i.cells,.int .i64 i.d,.bool true] W1 (.int .i64 (cu m g.vs i i.d true))):=
  jZ m g i i.d true W1 (HN0.out.j.below (by rw[HN.out];exact HB1.out)) (HA.out rfl) (HD.out rfl) (HN0.out.kn _ (HA.out rfl))
 clear HD HA HB HT HN0;go_enter func189,ntmps189
 go_wp2_with (first
  |(refine wpList_load_row rfl 184 _ rfl N rfl 184 (jg m g) (0,0) _ HR1.out underlying184 rfl (by kernel_rfl) ?_)
  |(refine wpList_load_row rfl 42 _ rfl (N+1) rfl 42 i.cells (0,0) _ HR2.out underlying42 rfl (by kernel_rfl) ?_)
  |(go_at_call 227;refine HHC.out.mono ?_;rintro e w4 ⟨rfl,hb4⟩;have HB4:=zH hb4;clear hb4))
 go_ret;rw[HE.out,HN.out];exact⟨rfl,HB1.out.trans (HB4.out.mono (by omega))⟩
theorem ET (m:Mo)(g:Fn)(i:Ins)(w:H5)(hop:i.op=8)(h:dJ w m g i):
  zP 189 #[.agg (jg m g),.agg i.cells] w (.int .i64 (au m g.vs i)):=by
 have HE:Ia (au m g.vs i=cu m g.vs i i.b false):=by
  unfold Ia au;rw[hop];rfl
 obtain⟨R,hR⟩:=zE (au m g.vs i);rw[hR] at HE⊢;clear hR;have HN0:=zH h;obtain⟨N,W1,hN,hW1,hs1,hNlt,⟨i0,i1,i2,i3,i4,i6⟩,HN,HS1,HB1,HR1,HR2,HT,HD,HA,HB⟩:=bT hop h;clear h hop;have HHC:Ia (zP 227 #[.agg (jg m g),.agg i.cells,.int .i64 i.b,.bool false] W1 (.int .i64 (cu m g.vs i i.b false))):=
  jZ m g i i.b false W1 (HN0.out.j.below (by rw[HN.out];exact HB1.out)) (HA.out rfl) (HB.out rfl) (HN0.out.kn _ (HA.out rfl))
 clear HD HA HB HT HN0;go_enter func189,ntmps189
 go_wp2_with (first
  |(refine wpList_load_row rfl 184 _ rfl N rfl 184 (jg m g) (0,0) _ HR1.out underlying184 rfl (by kernel_rfl) ?_)
  |(refine wpList_load_row rfl 42 _ rfl (N+1) rfl 42 i.cells (0,0) _ HR2.out underlying42 rfl (by kernel_rfl) ?_)
  |(go_at_call 227;refine HHC.out.mono ?_;rintro e w4 ⟨rfl,hb4⟩;have HB4:=zH hb4;clear hb4))
 go_ret;rw[HE.out,HN.out];exact⟨rfl,HB1.out.trans (HB4.out.mono (by omega))⟩
theorem DW (m:Mo)(g:Fn)(i:Ins)(w:H5)(hop:i.op=11)(h:dJ w m g i):
  zP 189 #[.agg (jg m g),.agg i.cells] w (.int .i64 (au m g.vs i)):=by
 have HE:Ia (au m g.vs i=cu m g.vs i i.b true):=by
  unfold Ia au;rw[hop];rfl
 obtain⟨R,hR⟩:=zE (au m g.vs i);rw[hR] at HE⊢;clear hR;have HN0:=zH h;obtain⟨N,W1,hN,hW1,hs1,hNlt,⟨i0,i1,i2,i3,i4,i6⟩,HN,HS1,HB1,HR1,HR2,HT,HD,HA,HB⟩:=bT hop h;clear h hop;have HHC:Ia (zP 227 #[.agg (jg m g),.agg i.cells,.int .i64 i.b,.bool true] W1 (.int .i64 (cu m g.vs i i.b true))):=
  jZ m g i i.b true W1 (HN0.out.j.below (by rw[HN.out];exact HB1.out)) (HA.out rfl) (HB.out rfl) (HN0.out.kn _ (HA.out rfl))
 clear HD HA HB HT HN0;go_enter func189,ntmps189
 go_wp2_with (first
  |(refine wpList_load_row rfl 184 _ rfl N rfl 184 (jg m g) (0,0) _ HR1.out underlying184 rfl (by kernel_rfl) ?_)
  |(refine wpList_load_row rfl 42 _ rfl (N+1) rfl 42 i.cells (0,0) _ HR2.out underlying42 rfl (by kernel_rfl) ?_)
  |(go_at_call 227;refine HHC.out.mono ?_;rintro e w4 ⟨rfl,hb4⟩;have HB4:=zH hb4;clear hb4))
 go_ret;rw[HE.out,HN.out];exact⟨rfl,HB1.out.trans (HB4.out.mono (by omega))⟩
theorem EU (m:Mo)(g:Fn)(i:Ins)(w:H5)(hop:i.op=9)(h:dJ w m g i):
  zP 189 #[.agg (jg m g),.agg i.cells] w (.int .i64 (au m g.vs i)):=by
 have HE:Ia (au m g.vs i=bM ((ax g.vs i.a).1&&ax g.vs i.a==ax g.vs i.d) 7):=by
  unfold Ia au;rw[hop];rfl
 obtain⟨R,hR⟩:=zE (au m g.vs i);rw[hR] at HE⊢;clear hR;have HN0:=zH h;obtain⟨N,W1,hN,hW1,hs1,hNlt,⟨i0,i1,i2,i3,i4,i6⟩,HN,HS1,HB1,HR1,HR2,HT,HD,HA,HB⟩:=bT hop h;clear h hop;obtain⟨⟨ba,sa⟩,hta⟩:∃t,ax g.vs i.a=t:=⟨_,rfl⟩
 obtain⟨⟨bd,sd⟩,htd⟩:∃t,ax g.vs i.d=t:=⟨_,rfl⟩
 have hta1:(ax g.vs i.a).1=ba:=by rw[hta]
 have hta2:(ax g.vs i.a).2=sa:=by rw[hta]
 have htd1:(ax g.vs i.d).1=bd:=by rw[htd]
 have htd2:(ax g.vs i.d).2=sd:=by rw[htd]
 have HV:Ia (∀v,v=i.a∨v=i.d→isVar g.vs.length v=true):=fun v h=>by rcases h with rfl|rfl;exact HA.out rfl;exact HD.out rfl
 have HTX:Ia (∀(p:BW W1)(v:Int),isVar g.vs.length v=true→zP 188 #[.agg (jg m g),.int .i64 v] p.w (.agg #[.bool (ax g.vs v).1,.string (ax g.vs v).2])):=fun p v hv=>HT.out p.w v (by rw[HN.out];exact HB1.out.trans (p.h.mono (by omega))) hv;unfold jg at HTX;obtain⟨d,hdd⟩:=zE (((ba,sa):Ty)==(bd,sd));have heq:∀w,(Op.equalIn 10000 32 (.agg #[.bool ba,.string sa]) (.agg #[.bool bd,.string sd])).run prog w= .ok d w:=fun w=>by rw[dC,hdd]
 have HRR:Ia (R=bM (ba&&d) 7):=by unfold Ia;rw[HE.out,hta,htd,hdd]
 have hfld:=jL;have HJ1:Ia (∀p:BW W1,jk p.w N m g):=fun p=>jk.of ((p.h.block N (by omega)).trans HR1.out);have k0:∀p:BW W1,p.w.cell? ⟨N,0,none⟩=some (.slice m.sA m.ss.length m.sC):=fun p=>(HJ1.out p).1;have k1:∀p:BW W1,p.w.cell? ⟨N,1,none⟩=some (.slice m.fA m.fs.length m.fC):=fun p=>(HJ1.out p).2.1;have k2:∀p:BW W1,p.w.cell? ⟨N,2,none⟩=some (.string g.c.nm):=fun p=>(HJ1.out p).2.2.1;have k3:∀p:BW W1,p.w.cell? ⟨N,3,none⟩=some (.int .i64 g.c.par):=fun p=>(HJ1.out p).2.2.2.1;have k4:∀p:BW W1,p.w.cell? ⟨N,4,none⟩=some (.slice g.c.varsA g.c.nvars g.c.varsC):=fun p=>(HJ1.out p).2.2.2.2.1;have k5:∀p:BW W1,p.w.cell? ⟨N,5,none⟩=some (.bool g.c.rp):=fun p=>(HJ1.out p).2.2.2.2.2.1;have k6:∀p:BW W1,p.w.cell? ⟨N,6,none⟩=some (.string g.c.rto):=fun p=>(HJ1.out p).2.2.2.2.2.2.1;have k7:∀p:BW W1,p.w.cell? ⟨N,7,none⟩=some (.int .i64 g.c.rcl):=fun p=>(HJ1.out p).2.2.2.2.2.2.2.1;have k8:∀p:BW W1,p.w.cell? ⟨N,8,none⟩=some (.slice g.c.fromA g.c.nfrom g.c.fromC):=fun p=>(HJ1.out p).2.2.2.2.2.2.2.2.1;have k9:∀p:BW W1,p.w.cell? ⟨N,9,none⟩=some (.slice g.c.insA g.c.ins.length g.c.insC):=fun p=>(HJ1.out p).2.2.2.2.2.2.2.2.2;have i1p:∀p:BW W1,p.w.cell? ⟨N+1,1,none⟩=some (.int .i64 i.d):=fun p=>by rw[p.h.cell (p:=⟨N+1,1,none⟩) hNlt];exact i1
 have i2p:∀p:BW W1,p.w.cell? ⟨N+1,2,none⟩=some (.int .i64 i.a):=fun p=>by rw[p.h.cell (p:=⟨N+1,2,none⟩) hNlt];exact i2
 clear HE hta htd hdd HT HB HN0;cases ba with
 |false=>
  go_enter func189,ntmps189
  go_wp2_with (refine wpList_load_row rfl 184 _ rfl N rfl 184 (jg m g) (0,0) _ HR1.out underlying184 rfl (by kernel_rfl) ?_)
  refine zQ ?_
  repeat (go_big_quiet_step (first
   |(go_at_call 188;exact bg (HTX.out _ _ (HV.out _ (by first|exact .inl rfl|exact .inr rfl))))
   |(go_at_call 99;exact jo (aB _ _ _))))
  refine wpQuiet_nil ?_;rintro _ ⟨p,rfl⟩;go_wp2;go_ret;rw[HRR.out,HN.out];exact⟨rfl,HB1.out.trans (p.h.mono (by omega))⟩
 |true=>
  go_enter func189,ntmps189
  go_wp2_with (refine wpList_load_row rfl 184 _ rfl N rfl 184 (jg m g) (0,0) _ HR1.out underlying184 rfl (by kernel_rfl) ?_)
  refine zQ ?_
  repeat (go_big_quiet_step (first
   |(go_at_call 188;exact bg (HTX.out _ _ (HV.out _ (by first|exact .inl rfl|exact .inr rfl))))
   |(go_at_call 99;exact jo (aB _ _ _))))
  refine wpQuiet_nil ?_;rintro _ ⟨p,rfl⟩;go_wp2;go_ret;rw[HRR.out,HN.out];exact⟨rfl,HB1.out.trans (p.h.mono (by omega))⟩
theorem DX (m:Mo)(g:Fn)(i:Ins)(w:H5)(hop:i.op=12)(h:dJ w m g i):
  zP 189 #[.agg (jg m g),.agg i.cells] w (.int .i64 (au m g.vs i)):=by
 have HE:Ia (au m g.vs i=if i.f<0 then 15 else match m.ss[i.f.toNat]? with
  |none=>15
  |some s=>bM (ax g.vs i.d==(true,s.s.nm)) 7):=by
  unfold Ia au;rw[hop];rfl
 obtain⟨R,hR⟩:=zE (au m g.vs i);rw[hR] at HE⊢;clear hR;have HN0:=zH h;obtain⟨N,W1,hN,hW1,hs1,hNlt,⟨i0,i1,i2,i3,i4,i6⟩,HN,HS1,HB1,HR1,HR2,HT,HD,HA,HB⟩:=bT hop h;clear h hop;have kk0:W1.cell? ⟨N,0,none⟩=some (.slice m.sA m.ss.length m.sC):=(jk.of HR1.out).1
 by_cases hf0:i.f<0
 ·have HRR:Ia (R=15):=by unfold Ia;rw[HE.out,if_pos hf0]
  clear HE HT HD HA HB HN0;go_enter func189,ntmps189
  go_wp2_with (refine wpList_load_row rfl 184 _ rfl N rfl 184 (jg m g) (0,0) _ HR1.out underlying184 rfl (by kernel_rfl) ?_)
  go_ret;rw[HRR.out];exact⟨rfl,by first|exact HB1.out|(rw[HN.out];exact HB1.out)⟩
 obtain⟨F,hF⟩:∃F:Nat,i.f=(F:Int):=⟨i.f.toNat,by omega⟩
 rw[hF] at i4
 by_cases hfl:F<m.ss.length
 ·obtain⟨st,hst⟩:∃f,m.ss[F]?=some f:=⟨_,GN hfl⟩
  have HE2:Ia (R=bM (ax g.vs i.d==(true,st.s.nm)) 7):=by
   unfold Ia;rw[HE.out,if_neg hf0,hF,Ho,hst]
  obtain⟨sb,soff,hsA,hsb,hsc⟩:=HN0.out.j.mo.srow (by intro e;rw[e] at hfl;simp at hfl);have hsbN:sb<N:=by omega
  have c0:w.cell? ⟨sb,soff+F*4,none⟩=some (.string st.s.nm):=hsc F st hst 0 _ rfl;obtain⟨⟨bd,sd⟩,htd⟩:∃t,ax g.vs i.d=t:=⟨_,rfl⟩
  have htd1:(ax g.vs i.d).1=bd:=by rw[htd]
  have htd2:(ax g.vs i.d).2=sd:=by rw[htd]
  have HV:Ia (∀v,v=i.d∨v=i.d→isVar g.vs.length v=true):=fun v h=>by rcases h with rfl|rfl<;>exact HD.out rfl
  have HTX:Ia (∀(p:BW W1)(v:Int),isVar g.vs.length v=true→zP 188 #[.agg (jg m g),.int .i64 v] p.w (.agg #[.bool (ax g.vs v).1,.string (ax g.vs v).2])):=fun p v hv=>HT.out p.w v (by rw[HN.out];exact HB1.out.trans (p.h.mono (by omega))) hv;unfold jg at HTX;obtain⟨d,hdd⟩:=zE (((bd,sd):Ty)==(true,st.s.nm));have heq:∀w,(Op.equalIn 10000 32 (.agg #[.bool bd,.string sd]) (.agg #[.bool true,.string st.s.nm])).run prog w= .ok d w:=fun w=>by rw[dC,hdd]
  have HRR:Ia (R=bM d 7):=by unfold Ia;rw[HE2.out,htd,hdd]
  have HJ1:Ia (∀p:BW W1,jk p.w N m g):=fun p=>jk.of ((p.h.block N (by omega)).trans HR1.out);have k0:∀p:BW W1,p.w.cell? ⟨N,0,none⟩=some (.slice m.sA m.ss.length m.sC):=fun p=>(HJ1.out p).1;have k1:∀p:BW W1,p.w.cell? ⟨N,1,none⟩=some (.slice m.fA m.fs.length m.fC):=fun p=>(HJ1.out p).2.1;have k2:∀p:BW W1,p.w.cell? ⟨N,2,none⟩=some (.string g.c.nm):=fun p=>(HJ1.out p).2.2.1;have k3:∀p:BW W1,p.w.cell? ⟨N,3,none⟩=some (.int .i64 g.c.par):=fun p=>(HJ1.out p).2.2.2.1;have k4:∀p:BW W1,p.w.cell? ⟨N,4,none⟩=some (.slice g.c.varsA g.c.nvars g.c.varsC):=fun p=>(HJ1.out p).2.2.2.2.1;have k5:∀p:BW W1,p.w.cell? ⟨N,5,none⟩=some (.bool g.c.rp):=fun p=>(HJ1.out p).2.2.2.2.2.1;have k6:∀p:BW W1,p.w.cell? ⟨N,6,none⟩=some (.string g.c.rto):=fun p=>(HJ1.out p).2.2.2.2.2.2.1;have k7:∀p:BW W1,p.w.cell? ⟨N,7,none⟩=some (.int .i64 g.c.rcl):=fun p=>(HJ1.out p).2.2.2.2.2.2.2.1;have k8:∀p:BW W1,p.w.cell? ⟨N,8,none⟩=some (.slice g.c.fromA g.c.nfrom g.c.fromC):=fun p=>(HJ1.out p).2.2.2.2.2.2.2.2.1;have k9:∀p:BW W1,p.w.cell? ⟨N,9,none⟩=some (.slice g.c.insA g.c.ins.length g.c.insC):=fun p=>(HJ1.out p).2.2.2.2.2.2.2.2.2;have i1p:∀p:BW W1,p.w.cell? ⟨N+1,1,none⟩=some (.int .i64 i.d):=fun p=>by rw[p.h.cell (p:=⟨N+1,1,none⟩) hNlt];exact i1
  have i4p:∀p:BW W1,p.w.cell? ⟨N+1,4,none⟩=some (.int .i64 (F:Int)):=fun p=>by rw[p.h.cell (p:=⟨N+1,4,none⟩) hNlt];exact i4
  have c0p:∀p:BW W1,p.w.cell? ⟨sb,soff+F*4,none⟩=some (.string st.s.nm):=fun p=>by
   rw[(HB1.out.trans (p.h.mono (by omega))).cell (p:=⟨sb,_,none⟩) hsbN];exact c0
  have hFI:(F:Int)<(m.ss.length:Int):=by omega
  have hsb1:sb<W1.heap.size:=by omega
  have hbld:∀(s:ByteArray)(w:H5),(Instr.build 32 #[(0,.bool true),(1,.string s)]).run prog w= .ok (.agg #[.bool true,.string s]) w:=fun s w=>run_build w 32 _ _ (by kernel_rfl);rw[hsA] at kk0 k0 HTX;have HSA:=zH hsA;clear HE HE2 hdd htd HT HB HN0 hsA hst hfl hF hf0 hsb hsc c0;go_enter func189,ntmps189
  go_wp2_with (refine wpList_load_row rfl 184 _ rfl N rfl 184 (jg m g) (0,0) _ HR1.out underlying184 rfl (by kernel_rfl) ?_)
  refine zQ ?_
  repeat (go_big_quiet_step (first
   |(go_at_call 188;exact bg (HTX.out _ _ (HV.out _ (by first|exact .inl rfl|exact .inr rfl))))
   |(go_at_call 99;exact jo (aB _ _ _))))
  refine wpQuiet_nil ?_;rintro _ ⟨p,rfl⟩;go_wp2;go_ret;rw[HRR.out,HN.out];exact⟨rfl,HB1.out.trans (p.h.mono (by omega))⟩
 ·have HRR:Ia (R=15):=by unfold Ia;rw[HE.out,if_neg hf0,hF,Ho,List.getElem?_eq_none (by omega)]
  have hFI:¬((F:Int)<(m.ss.length:Int)):=by omega
  clear HE HT HD HA HB HN0 hfl hF hf0;go_enter func189,ntmps189
  go_wp2_with (refine wpList_load_row rfl 184 _ rfl N rfl 184 (jg m g) (0,0) _ HR1.out underlying184 rfl (by kernel_rfl) ?_)
  go_ret;rw[HRR.out];exact⟨rfl,by first|exact HB1.out|(rw[HN.out];exact HB1.out)⟩
theorem AU {w:H5}{B:Nat}{xs:List Int}(hB:B=w.heap.size):ak (w.alloc (.cells (xs.map (Value.int .i64)).toArray 3)) (some ⟨B,0,none⟩) xs:=by
 subst hB;intro _;refine⟨w.heap.size,0,rfl,by simp,fun k u hk=> ?_⟩;rw[Hf,World.cell?_alloc_new];simp[hk]
theorem qR {w:H5}{B:Nat}{xs:List ByteArray}(hB:B=w.heap.size):aQ (w.alloc (.cells (xs.map Value.string).toArray 9)) (some ⟨B,0,none⟩) xs:=by
 subst hB;intro _;refine⟨w.heap.size,0,rfl,by simp,fun k u hk=> ?_⟩;rw[Hf,World.cell?_alloc_new];simp[hk]
theorem EW (m:Mo)(g:Fn)(i:Ins)(w:H5)(hop:i.op=4)(h:dJ w m g i):
  zP 189 #[.agg (jg m g),.agg i.cells] w (.int .i64 (au m g.vs i)):=by
 have HE:Ia (au m g.vs i=d9 (dR g.vs [i.d,i.a,i.b]) i.sign gm):=by
  unfold Ia au;rw[hop];rfl
 obtain⟨R,hR⟩:=zE (au m g.vs i);rw[hR] at HE⊢;clear hR;have HN0:=zH h;obtain⟨N,W1,hN,hW1,hs1,hNlt,⟨i0,i1,i2,i3,i4,i6⟩,HN,HS1,HB1,HR1,HR2,HT,HD,HA,HB⟩:=bT hop h;clear h hop;obtain⟨r0,hr0⟩:=zE (dR g.vs [i.d,i.a,i.b]);rw[hr0] at HE;have HNC:Ia (∀(W:H5)(blk:Nat),H9 W1.heap.size W1 W→ak W (some ⟨blk,0,none⟩) [i.d,i.a,i.b]→zP 187 #[.agg (jg m g),.slice (some ⟨blk,0,none⟩) 3 3] W (.int .i64 r0)):=by
  intro W blk hW hat;have hj:=HN0.out.j.below (by rw[HN.out];exact HB1.out.trans (hW.mono (by omega)):H9 w.heap.size w W);have:=cB m g (some ⟨blk,0,none⟩) [i.d,i.a,i.b] 3 W hj.vars hj.nv hj.vl (by unfold maxLen;simp) hat (by simp;exact⟨HD.out rfl,HA.out rfl,HB.out rfl⟩);rw[hr0] at this;exact this
 have HSC:Ia (∀(W:H5)(blk:Nat),aQ W (some ⟨blk,0,none⟩) gm→zS 226 #[.int .i64 r0,.string i.sign,.slice (some ⟨blk,0,none⟩) 11 11] W (.int .i64 R)):=by
  intro W blk hat;rw[HE.out];exact nA r0 i.sign gm (some ⟨blk,0,none⟩) 11 W (by unfold maxLen gm;simp) hat
 have HKP:Ia (∀W,H9 W1.heap.size W1 W→W.cell? ⟨N+1,1,none⟩=some (.int .i64 i.d)∧W.cell? ⟨N+1,2,none⟩=some (.int .i64 i.a)∧W.cell? ⟨N+1,3,none⟩=some (.int .i64 i.b)∧W.cell? ⟨N+1,6,none⟩=some (.string i.sign)∧H9 W1.heap.size W1 W):=fun W hW=>
  ⟨by rw[hW.cell (p:=⟨N+1,1,none⟩) hNlt];exact i1,by rw[hW.cell (p:=⟨N+1,2,none⟩) hNlt];exact i2,by rw[hW.cell (p:=⟨N+1,3,none⟩) hNlt];exact i3,by rw[hW.cell (p:=⟨N+1,6,none⟩) hNlt];exact i6,hW⟩
 have HI:Ia (∀(W:H5)(B:Nat),B=W.heap.size→ak (W.alloc (.cells #[.int .i64 i.d,.int .i64 i.a,.int .i64 i.b] 3)) (some ⟨B,0,none⟩) [i.d,i.a,i.b]):=fun W B hB=>AU hB;have HST:Ia (∀(W:H5)(B:Nat),B=W.heap.size→aQ (W.alloc (.cells #[.string ⟨#[43]⟩,.string ⟨#[45]⟩,.string ⟨#[42]⟩,.string ⟨#[47]⟩,.string ⟨#[37]⟩,.string ⟨#[60]⟩,.string ⟨#[60,61]⟩,.string ⟨#[62]⟩,.string ⟨#[62,61]⟩,.string ⟨#[61,61]⟩,.string ⟨#[33,61]⟩] 9)) (some ⟨B,0,none⟩) gm):=fun W B hB=>qR hB;clear HE HD HA HB HT HN0 hr0;go_enter func189,ntmps189
 go_wp2_with (refine wpList_load_row rfl 184 _ rfl N rfl 184 (jg m g) (0,0) _ HR1.out underlying184 rfl (by kernel_rfl) ?_)
 go_region_held3 (fun w'=>w'.cell? ⟨N+1,1,none⟩=some (.int .i64 i.d)∧w'.cell? ⟨N+1,2,none⟩=some (.int .i64 i.a)∧w'.cell? ⟨N+1,3,none⟩=some (.int .i64 i.b)∧w'.cell? ⟨N+1,6,none⟩=some (.string i.sign)∧H9 W1.heap.size W1 w')
  (first
   |(exact hS)
   |(exact HKP.out _ ((Hw _ _).drew))
   |(exact HKP.out _ (((Hw _ _).drew).alloc (by simp) _))
   |(exact HKP.out _ ((((Hw _ _).drew).alloc (by simp) _).alloc (by simp<;>omega) _))
   |(exact HKP.out _ hbb)
   |(exact HKP.out _ (hbb.alloc (by have:=hbb.size;omega) _))
   |fail)
  (first
   |(go_at_call 187;first
      |(refine(HNC.out _ _ (((Hw _ _).drew).alloc (by simp) _) (HI.out _ _ (by simp<;>omega))).mono ?_;rintro e w11 ⟨rfl,hb11⟩;have hbb:H9 W1.heap.size W1 w11:=(((Hw _ _).drew).alloc (by simp) _).trans (hb11.mono (by simp));have hS:=HKP.out _ hbb)
      |(refine(HNC.out _ _ ((((Hw _ _).drew).alloc (by simp) _).alloc (by simp<;>omega) _) (HI.out _ _ (by simp<;>omega))).mono ?_;rintro e w11 ⟨rfl,hb11⟩;have hbb:H9 W1.heap.size W1 w11:=((((Hw _ _).drew).alloc (by simp) _).alloc (by simp<;>omega) _).trans (hb11.mono (by simp<;>omega));have hS:=HKP.out _ hbb)
      |(refine(HNC.out _ _ ((((Hw _ _).drew).alloc (by simp) _).alloc (by simp<;>omega) _) ((HI.out _ _ (by simp<;>omega)).below ((Hw _ _).alloc (He _) _))).mono ?_;rintro e w11 ⟨rfl,hb11⟩;have hbb:H9 W1.heap.size W1 w11:=((((Hw _ _).drew).alloc (by simp) _).alloc (by simp<;>omega) _).trans (hb11.mono (by simp<;>omega));have hS:=HKP.out _ hbb))
   |(go_at_call 226;first
      |(refine(HSC.out _ _ (HST.out _ _ (by simp))).mono ?_;rintro e w12 ⟨rfl,rfl⟩)
      |(refine(HSC.out _ _ ((HST.out _ _ (by simp<;>omega)).below hb11)).mono ?_;rintro e w12 ⟨rfl,rfl⟩)
      |(refine(HSC.out _ _ (((HST.out _ _ (by simp<;>omega)).below ((Hw _ _).alloc (He _) _)).below hb11)).mono ?_;rintro e w12 ⟨rfl,rfl⟩)))
 all_goals
  clear hS;go_wp2;go_ret;refine⟨rfl, ?_⟩;rw[HN.out];exact HB1.out.trans (Below.mono (by first|exact hbb|exact hbb.alloc (by have:=hbb.size;omega) _) (by omega))
section
variable {P:Program}{ops:Array Oper}{Q:Exit→Act→H5→Prop}{md:Region.Mode}{S:H5→Prop}
theorem zW (i:Nat)(v:Value){oi:Oper}{fuel:Nat}{listed:Array Bool}{a:Act}{w:H5}(hi:ops[i]?=some oi)
  (h:wpAnyH P md ops Q S fuel (listed.setIfInBounds i true) (a.put oi.dst v) w)
  (hy:∀w,S w→(execOp a.eval oi).run P w= .ok (.value v) w:=by intro w hSw;(try dsimp only at hSw);go_simp)
  (hw:Region.wanted oi (yielded ops a.tmps)=true:=by rfl)(hs:Region.noSelect ops=true:=by kernel_rfl)(hf:Region.free md ops listed i=true:=by kernel_rfl)(hr:(Region.ready md ops listed).contains i=true:=by kernel_rfl)
  (hQ:∀c a w,Q (.panic c) (a.put oi.dst v) w→Q (.panic c) a w:=by exact fun _ _ _ h=>h)(hS:S w:=by assumption):wpAnyH P md ops Q S (fuel+1) listed a w:=
 wpAnyH_take hi hs hf hr hQ (.inl ⟨hw,hy⟩) hS h
theorem zX (i:Nat){oi:Oper}{fuel:Nat}{listed:Array Bool}{a:Act}{w:H5}(hi:ops[i]?=some oi)
  (h:wpAnyH P md ops Q S fuel (listed.setIfInBounds i true) (a.put oi.dst undef) w)
  (hw:Region.wanted oi (yielded ops a.tmps)=false:=by rfl)(hs:Region.noSelect ops=true:=by kernel_rfl)(hf:Region.free md ops listed i=true:=by kernel_rfl)(hr:(Region.ready md ops listed).contains i=true:=by kernel_rfl)
  (hQ:∀c a w,Q (.panic c) (a.put oi.dst undef) w→Q (.panic c) a w:=by exact fun _ _ _ h=>h)(hS:S w:=by assumption):wpAnyH P md ops Q S (fuel+1) listed a w:=
 wpAnyH_take hi hs hf hr hQ (.inr ⟨hw,rfl⟩) hS h
end
theorem DY (m:Mo)(g:Fn)(i:Ins)(w:H5)(hop:i.op=14)(h:dJ w m g i):
  zP 189 #[.agg (jg m g),.agg i.cells] w (.int .i64 (au m g.vs i)):=by
 have HE:Ia (au m g.vs i=d9 (bM (!(ax g.vs i.d).1&&(ax g.vs i.a).1) 7) i.sign jb):=by
  unfold Ia au;rw[hop];rfl
 obtain⟨R,hR⟩:=zE (au m g.vs i);rw[hR] at HE⊢;clear hR;have HN0:=zH h;obtain⟨N,W1,hN,hW1,hs1,hNlt,⟨i0,i1,i2,i3,i4,i6⟩,HN,HS1,HB1,HR1,HR2,HT,HD,HA,HB⟩:=bT hop h;clear h hop;obtain⟨⟨ba,sa⟩,hta⟩:∃t,ax g.vs i.a=t:=⟨_,rfl⟩
 obtain⟨⟨bd,sd⟩,htd⟩:∃t,ax g.vs i.d=t:=⟨_,rfl⟩
 have hta1:(ax g.vs i.a).1=ba:=by rw[hta]
 have hta2:(ax g.vs i.a).2=sa:=by rw[hta]
 have htd1:(ax g.vs i.d).1=bd:=by rw[htd]
 have htd2:(ax g.vs i.d).2=sd:=by rw[htd]
 have HV:Ia (∀v,v=i.a∨v=i.d→isVar g.vs.length v=true):=fun v h=>by rcases h with rfl|rfl;exact HA.out rfl;exact HD.out rfl
 have HTX:Ia (∀(W:H5)(v:Int),H9 W1.heap.size W1 W→isVar g.vs.length v=true→Calls prog 188 #[.agg #[.slice m.sA m.ss.length m.sC,.slice m.fA m.fs.length m.fC,.string g.c.nm,.int .i64 g.c.par,.slice g.c.varsA g.c.nvars g.c.varsC,.bool g.c.rp,.string g.c.rto,.int .i64 g.c.rcl,.slice g.c.fromA g.c.nfrom g.c.fromC,.slice g.c.insA g.c.ins.length g.c.insC],.int .i64 v] W fun e w'=>e= .returned (.agg #[.bool (ax g.vs v).1,.string (ax g.vs v).2])∧H9 W1.heap.size W1 w'∧H9 W.heap.size W w'):=by
  intro W v hW hv;refine(HT.out W v (by rw[HN.out];exact HB1.out.trans (hW.mono (by omega))) hv).mono ?_;rintro e w' ⟨rfl,hb⟩;exact⟨rfl,hW.trans (hb.mono hW.size),hb⟩
 have HRR:Ia (R=d9 (bM (!bd&&ba) 7) i.sign jb):=by unfold Ia;rw[HE.out,hta,htd]
 have HSC:Ia (∀(W:H5)(blk:Nat),aQ W (some ⟨blk,0,none⟩) jb→zS 226 #[.int .i64 (bM (!bd&&ba) 7),.string i.sign,.slice (some ⟨blk,0,none⟩) 2 2] W (.int .i64 R)):=by
  intro W blk hat;rw[HRR.out];exact nA _ i.sign jb (some ⟨blk,0,none⟩) 2 W (by unfold maxLen jb;simp) hat
 have HJP:Ia (∀W,H9 W1.heap.size W1 W→jk W N m g):=fun W hW=>jk.of ((hW.block N (by omega)).trans HR1.out);have HKP:Ia (∀W,H9 W1.heap.size W1 W→W.cell? ⟨N,0,none⟩=some (.slice m.sA m.ss.length m.sC)∧W.cell? ⟨N,1,none⟩=some (.slice m.fA m.fs.length m.fC)∧W.cell? ⟨N,2,none⟩=some (.string g.c.nm)∧W.cell? ⟨N,3,none⟩=some (.int .i64 g.c.par)∧W.cell? ⟨N,4,none⟩=some (.slice g.c.varsA g.c.nvars g.c.varsC)∧W.cell? ⟨N,5,none⟩=some (.bool g.c.rp)∧W.cell? ⟨N,6,none⟩=some (.string g.c.rto)∧W.cell? ⟨N,7,none⟩=some (.int .i64 g.c.rcl)∧W.cell? ⟨N,8,none⟩=some (.slice g.c.fromA g.c.nfrom g.c.fromC)∧W.cell? ⟨N,9,none⟩=some (.slice g.c.insA g.c.ins.length g.c.insC)∧W.cell? ⟨N+1,1,none⟩=some (.int .i64 i.d)∧W.cell? ⟨N+1,2,none⟩=some (.int .i64 i.a)∧W.cell? ⟨N+1,6,none⟩=some (.string i.sign)∧H9 W1.heap.size W1 W):=fun W hW=>by
  obtain⟨a0,a1,a2,a3,a4,a5,a6,a7,a8,a9⟩:=HJP.out W hW;exact⟨a0,a1,a2,a3,a4,a5,a6,a7,a8,a9,by rw[hW.cell (p:=⟨N+1,1,none⟩) hNlt];exact i1,by rw[hW.cell (p:=⟨N+1,2,none⟩) hNlt];exact i2,by rw[hW.cell (p:=⟨N+1,6,none⟩) hNlt];exact i6,hW⟩
 have HST:Ia (∀(W:H5)(B:Nat),B=W.heap.size→aQ (W.alloc (.cells #[.string ⟨#[61,61]⟩,.string ⟨#[33,61]⟩] 9)) (some ⟨B,0,none⟩) jb):=fun W B hB=>qR hB;have hfld:=jL;clear HE HD HA HB HT HN0 hta htd HJP HRR;cases bd with
 |false=>
  go_enter func189,ntmps189
  go_wp2_with (refine wpList_load_row rfl 184 _ rfl N rfl 184 (jg m g) (0,0) _ HR1.out underlying184 rfl (by kernel_rfl) ?_)
  go_region_held3 (fun w'=>w'.cell? ⟨N,0,none⟩=some (.slice m.sA m.ss.length m.sC)∧w'.cell? ⟨N,1,none⟩=some (.slice m.fA m.fs.length m.fC)∧w'.cell? ⟨N,2,none⟩=some (.string g.c.nm)∧w'.cell? ⟨N,3,none⟩=some (.int .i64 g.c.par)∧w'.cell? ⟨N,4,none⟩=some (.slice g.c.varsA g.c.nvars g.c.varsC)∧w'.cell? ⟨N,5,none⟩=some (.bool g.c.rp)∧w'.cell? ⟨N,6,none⟩=some (.string g.c.rto)∧w'.cell? ⟨N,7,none⟩=some (.int .i64 g.c.rcl)∧w'.cell? ⟨N,8,none⟩=some (.slice g.c.fromA g.c.nfrom g.c.fromC)∧w'.cell? ⟨N,9,none⟩=some (.slice g.c.insA g.c.ins.length g.c.insC)∧w'.cell? ⟨N+1,1,none⟩=some (.int .i64 i.d)∧w'.cell? ⟨N+1,2,none⟩=some (.int .i64 i.a)∧w'.cell? ⟨N+1,6,none⟩=some (.string i.sign)∧H9 W1.heap.size W1 w')
   (first
    |(exact hS)
    |(exact HKP.out _ (by first|exact(Hw _ _).drew|exact((Hw _ _).drew).alloc (by simp) _|exact hbb|exact hbb.alloc (by have:=hbb.size;omega) _|fail))
    |fail)
   (first
    |(go_at_call 188;refine(HTX.out _ _ (by first|exact(Hw _ _).drew|exact((Hw _ _).drew).alloc (by simp) _|exact hbb|exact hbb.alloc (by have:=hbb.size;omega) _|fail) (HV.out _ (by first|exact .inl rfl|exact .inr rfl))).mono ?_;rintro e w11 ⟨rfl,hbb,hb11⟩;have hS:=HKP.out _ hbb)
    |(go_at_call 99;refine(aB _ _ _).mono ?_;rintro e w12 ⟨rfl,rfl⟩)
    |(go_at_call 226;refine(HSC.out _ _ (by first|exact HST.out _ _ rfl|(refine aQ.below ?_ hb11;exact HST.out _ _ rfl)|(refine aQ.below ?_ hb11;refine aQ.below ?_ ((Hw _ _).drew);exact HST.out _ _ (by first|omega|(simp<;>omega)))|(refine aQ.below ?_ hb11;refine aQ.below ?_ (by assumption);refine aQ.below ?_ ((Hw _ _).drew);exact HST.out _ _ (by first|omega|(simp<;>omega)))|fail)).mono ?_;rintro e w12 ⟨rfl,rfl⟩))
  all_goals
   clear hS;go_wp2;go_ret;refine⟨rfl, ?_⟩;rw[HN.out];exact HB1.out.trans (Below.mono (by first|exact hbb|exact hbb.alloc (by have:=hbb.size;omega) _) (by omega))
 |true=>
  go_enter func189,ntmps189
  go_wp2_with (refine wpList_load_row rfl 184 _ rfl N rfl 184 (jg m g) (0,0) _ HR1.out underlying184 rfl (by kernel_rfl) ?_)
  refine wp_region_held_drew (S:=(fun w'=>w'.cell? ⟨N,0,none⟩=some (.slice m.sA m.ss.length m.sC)∧w'.cell? ⟨N,1,none⟩=some (.slice m.fA m.fs.length m.fC)∧w'.cell? ⟨N,2,none⟩=some (.string g.c.nm)∧w'.cell? ⟨N,3,none⟩=some (.int .i64 g.c.par)∧w'.cell? ⟨N,4,none⟩=some (.slice g.c.varsA g.c.nvars g.c.varsC)∧w'.cell? ⟨N,5,none⟩=some (.bool g.c.rp)∧w'.cell? ⟨N,6,none⟩=some (.string g.c.rto)∧w'.cell? ⟨N,7,none⟩=some (.int .i64 g.c.rcl)∧w'.cell? ⟨N,8,none⟩=some (.slice g.c.fromA g.c.nfrom g.c.fromC)∧w'.cell? ⟨N,9,none⟩=some (.slice g.c.insA g.c.ins.length g.c.insC)∧w'.cell? ⟨N+1,1,none⟩=some (.int .i64 i.d)∧w'.cell? ⟨N+1,2,none⟩=some (.int .i64 i.a)∧w'.cell? ⟨N+1,6,none⟩=some (.string i.sign)∧H9 W1.heap.size W1 w')) (by kernel_rfl) (HKP.out _ (Hw _ _).drew) (fun hHeld=> ?_);refine zW 0 (.agg #[.slice m.sA m.ss.length m.sC,.slice m.fA m.fs.length m.fC,.string g.c.nm,.int .i64 g.c.par,.slice g.c.varsA g.c.nvars g.c.varsC,.bool g.c.rp,.string g.c.rto,.int .i64 g.c.rcl,.slice g.c.fromA g.c.nfrom g.c.fromC,.slice g.c.insA g.c.ins.length g.c.insC]) rfl ?_
  try simp only[Act.put,G9,G6,GX,GY,GZ]
  refine zW 1 (.pointer (some ⟨N+1,1,none⟩)) rfl ?_
  try simp only[Act.put,G9,G6,G7,GX,GY,GZ]
  refine zW 2 (.int .i64 i.d) rfl ?_
  try simp only[Act.put,G9,G6,G7,GX,GY,GZ]
  refine zW 14 (.pointer (some ⟨N+1,6,none⟩)) rfl ?_
  try simp only[Act.put,G9,G6,G7,GX,GY,GZ]
  refine zW 15 (.string i.sign) rfl ?_
  try simp only[Act.put,G9,G6,G7,GX,GY,GZ]
  refine wpAnyH_ready (rs:=[3,16]) (by kernel_rfl) (by simp) ?_;refine AllReadyH.cons rfl (fun K hK=> ?_) ?_
  ·
   go_simp
   (go_at_call 188;refine(HTX.out _ _ (by first|exact(Hw _ _).drew|exact((Hw _ _).drew).alloc (by simp) _|exact hbb|exact hbb.alloc (by have:=hbb.size;omega) _|fail) (HV.out _ (by first|exact .inl rfl|exact .inr rfl))).mono ?_;rintro e w11 ⟨rfl,hbb,hb11⟩;have hS:=HKP.out _ hbb)
   go_wp2_with fail
   refine hK.out _ _ (by first|exact hS|exact HKP.out _ (by first|exact(Hw _ _).drew|exact((Hw _ _).drew).alloc (by simp) _|exact hbb|exact hbb.alloc (by have:=hbb.size;omega) _|fail)|fail) (fun hHeld=> ?_);clear hK K
   try simp only[Act.put,G9,G6,G7,GX,GY,GZ]
   refine zW 4 (.bool true) rfl ?_
   try simp only[Act.put,G9,G6,G7,GX,GY,GZ]
   refine zW 5 (.bool false) rfl ?_
   try simp only[Act.put,G9,G6,G7,GX,GY,GZ]
   refine zW 6 (.bool false) rfl ?_
   try simp only[Act.put,G9,G6,G7,GX,GY,GZ]
   refine zX 7 rfl ?_
   try simp only[Act.put,G9,G6,G7,GX,GY,GZ]
   refine zX 8 rfl ?_
   try simp only[Act.put,G9,G6,G7,GX,GY,GZ]
   refine zX 9 rfl ?_
   try simp only[Act.put,G9,G6,G7,GX,GY,GZ]
   refine zX 10 rfl ?_
   try simp only[Act.put,G9,G6,G7,GX,GY,GZ]
   refine zX 11 rfl ?_
   try simp only[Act.put,G9,G6,G7,GX,GY,GZ]
   refine zW 12 (.bool false) rfl ?_
   try simp only[Act.put,G9,G6,G7,GX,GY,GZ]
   refine wpAnyH_ready (rs:=[13,16]) (by kernel_rfl) (by simp) ?_;refine AllReadyH.cons rfl (fun K hK=> ?_) ?_
   ·
    go_simp
    (go_at_call 99;refine(aB _ _ _).mono ?_;rintro e w12 ⟨rfl,rfl⟩)
    go_wp2_with fail
    refine hK.out _ _ (by first|exact hS|exact HKP.out _ (by first|exact(Hw _ _).drew|exact((Hw _ _).drew).alloc (by simp) _|exact hbb|exact hbb.alloc (by have:=hbb.size;omega) _|fail)|fail) (fun hHeld=> ?_);clear hK K
    try simp only[Act.put,G9,G6,G7,GX,GY,GZ]
    refine wpAnyH_ready (rs:=[16]) (by kernel_rfl) (by simp) ?_;refine AllReadyH.cons rfl (fun K hK=> ?_) ?_
    ·
     go_simp;refine hK.out _ _ (by first|exact hS|exact HKP.out _ (by first|exact(Hw _ _).drew|exact((Hw _ _).drew).alloc (by simp) _|exact hbb|exact hbb.alloc (by have:=hbb.size;omega) _|fail)|fail) (fun hHeld=> ?_);clear hK K
     try simp only[Act.put,G9,G6,G7,GX,GY,GZ]
     refine wpAnyH_ready (rs:=[17]) (by kernel_rfl) (by simp) ?_;refine AllReadyH.cons rfl (fun K hK=> ?_) ?_
     ·
      go_simp
      (go_at_call 226;refine(HSC.out _ _ (by first|exact HST.out _ _ rfl|(refine aQ.below ?_ hb11;exact HST.out _ _ rfl)|(refine aQ.below ?_ hb11;refine aQ.below ?_ ((Hw _ _).drew);exact HST.out _ _ (by first|omega|(simp<;>omega)))|(refine aQ.below ?_ hb11;refine aQ.below ?_ (by assumption);refine aQ.below ?_ ((Hw _ _).drew);exact HST.out _ _ (by first|omega|(simp<;>omega)))|fail)).mono ?_;rintro e w12 ⟨rfl,rfl⟩)
      go_wp2_with fail
      refine hK.out _ _ (by first|exact hS|exact HKP.out _ (by first|exact(Hw _ _).drew|exact((Hw _ _).drew).alloc (by simp) _|exact hbb|exact hbb.alloc (by have:=hbb.size;omega) _|fail)|fail) (fun hHeld=> ?_);clear hK K
      try simp only[Act.put,G9,G6,G7,GX,GY,GZ]
      refine zW 18 (.int .i64 R) rfl ?_
      try simp only[Act.put,G9,G6,G7,GX,GY,GZ]
      refine wpAnyH_done (by kernel_rfl) ?_ _;go_wp2;go_ret;refine⟨rfl, ?_⟩;rw[HN.out];exact HB1.out.trans (Below.mono (by first|exact hbb|exact hbb.alloc (by have:=hbb.size;omega) _) (by omega))
     exact AllReadyH.nil
    exact AllReadyH.nil
   refine AllReadyH.cons rfl (fun K hK=> ?_) ?_
   ·
    go_simp;refine hK.out _ _ (by first|exact hS|exact HKP.out _ (by first|exact(Hw _ _).drew|exact((Hw _ _).drew).alloc (by simp) _|exact hbb|exact hbb.alloc (by have:=hbb.size;omega) _|fail)|fail) (fun hHeld=> ?_);clear hK K
    try simp only[Act.put,G9,G6,G7,GX,GY,GZ]
    refine wpAnyH_ready (rs:=[13]) (by kernel_rfl) (by simp) ?_;refine AllReadyH.cons rfl (fun K hK=> ?_) ?_
    ·
     go_simp
     (go_at_call 99;refine(aB _ _ _).mono ?_;rintro e w12 ⟨rfl,rfl⟩)
     go_wp2_with fail
     refine hK.out _ _ (by first|exact hS|exact HKP.out _ (by first|exact(Hw _ _).drew|exact((Hw _ _).drew).alloc (by simp) _|exact hbb|exact hbb.alloc (by have:=hbb.size;omega) _|fail)|fail) (fun hHeld=> ?_);clear hK K
     try simp only[Act.put,G9,G6,G7,GX,GY,GZ]
     refine wpAnyH_ready (rs:=[17]) (by kernel_rfl) (by simp) ?_;refine AllReadyH.cons rfl (fun K hK=> ?_) ?_
     ·
      go_simp
      (go_at_call 226;refine(HSC.out _ _ (by first|exact HST.out _ _ rfl|(refine aQ.below ?_ hb11;exact HST.out _ _ rfl)|(refine aQ.below ?_ hb11;refine aQ.below ?_ ((Hw _ _).drew);exact HST.out _ _ (by first|omega|(simp<;>omega)))|(refine aQ.below ?_ hb11;refine aQ.below ?_ (by assumption);refine aQ.below ?_ ((Hw _ _).drew);exact HST.out _ _ (by first|omega|(simp<;>omega)))|fail)).mono ?_;rintro e w12 ⟨rfl,rfl⟩)
      go_wp2_with fail
      refine hK.out _ _ (by first|exact hS|exact HKP.out _ (by first|exact(Hw _ _).drew|exact((Hw _ _).drew).alloc (by simp) _|exact hbb|exact hbb.alloc (by have:=hbb.size;omega) _|fail)|fail) (fun hHeld=> ?_);clear hK K
      try simp only[Act.put,G9,G6,G7,GX,GY,GZ]
      refine zW 18 (.int .i64 R) rfl ?_
      try simp only[Act.put,G9,G6,G7,GX,GY,GZ]
      refine wpAnyH_done (by kernel_rfl) ?_ _;go_wp2;go_ret;refine⟨rfl, ?_⟩;rw[HN.out];exact HB1.out.trans (Below.mono (by first|exact hbb|exact hbb.alloc (by have:=hbb.size;omega) _) (by omega))
     exact AllReadyH.nil
    exact AllReadyH.nil
   exact AllReadyH.nil
  refine AllReadyH.cons rfl (fun K hK=> ?_) ?_
  ·
   go_simp;refine hK.out _ _ (by first|exact hS|exact HKP.out _ (by first|exact(Hw _ _).drew|exact((Hw _ _).drew).alloc (by simp) _|exact hbb|exact hbb.alloc (by have:=hbb.size;omega) _|fail)|fail) (fun hHeld=> ?_);clear hK K
   try simp only[Act.put,G9,G6,G7,GX,GY,GZ]
   refine wpAnyH_ready (rs:=[3]) (by kernel_rfl) (by simp) ?_;refine AllReadyH.cons rfl (fun K hK=> ?_) ?_
   ·
    go_simp
    (go_at_call 188;refine(HTX.out _ _ (by first|exact(Hw _ _).drew|exact((Hw _ _).drew).alloc (by simp) _|exact hbb|exact hbb.alloc (by have:=hbb.size;omega) _|fail) (HV.out _ (by first|exact .inl rfl|exact .inr rfl))).mono ?_;rintro e w11 ⟨rfl,hbb,hb11⟩;have hS:=HKP.out _ hbb)
    go_wp2_with fail
    refine hK.out _ _ (by first|exact hS|exact HKP.out _ (by first|exact(Hw _ _).drew|exact((Hw _ _).drew).alloc (by simp) _|exact hbb|exact hbb.alloc (by have:=hbb.size;omega) _|fail)|fail) (fun hHeld=> ?_);clear hK K
    try simp only[Act.put,G9,G6,G7,GX,GY,GZ]
    refine zW 4 (.bool true) rfl ?_
    try simp only[Act.put,G9,G6,G7,GX,GY,GZ]
    refine zW 5 (.bool false) rfl ?_
    try simp only[Act.put,G9,G6,G7,GX,GY,GZ]
    refine zW 6 (.bool false) rfl ?_
    try simp only[Act.put,G9,G6,G7,GX,GY,GZ]
    refine zX 7 rfl ?_
    try simp only[Act.put,G9,G6,G7,GX,GY,GZ]
    refine zX 8 rfl ?_
    try simp only[Act.put,G9,G6,G7,GX,GY,GZ]
    refine zX 9 rfl ?_
    try simp only[Act.put,G9,G6,G7,GX,GY,GZ]
    refine zX 10 rfl ?_
    try simp only[Act.put,G9,G6,G7,GX,GY,GZ]
    refine zX 11 rfl ?_
    try simp only[Act.put,G9,G6,G7,GX,GY,GZ]
    refine zW 12 (.bool false) rfl ?_
    try simp only[Act.put,G9,G6,G7,GX,GY,GZ]
    refine wpAnyH_ready (rs:=[13]) (by kernel_rfl) (by simp) ?_;refine AllReadyH.cons rfl (fun K hK=> ?_) ?_
    ·
     go_simp
     (go_at_call 99;refine(aB _ _ _).mono ?_;rintro e w12 ⟨rfl,rfl⟩)
     go_wp2_with fail
     refine hK.out _ _ (by first|exact hS|exact HKP.out _ (by first|exact(Hw _ _).drew|exact((Hw _ _).drew).alloc (by simp) _|exact hbb|exact hbb.alloc (by have:=hbb.size;omega) _|fail)|fail) (fun hHeld=> ?_);clear hK K
     try simp only[Act.put,G9,G6,G7,GX,GY,GZ]
     refine wpAnyH_ready (rs:=[17]) (by kernel_rfl) (by simp) ?_;refine AllReadyH.cons rfl (fun K hK=> ?_) ?_
     ·
      go_simp
      (go_at_call 226;refine(HSC.out _ _ (by first|exact HST.out _ _ rfl|(refine aQ.below ?_ hb11;exact HST.out _ _ rfl)|(refine aQ.below ?_ hb11;refine aQ.below ?_ ((Hw _ _).drew);exact HST.out _ _ (by first|omega|(simp<;>omega)))|(refine aQ.below ?_ hb11;refine aQ.below ?_ (by assumption);refine aQ.below ?_ ((Hw _ _).drew);exact HST.out _ _ (by first|omega|(simp<;>omega)))|fail)).mono ?_;rintro e w12 ⟨rfl,rfl⟩)
      go_wp2_with fail
      refine hK.out _ _ (by first|exact hS|exact HKP.out _ (by first|exact(Hw _ _).drew|exact((Hw _ _).drew).alloc (by simp) _|exact hbb|exact hbb.alloc (by have:=hbb.size;omega) _|fail)|fail) (fun hHeld=> ?_);clear hK K
      try simp only[Act.put,G9,G6,G7,GX,GY,GZ]
      refine zW 18 (.int .i64 R) rfl ?_
      try simp only[Act.put,G9,G6,G7,GX,GY,GZ]
      refine wpAnyH_done (by kernel_rfl) ?_ _;go_wp2;go_ret;refine⟨rfl, ?_⟩;rw[HN.out];exact HB1.out.trans (Below.mono (by first|exact hbb|exact hbb.alloc (by have:=hbb.size;omega) _) (by omega))
     exact AllReadyH.nil
    exact AllReadyH.nil
   exact AllReadyH.nil
  exact AllReadyH.nil
def oF:List ByteArray:=[⟨#[110,117,109]⟩,⟨#[110,117,108,108]⟩,⟨#[99,111,112,121]⟩,⟨#[98,105,110]⟩,⟨#[103,101,116]⟩,⟨#[112,117,116]⟩,⟨#[108,111,97,100]⟩,⟨#[115,116,111,114,101]⟩,⟨#[103,105,118,101]⟩,⟨#[116,97,107,101]⟩,⟨#[115,101,116]⟩,⟨#[110,101,119]⟩,⟨#[102,114,101,101]⟩,⟨#[105,115,110,117,108,108]⟩,⟨#[99,97,108,108]⟩,⟨#[106,117,109,112]⟩,⟨#[98,114,97,110,99,104]⟩,⟨#[114,101,116]⟩]
def jc (op:Int):ByteArray:=if op<1∨18<op then⟨#[]⟩ else(oF[(op-1).toNat]?).getD ⟨#[]⟩
theorem uP {op:Int}(h1:¬op<1)(h2:¬18<op):∃(k:Nat) (s:ByteArray),op-1=(k:Int)∧k<18∧oF[k]?=some s∧jc op=s:=by
 obtain⟨k,hk⟩:∃k:Nat,op-1=(k:Int):=⟨(op-1).toNat,by omega⟩
 have hk18:k<18:=by omega
 obtain⟨s,hs⟩:∃s,oF[k]?=some s:=⟨_,GN (show k<oF.length from hk18)⟩
 refine⟨k,s,hk,hk18,hs, ?_⟩;unfold jc;rw[if_neg (by omega),hk,Ho,hs];rfl
theorem yN {op:Int}:(jc op==⟨#[]⟩)=(decide (op<1)||decide (18<op)):=by
 by_cases h:op<1∨18<op
 ·have e:jc op=⟨#[]⟩:=if_pos h
  rw[e];rcases h with h|h
  ·rw[decide_eq_true h];rfl
  ·rw[decide_eq_true h,Bool.or_true];rfl
 ·obtain⟨k,s,h1,h2,h3,h4⟩:=uP (op:=op) (by omega) (by omega)
  rw[h4,decide_eq_false (by omega),decide_eq_false (by omega)];have:∀j:Nat,j<18→∀s,oF[j]?=some s→(s==(⟨#[]⟩:ByteArray))=false:=by decide
  exact this k h2 s h3
theorem j3 (op:Int)(w:H5):zP 183 #[.int .i64 op] w (.string (jc op)):=by
 have hst:∀(c:Array Value),c.size=18→(storeCells ⟨w.heap.size,0,none⟩ [.string ⟨#[110,117,109]⟩,.string ⟨#[110,117,108,108]⟩,.string ⟨#[99,111,112,121]⟩,.string ⟨#[98,105,110]⟩,.string ⟨#[103,101,116]⟩,.string ⟨#[112,117,116]⟩,.string ⟨#[108,111,97,100]⟩,.string ⟨#[115,116,111,114,101]⟩,.string ⟨#[103,105,118,101]⟩,.string ⟨#[116,97,107,101]⟩,.string ⟨#[115,101,116]⟩,.string ⟨#[110,101,119]⟩,.string ⟨#[102,114,101,101]⟩,.string ⟨#[105,115,110,117,108,108]⟩,.string ⟨#[99,97,108,108]⟩,.string ⟨#[106,117,109,112]⟩,.string ⟨#[98,114,97,110,99,104]⟩,.string ⟨#[114,101,116]⟩] 0).run prog (w.alloc (.cells c 316))= .ok () (w.alloc (.cells #[.string ⟨#[110,117,109]⟩,.string ⟨#[110,117,108,108]⟩,.string ⟨#[99,111,112,121]⟩,.string ⟨#[98,105,110]⟩,.string ⟨#[103,101,116]⟩,.string ⟨#[112,117,116]⟩,.string ⟨#[108,111,97,100]⟩,.string ⟨#[115,116,111,114,101]⟩,.string ⟨#[103,105,118,101]⟩,.string ⟨#[116,97,107,101]⟩,.string ⟨#[115,101,116]⟩,.string ⟨#[110,101,119]⟩,.string ⟨#[102,114,101,101]⟩,.string ⟨#[105,115,110,117,108,108]⟩,.string ⟨#[99,97,108,108]⟩,.string ⟨#[106,117,109,112]⟩,.string ⟨#[98,114,97,110,99,104]⟩,.string ⟨#[114,101,116]⟩] 316)):=fun c hc=>
  run_storeCells_new (P:=prog) w 316 c #[.string ⟨#[110,117,109]⟩,.string ⟨#[110,117,108,108]⟩,.string ⟨#[99,111,112,121]⟩,.string ⟨#[98,105,110]⟩,.string ⟨#[103,101,116]⟩,.string ⟨#[112,117,116]⟩,.string ⟨#[108,111,97,100]⟩,.string ⟨#[115,116,111,114,101]⟩,.string ⟨#[103,105,118,101]⟩,.string ⟨#[116,97,107,101]⟩,.string ⟨#[115,101,116]⟩,.string ⟨#[110,101,119]⟩,.string ⟨#[102,114,101,101]⟩,.string ⟨#[105,115,110,117,108,108]⟩,.string ⟨#[99,97,108,108]⟩,.string ⟨#[106,117,109,112]⟩,.string ⟨#[98,114,97,110,99,104]⟩,.string ⟨#[114,101,116]⟩] (by show _=some 18;kernel_rfl) hc (by simp[Value.oneCell'])
 have hbld:∀w,(Instr.build 316 #[(0,.string ⟨#[110,117,109]⟩),(1,.string ⟨#[110,117,108,108]⟩),(2,.string ⟨#[99,111,112,121]⟩),(3,.string ⟨#[98,105,110]⟩),(4,.string ⟨#[103,101,116]⟩),(5,.string ⟨#[112,117,116]⟩),(6,.string ⟨#[108,111,97,100]⟩),(7,.string ⟨#[115,116,111,114,101]⟩),(8,.string ⟨#[103,105,118,101]⟩),(9,.string ⟨#[116,97,107,101]⟩),(10,.string ⟨#[115,101,116]⟩),(11,.string ⟨#[110,101,119]⟩),(12,.string ⟨#[102,114,101,101]⟩),(13,.string ⟨#[105,115,110,117,108,108]⟩),(14,.string ⟨#[99,97,108,108]⟩),(15,.string ⟨#[106,117,109,112]⟩),(16,.string ⟨#[98,114,97,110,99,104]⟩),(17,.string ⟨#[114,101,116]⟩)]).run prog w= .ok (.agg #[.string ⟨#[110,117,109]⟩,.string ⟨#[110,117,108,108]⟩,.string ⟨#[99,111,112,121]⟩,.string ⟨#[98,105,110]⟩,.string ⟨#[103,101,116]⟩,.string ⟨#[112,117,116]⟩,.string ⟨#[108,111,97,100]⟩,.string ⟨#[115,116,111,114,101]⟩,.string ⟨#[103,105,118,101]⟩,.string ⟨#[116,97,107,101]⟩,.string ⟨#[115,101,116]⟩,.string ⟨#[110,101,119]⟩,.string ⟨#[102,114,101,101]⟩,.string ⟨#[105,115,110,117,108,108]⟩,.string ⟨#[99,97,108,108]⟩,.string ⟨#[106,117,109,112]⟩,.string ⟨#[98,114,97,110,99,104]⟩,.string ⟨#[114,101,116]⟩]) w:=fun w=>by kernel_rfl
 obtain⟨N,hN⟩:=zE w.heap.size;obtain⟨W1,hW1⟩:=zE (w.alloc (.cells #[.string ⟨#[110,117,109]⟩,.string ⟨#[110,117,108,108]⟩,.string ⟨#[99,111,112,121]⟩,.string ⟨#[98,105,110]⟩,.string ⟨#[103,101,116]⟩,.string ⟨#[112,117,116]⟩,.string ⟨#[108,111,97,100]⟩,.string ⟨#[115,116,111,114,101]⟩,.string ⟨#[103,105,118,101]⟩,.string ⟨#[116,97,107,101]⟩,.string ⟨#[115,101,116]⟩,.string ⟨#[110,101,119]⟩,.string ⟨#[102,114,101,101]⟩,.string ⟨#[105,115,110,117,108,108]⟩,.string ⟨#[99,97,108,108]⟩,.string ⟨#[106,117,109,112]⟩,.string ⟨#[98,114,97,110,99,104]⟩,.string ⟨#[114,101,116]⟩] 316));have hb1:=gZ hW1 hN;have HB1:=zH hb1;have HN:=zH hN;have hs1:W1.heap.size=N+1:=by rw[←hW1];simp[hN]
 have hr1:W1.heap[N]?=some (.cells (oF.map Value.string).toArray 316 (0,0)):=by rw[←hW1,←hN];exact alloc_at _ _
 rw[hN,hW1] at hst;clear hb1
 by_cases h1:op<1
 ·have HE:Ia (jc op=⟨#[]⟩):=if_pos (.inl h1)
  go_enter func183,ntmps183;go_wp2;go_ret;rw[HE.out];exact⟨rfl,by first|exact HB1.out|(rw[HN.out];exact HB1.out)⟩
 by_cases h2:18<op
 ·have HE:Ia (jc op=⟨#[]⟩):=if_pos (.inr h2)
  go_enter func183,ntmps183;go_wp2;go_ret;rw[HE.out];exact⟨rfl,by first|exact HB1.out|(rw[HN.out];exact HB1.out)⟩
 obtain⟨k,s,hk,hk18,hks,hw⟩:=uP h1 h2;have hc:W1.cell? ⟨N,k,none⟩=some (.string s):=by
  rw[cell_of_row _ _ _ _ _ _ hr1];simp[hks]
 have HE:=zH hw;have hkI:(k:Int)<18:=by omega
 clear hr1 hks hw;go_enter func183,ntmps183;go_wp2;go_ret;rw[HE.out];exact⟨rfl,by first|exact HB1.out|(rw[HN.out];exact HB1.out)⟩
theorem pF (m:Mo)(g:Fn)(i:Ins)(w:H5)(hop:1≤i.op∧i.op≤14)(h:dJ w m g i):
  zP 189 #[.agg (jg m g),.agg i.cells] w (.int .i64 (au m g.vs i)):=by
 have hc:i.op=1∨i.op=2∨i.op=3∨i.op=4∨i.op=5∨i.op=6∨i.op=7∨i.op=8∨i.op=9∨i.op=10∨i.op=11∨i.op=12∨i.op=13∨i.op=14:=by omega
 rcases hc with e|e|e|e|e|e|e|e|e|e|e|e|e|e
 ·exact EN m g i w e h
 ·exact ER m g i w e h
 ·exact EQ m g i w e h
 ·exact EW m g i w e h
 ·exact EO m g i w e h
 ·exact EP m g i w e h
 ·exact ES m g i w e h
 ·exact ET m g i w e h
 ·exact EU m g i w e h
 ·exact DV m g i w e h
 ·exact DW m g i w e h
 ·exact DX m g i w e h
 ·exact DU m g i w e h
 ·exact DY m g i w e h
structure EX (w:H5)(m:Mo)(g:Fn)(i:Ins):Prop where
 j:nC w m g
 ar:i.args_in w
 al:i.args.length≤40
 kn:∀v,isVar g.vs.length v=true→m.known (ax g.vs v)=true
theorem kg {W1 W:H5}{N:Nat}(hb:H9 W1.heap.size W1 W){o:Obj}(h:W1.heap[N]?=some o):W.heap[N]?=some o:=
 (hb.block N (GR.1 h).1).trans h
theorem nE (op:Int):(jc op).toList.isEmpty=(decide (op<1)||decide (18<op)):=by
 rw[←yN,beq_toListBytes];have e:(⟨#[]⟩:ByteArray).toList=[]:=by rw[ByteArray.toList_eq]
 rw[e];cases (jc op).toList<;>rfl
def jd (w5:H5)(N:Nat)(m:Mo)(g:Fn)(i:Ins):Prop:=∀W,H9 w5.heap.size w5 W→W.heap[N]?=some (.cells (jg m g) 184 (0,0))∧W.heap[N+1]?=some (.cells i.cells 42 (0,0))
theorem jd.next {w5 w6:H5}{N:Nat}{m:Mo}{g:Fn}{i:Ins}(h:jd w5 N m g i)(hb:H9 w5.heap.size w5 w6):jd w6 N m g i:=fun W hW=>h W (hb.trans (hW.mono hb.size))
theorem jd.lt {w5:H5}{N:Nat}{m:Mo}{g:Fn}{i:Ins}(h:jd w5 N m g i):N+1<w5.heap.size:=(GR.1 (h w5 (Hw _ _)).2).1
def dO (m:Mo)(g:Fn)(i:Ins):Int:=
 if i.op=15 then gU m g.vs i
 else if i.op=16 then bM (isVar g.c.ins.length i.tI) 15
 else if i.op=17 then(if isVar g.c.ins.length i.tI&&isVar g.c.ins.length i.els then dR g.vs [i.a] else 15)
 else if i.op=18 then bM (ax g.vs i.a==g.ret) 7
 else au m g.vs i
theorem wQ {m:Mo}{g:Fn}{i:Ins}(h:¬(i.op<1∨18<i.op)):aC m g i=if aI g.vs.length (readsOf i++(if pV i.op then[i.d] else[]))=false then 15 else dO m g i:=if_neg h
theorem uQ {n:Nat}{l:List Int}(h:aI n l=true){v:Int}(hv:v∈l):isVar n v=true:=List.all_eq_true.1 h v hv
theorem oG {i:Ins}{l:List Int}(h:sZ i.op=true):i.a∈readsOf i++l:=by unfold readsOf;rw[if_pos h];simp
theorem DZ {i:Ins}{l:List Int}(h:qN i.op=true):i.b∈readsOf i++l:=by unfold readsOf;rw[if_pos h];simp
theorem uR {i:Ins}{l:List Int}(h:i.op=15){a:Int}(ha:a∈i.args):a∈readsOf i++l:=by unfold readsOf;rw[if_pos h];simp[ha]
theorem BN {i:Ins}(h:pV i.op=true):i.d∈readsOf i++(if pV i.op then[i.d] else[]):=by rw[if_pos h];simp
theorem yO (m:Mo)(g:Fn)(i:Ins)(w:H5)(h:EX w m g i):
  zP 136 #[.agg (jg m g),.agg i.cells] w (.int .i64 (aC m g i)):=by
 have HIN:=zH h;obtain⟨R,hR⟩:=zE (aC m g i);rw[hR];have HR:=zH hR;clear h hR;obtain⟨N,hN⟩:=zE w.heap.size;obtain⟨W1,hW1⟩:=zE ((w.alloc (.cells (jg m g) 184)).alloc (.cells i.cells 42));have hb1:=uG hW1 hN;have hs1:W1.heap.size=N+2:=by rw[←hW1];simp[hN]
 have hr1:=xV hW1 hN;have hr2:=zV hW1 hN;have i0:=zR hr2 0 (.int .i64 i.op);have HRW1:Ia (jd W1 N m g i):=fun W hW=>⟨kg hW hr1,kg hW hr2⟩
 have HB1:=zH hb1;have HN:=zH hN;have hNlt:N+1<W1.heap.size:=by omega
 clear hb1 hr1 hr2
 by_cases hop:i.op<1∨18<i.op
 ·have HRR:Ia (R=3):=by unfold Ia;rw[←HR.out];exact if_pos hop
  have hwe:(jc i.op).toList.isEmpty=true:=by rw[nE];simpa using hop
  clear hop;go_enter func136,ntmps136
  go_wp2_with (go_at_call 183;refine(j3 _ _).mono ?_;rintro e w2 ⟨rfl,hb2⟩;have HB2:=zH hb2;clear hb2)
  go_ret;rw[HRR.out,HN.out];exact⟨rfl,HB1.out.trans (HB2.out.mono (by omega))⟩
 have HEV:=zH (wQ (m:=m) (g:=g) hop);rw[HR.out] at HEV;have HVO:=zH hop;have hwe:(jc i.op).toList.isEmpty=false:=by
  rw[nE,decide_eq_false (by omega),decide_eq_false (by omega)];rfl
 clear hop HR;have HRD:Ia (∀W,H9 w.heap.size w W→Calls prog 144 #[.agg i.cells] W (iR W (readsOf i))):=fun W hW=>l8 i W (HIN.out.ar.below hW) HIN.out.al;have HWR:Ia (∀W,zP 142 #[.agg i.cells] W (.tuple #[.int .i64 (az i).1,.bool (az i).2])):=fun W=>kR i W HIN.out.ar.1;have HRL:Ia ((readsOf i).length≤42):=pz i HIN.out.al;obtain⟨rs,hrs⟩:=zE (readsOf i);have HRS:=zH hrs;rw[hrs] at HRD HRL;clear hrs;go_enter func136,ntmps136;cases hd:pV i.op with
 |true=>
  have e1:(az i).1=i.d:=by unfold az;rw[hd];rfl
  have e2:(az i).2=true:=by unfold az;rw[hd];rfl
  rw[e1,e2] at HWR;clear e1 e2
  go_upto_region 6 with(first
   |(go_at_call 183;refine(j3 _ _).mono ?_;rintro e w2 ⟨rfl,hb2⟩;have HRW2:=zH (HRW1.out.next hb2);have HB2:Ia (H9 N w w2):=HB1.out.trans (hb2.mono (by omega));clear hb2)
   |(refine wpList_load_row rfl 42 _ rfl (N+1) rfl 42 i.cells (0,0) _ ((HRW2.out _ (Hw _ _)).2) underlying42 rfl (by kernel_rfl) ?_)
   |(refine wpList_load_row rfl 42 _ rfl (N+1) rfl 42 i.cells (0,0) _ ((HRW3.out _ (Hw _ _)).2) underlying42 rfl (by kernel_rfl) ?_)
   |(go_at_call 144;refine(HRD.out _ (by rw[HN.out];exact HB2.out)).mono ?_;rintro e w3 ⟨ao3,cap3,rfl,hown3,hb3⟩;have HOW3:=zH hown3;have HRW3:=zH (HRW2.out.next hb3);have HB3:Ia (H9 N w w3):=HB2.out.trans (hb3.mono (by have:=HRW2.out.lt;omega));have hs23:=hb3.size;clear hb3 hown3)
   |(go_at_call 142;refine(HWR.out _).mono ?_;rintro e w4 ⟨rfl,hb4⟩;have HRW4:=zH (HRW3.out.next hb4);have HOW4:=zH (ownsRow_below HOW3.out hb4);have HB4:Ia (H9 N w w4):=HB3.out.trans (hb4.mono (by have:=HRW3.out.lt;omega));have hs34:=hb4.size;clear hb4))
  go_upto_region 7 with(at_builtin;refine aJ rfl (.tmp 20) (.tmp 22) rfl w2.heap.size (.slice ao3 rs.length cap3) rs rfl (ownsRow_below HOW4.out ((Hw _ _).alloc (He _) _)) _ [i.d] 1 rfl (ak.one _ _ rfl) ?c1 ?c2 ?_)
  case c1=>have:=HRL.out;simp;omega
  case c2=>simp;omega
  intro v5 w5 hown5 hgrow5;obtain⟨ao5,cap5,rfl⟩:=hown5.isSlice;have hb45:H9 w2.heap.size w4 w5:=below_grown (v:= .slice ao3 rs.length cap3) (xs:=rs) ((Hw _ _).alloc (by omega) _) (by simp;omega) (ownsRow_below HOW4.out ((Hw _ _).alloc (He _) _)) hgrow5;have hlt2:=HRW2.out.lt;have HB5:Ia (H9 N w w5):=HB4.out.trans (hb45.mono (by omega));have HRW:Ia (jd w5 N m g i):=fun W hW=>by
   have q:=HRW4.out w4 (Hw _ _);have h5:=hb45.size;exact⟨(hW.block N (by omega)).trans ((hb45.block N (by omega)).trans q.1),(hW.block (N+1) (by omega)).trans ((hb45.block (N+1) (by omega)).trans q.2)⟩
  have h5s:=hb45.size;obtain⟨L5,hL5⟩:=zE (rs++[i.d]);rw[hL5] at hown5;have HL:Ia (L5=readsOf i++(if pV i.op then[i.d] else[])):=by unfold Ia;rw[hd,HRS.out,←hL5];rfl
  have HTH:Ia (zP 184 #[.agg (jg m g),.slice ao5 L5.length cap5] w5 (.bool (aI g.vs.length L5))):=
   pE m g ao5 L5 cap5 w5 HIN.out.j.nv (by have:=HRL.out;rw[←hL5];unfold maxLen;simp;omega) hown5.at_
  rw[←HL.out] at HEV;rw[hL5];have HDD:=zH hd;clear hown5 hgrow5 hb45 HOW3 HOW4 HRW2 HRW3 HRW4 HRW1 HB2 HB3 HB4 hL5 HRD HWR HRL HRS hwe i0 hd;have HR0:=zH (HRW.out w5 (Hw _ _));obtain⟨tb,htb⟩:=zE (aI g.vs.length L5);rw[htb] at HTH;rw[htb] at HEV;have HTB:=zH htb;clear htb;cases tb with
  |false=>
   have HRR:Ia (R=15):=HEV.out
   go_wp2_with (first
    |(refine wpList_load_row rfl 184 _ rfl N rfl 184 (jg m g) (0,0) _ (HR0.out.1) underlying184 rfl (by kernel_rfl) ?_)
    |(go_at_call 184;refine HTH.out.mono ?_;rintro e w6 ⟨rfl,hb6⟩;have HB6:=zH hb6;clear hb6))
   go_ret;rw[HRR.out,HN.out];exact⟨rfl,HB5.out.trans (HB6.out.mono (by omega))⟩
  |true=>
   have HEV2:Ia (R=dO m g i):=HEV.out;clear HEV
   go_upto_region 9 with(first
    |(refine wpList_load_row rfl 184 _ rfl N rfl 184 (jg m g) (0,0) _ (HR0.out.1) underlying184 rfl (by kernel_rfl) ?_)
    |(go_at_call 184;refine HTH.out.mono ?_;rintro e w6 ⟨rfl,hb6⟩;have HB6:=zH hb6;clear hb6))
   have HRW6:Ia (jd w6 N m g i):=HRW.out.next HB6.out
   have HB06:Ia (H9 N w w6):=HB5.out.trans (HB6.out.mono (by omega));have hlt6:=HRW6.out.lt;have HR6:=zH (HRW6.out w6 (Hw _ _));have HJ6:Ia (nC w6 m g):=HIN.out.j.below (by rw[HN.out];exact HB06.out);have z0:=zR HR6.out.2 0 (.int .i64 i.op);have z2:=zR HR6.out.2 2 (.int .i64 i.a);have z9:=zR HR6.out.2 9 (.int .i64 i.tI);have z10:=zR HR6.out.2 10 (.int .i64 i.els);have HVA:Ia (∀v∈L5,isVar g.vs.length v=true):=fun v hv=>uQ HTB.out hv;clear HRW HTH HB6 HB5 HR0 HTB
   by_cases c15:i.op=15
   ·have HRR:Ia (R=gU m g.vs i):=by unfold Ia;rw[HEV2.out];exact if_pos c15
    have HCC:Ia (zP 185 #[.agg (jg m g),.agg i.cells] w6 (.int .i64 (gU m g.vs i))):=
     qQ m g i w6 HJ6.out (HIN.out.ar.below (by rw[HN.out];exact HB06.out)) (by have:=HIN.out.al;unfold maxLen;omega) (HVA.out _ (by rw[HL.out];exact BN (by rw[c15];rfl))) (fun a ha=>HVA.out a (by rw[HL.out];exact uR c15 ha))
    rw[c15] at z0;clear HEV2
    go_wp2_with (first
     |(refine wpList_load_row rfl 184 _ rfl N rfl 184 (jg m g) (0,0) _ (HR6.out.1) underlying184 rfl (by kernel_rfl) ?_)
     |(refine wpList_load_row rfl 42 _ rfl (N+1) rfl 42 i.cells (0,0) _ (HR6.out.2) underlying42 rfl (by kernel_rfl) ?_)
     |(go_at_call 185;refine HCC.out.mono ?_;rintro e w7 ⟨rfl,hb7⟩;have HB7:=zH hb7;clear hb7))
    go_ret;rw[HRR.out,HN.out];exact⟨rfl,HB06.out.trans (HB7.out.mono (by omega))⟩
   have b15:(i.op==15)=false:=by rw[beq_eq_false_iff_ne];exact c15
   by_cases c16:i.op=16
   ·have HRR:Ia (R=bM (isVar g.c.ins.length i.tI) 15):=by unfold Ia;rw[HEV2.out];unfold dO;rw[if_neg c15,if_pos c16]
    rw[c16] at z0;clear HEV2
    go_wp2_with (first
     |(refine wpList_load_row rfl 184 _ rfl N rfl 184 (jg m g) (0,0) _ (HR6.out.1) underlying184 rfl (by kernel_rfl) ?_)
     |(go_at_call 186;refine(gH m g i.tI w6).mono ?_;rintro e w7 ⟨rfl,hb7⟩;have HB7:=zH hb7;clear hb7)
     |(go_at_call 99;refine(aB _ _ _).mono ?_;rintro e w8 ⟨rfl,rfl⟩))
    go_ret;rw[HRR.out,HN.out];exact⟨rfl,HB06.out.trans (HB7.out.mono (by omega))⟩
   have b16:(i.op==16)=false:=by rw[beq_eq_false_iff_ne];exact c16
   by_cases c17:i.op=17
   ·have HRR:Ia (R=if isVar g.c.ins.length i.tI&&isVar g.c.ins.length i.els then dR g.vs [i.a] else 15):=by unfold Ia;rw[HEV2.out];unfold dO;rw[if_neg c15,if_neg c16,if_pos c17]
    have HVAa:Ia (isVar g.vs.length i.a=true):=HVA.out _ (by rw[HL.out];exact oG (by rw[c17];rfl));rw[c17] at z0;obtain⟨t1,ht1⟩:=zE (isVar g.c.ins.length i.tI);obtain⟨t2,ht2⟩:=zE (isVar g.c.ins.length i.els);rw[ht1,ht2] at HRR;clear HEV2;cases t1 with
    |false=>
     go_wp2_with (first
      |(refine wpList_load_row rfl 184 _ rfl N rfl 184 (jg m g) (0,0) _ (HR6.out.1) underlying184 rfl (by kernel_rfl) ?_)
      |(go_at_call 186;refine(gH m g _ _).mono ?_;rintro e w7 ⟨rfl,hb7⟩;have HB7:=zH hb7;clear hb7))
     go_ret;rw[HRR.out,HN.out];exact⟨rfl,HB06.out.trans (HB7.out.mono (by omega))⟩
    |true=>
     have HLN:Ia (∀(W:H5)(v:Int),jd W N m g i→H9 N w W→Calls prog 186 #[.agg (jg m g),.int .i64 v] W fun e w'=>e= .returned (.bool (isVar g.c.ins.length v))∧jd w' N m g i∧H9 N w w'):=fun W v hW hB=>(gH m g v W).mono (by
      rintro e w' ⟨rfl,hb⟩;exact⟨rfl,hW.next hb,hB.trans (hb.mono (by have:=hW.lt;omega))⟩)
     have HRWc:=HRW6;have HBc:=HB06;cases t2 with
     |false=>
      go_wp2_with (first
       |(refine wpList_load_row rfl 184 _ rfl N rfl 184 (jg m g) (0,0) _ ((HRWc.out _ (Hw _ _)).1) underlying184 rfl (by kernel_rfl) ?_)
       |(go_at_call 186;refine(HLN.out _ _ HRWc.out HBc.out).mono ?_;clear HRWc HBc;rintro e w7 ⟨rfl,hrw,hbc⟩;have hlt7:=hrw.lt;obtain⟨y0,y1,y2,y3,y4,y5,y6,y7,y8,y9⟩:=jk.of (hrw w7 (Hw _ _)).1;have z10:w7.cell? ⟨N+1,10,none⟩=some (.int .i64 i.els):=cell_of_row _ _ _ _ _ _ (hrw w7 (Hw _ _)).2;have HRWc:=zH hrw;have HBc:=zH hbc;clear hrw hbc))
      go_ret;rw[HRR.out,HN.out];exact⟨rfl,HBc.out⟩
     |true=>
      have HNM:Ia (∀(W:H5),jd W N m g i→H9 N w W→Calls prog 187 #[.agg (jg m g),.slice (some ⟨W.heap.size,0,none⟩) 1 1] (W.alloc (.cells #[.int .i64 i.a] 3)) fun e w'=>e= .returned (.int .i64 (dR g.vs [i.a]))∧H9 N w w'):=by
       intro W hW hB;have hB2:H9 N w (W.alloc (.cells #[.int .i64 i.a] 3)):=hB.alloc (by have:=hW.lt;omega) _;have hj:=HIN.out.j.below (by rw[HN.out];exact hB2);refine(cB m g (some ⟨W.heap.size,0,none⟩) [i.a] 1 (W.alloc (.cells #[.int .i64 i.a] 3)) hj.vars hj.nv hj.vl (by unfold maxLen;simp) yM (by simp;exact HVAa.out)).mono ?_;rintro e w' ⟨rfl,hb⟩;exact⟨rfl,hB2.trans (hb.mono (by have:=hW.lt;simp;omega))⟩
      go_wp2_with (first
       |(refine wpList_load_row rfl 184 _ rfl N rfl 184 (jg m g) (0,0) _ ((HRWc.out _ (Hw _ _)).1) underlying184 rfl (by kernel_rfl) ?_)
       |(go_at_call 186;refine(HLN.out _ _ HRWc.out HBc.out).mono ?_;clear HRWc HBc;rintro e w7 ⟨rfl,hrw,hbc⟩;have hlt7:=hrw.lt;obtain⟨y0,y1,y2,y3,y4,y5,y6,y7,y8,y9⟩:=jk.of (hrw w7 (Hw _ _)).1;have z10:w7.cell? ⟨N+1,10,none⟩=some (.int .i64 i.els):=cell_of_row _ _ _ _ _ _ (hrw w7 (Hw _ _)).2;have z2:w7.cell? ⟨N+1,2,none⟩=some (.int .i64 i.a):=cell_of_row _ _ _ _ _ _ (hrw w7 (Hw _ _)).2;have HRWc:=zH hrw;have HBc:=zH hbc;clear hrw hbc)
       |(go_at_call 187;refine(HNM.out _ HRWc.out HBc.out).mono ?_;rintro e w9 ⟨rfl,hb9⟩;have HB9:=zH hb9;clear hb9))
      go_ret;rw[HRR.out,HN.out];exact⟨rfl,HB9.out⟩
   have b17:(i.op==17)=false:=by rw[beq_eq_false_iff_ne];exact c17
   by_cases c18:i.op=18
   ·have HRR:Ia (R=bM (ax g.vs i.a==g.ret) 7):=by unfold Ia;rw[HEV2.out];unfold dO;rw[if_neg c15,if_neg c16,if_neg c17,if_pos c18]
    have HVAa:Ia (isVar g.vs.length i.a=true):=HVA.out _ (by rw[HL.out];exact oG (by rw[c18];rfl));rw[c18] at z0;obtain⟨⟨ba,sa⟩,hta⟩:∃t,ax g.vs i.a=t:=⟨_,rfl⟩
    obtain⟨d,hdd⟩:=zE (((ba,sa):Ty)==(g.c.rp,g.c.rto));have heq:∀w,(Op.equalIn 10000 32 (.agg #[.bool ba,.string sa]) (.agg #[.bool g.c.rp,.string g.c.rto])).run prog w= .ok d w:=fun w=>by rw[dC,hdd]
    have HR2R:Ia (R=bM d 7):=by unfold Ia;rw[HRR.out,hta,←hdd];rfl
    have HTX:Ia (∀p:BW w6,zP 188 #[.agg #[.slice m.sA m.ss.length m.sC,.slice m.fA m.fs.length m.fC,.string g.c.nm,.int .i64 g.c.par,.slice g.c.varsA g.c.nvars g.c.varsC,.bool g.c.rp,.string g.c.rto,.int .i64 g.c.rcl,.slice g.c.fromA g.c.nfrom g.c.fromC,.slice g.c.insA g.c.ins.length g.c.insC],.int .i64 i.a] p.w (.agg #[.bool ba,.string sa])):=fun p=>by
     have:=gG m g i.a p.w (HJ6.out.below p.h).vars HJ6.out.nv HJ6.out.vl HVAa.out;rw[hta] at this;exact this
    have HJJ:Ia (∀p:BW w6,jk p.w N m g):=fun p=>jk.of (HRW6.out p.w p.h).1;have k0:∀p:BW w6,p.w.cell? ⟨N,0,none⟩=some (.slice m.sA m.ss.length m.sC):=fun p=>(HJJ.out p).1;have k1:∀p:BW w6,p.w.cell? ⟨N,1,none⟩=some (.slice m.fA m.fs.length m.fC):=fun p=>(HJJ.out p).2.1;have k2:∀p:BW w6,p.w.cell? ⟨N,2,none⟩=some (.string g.c.nm):=fun p=>(HJJ.out p).2.2.1;have k3:∀p:BW w6,p.w.cell? ⟨N,3,none⟩=some (.int .i64 g.c.par):=fun p=>(HJJ.out p).2.2.2.1;have k4:∀p:BW w6,p.w.cell? ⟨N,4,none⟩=some (.slice g.c.varsA g.c.nvars g.c.varsC):=fun p=>(HJJ.out p).2.2.2.2.1;have k5:∀p:BW w6,p.w.cell? ⟨N,5,none⟩=some (.bool g.c.rp):=fun p=>(HJJ.out p).2.2.2.2.2.1;have k6:∀p:BW w6,p.w.cell? ⟨N,6,none⟩=some (.string g.c.rto):=fun p=>(HJJ.out p).2.2.2.2.2.2.1;have k7:∀p:BW w6,p.w.cell? ⟨N,7,none⟩=some (.int .i64 g.c.rcl):=fun p=>(HJJ.out p).2.2.2.2.2.2.2.1;have k8:∀p:BW w6,p.w.cell? ⟨N,8,none⟩=some (.slice g.c.fromA g.c.nfrom g.c.fromC):=fun p=>(HJJ.out p).2.2.2.2.2.2.2.2.1;have k9:∀p:BW w6,p.w.cell? ⟨N,9,none⟩=some (.slice g.c.insA g.c.ins.length g.c.insC):=fun p=>(HJJ.out p).2.2.2.2.2.2.2.2.2;have z2p:∀p:BW w6,p.w.cell? ⟨N+1,2,none⟩=some (.int .i64 i.a):=fun p=>by rw[cell_of_row _ _ _ _ _ _ (HRW6.out p.w p.h).2];rfl
    clear HEV2 hta hdd HRR;go_wp2;refine zQ ?_
    repeat (go_big_quiet_step (first
     |(go_at_call 188;exact bg (HTX.out _))
     |(go_at_call 99;exact jo (aB _ _ _))))
    refine wpQuiet_nil ?_;rintro _ ⟨p,rfl⟩;go_wp2;go_ret;rw[HR2R.out,HN.out];exact⟨rfl,HB06.out.trans (p.h.mono (by omega))⟩
   have b18:(i.op==18)=false:=by rw[beq_eq_false_iff_ne];exact c18
   have HRR:Ia (R=au m g.vs i):=by unfold Ia;rw[HEV2.out];unfold dO;rw[if_neg c15,if_neg c16,if_neg c17,if_neg c18]
   have HPC:Ia (zP 189 #[.agg (jg m g),.agg i.cells] w6 (.int .i64 (au m g.vs i))):=
    pF m g i w6 (by have:=HVO.out;omega) ⟨HJ6.out,fun h=>HVA.out _ (by rw[HL.out];exact BN h),fun h=>HVA.out _ (by rw[HL.out];exact oG h),fun h=>HVA.out _ (by rw[HL.out];exact DZ h),HIN.out.kn⟩
   clear HEV2 c15 c16 c17 c18
   go_wp2_with (first
    |(refine wpList_load_row rfl 184 _ rfl N rfl 184 (jg m g) (0,0) _ (HR6.out.1) underlying184 rfl (by kernel_rfl) ?_)
    |(refine wpList_load_row rfl 42 _ rfl (N+1) rfl 42 i.cells (0,0) _ (HR6.out.2) underlying42 rfl (by kernel_rfl) ?_)
    |(go_at_call 189;refine HPC.out.mono ?_;rintro e w7 ⟨rfl,hb7⟩;have HB7:=zH hb7;clear hb7))
   go_ret;rw[HRR.out,HN.out];exact⟨rfl,HB06.out.trans (HB7.out.mono (by omega))⟩
 |false=>
  have e1:(az i).1=0:=by unfold az;rw[hd];rfl
  have e2:(az i).2=false:=by unfold az;rw[hd];rfl
  rw[e1,e2] at HWR;clear e1 e2
  go_upto_region 7 with(first
   |(go_at_call 183;refine(j3 _ _).mono ?_;rintro e w2 ⟨rfl,hb2⟩;have HRW2:=zH (HRW1.out.next hb2);have HB2:Ia (H9 N w w2):=HB1.out.trans (hb2.mono (by omega));clear hb2)
   |(refine wpList_load_row rfl 42 _ rfl (N+1) rfl 42 i.cells (0,0) _ ((HRW2.out _ (Hw _ _)).2) underlying42 rfl (by kernel_rfl) ?_)
   |(refine wpList_load_row rfl 42 _ rfl (N+1) rfl 42 i.cells (0,0) _ ((HRW3.out _ (Hw _ _)).2) underlying42 rfl (by kernel_rfl) ?_)
   |(go_at_call 144;refine(HRD.out _ (by rw[HN.out];exact HB2.out)).mono ?_;rintro e w3 ⟨ao3,cap3,rfl,hown3,hb3⟩;have HOW3:=zH hown3;have HRW3:=zH (HRW2.out.next hb3);have HB3:Ia (H9 N w w3):=HB2.out.trans (hb3.mono (by have:=HRW2.out.lt;omega));have hs23:=hb3.size;clear hb3 hown3)
   |(go_at_call 142;refine(HWR.out _).mono ?_;rintro e w5 ⟨rfl,hb4⟩;have HRW:=zH (HRW3.out.next hb4);have HOW4:=zH (ownsRow_below HOW3.out hb4);have HB5:Ia (H9 N w w5):=HB3.out.trans (hb4.mono (by have:=HRW3.out.lt;omega));have hs34:=hb4.size;clear hb4))
  have HL:Ia (rs=readsOf i++(if pV i.op then[i.d] else[])):=by unfold Ia;rw[hd,HRS.out];simp
  have HTH:Ia (zP 184 #[.agg (jg m g),.slice ao3 rs.length cap3] w5 (.bool (aI g.vs.length rs))):=
   pE m g ao3 rs cap3 w5 HIN.out.j.nv (by have:=HRL.out;unfold maxLen;omega) (aU.at_ HOW4.out)
  rw[←HL.out] at HEV;have HDD:=zH hd;have hlt2:=HRW2.out.lt;have h5s:w2.heap.size≤w5.heap.size:=by omega
  clear HOW3 HOW4 HRW2 HRW3 HRW1 HB2 HB3 HRD HWR HRL HRS hwe i0 hd;have HR0:=zH (HRW.out w5 (Hw _ _));obtain⟨tb,htb⟩:=zE (aI g.vs.length rs);rw[htb] at HTH;rw[htb] at HEV;have HTB:=zH htb;clear htb;cases tb with
  |false=>
   have HRR:Ia (R=15):=HEV.out
   go_wp2_with (first
    |(refine wpList_load_row rfl 184 _ rfl N rfl 184 (jg m g) (0,0) _ (HR0.out.1) underlying184 rfl (by kernel_rfl) ?_)
    |(go_at_call 184;refine HTH.out.mono ?_;rintro e w6 ⟨rfl,hb6⟩;have HB6:=zH hb6;clear hb6))
   go_ret;rw[HRR.out,HN.out];exact⟨rfl,HB5.out.trans (HB6.out.mono (by omega))⟩
  |true=>
   have HEV2:Ia (R=dO m g i):=HEV.out;clear HEV
   go_upto_region 9 with(first
    |(refine wpList_load_row rfl 184 _ rfl N rfl 184 (jg m g) (0,0) _ (HR0.out.1) underlying184 rfl (by kernel_rfl) ?_)
    |(go_at_call 184;refine HTH.out.mono ?_;rintro e w6 ⟨rfl,hb6⟩;have HB6:=zH hb6;clear hb6))
   have HRW6:Ia (jd w6 N m g i):=HRW.out.next HB6.out
   have HB06:Ia (H9 N w w6):=HB5.out.trans (HB6.out.mono (by omega));have hlt6:=HRW6.out.lt;have HR6:=zH (HRW6.out w6 (Hw _ _));have HJ6:Ia (nC w6 m g):=HIN.out.j.below (by rw[HN.out];exact HB06.out);have z0:=zR HR6.out.2 0 (.int .i64 i.op);have z2:=zR HR6.out.2 2 (.int .i64 i.a);have z9:=zR HR6.out.2 9 (.int .i64 i.tI);have z10:=zR HR6.out.2 10 (.int .i64 i.els);have HVA:Ia (∀v∈rs,isVar g.vs.length v=true):=fun v hv=>uQ HTB.out hv;clear HRW HTH HB6 HB5 HR0 HTB
   by_cases c15:i.op=15
   ·have HRR:Ia (R=gU m g.vs i):=by unfold Ia;rw[HEV2.out];exact if_pos c15
    have HCC:Ia (zP 185 #[.agg (jg m g),.agg i.cells] w6 (.int .i64 (gU m g.vs i))):=
     qQ m g i w6 HJ6.out (HIN.out.ar.below (by rw[HN.out];exact HB06.out)) (by have:=HIN.out.al;unfold maxLen;omega) (HVA.out _ (by rw[HL.out];exact BN (by rw[c15];rfl))) (fun a ha=>HVA.out a (by rw[HL.out];exact uR c15 ha))
    rw[c15] at z0;clear HEV2
    go_wp2_with (first
     |(refine wpList_load_row rfl 184 _ rfl N rfl 184 (jg m g) (0,0) _ (HR6.out.1) underlying184 rfl (by kernel_rfl) ?_)
     |(refine wpList_load_row rfl 42 _ rfl (N+1) rfl 42 i.cells (0,0) _ (HR6.out.2) underlying42 rfl (by kernel_rfl) ?_)
     |(go_at_call 185;refine HCC.out.mono ?_;rintro e w7 ⟨rfl,hb7⟩;have HB7:=zH hb7;clear hb7))
    go_ret;rw[HRR.out,HN.out];exact⟨rfl,HB06.out.trans (HB7.out.mono (by omega))⟩
   have b15:(i.op==15)=false:=by rw[beq_eq_false_iff_ne];exact c15
   by_cases c16:i.op=16
   ·have HRR:Ia (R=bM (isVar g.c.ins.length i.tI) 15):=by unfold Ia;rw[HEV2.out];unfold dO;rw[if_neg c15,if_pos c16]
    rw[c16] at z0;clear HEV2
    go_wp2_with (first
     |(refine wpList_load_row rfl 184 _ rfl N rfl 184 (jg m g) (0,0) _ (HR6.out.1) underlying184 rfl (by kernel_rfl) ?_)
     |(go_at_call 186;refine(gH m g i.tI w6).mono ?_;rintro e w7 ⟨rfl,hb7⟩;have HB7:=zH hb7;clear hb7)
     |(go_at_call 99;refine(aB _ _ _).mono ?_;rintro e w8 ⟨rfl,rfl⟩))
    go_ret;rw[HRR.out,HN.out];exact⟨rfl,HB06.out.trans (HB7.out.mono (by omega))⟩
   have b16:(i.op==16)=false:=by rw[beq_eq_false_iff_ne];exact c16
   by_cases c17:i.op=17
   ·have HRR:Ia (R=if isVar g.c.ins.length i.tI&&isVar g.c.ins.length i.els then dR g.vs [i.a] else 15):=by unfold Ia;rw[HEV2.out];unfold dO;rw[if_neg c15,if_neg c16,if_pos c17]
    have HVAa:Ia (isVar g.vs.length i.a=true):=HVA.out _ (by rw[HL.out];exact oG (by rw[c17];rfl));rw[c17] at z0;obtain⟨t1,ht1⟩:=zE (isVar g.c.ins.length i.tI);obtain⟨t2,ht2⟩:=zE (isVar g.c.ins.length i.els);rw[ht1,ht2] at HRR;clear HEV2;cases t1 with
    |false=>
     go_wp2_with (first
      |(refine wpList_load_row rfl 184 _ rfl N rfl 184 (jg m g) (0,0) _ (HR6.out.1) underlying184 rfl (by kernel_rfl) ?_)
      |(go_at_call 186;refine(gH m g _ _).mono ?_;rintro e w7 ⟨rfl,hb7⟩;have HB7:=zH hb7;clear hb7))
     go_ret;rw[HRR.out,HN.out];exact⟨rfl,HB06.out.trans (HB7.out.mono (by omega))⟩
    |true=>
     have HLN:Ia (∀(W:H5)(v:Int),jd W N m g i→H9 N w W→Calls prog 186 #[.agg (jg m g),.int .i64 v] W fun e w'=>e= .returned (.bool (isVar g.c.ins.length v))∧jd w' N m g i∧H9 N w w'):=fun W v hW hB=>(gH m g v W).mono (by
      rintro e w' ⟨rfl,hb⟩;exact⟨rfl,hW.next hb,hB.trans (hb.mono (by have:=hW.lt;omega))⟩)
     have HRWc:=HRW6;have HBc:=HB06;cases t2 with
     |false=>
      go_wp2_with (first
       |(refine wpList_load_row rfl 184 _ rfl N rfl 184 (jg m g) (0,0) _ ((HRWc.out _ (Hw _ _)).1) underlying184 rfl (by kernel_rfl) ?_)
       |(go_at_call 186;refine(HLN.out _ _ HRWc.out HBc.out).mono ?_;clear HRWc HBc;rintro e w7 ⟨rfl,hrw,hbc⟩;have hlt7:=hrw.lt;obtain⟨y0,y1,y2,y3,y4,y5,y6,y7,y8,y9⟩:=jk.of (hrw w7 (Hw _ _)).1;have z10:w7.cell? ⟨N+1,10,none⟩=some (.int .i64 i.els):=cell_of_row _ _ _ _ _ _ (hrw w7 (Hw _ _)).2;have HRWc:=zH hrw;have HBc:=zH hbc;clear hrw hbc))
      go_ret;rw[HRR.out,HN.out];exact⟨rfl,HBc.out⟩
     |true=>
      have HNM:Ia (∀(W:H5),jd W N m g i→H9 N w W→Calls prog 187 #[.agg (jg m g),.slice (some ⟨W.heap.size,0,none⟩) 1 1] (W.alloc (.cells #[.int .i64 i.a] 3)) fun e w'=>e= .returned (.int .i64 (dR g.vs [i.a]))∧H9 N w w'):=by
       intro W hW hB;have hB2:H9 N w (W.alloc (.cells #[.int .i64 i.a] 3)):=hB.alloc (by have:=hW.lt;omega) _;have hj:=HIN.out.j.below (by rw[HN.out];exact hB2);refine(cB m g (some ⟨W.heap.size,0,none⟩) [i.a] 1 (W.alloc (.cells #[.int .i64 i.a] 3)) hj.vars hj.nv hj.vl (by unfold maxLen;simp) yM (by simp;exact HVAa.out)).mono ?_;rintro e w' ⟨rfl,hb⟩;exact⟨rfl,hB2.trans (hb.mono (by have:=hW.lt;simp;omega))⟩
      go_wp2_with (first
       |(refine wpList_load_row rfl 184 _ rfl N rfl 184 (jg m g) (0,0) _ ((HRWc.out _ (Hw _ _)).1) underlying184 rfl (by kernel_rfl) ?_)
       |(go_at_call 186;refine(HLN.out _ _ HRWc.out HBc.out).mono ?_;clear HRWc HBc;rintro e w7 ⟨rfl,hrw,hbc⟩;have hlt7:=hrw.lt;obtain⟨y0,y1,y2,y3,y4,y5,y6,y7,y8,y9⟩:=jk.of (hrw w7 (Hw _ _)).1;have z10:w7.cell? ⟨N+1,10,none⟩=some (.int .i64 i.els):=cell_of_row _ _ _ _ _ _ (hrw w7 (Hw _ _)).2;have z2:w7.cell? ⟨N+1,2,none⟩=some (.int .i64 i.a):=cell_of_row _ _ _ _ _ _ (hrw w7 (Hw _ _)).2;have HRWc:=zH hrw;have HBc:=zH hbc;clear hrw hbc)
       |(go_at_call 187;refine(HNM.out _ HRWc.out HBc.out).mono ?_;rintro e w9 ⟨rfl,hb9⟩;have HB9:=zH hb9;clear hb9))
      go_ret;rw[HRR.out,HN.out];exact⟨rfl,HB9.out⟩
   have b17:(i.op==17)=false:=by rw[beq_eq_false_iff_ne];exact c17
   by_cases c18:i.op=18
   ·have HRR:Ia (R=bM (ax g.vs i.a==g.ret) 7):=by unfold Ia;rw[HEV2.out];unfold dO;rw[if_neg c15,if_neg c16,if_neg c17,if_pos c18]
    have HVAa:Ia (isVar g.vs.length i.a=true):=HVA.out _ (by rw[HL.out];exact oG (by rw[c18];rfl));rw[c18] at z0;obtain⟨⟨ba,sa⟩,hta⟩:∃t,ax g.vs i.a=t:=⟨_,rfl⟩
    obtain⟨d,hdd⟩:=zE (((ba,sa):Ty)==(g.c.rp,g.c.rto));have heq:∀w,(Op.equalIn 10000 32 (.agg #[.bool ba,.string sa]) (.agg #[.bool g.c.rp,.string g.c.rto])).run prog w= .ok d w:=fun w=>by rw[dC,hdd]
    have HR2R:Ia (R=bM d 7):=by unfold Ia;rw[HRR.out,hta,←hdd];rfl
    have HTX:Ia (∀p:BW w6,zP 188 #[.agg #[.slice m.sA m.ss.length m.sC,.slice m.fA m.fs.length m.fC,.string g.c.nm,.int .i64 g.c.par,.slice g.c.varsA g.c.nvars g.c.varsC,.bool g.c.rp,.string g.c.rto,.int .i64 g.c.rcl,.slice g.c.fromA g.c.nfrom g.c.fromC,.slice g.c.insA g.c.ins.length g.c.insC],.int .i64 i.a] p.w (.agg #[.bool ba,.string sa])):=fun p=>by
     have:=gG m g i.a p.w (HJ6.out.below p.h).vars HJ6.out.nv HJ6.out.vl HVAa.out;rw[hta] at this;exact this
    have HJJ:Ia (∀p:BW w6,jk p.w N m g):=fun p=>jk.of (HRW6.out p.w p.h).1;have k0:∀p:BW w6,p.w.cell? ⟨N,0,none⟩=some (.slice m.sA m.ss.length m.sC):=fun p=>(HJJ.out p).1;have k1:∀p:BW w6,p.w.cell? ⟨N,1,none⟩=some (.slice m.fA m.fs.length m.fC):=fun p=>(HJJ.out p).2.1;have k2:∀p:BW w6,p.w.cell? ⟨N,2,none⟩=some (.string g.c.nm):=fun p=>(HJJ.out p).2.2.1;have k3:∀p:BW w6,p.w.cell? ⟨N,3,none⟩=some (.int .i64 g.c.par):=fun p=>(HJJ.out p).2.2.2.1;have k4:∀p:BW w6,p.w.cell? ⟨N,4,none⟩=some (.slice g.c.varsA g.c.nvars g.c.varsC):=fun p=>(HJJ.out p).2.2.2.2.1;have k5:∀p:BW w6,p.w.cell? ⟨N,5,none⟩=some (.bool g.c.rp):=fun p=>(HJJ.out p).2.2.2.2.2.1;have k6:∀p:BW w6,p.w.cell? ⟨N,6,none⟩=some (.string g.c.rto):=fun p=>(HJJ.out p).2.2.2.2.2.2.1;have k7:∀p:BW w6,p.w.cell? ⟨N,7,none⟩=some (.int .i64 g.c.rcl):=fun p=>(HJJ.out p).2.2.2.2.2.2.2.1;have k8:∀p:BW w6,p.w.cell? ⟨N,8,none⟩=some (.slice g.c.fromA g.c.nfrom g.c.fromC):=fun p=>(HJJ.out p).2.2.2.2.2.2.2.2.1;have k9:∀p:BW w6,p.w.cell? ⟨N,9,none⟩=some (.slice g.c.insA g.c.ins.length g.c.insC):=fun p=>(HJJ.out p).2.2.2.2.2.2.2.2.2;have z2p:∀p:BW w6,p.w.cell? ⟨N+1,2,none⟩=some (.int .i64 i.a):=fun p=>by rw[cell_of_row _ _ _ _ _ _ (HRW6.out p.w p.h).2];rfl
    clear HEV2 hta hdd HRR;go_wp2;refine zQ ?_
    repeat (go_big_quiet_step (first
     |(go_at_call 188;exact bg (HTX.out _))
     |(go_at_call 99;exact jo (aB _ _ _))))
    refine wpQuiet_nil ?_;rintro _ ⟨p,rfl⟩;go_wp2;go_ret;rw[HR2R.out,HN.out];exact⟨rfl,HB06.out.trans (p.h.mono (by omega))⟩
   have b18:(i.op==18)=false:=by rw[beq_eq_false_iff_ne];exact c18
   have HRR:Ia (R=au m g.vs i):=by unfold Ia;rw[HEV2.out];unfold dO;rw[if_neg c15,if_neg c16,if_neg c17,if_neg c18]
   have HPC:Ia (zP 189 #[.agg (jg m g),.agg i.cells] w6 (.int .i64 (au m g.vs i))):=
    pF m g i w6 (by have:=HVO.out;omega) ⟨HJ6.out,fun h=>HVA.out _ (by rw[HL.out];exact BN h),fun h=>HVA.out _ (by rw[HL.out];exact oG h),fun h=>HVA.out _ (by rw[HL.out];exact DZ h),HIN.out.kn⟩
   clear HEV2 c15 c16 c17 c18
   go_wp2_with (first
    |(refine wpList_load_row rfl 184 _ rfl N rfl 184 (jg m g) (0,0) _ (HR6.out.1) underlying184 rfl (by kernel_rfl) ?_)
    |(refine wpList_load_row rfl 42 _ rfl (N+1) rfl 42 i.cells (0,0) _ (HR6.out.2) underlying42 rfl (by kernel_rfl) ?_)
    |(go_at_call 189;refine HPC.out.mono ?_;rintro e w7 ⟨rfl,hb7⟩;have HB7:=zH hb7;clear hb7))
   go_ret;rw[HRR.out,HN.out];exact⟨rfl,HB06.out.trans (HB7.out.mono (by omega))⟩
end Go.Proofs.YtjomgckjhcfbgaaGreat
