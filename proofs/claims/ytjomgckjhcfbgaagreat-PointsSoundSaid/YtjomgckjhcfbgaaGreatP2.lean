/- Walks. -/
import Derived.Test.YtjomgckjhcfbgaaGreatY8
import Derived.Test.YtjomgckjhcfbgaaGreatY15
import Derived.Test.YtjomgckjhcfbgaaGreatP1
set_option maxRecDepth 100000
set_option maxHeartbeats 64000000
set_option linter.all false
namespace Go.Proofs.YtjomgckjhcfbgaaGreat
open Go.RowKit
open _root_.List renaming getElem?_eq_getElem→ac,getElem?_eq_some_iff→ag,mem_of_getElem?→ap,getElem?_set_self→be,getElem?_set_ne→bj,ext_getElem?→dd
open _root_.Int renaming toNat_natCast→am,le_refl→cI
open _root_ renaming Int→aq,if_neg→bl,Nat→bo,List→bq,if_pos→bx,beq_false_of_ne→bD,Option→cL
open Go.Proofs.Tryz renaming prog→aw,ntmps121→bC,func121→b6,underlying42→cn,ntmps155→cp,func155→cq
open Go.RowKit.Below renaming refl→ba
open Go renaming seen→bd,frozen_of_row→bm,Value→cy,cell_of_row→cE
open Go.IntKind renaming i64→bs,i64→U
open Go.RowKit renaming Below→bt,Hid→cU
open _root_.Nat renaming le_refl→bA,zero_add→ch,le_succ→c8
open Go.Addr renaming add_lit→cf
open Go.Value renaming oneCell'→cP,string→ec,slice→ee,pointer→eg,bool→eh,agg→ei,int→Z
open _root_.Option renaming some→dy,none→dD
open _root_.Bool renaming true→dS,false→dT
open Go.Obj renaming cells→el
open Go.Ending renaming returned→em
open Go.Proofs.Tryz
def KS (w:World)(e:Ending)(w':World):Prop:=∃(r:aq) (b:Bool),e= em (.tuple #[Z U r,eh b])/\fO r/\w=w'
theorem KW (b:Bool):fO (if b=dS then 1 else 0):=by cases b<;>(unfold fO;simp)
theorem JK (w:World)(v:ByteArray)(a b:aq)(z:v∈gK):Calls aw 155 #[ec v,Z U a,Z U b] w (KS w):=by
 have h:cU (∀x,Calls aw 154 #[Z U x] w (J4 w)):=λx=>Je w x;have A:cU (∀x,zS 160 #[eh x] w (.tuple #[Z U (if x=dS then 1 else 0),eh dS])):=λx=>Jc w x;simp only[gK,List.mem_cons,List.not_mem_nil,or_false] at z;rcases z with rfl|rfl|rfl|rfl|rfl|rfl|rfl|rfl|rfl|rfl|rfl
 ·go_enter cq,cp
  go_wp2_with (go_at_call 154;refine(h.out _).mono ?_;rintro e w2 ⟨r,rfl,f,rfl⟩)
  go_ret2
  exact⟨_,_,rfl,f,rfl⟩
 ·go_enter cq,cp
  go_wp2_with (go_at_call 154;refine(h.out _).mono ?_;rintro e w2 ⟨r,rfl,f,rfl⟩)
  go_ret2
  exact⟨_,_,rfl,f,rfl⟩
 ·go_enter cq,cp
  go_wp2_with (go_at_call 154;refine(h.out _).mono ?_;rintro e w2 ⟨r,rfl,f,rfl⟩)
  go_ret2
  exact⟨_,_,rfl,f,rfl⟩
 ·by_cases u:b=0
  ·subst u
   go_enter cq,cp;go_wp2
   go_ret2
   exact⟨_,_,rfl,KU,rfl⟩
  ·have C:(b==0)=dT:=bD u
   go_enter cq,cp
   go_wp2_with (go_at_call 154;refine(h.out _).mono ?_;rintro e w2 ⟨r,rfl,f,rfl⟩)
   go_ret2
   exact⟨_,_,rfl,f,rfl⟩
 ·by_cases u:b=0
  ·subst u
   go_enter cq,cp;go_wp2
   go_ret2
   exact⟨_,_,rfl,KU,rfl⟩
  ·have C:(b==0)=dT:=bD u
   go_enter cq,cp
   go_wp2_with (go_at_call 154;refine(h.out _).mono ?_;rintro e w2 ⟨r,rfl,f,rfl⟩)
   go_ret2
   exact⟨_,_,rfl,f,rfl⟩
 all_goals
  go_enter cq,cp
  go_wp2_with (go_at_call 160;refine(A.out _).mono ?_;rintro e w2 ⟨rfl,rfl⟩)
  all_goals
   go_ret2
   refine⟨_,_,rfl, ?_,rfl⟩
   first|exact KW _|(unfold fO;omega)
def I6 (s f:IY):Prop:=f.no<=s.no+1/\s.asked<=f.asked/\f.asked<=s.asked+1/\f.kind=s.kind/\f.steps=s.steps/\f.code=s.code
theorem I6.refl (s:IY):I6 s s:=⟨by omega,by omega,by omega,rfl,rfl,rfl⟩
section
variable {R H:bo}{m:Mo}{B:bo}{tg:bo->WT}{s:IY}{cs:bq Cl}{stk:bq Fr}{bd:bq Sn}{w w':World}
def o8 (R H:bo)(m:Mo)(B:bo)(tg:bo->WT)(s:IY)(cs:bq Cl)(stk:bq Fr)(bd:bq Sn)(w:World)(d:bo)(r:Fr)(i:Ins)(e:Ending)(w':World):Prop:=
 ∃(b:Bool) (v':bq aq) (cs':bq Cl),e= em (eh b)/\Pl m i cs r.v v' cs'/\(b=dT->cs'.length=cs.length)/\Bb R H m B tg w cs' (stk.set d {r with v:=v'}) bd (I6 s) w'
theorem I8 {d:bo}{r:Fr}(f:stk[d]?=dy r):stk.set d {r with v:=r.v}=stk:=by
 refine dd λn=> ?_
 by_cases e:d=n
 ·subst e
  rw[be (ag.1 f).1,f]
 ·rw[bj e]
theorem o8.none {d:bo}{r:Fr}{i:Ins}{b:Bool}{w w':World}(h:Wm R H m B tg s cs stk bd w)(u:stk[d]?=dy r)(f:bt w.heap.size w w'):o8 R H m B tg s cs stk bd w d r i (em (eh b)) w':=
 ⟨b,r.v,cs,rfl,.none,λ_=>rfl,tg,s,by rw[I8 u];exact h.grow f,I6.refl s,Ext.of_below_size f,λ_ z=> .inl z⟩
theorem Jz (h:Wm R H m B tg s cs stk bd w)(p:aq):J9 s cs p= eg dD\/∃(k:bo) (c:Cl) (g:bo),p=(k:aq)+1/\cs[k]?=dy c/\c.al=dS/\s.ceA=dy ⟨g,0,dD⟩/\J9 s cs p= eg (dy ⟨g,k*4,dD⟩):=by
 unfold J9
 by_cases f:p<1
 ·rw[bx f];exact .inl rfl
 ·rw[bl f]
  cases u:cs[(p-1).toNat]? with
  |none=>exact .inl rfl
  |some c=>
   obtain⟨g,v,_⟩:=h.cellAt u;simp only;cases z:c.al with
   |true=>
    right
    refine⟨(p-1).toNat,c,g,by omega,u,z,v, ?_⟩;rw[bx rfl,v];rfl
   |false=>exact .inl rfl
theorem JL (w:World)(h:Wm R H m B tg s cs stk bd w){d:bo}{r:Fr}(hr:stk[d]?=dy r)(i:Ins)(fX:i.op=7\/i.op=8\/i.op=10\/i.op=11)(gm:cs.length<=100000)
  (ha:0<=i.a/\i.a.toNat<r.v.length)(gn:r.v.length<=1000)(fi:∀x∈r.v,fO x)(hf:∀(k:bo)(c:Cl),r.v[i.a.toNat]?=dy ((k:aq)+1)->cs[k]?=dy c->0<=i.f/\i.f.toNat<c.fs.length)
  (hd:i.op=7\/i.op=10->0<=i.d/\i.d.toNat<r.v.length)(hb:i.op=8\/i.op=11->0<=i.b/\i.b.toNat<r.v.length):
  Calls aw 157 #[eg (dy ⟨R,0,dD⟩),ei i.cells,ee (dy ⟨r.b,0,dD⟩) r.v.length r.v.length] w (o8 R H m B tg s cs stk bd w d r i):=by
 obtain⟨a,eJ⟩:∃a:bo,i.a=(a:aq):=⟨i.a.toNat,by omega⟩
 have fY:a<r.v.length:=by have:=ha.2;rw[eJ,am] at this;exact this
 obtain⟨p,hp⟩:∃p,r.v[a]?=dy p:=⟨_,ac fY⟩
 have gb:=fi p (ap hp);obtain⟨D,hD⟩:=zE w.heap.size;obtain⟨E,eK⟩:=zE (w.alloc (el i.cells 42));have ew:=iq eK;have eL:E.heap[D]?=dy (el i.cells 42 (0,0)):=by rw[<-eK,<-hD];exact alloc_at _ _
 have h1:=h.grow ew;have eM:cU (∀(v':bq aq)(cs':bq Cl)(W2 w':World),bt E.heap.size E W2->Pl m i cs r.v v' cs'->Bb R H m B tg W2 cs' (stk.set d {r with v:=v'}) bd (·=s) w'->o8 R H m B tg s cs stk bd w d r i (em (eh dS)) w'):=λv' cs' W2 w' hb h1 h2=>
  ⟨dS,v',cs',rfl,h1,(λh=>by cases h),Bb.step (Ext.of_below_size (ew.trans (hb.mono ew.size))) (λ_ hk=> .inl hk) (h2.imp λs' e=>by rw[e];exact I6.refl s)⟩
 have gr:cU (∀W,bt E.heap.size E W->o8 R H m B tg s cs stk bd w d r i (em (eh dT)) W):=λW A=>o8.none h hr (ew.trans (A.mono ew.size));obtain⟨S1,fj⟩:=zE ((λW=>bt E.heap.size E W):World->Prop);have eN:cU (∀W,S1 W->bt E.heap.size E W):=λW A=>by rw[<-fj] at A;exact A
 have P:cU (∀W,S1 W->W.cell? ⟨R,2,dD⟩=dy (eg (dy ⟨H,0,dD⟩))/\R<W.heap.size/\W.cell? ⟨D,2,dD⟩=dy (Z U (a:aq))/\W.cell? ⟨r.b,a,dD⟩=dy (Z U p)/\r.b<W.heap.size/\D<W.heap.size):=λW A=>by
  have hg:=h1.grow (eN.out W A);have rr:=((eN.out W A).block D (ae eL)).trans eL;have rb:=hg.x.fr d r hr (by simp);exact⟨zR (hg.x.run (by simp)) 2 _,ae (hg.x.run (by simp)),by rw[<-eJ];exact zR rr 2 _,rb.cell hp,ae rb,ae rr⟩
 have fk:S1 E.drew:=by rw[<-fj];exact(ba _ _).drew
 have gd:cU (∀W,S1 W->zS 159 #[eg (dy ⟨H,0,dD⟩),Z U p] W (J9 s cs p)):=λW A=>Jy W (h1.grow (eN.out W A)) p gm gb;have gw:(a:aq)<(r.v.length:aq):=by omega
 have H1:=zH h1;have ge:=zH eL;have gz:=zH eK;have HD:=zH hD;have HP:=zH hp;have gA:=zH fX;have g9:=zH fi;obtain⟨L,hL⟩:=zE r.v.length;rw[hL] at gw fY hd hb gn⊢;have eR:=zH hL;have HF:=zH hf;have gg:=zH hd;have gh:=zH hb;have gC:=zH eJ;clear h ew eL h1 fj eK hD hp fX fi hf hd hb eJ ha gb hL;go_enter func157,ntmps157
 go_upto_region 1 with(fail)
 (try rw[HD.out]);rw[gz.out];refine bL S1 (by kernel_rfl) ?_;refine yT 0 rfl P.out ?_;(try go_simp);refine yT 1 rfl P.out ?_;(try go_simp);refine yT 2 rfl P.out ?_;(try go_simp);refine yT 3 rfl P.out ?_;(try go_simp);refine yT 4 rfl P.out ?_;(try go_simp);refine yT 5 rfl P.out ?_;(try go_simp);refine yT 6 rfl P.out ?_;(try go_simp);refine yT 7 rfl P.out ?_;(try go_simp);refine yT 8 rfl P.out ?_;(try go_simp);refine yO 9 rfl λK' N=> ?_;go_simp;go_at_call 159;refine(gd.out _ fk).mono ?_;rintro e W2 ⟨rfl,rfl⟩;refine N _ _ fk ?_;clear N;(try go_simp);refine yT 10 rfl P.out ?_;(try go_simp);refine⟨by kernel_rfl, ?_⟩;obtain⟨X,hX⟩:=zE E.drew;have eS:bt E.heap.size E X:=by rw[<-hX];exact(ba _ _).drew
 rw[hX];have gi:=H1.out.grow eS;have eV:=(eS.block D (ae ge.out)).trans ge.out;have c0:X.cell? ⟨D,0,dD⟩=dy (Z U i.op):=zR eV 0 _;have eW:=ae eV;have ep:=zH gi;have eq:=zH eV;have eI:=zH eS;clear fk hX gi eV eS P gd eN;rcases Jz ep.out p with e|⟨k,c,g,fm,hc,gE,hg,e⟩
 ·rw[e]
  clear e c0;go_wp2;go_ret;exact gr.out X eI.out
 rw[e];have fp:r.v[i.a.toNat]?=dy ((k:aq)+1):=by rw[gC.out,am,HP.out,fm]
 obtain⟨gO,ft⟩:=HF.out k c fp hc;obtain⟨f,fx⟩:∃f:bo,i.f=(f:aq):=⟨i.f.toNat,by omega⟩
 rw[fx,am] at ft;have gR:(f:aq)<(c.fs.length:aq):=by omega
 obtain⟨x,hx⟩:∃x,c.fs[f]?=dy x:=⟨_,ac ft⟩
 obtain⟨g',fy,ff,_,_,Y,_⟩:=ep.out.cellAt hc;rw[hg] at fy;obtain rfl:g=g':=by simpa using fy
 have fg:=ep.out.x.fl k c hc (by simp);have er:X.cell? ⟨c.b,f,dD⟩=dy (Z U x):=fg.cell hx;have ez:X.frozen? ⟨c.b,f,dD⟩=dT:=bm _ _ _ _ _ fg;have eA:=ae fg;have fz:=ep.out.x.fr d r hr (by simp);have eC:=ae fz;obtain⟨CL,gj⟩:=zE c.fs.length;rw[gj] at Y gR ft;have fh:=zH fp;have es:=zH fx;have gl:=zH hx;have HC:=zH hc;have eE:=zH fz;have hC:=zH fm;have gS:∀W,bt E.heap.size E W->True:=λ_ _=>trivial;clear e fp hx fg hc fz fm fx gO hg fy gj gE gS;rcases gA.out with G|G|G|G
 ·have e1:(i.op==7)=dS:=by rw[G];rfl
  have e2:(i.op==10)=dT:=by rw[G];rfl
  obtain⟨et,Q⟩:=gg.out (by omega);obtain⟨z,C⟩:∃z:bo,i.d=(z:aq):=⟨i.d.toNat,by omega⟩
  rw[C,am] at Q;have fL:(z:aq)<(L:aq):=by omega
  obtain⟨y,O⟩:∃y,r.v[z]?=dy y:=⟨_,ac (by rw[eR.out];exact Q)⟩
  have en:X.drew.cell? ⟨r.b,z,dD⟩=dy (Z U y):=eE.out.cell O;have fN:X.drew.frozen? ⟨r.b,z,dD⟩=dT:=bm _ _ _ _ _ (show X.drew.heap[r.b]?=_ from eE.out);have T:X.drew.cell? ⟨D,4,dD⟩=dy (Z U (f:aq)):=by rw[<-es.out];exact zR eq.out 4 _
  have V:X.drew.cell? ⟨D,1,dD⟩=dy (Z U (z:aq)):=by rw[<-C];exact zR eq.out 1 _
  have ev:=zH (eM.out (r.v.set i.d.toNat x) cs X.drew (X.drew.setCell ⟨r.b,z,dD⟩ (Z U x)) eI.out.drew (.get (by omega) fh.out HC.out (by rw[es.out,am];exact gl.out)) (by rw[C,am];exact(ep.out.grow (ba _ _).drew).var hr z x));obtain⟨I,J⟩:=zE ((λW=>W=X.drew):World->Prop);have fR:I X.drew:=by rw[<-J]
  have u:cU (∀W,I W->W.cell? ⟨D,1,dD⟩=dy (Z U (z:aq))/\W.cell? ⟨D,4,dD⟩=dy (Z U (f:aq))/\W.cell? ⟨g,k*4+1,dD⟩=dy (ee (dy ⟨c.b,0,dD⟩) CL CL)/\W.cell? ⟨c.b,f,dD⟩=dy (Z U x)/\D<W.heap.size/\g<W.heap.size/\c.b<W.heap.size/\r.b<W.heap.size):=λW A=>by
   rw[<-J] at A;subst A;exact⟨V,T,Y,er,eW,ff,eA,eC⟩
  have g6:r.b<X.drew.heap.size:=eC;clear J V T O C et Y er ez G
  go_upto_region 5 with(fail)
  refine ak 12 I (by kernel_rfl) ?_;refine zT 0 rfl u.out ?_;(try go_simp);refine zT 1 rfl u.out ?_;(try go_simp);refine zT 2 rfl u.out ?_;(try go_simp);refine zT 3 rfl u.out ?_;(try go_simp);refine zT 4 rfl u.out ?_;(try go_simp);refine zT 5 rfl u.out ?_;(try go_simp);refine zT 6 rfl u.out ?_;(try go_simp);refine zT 7 rfl u.out ?_;(try go_simp);refine zT 8 rfl u.out ?_;(try go_simp);refine zT 9 rfl u.out ?_;(try go_simp);refine zT 10 rfl u.out ?_;(try go_simp);refine zT 11 rfl u.out ?_;(try go_simp);refine zK rfl λK' N=> ?_;go_simp;(try simp only[en,fN]);(try go_simp);refine N _ _ ?_;clear N;refine⟨by kernel_rfl, ?_⟩;go_wp2;go_ret;exact ev.out
 ·have e1:(i.op==7)=dT:=by rw[G];rfl
  have e2:(i.op==10)=dT:=by rw[G];rfl
  obtain⟨et,Q⟩:=gh.out (by omega);obtain⟨z,C⟩:∃z:bo,i.b=(z:aq):=⟨i.b.toNat,by omega⟩
  rw[C,am] at Q;have fL:(z:aq)<(L:aq):=by omega
  obtain⟨y,O⟩:∃y,r.v[z]?=dy y:=⟨_,ac (by rw[eR.out];exact Q)⟩
  have en:X.drew.cell? ⟨r.b,z,dD⟩=dy (Z U y):=eE.out.cell O;have T:X.drew.cell? ⟨D,4,dD⟩=dy (Z U (f:aq)):=by rw[<-es.out];exact zR eq.out 4 _
  have V:X.drew.cell? ⟨D,3,dD⟩=dy (Z U (z:aq)):=by rw[<-C];exact zR eq.out 3 _
  have fS:X.drew.cell? ⟨c.b,f,dD⟩=dy (Z U x):=er;have fW:X.drew.frozen? ⟨c.b,f,dD⟩=dT:=ez;have ev:=zH (eM.out r.v (cs.set k {c with fs:=c.fs.set i.f.toNat y}) X.drew (X.drew.setCell ⟨c.b,f,dD⟩ (Z U y)) eI.out.drew (.put (by omega) fh.out HC.out (by rw[C,am];exact O)) (by rw[I8 hr,es.out,am];exact(ep.out.grow (ba _ _).drew).fld HC.out f y));obtain⟨I,J⟩:=zE ((λW=>W=X.drew):World->Prop);have fR:I X.drew:=by rw[<-J]
  have u:cU (∀W,I W->W.cell? ⟨D,3,dD⟩=dy (Z U (z:aq))/\W.cell? ⟨D,4,dD⟩=dy (Z U (f:aq))/\W.cell? ⟨g,k*4+1,dD⟩=dy (ee (dy ⟨c.b,0,dD⟩) CL CL)/\W.cell? ⟨r.b,z,dD⟩=dy (Z U y)/\D<W.heap.size/\g<W.heap.size/\c.b<W.heap.size/\r.b<W.heap.size):=λW A=>by
   rw[<-J] at A;subst A;exact⟨V,T,Y,en,eW,ff,eA,eC⟩
  have g7:c.b<X.drew.heap.size:=eA;clear J V T O C et Y er ez en G
  go_upto_region 6 with(fail)
  refine ak 12 I (by kernel_rfl) ?_;refine zT 0 rfl u.out ?_;(try go_simp);refine zT 1 rfl u.out ?_;(try go_simp);refine zT 2 rfl u.out ?_;(try go_simp);refine zT 3 rfl u.out ?_;(try go_simp);refine zT 4 rfl u.out ?_;(try go_simp);refine zT 5 rfl u.out ?_;(try go_simp);refine zT 6 rfl u.out ?_;(try go_simp);refine zT 7 rfl u.out ?_;(try go_simp);refine zT 8 rfl u.out ?_;(try go_simp);refine zT 9 rfl u.out ?_;(try go_simp);refine zT 10 rfl u.out ?_;(try go_simp);refine zT 11 rfl u.out ?_;(try go_simp);refine zK rfl λK' N=> ?_;go_simp;(try simp only[fS,fW]);(try go_simp);refine N _ _ ?_;clear N;refine⟨by kernel_rfl, ?_⟩;go_wp2;go_ret;exact ev.out
 ·have e1:(i.op==7)=dT:=by rw[G];rfl
  have e2:(i.op==10)=dS:=by rw[G];rfl
  obtain⟨et,Q⟩:=gg.out (by omega);obtain⟨z,C⟩:∃z:bo,i.d=(z:aq):=⟨i.d.toNat,by omega⟩
  rw[C,am] at Q;have fL:(z:aq)<(L:aq):=by omega
  obtain⟨y,O⟩:∃y,r.v[z]?=dy y:=⟨_,ac (by rw[eR.out];exact Q)⟩
  have en:X.drew.cell? ⟨r.b,z,dD⟩=dy (Z U y):=eE.out.cell O;have fN:X.drew.frozen? ⟨r.b,z,dD⟩=dT:=bm _ _ _ _ _ (show X.drew.heap[r.b]?=_ from eE.out);have T:X.drew.cell? ⟨D,4,dD⟩=dy (Z U (f:aq)):=by rw[<-es.out];exact zR eq.out 4 _
  have V:X.drew.cell? ⟨D,1,dD⟩=dy (Z U (z:aq)):=by rw[<-C];exact zR eq.out 1 _
  have ev:=zH (eM.out (r.v.set i.d.toNat x) cs X.drew (X.drew.setCell ⟨r.b,z,dD⟩ (Z U x)) eI.out.drew (.get (by omega) fh.out HC.out (by rw[es.out,am];exact gl.out)) (by rw[C,am];exact(ep.out.grow (ba _ _).drew).var hr z x));obtain⟨I,J⟩:=zE ((λW=>W=X.drew):World->Prop);have fR:I X.drew:=by rw[<-J]
  have u:cU (∀W,I W->W.cell? ⟨D,1,dD⟩=dy (Z U (z:aq))/\W.cell? ⟨D,4,dD⟩=dy (Z U (f:aq))/\W.cell? ⟨g,k*4+1,dD⟩=dy (ee (dy ⟨c.b,0,dD⟩) CL CL)/\W.cell? ⟨c.b,f,dD⟩=dy (Z U x)/\D<W.heap.size/\g<W.heap.size/\c.b<W.heap.size/\r.b<W.heap.size):=λW A=>by
   rw[<-J] at A;subst A;exact⟨V,T,Y,er,eW,ff,eA,eC⟩
  have g6:r.b<X.drew.heap.size:=eC;clear J V T O C et Y er ez G
  go_upto_region 5 with(fail)
  refine ak 12 I (by kernel_rfl) ?_;refine zT 0 rfl u.out ?_;(try go_simp);refine zT 1 rfl u.out ?_;(try go_simp);refine zT 2 rfl u.out ?_;(try go_simp);refine zT 3 rfl u.out ?_;(try go_simp);refine zT 4 rfl u.out ?_;(try go_simp);refine zT 5 rfl u.out ?_;(try go_simp);refine zT 6 rfl u.out ?_;(try go_simp);refine zT 7 rfl u.out ?_;(try go_simp);refine zT 8 rfl u.out ?_;(try go_simp);refine zT 9 rfl u.out ?_;(try go_simp);refine zT 10 rfl u.out ?_;(try go_simp);refine zT 11 rfl u.out ?_;(try go_simp);refine zK rfl λK' N=> ?_;go_simp;(try simp only[en,fN]);(try go_simp);refine N _ _ ?_;clear N;refine⟨by kernel_rfl, ?_⟩;go_wp2;go_ret;exact ev.out
 ·have e1:(i.op==7)=dT:=by rw[G];rfl
  have e2:(i.op==10)=dT:=by rw[G];rfl
  obtain⟨et,Q⟩:=gh.out (by omega);obtain⟨z,C⟩:∃z:bo,i.b=(z:aq):=⟨i.b.toNat,by omega⟩
  rw[C,am] at Q;have fL:(z:aq)<(L:aq):=by omega
  obtain⟨y,O⟩:∃y,r.v[z]?=dy y:=⟨_,ac (by rw[eR.out];exact Q)⟩
  have en:X.drew.cell? ⟨r.b,z,dD⟩=dy (Z U y):=eE.out.cell O;have T:X.drew.cell? ⟨D,4,dD⟩=dy (Z U (f:aq)):=by rw[<-es.out];exact zR eq.out 4 _
  have V:X.drew.cell? ⟨D,3,dD⟩=dy (Z U (z:aq)):=by rw[<-C];exact zR eq.out 3 _
  have fS:X.drew.cell? ⟨c.b,f,dD⟩=dy (Z U x):=er;have fW:X.drew.frozen? ⟨c.b,f,dD⟩=dT:=ez;have ev:=zH (eM.out r.v (cs.set k {c with fs:=c.fs.set i.f.toNat y}) X.drew (X.drew.setCell ⟨c.b,f,dD⟩ (Z U y)) eI.out.drew (.put (by omega) fh.out HC.out (by rw[C,am];exact O)) (by rw[I8 hr,es.out,am];exact(ep.out.grow (ba _ _).drew).fld HC.out f y));obtain⟨I,J⟩:=zE ((λW=>W=X.drew):World->Prop);have fR:I X.drew:=by rw[<-J]
  have u:cU (∀W,I W->W.cell? ⟨D,3,dD⟩=dy (Z U (z:aq))/\W.cell? ⟨D,4,dD⟩=dy (Z U (f:aq))/\W.cell? ⟨g,k*4+1,dD⟩=dy (ee (dy ⟨c.b,0,dD⟩) CL CL)/\W.cell? ⟨r.b,z,dD⟩=dy (Z U y)/\D<W.heap.size/\g<W.heap.size/\c.b<W.heap.size/\r.b<W.heap.size):=λW A=>by
   rw[<-J] at A;subst A;exact⟨V,T,Y,en,eW,ff,eA,eC⟩
  have g7:c.b<X.drew.heap.size:=eA;clear J V T O C et Y er ez en G
  go_upto_region 6 with(fail)
  refine ak 12 I (by kernel_rfl) ?_;refine zT 0 rfl u.out ?_;(try go_simp);refine zT 1 rfl u.out ?_;(try go_simp);refine zT 2 rfl u.out ?_;(try go_simp);refine zT 3 rfl u.out ?_;(try go_simp);refine zT 4 rfl u.out ?_;(try go_simp);refine zT 5 rfl u.out ?_;(try go_simp);refine zT 6 rfl u.out ?_;(try go_simp);refine zT 7 rfl u.out ?_;(try go_simp);refine zT 8 rfl u.out ?_;(try go_simp);refine zT 9 rfl u.out ?_;(try go_simp);refine zT 10 rfl u.out ?_;(try go_simp);refine zT 11 rfl u.out ?_;(try go_simp);refine zK rfl λK' N=> ?_;go_simp;(try simp only[fS,fW]);(try go_simp);refine N _ _ ?_;clear N;refine⟨by kernel_rfl, ?_⟩;go_wp2;go_ret;exact ev.out
end
section
variable {R H:bo}{m:Mo}{B:bo}{tg:bo->WT}{s:IY}{cs:bq Cl}{stk:bq Fr}{bd:bq Sn}{w w':World}{d:bo}{r:Fr}
theorem o8.of {w f:World}{i:Ins}{b:Bool}{v':bq aq}{cs':bq Cl}(u:bt w.heap.size w f)(z:Pl m i cs r.v v' cs')(A:Bb R H m B tg f cs' (stk.set d {r with v:=v'}) bd (I6 s) w')(C:b=dT->cs'.length=cs.length:=by first|(intro h;cases h;done)|(intro _;rfl)):o8 R H m B tg s cs stk bd w d r i (em (eh b)) w':=
 ⟨b,v',cs',rfl,z,C,Bb.step (Ext.of_below_size u) (λ_ D=> .inl D) A⟩
theorem KJ (s:IY)(A:cL Addr)(K:bo):I6 s {s with ouA:=A,ouK:=K,no:=s.no+1}:=by
 refine⟨bA _,cI s.asked, ?_,rfl,rfl,rfl⟩
 show s.asked<=s.asked+1
 omega
theorem KL (s:IY)(v:cy):I6 s {s with inn:=v}:=by
 refine⟨c8 s.no,cI s.asked, ?_,rfl,rfl,rfl⟩
 show s.asked<=s.asked+1
 omega
theorem JZ (h:Bb R H m B tg w cs stk bd (·=s) w'):Bb R H m B tg w cs stk bd (I6 s) w':=h.imp λf e=>by rw[e];exact I6.refl s
theorem Ku (w:World)(h:Wm R H m B tg s cs stk bd w)(T:stk[d]?=dy r)(i:Ins)(J:i.op=2)(X:r.v.length<=1000)(V:0<=i.d/\i.d.toNat<r.v.length):
  Calls aw 121 #[eg (dy ⟨R,0,dD⟩),ei i.cells,ee (dy ⟨r.b,0,dD⟩) r.v.length r.v.length] w (o8 R H m B tg s cs stk bd w d r i):=by
 obtain⟨f,E⟩:∃n:bo,i.d=(n:aq):=⟨i.d.toNat,by omega⟩
 have W:f<r.v.length:=by have:=V.2;rw[E,am] at this;exact this
 obtain⟨Y,N⟩:∃y,r.v[f]?=dy y:=⟨_,ac W⟩
 have en:(f:aq)<(r.v.length:aq):=by omega
 obtain⟨D,O⟩:=zE w.heap.size;obtain⟨u,G⟩:=zE (w.alloc (el i.cells 42));have P:=iq G;have z:u.heap[D]?=dy (el i.cells 42 (0,0)):=by rw[<-G,<-O];exact alloc_at _ _
 have A:=h.grow P;have I:=A.x.fr d r T (by simp);have c0:u.cell? ⟨D,0,dD⟩=dy (Z U 2):=by rw[<-J];exact zR z 0 _
 have c1:u.cell? ⟨D,1,dD⟩=dy (Z U (f:aq)):=by rw[<-E];exact zR z 1 _
 have ed:u.cell? ⟨r.b,f,dD⟩=dy (Z U Y):=I.cell N;have Q:∀k,u.frozen? ⟨r.b,k,dD⟩=dT:=λk=>bm _ _ _ _ _ I;have cR:u.cell? ⟨R,2,dD⟩=dy (eg (dy ⟨H,0,dD⟩)):=zR (A.x.run (by simp)) 2 _;have ev:=ae (A.x.run (by simp));have ew:=ae z;have ez:=ae I;have eA:u.frozen? ⟨r.b,f,dD⟩=dT:=Q f;have ep:=zH E;have eC:=zH N;obtain⟨L,C⟩:=zE r.v.length;rw[C];rw[C] at en W;rw[C] at X;have eE:=zH C;have H1:=zH A;have eI:=zH z;have eq:=zH P;have er:=zH G;have HD:=zH O;have es:=zH J;have H0:=zH h;have eJ:=zH Q;clear h P z A G O J I C Q E N V;go_enter b6,bC
 go_upto_region 1 with(fail)
 (try rw[HD.out]);rw[er.out];have et:=zH (o8.of (b:=dS) eq.out (Pl.null (m:=m) (cs:=cs) (v:=r.v) (.inl es.out)) (by rw[ep.out,am];exact JZ (H1.out.var T f 0)));go_wp2;go_ret;exact et.out
theorem Kv (w:World)(h:Wm R H m B tg s cs stk bd w)(Y:stk[d]?=dy r)(i:Ins)(O:i.op=1)(ep:r.v.length<=1000)(hd:0<=i.d/\i.d.toNat<r.v.length):
  Calls aw 121 #[eg (dy ⟨R,0,dD⟩),ei i.cells,ee (dy ⟨r.b,0,dD⟩) r.v.length r.v.length] w (o8 R H m B tg s cs stk bd w d r i):=by
 obtain⟨u,I⟩:∃n:bo,i.d=(n:aq):=⟨i.d.toNat,by omega⟩
 have en:u<r.v.length:=by have:=hd.2;rw[I,am] at this;exact this
 obtain⟨yd,P⟩:∃y,r.v[u]?=dy y:=⟨_,ac en⟩
 have eq:(u:aq)<(r.v.length:aq):=by omega
 obtain⟨D,Q⟩:=zE w.heap.size;obtain⟨f,J⟩:=zE (w.alloc (el i.cells 42));have T:=iq J;have z:f.heap[D]?=dy (el i.cells 42 (0,0)):=by rw[<-J,<-Q];exact alloc_at _ _
 have C:=h.grow T;have N:=C.x.fr d r Y (by simp);have c0:f.cell? ⟨D,0,dD⟩=dy (Z U 1):=by rw[<-O];exact zR z 0 _
 have c1:f.cell? ⟨D,1,dD⟩=dy (Z U (u:aq)):=by rw[<-I];exact zR z 1 _
 have ed:f.cell? ⟨r.b,u,dD⟩=dy (Z U yd):=N.cell P;have ef:∀k,f.frozen? ⟨r.b,k,dD⟩=dT:=λk=>bm _ _ _ _ _ N;have cR:f.cell? ⟨R,2,dD⟩=dy (eg (dy ⟨H,0,dD⟩)):=zR (C.x.run (by simp)) 2 _;have eL:=ae (C.x.run (by simp));have er:=ae z;have es:=ae N;have c5:f.cell? ⟨D,5,dD⟩=dy (Z U i.n):=zR z 5 _;have et:=zH I;have eM:=zH P;obtain⟨L,E⟩:=zE r.v.length;rw[E];rw[E] at eq en;rw[E] at ep;have eN:=zH E;have H1:=zH C;have eR:=zH z;have ev:=zH T;have ew:=zH J;have HD:=zH Q;have ez:=zH O;have H0:=zH h;have eA:=zH ef;clear h T z C J Q O N E ef I P hd;go_enter b6,bC
 go_upto_region 1 with(fail)
 (try rw[HD.out]);rw[ew.out];obtain⟨V,X⟩:=zE ((λW=>W=f.drew):World->Prop);have eC:V f.drew:=by rw[<-X]
 have A:cU (∀W,V W->W.cell? ⟨D,1,dD⟩=dy (Z U (u:aq))/\W.cell? ⟨D,5,dD⟩=dy (Z U i.n)/\D<W.heap.size/\r.b<W.heap.size):=λW hW=>by
  rw[<-X] at hW;subst hW;exact⟨c1,c5,er,es⟩
 have eE:f.drew.cell? ⟨r.b,u,dD⟩=dy (Z U yd):=ed;have eI:f.drew.frozen? ⟨r.b,u,dD⟩=dT:=eA.out u;clear X ed
 go_upto_region 3 with(fail)
 refine ak 7 V (by kernel_rfl) ?_;refine zT 0 rfl A.out ?_;(try go_simp);refine zT 1 rfl A.out ?_;(try go_simp);refine zT 2 rfl A.out ?_;(try go_simp);refine zT 3 rfl A.out ?_;(try go_simp);refine zT 4 rfl A.out ?_;(try go_simp);refine zO 5 rfl λK' G=> ?_;go_simp;go_at_call 154;refine(Je _ _).mono ?_;rintro e W5 ⟨x,rfl,eJ,rfl⟩;refine G _ _ eC ?_;clear G;(try go_simp);have eK:=zH (o8.of (b:=dS) ev.out.drew (Pl.num (m:=m) (cs:=cs) (v:=r.v) eJ (.inl ez.out)) (by rw[et.out,am];exact JZ ((H1.out.grow (ba _ _).drew).var Y u x)));refine zT 6 rfl A.out ?_;(try go_simp);refine zK rfl λK' G=> ?_;go_simp;(try simp only[eE,eI]);(try go_simp);refine G _ _ ?_;clear G;refine⟨by kernel_rfl, ?_⟩;go_wp2;go_ret;exact eK.out
theorem Kw (w:World)(h:Wm R H m B tg s cs stk bd w)(hr:stk[d]?=dy r)(i:Ins)(Q:i.op=3)(ep:∀x∈r.v,fO x)(et:r.v.length<=1000)(hd:0<=i.d/\i.d.toNat<r.v.length)(ha:0<=i.a/\i.a.toNat<r.v.length):
  Calls aw 121 #[eg (dy ⟨R,0,dD⟩),ei i.cells,ee (dy ⟨r.b,0,dD⟩) r.v.length r.v.length] w (o8 R H m B tg s cs stk bd w d r i):=by
 obtain⟨u,J⟩:∃n:bo,i.d=(n:aq):=⟨i.d.toNat,by omega⟩
 have eq:u<r.v.length:=by have:=hd.2;rw[J,am] at this;exact this
 obtain⟨yd,T⟩:∃y,r.v[u]?=dy y:=⟨_,ac eq⟩
 have ev:(u:aq)<(r.v.length:aq):=by omega
 obtain⟨A,N⟩:∃n:bo,i.a=(n:aq):=⟨i.a.toNat,by omega⟩
 have er:A<r.v.length:=by have:=ha.2;rw[N,am] at this;exact this
 obtain⟨O,V⟩:∃y,r.v[A]?=dy y:=⟨_,ac er⟩
 have ew:(A:aq)<(r.v.length:aq):=by omega
 obtain⟨D,X⟩:=zE w.heap.size;obtain⟨f,P⟩:=zE (w.alloc (el i.cells 42));have Y:=iq P;have C:f.heap[D]?=dy (el i.cells 42 (0,0)):=by rw[<-P,<-X];exact alloc_at _ _
 have G:=h.grow Y;have I:=G.x.fr d r hr (by simp);have c0:f.cell? ⟨D,0,dD⟩=dy (Z U 3):=by rw[<-Q];exact zR C 0 _
 have c1:f.cell? ⟨D,1,dD⟩=dy (Z U (u:aq)):=by rw[<-J];exact zR C 1 _
 have ed:f.cell? ⟨r.b,u,dD⟩=dy (Z U yd):=I.cell T;have c2:f.cell? ⟨D,2,dD⟩=dy (Z U (A:aq)):=by rw[<-N];exact zR C 2 _
 have ea:f.cell? ⟨r.b,A,dD⟩=dy (Z U O):=I.cell V;have ef:∀k,f.frozen? ⟨r.b,k,dD⟩=dT:=λk=>bm _ _ _ _ _ I;have cR:f.cell? ⟨R,2,dD⟩=dy (eg (dy ⟨H,0,dD⟩)):=zR (G.x.run (by simp)) 2 _;have eV:=ae (G.x.run (by simp));have ez:=ae C;have eA:=ae I;have es:=ep;have eC:=zH J;have eW:=zH T;have ff:=zH N;have eE:=zH V;obtain⟨L,E⟩:=zE r.v.length;rw[E];rw[E] at ev eq;rw[E] at ew er;rw[E] at et;have fg:=zH E;have H1:=zH G;have fh:=zH C;have eI:=zH Y;have eJ:=zH P;have HD:=zH X;have eK:=zH Q;have H0:=zH h;have eL:=zH ef;clear h Y C G P X Q I E ef J T hd N V ha;go_enter b6,bC
 go_upto_region 1 with(fail)
 (try rw[HD.out]);rw[eJ.out];have eM:=zH es;clear es ep;obtain⟨S3,en⟩:=zE ((λW=>W=f.drew):World->Prop);have fi:S3 f.drew:=by rw[<-en]
 have z:cU (∀W,S3 W->W.cell? ⟨D,1,dD⟩=dy (Z U (u:aq))/\W.cell? ⟨D,2,dD⟩=dy (Z U (A:aq))/\W.cell? ⟨r.b,A,dD⟩=dy (Z U O)/\D<W.heap.size/\r.b<W.heap.size):=λW hW=>by
  rw[<-en] at hW;subst hW;exact⟨c1,c2,ea,ez,eA⟩
 have eN:f.drew.cell? ⟨r.b,u,dD⟩=dy (Z U yd):=ed;have eR:f.drew.frozen? ⟨r.b,u,dD⟩=dT:=eL.out u;have eS:=zH (o8.of (b:=dS) eI.out.drew (Pl.num (m:=m) (cs:=cs) (v:=r.v) (eM.out O (ap eE.out)) (.inr (.inl eK.out))) (by rw[eC.out,am];exact JZ ((H1.out.grow (ba _ _).drew).var hr u O)));clear en ed ea
 go_upto_region 8 with(fail)
 refine ak 9 S3 (by kernel_rfl) ?_;refine zT 0 rfl z.out ?_;(try go_simp);refine zT 1 rfl z.out ?_;(try go_simp);refine zT 2 rfl z.out ?_;(try go_simp);refine zT 3 rfl z.out ?_;(try go_simp);refine zT 4 rfl z.out ?_;(try go_simp);refine zT 5 rfl z.out ?_;(try go_simp);refine zT 6 rfl z.out ?_;(try go_simp);refine zT 7 rfl z.out ?_;(try go_simp);refine zT 8 rfl z.out ?_;(try go_simp);refine zK rfl λK' hK=> ?_;go_simp;(try simp only[eN,eR]);(try go_simp);refine hK _ _ ?_;clear hK;refine⟨by kernel_rfl, ?_⟩;go_wp2;go_ret;exact eS.out
theorem Ky (w:World)(h:Wm R H m B tg s cs stk bd w)(hr:stk[d]?=dy r)(i:Ins)(P:i.op=9)(er:r.v.length<=1000)(hd:0<=i.d/\i.d.toNat<r.v.length)(ha:0<=i.a/\i.a.toNat<r.v.length):
  Calls aw 121 #[eg (dy ⟨R,0,dD⟩),ei i.cells,ee (dy ⟨r.b,0,dD⟩) r.v.length r.v.length] w (o8 R H m B tg s cs stk bd w d r i):=by
 obtain⟨u,J⟩:∃n:bo,i.d=(n:aq):=⟨i.d.toNat,by omega⟩
 have ep:u<r.v.length:=by have:=hd.2;rw[J,am] at this;exact this
 obtain⟨yd,Q⟩:∃y,r.v[u]?=dy y:=⟨_,ac ep⟩
 have es:(u:aq)<(r.v.length:aq):=by omega
 obtain⟨A,N⟩:∃n:bo,i.a=(n:aq):=⟨i.a.toNat,by omega⟩
 have eq:A<r.v.length:=by have:=ha.2;rw[N,am] at this;exact this
 obtain⟨T,V⟩:∃y,r.v[A]?=dy y:=⟨_,ac eq⟩
 have et:(A:aq)<(r.v.length:aq):=by omega
 obtain⟨D,X⟩:=zE w.heap.size;obtain⟨f,O⟩:=zE (w.alloc (el i.cells 42));have Y:=iq O;have C:f.heap[D]?=dy (el i.cells 42 (0,0)):=by rw[<-O,<-X];exact alloc_at _ _
 have G:=h.grow Y;have I:=G.x.fr d r hr (by simp);have c0:f.cell? ⟨D,0,dD⟩=dy (Z U 9):=by rw[<-P];exact zR C 0 _
 have c1:f.cell? ⟨D,1,dD⟩=dy (Z U (u:aq)):=by rw[<-J];exact zR C 1 _
 have ed:f.cell? ⟨r.b,u,dD⟩=dy (Z U yd):=I.cell Q;have c2:f.cell? ⟨D,2,dD⟩=dy (Z U (A:aq)):=by rw[<-N];exact zR C 2 _
 have ea:f.cell? ⟨r.b,A,dD⟩=dy (Z U T):=I.cell V;have ef:∀k,f.frozen? ⟨r.b,k,dD⟩=dT:=λk=>bm _ _ _ _ _ I;have cR:f.cell? ⟨R,2,dD⟩=dy (eg (dy ⟨H,0,dD⟩)):=zR (G.x.run (by simp)) 2 _;have eR:=ae (G.x.run (by simp));have ev:=ae C;have ew:=ae I;have ez:=zH J;have eS:=zH Q;have eA:=zH N;have eC:=zH V;obtain⟨L,E⟩:=zE r.v.length;rw[E];rw[E] at es ep;rw[E] at et eq;rw[E] at er;have eV:=zH E;have H1:=zH G;have eW:=zH C;have eE:=zH Y;have eI:=zH O;have HD:=zH X;have eJ:=zH P;have H0:=zH h;have eK:=zH ef;clear h Y C G O X P I E ef J Q hd N V ha;go_enter b6,bC
 go_upto_region 1 with(fail)
 (try rw[HD.out]);rw[eI.out];obtain⟨S3,en⟩:=zE ((λW=>W=f.drew):World->Prop);have ff:S3 f.drew:=by rw[<-en]
 have z:cU (∀W,S3 W->W.cell? ⟨D,1,dD⟩=dy (Z U (u:aq))/\W.cell? ⟨D,2,dD⟩=dy (Z U (A:aq))/\W.cell? ⟨r.b,A,dD⟩=dy (Z U T)/\D<W.heap.size/\r.b<W.heap.size):=λW hW=>by
  rw[<-en] at hW;subst hW;exact⟨c1,c2,ea,ev,ew⟩
 have eL:f.drew.cell? ⟨r.b,u,dD⟩=dy (Z U yd):=ed;have eM:f.drew.frozen? ⟨r.b,u,dD⟩=dT:=eK.out u;have eN:=zH (o8.of (b:=dS) eE.out.drew (Pl.give (m:=m) (cs:=cs) (v:=r.v) eJ.out (by rw[eA.out,am];exact eC.out)) (by rw[ez.out,am];exact JZ ((H1.out.grow (ba _ _).drew).var hr u T)));clear en ed ea
 go_upto_region 8 with(fail)
 refine ak 9 S3 (by kernel_rfl) ?_;refine zT 0 rfl z.out ?_;(try go_simp);refine zT 1 rfl z.out ?_;(try go_simp);refine zT 2 rfl z.out ?_;(try go_simp);refine zT 3 rfl z.out ?_;(try go_simp);refine zT 4 rfl z.out ?_;(try go_simp);refine zT 5 rfl z.out ?_;(try go_simp);refine zT 6 rfl z.out ?_;(try go_simp);refine zT 7 rfl z.out ?_;(try go_simp);refine zT 8 rfl z.out ?_;(try go_simp);refine zK rfl λK' hK=> ?_;go_simp;(try simp only[eL,eM]);(try go_simp);refine hK _ _ ?_;clear hK;refine⟨by kernel_rfl, ?_⟩;go_wp2;go_ret;exact eN.out
theorem Kz (w:World)(h:Wm R H m B tg s cs stk bd w)(hr:stk[d]?=dy r)(i:Ins)(T:i.op=4)(er:i.sign∈gK)(eI:r.v.length<=1000)(hd:0<=i.d/\i.d.toNat<r.v.length)(ha:0<=i.a/\i.a.toNat<r.v.length)(hb:0<=i.b/\i.b.toNat<r.v.length):
  Calls aw 121 #[eg (dy ⟨R,0,dD⟩),ei i.cells,ee (dy ⟨r.b,0,dD⟩) r.v.length r.v.length] w (o8 R H m B tg s cs stk bd w d r i):=by
 obtain⟨z,N⟩:∃n:bo,i.d=(n:aq):=⟨i.d.toNat,by omega⟩
 have es:z<r.v.length:=by have:=hd.2;rw[N,am] at this;exact this
 obtain⟨yd,V⟩:∃y,r.v[z]?=dy y:=⟨_,ac es⟩
 have eJ:(z:aq)<(r.v.length:aq):=by omega
 obtain⟨C,O⟩:∃n:bo,i.a=(n:aq):=⟨i.a.toNat,by omega⟩
 have et:C<r.v.length:=by have:=ha.2;rw[O,am] at this;exact this
 obtain⟨ya,Y⟩:∃y,r.v[C]?=dy y:=⟨_,ac et⟩
 have eK:(C:aq)<(r.v.length:aq):=by omega
 obtain⟨E,P⟩:∃n:bo,i.b=(n:aq):=⟨i.b.toNat,by omega⟩
 have ev:E<r.v.length:=by have:=hb.2;rw[P,am] at this;exact this
 obtain⟨yb,en⟩:∃y,r.v[E]?=dy y:=⟨_,ac ev⟩
 have eL:(E:aq)<(r.v.length:aq):=by omega
 obtain⟨D,hD⟩:=zE w.heap.size;obtain⟨f,Q⟩:=zE (w.alloc (el i.cells 42));have ep:=iq Q;have A:f.heap[D]?=dy (el i.cells 42 (0,0)):=by rw[<-Q,<-hD];exact alloc_at _ _
 have J:=h.grow ep;have I:=J.x.fr d r hr (by simp);have c0:f.cell? ⟨D,0,dD⟩=dy (Z U 4):=by rw[<-T];exact zR A 0 _
 have c1:f.cell? ⟨D,1,dD⟩=dy (Z U (z:aq)):=by rw[<-N];exact zR A 1 _
 have ed:f.cell? ⟨r.b,z,dD⟩=dy (Z U yd):=I.cell V;have c2:f.cell? ⟨D,2,dD⟩=dy (Z U (C:aq)):=by rw[<-O];exact zR A 2 _
 have ea:f.cell? ⟨r.b,C,dD⟩=dy (Z U ya):=I.cell Y;have c3:f.cell? ⟨D,3,dD⟩=dy (Z U (E:aq)):=by rw[<-P];exact zR A 3 _
 have eb:f.cell? ⟨r.b,E,dD⟩=dy (Z U yb):=I.cell en;have ef:∀k,f.frozen? ⟨r.b,k,dD⟩=dT:=λk=>bm _ _ _ _ _ I;have cR:f.cell? ⟨R,2,dD⟩=dy (eg (dy ⟨H,0,dD⟩)):=zR (J.x.run (by simp)) 2 _;have fm:=ae (J.x.run (by simp));have ew:=ae A;have ez:=ae I;have c6:f.cell? ⟨D,6,dD⟩=dy (ec i.sign):=zR A 6 _;have eA:=er;have eM:=zH N;have fp:=zH V;have ft:=zH O;have fx:=zH Y;have fy:=zH P;have fz:=zH en;obtain⟨L,G⟩:=zE r.v.length;rw[G];rw[G] at eJ es;rw[G] at eK et;rw[G] at eL ev;rw[G] at eI;have fL:=zH G;have H1:=zH J;have fN:=zH A;have eN:=zH ep;have eR:=zH Q;have HD:=zH hD;have eS:=zH T;have H0:=zH h;have eV:=zH ef;clear h ep A J Q hD T I G ef N V hd O Y ha P en hb;go_enter b6,bC
 go_upto_region 1 with(fail)
 (try rw[HD.out]);rw[eR.out];have eW:=zH eA;clear eA er;obtain⟨S3,eq⟩:=zE ((λW=>W=f.drew):World->Prop);have eC:S3 f.drew:=by rw[<-eq]
 have u:cU (∀W,S3 W->W.cell? ⟨D,6,dD⟩=dy (ec i.sign)/\W.cell? ⟨D,2,dD⟩=dy (Z U (C:aq))/\W.cell? ⟨D,3,dD⟩=dy (Z U (E:aq))/\W.cell? ⟨r.b,C,dD⟩=dy (Z U ya)/\W.cell? ⟨r.b,E,dD⟩=dy (Z U yb)/\D<W.heap.size/\r.b<W.heap.size):=λW hW=>by
  rw[<-eq] at hW;subst hW;exact⟨c6,c2,c3,ea,eb,ew,ez⟩
 have ff:f.drew.cell? ⟨r.b,z,dD⟩=dy (Z U yd):=ed;have fg:f.drew.frozen? ⟨r.b,z,dD⟩=dT:=eV.out z;have fh:f.drew.cell? ⟨D,1,dD⟩=dy (Z U (z:aq)):=c1;have fi:D<f.drew.heap.size:=ew;have fj:r.b<f.drew.heap.size:=ez;clear eq ed ea eb
 go_upto_region 10 with(fail)
 refine bL S3 (by kernel_rfl) ?_;refine yT 0 rfl u.out ?_;(try go_simp);refine yT 1 rfl u.out ?_;(try go_simp);refine yT 2 rfl u.out ?_;(try go_simp);refine yT 3 rfl u.out ?_;(try go_simp);refine yT 4 rfl u.out ?_;(try go_simp);refine yT 5 rfl u.out ?_;(try go_simp);refine yT 6 rfl u.out ?_;(try go_simp);refine yT 7 rfl u.out ?_;(try go_simp);refine yT 8 rfl u.out ?_;(try go_simp);refine yT 9 rfl u.out ?_;(try go_simp);refine yT 10 rfl u.out ?_;(try go_simp);refine yT 11 rfl u.out ?_;(try go_simp);refine yO 12 rfl λK' hK=> ?_;go_simp;go_at_call 155;refine(JK _ _ _ _ eW.out).mono ?_;rintro e W5 ⟨x,b,rfl,fk,rfl⟩;refine hK _ _ eC ?_;clear hK;(try go_simp);refine yT 13 rfl u.out ?_;(try go_simp);refine yT 14 rfl u.out ?_;(try go_simp);refine yT 15 rfl u.out ?_;(try go_simp);refine yT 16 rfl u.out ?_;(try go_simp);refine yT 17 rfl u.out ?_;(try go_simp);refine⟨by kernel_rfl, ?_⟩;have eE:=zH (o8.of (b:=b) eN.out.drew (Pl.num (m:=m) (cs:=cs) (v:=r.v) fk (.inr (.inr (.inl eS.out)))) (by rw[eM.out,am];exact JZ ((H1.out.grow (ba _ _).drew).var hr z x)));obtain⟨X,hX⟩:=zE f.drew;rw[hX] at eE ff fg fh fi fj⊢;clear hX u eC;go_wp2;go_ret;exact eE.out
theorem Kb (w:World)(h:Wm R H m B tg s cs stk bd w)(hr:stk[d]?=dy r)(i:Ins)(P:i.op=14)(ez:r.v.length<=1000)(hd:0<=i.d/\i.d.toNat<r.v.length)(ha:0<=i.a/\i.a.toNat<r.v.length):
  Calls aw 121 #[eg (dy ⟨R,0,dD⟩),ei i.cells,ee (dy ⟨r.b,0,dD⟩) r.v.length r.v.length] w (o8 R H m B tg s cs stk bd w d r i):=by
 obtain⟨z,J⟩:∃n:bo,i.d=(n:aq):=⟨i.d.toNat,by omega⟩
 have eq:z<r.v.length:=by have:=hd.2;rw[J,am] at this;exact this
 obtain⟨yd,Q⟩:∃y,r.v[z]?=dy y:=⟨_,ac eq⟩
 have eA:(z:aq)<(r.v.length:aq):=by omega
 obtain⟨A,N⟩:∃n:bo,i.a=(n:aq):=⟨i.a.toNat,by omega⟩
 have er:A<r.v.length:=by have:=ha.2;rw[N,am] at this;exact this
 obtain⟨T,V⟩:∃y,r.v[A]?=dy y:=⟨_,ac er⟩
 have eC:(A:aq)<(r.v.length:aq):=by omega
 obtain⟨D,Y⟩:=zE w.heap.size;obtain⟨f,O⟩:=zE (w.alloc (el i.cells 42));have en:=iq O;have C:f.heap[D]?=dy (el i.cells 42 (0,0)):=by rw[<-O,<-Y];exact alloc_at _ _
 have G:=h.grow en;have I:=G.x.fr d r hr (by simp);have c0:f.cell? ⟨D,0,dD⟩=dy (Z U 14):=by rw[<-P];exact zR C 0 _
 have c1:f.cell? ⟨D,1,dD⟩=dy (Z U (z:aq)):=by rw[<-J];exact zR C 1 _
 have ed:f.cell? ⟨r.b,z,dD⟩=dy (Z U yd):=I.cell Q;have c2:f.cell? ⟨D,2,dD⟩=dy (Z U (A:aq)):=by rw[<-N];exact zR C 2 _
 have ea:f.cell? ⟨r.b,A,dD⟩=dy (Z U T):=I.cell V;have ef:∀k,f.frozen? ⟨r.b,k,dD⟩=dT:=λk=>bm _ _ _ _ _ I;have cR:f.cell? ⟨R,2,dD⟩=dy (eg (dy ⟨H,0,dD⟩)):=zR (G.x.run (by simp)) 2 _;have ff:=ae (G.x.run (by simp));have es:=ae C;have et:=ae I;have c6:f.cell? ⟨D,6,dD⟩=dy (ec i.sign):=zR C 6 _;have eE:=zH J;have fg:=zH Q;have fh:=zH N;have fi:=zH V;obtain⟨L,E⟩:=zE r.v.length;rw[E];rw[E] at eA eq;rw[E] at eC er;rw[E] at ez;have fj:=zH E;have H1:=zH G;have fk:=zH C;have eI:=zH en;have eJ:=zH O;have HD:=zH Y;have eK:=zH P;have H0:=zH h;have eL:=zH ef;clear h en C G O Y P I E ef J Q hd N V ha;go_enter b6,bC
 go_upto_region 1 with(fail)
 (try rw[HD.out]);rw[eJ.out];obtain⟨S3,ep⟩:=zE ((λW=>W=f.drew):World->Prop);have ev:S3 f.drew:=by rw[<-ep]
 have u:cU (∀W,S3 W->W.cell? ⟨D,6,dD⟩=dy (ec i.sign)/\W.cell? ⟨D,2,dD⟩=dy (Z U (A:aq))/\W.cell? ⟨r.b,A,dD⟩=dy (Z U T)/\D<W.heap.size/\r.b<W.heap.size):=λW hW=>by
  rw[<-ep] at hW;subst hW;exact⟨c6,c2,ea,es,et⟩
 have eM:f.drew.cell? ⟨r.b,z,dD⟩=dy (Z U yd):=ed;have eN:f.drew.frozen? ⟨r.b,z,dD⟩=dT:=eL.out z;have eR:f.drew.cell? ⟨D,1,dD⟩=dy (Z U (z:aq)):=c1;have eS:D<f.drew.heap.size:=es;have eV:r.b<f.drew.heap.size:=et;clear ep ed ea
 go_upto_region 31 with(fail)
 refine bL S3 (by kernel_rfl) ?_;refine yT 0 rfl u.out ?_;(try go_simp);refine yT 1 rfl u.out ?_;(try go_simp);refine yT 2 rfl u.out ?_;(try go_simp);refine yT 3 rfl u.out ?_;(try go_simp);refine yT 4 rfl u.out ?_;(try go_simp);refine yT 5 rfl u.out ?_;(try go_simp);refine yT 6 rfl u.out ?_;(try go_simp);refine yT 7 rfl u.out ?_;(try go_simp);refine yT 8 rfl u.out ?_;(try go_simp);refine yT 9 rfl u.out ?_;(try go_simp);refine yO 10 rfl λK' hK=> ?_;go_simp;go_at_call 160;refine(Jc _ _).mono ?_;rintro e W5 ⟨rfl,rfl⟩;refine hK _ _ ev ?_;clear hK;(try go_simp);refine yT 11 rfl u.out ?_;(try go_simp);refine yT 12 rfl u.out ?_;(try go_simp);refine yT 13 rfl u.out ?_;(try go_simp);refine yT 14 rfl u.out ?_;(try go_simp);refine yT 15 rfl u.out ?_;(try go_simp);refine⟨by kernel_rfl, ?_⟩;obtain⟨x,hx⟩:=zE (if (T==0)=(i.sign.toList==[61,61]) then(1:aq) else 0);rw[hx];have eW:fO x:=by rw[<-hx];unfold fO;split<;>omega
 clear hx;have ew:=zH (o8.of (b:=dS) eI.out.drew (Pl.num (m:=m) (cs:=cs) (v:=r.v) eW (.inr (.inr (.inr (.inr eK.out))))) (by rw[eE.out,am];exact JZ ((H1.out.grow (ba _ _).drew).var hr z x)));obtain⟨X,hX⟩:=zE f.drew;rw[hX] at ew eM eN eR eS eV⊢;clear hX u ev;go_wp2;go_ret;exact ew.out
end
theorem KM:(aw.info? 5).map (λi=>(i.zero,i.size,i.bytes))=dy (dy (.int .u8 0),1,1):=by kernel_rfl
section
variable {R H:bo}{m:Mo}{B:bo}{tg:bo->WT}{s:IY}{cs:bq Cl}{stk:bq Fr}{bd:bq Sn}{w w':World}{d:bo}{r:Fr}
theorem KC (w:World)(h:Wm R H m B tg s cs stk bd w)(T:stk[d]?=dy r)(i:Ins)(V:i.op=5)(eI:r.v.length<=1000)(hd:0<=i.d/\i.d.toNat<r.v.length):
  Calls aw 121 #[eg (dy ⟨R,0,dD⟩),ei i.cells,ee (dy ⟨r.b,0,dD⟩) r.v.length r.v.length] w (o8 R H m B tg s cs stk bd w d r i):=by
 obtain⟨f,N⟩:∃n:bo,i.d=(n:aq):=⟨i.d.toNat,by omega⟩
 have et:f<r.v.length:=by have:=hd.2;rw[N,am] at this;exact this
 obtain⟨yd,X⟩:∃y,r.v[f]?=dy y:=⟨_,ac et⟩
 have eJ:(f:aq)<(r.v.length:aq):=by omega
 obtain⟨D,Y⟩:=zE w.heap.size;obtain⟨u,O⟩:=zE (w.alloc (el i.cells 42));have en:=iq O;have A:u.heap[D]?=dy (el i.cells 42 (0,0)):=by rw[<-O,<-Y];exact alloc_at _ _
 have C:=h.grow en;have P:=C.x.fr d r T (by simp);have c0:u.cell? ⟨D,0,dD⟩=dy (Z U 5):=by rw[<-V];exact zR A 0 _
 have c1:u.cell? ⟨D,1,dD⟩=dy (Z U (f:aq)):=by rw[<-N];exact zR A 1 _
 have ed:u.cell? ⟨r.b,f,dD⟩=dy (Z U yd):=P.cell X;have ef:∀k,u.frozen? ⟨r.b,k,dD⟩=dT:=λk=>bm _ _ _ _ _ P;have cR:u.cell? ⟨R,2,dD⟩=dy (eg (dy ⟨H,0,dD⟩)):=zR (C.x.run (by simp)) 2 _;have eK:=ae (C.x.run (by simp));have fi:=ae A;have fj:=ae P;have ev:=zH N;have eL:=zH X;obtain⟨L,E⟩:=zE r.v.length;rw[E];rw[E] at eJ et;rw[E] at eI;have fk:=zH E;have H1:=zH C;have ew:=zH A;have eM:=zH en;have eN:=zH O;have HD:=zH Y;have eR:=zH V;have H0:=zH h;have fm:=zH ef;clear h en A C O Y V P E ef N X hd;go_enter b6,bC
 go_upto_region 1 with(fail)
 (try rw[HD.out]);rw[eN.out];obtain⟨G,ep⟩:=zE ((λW=>W.heap[D]?=dy (el i.cells 42 (0,0))/\W.cell? ⟨R,2,dD⟩=dy (eg (dy ⟨H,0,dD⟩))/\R<W.heap.size):World->Prop);have ez:cU (∀W,W.heap[D]?=dy (el i.cells 42 (0,0))->W.cell? ⟨R,2,dD⟩=dy (eg (dy ⟨H,0,dD⟩))->R<W.heap.size->G W):=λW a b c=>by rw[<-ep];exact⟨a,b,c⟩
 have fp:G u.drew:=ez.out _ ew.out cR eK;have z:cU (∀W,G W->W.cell? ⟨D,1,dD⟩=dy (Z U (f:aq))/\D<W.heap.size/\W.cell? ⟨R,2,dD⟩=dy (eg (dy ⟨H,0,dD⟩))/\R<W.heap.size):=λW I=>by
  rw[<-ep] at I;exact⟨by rw[<-ev.out];exact zR I.1 1 _,ae I.1,I.2.1,I.2.2⟩
 clear ep ed
 go_upto_region 14 with(fail)
 refine ak 9 G (by kernel_rfl) ?_;refine zT 0 rfl z.out ?_;(try go_simp);refine zT 1 rfl z.out ?_;(try go_simp);refine zT 2 rfl z.out ?_;(try go_simp);refine zT 3 rfl z.out ?_;(try go_simp);refine zT 4 rfl z.out ?_;(try go_simp);refine zT 5 rfl z.out ?_;(try go_simp);refine zT 6 rfl z.out ?_;(try go_simp);refine zO 7 rfl λK' J=> ?_;go_simp;go_at_call 156;refine(JW _ (H1.out.grow (ba _ _).drew)).mono ?_;rintro e W5 ⟨x,rfl,eS,ft,s5,Q,⟨iv,e5⟩,eq,eA⟩;have eV:¬tg D≠ .no:=λq=>by have:=(H0.out.lo D q).2;have:=HD.out;omega
 have eC:=eq.heap (show u.drew.heap[D]?=_ from ew.out) eV;have er:=Q.x.run (by simp);have eW:G W5:=ez.out _ eC (zR er 2 _) (ae er);refine J _ _ eW ?_;clear J;(try go_simp);have eE:=Q.var T f x;have ff:=zH (o8.of (b:=dS) eM.out.drew (Pl.num (m:=m) (cs:=cs) (v:=r.v) eS (.inr (.inr (.inr (.inl eR.out))))) (by rw[ev.out,am];exact Bb.step eq eA (eE.imp λs' e=>by rw[e,e5];exact KL s iv)));have es:=Q.x.fr d r T (by simp);have fg:W5.cell? ⟨r.b,f,dD⟩=dy (Z U yd):=es.cell eL.out;have fh:W5.frozen? ⟨r.b,f,dD⟩=dT:=bm _ _ _ _ _ es;refine zT 8 rfl z.out ?_;(try go_simp);refine zK rfl λK' J=> ?_;go_simp;(try simp only[fg,fh]);(try go_simp);refine J _ _ ?_;clear J;refine⟨by kernel_rfl, ?_⟩;clear eC er Q eE eq eA es;go_wp2;go_ret;exact ff.out
theorem KD (w:World)(h:Wm R H m B tg s cs stk bd w)(hr:stk[d]?=dy r)(i:Ins)(ez:i.op=6)(gC:s.no<=100000)(fN:r.v.length<=1000)(ha:0<=i.a/\i.a.toNat<r.v.length):
  Calls aw 121 #[eg (dy ⟨R,0,dD⟩),ei i.cells,ee (dy ⟨r.b,0,dD⟩) r.v.length r.v.length] w (o8 R H m B tg s cs stk bd w d r i):=by
 obtain⟨J,en⟩:∃n:bo,i.a=(n:aq):=⟨i.a.toNat,by omega⟩
 have fg:J<r.v.length:=by have:=ha.2;rw[en,am] at this;exact this
 obtain⟨ya,eA⟩:∃y,r.v[J]?=dy y:=⟨_,ac fg⟩
 have fR:(J:aq)<(r.v.length:aq):=by omega
 obtain⟨D,hD⟩:=zE w.heap.size;obtain⟨z,ep⟩:=zE (w.alloc (el i.cells 42));have eC:=iq ep;have P:z.heap[D]?=dy (el i.cells 42 (0,0)):=by rw[<-ep,<-hD];exact alloc_at _ _
 have C:=h.grow eC;have eq:=C.x.fr d r hr (by simp);have c0:z.cell? ⟨D,0,dD⟩=dy (Z U 6):=by rw[<-ez];exact zR P 0 _
 have c2:z.cell? ⟨D,2,dD⟩=dy (Z U (J:aq)):=by rw[<-en];exact zR P 2 _
 have ea:z.cell? ⟨r.b,J,dD⟩=dy (Z U ya):=eq.cell eA;have ef:∀k,z.frozen? ⟨r.b,k,dD⟩=dT:=λk=>bm _ _ _ _ _ eq;have cR:z.cell? ⟨R,2,dD⟩=dy (eg (dy ⟨H,0,dD⟩)):=zR (C.x.run (by simp)) 2 _;have fS:=ae (C.x.run (by simp));have gE:=ae P;have gO:=ae eq;have c4:z.cell? ⟨H,4,dD⟩=dy (ee s.ouA s.no s.ouK):=zR (C.x.hp (by simp)) 4 _;have fW:=zH en;have fX:=zH eA;obtain⟨L,Q⟩:=zE r.v.length;rw[Q];rw[Q] at fR fg;rw[Q] at fN;have gR:=zH Q;have E:=zH C;have eE:=zH P;have fY:=zH eC;have gb:=zH ep;have HD:=zH hD;have gS:=zH ez;have H0:=zH h;have g6:=zH ef;clear h eC P C ep hD ez eq Q ef en eA ha;go_enter b6,bC
 go_upto_region 1 with(fail)
 (try rw[HD.out]);rw[gb.out];obtain⟨i0,gd,ge,gg,gh⟩:=info_parts KM;obtain⟨er,eI⟩:=zE (KG s cs.length);have eJ:z.heap[H]?=dy (el er 154 (0,0)):=by rw[<-eI];exact E.out.x.hp (by simp)
 have eK:er[4]?=dy (ee s.ouA s.no s.ouK):=by rw[<-eI];rfl
 obtain⟨T,eL⟩:=zE ((λW=>W.heap[D]?=dy (el i.cells 42 (0,0))/\W.cell? ⟨R,2,dD⟩=dy (eg (dy ⟨H,0,dD⟩))/\R<W.heap.size/\W.heap[H]?=dy (el er 154 (0,0))/\VB W r.b r.v):World->Prop);have eM:cU (∀W,W.heap[D]?=dy (el i.cells 42 (0,0))->W.cell? ⟨R,2,dD⟩=dy (eg (dy ⟨H,0,dD⟩))->R<W.heap.size->W.heap[H]?=dy (el er 154 (0,0))->VB W r.b r.v->T W):=λW a b c d e=>by rw[<-eL];exact⟨a,b,c,d,e⟩
 have eN:=E.out.x.fr d r hr (by simp);have g7:T z.drew:=eM.out _ eE.out cR fS eJ eN;have f:cU (∀W,T W->W.cell? ⟨D,2,dD⟩=dy (Z U (J:aq))/\D<W.heap.size/\W.cell? ⟨R,2,dD⟩=dy (eg (dy ⟨H,0,dD⟩))/\R<W.heap.size/\W.cell? ⟨H,4,dD⟩=dy (ee s.ouA s.no s.ouK)/\H<W.heap.size/\W.cell? ⟨r.b,J,dD⟩=dy (Z U ya)/\r.b<W.heap.size):=λW A=>by
  rw[<-eL] at A;exact⟨by rw[<-fW.out];exact zR A.1 2 _,ae A.1,A.2.1,A.2.2.1,(rowAt A.2.2.2.1 4 eK).1,ae A.2.2.2.1,A.2.2.2.2.cell fX.out,ae A.2.2.2.2⟩
 have gi:=zH eK;have fh:=zH eJ;have fi:=zH eN;clear eL ea eK eJ eN eI c4
 go_upto_region 16 with(fail)
 refine ak 22 T (by kernel_rfl) ?_;refine zT 0 rfl f.out ?_;(try go_simp);refine zT 1 rfl f.out ?_;(try go_simp);refine zT 2 rfl f.out ?_;(try go_simp);refine zT 3 rfl f.out ?_;(try go_simp);refine zT 4 rfl f.out ?_;(try go_simp);refine zT 5 rfl f.out ?_;(try go_simp);refine zT 6 rfl f.out ?_;(try go_simp);refine zT 7 rfl f.out ?_;(try go_simp);refine zT 8 rfl f.out ?_;(try go_simp);refine zT 9 rfl f.out ?_;(try go_simp);refine zT 10 rfl f.out ?_;(try go_simp);refine zT 11 rfl f.out ?_;(try go_simp);refine zT 12 rfl f.out ?_;(try go_simp);refine zT 13 rfl f.out ?_;(try go_simp);refine zT 14 rfl f.out ?_;(try go_simp);refine zT 15 rfl f.out ?_;(try go_simp);refine zT 16 rfl f.out ?_;(try go_simp);refine zT 17 rfl f.out ?_;(try go_simp);refine zO 18 rfl λK' I=> ?_;go_simp;obtain⟨Y,hY⟩:=zE (IntKind.u8.wrap (bits BinOp.and bs ya 255));rw[hY];obtain⟨G,hG⟩:=zE z.heap.size;obtain⟨V,es⟩:=zE ((z.alloc (el #[.int .u8 Y] 5)).drew);(try rw[hG]);(try rw[es]);have N:bt z.heap.size z V:=by rw[<-es];exact((ba _ _).alloc (bA _) _).drew
 have fj:V.heap[G]?=dy (el #[.int .u8 Y] 5 (0,0)):=by rw[<-es,<-hG];exact alloc_at _ _
 have X:=E.out.grow N;have eR:=(N.block D (ae eE.out)).trans eE.out;have eS:=(N.block H (ae fh.out)).trans fh.out;have eV:=(N.block r.b (ae fi.out)).trans fi.out;have et:=X.x.run (by simp);refine I _ _ (eM.out _ eR (zR et 2 _) (ae et) eS eV) ?_;clear I;(try go_simp);refine zO 19 rfl λK' I=> ?_;obtain⟨lo,fk⟩:=X.x.ou (by simp);have gj:B<=V.heap.size:=by have:=X.lo H (by rw[X.t2];simp);omega
 have gl:s.no+1<=maxLen:=by unfold maxLen;omega
 refine aH (.tmp 88) (.tmp 96) 71 rfl B 5 i0 _ 1 1 underlying71 gd ge gg gh rfl (by decide) (ee s.ouA s.no s.ouK) s.no lo rfl fk (dy ⟨G,0,dD⟩) 1 1 [.int .u8 Y] rfl rfl (λh=>by cases h) (λad gm j u hu=>by
  obtain rfl:(⟨G,0,dD⟩:Addr)=ad:=by simpa using gm
  rw[cf,ch,cE _ _ _ _ _ _ fj];simpa using hu) (by simp[cP]) gl (by omega) gj ?_
 intro v9 w9 eW fm fp;obtain⟨gn,c9,gr⟩:=ai eW;subst gr;have O:Ext (λq=>yA s.ouA=dy q) V w9:=Ext.of_grown fm (λq hq=> .inl (by rw[<-aa s.ouA s.no s.ouK];exact hq));have ev:∀{k:bo}{t:WT},tg k=t->t≠ .ou->¬yA s.ouA=dy k:=λC h2 e=>h2 (by rw[<-C];exact E.out.t6 _ e);have ft:¬yA s.ouA=dy D:=λe=>by
  have ht:=H0.out.t6 D e;have:=(H0.out.lo D (by rw[ht];simp)).2;have:=HD.out;omega
 have fx:=O.heap eR ft;have ew:=O.heap eS (ev E.out.t2 (by simp));have fy:=O.heap eV (ev (E.out.tr d r hr) (by simp));have ff:=O.heap et (ev E.out.t1 (by simp));have gw:T w9:=eM.out _ fx (zR ff 2 _) (ae ff) ew fy;refine I _ _ gw ?_;clear I;(try go_simp);refine zT 20 rfl f.out ?_;(try go_simp);refine zT 21 rfl f.out ?_;(try go_simp);refine zK rfl λK' I=> ?_;have fz:w9.cell? ⟨H,4,dD⟩=dy (ee s.ouA s.no s.ouK):=(rowAt ew 4 gi.out).1;have fL:w9.frozen? ⟨H,4,dD⟩=dT:=bm _ _ _ _ _ ew;go_simp;(try simp only[fz,fL]);(try go_simp);refine I _ _ ?_;clear I;refine⟨by kernel_rfl, ?_⟩;obtain⟨gz,s',q1,q2,q3,q4⟩:=E.out.pushO (w1:=V) (w9:=w9) N O eW (λq e=>by have:=fp q (by rw[aa];exact e);rwa [aa] at this);have gA:=zH (o8.of (i:=i) (b:=dS) fY.out (Pl.none (m:=m) (cs:=cs) (v:=r.v)) ⟨gz,s',by rw[I8 hr];exact q1,by rw[q2];exact KJ s gn c9,q3,q4⟩);clear q1 q2 q3 q4 eW fm fp O ev ft fx ew fy ff fz fL fk X eR eS eV et fj N es;go_wp2;go_ret;exact gA.out
theorem JM (w:World)(h:Wm R H m B tg s cs stk bd w)(hr:stk[d]?=dy r)(i:Ins)(W:i.op=7\/i.op=8\/i.op=10\/i.op=11)(eq:r.v.length<=1000)(er:cs.length<=100000)
  (ha:0<=i.a/\i.a.toNat<r.v.length)(en:∀x∈r.v,fO x)(hf:∀(k:bo)(c:Cl),r.v[i.a.toNat]?=dy ((k:aq)+1)->cs[k]?=dy c->0<=i.f/\i.f.toNat<c.fs.length)
  (hd:i.op=7\/i.op=10->0<=i.d/\i.d.toNat<r.v.length)(hb:i.op=8\/i.op=11->0<=i.b/\i.b.toNat<r.v.length):
  Calls aw 121 #[eg (dy ⟨R,0,dD⟩),ei i.cells,ee (dy ⟨r.b,0,dD⟩) r.v.length r.v.length] w (o8 R H m B tg s cs stk bd w d r i):=by
 obtain⟨D,X⟩:=zE w.heap.size;obtain⟨I,J⟩:=zE (w.alloc (el i.cells 42));have Y:=iq J;have L:I.heap[D]?=dy (el i.cells 42 (0,0)):=by rw[<-J,<-X];exact alloc_at _ _
 have h1:=h.grow Y;have N:=zH (JL I h1 hr i W er ha eq en hf hd hb);have ep:∀j u,i.cells.toList[j]?=dy u->I.cell? ((⟨D,0,dD⟩:Addr).add j)=dy u:=λj u hu=>by rw[cf,ch,cE _ _ _ _ _ _ L];simpa using hu
 have O:=zH ep;have P:I.cell? ⟨D,0,dD⟩=dy (Z U i.op):=zR L 0 _;have et:=ae L;have Q:=zH Y;have T:=zH J;have V:=zH X;have es:=zH W;clear h Y L h1 J X W ep ha en hf hd hb;rcases es.out with E|E|E|E
 ·rw[E] at P
  go_enter b6,bC
  go_upto_region 1 with(fail)
  (try rw[V.out]);rw[T.out]
  go_wp2_with (first|(refine aG rfl 42 _ rfl ⟨D,0,dD⟩ rfl i.cells _ O.out cn rfl (by kernel_rfl) ?_)|(go_at_call 157;refine N.out.mono ?_;rintro e W5 ⟨b,v',cs',rfl,z,A,C⟩;have G:=zH (o8.of (b:=b) Q.out z C A);clear z C A))
  go_ret;exact G.out
 ·rw[E] at P
  go_enter b6,bC
  go_upto_region 1 with(fail)
  (try rw[V.out]);rw[T.out]
  go_wp2_with (first|(refine aG rfl 42 _ rfl ⟨D,0,dD⟩ rfl i.cells _ O.out cn rfl (by kernel_rfl) ?_)|(go_at_call 157;refine N.out.mono ?_;rintro e W5 ⟨b,v',cs',rfl,z,A,C⟩;have G:=zH (o8.of (b:=b) Q.out z C A);clear z C A))
  go_ret;exact G.out
 ·rw[E] at P
  go_enter b6,bC
  go_upto_region 1 with(fail)
  (try rw[V.out]);rw[T.out]
  go_wp2_with (first|(refine aG rfl 42 _ rfl ⟨D,0,dD⟩ rfl i.cells _ O.out cn rfl (by kernel_rfl) ?_)|(go_at_call 157;refine N.out.mono ?_;rintro e W5 ⟨b,v',cs',rfl,z,A,C⟩;have G:=zH (o8.of (b:=b) Q.out z C A);clear z C A))
  go_ret;exact G.out
 ·rw[E] at P
  go_enter b6,bC
  go_upto_region 1 with(fail)
  (try rw[V.out]);rw[T.out]
  go_wp2_with (first|(refine aG rfl 42 _ rfl ⟨D,0,dD⟩ rfl i.cells _ O.out cn rfl (by kernel_rfl) ?_)|(go_at_call 157;refine N.out.mono ?_;rintro e W5 ⟨b,v',cs',rfl,z,A,C⟩;have G:=zH (o8.of (b:=b) Q.out z C A);clear z C A))
  go_ret;exact G.out
end
end Go.Proofs.YtjomgckjhcfbgaaGreat
