/- Walks. -/
import Derived.Test.YtjomgckjhcfbgaaGreatP2
set_option maxRecDepth 100000
set_option maxHeartbeats 64000000
set_option linter.all false
namespace Go.Proofs.YtjomgckjhcfbgaaGreat
open Go.RowKit
open _root_.List renaming getElem?_eq_getElem→ac,getElem?_eq_some_iff→ag,mem_of_getElem?→ap,getElem?_append_right→aE,getElem?_of_mem→da
open _root_.Int renaming toNat_natCast→am,le_refl→cI
open _root_ renaming Int→aq,if_neg→bl,Nat→bo,List→bq,if_pos→bx,absurd→cm
open _root_.Option.some renaming inj→ar
open Go.Proofs.Tryz renaming prog→aw,ntmps121→bC,func121→b6
open Go.RowKit.Below renaming refl→ba
open Go renaming seen→bd,frozen_of_row→bm
open _root_.Nat renaming lt_of_lt_of_le→bh,le_refl→bA,sub_self→bR,le_trans→ci,le_succ→c8
open Go.RowKit renaming Below→bt,Hid→cU
open _root_.Option renaming some→dy,none→dD
open _root_.Bool renaming true→dS,false→dT
open Go.Value renaming slice→ee,pointer→eg,bool→eh,agg→ei,int→Z
open Go.Obj renaming cells→el
open Go.Ending renaming returned→em
open Go.IntKind renaming i64→U
open Go.Proofs.Tryz
def J5 (m:Mo)(B:bo)(w:World):Prop:=∃f,f.heap.size<=B/\m.inn f/\bt f.heap.size f w
theorem J5.inn {m:Mo}{B:bo}{w:World}(h:J5 m B w):m.inn w:=by
 obtain⟨v,_,f,u⟩:=h;exact f.below u
theorem J5.ext {m:Mo}{B:bo}{w w':World}{M:bo->Prop}(h:J5 m B w)(v:Ext M w w')(z:∀k,M k->B<=k):J5 m B w':=by
 obtain⟨A,f,C,u⟩:=h;exact⟨A,f,C,u.trans (v.below u.size (λk D=>ci f (z k D)))⟩
theorem KN (s f:IY)(h:∃A K,f={s with asked:=s.asked+1,ceA:=A,ceK:=K}):I6 s f:=by
 obtain⟨A,K,rfl⟩:=h;refine⟨c8 s.no, ?_,cI _,rfl,rfl,rfl⟩
 show s.asked<=s.asked+1
 omega
theorem Kc (s f:IY)(h:f={s with asked:=s.asked+1}):I6 s f:=by
 subst h;refine⟨c8 s.no, ?_,cI _,rfl,rfl,rfl⟩
 show s.asked<=s.asked+1
 omega
theorem I6.of_eq {s f u:IY}(h:I6 s f)(e:u=f):I6 s u:=by rw[e];exact h
section
variable {R H:bo}{m:Mo}{B:bo}{tg:bo->WT}{s:IY}{cs:bq Cl}{stk:bq Fr}{bd:bq Sn}{w w':World}{d:bo}{r:Fr}
theorem Ke (w:World)(h:Wm R H m B tg s cs stk bd w)(hr:stk[d]?=dy r)(i:Ins)(ev:i.op=12){st:St}(en:m.ss[i.f.toNat]?=dy st)(fy:0<=i.f)(fz:J5 m B w)(fL:st.fs.length<=1000)(fN:cs.length<=100000)(fR:0<=s.asked)(fS:s.asked<=100000)(fW:r.v.length<=1000)(hd:0<=i.d/\i.d.toNat<r.v.length):
  Calls aw 121 #[eg (dy ⟨R,0,dD⟩),ei i.cells,ee (dy ⟨r.b,0,dD⟩) r.v.length r.v.length] w (o8 R H m B tg s cs stk bd w d r i):=by
 obtain⟨E,ep⟩:∃n:bo,i.d=(n:aq):=⟨i.d.toNat,by omega⟩
 have eN:E<r.v.length:=by have:=hd.2;rw[ep,am] at this;exact this
 obtain⟨yd,ew⟩:∃y,r.v[E]?=dy y:=⟨_,ac eN⟩
 have fX:(E:aq)<(r.v.length:aq):=by omega
 obtain⟨D,hD⟩:=zE w.heap.size;obtain⟨A,eq⟩:=zE (w.alloc (el i.cells 42));have er:=iq eq;have X:A.heap[D]?=dy (el i.cells 42 (0,0)):=by rw[<-eq,<-hD];exact alloc_at _ _
 have P:=h.grow er;have es:=P.x.fr d r hr (by simp);have c0:A.cell? ⟨D,0,dD⟩=dy (Z U 12):=by rw[<-ev];exact zR X 0 _
 have c1:A.cell? ⟨D,1,dD⟩=dy (Z U (E:aq)):=by rw[<-ep];exact zR X 1 _
 have ed:A.cell? ⟨r.b,E,dD⟩=dy (Z U yd):=es.cell ew;have ef:∀k,A.frozen? ⟨r.b,k,dD⟩=dT:=λk=>bm _ _ _ _ _ es;have cR:A.cell? ⟨R,2,dD⟩=dy (eg (dy ⟨H,0,dD⟩)):=zR (P.x.run (by simp)) 2 _;have fY:=ae (P.x.run (by simp));have gE:=ae X;have gO:=ae es;obtain⟨f,ez⟩:∃f:bo,i.f=(f:aq):=⟨i.f.toNat,by omega⟩
 have Q:m.ss[f]?=dy st:=by rw[ez,am] at en;exact en
 have gR:=(ag.1 Q).1;have gS:(f:aq)<(m.ss.length:aq):=by omega
 obtain⟨w0,gb,eA,eC⟩:=fz;obtain⟨z,C,eR,eE,eS⟩:=eA.srow (λe=>by rw[e] at Q;simp at Q);have eI:=eS f st Q 1 _ rfl;rw[(eA.sin st (ap Q)).nf] at eI;have eJ:bt w0.heap.size w0 A:=eC.trans (er.mono eC.size);have cS:A.cell? ⟨z,C+f*4+1,dD⟩=dy (ee st.s.fA st.fs.length st.s.fC):=by rw[eJ.cell (p:=⟨z,C+f*4+1,dD⟩) eE];exact eI
 have eK:z<A.heap.size:=bh eE eJ.size;have eV:z<B:=bh eE gb;have cM:A.cell? ⟨R,0,dD⟩=dy (ee (dy ⟨z,C,dD⟩) m.ss.length m.sC):=by rw[<-eR];exact zR (P.x.run (by simp)) 0 _
 have eW:=zH ep;have gd:=zH ew;obtain⟨L,Y⟩:=zE r.v.length;rw[Y];rw[Y] at fX eN;rw[Y] at fW;have g6:=zH Y;have H1:=zH P;have ff:=zH X;have ge:=zH er;have gg:=zH eq;have HD:=zH hD;have fg:=zH ev;have H0:=zH h;have g7:=zH ef;have gh:=zH en;have gi:=zH ez;clear h er X P eq hD ev es Y ef ep ew hd en ez;go_enter b6,bC
 go_upto_region 1 with(fail)
 (try rw[HD.out]);rw[gg.out];clear fy eC eJ eA eS eI Q eR;obtain⟨S3,eL⟩:=zE ((λW=>W.heap[D]?=dy (el i.cells 42 (0,0))/\W.cell? ⟨R,2,dD⟩=dy (eg (dy ⟨H,0,dD⟩))/\R<W.heap.size/\W.cell? ⟨R,0,dD⟩=dy (ee (dy ⟨z,C,dD⟩) m.ss.length m.sC)/\W.cell? ⟨z,C+f*4+1,dD⟩=dy (ee st.s.fA st.fs.length st.s.fC)/\z<W.heap.size):World->Prop);have fh:cU (∀W,W.heap[D]?=dy (el i.cells 42 (0,0))->W.cell? ⟨R,2,dD⟩=dy (eg (dy ⟨H,0,dD⟩))->R<W.heap.size->W.cell? ⟨R,0,dD⟩=dy (ee (dy ⟨z,C,dD⟩) m.ss.length m.sC)->W.cell? ⟨z,C+f*4+1,dD⟩=dy (ee st.s.fA st.fs.length st.s.fC)->z<W.heap.size->S3 W):=λW a b c d e f=>by rw[<-eL];exact⟨a,b,c,d,e,f⟩
 have gj:S3 A.drew:=fh.out _ ff.out cR fY cM cS eK;have u:cU (∀W,S3 W->W.cell? ⟨D,1,dD⟩=dy (Z U (E:aq))/\W.cell? ⟨D,4,dD⟩=dy (Z U (f:aq))/\D<W.heap.size/\W.cell? ⟨R,2,dD⟩=dy (eg (dy ⟨H,0,dD⟩))/\R<W.heap.size/\W.cell? ⟨R,0,dD⟩=dy (ee (dy ⟨z,C,dD⟩) m.ss.length m.sC)/\W.cell? ⟨z,C+f*4+1,dD⟩=dy (ee st.s.fA st.fs.length st.s.fC)/\z<W.heap.size):=λW G=>by
  rw[<-eL] at G;exact⟨by rw[<-eW.out];exact zR G.1 1 _,by rw[<-gi.out];exact zR G.1 4 _,ae G.1,G.2.1,G.2.2.1,G.2.2.2.1,G.2.2.2.2.1,G.2.2.2.2.2⟩
 have gl:=zH (JY A.drew (H1.out.grow (ba _ _).drew) st.fs.length fL fN fR fS);have gm:=zH eV;have gn:=zH cS;clear eL ed cM cS eV
 go_upto_region 23 with(fail)
 refine ak 20 S3 (by kernel_rfl) ?_;refine zT 0 rfl u.out ?_;(try go_simp);refine zT 1 rfl u.out ?_;(try go_simp);refine zT 2 rfl u.out ?_;(try go_simp);refine zT 3 rfl u.out ?_;(try go_simp);refine zT 4 rfl u.out ?_;(try go_simp);refine zT 5 rfl u.out ?_;(try go_simp);refine zT 6 rfl u.out ?_;(try go_simp);refine zT 7 rfl u.out ?_;(try go_simp);refine zT 8 rfl u.out ?_;(try go_simp);refine zT 9 rfl u.out ?_;(try go_simp);refine zT 10 rfl u.out ?_;(try go_simp);refine zT 11 rfl u.out ?_;(try go_simp);refine zT 12 rfl u.out ?_;(try go_simp);refine zT 13 rfl u.out ?_;(try go_simp);refine zT 14 rfl u.out ?_;(try go_simp);refine zT 15 rfl u.out ?_;(try go_simp);refine zT 16 rfl u.out ?_;(try go_simp);refine zT 17 rfl u.out ?_;(try go_simp);refine zO 18 rfl λK' hK=> ?_;go_simp;go_at_call 158;refine gl.out.mono ?_;intro e T fi;have gr:∃(x:aq) (cs':bq Cl) (O:bo->WT) (I:IY),e= em (Z U x)/\Wm R H m B O I cs' stk bd T/\I6 s I/\Ext (λk=>tg k≠ .no) A.drew T/\(∀k,O k≠ .no->tg k≠ .no\/A.drew.heap.size<=k)/\Pl m i cs r.v (r.v.set i.d.toNat x) cs':=by
  rcases fi with⟨rfl,O,I,N,e5,J,V⟩|⟨rfl,b,O,I,N,e5,J,V⟩
  ·exact⟨_,_,O,I,rfl,N,Kc s I e5,J,V,.null (.inr fg.out)⟩
  ·exact⟨_,_,O,I,rfl,N,KN s I e5,J,V,.new fg.out gh.out⟩
 clear fi;obtain⟨x,cs',O,I,rfl,N,fj,J,V,fk⟩:=gr;have gw:¬tg D≠ .no:=λq=>by have:=(H0.out.lo D q).2;have:=HD.out;omega
 have fm:=J.heap (show A.drew.heap[D]?=_ from ff.out) gw;have et:=N.x.run (by simp);have fp:T.cell? ⟨z,C+f*4+1,dD⟩=dy (ee st.s.fA st.fs.length st.s.fC):=by
  rw[J.cell (a:=⟨z,C+f*4+1,dD⟩) eK (λq=>by have:=(H0.out.lo z q).1;have:=gm.out;omega)];exact gn.out
 have ft:S3 T:=fh.out _ fm (zR et 2 _) (ae et) (by have:=(u.out _ gj).2.2.2.2.2.1;have q:=zR et 0 _;rw[q];have q1:=zR (H1.out.x.run (by simp)) 0 _;have q2:A.cell? ⟨R,0,dD⟩=dy (ee (dy ⟨z,C,dD⟩) m.ss.length m.sC):=this;rw[q1] at q2;exact q2) fp (bh eK J.size);refine hK _ _ ft ?_;clear hK;(try go_simp);have fx:=N.var hr E x;have gz:=zH (o8.of (b:=dS) ge.out.drew fk (by rw[eW.out,am];exact Bb.step J V (fx.imp λs' e=>I6.of_eq fj e)));have eM:=N.x.fr d r hr (by simp);have gA:T.cell? ⟨r.b,E,dD⟩=dy (Z U yd):=eM.cell gd.out;have gC:T.frozen? ⟨r.b,E,dD⟩=dT:=bm _ _ _ _ _ eM;refine zT 19 rfl u.out ?_;(try go_simp);refine zK rfl λK' hK=> ?_;go_simp;(try simp only[gA,gC]);(try go_simp);refine hK _ _ ?_;clear hK;refine⟨by kernel_rfl, ?_⟩;clear fm et N fx J V eM fk fj ft fp;go_wp2;go_ret;exact gz.out
theorem Kg (w:World)(h:Wm R H m B tg s cs stk bd w)(O:stk[d]?=dy r)(i:Ins)(en:i.op=13)(eK:cs.length<=100000)(et:∀x∈r.v,fO x)(eL:r.v.length<=1000)(ha:0<=i.a/\i.a.toNat<r.v.length):
  Calls aw 121 #[eg (dy ⟨R,0,dD⟩),ei i.cells,ee (dy ⟨r.b,0,dD⟩) r.v.length r.v.length] w (o8 R H m B tg s cs stk bd w d r i):=by
 obtain⟨C,P⟩:∃n:bo,i.a=(n:aq):=⟨i.a.toNat,by omega⟩
 have ev:C<r.v.length:=by have:=ha.2;rw[P,am] at this;exact this
 obtain⟨z,Q⟩:∃y,r.v[C]?=dy y:=⟨_,ac ev⟩
 have eM:(C:aq)<(r.v.length:aq):=by omega
 obtain⟨D,hD⟩:=zE w.heap.size;obtain⟨f,T⟩:=zE (w.alloc (el i.cells 42));have ep:=iq T;have E:f.heap[D]?=dy (el i.cells 42 (0,0)):=by rw[<-T,<-hD];exact alloc_at _ _
 have G:=h.grow ep;have V:=G.x.fr d r O (by simp);have c0:f.cell? ⟨D,0,dD⟩=dy (Z U 13):=by rw[<-en];exact zR E 0 _
 have c2:f.cell? ⟨D,2,dD⟩=dy (Z U (C:aq)):=by rw[<-P];exact zR E 2 _
 have ea:f.cell? ⟨r.b,C,dD⟩=dy (Z U z):=V.cell Q;have ef:∀k,f.frozen? ⟨r.b,k,dD⟩=dT:=λk=>bm _ _ _ _ _ V;have cR:f.cell? ⟨R,2,dD⟩=dy (eg (dy ⟨H,0,dD⟩)):=zR (G.x.run (by simp)) 2 _;have eN:=ae (G.x.run (by simp));have ew:=ae E;have ez:=ae V;have eq:=et z (ap Q);have fk:=zH P;have fm:=zH Q;obtain⟨L,I⟩:=zE r.v.length;rw[I];rw[I] at eM ev;rw[I] at eL;have fp:=zH I;have H1:=zH G;have ft:=zH E;have eR:=zH ep;have eS:=zH T;have HD:=zH hD;have eV:=zH en;have H0:=zH h;have fx:=zH ef;clear h ep E G T hD en V I ef P Q ha;go_enter b6,bC
 go_upto_region 1 with(fail)
 (try rw[HD.out]);rw[eS.out];have fy:=zH eq;have eA:cU (zS 159 #[eg (dy ⟨H,0,dD⟩),Z U z] f.drew (J9 s cs z)):=Jy _ (H1.out.grow (ba _ _).drew) z eK eq;clear et eq;obtain⟨S3,er⟩:=zE ((λW=>W=f.drew):World->Prop);have eC:S3 f.drew:=by rw[<-er]
 have A:cU (∀W,S3 W->W.cell? ⟨R,2,dD⟩=dy (eg (dy ⟨H,0,dD⟩))/\W.cell? ⟨D,2,dD⟩=dy (Z U (C:aq))/\W.cell? ⟨r.b,C,dD⟩=dy (Z U z)/\D<W.heap.size/\r.b<W.heap.size/\R<W.heap.size):=λW hW=>by
  rw[<-er] at hW;subst hW;exact⟨cR,c2,ea,ew,ez,eN⟩
 clear er
 go_upto_region 25 with(fail)
 refine bL S3 (by kernel_rfl) ?_;refine yT 0 rfl A.out ?_;(try go_simp);refine yT 1 rfl A.out ?_;(try go_simp);refine yT 2 rfl A.out ?_;(try go_simp);refine yT 3 rfl A.out ?_;(try go_simp);refine yT 4 rfl A.out ?_;(try go_simp);refine yT 5 rfl A.out ?_;(try go_simp);refine yT 6 rfl A.out ?_;(try go_simp);refine yT 7 rfl A.out ?_;(try go_simp);refine yT 8 rfl A.out ?_;(try go_simp);refine yO 9 rfl λK' hK=> ?_;go_simp;go_at_call 159;refine eA.out.mono ?_;rintro e W5 ⟨rfl,rfl⟩;refine hK _ _ eC ?_;clear hK;(try go_simp);refine yT 10 rfl A.out ?_;(try go_simp);refine⟨by kernel_rfl, ?_⟩;have eW:f.drew.cell? ⟨r.b,C,dD⟩=dy (Z U z):=ea;have ff:f.drew.cell? ⟨D,2,dD⟩=dy (Z U (C:aq)):=c2;have fg:D<f.drew.heap.size:=ew;have fh:r.b<f.drew.heap.size:=ez;have J:=zH (H1.out.grow (ba _ _).drew);have Y:=zH (eR.out.drew);obtain⟨X,hX⟩:=zE f.drew;rw[hX] at eW ff fg fh J Y⊢;clear hX eC A eA c2 ea;rcases Jz J.out z with e|⟨k,c,g,fi,hc,fj,hg,e⟩
 ·rw[e]
  clear e
  by_cases hz:z=0
  ·have eE:(z != 0)=dT:=by rw[hz];rfl
   have N:=zH (o8.none (i:=i) (b:=dS) H0.out O Y.out);clear hz;go_wp2;go_ret;exact N.out
  ·have eE:(z != 0)=dS:=by rw[bne_iff_ne];exact hz
   have N:=zH (o8.none (i:=i) (b:=dT) H0.out O Y.out);clear hz;go_wp2;go_ret;exact N.out
 ·rw[e]
  have eE:(z != 0)=dS:=by rw[bne_iff_ne];omega
  obtain⟨g',es,fz,eI,d0,_⟩:=J.out.cellAt hc;rw[hg] at es;obtain rfl:g=g':=by simpa using es
  have fL:X.frozen? ⟨g,k*4,dD⟩=dT:=by
   have ho:=J.out.x.ce (by simp);rw[hg] at ho;exact ho.frozenAt _
  have eJ:=J.out.cel (c':={c with al:=dT}) hc eI (j:=0) (u:= eh dT) (by omega) rfl rfl rfl;have N:=zH (o8.of (b:=dS) Y.out (Pl.free (m:=m) (cs:=cs) (v:=r.v) eV.out hc) (by rw[I8 O];exact JZ eJ));clear e fi hc fj hg es eI eJ;go_wp2;go_ret;exact N.out
end
section
variable {R H:bo}{m:Mo}{B:bo}{tg:bo->WT}{s:IY}{cs:bq Cl}{stk:bq Fr}{bd:bq Sn}{w w':World}{d:bo}{r:Fr}{g:Fn}{i:Ins}{pre:bq Fr}
theorem KO (u:aD m g i=0)(h:i.op=4):i.sign∈gK:=by
 have:=IZ u h (by decide) (by decide) (by decide) (by decide);unfold ay at this;rw[bl (by omega),bl (by omega),bx h] at this;unfold eO at this
 by_cases e:dX g.vs [i.d,i.a,i.b]≠0
 ·rw[bx e] at this;exact cm this e
 ·rw[bl e] at this
  have v:=iZ (by decide) this;obtain⟨x,z,f⟩:=List.any_eq_true.1 v;rw[beq_iff_eq] at f;rw[<-f];exact z
theorem yC.wf (h:yC m cs (pre++[r])):∀x∈r.v,fO x:=λx z=>by
 obtain⟨g,_,_,D,A⟩:=h.frame;obtain⟨j,u⟩:=da z;have E:=(ag.1 u).1;obtain⟨f,C⟩:∃f,g.vs[j]?=dy f:=⟨_,ac (by omega)⟩
 exact(A j f x C u).1
theorem JC (w:World){u:Fr}(h:Wm R H m B tg s cs (pre++[u]) bd w)(Y:J5 m B w)(I:bf m=0)(J:yC m cs (pre++[r]))(E:u.v=r.v)(G:m.fs[r.f]?=dy g)(Q:g.c.ins[r.pc]?=dy i)(ev:i.op<15)
  (en:∀st∈m.ss,st.fs.length<=1000)(L:cs.length<=100000)(ep:s.no<=100000)(eq:0<=s.asked)(er:s.asked<=100000):
  Calls aw 121 #[eg (dy ⟨R,0,dD⟩),ei i.cells,ee (dy ⟨u.b,0,dD⟩) u.v.length u.v.length] w (o8 R H m B tg s cs (pre++[u]) bd w pre.length u i):=by
 have N:=dw I G Q;obtain⟨o1,_,T,q4,_⟩:=bK N;obtain⟨g',V,_,hl,_⟩:=J.frame;rw[G] at V;obtain rfl:=ar V;have ew:=(jm ((dJ I).2.2.2.2.1 g (ap G))).1;have z:(pre++[u])[pre.length]?=dy u:=by rw[aE (bA _),bR];rfl
 have A:u.v.length<=1000:=by rw[E];omega
 have O:∀x∈u.v,fO x:=by rw[E];exact J.wf
 have D:oH i.op=dS->0<=i.a/\i.a.toNat<u.v.length:=λe=>by
  have:=bU (T i.a (by unfold readsOf;rw[bx e];simp));rw[E];omega
 have W:rz i.op=dS->0<=i.b/\i.b.toNat<u.v.length:=λe=>by
  have:=bU (T i.b (by unfold readsOf;rw[bx e];simp));rw[E];omega
 have C:nZ i.op=dS->0<=i.d/\i.d.toNat<u.v.length:=λe=>by
  have:=bU (q4 e);rw[E];omega
 have es:(i.op=7\/i.op=8\/i.op=10\/i.op=11)->Calls aw 121 #[eg (dy ⟨R,0,dD⟩),ei i.cells,ee (dy ⟨u.b,0,dD⟩) u.v.length u.v.length] w (o8 R H m B tg s cs (pre++[u]) bd w pre.length u i):=λP=>
  JM w h z i P A L (D (by rcases P with e|e|e|e<;>rw[e]<;>rfl)) O (λk c hk hc=>by
   obtain⟨y,st,fd,_,_,_,f0,f1,f2,_⟩:=J.heap I G Q P (by rw[<-E];exact hk) hc;exact⟨f0,by rw[f2];exact(ag.1 f1).1⟩) (λe=>C (by rcases e with e|e<;>rw[e]<;>rfl)) (λe=>W (by rcases e with e|e<;>rw[e]<;>rfl))
 have et:i.op=1\/i.op=2\/i.op=3\/i.op=4\/i.op=5\/i.op=6\/(i.op=7\/i.op=8\/i.op=10\/i.op=11)\/i.op=9\/i.op=12\/i.op=13\/i.op=14:=by omega
 rcases et with e|e|e|e|e|e|e|e|e|e|e
 ·exact Kv w h z i e A (C (by rw[e];rfl))
 ·exact Ku w h z i e A (C (by rw[e];rfl))
 ·exact Kw w h z i e O A (C (by rw[e];rfl)) (D (by rw[e];rfl))
 ·exact Kz w h z i e (KO N e) A (C (by rw[e];rfl)) (D (by rw[e];rfl)) (W (by rw[e];rfl))
 ·exact KC w h z i e A (C (by rw[e];rfl))
 ·exact KD w h z i e ep A (D (by rw[e];rfl))
 ·exact es e
 ·exact Ky w h z i e A (C (by rw[e];rfl)) (D (by rw[e];rfl))
 ·obtain⟨st,X,_,hf⟩:=CB N e
  exact Ke w h z i e X hf Y (en st (ap X)) L eq er A (C (by rw[e];rfl))
 ·exact Kg w h z i e L O A (D (by rw[e];rfl))
 ·exact Kb w h z i e A (C (by rw[e];rfl)) (D (by rw[e];rfl))
end
end Go.Proofs.YtjomgckjhcfbgaaGreat
