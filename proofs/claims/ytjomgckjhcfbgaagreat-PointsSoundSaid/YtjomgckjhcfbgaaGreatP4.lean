/- Walks. -/
import Derived.Test.YtjomgckjhcfbgaaGreatP3
set_option maxRecDepth 100000
set_option maxHeartbeats 64000000
set_option linter.all false
namespace Go.Proofs.YtjomgckjhcfbgaaGreat
open Go.RowKit
open _root_.List renaming getElem?_eq_getElem→ac,getElem?_eq_some_iff→ag,mem_of_getElem?→ap,getElem?_append_right→aE,length_append→ca,length_singleton→cb,getElem?_map→cd,eq_nil_of_length_eq_zero→cj,set_append_right→cw,set_cons_zero→cF,length_map→dp,dropLast_concat_getLast→dv
open _root_.Int renaming toNat_natCast→am,le_refl→cI
open _root_ renaming Int→aq,if_neg→bl,Nat→bo,List→bq,if_pos→bx,beq_false_of_ne→bD,absurd→cm,decide_eq_false→cG,Option→cL
open _root_.Option.some renaming inj→ar
open Go.Proofs.Tryz renaming prog→aw,underlying42→cn
open Go.RowKit.Below renaming refl→ba
open Go.IntKind renaming wrap_i64→bb,i64→bs,i64→U
open Go renaming seen→bd,frozen_of_row→bm,Value→cy,cell_of_row→cE
open _root_.Nat renaming lt_of_lt_of_le→bh,le_refl→bA,sub_self→bR,zero_add→ch,le_trans→ci,le_succ→c8,zero_le→dt
open Go.RowKit renaming Below→bt,Hid→cU
open _root_.Classical renaming byContradiction→b7
open Go.Addr renaming add_lit→cf
open Go.Value.slice renaming injEq→cz
open Go.Value renaming oneCell'→cP,int→dg,slice→ee,pointer→eg,agg→ei,int→Z
open _root_.Option renaming some→dy,none→dD
open _root_.Bool renaming true→dS,false→dT
open Go.Obj renaming cells→el
open Go.Ending renaming returned→em
open Go.Proofs.Tryz
def Kh (s f:IY):Prop:=f.no<=s.no+1/\s.asked<=f.asked/\f.asked<=s.asked+1/\f.kind=s.kind/\f.steps=s.steps+1
section
variable {R H:bo}{m:Mo}{B:bo}{tg:bo->WT}{s:IY}{cs:bq Cl}{stk:bq Fr}{bd:bq Sn}{w w':World}{r:Fr}{pre:bq Fr}
def KQ (R H:bo)(m:Mo)(B:bo)(tg:bo->WT)(s:IY)(cs:bq Cl)(stk:bq Fr)(bd:bq Sn)(w:World)(e:Ending)(w':World):Prop:=
 ∃(k:aq) (cs':bq Cl) (f:bq Fr),e= em (Z U k)/\(k=4->f≠[])/\yC m cs' f/\cs'.length<=cs.length+1/\f.length<=stk.length+1/\Bb R H m B tg w cs' f bd (Kh s) w'
theorem I5 (s f:IY)(e:f={s with steps:=s.steps+1}):Kh s f:=by
 subst e;refine⟨c8 s.no,cI s.asked, ?_,rfl,rfl⟩
 show s.asked<=s.asked+1
 omega
theorem KP (s f:IY)(A:cL Addr)(K:bo)(e:f={s with steps:=s.steps+1,stA:=A,stK:=K}):Kh s f:=by
 subst e;refine⟨c8 s.no,cI s.asked, ?_,rfl,rfl⟩
 show s.asked<=s.asked+1
 omega
theorem KE (s f:IY)(h:I6 {s with steps:=s.steps+1} f):Kh s f:=⟨h.1,h.2.1,h.2.2.1,h.2.2.2.1,h.2.2.2.2.1⟩
theorem Ki (s f:IY)(x:aq)(e:f={s with steps:=s.steps+1,code:=x}):Kh s f:=by
 subst e;refine⟨c8 s.no,cI s.asked, ?_,rfl,rfl⟩
 show s.asked<=s.asked+1
 omega
theorem JD (r:Fr){w:World}:∀(c:Array cy),c.size=3->(storeCells ⟨w.heap.size,0,dD⟩ [Z U (r.f:aq),Z U (r.pc:aq),ee (dy ⟨r.b,0,dD⟩) r.v.length r.v.length] 0).run aw (w.alloc (el c 218))= .ok () (w.alloc (el #[Z U (r.f:aq),Z U (r.pc:aq),ee (dy ⟨r.b,0,dD⟩) r.v.length r.v.length] 218)):=λc h=>
 run_storeCells_new (P:=aw) w 218 c #[Z U (r.f:aq),Z U (r.pc:aq),ee (dy ⟨r.b,0,dD⟩) r.v.length r.v.length] (by show _=dy 3;kernel_rfl) h (by simp[cP])
theorem I9 (pre:bq Fr)(r x:Fr):(pre++[r]).set pre.length x=pre++[x]:=by
 rw[cw _ _ (bA _),bR,cF]
theorem Ba (pre:bq Fr)(r:Fr):(pre++[r])[pre.length]?=dy r:=by rw[aE (bA _),bR];rfl
theorem JN (w:World)(h:Wm R H m B tg s cs (pre++[r]) bd w)(kq:J5 m B w)(hr:bf m=0)(hI:yC m cs (pre++[r]))(m5:∀st∈m.ss,st.fs.length<=1000)(m6:m.fs.length<=60)
  (o5:cs.length<=50000)(o6:pre.length<=50000)(pb:s.no<=50000)(m7:0<=s.asked)(pd:s.asked<=50000)(pe:0<=s.steps)(pf:s.steps<=50000):
  Calls aw 75 #[eg (dy ⟨R,0,dD⟩)] w (KQ R H m B tg s cs (pre++[r]) bd w):=by
 obtain⟨g,hg,ks,kt,_⟩:=hI.frame;obtain⟨i,hi⟩:∃i,g.c.ins[r.pc]?=dy i:=⟨_,ac ks⟩
 have kv:=ap hg;have m8:=ap hi;have kx:=jm ((dJ hr).2.2.2.2.1 g kv);have pg:=(ag.1 hg).1;have ky:(pre++[r]).length=pre.length+1:=by simp
 obtain⟨gs,iA,ph,m9,p0,p1,p2⟩:=h.frameAt (Ba pre r);have r3:w.cell? ⟨R,3,dD⟩=dy (ee (dy ⟨gs,0,dD⟩) (pre.length+1) s.stK):=by
  have:=h.x.run (by simp);rw[ky,] at this;rw[<-iA];exact zR this 3 _
 have pi:=ae (h.x.run (by simp));obtain⟨K,L⟩:=zE pre.length;rw[L] at p0 p1 p2 r3;obtain⟨Dt,kA⟩:=zE w.heap.size;obtain⟨W2,fY⟩:=zE (w.alloc (el #[Z U (r.f:aq),Z U (r.pc:aq),ee (dy ⟨r.b,0,dD⟩) r.v.length r.v.length] 218));have na:=JD r (w:=w);have kB:=iq fY;have kL:W2.heap[Dt]?=dy (el #[Z U (r.f:aq),Z U (r.pc:aq),ee (dy ⟨r.b,0,dD⟩) r.v.length r.v.length] 218 (0,0)):=by rw[<-fY,<-kA];exact alloc_at _ _
 rw[fY] at na;have pj:bs.wrap ((K:aq)+1-1)=(K:aq):=by rw[bb];omega
 have pk:bs.wrap (((K+1:bo):aq)-1)=(K:aq):=by rw[bb];omega
 have pl:(K:aq)<((K+1:bo):aq):=by omega
 have pm:K<=50000:=by omega
 have pn:(K:aq)<(K:aq)+1:=by omega
 have H0:=zH h;have fp:=zH kB;have gb:=zH kL;have po:=zH kA;have eq:=zH L;have X:=zH hg;have HI:=zH hi;have kO:=zH kx;have kT:=zH kq;have et:=zH hI;have iC:=zH iA;have ev:=zH hr;have nb:=zH kt;have nc:=zH fY;clear h kB kL L hg hi kx kq hI iA hr kt ks ky kv m8 m9 fY;go_enter func75,ntmps75
 go_upto_region 3 with(fail)
 rw[nc.out];obtain⟨V,hV⟩:=zE W2.drew;have iD:bt W2.heap.size W2 V:=by rw[<-hV];exact(ba _ _).drew
 have ew:=kT.out.inn.below fp.out;obtain⟨fb,fo,k1,ng,k2⟩:=ew.frow (λe=>by have:=X.out;rw[e] at this;simp at this);have iS:=ew.fin g (ap X.out);obtain⟨ib,io,k3,nh,k4⟩:=iS.code.row (λe=>by have:=HI.out;rw[e] at this;simp at this);have i2:=k2 r.f g X.out 7 _ rfl;rw[k3] at i2;have i3:=(ag.1 HI.out).1;have pp:(r.f:aq)<(m.fs.length:aq):=by omega
 have pq:(r.pc:aq)<(g.c.ins.length:aq):=by omega
 have pr:g.c.ins.length<=3000:=kO.out.2.2.1;obtain⟨k5,ga,gc,gd,k6⟩:=iS.code.args i (ap HI.out);obtain⟨S1,gE⟩:=zE ((λW=>bt W2.heap.size W2 W):World->Prop);have gO:cU (∀W,bt W2.heap.size W2 W->S1 W):=λW J=>by rw[<-gE];exact J
 have nj:S1 V:=gO.out _ iD;have h2:=H0.out.grow fp.out;have k7:W2.cell? ⟨R,1,dD⟩=dy (ee (dy ⟨fb,fo,dD⟩) m.fs.length m.fC):=by rw[<-k1];exact zR (h2.x.run (by simp)) 1 _
 have k8:=ae (h2.x.run (by simp));have C:cU (∀W,S1 W->W.cell? ⟨R,1,dD⟩=dy (ee (dy ⟨fb,fo,dD⟩) m.fs.length m.fC)/\R<W.heap.size/\W.cell? ⟨Dt,0,dD⟩=dy (Z U (r.f:aq))/\W.cell? ⟨Dt,1,dD⟩=dy (Z U (r.pc:aq))/\Dt<W.heap.size/\W.cell? ⟨fb,fo+r.f*8+7,dD⟩=dy (ee (dy ⟨ib,io,dD⟩) g.c.ins.length g.c.insC)/\fb<W.heap.size/\ib<W.heap.size):=λW J=>by
  rw[<-gE] at J;have hd:=(J.block Dt (ae gb.out)).trans gb.out;have hs:=J.size;exact⟨by rw[J.cell (p:=⟨R,1,dD⟩) k8];exact k7,by omega,zR hd 0 _,zR hd 1 _,ae hd,by rw[J.cell (p:=⟨fb,fo+r.f*8+7,dD⟩) ng];exact i2,by omega,by omega⟩
 have k9:cU (∀W,S1 W->∀j u,i.cells.toList[j]?=dy u->W.cell? ((⟨ib,io+r.pc*13,dD⟩:Addr).add j)=dy u):=λW J j u hu=>by
  rw[<-gE] at J;rw[cf,J.cell (p:=⟨ib,io+r.pc*13+j,dD⟩) nh];exact k4 r.pc i HI.out j u hu
 have HV:=zH hV;have ft:=zH iD;have ps:=zH gd;have pw:=zH k6;have nl:=zH k5;clear gE k1 k2 k4 k3 i2 h2 k7 k8 ew iS gd k6 k5 hV iD p0 p1 p2 r3;refine bL S1 (by kernel_rfl) ?_;(try rw[HV.out]);refine yT 0 rfl C.out ?_;(try go_simp);refine yT 1 rfl C.out ?_;(try go_simp);refine yT 2 rfl C.out ?_;(try go_simp);refine yT 3 rfl C.out ?_;(try go_simp);refine yT 4 rfl C.out ?_;(try go_simp);refine yT 5 rfl C.out ?_;(try go_simp);refine yT 6 rfl C.out ?_;(try go_simp);refine yT 7 rfl C.out ?_;(try go_simp);refine yT 8 rfl C.out ?_;(try go_simp);refine yT 9 rfl C.out ?_;(try go_simp);refine yT 10 rfl C.out ?_;(try go_simp);refine yT 11 rfl C.out ?_;(try go_simp);refine yT 12 rfl C.out ?_;(try go_simp);refine yL 13 rfl 42 ⟨ib,io+r.pc*13,dD⟩ k9.out cn ?_;(try go_simp);refine yO 14 rfl λK' L=> ?_;go_simp;obtain⟨D,hD⟩:=zE V.heap.size;obtain⟨W3,ge⟩:=zE (V.alloc (el i.cells 42));have i4:=tQ (i:=i) nl.out (w:=V);rw[hD,ge] at i4;have la:bt W2.heap.size W2 W3:=by rw[<-ge];exact ft.out.alloc ft.out.size _
 have lb:W3.heap[D]?=dy (el i.cells 42 (0,0)):=by rw[<-ge,<-hD];exact alloc_at _ _
 have gR:=zH la;have ld:=zH lb;have le:W2.heap.size<=D:=by rw[<-hD];exact ft.out.size
 (try rw[hD]);refine L _ _ (gO.out _ (ft.out.alloc ft.out.size _)) ?_;have li:=zH ge;clear L la lb ge;(try go_simp);refine yO 15 rfl λK' L=> ?_;go_simp;(try simp only[i4]);(try go_simp);(try rw[li.out]);refine L _ _ (gO.out _ gR.out) ?_;clear L i4;refine⟨by kernel_rfl, ?_⟩;clear nj C k9 gO HV hD ft li;have fx:bt w.heap.size w W3:=fp.out.trans (gR.out.mono fp.out.size);have h3:=H0.out.grow fx;have e7:W3.cell? ⟨R,7,dD⟩=dy (Z U s.steps):=zR (h3.x.run (by simp)) 7 _;have f7:W3.frozen? ⟨R,7,dD⟩=dT:=bm _ _ _ _ _ (h3.x.run (by simp));have nn:=ae (h3.x.run (by simp));have r7:bs.wrap (s.steps+1)=s.steps+1:=by rw[bb];omega
 have r8:bs.wrap ((r.pc:aq)+1)=(r.pc:aq)+1:=by rw[bb];omega
 obtain⟨lj,s4,h4,e4,x4,t4⟩:=h3.nums (j:=7) (u:= Z U (s.steps+1)) {s with steps:=s.steps+1} rfl rfl;subst e4;obtain⟨X4,i5⟩:=zE (W3.setCell ⟨R,7,dD⟩ (Z U (s.steps+1)));rw[i5] at h4 x4;have np:=zH i5;obtain⟨N,gS,lk,lp,_,q1,_⟩:=h4.frameAt (Ba pre r);have nr:N=gs:=by have:=gS;simp only at this;rw[iC.out] at this;simpa using this.symm
 subst nr;have q3:X4.cell? ⟨R,3,dD⟩=dy (ee (dy ⟨N,0,dD⟩) (K+1) s.stK):=by
  have:=h4.x.run (by simp);rw[show(pre++[r]).length=K+1 by rw[<-eq.out];simp] at this;rw[<-iC.out];exact zR this 3 _
 have ns:=ae (h4.x.run (by simp));have qf:X4.frozen? ⟨N,K*3+1,dD⟩=dT:=by
  have T:=h4.x.st (by simp);simp only at T gS;rw[gS] at T;exact T.frozenAt _
 obtain⟨eM,s5,h5,e5,x5,t5⟩:=h4.pc (Ba pre r) lp (r.pc+1);subst e5;rw[I9,eq.out] at h5;rw[eq.out] at x5 q1;rw[show((r.pc+1:bo):aq)=(r.pc:aq)+1 by omega] at h5 x5;obtain⟨E,i6⟩:=zE (X4.setCell ⟨N,K*3+1,dD⟩ (Z U ((r.pc:aq)+1)));rw[i6] at h5 x5;have nt:=zH i6;have g6:Ext (λk=>tg k≠ .no) w E:=((Ext.of_below_size (M:=λk=>tg k≠ .no) fx).trans x4 (λk Y=> .inl Y)).trans x5 (λk Y=>(t4 k Y).imp id (λq=>ci fx.size q));have g7:∀k,eM k≠ .no->tg k≠ .no\/w.heap.size<=k:=λk Y=>by
  rcases t5 k Y with q|q
  ·exact(t4 k q).imp id (λq=>ci fx.size q)
  ·exact .inr (ci fx.size (ci x4.size q))
 have i7:∀k,w.heap.size<=k->k<W3.heap.size->eM k= .no:=λk h1 h2=>b7 λY=>by
  rcases t5 k Y with q|q
  ·rcases t4 k q with q|q
   ·have:=(H0.out.lo k q).2;omega
   ·omega
  ·have:=x4.size;omega
 have lr:=ae ld.out;have ls:Dt<W3.heap.size:=bh (ae gb.out) gR.out.size;have g9:E.heap[D]?=dy (el i.cells 42 (0,0)):=by
  have n1:¬tg D≠ .no:=λq=>by have:=(H0.out.lo D q).2;have:=fp.out.size;omega
  have n4:¬lj D≠ .no:=λq=>by
   rcases t4 D q with a|a
   ·exact n1 a
   ·omega
  exact x5.heap (x4.heap ld.out n1) n4
 have lv:E.heap[Dt]?=dy (el #[Z U (r.f:aq),Z U (r.pc:aq),ee (dy ⟨r.b,0,dD⟩) r.v.length r.v.length] 218 (0,0)):=
  by
   have n1:¬tg Dt≠ .no:=λq=>by have:=(H0.out.lo Dt q).2;omega
   have n4:¬lj Dt≠ .no:=λq=>by
    rcases t4 Dt q with a|a
    ·exact n1 a
    ·omega
   exact x5.heap (x4.heap ((gR.out.block Dt (ae gb.out)).trans gb.out) n1) n4
 have H5:=zH h5;have HX:=zH g6;have HT:=zH g7;have eN:=zH g9;have ff:=zH lv;have fy:cU (eM D= .no/\eM Dt= .no):=⟨i7 D (ci fp.out.size le) lr,i7 Dt (by omega) ls⟩
 have eE:cU (∀(k:aq)(cs':bq Cl)(fz:bq Fr)(W6 W:World),bt E.heap.size E W6->yC m cs' fz->(k=4->fz≠[])->cs'.length<=cs.length+1->fz.length<=(pre++[r]).length+1->Bb R H m B eM W6 cs' fz bd (Kh s) W->KQ R H m B tg s cs (pre++[r]) bd w (em (Z U k)) W):=λk cs' fz W6 W hb h1 h2 h3 h4 h5=>
  ⟨k,cs',fz,rfl,h2,h1,h3,h4,Bb.step (g6.trans (Ext.of_below_size (M:=λk=>eM k≠ .no) hb) g7) g7 (Bb.step (Ext.refl _ _) (λ_ Y=> .inl Y) (by
   obtain⟨a,b,c,d,e,f⟩:=h5;exact⟨a,b,c,d,e,λk Y=>(f k Y).imp id (λq=>q)⟩))⟩
 have hC:=zH (kT.out.ext g6 (λk Y=>(H0.out.lo k Y).1));have ez:cU (s.stA=dy ⟨N,0,dD⟩):=iC.out;have i8:cU (yA s.stA=dy N):=by unfold cU;rw[ez.out];rfl
 have i9:E.cell? ⟨D,0,dD⟩=dy (Z U i.op):=zR g9 0 _;have lx:=ae g9;have ly:N<E.heap.size:=bh lk x5.size;clear fx h3 h4 x4 t4 i5 i6 gS lk lp h5 x5 t5 g6 g7 i7 lr ls g9 lv le
 go_upto_region 5 with(fail)
 rw[np.out]
 go_upto_region 6 with(fail)
 rw[nt.out];have hE:=H5.out.x.run (by simp);have fg:E.cell? ⟨R,3,dD⟩=dy (ee (dy ⟨N,0,dD⟩) (K+1) s.stK):=by
  rw[show(pre++[({r with pc:=r.pc+1}:Fr)]).length=K+1 by rw[<-eq.out];simp] at hE;rw[<-ez.out];exact zR hE 3 _
 have lz:=ae hE;have lA:∀k,E.frozen? ⟨N,k,dD⟩=dT:=λk=>by
  have T:=H5.out.x.st (by simp);simp only at T;rw[ez.out] at T;exact T.frozenAt _
 have lB:=zH lA;have fh:E.cell? ⟨N,K*3+1,dD⟩=dy (Z U ((r.pc+1:bo):aq)):=by
  obtain⟨g2,e2,_,_,_,q,_⟩:=H5.out.frameAt (k:=K) (r:={r with pc:=r.pc+1}) (by rw[<-eq.out];exact Ba _ _);simp only at e2;rw[ez.out] at e2;obtain rfl:N=g2:=by simpa using e2
  exact q
 clear e7 f7 nn r7 r8 q1 qf q3 ns hE lA
 by_cases fi:i.op=16
 ·as_aux_lemma=>
   have hJ:(i.op==16)=dS:=by rw[fi];rfl
   have O:=dw ev.out X.out HI.out;obtain⟨eI,gg,jj⟩:∃t:bo,i.tI=(t:aq)/\t<g.c.ins.length:=by
    unfold aD at O;rw[fi] at O;generalize aJ g.vs.length _=z at O;cases z with
    |false=>exact cm O (by simp)
    |true=>
     simp at O;have:=bU (iZ (by decide) O);exact⟨i.tI.toNat,by omega,by omega⟩
   have jn:E.drew.cell? ⟨D,9,dD⟩=dy (Z U (eI:aq)):=by rw[<-gg];exact zR (show E.drew.heap[D]?=_ from eN.out) 9 _
   have fL:=et.out.go X.out jj;have er:=(H5.out.grow (ba _ _).drew).pc (Ba pre _) i8.out eI;rw[I9] at er;have en:=zH (eE.out 4 cs (pre++[⟨r.f,eI,r.v,r.b⟩]) E.drew _ (ba _ _).drew fL (λ_=>by simp) (by omega) (by simp) (er.imp (I5 s)));rw[eq.out] at en;have gh:E.drew.cell? ⟨N,K*3+1,dD⟩=dy (Z U ((r.pc+1:bo):aq)):=fh;have gi:E.drew.frozen? ⟨N,K*3+1,dD⟩=dT:=lB.out _;obtain⟨S3,fj⟩:=zE ((λW=>W=E.drew):World->Prop);have jp:S3 E.drew:=by rw[<-fj]
   have C:cU (∀W,S3 W->W.cell? ⟨R,3,dD⟩=dy (ee (dy ⟨N,0,dD⟩) (K+1) s.stK)/\R<W.heap.size/\D<W.heap.size/\N<W.heap.size/\W.cell? ⟨D,9,dD⟩=dy (Z U (eI:aq))):=λW J=>by
    rw[<-fj] at J;subst J;exact⟨fg,lz,lx,ly,jn⟩
   clear fj O gg fL er fh fi
   go_upto_region 13 with(fail)
   refine ak 9 S3 (by kernel_rfl) ?_;refine zT 0 rfl C.out ?_;(try go_simp);refine zT 1 rfl C.out ?_;(try go_simp);refine zT 2 rfl C.out ?_;(try go_simp);refine zT 3 rfl C.out ?_;(try go_simp);refine zT 4 rfl C.out ?_;(try go_simp);refine zT 5 rfl C.out ?_;(try go_simp);refine zT 6 rfl C.out ?_;(try go_simp);refine zT 7 rfl C.out ?_;(try go_simp);refine zT 8 rfl C.out ?_;(try go_simp);refine zK rfl λK' L=> ?_;go_simp;(try simp only[gh,gi]);(try go_simp);refine L _ _ ?_;clear L;refine⟨by kernel_rfl, ?_⟩;go_wp2;go_ret;exact en.out
 by_cases eJ:i.op=17
 ·as_aux_lemma=>
   have hJ:(i.op==16)=dT:=by rw[eJ];rfl
   have js:(i.op==17)=dS:=by rw[eJ];rfl
   have O:=dw ev.out X.out HI.out;obtain⟨_,_,q3,_,_⟩:=bK O;obtain⟨eI,eR,gg,jj,lE,nv⟩:∃t e:bo,i.tI=(t:aq)/\t<g.c.ins.length/\i.els=(e:aq)/\e<g.c.ins.length:=by
    unfold aD at O;rw[eJ] at O;generalize aJ g.vs.length _=z at O;cases z with
    |false=>exact cm O (by simp)
    |true=>
     simp at O
     by_cases c:isVar g.c.ins.length i.tI=dS/\isVar g.c.ins.length i.els=dS
     ·have a:=bU c.1
      have b:=bU c.2;exact⟨i.tI.toNat,i.els.toNat,by omega,by omega,by omega,by omega⟩
     ·rw[bl c] at O;exact cm O (by decide)
   obtain⟨an,p,fN,jt,eS,_⟩:=et.out.val X.out (q3 i.a (by unfold readsOf;rw[eJ];simp[oH]));have cel:E.drew.cell? ⟨D,10,dD⟩=dy (Z U (eR:aq)):=by rw[<-lE];exact zR (show E.drew.heap[D]?=_ from eN.out) 10 _
   have ju:=et.out.go X.out nv;have ew:=et.out.go X.out jj;obtain⟨eV,s6,I,e6,P,t6⟩:=(H5.out.grow (ba _ _).drew).pc (Ba pre _) i8.out eR;subst e6;rw[I9] at I;have gh:E.drew.cell? ⟨N,K*3+1,dD⟩=dy (Z U ((r.pc+1:bo):aq)):=fh;have gi:E.drew.frozen? ⟨N,K*3+1,dD⟩=dT:=lB.out _;obtain⟨S3,fj⟩:=zE ((λW=>W=E.drew):World->Prop);have jp:S3 E.drew:=by rw[<-fj]
   have C:cU (∀W,S3 W->W.cell? ⟨R,3,dD⟩=dy (ee (dy ⟨N,0,dD⟩) (K+1) s.stK)/\R<W.heap.size/\D<W.heap.size/\N<W.heap.size/\W.cell? ⟨D,10,dD⟩=dy (Z U (eR:aq))):=λW J=>by
    rw[<-fj] at J;subst J;exact⟨fg,lz,lx,ly,cel⟩
   clear fj O lE fh eJ q3
   go_upto_region 15 with(fail)
   refine ak 9 S3 (by kernel_rfl) ?_;refine zT 0 rfl C.out ?_;(try go_simp);refine zT 1 rfl C.out ?_;(try go_simp);refine zT 2 rfl C.out ?_;(try go_simp);refine zT 3 rfl C.out ?_;(try go_simp);refine zT 4 rfl C.out ?_;(try go_simp);refine zT 5 rfl C.out ?_;(try go_simp);refine zT 6 rfl C.out ?_;(try go_simp);refine zT 7 rfl C.out ?_;(try go_simp);refine zT 8 rfl C.out ?_;(try go_simp);refine zK rfl λK' L=> ?_;go_simp;(try simp only[gh,gi]);(try go_simp);refine L _ _ ?_;clear L;refine⟨by kernel_rfl, ?_⟩;rw[eq.out] at I P;obtain⟨Q,eK⟩:=zE (E.drew.setCell ⟨N,K*3+1,dD⟩ (Z U (eR:aq)));rw[eK] at I P;have lF:(E.setCell ⟨N,K*3+1,dD⟩ (Z U (eR:aq))).drew=Q:=eK;rw[lF];clear lF;have es:=P.heap (show E.drew.heap[D]?=_ from eN.out) (λq=>q fy.out.1);have ep:=P.heap (show E.drew.heap[Dt]?=_ from ff.out) (λq=>q fy.out.2);have d2:Q.cell? ⟨Dt,2,dD⟩=dy (ee (dy ⟨r.b,0,dD⟩) r.v.length r.v.length):=zR ep 2 _;have d3:Q.cell? ⟨D,2,dD⟩=dy (Z U (an:aq)):=by rw[<-fN];exact zR es 2 _
   have eL:=I.x.fr pre.length ⟨r.f,eR,r.v,r.b⟩ (Ba pre _) (by simp);have d4:Q.cell? ⟨r.b,an,dD⟩=dy (Z U p):=eL.cell eS;have l1:=ae es;have l2:=ae ep;have l3:=ae eL;have nw:(an:aq)<(r.v.length:aq):=by omega
   by_cases fR:p=0
   ·have nx:(p != 0)=dT:=by rw[fR];rfl
    have en:=zH (eE.out 4 cs (pre++[⟨r.f,eR,r.v,r.b⟩]) E.drew Q (ba _ _).drew ju (λ_=>by simp) (by omega) (by simp) ⟨eV,_,I,I5 s _ rfl,P,t6⟩);clear I P t6 eL es ep eK ju ew C jp eS fR cel gh gi fg i9;go_wp2;go_ret;exact en.out
   ·have nx:(p != 0)=dS:=by rw[bne_iff_ne];exact fR
    have c3:Q.drew.cell? ⟨R,3,dD⟩=dy (ee (dy ⟨N,0,dD⟩) (K+1) s.stK):=by
     have:=I.x.run (by simp);rw[show(pre++[(⟨r.f,eR,r.v,r.b⟩:Fr)]).length=K+1 by rw[<-eq.out];simp] at this;rw[<-ez.out];exact zR (show Q.drew.heap[R]?=_ from this) 3 _
    have jx:=ae (I.x.run (by simp));have jn:Q.drew.cell? ⟨D,9,dD⟩=dy (Z U (eI:aq)):=by rw[<-gg];exact zR (show Q.drew.heap[D]?=_ from es) 9 _
    obtain⟨g2,e2,nB,_,_,lG,_⟩:=(I.grow (ba _ _).drew).frameAt (Ba pre _);simp only at e2;rw[ez.out] at e2;obtain rfl:N=g2:=by simpa using e2
    rw[eq.out] at lG;have nF:Q.drew.frozen? ⟨N,K*3+1,dD⟩=dT:=by
     have T:=I.x.st (by simp);simp only at T;rw[ez.out] at T;exact T.frozenAt _
    have er:=(I.grow (ba _ _).drew).pc (Ba pre _) i8.out eI;rw[I9] at er;have en:=zH (eE.out 4 cs (pre++[⟨r.f,eI,r.v,r.b⟩]) E.drew _ (ba _ _).drew ew (λ_=>by simp) (by omega) (by simp) (Bb.step (P.trans (Ext.of_below_size (M:=λk=>eV k≠ .no) (ba _ _).drew) t6) t6 (Bb.step (Ext.refl _ _) (λ_ Y=> .inl Y) (er.imp (I5 s)))));rw[eq.out] at en;clear C jp;obtain⟨S4,jz⟩:=zE ((λW=>W=Q.drew):World->Prop);have px:S4 Q.drew:=by rw[<-jz]
    have C:cU (∀W,S4 W->W.cell? ⟨R,3,dD⟩=dy (ee (dy ⟨N,0,dD⟩) (K+1) s.stK)/\R<W.heap.size/\D<W.heap.size/\N<W.heap.size/\W.cell? ⟨D,9,dD⟩=dy (Z U (eI:aq))):=λW J=>by
     rw[<-jz] at J;subst J;exact⟨c3,jx,l1,nB,jn⟩
    clear jz I P t6 eL es ep eK ju ew eS fR cel gh gi fg i9 gg er e2
    go_upto_region 17 with(fail)
    refine ak 9 S4 (by kernel_rfl) ?_;refine zT 0 rfl C.out ?_;(try go_simp);refine zT 1 rfl C.out ?_;(try go_simp);refine zT 2 rfl C.out ?_;(try go_simp);refine zT 3 rfl C.out ?_;(try go_simp);refine zT 4 rfl C.out ?_;(try go_simp);refine zT 5 rfl C.out ?_;(try go_simp);refine zT 6 rfl C.out ?_;(try go_simp);refine zT 7 rfl C.out ?_;(try go_simp);refine zT 8 rfl C.out ?_;(try go_simp);refine zK rfl λK' L=> ?_;go_simp;(try simp only[lG,nF]);(try go_simp);refine L _ _ ?_;clear L;refine⟨by kernel_rfl, ?_⟩;go_wp2;go_ret;exact en.out
 by_cases fk:i.op=15
 ·as_aux_lemma=>
   have hJ:(i.op==16)=dT:=bD fi;have js:(i.op==17)=dT:=bD eJ;have lH:(i.op==15)=dS:=by rw[fk];rfl
   have O:=dw ev.out X.out HI.out;obtain⟨_,_,q3,_,q5⟩:=bK O;obtain⟨c1,g2,hO,c3,c4,_,_⟩:=nW (q5 fk);obtain⟨f2,hU⟩:∃f2:bo,i.f=(f2:aq):=⟨i.f.toNat,by omega⟩
   rw[hU,am] at hO;have jt:i.args.length<=g2.vs.length:=by omega
   have py:=(jm ((dJ ev.out).2.2.2.2.1 g2 (ap hO))).1;have lI:=hC.out.inn;obtain⟨_,nI,lN,lO,lP⟩:=(lI.fin g (ap X.out)).code.args i (ap HI.out);obtain⟨AV,j0⟩:=zE (i.args.map λx=>(r.v[x.toNat]?).getD 0);have lR:AV.length=i.args.length:=by rw[<-j0,dp]
   have lS:cU (∀(n:bo)(x:aq),i.args[n]?=dy x->∃(xn:bo) (p:aq),x=(xn:aq)/\xn<r.v.length/\r.v[xn]?=dy p/\AV[n]?=dy p):=λn x hx=>by
    obtain⟨j,p,ej,hj,hp,_⟩:=et.out.val X.out (q3 x (by unfold readsOf;rw[bx fk];simp[ap hx]));refine⟨j,p,ej,hj,hp, ?_⟩;rw[<-j0,cd,hx,ej];simp[hp]
   have hZ:=zH lR;have nS:=zH lP.at_;have cA:∀W,bt E.heap.size E W->W.cell? ⟨D,7,dD⟩=dy (ee nI i.args.length lN)/\D<W.heap.size/\W.cell? ⟨Dt,2,dD⟩=dy (ee (dy ⟨r.b,0,dD⟩) r.v.length r.v.length)/\Dt<W.heap.size/\W.cell? ⟨D,4,dD⟩=dy (Z U (f2:aq)):=λW J=>by
    have a:=(J.block D (ae eN.out)).trans eN.out;have b:=(J.block Dt (ae ff.out)).trans ff.out;exact⟨by rw[<-lO];exact zR a 7 _,ae a,zR b 2 _,ae b,by rw[<-hU];exact zR a 4 _⟩
   have lT:=zH cA;have lV:=zH hO;have gj:=zH hU;have gl:=H5.out.x.fr pre.length ⟨r.f,r.pc+1,r.v,r.b⟩ (Ba pre _) (by simp);have l0:=zH gl;obtain⟨i0,nT,nV,eA,n0⟩:=info_parts Jp;have pA:r.v.length<=300:=by rw[nb.out];exact kO.out.1
   clear O q3 q5 hO hU lI lO lP j0 lR cA gl fh fg c1 c3
   go_upto_region 21 with(fail)
   go_loopw [6,7] (λv kk wr=>∃j:bo,j<=i.args.length/\kk= Z U (j:aq)/\wr.ownsRow E.heap.size 2 1 v j ((AV.take j).map (dg .i64))/\bt E.heap.size E wr) (λ_ kk _=>i.args.length-(intOf kk).toNat)
   case atStart=>exact⟨0,dt _,rfl,World.ownsRow_nil _ _ _ _,ba _ _⟩
   case round=>
    obtain⟨j,hj,rfl,fm,eW⟩:=hrel;obtain⟨d7,dl,t2,tl,d4⟩:=lT.out wr eW;obtain⟨ao,cap,rfl⟩:=ai fm;have pB:i.args.length<=300:=by omega
    by_cases j1:j<i.args.length
    ·obtain⟨x,hx⟩:∃x,i.args[j]?=dy x:=⟨_,ac j1⟩
     obtain⟨xn,p,rfl,pC,ie,ii⟩:=lS.out j x hx;obtain⟨ab,af,rfl,n6,mb⟩:=nS.out (λe=>by rw[e] at j1;simp at j1);have pD:(j:aq)<(i.args.length:aq):=by omega
     have pH:(xn:aq)<(r.v.length:aq):=by omega
     obtain⟨S6,j2⟩:=zE ((λW=>bt E.heap.size E W):World->Prop);have j4:cU (∀W,bt E.heap.size E W->S6 W):=λW J=>by rw[<-j2];exact J
     have n7:S6 wr.drew:=j4.out _ eW.drew;have C:cU (∀W,S6 W->W.cell? ⟨D,7,dD⟩=dy (ee (dy ⟨ab,af,dD⟩) i.args.length lN)/\D<W.heap.size/\W.cell? ⟨Dt,2,dD⟩=dy (ee (dy ⟨r.b,0,dD⟩) r.v.length r.v.length)/\Dt<W.heap.size/\W.cell? ⟨ab,af+j,dD⟩=dy (Z U (xn:aq))/\ab<W.heap.size/\W.cell? ⟨r.b,xn,dD⟩=dy (Z U p)/\r.b<W.heap.size):=λW J=>by
      rw[<-j2] at J;obtain⟨a1,a2,a3,a4,_⟩:=lT.out W J;have hs:=J.size;have rb:=(J.block r.b (ae l0.out)).trans l0.out;exact⟨a1,a2,a3,a4,by rw[J.cell (p:=⟨ab,af+j,dD⟩) n6];exact mb j _ hx,by omega,VB.cell rb ie,ae rb⟩
     have mc:=zH fm;have ij:=zH eW;have n8:=zH ii;clear j2 fm eW mb hx ie ii
     go_upto_region 23 with(fail)
     refine bL S6 (by kernel_rfl) ?_;refine yT 0 rfl C.out ?_;(try go_simp);refine yT 1 rfl C.out ?_;(try go_simp);refine yT 2 rfl C.out ?_;(try go_simp);refine yT 3 rfl C.out ?_;(try go_simp);refine yT 4 rfl C.out ?_;(try go_simp);refine yT 5 rfl C.out ?_;(try go_simp);refine yT 6 rfl C.out ?_;(try go_simp);refine yT 7 rfl C.out ?_;(try go_simp);refine yT 8 rfl C.out ?_;(try go_simp);refine yT 9 rfl C.out ?_;(try go_simp);refine yO 10 rfl λK' L=> ?_;go_simp;obtain⟨G,hG⟩:=zE wr.heap.size;obtain⟨W8,im⟩:=zE ((wr.alloc (el #[Z U p] 2)).drew);(try rw[hG]);(try rw[im]);have j5:bt wr.heap.size wr W8:=by rw[<-im];exact((ba _ _).alloc (bA _) _).drew
     have me:W8.heap[G]?=dy (el #[Z U p] 2 (0,0)):=by rw[<-im,<-hG];exact alloc_at _ _
     have gm:bt E.heap.size E W8:=ij.out.trans (j5.mono ij.out.size);have mf:S6 W8:=j4.out _ gm;refine L _ _ mf ?_;clear L;(try go_simp);refine yO 11 rfl λK' L=> ?_;have mg:=ownsRow_below mc.out j5;refine aH (.tmp 145) (.tmp 155) 85 rfl E.heap.size 2 i0 _ 1 8 underlying85 nT nV eA n0 rfl (by decide) (ee ao j cap) j ((AV.take j).map (dg .i64)) rfl mg (dy ⟨G,0,dD⟩) 1 1 [Z U p] rfl rfl (λh=>by cases h) (λad n9 q u hu=>by
      obtain rfl:(⟨G,0,dD⟩:Addr)=ad:=by simpa using n9
      rw[cf,ch,cE _ _ _ _ _ _ me];simpa using hu) (by simp[cP]) (by unfold maxLen;omega) (by omega) gm.size ?_
     intro v9 w9 mh mj oa;have ml:Ext (λq=>(ee ao j cap).ownBlock=dy q) W8 w9:=Ext.of_grown mj (λq hq=> .inl hq);have j6:bt E.heap.size E w9:=gm.trans (ml.below gm.size (λq hq=>(mc.out.lt q hq).1));have mm:S6 w9:=j4.out _ j6;refine L _ _ mm ?_;clear L;(try go_simp);refine yT 12 rfl C.out ?_;(try go_simp);refine⟨by kernel_rfl, ?_⟩;have ob:cU (w9.ownsRow E.heap.size 2 1 v9 (j+1) ((AV.take (j+1)).map (dg .i64))):=by
      unfold cU;rw[List.take_add_one,n8.out,Option.toList_some,List.map_append];exact mh
     have oc:=zH j6;clear mg mh mj oa ml gm j6 j5 me im mf mm n7 C;go_wp2;go_roundw
     case rel=>exact⟨j+1,by omega,by go_num,ob.out,oc.out⟩
     case measure=>simp[intOf];omega
    ·have od:j=i.args.length:=by omega
     subst od;rw[<-hZ.out,List.take_length] at fm;have pL:¬(i.args.length:aq)<(i.args.length:aq):=by omega
     have gd:aA wr ao AV:=λgn=>by
      have hp:0<AV.length:=by cases hz:AV with|nil=>exact cm hz gn|cons a l=>simp
      obtain⟨gx,cx,e,_,oe⟩:=fm.form hp;simp only[cz,true_and] at e;refine⟨gx,0,e.1,oe,λn z hz=> ?_⟩;have:=fm.cells (g:=gx) (by rw[e.1];rfl) n (Z U z) (by rw[cd,hz];rfl);rw[cf] at this;rw[ch] at this⊢;exact this
     have j7:=Jd wr (H5.out.grow eW) (hC.out.inn.below eW) lV.out (by omega) m6 (cap:=cap) gd (by rw[hZ.out];exact jt) (by simp;omega);rw[hZ.out] at j7;have oj:=zH j7;have ij:=zH eW;clear fm eW gd j7
     go_wp2_with (go_at_call 74;refine oj.out.mono ?_;rintro e W9 ⟨rfl,bk,mn⟩;have fL:=et.out.call ev.out X.out HI.out fk (g2:=g2) (by rw[gj.out,am];exact lV.out) (args:=AV) hZ.out (λn x hx=>by obtain⟨xn,p,ex,_,ie,ii⟩:=lS.out n x hx;rw[ex,am,ie,ii]) bk;rw[gj.out,am] at fL;have en:=zH (eE.out 4 cs _ wr W9 ij.out fL (λ_=>by simp) (by omega) (by simp) (mn.imp (λs' e=>by obtain⟨A,K,e⟩:=e;exact KP s s' A K e)));clear fL mn)
     go_ret;exact en.out
 by_cases gr:i.op=18
 ·as_aux_lemma=>
   have hJ:(i.op==16)=dT:=bD fi;have js:(i.op==17)=dT:=bD eJ;have lH:(i.op==15)=dT:=bD fk;have ol:(i.op==18)=dS:=by rw[gr];rfl
   have O:=dw ev.out X.out HI.out;obtain⟨_,_,q3,_,_⟩:=bK O;obtain⟨an,p,fN,jt,eS,_⟩:=et.out.val X.out (q3 i.a (by unfold readsOf;rw[gr];simp[oH]));have f3:E.frozen? ⟨R,3,dD⟩=dT:=bm _ _ _ _ _ (H5.out.x.run (by simp));have pN:K+1<=s.stK:=by
    have T:=H5.out.x.st (by simp);rw[show(pre++[({r with pc:=r.pc+1}:Fr)]).length=K+1 by rw[<-eq.out];simp] at T;rcases T.2 with⟨_,q⟩|⟨_,cap,_,e,_,_,q,_⟩
    ·omega
    ·simp only[cz,true_and] at e
     omega
   have gl:=H5.out.x.fr pre.length ⟨r.f,r.pc+1,r.v,r.b⟩ (Ba pre _) (by simp);have mp:¬r.b=R:=λe=>by
    have a:=H5.out.tr pre.length ⟨r.f,r.pc+1,r.v,r.b⟩ (Ba pre _);simp only at a;rw[e,H5.out.t1] at a;cases a
   obtain⟨eV,s6,I,e6,P,t6⟩:=H5.out.pop;subst e6;simp only at I P;have ms:E.setCell ⟨R,3,dD⟩ (ee s.stA pre.length s.stK)=E.setCell ⟨R,3,dD⟩ (ee (dy ⟨N,0,dD⟩) K s.stK):=by rw[ez.out,eq.out]
   obtain⟨Q,eK⟩:=zE (E.setCell ⟨R,3,dD⟩ (ee (dy ⟨N,0,dD⟩) K s.stK));rw[ms,eK] at I P;clear ms;have gw:Ext (·=R) E Q:=by rw[<-eK];exact Ext.set1 _ _ _ _
   have mu:¬D=R:=λe=>by have:=fy.out.1;rw[e,H5.out.t1] at this;cases this
   have mv:¬Dt=R:=λe=>by have:=fy.out.2;rw[e,H5.out.t1] at this;cases this
   have es:=gw.heap eN.out mu;have ep:=gw.heap ff.out mv;have eL:VB Q r.b r.v:=gw.heap gl mp;have pP:(K:aq)<=(s.stK:aq):=by omega
   have pS:K<=s.stK:=by omega
   have os:=zH eK;have j8:=hC.out.ext P (λk Y=>(H5.out.lo k Y).1);clear O q3 fh gl mp eK mu mv
   go_upto_region 27 with(fail)
   rw[os.out];have mw:=ae es;have mx:=ae ep;have my:=ae eL;have nw:(an:aq)<(r.v.length:aq):=by omega
   have T2:Q.cell? ⟨Dt,2,dD⟩=dy (ee (dy ⟨r.b,0,dD⟩) r.v.length r.v.length):=zR ep 2 _;have A2:Q.cell? ⟨D,2,dD⟩=dy (Z U (an:aq)):=by rw[<-fN];exact zR es 2 _
   have V2:Q.cell? ⟨r.b,an,dD⟩=dy (Z U p):=eL.cell eS;clear fg f3 i9
   by_cases gz:K=0
   ·have fR:pre=[]:=cj (by rw[eq.out];exact gz)
    have c5:Q.cell? ⟨R,5,dD⟩=dy (Z U s.code):=zR (I.x.run (by simp)) 5 _;have f5:Q.frozen? ⟨R,5,dD⟩=dT:=bm _ _ _ _ _ (I.x.run (by simp));have jx:=ae (I.x.run (by simp));have er:=I.nums (j:=5) (u:= Z U p) {s with steps:=s.steps+1,code:=p} rfl rfl;have en:=zH (eE.out 1 cs pre E _ (ba _ _) et.out.pop (λh=>cm h (by decide)) (by omega) (by simp;omega) (Bb.step P t6 (er.imp (λs' e=>Ki s s' p e))));have ot:((K:aq)==0)=dS:=by rw[gz];rfl
    have pT:(K:aq)=0:=by omega
    clear I P t6 er es ep eL gw j8 eS fN fR;subst gz;go_wp2;go_ret;exact en.out
   ·have gn:pre≠[]:=λe=>gz (by rw[<-eq.out,e];rfl)
    obtain⟨fS,c,rfl⟩:∃fS c,pre=fS++[c]:=⟨pre.dropLast,pre.getLast gn,(dv gn).symm⟩
    obtain⟨K1,j9⟩:=zE fS.length;have ov:K=K1+1:=by rw[<-eq.out,ca,j9];rfl
    obtain⟨gc,q,ic,u1,u2,u3,u4,ew⟩:=yC.ret ev.out et.out X.out HI.out gr (p:=p) (by rw[fN,am];exact eS);obtain⟨ox,z0,z1,_,z2,z3,z4⟩:=I.frameAt (k:=K1) (r:=c) (by rw[<-j9];exact Ba _ _);simp only at z0;rw[ez.out] at z0;obtain rfl:N=ox:=by simpa using z0
    have c3:Q.cell? ⟨R,3,dD⟩=dy (ee (dy ⟨N,0,dD⟩) (K1+1) s.stK):=by
     have a:=I.x.run (by simp);rw[show(fS++[c]).length=K1+1 by rw[<-j9];simp] at a;rw[<-ez.out];exact zR a 3 _
    have jx:=ae (I.x.run (by simp));have oy:=JD c (w:=Q);obtain⟨Dc,ip⟩:=zE Q.heap.size;obtain⟨X7,gA⟩:=zE (Q.alloc (el #[Z U (c.f:aq),Z U (c.pc:aq),ee (dy ⟨c.b,0,dD⟩) c.v.length c.v.length] 218));have eC:=iq gA;have gC:X7.heap[Dc]?=dy (el #[Z U (c.f:aq),Z U (c.pc:aq),ee (dy ⟨c.b,0,dD⟩) c.v.length c.v.length] 218 (0,0)):=by rw[<-gA,<-ip];exact alloc_at _ _
    rw[gA,ip] at oy;have ot:((K:aq)==0)=dT:=by simp;omega
    have w1:bs.wrap ((K:aq)-1)=(K1:aq):=by rw[bb];omega
    have w2:bs.wrap (((K1+1:bo):aq)-1)=(K1:aq):=by rw[bb];omega
    have w3:bs.wrap ((K1:aq)+1-1)=(K1:aq):=by rw[bb];omega
    have pZ:(K1:aq)<((K1+1:bo):aq):=by omega
    have p3:(K1:aq)<(K1:aq)+1:=by omega
    have h7:=I.grow eC;have ka:=j8.inn.below eC;obtain⟨ir,kb,mz,oA,mA⟩:=ka.frow (λe=>by rw[e] at u1;simp at u1);have mB:=ka.fin gc (ap u1);obtain⟨it,kc,mC,oB,mL⟩:=mB.code.row (λe=>by rw[e] at u3;simp at u3);have kd:=mA c.f gc u1 7 _ rfl;rw[mC] at kd;have p4:=(ag.1 u3).1;have p5:=(ag.1 u1).1;have p6:(c.f:aq)<(m.fs.length:aq):=by omega
    have p7:(q:aq)<(gc.c.ins.length:aq):=by omega
    have p8:=(jm ((dJ ev.out).2.2.2.2.1 gc (ap u1))).2.2.1;have w4:bs.wrap ((c.pc:aq)-1)=(q:aq):=by rw[bb];omega
    obtain⟨dn,ke⟩:∃dn:bo,ic.d=(dn:aq):=⟨ic.d.toNat,by have:=bU u4;omega⟩
    obtain⟨qe,v1,_,v3,_⟩:=et.out.pop.frame;rw[u1] at v1;obtain rfl:=ar v1;have oE:dn<c.v.length:=by have:=bU u4;omega
    have qk:(dn:aq)<(c.v.length:aq):=by omega
    obtain⟨yy,mN⟩:∃yy,c.v[dn]?=dy yy:=⟨_,ac oE⟩
    have iu:=h7.x.fr fS.length c (Ba _ _) (by simp);have E1:X7.drew.cell? ⟨c.b,dn,dD⟩=dy (Z U yy):=iu.cell mN;have E2:X7.drew.frozen? ⟨c.b,dn,dD⟩=dT:=bm _ _ _ _ _ (show X7.drew.heap[c.b]?=_ from iu);have er:=(h7.grow (ba _ _).drew).var (Ba fS c) dn p;rw[I9] at er;rw[ke,am] at ew;have en:=zH (eE.out 4 cs _ E _ (ba _ _) ew (λ_=>by simp) (by omega) (by simp) (Bb.step (P.trans (Ext.of_below_size (M:=λk=>eV k≠ .no) (eC.drew)) t6) t6 (Bb.step (Ext.refl _ _) (λ_ Y=> .inl Y) (er.imp (I5 s)))));have a0:X7.cell? ⟨Dc,0,dD⟩=dy (Z U (c.f:aq)):=zR gC 0 _;have a1:X7.cell? ⟨Dc,1,dD⟩=dy (Z U (c.pc:aq)):=zR gC 1 _;have a2:X7.cell? ⟨Dc,2,dD⟩=dy (ee (dy ⟨c.b,0,dD⟩) c.v.length c.v.length):=zR gC 2 _;have a3:X7.cell? ⟨R,1,dD⟩=dy (ee (dy ⟨ir,kb,dD⟩) m.fs.length m.fC):=by rw[<-mz];exact zR (h7.x.run (by simp)) 1 _
    have a5:X7.cell? ⟨it,kc+q*13+1,dD⟩=dy (Z U (dn:aq)):=by rw[<-ke];exact mL q ic u3 1 _ rfl
    have a6:X7.cell? ⟨Dt,2,dD⟩=dy (ee (dy ⟨r.b,0,dD⟩) r.v.length r.v.length):=by rw[eC.cell (p:=⟨Dt,2,dD⟩) mx];exact T2
    have a7:X7.cell? ⟨D,2,dD⟩=dy (Z U (an:aq)):=by rw[eC.cell (p:=⟨D,2,dD⟩) mw];exact A2
    have a8:X7.cell? ⟨r.b,an,dD⟩=dy (Z U p):=by rw[eC.cell (p:=⟨r.b,an,dD⟩) my];exact V2
    have l1:=ae gC;have l2:=ae (h7.x.run (by simp));have l3:Dt<X7.heap.size:=bh mx eC.size;have l4:D<X7.heap.size:=bh mw eC.size;have l5:r.b<X7.heap.size:=bh my eC.size;have l6:=ae iu;have oR:=zH gA;have oS:=zH ip;clear I P t6 h7 ka j8 mB iu er ew gC eC mz mC mA mL u1 u2 u3 u4 v3 mN es ep eL gw z0 gA ip eS fN ke gn gz;subst ov
    go_upto_region 31 with(fail)
    rw[oR.out,oS.out];obtain⟨S7,kf⟩:=zE ((λW=>W=X7.drew):World->Prop);have qn:S7 X7.drew:=by rw[<-kf]
    have C:cU (∀W,S7 W->W.cell? ⟨Dc,0,dD⟩=dy (Z U (c.f:aq))/\W.cell? ⟨Dc,1,dD⟩=dy (Z U (c.pc:aq))/\W.cell? ⟨Dc,2,dD⟩=dy (ee (dy ⟨c.b,0,dD⟩) c.v.length c.v.length)/\W.cell? ⟨R,1,dD⟩=dy (ee (dy ⟨ir,kb,dD⟩) m.fs.length m.fC)/\W.cell? ⟨ir,kb+c.f*8+7,dD⟩=dy (ee (dy ⟨it,kc,dD⟩) gc.c.ins.length gc.c.insC)/\W.cell? ⟨it,kc+q*13+1,dD⟩=dy (Z U (dn:aq))/\W.cell? ⟨Dt,2,dD⟩=dy (ee (dy ⟨r.b,0,dD⟩) r.v.length r.v.length)/\W.cell? ⟨D,2,dD⟩=dy (Z U (an:aq))/\W.cell? ⟨r.b,an,dD⟩=dy (Z U p)/\Dc<W.heap.size/\R<W.heap.size/\Dt<W.heap.size/\D<W.heap.size/\r.b<W.heap.size/\c.b<W.heap.size/\ir<W.heap.size/\it<W.heap.size):=λW J=>by
     rw[<-kf] at J;subst J;exact⟨a0,a1,a2,a3,kd,a5,a6,a7,a8,l1,l2,l3,l4,l5,l6,oA,oB⟩
    clear kf a0 a1 a2 a3 kd a5 a6 a7 a8 T2 A2 V2 z2 z3 z4 c3;refine ak 25 S7 (by kernel_rfl) ?_;refine zT 0 rfl C.out ?_;(try go_simp);refine zT 1 rfl C.out ?_;(try go_simp);refine zT 2 rfl C.out ?_;(try go_simp);refine zT 3 rfl C.out ?_;(try go_simp);refine zT 4 rfl C.out ?_;(try go_simp);refine zT 5 rfl C.out ?_;(try go_simp);refine zT 6 rfl C.out ?_;(try go_simp);refine zT 7 rfl C.out ?_;(try go_simp);refine zT 8 rfl C.out ?_;(try go_simp);refine zT 9 rfl C.out ?_;(try go_simp);refine zT 10 rfl C.out ?_;(try go_simp);refine zT 11 rfl C.out ?_;(try go_simp);refine zT 12 rfl C.out ?_;(try go_simp);refine zT 13 rfl C.out ?_;(try go_simp);refine zT 14 rfl C.out ?_;(try go_simp);refine zT 15 rfl C.out ?_;(try go_simp);refine zT 16 rfl C.out ?_;(try go_simp);refine zT 17 rfl C.out ?_;(try go_simp);refine zT 18 rfl C.out ?_;(try go_simp);refine zT 19 rfl C.out ?_;(try go_simp);refine zT 20 rfl C.out ?_;(try go_simp);refine zT 21 rfl C.out ?_;(try go_simp);refine zT 22 rfl C.out ?_;(try go_simp);refine zT 23 rfl C.out ?_;(try go_simp);refine zT 24 rfl C.out ?_;(try go_simp);refine zK rfl λK' L=> ?_;go_simp;(try simp only[E1,E2]);(try go_simp);refine L _ _ ?_;clear L;refine⟨by kernel_rfl, ?_⟩;go_wp2;go_ret;have gj:=en.out;rw[List.append_assoc,List.singleton_append] at gj;exact gj
 have O:=dw ev.out X.out HI.out;obtain⟨o1,o2,_,_,_⟩:=bK O;have mS:i.op<15:=by omega
 as_aux_lemma=>
   have hJ:(i.op==16)=dT:=bD fi;have js:(i.op==17)=dT:=bD eJ;have lH:(i.op==15)=dT:=bD fk;have ol:(i.op==18)=dT:=bD gr;have HP:cU (Calls aw 121 #[eg (dy ⟨R,0,dD⟩),ei i.cells,ee (dy ⟨r.b,0,dD⟩) r.v.length r.v.length] E (o8 R H m B eM {s with steps:=s.steps+1} cs (pre++[⟨r.f,r.pc+1,r.v,r.b⟩]) bd E pre.length ⟨r.f,r.pc+1,r.v,r.b⟩ i)):=
    JC E H5.out hC.out ev.out et.out rfl X.out HI.out mS m5 (by omega) (show s.no<=100000 by omega) m7 (show s.asked<=100000 by omega)
   have kh:E.cell? ⟨R,2,dD⟩=dy (eg (dy ⟨H,0,dD⟩)):=zR (H5.out.x.run (by simp)) 2 _;have fW:E.cell? ⟨H,0,dD⟩=dy (ee s.ceA cs.length s.ceK):=zR (H5.out.x.hp (by simp)) 0 _;have ki:=ae (H5.out.x.hp (by simp));have oT:E.cell? ⟨Dt,2,dD⟩=dy (ee (dy ⟨r.b,0,dD⟩) r.v.length r.v.length):=zR ff.out 2 _;have kj:=ae ff.out;have oX:cU (∀j u,i.cells.toList[j]?=dy u->E.cell? ((⟨D,0,dD⟩:Addr).add j)=dy u):=λj u hu=>by rw[cf,ch,cE _ _ _ _ _ _ eN.out];simpa using hu
   clear O o1 o2 fk fi eJ gr fh fg
   go_wp2_with (refine aG rfl 42 _ rfl ⟨D,0,dD⟩ rfl i.cells _ oX.out cn rfl (by kernel_rfl) ?_)
   go_at_call 121;refine HP.out.mono ?_;rintro e W6 ⟨b,v',cs',rfl,i3,ix,eV,s6,I,e6,P,t6⟩;rw[I9] at I;have kl:=Pl.inv (r:=r) (v':=v') (cs':=cs') i3 ev.out et.out X.out HI.out mS (by omega);have es:=P.heap eN.out (λq=>q fy.out.1);have ep:=P.heap ff.out (λq=>q fy.out.2);clear kh fW oT kj ki i3;have km:=KE s s6 e6;cases b with
   |false=>
    have iz:=ix rfl;have eA:yC m cs' (pre++[⟨r.f,r.pc+1,v',r.b⟩]):=by
     rcases kl with⟨_,q⟩|⟨c,_,q,_⟩
     ·exact q
     ·rw[q,ca,cb] at iz;omega
    have en:=zH (eE.out 2 cs' _ E W6 (ba _ _) eA (λh=>cm h (by decide)) (by omega) (by simp) ⟨eV,s6,I,km,P,t6⟩);clear I P t6 kl eA ix es ep;go_wp2;go_ret;exact en.out
   |true=>
    have kh:W6.cell? ⟨R,2,dD⟩=dy (eg (dy ⟨H,0,dD⟩)):=zR (I.x.run (by simp)) 2 _;have fW:W6.cell? ⟨H,0,dD⟩=dy (ee s6.ceA cs'.length s6.ceK):=zR (I.x.hp (by simp)) 0 _;have ki:=ae (I.x.hp (by simp));have oY:=ae (I.x.run (by simp));rcases kl with⟨iz,eA⟩|⟨c,qq,rfl,eA⟩
    ·have t0:decide ((cs.length:aq)<(cs'.length:aq))=dT:=cG (by omega)
     have en:=zH (eE.out 4 cs' _ E W6 (ba _ _) eA (λ_=>by simp) (by omega) (by simp) ⟨eV,s6,I,km,P,t6⟩);rw[iz] at fW;clear I P t6 eA ix es ep iz t0;go_wp2;go_ret;exact en.out
    ·rw[show(cs++[c]).length=cs.length+1 by simp] at fW
     have t0:(cs.length:aq)<((cs.length+1:bo):aq):=by omega
     obtain⟨fX,kn,o0,mT,_,_,y2,y3⟩:=I.cellAt (k:=cs.length) (c:=c) (by rw[aE (bA _),bR];rfl);rw[kn] at fW;have o3:∀k,W6.frozen? ⟨fX,k,dD⟩=dT:=λk=>by
      have T:=I.x.ce (by simp);rw[kn] at T;exact T.frozenAt _
     have qr:∀k,W6.drew.frozen? ⟨fX,k,dD⟩=dT:=λk=>by
      have T:=I.x.ce (by simp);rw[kn] at T;exact T.frozenAt _
     go_upto_region 11 with(fail)
     have T0:W6.drew.cell? ⟨Dt,0,dD⟩=dy (Z U (r.f:aq)):=zR (show W6.drew.heap[Dt]?=_ from ep) 0 _;have T1:W6.drew.cell? ⟨Dt,1,dD⟩=dy (Z U (r.pc:aq)):=zR (show W6.drew.heap[Dt]?=_ from ep) 1 _;have kj:=ae ep;have qs:W6.drew.cell? ⟨fX,cs.length*4+2,dD⟩=dy (Z U c.st.1):=y2;have qt:W6.drew.cell? ⟨fX,cs.length*4+3,dD⟩=dy (Z U c.st.2):=y3;obtain⟨S5,kp⟩:=zE ((λW=>W=W6.drew):World->Prop);have qu:S5 W6.drew:=by rw[<-kp]
     have C:cU (∀W,S5 W->W.cell? ⟨R,2,dD⟩=dy (eg (dy ⟨H,0,dD⟩))/\W.cell? ⟨H,0,dD⟩=dy (ee (dy ⟨fX,0,dD⟩) (cs.length+1) s6.ceK)/\W.cell? ⟨Dt,0,dD⟩=dy (Z U (r.f:aq))/\W.cell? ⟨Dt,1,dD⟩=dy (Z U (r.pc:aq))/\R<W.heap.size/\H<W.heap.size/\Dt<W.heap.size/\fX<W.heap.size):=λW J=>by
      rw[<-kp] at J;subst J;exact⟨kh,fW,T0,T1,oY,ki,kj,o0⟩
     clear kp;refine ak 15 S5 (by kernel_rfl) ?_;refine zT 0 rfl C.out ?_;(try go_simp);refine zT 1 rfl C.out ?_;(try go_simp);refine zT 2 rfl C.out ?_;(try go_simp);refine zT 3 rfl C.out ?_;(try go_simp);refine zT 4 rfl C.out ?_;(try go_simp);refine zT 5 rfl C.out ?_;(try go_simp);refine zT 6 rfl C.out ?_;(try go_simp);refine zT 7 rfl C.out ?_;(try go_simp);refine zT 8 rfl C.out ?_;(try go_simp);refine zT 9 rfl C.out ?_;(try go_simp);refine zT 10 rfl C.out ?_;(try go_simp);refine zT 11 rfl C.out ?_;(try go_simp);refine zT 12 rfl C.out ?_;(try go_simp);refine zT 13 rfl C.out ?_;(try go_simp);refine zT 14 rfl C.out ?_;(try go_simp);refine zK rfl λK' L=> ?_;go_simp;(try simp only[o3]);(try go_simp);obtain⟨qv,s7,h7,e7,x7,t7⟩:=(I.grow (ba _ _).drew).cel (d:=cs.length) (c:=c) (c':={c with st:=((r.f:aq),c.st.2)}) (by rw[aE (bA _),bR];rfl) mT (j:=2) (u:= Z U (r.f:aq)) (by omega) rfl rfl rfl;have m0:∀y:Cl,(cs++[c]).set cs.length y=cs++[y]:=λy=>by rw[cw _ _ (bA _),bR,cF]
     rw[m0] at h7;subst e7;obtain⟨o4,s8,h8,e8,x8,t8⟩:=h7.cel (d:=cs.length) (c:={c with st:=((r.f:aq),c.st.2)}) (c':={c with st:=((r.f:aq),(r.pc:aq))}) (by rw[aE (bA _),bR];rfl) mT (j:=3) (u:= Z U (r.pc:aq)) (by omega) rfl rfl rfl;have m3:∀x y:Cl,(cs++[x]).set cs.length y=cs++[y]:=λx y=>by rw[cw _ _ (bA _),bR,cF]
     rw[m3] at h8;subst e8;have m4:Ext (λk=>eM k≠ .no) E W6.drew:=P.trans (Ext.of_below_size (M:=λk=>eV k≠ .no) (ba _ _).drew) t6;have en:=zH (eE.out 4 _ _ E _ (ba _ _) eA (λ_=>by simp) (by simp) (by simp) (Bb.step m4 t6 (Bb.step x7 t7 ⟨o4,_,h8,km,x8,t8⟩)));refine L _ _ ?_;clear L;refine⟨by kernel_rfl, ?_⟩;clear I P t6 eA h7 x7 t7 h8 x8 t8 m4 m0 m3 es ep ix;go_wp2;go_ret;exact en.out
end
end Go.Proofs.YtjomgckjhcfbgaaGreat
