/- Walks. -/
import Derived.Deep.WholeRow
import Derived.Test.YtjomgckjhcfbgaaGreatV5
set_option maxRecDepth 100000
set_option maxHeartbeats 64000000
set_option linter.all false
namespace Go.Proofs.YtjomgckjhcfbgaaGreat
open Go.RowKit
open Go.Proofs.Tryz renaming prog→ac,underlying35→ft,underlying25→i5,underlying113→la,underlying223→ms
open Go.RowKit.Below renaming refl→an,heap_alloc→bt
open _root_ renaming ByteArray→ap,List→bh,Nat→bw,Int→ct,if_neg→cy,Array→cC,if_pos→cQ,Option→dr,decide_eq_false→er,False→fW,absurd→gC
open Go renaming heap_setCell_same→aq,Value→bo,run_storeCells_new→cf,cell_of_row→ci,storeCells→cM,bodyPost_ret→cP,maxLen→cX,Calls→et,heap_alloc2_old→eA,TypeId→eJ,heap_alloc2_new→gx,info_parts→iu
open Go.RowKit renaming Below→bj,Hid→cr
open _root_.Nat renaming le_refl→bl,lt_of_lt_of_le→cg,le_trans→cv,zero_add→cJ,zero_le→da,add_zero→ix
open Go.Value renaming oneCell'→bp,string→dj,int→dv,ownBlock→eL,string→oe,slice→ot,pointer→ox,bool→oy,agg→oA,int→Z
open _root_.List renaming getElem?_eq_getElem→ce,length_append→cm,mem_of_getElem?→cA,flatMap_cons→cY,length_map→dd,mem_map→eh,map_append→em,drop_eq_getElem_cons→ep,length_singleton→eE,all_eq_true→gS,append_nil→ki,map_cons→kj,getElem?_map→kO
open Go.Exit renaming inBlock→cD
open Go.Addr renaming add_lit→cI
open _root_.Option.some renaming inj→cN,injEq→fa
open Go.Value.slice renaming injEq→ez
open _root_.Option renaming map_eq_some_iff→fS,some→oa,none→ob
open _root_.Prod.mk renaming injEq→lR
open _root_.List.cons renaming injEq→nx
open Go.Addr.mk renaming injEq→nF
open _root_.Bool renaming true→oc,false→od
open Go.Obj renaming cells→oB
open Go.Ending renaming returned→oE
open Go.IntKind renaming i64→U
open Tryz
theorem xq:(ac.info? 9).map (λi=>(i.zero,i.size,i.bytes))=oa (oa (oe ⟨#[]⟩),1,16):=by kernel_rfl
theorem gP {α:Type}(f:α->bo)(S:bh α):(S.map f).length=S.length*1:=by simp
theorem eX {α:Type}{f:α->bo}{w:World}{B:bw}{d:dr Addr}{S:bh α}(h:aC (λx=>#[f x]) 1 w B d S):∀b,d=oa b->∀j u,(S.map f)[j]?=oa u->w.cell? (b.add j)=oa u:=by
 intro b hb j u g;rw[kO] at g;obtain⟨x,a,rfl⟩:=fS.1 g;obtain⟨v,y,o,_,q⟩:=h (by intro e;rw[e] at a;simp at a);rw[hb] at o;obtain rfl:=cN o;have:=q j x a 0 _ rfl;rw[ix,Nat.mul_one] at this;rw[cI];exact this
theorem qg {α:Type}{f:α->bo}{w:World}{base n:bw}{e:eJ}{v:bo}{S:bh α}(d:w.ownsRow base e 1 v n (S.map f))(g:n=S.length){b:dr Addr}{c:bw}(h:v= ot b n c):aC (λx=>#[f x]) 1 w w.heap.size b S:=by
 subst h;refine bV (cells:=λx=>#[f x]) (m:=1) (λ_=>rfl) (base:=base) (e:=e) (n:=n) (c:=c) ?_ g;have:∀S:bh α,(S.flatMap λx=>(#[f x]:cC bo).toList)=S.map f:=λS=>by
  induction S with
  |nil=>rfl
  |cons a S ih=>rw[cY,ih];rfl
 rw[this];exact d
def BJ (p:Pg)(X:Fx)(s:Sl)(a b:bw)(d f:bo):cC bo:=
 #[ot (oa ⟨p.pA,0,ob⟩) 1 p.pC,ot (oa ⟨p.qA,0,ob⟩) 1 p.qC,oy X.rt.1,oe X.rt.2,oe X.nm,X.pr,ot s.vA a s.vC,X.r7,X.r8,X.r9,X.fr,ot s.iA b s.iC,d,f,Z U 0,Z U 0,Z U 0,Z U 0,X.hs,X.os]
theorem jW {m:bw}{p:Pg}{L:bw}{X:Fx}{V2:bh Ty}{I2:bh dF}{S:bh (ap×bw)}{O O5:bw->Prop}{j:Sl}{w W1 u f w8 g:World}{J:ap}{v:bw}{y o:dr Addr}{K A:bw}
  (oS:bj w.heap.size w W1)(pd:Ext (λq=>q=m\/O q) W1 u)(pf:∀k,O5 k->O k\/W1.heap.size<=k)(b:Mk m p L X V2 I2 S O5 j u)(oT:Ext (·=m) u f)
  (oX:f.heap[m]?=oa (oB (BJ p X j V2.length I2.length (ot y (S.length+1) K) (ot j.wA S.length j.wC)) 236 (0,0)))
  (N:f.ownsRow u.heap.size 9 1 (ot y (S.length+1) K) (S.length+1) ((S++[(J,v)]).map λx:ap×bw=>dj x.1))
  (oY:bj f.heap.size f g)(h8:f.heap.size<=w8.heap.size)
  (R:g.ownsRow w8.heap.size 3 1 (ot o (S.length+1) A) (S.length+1) ((S++[(J,v)]).map λx:ap×bw=>dv .i64 (x.2:ct)))(pm:S.length+1<=1000):
  bB m p L X V2 I2 (S++[(J,v)]) O w (g.setCell ⟨m,13,ob⟩ (ot o (S.length+1) A)):=by
 obtain⟨Y,oR⟩:=zE (g.setCell ⟨m,13,ob⟩ (ot o (S.length+1) A));rw[oR];have pn:=aa b.row;have ph:=aa oX;have po:=oT.size;have pi:=(oY.block m ph).trans oX;have pb:Ext (·=m) g Y:=by rw[<-oR];exact Ext.set1 g m 13 _
 have pj:Y.heap[m]?=oa (oB (zz p X {j with sA:=y,sC:=K,wA:=o,wC:=A} V2.length I2.length (S.length+1)) 236 (0,0)):=by rw[<-oR];exact aq g m 13 _ _ _ pi
 have pc:Ext (·=m) f Y:=(Ext.of_below_size (M:=(·=m)) oY).trans pb (λq h=> .inl h);have D:Ext (·=m) u Y:=oT.trans pc (λq h=> .inl h);have G:(S++[(J,v)]).length=S.length+1:=by simp
 have pk:=af N pc (λk d e=>by have:=(ah N d).1;omega);have pl:=af R pb (λk d e=>by have:=(ah R d).1;omega);refine⟨O5,{j with sA:=y,sC:=K,wA:=o,wC:=A},⟨by rw[G];exact pj,b.pg.ext D (λk d e=>by have:=b.hm;omega),b.hm,af b.vars D (λk d e=>by have:=(ah b.vars d).1;omega),af b.ins D (λk d e=>by have:=(ah b.ins d).1;omega),b.dis,b.ov,b.oi,λk d=>⟨(b.ol k d).1,cg (b.ol k d).2 D.size⟩,qg pk G.symm rfl,qg pl G.symm rfl,λa _ e=> ?_,b.lV,b.lI,by rw[G];omega,by rw[G];exact⟨rz N,rz R⟩⟩, ?_,λk d=> ?_⟩
 ·rcases e with e|e
  ·have h1:=(ah N (k:=a.block) (by rw[show y=oa a from e];rfl)).1
   exact⟨by omega,λh=>by have:=(b.ol _ h).2;omega⟩
  ·have h1:=(ah R (k:=a.block) (by rw[show o=oa a from e];rfl)).1
   exact⟨by omega,λh=>by have:=(b.ol _ h).2;omega⟩
 ·exact((Ext.of_below_size (M:=λq=>q=m\/O q) oS).trans pd (λq h=> .inl h)).trans D (λq h=> .inl (.inl h))
 ·rcases pf k d with h|h
  ·exact .inl h
  ·have:=oS.size;exact .inr (by omega)
theorem tC {m:bw}{p:Pg}{L:bw}{X:Fx}{V:bh Ty}{I:bh dF}{S:bh (ap×bw)}{O:bw->Prop}{s:Sl}(sq:X.os= ot ob 0 0)(y:Ty)(nm:ap)(g cp:bw)(ex:Ex)(hg:g<L/\∀(j:bw)(u:bo),ex.cells.toList[j]?=oa u->∀W,fK p L W->W.cell? ⟨g,j,ob⟩=oa u)(d:ct)(V2:bh Ty)(I2:bh dF)(te:V.length+1<=1000)(rm:S.length+1<=1000)
  (sr:∀W O s,Mk m p L X (V++[y]) I S O s W->et ac 217 #[ox (oa ⟨m,0,ob⟩),oA ex.cells,oA #[oy y.1,oe y.2],Z U (V.length:ct)] W λe w'=>e= oE (Z U d)/\bB m p L X V2 I2 S O W w')(ln cl:ct)(w:World)(h:Mk m p L X V I S O s w):
  et ac 180 #[ox (oa ⟨m,0,ob⟩),oA #[Z U 1,oy y.1,oe y.2,oe nm,ot (oa ⟨g,0,ob⟩) 1 cp,ot ob 0 0,ot ob 0 0,Z U ln,Z U cl]] w λe w'=>e= oE (.tuple #[])/\bB m p L X V2 I2 (S++[(nm,V.length)]) O w w':=by
 obtain⟨N,hN⟩:=zE w.heap.size;obtain⟨W1,rn⟩:=zE (w.alloc (oB #[Z U 1,oy y.1,oe y.2,oe nm,ot (oa ⟨g,0,ob⟩) 1 cp,ot ob 0 0,ot ob 0 0,Z U ln,Z U cl] 282));have rN:=gq rn hN;have ro:W1.heap[N]?=oa (oB #[Z U 1,oy y.1,oe y.2,oe nm,ot (oa ⟨g,0,ob⟩) 1 cp,ot ob 0 0,ot ob 0 0,Z U ln,Z U cl] 282 (0,0)):=by rw[<-rn,<-hN];exact alloc_at _ _
 have tv:=aa ro;have h1:Mk m p L X V I S O s W1:=h.grow (by rw[hN];exact rN);have sx:bj w.heap.size w W1:=by rw[hN];exact rN
 have tz:=aa h1.row;have tA:m<N:=by have:=aa h.row;omega
 have sy:¬(N=m\/O N):=by rintro(h1|h1);omega;have:=(h.ol N h1).2;omega
 have tf:W1.cell? ⟨m,15,ob⟩=oa (Z U 0):=(rowAt h1.row 15 rfl).1;have th:W1.cell? ⟨m,19,ob⟩=oa (ot ob 0 0):=by rw[<-sq];exact(rowAt h1.row 19 rfl).1
 obtain⟨⟨a0,a1,a2,a3,a4,a5,a6,a7,a8⟩,_,_⟩:=dA ro;have ti:=zH rn;have rr:=zH sx;have sB:=zH ro;have sE:=zH sy;have tB:=zH hN;have tj:=zH (jr y W1 h1 te);have tl:=zH sr;have HG:=zH hg;clear h h1 rn rN ro sx sy sq sr hg;go_enter func180,ntmps180
 go_upto_region 1 with(fail)
 rw[ti.out]
 go_upto_region 6 with(go_at_call 131;refine tj.out.mono ?_;rintro e w4 ⟨rfl,rv⟩;have tm:=zH rv;clear rv)
 obtain⟨O4,s4,k4,x4,o4⟩:=tm.out;have rS:=x4.heap sB.out sE.out;have sL:=aa rS;have rv:=aa k4.row;clear a0 a1 a2 a3 a4 a5 a6 a7 a8 tf th;obtain⟨S1,se⟩:=zE ((λw'=>bj w4.heap.size w4 w'):World->Prop);have rx:S1 w4.drew:=by rw[<-se];exact(an _ _).drew
 have sR:∀W,S1 W->W.cell? ⟨N,1,ob⟩=oa (oy y.1)/\W.cell? ⟨N,2,ob⟩=oa (oe y.2)/\W.cell? ⟨N,4,ob⟩=oa (ot (oa ⟨g,0,ob⟩) 1 cp)/\W.cell? ⟨g,0,ob⟩=oa (Z U ex.kind)/\W.cell? ⟨g,1,ob⟩=oa (Z U ex.n)/\W.cell? ⟨g,2,ob⟩=oa (oe ex.nm)/\W.cell? ⟨g,3,ob⟩=oa (oe ⟨#[]⟩)/\W.cell? ⟨g,4,ob⟩=oa (ot ob 0 0)/\W.cell? ⟨g,5,ob⟩=oa (Z U ex.ln)/\W.cell? ⟨g,6,ob⟩=oa (Z U ex.cl):=λW R=>by
  rw[<-se] at R;have r1:=(R.block N sL).trans rS;have kk:=(k4.grow R).pg;exact⟨(rowAt r1 1 rfl).1,(rowAt r1 2 rfl).1,(rowAt r1 4 rfl).1,HG.out.2 0 _ rfl W kk,HG.out.2 1 _ rfl W kk,HG.out.2 2 _ rfl W kk,HG.out.2 3 _ rfl W kk,HG.out.2 4 _ rfl W kk,HG.out.2 5 _ rfl W kk,HG.out.2 6 _ rfl W kk⟩
 have pN:=zH sR;have sT:Mk m p L X (V++[y]) I S O4 s4 w4.drew:=k4.grow (an _ _).drew;have hV:=tl.out w4.drew O4 s4 sT;unfold Ex.cells at hV;have HV:=zH hV;clear se sR hV;refine ai 8 S1 (by kernel_rfl) ?_;refine zT 0 rfl pN.out ?_;(try go_simp);refine zT 1 rfl pN.out ?_;(try go_simp);refine zT 2 rfl pN.out ?_;(try go_simp);refine zT 3 rfl pN.out ?_;(try go_simp);refine zT 4 rfl pN.out ?_;(try go_simp);refine zT 5 rfl pN.out ?_;(try go_simp);refine zT 6 rfl pN.out ?_;(try go_simp);refine zT 7 rfl pN.out ?_;(try go_simp);refine zK rfl λK' v=> ?_;go_simp;go_at_call 217;refine HV.out.mono ?_;rintro e w5 ⟨rfl,O5,s5,k5,x5,o5⟩;refine v _ _ ?_;clear v;refine⟨by kernel_rfl, ?_⟩;have sf:Ext (λq=>q=m\/O q) W1 w5:=x4.trans (((Ext.refl _ _).drew).trans x5 (λq h=> .inl h)) (λq hq=>by
  rcases hq with h|h
  ·exact .inl (.inl h)
  ·rcases o4 q h with h|h
   ·exact .inl (.inr h)
   ·exact .inr h)
 have qT:=sf.heap sB.out sE.out;have rB:=aa qT;have sX:=aa k5.row;have sY:∀k,O5 k->O k\/W1.heap.size<=k:=λk hk=>by
  rcases o5 k hk with h|h
  ·exact o4 k h
  ·have:=x4.size;exact .inr (cv this h)
 obtain⟨i0,pp,pw,px,py⟩:=iu xq;have ta:=k5.cS.1;have tc:(S.length:ct)<=(s5.sC:ct):=by omega
 have pc:=zH k5;have tD:=zH qT;have rI:=zH sf;have rK:=zH sY;clear k4 x4 o4 rS sL rv rx sT x5 o5 sf sY
 go_upto_region 7 with(fail)
 obtain⟨S7,ra⟩:=zE ((λw'=>bj w5.heap.size w5 w'):World->Prop);have rx:S7 w5.drew:=by rw[<-ra];exact(an _ _).drew
 have pP:∀W,S7 W->bj w5.heap.size w5 W:=λW R=>by rw[<-ra] at R;exact R
 have rL:∀W,bj w5.heap.size w5 W->S7 W:=λW R=>by rw[<-ra];exact R
 rcases hA:s5.sA with _|⟨b,sg,fp⟩
 ·have rb:∀W,S7 W->W.cell? ⟨m,12,ob⟩=oa (ot ob S.length s5.sC)/\W.cell? ⟨N,3,ob⟩=oa (oe nm):=λW R=>by
   have r1:=((pP W R).block N rB).trans qT;have r2:=(k5.grow (pP W R)).row;exact⟨by rw[<-hA];exact(rowAt r2 12 rfl).1,(rowAt r1 3 rfl).1⟩
  have D:=zH rb;have tn:=zH pP;have rc:=zH rL;clear rb pP rL ra qT k5;refine ai 22 S7 (by kernel_rfl) ?_;refine zT 0 rfl D.out ?_;(try go_simp);refine zT 1 rfl D.out ?_;(try go_simp);refine zT 2 rfl D.out ?_;(try go_simp);refine zT 3 rfl D.out ?_;(try go_simp);refine zT 4 rfl D.out ?_;(try go_simp);refine zT 5 rfl D.out ?_;(try go_simp);refine zT 6 rfl D.out ?_;(try go_simp);refine zT 7 rfl D.out ?_;(try go_simp);refine zT 8 rfl D.out ?_;(try go_simp);refine zT 9 rfl D.out ?_;(try go_simp);refine zT 10 rfl D.out ?_;(try go_simp);refine zT 11 rfl D.out ?_;(try go_simp);refine zT 12 rfl D.out ?_;(try go_simp);refine zT 13 rfl D.out ?_;(try go_simp);refine zT 14 rfl D.out ?_;(try go_simp);refine zT 15 rfl D.out ?_;(try go_simp);refine zT 16 rfl D.out ?_;(try go_simp);refine zT 17 rfl D.out ?_;(try go_simp);refine zO 18 rfl λK' v=> ?_;go_simp;obtain⟨G,hG⟩:=zE w5.heap.size;obtain⟨J,Y⟩:=zE ((w5.alloc (oB #[oe nm] 9)).drew);(try rw[hG]);(try rw[Y]);have K:bj w5.heap.size w5 J:=by rw[<-Y];exact((an _ _).alloc (bl _) _).drew
  have pd:J.heap[G]?=oa (oB #[oe nm] 9 (0,0)):=by rw[<-Y,<-hG];exact alloc_at _ _
  have oY:S7 J:=rc.out _ K;refine v _ _ oY ?_;clear v;(try go_simp);refine zO 19 rfl λK' v=> ?_;have pb:aC (λx:ap×bw=>#[oe x.1]) 1 J J.heap.size ob S:=by rw[<-hA];exact(pc.out.grow K).seen
  have pS:cr (S.length=0):=by
   by_cases h:S=[]
   ·unfold cr;rw[h];rfl
   ·obtain⟨_,_,h1,_⟩:=pb h;cases h1
  have pf:=eX (f:=λx:ap×bw=>dj x.1) pb;refine aY (.tmp 54) (.tmp 57) 223 rfl 9 i0 _ 1 16 ms pp pw px py rfl (by decide) ob S.length S.length (S.map λx:ap×bw=>dj x.1) rfl (λ_=>⟨pS.out,pS.out⟩) (gP _ _) pf ⟨G,0,ob⟩ 1 1 [oe nm] rfl rfl (λjj uu hu=>by rw[cI,cJ,ci _ _ _ _ _ _ pd];simpa using hu) (by simp[bp]) (by omega) (by unfold cX;omega) (by omega) ?_;intro v9 w9 oT ph;have pi:Ext (λ_=>fW) J w9:=Ext.of_grown ph (λq hq=>by cases hq);have oR:bj w5.heap.size w5 w9:=K.trans (pi.below K.size (λq h=>h.elim));have oX:S7 w9:=rc.out _ oR;obtain⟨pT,c9,pl⟩:=au oT;subst pl;refine v _ _ oX ?_;clear v;(try go_simp);refine zT 20 rfl D.out ?_;(try go_simp);refine zT 21 rfl D.out ?_;(try go_simp);have pZ:=pc.out.grow oR;have qe:=(rowAt pZ.row 12 rfl).2;obtain⟨x0,x1⟩:=D.out w9 oX;refine zK rfl λK' v=> ?_;go_simp;refine v _ _ ?_;clear v;refine⟨by kernel_rfl, ?_⟩;obtain⟨A,pB⟩:=zE (w9.setCell ⟨m,12,ob⟩ (ot pT (S.length+1) c9));(try rw[pB]);have qk:Ext (·=m) w9 A:=by rw[<-pB];exact Ext.set1 w9 m 12 _
  have qn:A.heap[m]?=oa (oB (BJ p X s5 V2.length I2.length (ot pT (S.length+1) c9) (ot s5.wA S.length s5.wC)) 236 (0,0)):=by rw[<-pB];exact aq w9 m 12 _ _ _ pZ.row
  have sk:m<J.heap.size:=by have:=K.size;omega
  have re:A.ownsRow w5.heap.size 9 1 (ot pT (S.length+1) c9) (S.length+1) ((S++[(nm,V.length)]).map λx:ap×bw=>dj x.1):=by
   rw[em];exact aD (af oT qk (λk hk e=>by have:=(ah oT hk).1;omega)) K.size
  have qq:Ext (·=m) w5 A:=(Ext.of_below_size (M:=(·=m)) oR).trans qk (λq h=> .inl h);have rh:aC (λx:ap×bw=>#[Z U (x.2:ct)]) 1 A A.heap.size s5.wA S:=pc.out.whic.stay qq (λa sn e=>(pc.out.ns a sn (.inr e)).1);have pD:=aa qn;have rj:=zH qq;have pj:=zH qn;have rk:=zH re;have rl:=zH rh;have tp:=pc.out.cS.2;have tr:(S.length:ct)<=(s5.wC:ct):=by omega
  clear qk qn sk re qq rh pB pZ qe x0 x1 oT ph pi oR oX pf pb pd K Y oY hG sX rB rx i0 pp pw px py ta tc;obtain⟨i0,pp,pw,px,py⟩:=iu jL
  go_upto_region 8 with(fail)
  obtain⟨S8,oY⟩:=zE ((λw'=>bj A.heap.size A w'):World->Prop);have tt:S8 A.drew:=by rw[<-oY];exact(an _ _).drew
  have pk:∀W,S8 W->bj A.heap.size A W:=λW R=>by rw[<-oY] at R;exact R
  have pH:∀W,bj A.heap.size A W->S8 W:=λW R=>by rw[<-oY];exact R
  rcases pL:s5.wA with _|⟨b2,qr,qs⟩
  ·have pm:∀W,S8 W->W.cell? ⟨m,13,ob⟩=oa (ot ob S.length s5.wC):=λW R=>by
    rw[<-pL];exact(rowAt (((pk W R).block m pD).trans pj.out) 13 rfl).1
   have o:=zH pm;have pn:=zH pH;have so:=zH pk;clear pm pH pk oY;refine ai 21 S8 (by kernel_rfl) ?_;refine zT 0 rfl o.out ?_;(try go_simp);refine zT 1 rfl o.out ?_;(try go_simp);refine zT 2 rfl o.out ?_;(try go_simp);refine zT 3 rfl o.out ?_;(try go_simp);refine zT 4 rfl o.out ?_;(try go_simp);refine zT 5 rfl o.out ?_;(try go_simp);refine zT 6 rfl o.out ?_;(try go_simp);refine zT 7 rfl o.out ?_;(try go_simp);refine zT 8 rfl o.out ?_;(try go_simp);refine zT 9 rfl o.out ?_;(try go_simp);refine zT 10 rfl o.out ?_;(try go_simp);refine zT 11 rfl o.out ?_;(try go_simp);refine zT 12 rfl o.out ?_;(try go_simp);refine zT 13 rfl o.out ?_;(try go_simp);refine zT 14 rfl o.out ?_;(try go_simp);refine zT 15 rfl o.out ?_;(try go_simp);refine zT 16 rfl o.out ?_;(try go_simp);refine zO 17 rfl λK' v=> ?_;go_simp;obtain⟨G,hG⟩:=zE A.heap.size;obtain⟨J,Y⟩:=zE ((A.alloc (oB #[Z U (V.length:ct)] 3)).drew);(try rw[hG]);(try rw[Y]);have K:bj A.heap.size A J:=by rw[<-Y];exact((an _ _).alloc (bl _) _).drew
   have pd:J.heap[G]?=oa (oB #[Z U (V.length:ct)] 3 (0,0)):=by rw[<-Y,<-hG];exact alloc_at _ _
   have qt:S8 J:=pn.out _ K;refine v _ _ qt ?_;clear v;(try go_simp);refine zO 18 rfl λK' v=> ?_;have pb:aC (λx:ap×bw=>#[Z U (x.2:ct)]) 1 J J.heap.size ob S:=by rw[<-pL];exact rl.out.stay (Ext.of_below_size (M:=λ_=>fW) K) (λ_ _ _ h=>h)
   have pS:cr (S.length=0):=by
    by_cases h:S=[]
    ·unfold cr;rw[h];rfl
    ·obtain⟨_,_,h1,_⟩:=pb h;cases h1
   have pf:=eX (f:=λx:ap×bw=>dv .i64 (x.2:ct)) pb;refine aY (.tmp 76) (.tmp 78) 35 rfl 3 i0 _ 1 8 ft pp pw px py rfl (by decide) ob S.length S.length (S.map λx:ap×bw=>dv .i64 (x.2:ct)) rfl (λ_=>⟨pS.out,pS.out⟩) (gP _ _) pf ⟨G,0,ob⟩ 1 1 [Z U (V.length:ct)] rfl rfl (λjj uu hu=>by rw[cI,cJ,ci _ _ _ _ _ _ pd];simpa using hu) (by simp[bp]) (by omega) (by unfold cX;omega) (by omega) ?_;intro v9 oS oT ph;have pi:Ext (λ_=>fW) J oS:=Ext.of_grown ph (λq hq=>by cases hq);have oR:bj A.heap.size A oS:=K.trans (pi.below K.size (λq h=>h.elim));have oX:S8 oS:=pn.out _ oR;obtain⟨qu,cW,pl⟩:=au oT;subst pl;refine v _ _ oX ?_;clear v;(try go_simp);refine zT 19 rfl o.out ?_;(try go_simp);refine zT 20 rfl o.out ?_;(try go_simp);have qv:=(oR.block m pD).trans pj.out;have qe:=(rowAt qv 13 rfl).2;have x0:=o.out oS oX;refine zK rfl λK' v=> ?_;go_simp;refine v _ _ ?_;clear v;refine⟨by kernel_rfl, ?_⟩;have po:bB m p L X V2 I2 (S++[(nm,V.length)]) O w (oS.setCell ⟨m,13,ob⟩ (ot qu (S.length+1) cW)):=jW rr.out rI.out rK.out pc.out rj.out pj.out rk.out oR (by have:=K.size;exact K.size) (by rw[em];exact oT) rm;have qS:=zH po;clear po;go_wp2
   go_end0
   exact⟨rfl,qS.out⟩
  ·have pm:∀W,S8 W->W.cell? ⟨m,13,ob⟩=oa (ot (oa ⟨b2,qr,qs⟩) S.length s5.wC):=λW R=>by
    rw[<-pL];exact(rowAt (((pk W R).block m pD).trans pj.out) 13 rfl).1
   have o:=zH pm;have pn:=zH pH;have so:=zH pk;clear pm pH pk oY;refine ai 21 S8 (by kernel_rfl) ?_;refine zT 0 rfl o.out ?_;(try go_simp);refine zT 1 rfl o.out ?_;(try go_simp);refine zT 2 rfl o.out ?_;(try go_simp);refine zT 3 rfl o.out ?_;(try go_simp);refine zT 4 rfl o.out ?_;(try go_simp);refine zT 5 rfl o.out ?_;(try go_simp);refine zT 6 rfl o.out ?_;(try go_simp);refine zT 7 rfl o.out ?_;(try go_simp);refine zT 8 rfl o.out ?_;(try go_simp);refine zT 9 rfl o.out ?_;(try go_simp);refine zT 10 rfl o.out ?_;(try go_simp);refine zT 11 rfl o.out ?_;(try go_simp);refine zT 12 rfl o.out ?_;(try go_simp);refine zT 13 rfl o.out ?_;(try go_simp);refine zT 14 rfl o.out ?_;(try go_simp);refine zT 15 rfl o.out ?_;(try go_simp);refine zT 16 rfl o.out ?_;(try go_simp);refine zO 17 rfl λK' v=> ?_;go_simp;obtain⟨G,hG⟩:=zE A.heap.size;obtain⟨J,Y⟩:=zE ((A.alloc (oB #[Z U (V.length:ct)] 3)).drew);(try rw[hG]);(try rw[Y]);have K:bj A.heap.size A J:=by rw[<-Y];exact((an _ _).alloc (bl _) _).drew
   have pd:J.heap[G]?=oa (oB #[Z U (V.length:ct)] 3 (0,0)):=by rw[<-Y,<-hG];exact alloc_at _ _
   have qt:S8 J:=pn.out _ K;refine v _ _ qt ?_;clear v;(try go_simp);refine zO 18 rfl λK' v=> ?_;have pb:aC (λx:ap×bw=>#[Z U (x.2:ct)]) 1 J J.heap.size (oa ⟨b2,qr,qs⟩) S:=by rw[<-pL];exact rl.out.stay (Ext.of_below_size (M:=λ_=>fW) K) (λ_ _ _ h=>h)
   have pf:=eX (f:=λx:ap×bw=>dv .i64 (x.2:ct)) pb;refine aY (.tmp 76) (.tmp 78) 35 rfl 3 i0 _ 1 8 ft pp pw px py rfl (by decide) (oa ⟨b2,qr,qs⟩) S.length S.length (S.map λx:ap×bw=>dv .i64 (x.2:ct)) rfl (λh=>by cases h) (gP _ _) pf ⟨G,0,ob⟩ 1 1 [Z U (V.length:ct)] rfl rfl (λjj uu hu=>by rw[cI,cJ,ci _ _ _ _ _ _ pd];simpa using hu) (by simp[bp]) (by omega) (by unfold cX;omega) (by omega) ?_;intro v9 oS oT ph;have pi:Ext (λ_=>fW) J oS:=Ext.of_grown ph (λq hq=>by cases hq);have oR:bj A.heap.size A oS:=K.trans (pi.below K.size (λq h=>h.elim));have oX:S8 oS:=pn.out _ oR;obtain⟨qu,cW,pl⟩:=au oT;subst pl;refine v _ _ oX ?_;clear v;(try go_simp);refine zT 19 rfl o.out ?_;(try go_simp);refine zT 20 rfl o.out ?_;(try go_simp);have qv:=(oR.block m pD).trans pj.out;have qe:=(rowAt qv 13 rfl).2;have x0:=o.out oS oX;refine zK rfl λK' v=> ?_;go_simp;refine v _ _ ?_;clear v;refine⟨by kernel_rfl, ?_⟩;have po:bB m p L X V2 I2 (S++[(nm,V.length)]) O w (oS.setCell ⟨m,13,ob⟩ (ot qu (S.length+1) cW)):=jW rr.out rI.out rK.out pc.out rj.out pj.out rk.out oR (by have:=K.size;exact K.size) (by rw[em];exact oT) rm;have qS:=zH po;clear po;go_wp2
   go_end0
   exact⟨rfl,qS.out⟩
 ·have rb:∀W,S7 W->W.cell? ⟨m,12,ob⟩=oa (ot (oa ⟨b,sg,fp⟩) S.length s5.sC)/\W.cell? ⟨N,3,ob⟩=oa (oe nm):=λW R=>by
   have r1:=((pP W R).block N rB).trans qT;have r2:=(k5.grow (pP W R)).row;exact⟨by rw[<-hA];exact(rowAt r2 12 rfl).1,(rowAt r1 3 rfl).1⟩
  have D:=zH rb;have tn:=zH pP;have rc:=zH rL;clear rb pP rL ra qT k5;refine ai 22 S7 (by kernel_rfl) ?_;refine zT 0 rfl D.out ?_;(try go_simp);refine zT 1 rfl D.out ?_;(try go_simp);refine zT 2 rfl D.out ?_;(try go_simp);refine zT 3 rfl D.out ?_;(try go_simp);refine zT 4 rfl D.out ?_;(try go_simp);refine zT 5 rfl D.out ?_;(try go_simp);refine zT 6 rfl D.out ?_;(try go_simp);refine zT 7 rfl D.out ?_;(try go_simp);refine zT 8 rfl D.out ?_;(try go_simp);refine zT 9 rfl D.out ?_;(try go_simp);refine zT 10 rfl D.out ?_;(try go_simp);refine zT 11 rfl D.out ?_;(try go_simp);refine zT 12 rfl D.out ?_;(try go_simp);refine zT 13 rfl D.out ?_;(try go_simp);refine zT 14 rfl D.out ?_;(try go_simp);refine zT 15 rfl D.out ?_;(try go_simp);refine zT 16 rfl D.out ?_;(try go_simp);refine zT 17 rfl D.out ?_;(try go_simp);refine zO 18 rfl λK' v=> ?_;go_simp;obtain⟨G,hG⟩:=zE w5.heap.size;obtain⟨J,Y⟩:=zE ((w5.alloc (oB #[oe nm] 9)).drew);(try rw[hG]);(try rw[Y]);have K:bj w5.heap.size w5 J:=by rw[<-Y];exact((an _ _).alloc (bl _) _).drew
  have pd:J.heap[G]?=oa (oB #[oe nm] 9 (0,0)):=by rw[<-Y,<-hG];exact alloc_at _ _
  have oY:S7 J:=rc.out _ K;refine v _ _ oY ?_;clear v;(try go_simp);refine zO 19 rfl λK' v=> ?_;have pb:aC (λx:ap×bw=>#[oe x.1]) 1 J J.heap.size (oa ⟨b,sg,fp⟩) S:=by rw[<-hA];exact(pc.out.grow K).seen
  have pf:=eX (f:=λx:ap×bw=>dj x.1) pb;refine aY (.tmp 54) (.tmp 57) 223 rfl 9 i0 _ 1 16 ms pp pw px py rfl (by decide) (oa ⟨b,sg,fp⟩) S.length S.length (S.map λx:ap×bw=>dj x.1) rfl (λh=>by cases h) (gP _ _) pf ⟨G,0,ob⟩ 1 1 [oe nm] rfl rfl (λjj uu hu=>by rw[cI,cJ,ci _ _ _ _ _ _ pd];simpa using hu) (by simp[bp]) (by omega) (by unfold cX;omega) (by omega) ?_;intro v9 w9 oT ph;have pi:Ext (λ_=>fW) J w9:=Ext.of_grown ph (λq hq=>by cases hq);have oR:bj w5.heap.size w5 w9:=K.trans (pi.below K.size (λq h=>h.elim));have oX:S7 w9:=rc.out _ oR;obtain⟨pT,c9,pl⟩:=au oT;subst pl;refine v _ _ oX ?_;clear v;(try go_simp);refine zT 20 rfl D.out ?_;(try go_simp);refine zT 21 rfl D.out ?_;(try go_simp);have pZ:=pc.out.grow oR;have qe:=(rowAt pZ.row 12 rfl).2;obtain⟨x0,x1⟩:=D.out w9 oX;refine zK rfl λK' v=> ?_;go_simp;refine v _ _ ?_;clear v;refine⟨by kernel_rfl, ?_⟩;obtain⟨A,pB⟩:=zE (w9.setCell ⟨m,12,ob⟩ (ot pT (S.length+1) c9));(try rw[pB]);have qk:Ext (·=m) w9 A:=by rw[<-pB];exact Ext.set1 w9 m 12 _
  have qn:A.heap[m]?=oa (oB (BJ p X s5 V2.length I2.length (ot pT (S.length+1) c9) (ot s5.wA S.length s5.wC)) 236 (0,0)):=by rw[<-pB];exact aq w9 m 12 _ _ _ pZ.row
  have sk:m<J.heap.size:=by have:=K.size;omega
  have re:A.ownsRow w5.heap.size 9 1 (ot pT (S.length+1) c9) (S.length+1) ((S++[(nm,V.length)]).map λx:ap×bw=>dj x.1):=by
   rw[em];exact aD (af oT qk (λk hk e=>by have:=(ah oT hk).1;omega)) K.size
  have qq:Ext (·=m) w5 A:=(Ext.of_below_size (M:=(·=m)) oR).trans qk (λq h=> .inl h);have rh:aC (λx:ap×bw=>#[Z U (x.2:ct)]) 1 A A.heap.size s5.wA S:=pc.out.whic.stay qq (λa sn e=>(pc.out.ns a sn (.inr e)).1);have pD:=aa qn;have rj:=zH qq;have pj:=zH qn;have rk:=zH re;have rl:=zH rh;have tp:=pc.out.cS.2;have tr:(S.length:ct)<=(s5.wC:ct):=by omega
  clear qk qn sk re qq rh pB pZ qe x0 x1 oT ph pi oR oX pf pb pd K Y oY hG sX rB rx i0 pp pw px py ta tc;obtain⟨i0,pp,pw,px,py⟩:=iu jL
  go_upto_region 8 with(fail)
  obtain⟨S8,oY⟩:=zE ((λw'=>bj A.heap.size A w'):World->Prop);have tt:S8 A.drew:=by rw[<-oY];exact(an _ _).drew
  have pk:∀W,S8 W->bj A.heap.size A W:=λW R=>by rw[<-oY] at R;exact R
  have pH:∀W,bj A.heap.size A W->S8 W:=λW R=>by rw[<-oY];exact R
  rcases pL:s5.wA with _|⟨b2,qr,qs⟩
  ·have pm:∀W,S8 W->W.cell? ⟨m,13,ob⟩=oa (ot ob S.length s5.wC):=λW R=>by
    rw[<-pL];exact(rowAt (((pk W R).block m pD).trans pj.out) 13 rfl).1
   have o:=zH pm;have pn:=zH pH;have so:=zH pk;clear pm pH pk oY;refine ai 21 S8 (by kernel_rfl) ?_;refine zT 0 rfl o.out ?_;(try go_simp);refine zT 1 rfl o.out ?_;(try go_simp);refine zT 2 rfl o.out ?_;(try go_simp);refine zT 3 rfl o.out ?_;(try go_simp);refine zT 4 rfl o.out ?_;(try go_simp);refine zT 5 rfl o.out ?_;(try go_simp);refine zT 6 rfl o.out ?_;(try go_simp);refine zT 7 rfl o.out ?_;(try go_simp);refine zT 8 rfl o.out ?_;(try go_simp);refine zT 9 rfl o.out ?_;(try go_simp);refine zT 10 rfl o.out ?_;(try go_simp);refine zT 11 rfl o.out ?_;(try go_simp);refine zT 12 rfl o.out ?_;(try go_simp);refine zT 13 rfl o.out ?_;(try go_simp);refine zT 14 rfl o.out ?_;(try go_simp);refine zT 15 rfl o.out ?_;(try go_simp);refine zT 16 rfl o.out ?_;(try go_simp);refine zO 17 rfl λK' v=> ?_;go_simp;obtain⟨G,hG⟩:=zE A.heap.size;obtain⟨J,Y⟩:=zE ((A.alloc (oB #[Z U (V.length:ct)] 3)).drew);(try rw[hG]);(try rw[Y]);have K:bj A.heap.size A J:=by rw[<-Y];exact((an _ _).alloc (bl _) _).drew
   have pd:J.heap[G]?=oa (oB #[Z U (V.length:ct)] 3 (0,0)):=by rw[<-Y,<-hG];exact alloc_at _ _
   have qt:S8 J:=pn.out _ K;refine v _ _ qt ?_;clear v;(try go_simp);refine zO 18 rfl λK' v=> ?_;have pb:aC (λx:ap×bw=>#[Z U (x.2:ct)]) 1 J J.heap.size ob S:=by rw[<-pL];exact rl.out.stay (Ext.of_below_size (M:=λ_=>fW) K) (λ_ _ _ h=>h)
   have pS:cr (S.length=0):=by
    by_cases h:S=[]
    ·unfold cr;rw[h];rfl
    ·obtain⟨_,_,h1,_⟩:=pb h;cases h1
   have pf:=eX (f:=λx:ap×bw=>dv .i64 (x.2:ct)) pb;refine aY (.tmp 76) (.tmp 78) 35 rfl 3 i0 _ 1 8 ft pp pw px py rfl (by decide) ob S.length S.length (S.map λx:ap×bw=>dv .i64 (x.2:ct)) rfl (λ_=>⟨pS.out,pS.out⟩) (gP _ _) pf ⟨G,0,ob⟩ 1 1 [Z U (V.length:ct)] rfl rfl (λjj uu hu=>by rw[cI,cJ,ci _ _ _ _ _ _ pd];simpa using hu) (by simp[bp]) (by omega) (by unfold cX;omega) (by omega) ?_;intro v9 oS oT ph;have pi:Ext (λ_=>fW) J oS:=Ext.of_grown ph (λq hq=>by cases hq);have oR:bj A.heap.size A oS:=K.trans (pi.below K.size (λq h=>h.elim));have oX:S8 oS:=pn.out _ oR;obtain⟨qu,cW,pl⟩:=au oT;subst pl;refine v _ _ oX ?_;clear v;(try go_simp);refine zT 19 rfl o.out ?_;(try go_simp);refine zT 20 rfl o.out ?_;(try go_simp);have qv:=(oR.block m pD).trans pj.out;have qe:=(rowAt qv 13 rfl).2;have x0:=o.out oS oX;refine zK rfl λK' v=> ?_;go_simp;refine v _ _ ?_;clear v;refine⟨by kernel_rfl, ?_⟩;have po:bB m p L X V2 I2 (S++[(nm,V.length)]) O w (oS.setCell ⟨m,13,ob⟩ (ot qu (S.length+1) cW)):=jW rr.out rI.out rK.out pc.out rj.out pj.out rk.out oR (by have:=K.size;exact K.size) (by rw[em];exact oT) rm;have qS:=zH po;clear po;go_wp2
   go_end0
   exact⟨rfl,qS.out⟩
  ·have pm:∀W,S8 W->W.cell? ⟨m,13,ob⟩=oa (ot (oa ⟨b2,qr,qs⟩) S.length s5.wC):=λW R=>by
    rw[<-pL];exact(rowAt (((pk W R).block m pD).trans pj.out) 13 rfl).1
   have o:=zH pm;have pn:=zH pH;have so:=zH pk;clear pm pH pk oY;refine ai 21 S8 (by kernel_rfl) ?_;refine zT 0 rfl o.out ?_;(try go_simp);refine zT 1 rfl o.out ?_;(try go_simp);refine zT 2 rfl o.out ?_;(try go_simp);refine zT 3 rfl o.out ?_;(try go_simp);refine zT 4 rfl o.out ?_;(try go_simp);refine zT 5 rfl o.out ?_;(try go_simp);refine zT 6 rfl o.out ?_;(try go_simp);refine zT 7 rfl o.out ?_;(try go_simp);refine zT 8 rfl o.out ?_;(try go_simp);refine zT 9 rfl o.out ?_;(try go_simp);refine zT 10 rfl o.out ?_;(try go_simp);refine zT 11 rfl o.out ?_;(try go_simp);refine zT 12 rfl o.out ?_;(try go_simp);refine zT 13 rfl o.out ?_;(try go_simp);refine zT 14 rfl o.out ?_;(try go_simp);refine zT 15 rfl o.out ?_;(try go_simp);refine zT 16 rfl o.out ?_;(try go_simp);refine zO 17 rfl λK' v=> ?_;go_simp;obtain⟨G,hG⟩:=zE A.heap.size;obtain⟨J,Y⟩:=zE ((A.alloc (oB #[Z U (V.length:ct)] 3)).drew);(try rw[hG]);(try rw[Y]);have K:bj A.heap.size A J:=by rw[<-Y];exact((an _ _).alloc (bl _) _).drew
   have pd:J.heap[G]?=oa (oB #[Z U (V.length:ct)] 3 (0,0)):=by rw[<-Y,<-hG];exact alloc_at _ _
   have qt:S8 J:=pn.out _ K;refine v _ _ qt ?_;clear v;(try go_simp);refine zO 18 rfl λK' v=> ?_;have pb:aC (λx:ap×bw=>#[Z U (x.2:ct)]) 1 J J.heap.size (oa ⟨b2,qr,qs⟩) S:=by rw[<-pL];exact rl.out.stay (Ext.of_below_size (M:=λ_=>fW) K) (λ_ _ _ h=>h)
   have pf:=eX (f:=λx:ap×bw=>dv .i64 (x.2:ct)) pb;refine aY (.tmp 76) (.tmp 78) 35 rfl 3 i0 _ 1 8 ft pp pw px py rfl (by decide) (oa ⟨b2,qr,qs⟩) S.length S.length (S.map λx:ap×bw=>dv .i64 (x.2:ct)) rfl (λh=>by cases h) (gP _ _) pf ⟨G,0,ob⟩ 1 1 [Z U (V.length:ct)] rfl rfl (λjj uu hu=>by rw[cI,cJ,ci _ _ _ _ _ _ pd];simpa using hu) (by simp[bp]) (by omega) (by unfold cX;omega) (by omega) ?_;intro v9 oS oT ph;have pi:Ext (λ_=>fW) J oS:=Ext.of_grown ph (λq hq=>by cases hq);have oR:bj A.heap.size A oS:=K.trans (pi.below K.size (λq h=>h.elim));have oX:S8 oS:=pn.out _ oR;obtain⟨qu,cW,pl⟩:=au oT;subst pl;refine v _ _ oX ?_;clear v;(try go_simp);refine zT 19 rfl o.out ?_;(try go_simp);refine zT 20 rfl o.out ?_;(try go_simp);have qv:=(oR.block m pD).trans pj.out;have qe:=(rowAt qv 13 rfl).2;have x0:=o.out oS oX;refine zK rfl λK' v=> ?_;go_simp;refine v _ _ ?_;clear v;refine⟨by kernel_rfl, ?_⟩;have po:bB m p L X V2 I2 (S++[(nm,V.length)]) O w (oS.setCell ⟨m,13,ob⟩ (ot qu (S.length+1) cW)):=jW rr.out rI.out rK.out pc.out rj.out pj.out rk.out oR (by have:=K.size;exact K.size) (by rw[em];exact oT) rm;have qS:=zH po;clear po;go_wp2
   go_end0
   exact⟨rfl,qS.out⟩
def yB (m:bw)(p:Pg)(L:bw)(X:Fx)(V:bh Ty)(I:bh dF)(S:bh (ap×bw))(s:Sm)(V2:bh Ty)(I2:bh dF)(a:bh (ap×bw)):Prop:=
 ∀(W:World)(O:bw->Prop)(b:Sl),Mk m p L X V I S O b W->et ac 180 #[ox (oa ⟨m,0,ob⟩),oA s.cells] W λe w'=>e= oE (.tuple #[])/\bB m p L X V2 I2 a O W w'
inductive ik (m:bw) (p:Pg) (L:bw) (X:Fx):bh Ty->bh dF->bh (ap×bw)->bh Sm->bh Ty->bh dF->Prop
 |nil (V:bh Ty) (I:bh dF) (S:bh (ap×bw)):ik m p L X V I S [] V I
 |cons (V V1 V2:bh Ty) (I I1 I2:bh dF) (S S1:bh (ap×bw)) (s:Sm) (l:bh Sm):yB m p L X V I S s V1 I1 S1->ik m p L X V1 I1 S1 l V2 I2->ik m p L X V I S (s::l) V2 I2
def BL (m:bw)(p:Pg)(L:bw)(X:Fx)(V2:bh Ty)(I2:bh dF)(O:bw->Prop)(w:World)(k:bo)(wr:World):Prop:=
 ∃(j:bw) (V:bh Ty) (I:bh dF) (S:bh (ap×bw)) (a:bw->Prop) (s:Sl),k= Z U (j:ct)/\j<=p.ss.length/\ik m p L X V I S (p.ss.drop j) V2 I2/\Mk m p L X V I S a s wr/\Ext (λq=>q=m\/O q) w wr/\∀k,a k->O k\/w.heap.size<=k
theorem pG {m:bw}{p:Pg}{L:bw}{X:Fx}{V V2:bh Ty}{I I2:bh dF}{O:bw->Prop}{s:Sl}(w:World)(h:Mk m p L X V I [] O s w)(u:ik m p L X V I [] p.ss V2 I2)(pp:p.ss.length<=1000)(oR:p.ss≠[]):
  et ac 132 #[ox (oa ⟨m,0,ob⟩),ot p.bA p.ss.length p.bC] w λe w'=>e= oE (.tuple #[])/\bB m p L X V2 I2 [] O w w':=by
 obtain⟨b,pw,N,px,_⟩:=h.pg.st oR;have py:=aa h.row;have oS:w.cell? ⟨m,12,ob⟩=oa (ot s.sA 0 s.sC):=(rowAt h.row 12 rfl).1;have H:=zH h;have HA:=zH N;have HK:=zH u;have HL:=h.hm;rw[N];clear h N u oR;go_enter func132,ntmps132
 go_upto_region 2 with(fail)
 clear oS
 go_loopw [5] (λk wr=>BL m p L X V2 I2 O w k wr) (λk _=>p.ss.length-(intOf k).toNat)
 case atStart=>exact⟨0,V,I,[],O,s,rfl,da _,HK.out,H.out,Ext.refl _ _,λk u=> .inl u⟩
 case round=>
  obtain⟨j,V1,I1,S1,R,s1,rfl,hj,D,f,Y,ho⟩:=hrel;have pk:=zH f;have G:=zH Y;have J:=zH ho
  by_cases v:j<p.ss.length
  ·have pB:(j:ct)<(p.ss.length:ct):=by omega
   obtain⟨x,d⟩:∃x,p.ss[j]?=oa x:=⟨_,ce v⟩
   have oT:p.ss.drop j=x::p.ss.drop (j+1):=by
    rw[ep v];have:p.ss[j]=x:=by rw[ce v] at d;exact cN d
    rw[this]
   rw[oT] at D;cases D with
   |cons _ V3 _ _ I3 _ _ S3 _ _ hst oX=>
    have oY:=cA d;obtain⟨⟨ao,n,cp,hE⟩,_⟩:=f.pg.sm oY;obtain⟨b',pD,h1,h2,g⟩:=f.pg.st (by intro e;rw[e] at v;simp at v);rw[HA.out] at h1;simp only[fa,nF,and_true] at h1;obtain⟨rfl,rfl⟩:=h1;have k0:=g j x d 0 _ rfl;have k1:=g j x d 1 _ rfl;have k2:=g j x d 2 _ rfl;have k3:=g j x d 3 _ rfl;have k4:=g j x d 4 _ rfl;have k5:=g j x d 5 _ rfl;have k6:=g j x d 6 _ rfl;have k7:=g j x d 7 _ rfl;have k8:=g j x d 8 _ rfl;rw[ix] at k0;rw[hE] at k4;have pH:b<wr.heap.size:=cg h2 f.pg.lo;have pL:j<=p.bC:=by have:=f.pg.cb;omega
    have K:=hst wr R s1 f;unfold Sm.cells at K;rw[hE] at K;have pl:=zH K;have pm:=zH oX;clear f Y ho d oT hst oX oY hE g K
    go_wp2_with (go_at_call 180;refine pl.out.mono ?_;rintro en w5 ⟨rfl,O5,s5,pb,pc,pd⟩;have pf:=zH pb;have ph:=zH pc;have pi:=zH pd;clear pb pc pd)
    go_roundw
    case rel=>
     have pN:bB m p L X V3 I3 S3 O w w5:=bB.trans G.out J.out ⟨O5,s5,pf.out,ph.out,pi.out⟩;refine⟨j+1,V3,I3,S3,O5,s5,by go_num,v,pm.out,pf.out,G.out.trans ph.out (λq o=> ?_),λk u=> ?_⟩
     ·rcases o with h|h
      ·exact .inl (.inl h)
      ·rcases J.out q h with h|h
       ·exact .inl (.inr h)
       ·exact .inr h
     ·rcases pi.out k u with h|h
      ·exact J.out k h
      ·exact .inr (cv G.out.size h)
    case measure=>simp[intOf];omega
  ·have pn:j=p.ss.length:=by omega
   have po:p.ss.drop j=[]:=by rw[pn];simp
   rw[po] at D;cases D;have y:=f.row;have pP:=aa y;have f12:wr.frozen? ⟨m,12,ob⟩=od:=(rowAt y 12 rfl).2;have oS:wr.cell? ⟨m,12,ob⟩=oa (ot s1.sA S1.length s1.sC):=(rowAt y 12 rfl).1;have f13:wr.frozen? ⟨m,13,ob⟩=od:=(rowAt y 13 rfl).2;have pS:wr.cell? ⟨m,13,ob⟩=oa (ot s1.wA S1.length s1.wC):=(rowAt y 13 rfl).1;have pT:=f.cS;clear f Y y ho;go_wp2
   go_end0
   have A:Ext (·=m) wr ((wr.setCell ⟨m,12,ob⟩ (ot s1.sA 0 s1.sC)).setCell ⟨m,13,ob⟩ (ot s1.wA 0 s1.wC)):=(Ext.set1 wr m 12 _).trans (Ext.set1 _ m 13 _) (λq h=> .inl h);have k:=pk.out;have pj:∀q,R q->q≠m:=λq h=>by have:=(k.ol q h).1;omega
   refine⟨rfl,R,s1,⟨?_,k.pg.ext A (λq o e=>by omega),k.hm,af k.vars A (λq o e=>pj q (k.ov q o) e),af k.ins A (λq o e=>pj q (k.oi q o) e),k.dis,k.ov,k.oi,λq o=>⟨(k.ol q o).1,cg (k.ol q o).2 A.size⟩,λh=>gC rfl h,λh=>gC rfl h,λa h=>gC rfl h,k.lV,k.lI,by simp,⟨da _,da _⟩⟩,G.out.trans A (λq h=> .inl (.inl h)),J.out⟩;exact aq _ m 13 _ _ _ (aq wr m 12 _ _ _ k.row)
def dF.ins (i:dF):Ins:=⟨i.op,i.d,i.a,0,i.f,i.n,⟨#[]⟩,ot ob 0 0,ot ob 0 0,0,0,i.ln,i.cl,[]⟩
def yC (y:Ty):Vr:=⟨y.1,y.2,0⟩
def jE (p:Pg)(V:bh Ty)(I:bh dF)(s:Sl):Fn:=
 ⟨⟨p.nm,0,s.vA,V.length,s.vC,p.ret.1,p.ret.2,0,ob,0,0,s.iA,s.iC,I.map dF.ins⟩,V.map yC,[],I.map λ_=>[]⟩
def zA (p:Pg):St:=⟨⟨p.snm,p.fA,p.fs.length,p.fC,p.sl,p.sc⟩,p.fs⟩
def fM (p:Pg)(V:bh Ty)(I:bh dF)(s:Sl)(a:bw)(b:bw):Mo:=⟨oa ⟨p.pA,0,ob⟩,p.pC,oa ⟨a,0,ob⟩,b,[zA p],[jE p V I s]⟩
def X0 (p:Pg):Fx:=⟨p.ret,p.nm,Z U 0,oy p.ret.1,oe p.ret.2,Z U 0,ot ob 0 0,ot ob 0 0,ot ob 0 0⟩
def Av (p:Pg)(a b:bw)(s:Sl):bh bo:=[oe p.nm,Z U 0,ot s.vA a s.vC,oy p.ret.1,oe p.ret.2,Z U 0,ot ob 0 0,ot s.iA b s.iC]
theorem xu (I:bh dF):I.flatMap Bj=(I.map dF.ins).flatMap λx=>x.cells.toList:=by
 induction I with
 |nil=>rfl
 |cons a I ih=>rw[cY,kj,cY,ih];rfl
theorem xw (V:bh Ty):V.flatMap Bl=(V.map yC).flatMap λx=>x.cells.toList:=by
 induction V with
 |nil=>rfl
 |cons a V ih=>rw[cY,kj,cY,ih];rfl
theorem yD {p:Pg}{L:bw}{V:bh Ty}{I:bh dF}{s:Sl}{w:World}{q o D G v:bw}(d:fK p L w)(J:p.nm.size<=cX)(K:p.snm.size<=cX)(N:∀f∈p.fs,f.nm.size<=cX)
  (R:w.ownsRow D 34 3 (ot s.vA V.length s.vC) V.length (V.flatMap Bl))(Y:w.ownsRow G 42 13 (ot s.iA I.length s.iC) I.length (I.flatMap Bj))
  (hf:w.ownsRow v 38 8 (ot (oa ⟨q,0,ob⟩) 1 o) 1 (Av p V.length I.length s))(lV:V.length<=1000)(lI:I.length<=1000):(fM p V I s q o).inn w:=by
 have A:aC Vr.cells 3 w w.heap.size s.vA (V.map yC):=bV (cells:=Vr.cells) (m:=3) (λ_=>rfl) (by rw[<-xw];exact R) (by simp);have oR:xX w w.heap.size s.iA (I.map dF.ins):=bV (cells:=Ins.cells) (m:=13) (λ_=>rfl) (by rw[<-xu];exact Y) (by simp);have oX:cX=9223372036854775807:=rfl;refine⟨λ_=>⟨p.pA,0,rfl,cg d.pA d.lo,λi x a k u hu=> ?_⟩,bV (cells:=Fn.cells) (m:=8) (λ_=>rfl) (l:=[jE p V I s]) (n:=1) (c:=o) (base:=v) (e:=38) ?_ rfl,λx a=> ?_,λx a=> ?_,by simp[fM,cX],by simp[fM,cX]⟩
 ·cases i with
  |succ i=>simp[fM] at a
  |zero=>
   obtain rfl:zA p=x:=by simpa[fM] using a
   have:=d.s k u hu;simpa using this
 ·simp only[cY,List.flatMap_nil,ki]
  have he:(jE p V I s).cells.toList=Av p V.length I.length s:=by simp[jE,Fn.cells,ww.cells,Av]
  rw[he];exact hf
 ·obtain rfl:x=zA p:=by simpa[fM] using a
  exact⟨rfl,λoS=>(let ⟨b,oT,g,j,h3⟩:=d.fd oS;⟨b,oT,g,cg j d.lo,h3⟩),by have:=d.lfs;show p.fs.length<=_;omega,K,N⟩
 ·obtain rfl:x=jE p V I s:=by simpa[fM] using a
  refine⟨⟨oR,λx a=> ?_,by simp only[jE,dd];omega,⟨V.map yC,by simp[jE],A⟩,by simp only[jE];omega,by simp[jE,cX],⟨[],rfl,λh=>gC rfl h⟩⟩,J,by simp[jE],A,rfl,λh=>gC rfl h,by simp[jE],λk i l g j=> ?_⟩
  ·simp only[jE,eh] at a
   obtain⟨y,_,rfl⟩:=a;exact⟨⟨⟨ob,0,rfl⟩,ob,0,0,rfl⟩,ob,0,rfl,λh=>gC rfl h⟩
  ·simp only[jE,kO,fS] at g j
   obtain⟨y,_,rfl⟩:=g;obtain⟨_,_,rfl⟩:=j;exact⟨ob,0,rfl,λh=>gC rfl h⟩
def wN (w:World)(p:Pg)(V:bh Ty)(I:bh dF)(e:Ending)(w':World):Prop:=
 ∃s a b,e= oE (.tuple #[oA (fM p V I s a b).cells,oA #[Z U 0,Z U 0,Z U 0,Z U 0]])/\w'.ownsRow w.heap.size 34 3 (ot s.vA V.length s.vC) V.length (V.flatMap Bl)/\w'.ownsRow w.heap.size 42 13 (ot s.iA I.length s.iC) I.length (I.flatMap Bj)/\w'.ownsRow w.heap.size 38 8 (ot (oa ⟨a,0,ob⟩) 1 b) 1 (Av p V.length I.length s)/\bj w.heap.size w w'
theorem vo:(ac.info? 38).map (λi=>(i.zero,i.size,i.bytes))=oa (oa (oA #[oe ⟨#[]⟩,Z U 0,ot ob 0 0,oy od,oe ⟨#[]⟩,Z U 0,ot ob 0 0,ot ob 0 0]),8,128):=by kernel_rfl
theorem jF {w:World}:∀(c:cC bo),c.size=4->(cM ⟨w.heap.size,0,ob⟩ [Z U 0,Z U 0,Z U 0,Z U 0] 0).run ac (w.alloc (oB c 113))= .ok () (w.alloc (oB #[Z U 0,Z U 0,Z U 0,Z U 0] 113)):=λc a=>
 cf (P:=ac) w 113 c #[Z U 0,Z U 0,Z U 0,Z U 0] (by show _=oa 4;kernel_rfl) a (by simp[bp])
theorem yE {p:Pg}{w:World}:∀(c:cC bo),c.size=7->(cM ⟨w.heap.size,0,ob⟩ [oe p.nm,ot ob 0 0,oy p.ret.1,oe p.ret.2,ot p.bA p.ss.length p.bC,Z U p.gl,Z U p.gc] 0).run ac (w.alloc (oB c 233))= .ok () (w.alloc (oB #[oe p.nm,ot ob 0 0,oy p.ret.1,oe p.ret.2,ot p.bA p.ss.length p.bC,Z U p.gl,Z U p.gc] 233)):=λc a=>
 cf (P:=ac) w 233 c #[oe p.nm,ot ob 0 0,oy p.ret.1,oe p.ret.2,ot p.bA p.ss.length p.bC,Z U p.gl,Z U p.gc] (by show _=oa 7;kernel_rfl) a (by simp[bp])
theorem yF {a:dr Addr}{c1:bw}{w:World}:∀(c:cC bo),c.size=2->(cM ⟨w.heap.size,0,ob⟩ [ot a 1 c1,ot ob 0 0] 0).run ac (w.alloc (oB c 25))= .ok () (w.alloc (oB #[ot a 1 c1,ot ob 0 0] 25)):=λc b=>
 cf (P:=ac) w 25 c #[ot a 1 c1,ot ob 0 0] (by show _=oa 2;kernel_rfl) b (by simp[bp])
structure BC (N E:bw)(p:Pg)(L:bw)(w W:World)(out:bo):Prop where
 pg:fK p L W
 lN:L<=N
 r0:W.heap[N]?=oa (oB p.cells 179 (0,0))
 r1:W.heap[N+1]?=oa (oB #[ot ob 0 0,ot ob 0 0] 25 (0,0))
 r2:W.heap[N+2]?=oa (oB #[Z U 0,Z U 0,Z U 0,Z U 0] 113 (0,0))
 rE:W.heap[E]?=oa (oB #[ot (oa ⟨p.pA,0,ob⟩) 1 p.pC,out] 25 (0,0))
 hE:N+2<E
 low:bj N w W
def BS (N E:bw)(p:Pg)(L:bw)(V:bh Ty)(I:bh dF)(w:World)(k:bo)(W:World):Prop:=
 (k= Z U 0/\BC N E p L w W (ot ob 0 0))\/(k= Z U 1/\∃s a b,BC N E p L w W (ot (oa ⟨a,0,ob⟩) 1 b)/\W.ownsRow (E+1) 34 3 (ot s.vA V.length s.vC) V.length (V.flatMap Bl)/\W.ownsRow (E+1) 42 13 (ot s.iA I.length s.iC) I.length (I.flatMap Bj)/\W.ownsRow (E+1) 38 8 (ot (oa ⟨a,0,ob⟩) 1 b) 1 (Av p V.length I.length s))
theorem pI {p:Pg}{L:bw}{V:bh Ty}{I:bh dF}(w:World)(h:fK p L w)(ho:zy p)(hst:∀m,ik m p L (X0 p) [] [] [] p.ss V I)(lV:V.length<=300)(lI:I.length<=1000):
  et ac 93 #[oA p.cells] w (wN w p V I):=by
 obtain⟨N,y⟩:=zE w.heap.size;have te:L<=N:=by have:=h.lo;omega
 obtain⟨j,Y⟩:=zE (((w.alloc (oB #[ot (oa ⟨p.pA,0,ob⟩) 1 p.pC,ot (oa ⟨p.qA,0,ob⟩) 1 p.qC] 179)).alloc (oB #[ot ob 0 0,ot ob 0 0] 25)).alloc (oB #[Z U 0,Z U 0,Z U 0,Z U 0] 113));have pP:bj N w j:=by rw[<-Y,<-y];exact(((an _ _).alloc (bl _) _).alloc (by simp) _).alloc (by simp;omega) _
 have rc:j.heap.size=N+3:=by rw[<-Y];simp[y]
 have pS:j.heap[N]?=oa (oB #[ot (oa ⟨p.pA,0,ob⟩) 1 p.pC,ot (oa ⟨p.qA,0,ob⟩) 1 p.qC] 179 (0,0)):=by
  rw[<-Y];refine(bt _ _ N (by simp;omega)).trans ?_;rw[<-y];exact eA _ _ _
 have pb:j.heap[N+1]?=oa (oB #[ot ob 0 0,ot ob 0 0] 25 (0,0)):=by
  rw[<-Y];refine(bt _ _ (N+1) (by simp;omega)).trans ?_;rw[<-y];exact gx _ _ _
 have pc:j.heap[N+2]?=oa (oB #[Z U 0,Z U 0,Z U 0,Z U 0] 113 (0,0)):=by
  rw[<-Y];have:=alloc_at ((w.alloc (oB #[ot (oa ⟨p.pA,0,ob⟩) 1 p.pC,ot (oa ⟨p.qA,0,ob⟩) 1 p.qC] 179)).alloc (oB #[ot ob 0 0,ot ob 0 0] 25)) (oB #[Z U 0,Z U 0,Z U 0,Z U 0] 113);simpa[y] using this
 have pT:=h.grow (show bj w.heap.size w j by rw[y];exact pP);have tf:cr (zP 130 #[oA #[ot (oa ⟨p.pA,0,ob⟩) 1 p.pC,ot (oa ⟨p.qA,0,ob⟩) 1 p.qC]] j (oA #[Z U 0,Z U 0,Z U 0,Z U 0])):=pF j pT ho;have th:=zH pT;have HO:=zH ho;have ti:=zH hst;have tj:=zH Y;have tl:=zH pP;have oT:=zH rc;have re:=zH pS;have pZ:=zH pb;have qe:=zH pc;obtain⟨⟨A,J⟩,_,rh⟩:=bg pS;unfold Pg.cells;clear h ho hst Y pP pS pb pc pT rc;go_enter func93,ntmps93
 go_upto_region 1 with(fail)
 rw[tj.out]
 go_upto_region 2 with(go_at_call 130;refine tf.out.mono ?_;rintro en w4 ⟨rfl,rj⟩;have tm:=jF (w:=w4);have pl:=zH rj;clear rj)
 obtain⟨D,hD⟩:=zE w4.heap.size;obtain⟨W5,pd⟩:=zE (w4.alloc (oB #[Z U 0,Z U 0,Z U 0,Z U 0] 113));rw[hD,pd];have rk:=jJ pd;have rl:W5.heap[D]?=oa (oB #[Z U 0,Z U 0,Z U 0,Z U 0] 113 (0,0)):=by rw[<-pd,<-hD];exact alloc_at _ _
 have qk:bj j.heap.size j W5:=pl.out.trans (rk.mono pl.out.size);have rm:D+1=W5.heap.size:=by rw[<-pd];simp[hD]
 have tn:N+2<D:=by have:=pl.out.size;have:=oT.out;omega
 clear tm A J hD pd rk rh;have rn:=(qk.block N (by rw[oT.out];omega)).trans re.out;obtain⟨⟨A,J⟩,_,tp⟩:=bg rn;obtain⟨⟨e0,e1,e2,e3⟩,_,tr⟩:=ji rl;have tt:=yF (a:=oa ⟨p.pA,0,ob⟩) (c1:=p.pC) (w:=W5);obtain⟨E,hE⟩:=zE W5.heap.size;have qn:=zH qk;have ro:=zH rm;clear qk rl rn rm
 go_upto_region 6 with(fail)
 clear tt;obtain⟨W6,pm⟩:=zE (W5.alloc (oB #[ot (oa ⟨p.pA,0,ob⟩) 1 p.pC,ot ob 0 0] 25));rw[pm];(try rw[hE]);have rr:=jJ pm;have rv:W6.heap[E]?=oa (oB #[ot (oa ⟨p.pA,0,ob⟩) 1 p.pC,ot ob 0 0] 25 (0,0)):=by rw[<-pm,<-hE];exact alloc_at _ _
 have oX:bj j.heap.size j W6:=qn.out.trans (rr.mono qn.out.size);have tv:cr (BC N E p L w W6 (ot ob 0 0)):=⟨th.out.grow oX,te,(oX.block N (by rw[oT.out];omega)).trans re.out,(oX.block (N+1) (by rw[oT.out];omega)).trans pZ.out,(oX.block (N+2) (by rw[oT.out];omega)).trans qe.out,rv,by have:=ro.out;omega,tl.out.trans (oX.mono (by rw[oT.out];omega))⟩
 clear rr rv oX pm e0 e1 e2 e3 A J tr tp tn ro qn hE pl
 go_loopw [6] (λk wr=>BS N E p L V I w k wr) (λk _=>1-(intOf k).toNat)
 case atStart=>exact .inl ⟨rfl,tv.out⟩
 case round=>
  obtain⟨K,rx⟩:=zE wr;rw[rx] at hrel⊢;clear rx wr;rcases hrel with⟨rfl,g⟩|⟨rfl,s,fA,fC,g,hv,hi,hf⟩
  ·have pn:=g.pg
   obtain⟨⟨A,J⟩,_,rB⟩:=bg g.r0;have hf:=pn.f;have q0:=hf 0 _ rfl;have q1:=hf 1 _ rfl;have q2:=hf 2 _ rfl;have q3:=hf 3 _ rfl;have q4:=hf 4 _ rfl;have q5:=hf 5 _ rfl;have q6:=hf 6 _ rfl;have vf:p.qA<K.heap.size:=cg pn.qA pn.lo;have tz:=yE (p:=p) (w:=K);have b:=zH g;clear g pn hf
   go_upto_region 9 with(fail)
   clear tz A J q0 q1 q2 q3 q4 q5 q6;obtain⟨FB,pf⟩:=zE K.heap.size;obtain⟨W7,ph⟩:=zE (K.alloc (oB #[oe p.nm,ot ob 0 0,oy p.ret.1,oe p.ret.2,ot p.bA p.ss.length p.bC,Z U p.gl,Z U p.gc] 233));rw[pf,ph];have qq:=jJ ph;have qr:W7.heap[FB]?=oa (oB #[oe p.nm,ot ob 0 0,oy p.ret.1,oe p.ret.2,ot p.bA p.ss.length p.bC,Z U p.gl,Z U p.gc] 233 (0,0)):=by rw[<-ph,<-pf];exact alloc_at _ _
   have rI:=(qq.block N rB).trans b.out.r0;have rK:W7.heap.size=FB+1:=by rw[<-ph];simp[pf]
   obtain⟨⟨A,J⟩,_,tA⟩:=bg rI;obtain⟨⟨g0,g1,g2,g3,g4,g5,g6⟩,_,tB⟩:=bR qr;obtain⟨M,hM⟩:=zE W7.heap.size;have rL:=zH qq;have rN:=zH qr;have tD:=zH rK;have qs:=zH pf;clear ph qq qr rI rK pf
   go_upto_region 11 with(fail)
   obtain⟨W8,po⟩:=zE (W7.alloc (oB (zz p (X0 p) ⟨ob,0,ob,0,ob,0,ob,0⟩ 0 0 0) 236));have pp:=po;unfold zz X0 at pp;simp only at pp;rw[pp];(try rw[hM]);have pw:=jJ po;have rS:W8.heap[M]?=oa (oB (zz p (X0 p) ⟨ob,0,ob,0,ob,0,ob,0⟩ 0 0 0) 236 (0,0)):=by rw[<-po,<-hM];exact alloc_at _ _
   have qt:bj K.heap.size K W8:=rL.out.trans (pw.mono rL.out.size);have vh:FB+1=M:=by have:=tD.out;omega
   have tE:L<=M:=by have:=b.out.pg.lo;have:=qs.out;omega
   have se:Mk M p L (X0 p) [] [] [] (λ_=>fW) ⟨ob,0,ob,0,ob,0,ob,0⟩ W8:=⟨rS,b.out.pg.grow qt,tE,World.ownsRow_nil _ _ _ _,World.ownsRow_nil _ _ _ _,λk h=>by simp[eL] at h,λk h=>by simp[eL] at h,λk h=>by simp[eL] at h,λk h=>h.elim,λh=>gC rfl h,λh=>gC rfl h,λa h=>gC rfl h,by simp,by simp,by simp,by simp⟩
   have tG:=zH (pG W8 se (ti.out M) HO.out.ss HO.out.ne);have sf:=zH qt;have vi:=zH ((pw.block FB (by omega)).trans rN.out);have sg:=(pw.block FB (by omega)).trans rN.out;clear A J g0 g1 g2 g3 g4 g5 g6 tB tA;obtain⟨⟨g0,g1,g2,g3,g4,g5,g6⟩,_,tM⟩:=bR sg;clear po pp pw rS qt se sg
   go_loopw [9] (λk wr=>k= Z U 0/\wr=W8) (λ_ _=>0)
   case atStart=>exact⟨rfl,rfl⟩
   case round=>
    obtain⟨rfl,hq⟩:=hrel;rw[hq];clear hq wr
    go_upto_region 16 with(go_at_call 132;refine tG.out.mono ?_;rintro en w9 ⟨rfl,O9,d,qu,sk,sn⟩;have pi:=zH qu;have so:=zH sk;have vj:=zH sn;have u:=qu.row;clear qu sk sn)
    have tP:w9.cell? ⟨M,15,ob⟩=oa (Z U 0):=(rowAt u 15 rfl).1;have c4:w9.cell? ⟨M,4,ob⟩=oa (oe p.nm):=(rowAt u 4 rfl).1;have c5:w9.cell? ⟨M,5,ob⟩=oa (Z U 0):=(rowAt u 5 rfl).1;have c6:w9.cell? ⟨M,6,ob⟩=oa (ot d.vA V.length d.vC):=(rowAt u 6 rfl).1;have c7:w9.cell? ⟨M,7,ob⟩=oa (oy p.ret.1):=(rowAt u 7 rfl).1;have c8:w9.cell? ⟨M,8,ob⟩=oa (oe p.ret.2):=(rowAt u 8 rfl).1;have c9:w9.cell? ⟨M,9,ob⟩=oa (Z U 0):=(rowAt u 9 rfl).1;have tR:w9.cell? ⟨M,10,ob⟩=oa (ot ob 0 0):=(rowAt u 10 rfl).1;have oY:w9.cell? ⟨M,11,ob⟩=oa (ot d.iA I.length d.iC):=(rowAt u 11 rfl).1;have tS:=aa u;clear u g0 g1 g2 g3 g4 g5 g6 tM;have vm:decide ((300:ct)<(V.length:ct))=od:=er (by omega);have vn:decide ((3000:ct)<(I.length:ct))=od:=er (by omega);have vp:(V.length:ct)<=300:=by omega
    have vq:(I.length:ct)<=3000:=by omega
    go_upto_region 20 with(fail)
    have px:w9.heap[E]?=oa (oB #[ot (oa ⟨p.pA,0,ob⟩) 1 p.pC,ot ob 0 0] 25 (0,0)):=so.out.heap ((sf.out.block E (aa b.out.rE)).trans b.out.rE) (by have:=aa b.out.rE;have:=qs.out;rintro(h|h);omega;exact h);have sq:=aa px;obtain⟨S1,qv⟩:=zE ((λW'=>bj w9.heap.size w9 W'):World->Prop);have sr:∀W,S1 W->bj w9.heap.size w9 W:=λW h=>by rw[<-qv] at h;exact h
    have qS:∀W,bj w9.heap.size w9 W->S1 W:=λW h=>by rw[<-qv];exact h
    have vr:S1 w9.drew:=qS _ (an _ _).drew;have sx:∀W,S1 W->W.cell? ⟨E,1,ob⟩=oa (ot ob 0 0)/\W.cell? ⟨M,4,ob⟩=oa (oe p.nm)/\W.cell? ⟨M,5,ob⟩=oa (Z U 0)/\W.cell? ⟨M,6,ob⟩=oa (ot d.vA V.length d.vC)/\W.cell? ⟨M,7,ob⟩=oa (oy p.ret.1)/\W.cell? ⟨M,8,ob⟩=oa (oe p.ret.2)/\W.cell? ⟨M,9,ob⟩=oa (Z U 0)/\W.cell? ⟨M,10,ob⟩=oa (ot ob 0 0)/\W.cell? ⟨M,11,ob⟩=oa (ot d.iA I.length d.iC)/\M<W.heap.size/\E<W.heap.size:=λW hW=>by
     have hb:=sr W hW;have r1:=(hb.block M tS).trans pi.out.row;have r2:=(hb.block E sq).trans px;exact⟨(rowAt r2 1 rfl).1,(rowAt r1 4 rfl).1,(rowAt r1 5 rfl).1,(rowAt r1 6 rfl).1,(rowAt r1 7 rfl).1,(rowAt r1 8 rfl).1,(rowAt r1 9 rfl).1,(rowAt r1 10 rfl).1,(rowAt r1 11 rfl).1,aa r1,aa r2⟩
    have oR:=zH sx;have sy:=zH qS;have tU:=zH px;obtain⟨i0,tW,ua,ub,uc⟩:=iu vo;clear qv sr qS sx px tP c4 c5 c6 c7 c8 c9 tR oY;refine ai 9 S1 (by kernel_rfl) ?_;refine zT 0 rfl oR.out ?_;(try go_simp);refine zT 1 rfl oR.out ?_;(try go_simp);refine zT 2 rfl oR.out ?_;(try go_simp);refine zT 3 rfl oR.out ?_;(try go_simp);refine zT 4 rfl oR.out ?_;(try go_simp);refine zT 5 rfl oR.out ?_;(try go_simp);refine zO 6 rfl λK' R=> ?_;go_simp;obtain⟨G,hG⟩:=zE w9.heap.size;obtain⟨qT,py⟩:=zE ((w9.alloc (oB #[oe p.nm,Z U 0,ot d.vA V.length d.vC,oy p.ret.1,oe p.ret.2,Z U 0,ot ob 0 0,ot d.iA I.length d.iC] 38)).drew);(try rw[hG]);(try rw[py]);have pj:bj w9.heap.size w9 qT:=by rw[<-py];exact((an _ _).alloc (bl _) _).drew
    have sB:qT.heap[G]?=oa (oB #[oe p.nm,Z U 0,ot d.vA V.length d.vC,oy p.ret.1,oe p.ret.2,Z U 0,ot ob 0 0,ot d.iA I.length d.iC] 38 (0,0)):=by rw[<-py,<-hG];exact alloc_at _ _
    have ud:=pj.size;refine R _ _ (sy.out _ pj) ?_;clear R;(try go_simp);refine zO 7 rfl λK' R=> ?_;refine ay (.tmp 121) (.tmp 126) 23 rfl (E+1) 38 i0 _ 8 128 underlying23 tW ua ub uc rfl (by decide) (ot ob 0 0) 0 [] rfl (World.ownsRow_nil _ _ _ _) (oa ⟨G,0,ob⟩) 1 1 (Av p V.length I.length d) rfl rfl (λh=>by cases h) (λad ue jj uu hu=>by
     obtain rfl:(⟨G,0,ob⟩:Addr)=ad:=by simpa using ue
     rw[cI,cJ,ci _ _ _ _ _ _ sB];simpa[Av] using hu) (by simp[Av,bp]) (by unfold cX;omega) (by omega) (by omega) ?_
    intro vt oS pB sE ur;have sL:Ext (λ_=>fW) qT oS:=Ext.of_grown sE (λq hq=>by cases hq);have pD:bj w9.heap.size w9 oS:=pj.trans (sL.below pj.size (λq h=>h.elim));have sR:S1 oS:=sy.out _ pD;obtain⟨pH,oY,us,vu,vx⟩:=dn (n:=0) (by simpa using pB);subst us;refine R _ _ sR ?_;clear R;(try go_simp);refine zT 8 rfl oR.out ?_;(try go_simp);have pL:=(pD.block E sq).trans tU.out;have uv:=(rowAt pL 1 rfl).2;have ux:=(rowAt pL 1 rfl).1;refine zK rfl λK' R=> ?_;go_simp;refine R _ _ ?_;clear R;refine⟨by kernel_rfl, ?_⟩;obtain⟨WF,pk⟩:=zE (oS.setCell ⟨E,1,ob⟩ (ot (oa ⟨pH,0,ob⟩) (0+1) oY));have ra:=pk;simp only[cJ] at ra;(try rw[pk]);(try rw[ra]);have rb:Ext (·=E) oS WF:=by rw[<-pk];exact Ext.set1 oS E 1 _
    have sT:WF.heap[E]?=oa (oB #[ot (oa ⟨p.pA,0,ob⟩) 1 p.pC,ot (oa ⟨pH,0,ob⟩) 1 oY] 25 (0,0)):=by rw[<-pk];exact aq oS E 1 _ _ _ pL
    have pN:Ext (·=E) w9 WF:=(Ext.of_below_size pD).trans rb (λq h=> .inl h);have v:Ext (λq=>q=E\/q=M) K WF:=((Ext.of_below_size sf.out).trans (so.out.mono (λq h=>by rcases h with h|h;exact .inr h;exact h.elim)) (λq h=> .inl h)).trans (pN.mono (λq h=> .inl h)) (λq h=> .inl h);have vy:=aa b.out.rE;have wa:=qs.out;have va:=b.out.hE;have vc:=b.out.lN;have sX:=b.out.pg.ext v (λk o h=>by rcases h with h|h<;>omega);have sY:BC N E p L w WF (ot (oa ⟨pH,0,ob⟩) 1 oY):=⟨sX,vc,v.heap b.out.r0 (by rintro(h|h)<;>omega),v.heap b.out.r1 (by rintro(h|h)<;>omega),v.heap b.out.r2 (by rintro(h|h)<;>omega),sT,va,b.out.low.trans (v.below (by omega) (λq h=>by rcases h with h|h<;>omega))⟩
    have vd:cr (BS N E p L V I w (Z U 1) WF):= .inr ⟨rfl,d,pH,oY,sY,aD (af pi.out.vars pN (λk o e=>by have:=(ah pi.out.vars o).1;omega)) (by omega),aD (af pi.out.ins pN (λk o e=>by have:=(ah pi.out.ins o).1;omega)) (by omega),af (by simpa using pB) rb (λk o e=>by have:=(ah pB o).1;omega)⟩;clear pk ra rb sT pN v sX sY pB sE ur sL pD sR uv ux pL sB py pj hG ud;go_wp2;go_roundw
    case rel=>exact vd.out
    case measure=>simp[intOf]
  ·obtain⟨⟨A,J⟩,_,rB⟩:=bg g.r0
   obtain⟨⟨m0,m1⟩,_,wb⟩:=bg g.rE;obtain⟨⟨e0,e1⟩,⟨f0,f1⟩,we⟩:=bg g.r1;obtain⟨⟨d0,d1,d2,d3⟩,⟨g0,g1,g2,g3⟩,rh⟩:=ji g.r2;have pb:=g.r1;have pc:=g.r2;have q4:=g.pg.f 4 _ rfl;have b:=zH g;have HV:=zH hv;have HI:=zH hi;have HF:=zH hf;have pZ:=zH pb;have qe:=zH pc;clear g hv hi hf pb pc;go_wp2;(try simp only[cD,Exit.then]);have ta:∀W u0 u1,Ext (·=N+1) W ((W.setCell ⟨N+1,0,ob⟩ u0).setCell ⟨N+1,1,ob⟩ u1):=λW u0 u1=>ae (ae (Ext.refl _ _) _) _;have tc:∀W u0 u1 u2 u3,Ext (·=N+1+1) W ((((W.setCell ⟨N+1+1,0,ob⟩ u0).setCell ⟨N+1+1,1,ob⟩ u1).setCell ⟨N+1+1,2,ob⟩ u2).setCell ⟨N+1+1,3,ob⟩ u3):=λW u0 u1 u2 u3=>ae (ae (ae (ae (Ext.refl _ _) _) _) _) _;refine cP (bF rfl _ _ (N+1) (N+1+1) 25 113 _ _ (0,0) (0,0) _ _ rfl ((tc _ _ _ _ _).heap (aN pZ.out) (show¬N+1=N+1+1 by omega)) rfl (fe ((ta _ _ _).heap qe.out (show¬N+1+1=N+1 by omega))) i5 (by kernel_rfl) la (by kernel_rfl)) rfl ?_;have v:=((ta K (ot (oa ⟨p.pA,0,ob⟩) 1 p.pC) (ot (oa ⟨fA,0,ob⟩) 1 fC)).mono (λq h=>Or.inl h)).trans ((tc _ (Z U 0) (Z U 0) (Z U 0) (Z U 0)).mono (λq h=>Or.inr h)) (λq (h:q=N+1\/q=N+1+1)=> .inl h);have hE:=b.out.hE;have wg:=b.out.lN;have wi:=b.out.low.size;have wj:=y;refine⟨s,fA,fC,rfl,aD (af HV.out v (λk o h=>by have:=(ah HV.out o).1;rcases h with h|h<;>omega)) (by omega),aD (af HI.out v (λk o h=>by have:=(ah HI.out o).1;rcases h with h|h<;>omega)) (by omega),aD (af HF.out v (λk o h=>by have:=(ah HF.out o).1;rcases h with h|h<;>omega)) (by omega), ?_⟩;rw[y];exact b.out.low.trans (v.below (by omega) (λq h=>by rcases h with h|h<;>omega))
theorem sm_at {p:Pg}{L:bw}{o:World}(h:fK p L o){s:Sm}{e:Ex}(f:s∈p.ss)(d:s.es=[e]):∃g q,s.E= ot (oa ⟨g,0,ob⟩) 1 q/\g<L/\∀(j:bw)(u:bo),e.cells.toList[j]?=oa u->∀W,fK p L W->W.cell? ⟨g,j,ob⟩=oa u:=by
 rcases h.ex s f with⟨b,_⟩|⟨g,cap,b,v,K⟩
 ·rw[d] at b;cases b
 ·refine⟨g,cap,by rw[b,d];rfl,v,λj u y W A=> ?_⟩
  rcases A.ex s f with⟨a,_⟩|⟨D,N,a,R,G⟩
  ·rw[d] at a;cases a
  ·have J:g=D:=by
    rw[b] at a;simp only[ez,fa,nF] at a;exact a.1.1
   subst J;have:=G 0 e (by rw[d];rfl) j u y;simpa using this
section
variable {m:bw}{p:Pg}{L:bw}{X:Fx}{V V2:bh Ty}{I I2:bh dF}{S:bh (ap×bw)}
theorem xx {s:Sm}{e:Ex}{d:ct}(b:X.os= ot ob 0 0)(f:s∈p.ss)(j:s.kind=8)(o:s.es=[e])(q:I2.length+1<=1000)
  (u:∀W O a,Mk m p L X V I S O a W->et ac 217 #[ox (oa ⟨m,0,ob⟩),oA e.cells,oA #[oy X.rt.1,oe X.rt.2],Z U (-1)] W λe w'=>e= oE (Z U d)/\bB m p L X V2 I2 S O W w'):
  yB m p L X V I S s V2 (I2++[⟨18,0,d,0,0,s.ln,s.cl⟩]) S:=λW O a h=>by
 obtain⟨g,v,y,A,D⟩:=sm_at h.pg f o;have:=vk b s.ty.1 s.ty.2 s.nm g v e ⟨A,D⟩ d V2 I2 q u s.ln s.cl W h;unfold Sm.cells;rw[j,y];exact this
theorem ng {s:Sm}{e:Ex}{d:ct}(b:X.os= ot ob 0 0)(f:s∈p.ss)(j:s.kind=1)(o:s.es=[e])(q:V.length+1<=1000)(u:S.length+1<=1000)
  (v:∀W O a,Mk m p L X (V++[s.ty]) I S O a W->et ac 217 #[ox (oa ⟨m,0,ob⟩),oA e.cells,oA #[oy s.ty.1,oe s.ty.2],Z U (V.length:ct)] W λe w'=>e= oE (Z U d)/\bB m p L X V2 I2 S O W w'):
  yB m p L X V I S s V2 I2 (S++[(s.nm,V.length)]):=λW O a h=>by
 obtain⟨g,y,A,D,G⟩:=sm_at h.pg f o;have:=tC b s.ty s.nm g y e ⟨D,G⟩ d V2 I2 q u v s.ln s.cl W h;unfold Sm.cells;rw[j,A];exact this
end
def tF (w:World)(K:Pg->bh Ty->bh dF->Prop)(e:Ending)(w':World):Prop:=
 ∃p V I s a b,K p V I/\e= oE (.tuple #[oA (fM p V I s a b).cells,oA #[Z U 0,Z U 0,Z U 0,Z U 0]])/\(fM p V I s a b).inn w'/\bj w.heap.size w w'
theorem rH (s:ap)(R:bh uH)(n0:bw)(Q:bh lv->Prop)(snm nm:ap)(l:bh (ap×Ty))(y:Ty)(K:Pg->bh Ty->bh dF->Prop)(w:World)(hs:s.size<=1000000)(qe:jN s)(h0:s.size≠0)(hR:iP s n0 (dD s s.size 0)=oa R)
  (hT:∀T:bh Tok,T.map Tok.sig=R++[(5,⟨#[]⟩,0)]->∃oX,Q oX/\mX T snm l nm y oX)
  (hK:∀(p:Pg),Q (p.ss.map Sm.shp)->p.snm=snm->p.fs.map Fd.shp=l->p.nm=nm->p.ret=y->zy p/\p.nm.size<=cX/\p.snm.size<=cX/\(∀f∈p.fs,f.nm.size<=cX)/\p.fs.length<=1000000/\∃V I,K p V I/\V.length<=300/\I.length<=1000/\∀m L,ik m p L (X0 p) [] [] [] p.ss V I):
  et ac 52 #[oe s] w (tF w K):=by
 obtain⟨N,u⟩:=zE w.heap.size;obtain⟨d,o⟩:=zE ((w.alloc (oB #[ot ob 0 0,ot ob 0 0] 25)).alloc (oB #[Z U 0,Z U 0,Z U 0,Z U 0] 113));have pj:=oL o u;have pk:d.heap.size=N+2:=by rw[<-o];simp[u]
 have pl:=uG o u;have pm:=wy o u;have qk:=zH (ry s R n0 Q snm nm l y d hs qe h0 hR hT);have qn:cr (∀(w:World)(c:cC bo),c.size=4->(cM ⟨w.heap.size,0,ob⟩ [Z U 0,Z U 0,Z U 0,Z U 0] 0).run ac (w.alloc (oB c 113))= .ok () (w.alloc (oB #[Z U 0,Z U 0,Z U 0,Z U 0] 113))):=λw=>jF (w:=w);have pn:∀(w:World)(p:Pg)(c:cC bo),c.size=2->(cM ⟨w.heap.size,0,ob⟩ [ot (oa ⟨p.pA,0,ob⟩) 1 p.pC,ot (oa ⟨p.qA,0,ob⟩) 1 p.qC] 0).run ac (w.alloc (oB c 179))= .ok () (w.alloc (oB #[ot (oa ⟨p.pA,0,ob⟩) 1 p.pC,ot (oa ⟨p.qA,0,ob⟩) 1 p.qC] 179)):=λw p c hc=>
  cf (P:=ac) w 179 c #[ot (oa ⟨p.pA,0,ob⟩) 1 p.pC,ot (oa ⟨p.qA,0,ob⟩) 1 p.qC] (by show _=oa 2;kernel_rfl) hc (by simp[bp])
 have qq:=zH pn;have HK:=zH hK;have qr:=zH o;have qs:=zH pj;have g:=zH pk;have qt:=zH pl;have qu:=zH pm;clear hR hT o pj pk pl pm pn hK;go_enter func52,ntmps52
 go_upto_region 1 with(fail)
 rw[qr.out]
 go_upto_region 2 with(go_at_call 92;refine qk.out.mono ?_;rintro e w3 ⟨oX,hQ,p,rfl,p1,p2,p3,p4,p5,po,pp⟩;unfold Pg.cells;have qv:=zH p1;have qS:=zH p2;have qT:=zH p3;have ra:=zH p4;have rb:=zH p5;have HQ:=zH hQ;have j:=zH po;have pw:=zH pp;clear p1 p2 p3 p4 p5 hQ po pp)
 obtain⟨D,J⟩:=zE w3.heap.size;obtain⟨a,A⟩:=zE ((w3.alloc (oB #[ot (oa ⟨p.pA,0,ob⟩) 1 p.pC,ot (oa ⟨p.qA,0,ob⟩) 1 p.qC] 179)).alloc (oB #[Z U 0,Z U 0,Z U 0,Z U 0] 113));rw[J,A];have b:=BG A;have px:bj d.heap.size d a:=pw.out.trans (b.mono pw.out.size);have py:=uG A J;have pB:=wy A J;obtain⟨Y,hn,pD,pH,oY,V,I,pL,lV,lI,hst⟩:=HK.out p (by rw[rb.out];exact HQ.out) qv.out qS.out qT.out ra.out;have pN:=wM j.out oY (by have:=Y.ss;omega);have rc:cr (et ac 93 #[oA #[ot (oa ⟨p.pA,0,ob⟩) 1 p.pC,ot (oa ⟨p.qA,0,ob⟩) 1 p.qC]] a (wN a p V I)):=pI a (pN.grow b) Y (λm=>hst m _) lV lI;have HO:=zH Y;have oR:=zH (And.intro hn (And.intro pD (And.intro pH oY)));have re:=zH pL;have pb:=zH px;have G:cr (p.inn d.heap.size a):=⟨ownsRow_below j.out.fields b,ownsRow_below j.out.strs b,ownsRow_below j.out.stmts b,λx hx=>(j.out.exprs x hx).ext (Ext.of_below_size (M:=λ_=>fW) b) (λ_ _ _ h=>h),ownsRow_below j.out.fns b⟩
 obtain⟨⟨a0,a1⟩,_,rm⟩:=bg py;obtain⟨⟨e0,e1,e2,e3⟩,_,rn⟩:=ji pB;clear J A b px py pB Y hn pD pH oY pL hst pN qq qn j
 go_upto_region 4 with(fail)
 clear e0 e1 e2 e3
 go_wp2_with (go_at_call 93;refine rc.out.mono ?_;rintro e w6 ⟨s6,fA,fC,rfl,hv,hi,hf,pc⟩;unfold Mo.cells;have HV:=zH hv;have HI:=zH hi;have HF:=zH hf;have rh:=zH pc;have oS:=pb.out.trans (pc.mono pb.out.size);have pP:=zH oS;have pd:=(oS.block N (by rw[g.out];omega)).trans qt.out;have pf:=(oS.block (N+1) (by rw[g.out];omega)).trans qu.out;have rj:=zH pd;have rk:=zH pf;obtain⟨⟨b0,b1⟩,⟨d0,d1⟩,ro⟩:=bg pd;obtain⟨⟨g0,g1,g2,g3⟩,⟨f0,f1,f2,f3⟩,rr⟩:=ji pf;clear hv hi hf pc oS pd pf)
 (try simp only[cD,Exit.then]);have pS:∀W u0 u1,Ext (·=N) W ((W.setCell ⟨N,0,ob⟩ u0).setCell ⟨N,1,ob⟩ u1):=λW u0 u1=>ae (ae (Ext.refl _ _) _) _;have pT:∀W u0 u1 u2 u3,Ext (·=N+1) W ((((W.setCell ⟨N+1,0,ob⟩ u0).setCell ⟨N+1,1,ob⟩ u1).setCell ⟨N+1,2,ob⟩ u2).setCell ⟨N+1,3,ob⟩ u3):=λW u0 u1 u2 u3=>ae (ae (ae (ae (Ext.refl _ _) _) _) _) _;refine cP (bF rfl _ _ N (N+1) 25 113 _ _ (0,0) (0,0) _ _ rfl ((pT _ _ _ _ _).heap (aN rj.out) (show¬N=N+1 by omega)) rfl (fe ((pS _ _ _).heap rk.out (show¬N+1=N by omega))) i5 (by kernel_rfl) la (by kernel_rfl)) rfl ?_;have ph:Ext (λq=>q=N\/q=N+1) w6 _:=((pS w6 (ot (oa ⟨p.pA,0,ob⟩) 1 p.pC) (ot (oa ⟨fA,0,ob⟩) 1 fC)).mono (λq h=> .inl h)).trans (pT _ (Z U 0) (Z U 0) (Z U 0) (Z U 0)) (λq h=> .inl (.inr h));have rv:N+2<=a.heap.size:=by rw[<-g.out];exact pb.out.size
 have pZ:Ext (λq=>q=N\/q=N+1) a _:=(Ext.of_below_size rh.out).trans ph (λq h=> .inl h);have oT:∀{e:eJ}{size n:bw}{v:bo}{xs:bh bo},a.ownsRow d.heap.size e size v n xs->_:=λ{e size n v xs} h=>af (e:=e) (size:=size) (n:=n) (v:=v) (xs:=xs) h pZ (λq hq e=>by have:=(ah h hq).1;have:=g.out;omega);have pi:∀{e:eJ}{size n:bw}{v:bo}{xs:bh bo},w6.ownsRow a.heap.size e size v n xs->_:=λ{e size n v xs} h=>af (e:=e) (size:=size) (n:=n) (v:=v) (xs:=xs) h ph (λq hq e=>by have:=(ah h hq).1;omega);have rl:p.inn d.heap.size _:=⟨oT G.out.fields,oT G.out.strs,oT G.out.stmts,λs hs=>(G.out.exprs s hs).ext pZ (λq h1 _ e=>by have:=g.out;omega),oT G.out.fns⟩
 refine⟨p,V,I,s6,fA,fC,re.out,rfl,yD (wM rl oR.out.2.2.2 (by have:=HO.out.ss;omega)) oR.out.1 oR.out.2.1 oR.out.2.2.1 (pi HV.out) (pi HI.out) (pi HF.out) (by omega) lI, ?_⟩;rw[u];exact qs.out.trans ((pP.out.mono (by rw[g.out];omega)).trans (ph.below (cv (by rw[g.out];omega) pP.out.size) (λq h=>by omega)))
def nk (a b:bw->ct):bw->bh uH->bh Tok
 |_,[]=>[]
 |i,g::r=>⟨g.1,g.2.1,g.2.2,a i,b i⟩::nk a b (i+1) r
theorem qh {ln cl:bw->ct}:∀(R:bh uH)(T:bh Tok)(i:bw),T.map Tok.sig=R->(∀(k:bw)(t:Tok),T[k]?=oa t->t.ln=ln (i+k)/\t.cl=cl (i+k))->T=nk ln cl i R
 |[],T,i,h,_=>by unfold nk;simpa using h
 |g::R,[],_,h,_=>by simp at h
 |g::R,t::T,i,h,f=>by
  rw[kj] at h;obtain⟨j,o⟩:=List.cons.inj h;unfold nk;obtain⟨a,b,c,d,e⟩:=t;have h0:=f 0 _ rfl;rw[ix] at h0;rw[<-qh R T (i+1) o (λk t q=>by rw[show i+1+k=i+(k+1) by omega];exact f (k+1) t (by simpa using q)),<-j,<-h0.1,<-h0.2];rfl
theorem zB (R:bh uH)(T:bh Tok)(h:T.map Tok.sig=R):∃ln cl:bw->ct,T=nk ln cl 0 R:=
 ⟨λi=>(T[i]?.map Tok.ln).getD 0,λi=>(T[i]?.map Tok.cl).getD 0,qh R T 0 h (λk t a=>by rw[cJ,a];exact⟨rfl,rfl⟩)⟩
theorem xy {A:bh Tok}{e:Tok}(h:(A.all λt=>t.kind != 5)=oc)(f:e.kind=5):uV (A++[e]):=by
 intro k t a;rw[cm,eE];rw[List.getElem?_append] at a
 by_cases b:k<A.length
 ·rw[cQ b] at a
  have:=gS.1 h t (cA a);have g:t.kind≠5:=by simpa using this
  constructor
  ·intro d;exact gC d g
  ·intro d;omega
 ·rw[cy b] at a
  have j:k-A.length=0:=by
   cases o:k-A.length with
   |zero=>rfl
   |succ q=>rw[o] at a;simp at a
  rw[j] at a;obtain rfl:e=t:=by simpa using a
  constructor
  ·intro _;omega
  ·intro _;exact f
theorem vw {s:ap}(h:(s.data.toList.all λb=>b != 47)=oc):jN s:=by
 intro i;unfold bY
 by_cases a:i<s.size
 ·rw[dif_pos a]
  have d:s[i]'a∈s.data.toList:=by
   have:s[i]'a=s.data[i]'a:=rfl;rw[this];simp
  have:=gS.1 h _ d;intro e;have f:(s[i]'a).toNat=47:=by omega
  have g:s[i]'a=47:=UInt8.toNat_inj.1 f;rw[g] at this;exact gC this (by decide)
 ·rw[dif_neg a];decide
def bS:ap:=⟨#[83]⟩
def Bn:ap:=⟨#[110]⟩
def yG:ap:=⟨#[97]⟩
def BM:ap:=⟨#[98]⟩
theorem yH {m:bw}{p:Pg}{L:bw}{X:Fx}{V:bh Ty}{I:bh dF}(ss:bh Sm)(h:p.ss=ss)(a:ik m p L X [] [] [] ss V I):ik m p L X [] [] [] p.ss V I:=by rw[h];exact a
theorem vB {m:bw}{p:Pg}{L:bw}{X:Fx}{V:bh Ty}{I:bh dF}{S:bh (ap×bw)}(y:Ty)(a:ap)(b d:ct)(hst:jR p a=0)(q:V.length+2<=1000)(g:I.length+1<=1000):
  ∀W O f,Mk m p L X (V++[y]) I S O f W->et ac 217 #[ox (oa ⟨m,0,ob⟩),oA (⟨7,0,a,b,d⟩:Ex).cells,oA #[oy y.1,oe y.2],Z U (V.length:ct)] W λe w'=>e= oE (Z U (V.length:ct))/\bB m p L X (V++[y]) (I++[⟨12,(V.length:ct),0,0,0,b,d⟩]) S O W w':=λW O f h=>by
 have:=tu 0 a b d y (V.length:ct) W h (by simp;omega) g;have j:uI (V.length:ct) (V++[y])=(V.length:ct):=by unfold uI;rw[cQ (by omega)]
 have o:yA (V.length:ct) (V++[y]) (oc,a)=V++[y]:=by unfold yA;rw[cQ (by omega)]
 rw[j,o,hst] at this;exact this
theorem tH {m:bw}{p:Pg}{L:bw}{X:Fx}{V:bh Ty}{I:bh dF}{S:bh (ap×bw)}(y:Ty)(a:ap)(b d:ct)(j:bw)(z:ap×bw)(g:S[j]?=oa z)(o:(z.1==a)=oc)(v:∀q y,j<q->S[q]?=oa y->(y.1==a)=od)(u:Ty)(A:(V++[y])[z.2]?=oa u)(D:u.1=oc)(J:V.length+2<=1000)(G:I.length+1<=1000):
  ∀W O f,Mk m p L X (V++[y]) I S O f W->et ac 217 #[ox (oa ⟨m,0,ob⟩),oA (⟨2,0,a,b,d⟩:Ex).cells,oA #[oy y.1,oe y.2],Z U (V.length:ct)] W λe w'=>e= oE (Z U (V.length:ct))/\bB m p L X (V++[y]) (I++[⟨9,(V.length:ct),(z.2:ct),0,0,b,d⟩]) S O W w':=λW O f h=>
 rG 0 a b d y (V.length:ct) j z g o v u A (by omega) D W h (by simp;omega) G
theorem vD {m:bw}{p:Pg}{L:bw}{X:Fx}{V:bh Ty}{I:bh dF}{S:bh (ap×bw)}(n:ct)(a b:ct)(f:V.length+1<=1000)(g:I.length+1<=1000):
  ∀W O d,Mk m p L X V I S O d W->et ac 217 #[ox (oa ⟨m,0,ob⟩),oA (⟨1,n,⟨#[]⟩,a,b⟩:Ex).cells,oA #[oy X.rt.1,oe X.rt.2],Z U (-1)] W λe w'=>e= oE (Z U (V.length:ct))/\bB m p L X (V++[bG]) (I++[⟨1,(V.length:ct),0,0,n,a,b⟩]) S O W w':=λW O d h=>by
 have:=tq n ⟨#[]⟩ a b X.rt (-1) W h f g;have j:uI (-1) V=(V.length:ct):=by unfold uI;rw[cy (by omega)]
 have o:yA (-1) V bG=V++[bG]:=by unfold yA;rw[cy (by omega)]
 rw[j,o] at this;exact this
theorem Bo (a:ap)(S:bh (ap×bw))(h:(S.drop 1).all (λy=> !(y.1==a))=oc):∀q y,0<q->S[q]?=oa y->(y.1==a)=od:=by
 intro q y f b;have d:y∈S.drop 1:=by
  obtain⟨k,rfl⟩:∃k,q=1+k:=⟨q-1,by omega⟩
  have:(S.drop 1)[k]?=oa y:=by rw[List.getElem?_drop];exact b
  exact cA this
 have:=gS.1 h y d;simpa using this
theorem rJ {p:Pg}(h:p.fs.map Fd.shp=[(Bn,(oc,bS))]):∃a,p.fs=[a]/\a.ty=(oc,bS)/\a.nm=Bn:=by
 match hfs:p.fs,h with
 |[a],h=>
  simp only[kj,List.map_nil,nx,and_true,Fd.shp,lR] at h;exact⟨a,rfl,h.2,h.1⟩
 |[],h=>simp at h
 |_::_::_,h=>simp at h
end Go.Proofs.YtjomgckjhcfbgaaGreat
