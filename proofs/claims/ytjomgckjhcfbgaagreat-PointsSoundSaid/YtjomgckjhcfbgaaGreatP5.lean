/- Walks. -/
import Derived.Test.YtjomgckjhcfbgaaGreatY13
import Derived.Test.YtjomgckjhcfbgaaGreatY11
import Derived.Test.YtjomgckjhcfbgaaGreatP4
set_option maxRecDepth 100000
set_option maxHeartbeats 64000000
set_option linter.all false
namespace Go.Proofs.YtjomgckjhcfbgaaGreat
open Go.RowKit
open _root_.List renaming getElem?_eq_getElem→ac,getElem?_eq_some_iff→ag,mem_of_getElem?→ap,replicate→bc,mem_singleton→bw,length_append→ca,length_singleton→cb,getElem?_map→cd,mem_append→cv,dropLast_concat_getLast→dv
open _root_.Int renaming toNat_natCast→am
open _root_ renaming Int→aq,if_neg→bl,Nat→bo,List→bq,if_pos→bx,beq_false_of_ne→bD,absurd→cm,decide_eq_false→cG,Option→cL
open Go.Proofs.Tryz renaming prog→aw,underlying67→du
open Go.RowKit.Below renaming refl→ba
open Go.IntKind renaming wrap_i64→bb,i64→bs,i64→U
open Go renaming seen→bd,frozen_of_row→bm,Value→cy,cell_of_row→cE,results_none→df
open Go.RowKit renaming Below→bt,Hid→cU
open _root_.Nat renaming le_refl→bA,zero_add→ch,le_trans→ci,zero_le→dt
open _root_.Classical renaming byContradiction→b7
open Go.Addr renaming add_lit→cf
open Go.Value.slice renaming injEq→cz
open Go.Value renaming ownBlock→cC,oneCell'→cP,slice→ee,pointer→eg,bool→eh,agg→ei,int→Z
open _root_.Option renaming some→dy,none→dD
open _root_.Bool renaming true→dS,false→dT
open Go.Obj renaming cells→el
open Go.Ending renaming returned→em
open Go.Proofs.Tryz
theorem Kj:(aw.info? 83).map (λi=>(i.zero,i.size,i.bytes))=dy (dy (ei #[Z U 0,Z U 0,Z U 0,Z U 0]),4,32):=by kernel_rfl
theorem Ja {P:Program}{f:Array Oper}{Q:Exit->Act->World->Prop}{v:Region.Mode}{S:World->Prop}(i:bo){z:Oper}{A:bo}{u:Array Bool}{a:Act}{w:World}(C:f[i]?=dy z)
  (h:jr P v f Q S A (u.setIfInBounds i dS) (a.put z.dst undef) w)
  (D:Region.wanted z (yielded f a.tmps)=dT:=by rfl)
  (E:Region.noSelect f=dS:=by kernel_rfl)(G:Region.free v f u i=dS:=by kernel_rfl)(I:(Region.ready v f u).contains i=dS:=by kernel_rfl)(J:u[i]?=dy dT:=by kernel_rfl)
  (L:∀c a w,Q (.panic c) (a.put z.dst undef) w->Q (.panic c) a w:=by exact λ_ _ _ h=>h)(N:S w:=by assumption):jr P v f Q S (A+1) u a w:=
 oW C (Region.noSelect_spec E) L A u a w (Region.free_spec C G) (by simpa using I) J (.inr ⟨D,rfl⟩) N h
def Kk (m:Mo)(x:Sn):Prop:=∃(f v y:bo),x.f=(f:aq)/\x.v=(v:aq)/\(aj m.xi)[y]?=dy x.st/\m.lf (av (f:aq) (v:aq)) y
section
variable {R H:bo}{m:Mo}{B:bo}{tg:bo->WT}{s:IY}{cs:bq Cl}{stk:bq Fr}{bd:bq Sn}{w w':World}{r:Fr}{pre:bq Fr}
def Kl (s f:IY):Prop:=∃A K,f={s with seA:=A,seK:=K}
theorem Kl.refl (s:IY):Kl s s:=⟨s.seA,s.seK,rfl⟩
theorem Kl.trans {a b c:IY}(f:Kl a b)(h:Kl b c):Kl a c:=by
 obtain⟨A,K,rfl⟩:=f;obtain⟨u,v,rfl⟩:=h;exact⟨u,v,rfl⟩
def Jq (R H:bo)(m:Mo)(B:bo)(tg:bo->WT)(s:IY)(cs:bq Cl)(stk:bq Fr)(bd:bq Sn)(w:World)(e:Ending)(w':World):Prop:=
 e= em (.tuple #[])/\∃f:bq Sn,(∀x∈f,x∈bd\/Kk m x)/\f.length<=bd.length+300/\Bb R H m B tg w cs stk f (Kl s) w'
theorem JO (w:World)(h:Wm R H m B tg s cs [] bd w):Calls aw 76 #[eg (dy ⟨R,0,dD⟩)] w (Jq R H m B tg s cs [] bd w):=by
 have v:w.cell? ⟨R,3,dD⟩=dy (ee s.stA 0 s.stK):=zR (h.x.run (by simp)) 3 _;have z:=ae (h.x.run (by simp));have f:cU (Jq R H m B tg s cs [] bd w (em (.tuple #[])) w):=⟨rfl,bd,λx u=> .inl u,by omega,h.refl.imp (λA e=>by rw[e];exact Kl.refl s)⟩
 clear h;go_enter func76,ntmps76;go_wp2
 ((try simp only[Exit.inBlock,Exit.then]);(try rw[Exit.noGoto_ret]);(first|refine bodyPost_ret (df rfl _ _ _) rfl ?_|refine bodyPost_end (df rfl _ _ _) rfl ?_));exact f.out
theorem JE (w:World)(h:Wm R H m B tg s cs (pre++[r]) bd w)(ge:J5 m B w)(hr:bf m=0)(hI:yC m cs (pre++[r]))(ky:m.fs.length<=60)(kA:cs.length<=50000)(kB:pre.length<=50000)(kL:bd.length<=1000000):
  Calls aw 76 #[eg (dy ⟨R,0,dD⟩)] w (Jq R H m B tg s cs (pre++[r]) bd w):=by
 obtain⟨g,hg,i9,gg,gh⟩:=hI.frame;have gi:=ap hg;have gj:=jm ((dJ hr).2.2.2.2.1 g gi);have kO:=(ag.1 hg).1;obtain⟨gs,gl,jj,jn,p0,p1,p2⟩:=h.frameAt (Ba pre r);obtain⟨K,J⟩:=zE pre.length;have r3:w.cell? ⟨R,3,dD⟩=dy (ee (dy ⟨gs,0,dD⟩) (K+1) s.stK):=by
  have:=h.x.run (by simp);rw[show(pre++[r]).length=K+1 by rw[<-J];simp] at this;rw[<-gl];exact zR this 3 _
 have jp:=ae (h.x.run (by simp));rw[J] at p0 p1 p2;have kT:bs.wrap ((K:aq)+1-1)=(K:aq):=by rw[bb];omega
 have k1:bs.wrap (((K+1:bo):aq)-1)=(K:aq):=by rw[bb];omega
 have k2:bs.wrap (K:aq)=(K:aq):=by rw[bb];omega
 have k3:(K:aq)<((K+1:bo):aq):=by omega
 have k4:(K:aq)<(K:aq)+1:=by omega
 have k5:(((K+1:bo):aq)==0)=dT:=by simp;omega
 have k6:((K:aq)+1==0)=dT:=by simp;omega
 have H0:=zH h;have HG:=zH hg;have js:=zH gh;have jt:=zH gj;have ju:=zH ge;have k7:=zH hI;have k8:=zH hr;have eW:=zH gg;have k9:=zH J;clear h hg gh gj ge hI hr gg i9 gi jn gl J;go_enter func76,ntmps76
 go_upto_region 1 with(fail)
 obtain⟨V,hV⟩:=zE w.drew;have ff:bt w.heap.size w V:=by rw[<-hV];exact(ba _ _).drew
 obtain⟨S1,eA⟩:=zE ((λW=>bt w.heap.size w W):World->Prop);have eC:cU (∀W,bt w.heap.size w W->S1 W):=λW C=>by rw[<-eA];exact C
 have jx:S1 V:=eC.out _ ff;have A:cU (∀W,S1 W->W.cell? ⟨R,3,dD⟩=dy (ee (dy ⟨gs,0,dD⟩) (K+1) s.stK)/\R<W.heap.size/\gs<W.heap.size):=λW C=>by
  rw[<-eA] at C;have hs:=C.size;exact⟨by rw[C.cell (p:=⟨R,3,dD⟩) jp];exact r3,by omega,by omega⟩
 have gm:cU (∀W,S1 W->∀j u,(#[Z U (r.f:aq),Z U (r.pc:aq),ee (dy ⟨r.b,0,dD⟩) r.v.length r.v.length]:Array cy).toList[j]?=dy u->W.cell? ((⟨gs,K*3,dD⟩:Addr).add j)=dy u):=λW C j u I=>by
  rw[<-eA] at C;rw[cf,C.cell (p:=⟨gs,K*3+j,dD⟩) jj]
  match j,I with
  |0,I=>simp at I;subst I;exact p0
  |1,I=>simp at I;subst I;exact p1
  |2,I=>simp at I;subst I;exact p2
 have ep:=zH ff;have HV:=zH hV;clear eA ff hV p0 p1 p2 r3;refine bL S1 (by kernel_rfl) ?_;(try rw[HV.out]);refine yT 0 rfl A.out ?_;(try go_simp);refine yT 1 rfl A.out ?_;(try go_simp);refine yT 2 rfl A.out ?_;(try go_simp);refine yT 3 rfl A.out ?_;(try go_simp);refine yT 4 rfl A.out ?_;(try go_simp);refine yT 5 rfl A.out ?_;(try go_simp);refine yT 6 rfl A.out ?_;(try go_simp);refine yT 7 rfl A.out ?_;(try go_simp);refine yT 8 rfl A.out ?_;(try go_simp);refine yT 9 rfl A.out ?_;(try go_simp);refine yT 10 rfl A.out ?_;(try go_simp);refine yL 11 rfl 218 ⟨gs,K*3,dD⟩ gm.out underlying218 ?_;(try go_simp);refine yO 12 rfl λK' J=> ?_;go_simp;obtain⟨D,hD⟩:=zE V.heap.size;obtain⟨Q,et⟩:=zE (V.alloc (el #[Z U (r.f:aq),Z U (r.pc:aq),ee (dy ⟨r.b,0,dD⟩) r.v.length r.v.length] 218));have fg:=JD r (w:=V);rw[hD,et] at fg;have gn:bt w.heap.size w Q:=by rw[<-et];exact ep.out.alloc ep.out.size _
 have gr:Q.heap[D]?=dy (el #[Z U (r.f:aq),Z U (r.pc:aq),ee (dy ⟨r.b,0,dD⟩) r.v.length r.v.length] 218 (0,0)):=by rw[<-et,<-hD];exact alloc_at _ _
 have eE:=zH gn;have gw:=zH gr;have la:w.heap.size<=D:=by rw[<-hD];exact ep.out.size
 (try rw[hD]);refine J _ _ (eC.out _ (ep.out.alloc ep.out.size _)) ?_;have gz:=zH et;clear J gn gr et;(try go_simp);refine yO 13 rfl λK' J=> ?_;go_simp;(try simp only[fg]);(try go_simp);(try rw[gz.out]);refine J _ _ (eC.out _ eE.out) ?_;clear J fg;refine⟨by kernel_rfl, ?_⟩;clear jx A gm eC HV hD ep gz;have gA:tg D= .no:=b7 λq=>by have:=(H0.out.lo D q).2;omega
 have gC:=zH gA;have h2:=H0.out.grow eE.out;have jz:=zH (show J5 m B Q from ju.out.ext (Ext.of_below_size (M:=λ_=>False) eE.out) (λ_ q=>q.elim));have lb:r.v.length<=300:=by rw[eW.out];exact jt.out.1
 have j0:cU (Bb R H m B tg Q cs (pre++[r]) bd (Kl s) Q):=h2.refl.imp (λs' e=>by rw[e];exact Kl.refl s);clear h2 gA
 go_upto_region 3 with(fail)
 go_loopw [3] (λkk wr=>∃(j:bo) (L:bq Sn),j<=r.v.length/\kk= Z U (j:aq)/\(∀x∈L,x∈bd\/Kk m x)/\L.length<=bd.length+j/\Bb R H m B tg Q cs (pre++[r]) L (Kl s) wr) (λkk _=>r.v.length-(intOf kk).toNat)
 case atStart=>exact⟨0,bd,dt _,rfl,λx hx=> .inl hx,by omega,j0.out⟩
 case round=>
  obtain⟨j,L,hj,rfl,eI,ld,fh,N,P,e2,Y,t2⟩:=hrel;have eq:=Y.heap gw.out (λq=>q gC.out);have j1:=ae eq;have d0:wr.cell? ⟨D,0,dD⟩=dy (Z U (r.f:aq)):=zR eq 0 _;have d2:wr.cell? ⟨D,2,dD⟩=dy (ee (dy ⟨r.b,0,dD⟩) r.v.length r.v.length):=zR eq 2 _
  by_cases fi:j<r.v.length
  ·obtain⟨p,hp⟩:∃p,r.v[j]?=dy p:=⟨_,ac fi⟩
   obtain⟨vr,ev⟩:∃vr,g.vs[j]?=dy vr:=⟨_,ac (by rw[<-eW.out];exact fi)⟩
   have gE:=js.out j vr p ev hp;have j2:(j:aq)<(r.v.length:aq):=by omega
   have le:(j:aq)<(g.vs.length:aq):=by rw[<-eW.out];exact j2
   have li:(r.f:aq)<(m.fs.length:aq):=by omega
   have fj:=P.x.fr pre.length r (Ba pre r) (by simp);have d4:wr.cell? ⟨r.b,j,dD⟩=dy (Z U p):=fj.cell hp;have lj:=ae fj;have fk:=jz.out.ext Y (λk hk=>(H0.out.lo k hk).1);obtain⟨fb,fo,gO,j4,gR⟩:=fk.inn.frow (λe=>by have:=HG.out;rw[e] at this;simp at this);have fm:=fk.inn.fin g (ap HG.out);obtain⟨vb,vo,gS,j5,g6⟩:=fm.vars (λe=>by rw[e] at ev;simp at ev);have f2:=gR r.f g HG.out 2 _ rfl;rw[gS,fm.nvars] at f2;have v0:=g6 j vr ev 0 _ rfl;rw[Nat.add_zero] at v0;have g7:wr.cell? ⟨R,1,dD⟩=dy (ee (dy ⟨fb,fo,dD⟩) m.fs.length m.fC):=by rw[<-gO];exact zR (P.x.run (by simp)) 1 _
   have j6:wr.cell? ⟨R,2,dD⟩=dy (eg (dy ⟨H,0,dD⟩)):=zR (P.x.run (by simp)) 2 _;have j7:=ae (P.x.run (by simp));obtain⟨b,fp⟩:=zE vr.ptr;rw[fp] at v0;obtain⟨S3,ft⟩:=zE ((λW=>W=wr.drew):World->Prop);have j8:S3 wr.drew:=by rw[<-ft]
   have A:cU (∀W,S3 W->W.cell? ⟨R,1,dD⟩=dy (ee (dy ⟨fb,fo,dD⟩) m.fs.length m.fC)/\W.cell? ⟨D,0,dD⟩=dy (Z U (r.f:aq))/\W.cell? ⟨fb,fo+r.f*8+2,dD⟩=dy (ee (dy ⟨vb,vo,dD⟩) g.vs.length g.c.varsC)/\W.cell? ⟨vb,vo+j*3,dD⟩=dy (eh b)/\R<W.heap.size/\D<W.heap.size/\fb<W.heap.size/\vb<W.heap.size):=λW C=>by
    rw[<-ft] at C;subst C;exact⟨g7,d0,f2,v0,j7,j1,j4,j5⟩
   have ew:cU (Bb R H m B tg Q cs (pre++[r]) L (Kl s) wr.drew):=⟨fh,N,P.grow (ba _ _).drew,e2,Y.trans (Ext.of_below_size (M:=λ_=>False) (ba _ _).drew) (λ_ q=>q.elim),t2⟩
   have j9:=zH P;have ka:=zH Y;have fx:=zH t2;have kb:=zH e2;have fy:=zH eI;have kc:=zH gE;have kd:=zH fp;have g9:=zH eq;clear ft gO gR fm gS g6 P Y t2 e2 eI gE fp eq fk fj g7 f2 v0 hp ev
   go_upto_region 6 with(fail)
   clear d2 d4;refine bL S3 (by kernel_rfl) ?_;cases b with
   |false=>
    refine yT 0 rfl A.out ?_;(try go_simp);refine yT 1 rfl A.out ?_;(try go_simp);refine yT 2 rfl A.out ?_;(try go_simp);refine yT 3 rfl A.out ?_;(try go_simp);refine yT 4 rfl A.out ?_;(try go_simp);refine yT 5 rfl A.out ?_;(try go_simp);refine yT 6 rfl A.out ?_;(try go_simp);refine yT 7 rfl A.out ?_;(try go_simp);refine yT 8 rfl A.out ?_;(try go_simp);refine yT 9 rfl A.out ?_;(try go_simp);refine yT 10 rfl A.out ?_;(try go_simp);refine yT 11 rfl A.out ?_;(try go_simp);refine yT 12 rfl A.out ?_;(try go_simp);refine yT 13 rfl A.out ?_;(try go_simp);refine yT 14 rfl A.out ?_;(try go_simp);refine yT 15 rfl A.out ?_;(try go_simp);refine Ja 16 rfl ?_;(try go_simp);refine Ja 17 rfl ?_;(try go_simp);refine yT 18 rfl A.out ?_;(try go_simp);refine⟨by kernel_rfl, ?_⟩;go_wp2;go_roundw
    case rel=>exact⟨j+1,L,by omega,by go_num,fy.out,by omega,ew.out⟩
    case measure=>simp[intOf];omega
   |true=>
    refine yT 0 rfl A.out ?_;(try go_simp);refine yT 1 rfl A.out ?_;(try go_simp);refine yT 2 rfl A.out ?_;(try go_simp);refine yT 3 rfl A.out ?_;(try go_simp);refine yT 4 rfl A.out ?_;(try go_simp);refine yT 5 rfl A.out ?_;(try go_simp);refine yT 6 rfl A.out ?_;(try go_simp);refine yT 7 rfl A.out ?_;(try go_simp);refine yT 8 rfl A.out ?_;(try go_simp);refine yT 9 rfl A.out ?_;(try go_simp);refine yT 10 rfl A.out ?_;(try go_simp);refine yT 11 rfl A.out ?_;(try go_simp);refine yT 12 rfl A.out ?_;(try go_simp);refine yT 13 rfl A.out ?_;(try go_simp);refine yT 14 rfl A.out ?_;(try go_simp);refine yT 15 rfl A.out ?_;(try go_simp);refine yT 16 rfl A.out ?_;(try go_simp);refine yT 17 rfl A.out ?_;(try go_simp);refine yT 18 rfl A.out ?_;(try go_simp);refine⟨by kernel_rfl, ?_⟩
    by_cases lk:0<p
    rotate_left
    ·go_wp2
     go_roundw
     case rel=>exact⟨j+1,L,by omega,by go_num,fy.out,by omega,ew.out⟩
     case measure=>simp[intOf];omega
    obtain⟨ke,kf,hC⟩:=kc.out.2 kd.out;obtain⟨k,rfl⟩:∃k:bo,p=(k:aq)+1:=⟨(p-1).toNat,by omega⟩
    obtain⟨q,y,er,hE,hJ⟩:=hC k rfl;rw[cd] at er;obtain⟨c,hc,kh⟩:∃c,cs[k]?=dy c/\c.st=q:=by
     cases hO:cs[k]? with
     |none=>rw[hO] at er;simp at er
     |some c=>rw[hO] at er;exact⟨c,rfl,by simpa using er⟩
    subst kh;have hU:Kk m ⟨(r.f:aq),(j:aq),c.st⟩:=⟨r.f,j,y,rfl,rfl,hE,hJ⟩
    have lp:=(ag.1 hc).1;have lr:(k:aq)<(cs.length:aq):=by omega
    have ls:bs.wrap ((k:aq)+1-1)=(k:aq):=by rw[bb];omega
    have lv:bs.wrap (k:aq)=(k:aq):=by rw[bb];omega
    obtain⟨X,hX⟩:=zE wr.drew;have eJ:bt wr.heap.size wr X:=by rw[<-hX];exact(ba _ _).drew
    have O:=j9.out.grow eJ;have fz:=(eJ.block D (ae g9.out)).trans g9.out;have eK:=O.x.run (by simp);have eL:=O.x.hp (by simp);obtain⟨gq,fL,lx,hZ,_,_,y2,y3⟩:=O.cellAt hc;obtain⟨T,ez⟩:∃T,X.heap[gq]?=dy (el T 87 (0,0)):=by
     have ho:=O.x.ce (by simp);rw[fL] at ho;rcases ho.2 with⟨q,_⟩|⟨g',cap,T,e,_,hq,_⟩
     ·simp at q
     ·simp only[cz,Option.some.injEq,Addr.mk.injEq,and_true] at e
      exact⟨T,by rw[e.1];exact hq⟩
    have ie:T[k*4+2]?=dy (Z U c.st.1):=by rw[<-cE _ _ _ _ _ _ ez];exact y2
    have ii:T[k*4+3]?=dy (Z U c.st.2):=by rw[<-cE _ _ _ _ _ _ ez];exact y3
    obtain⟨RR,eM⟩:=zE (JU m H N (pre++[r]).length L.length);have ij:RR[2]?=dy (eg (dy ⟨H,0,dD⟩)):=by rw[<-eM];rfl
    have fN:RR[9]?=dy (ee N.seA L.length N.seK):=by rw[<-eM];rfl
    rw[eM] at eK;obtain⟨HH,fR⟩:=zE (KG N cs.length);have im:HH[0]?=dy (ee (dy ⟨gq,0,dD⟩) cs.length N.ceK):=by rw[<-fR,<-fL];rfl
    rw[fR] at eL;obtain⟨S5,eN⟩:=zE ((λW=>W.heap[R]?=dy (el RR 159 (0,0))/\W.heap[H]?=dy (el HH 154 (0,0))/\W.heap[D]?=dy (el #[Z U (r.f:aq),Z U (r.pc:aq),ee (dy ⟨r.b,0,dD⟩) r.v.length r.v.length] 218 (0,0))/\W.heap[gq]?=dy (el T 87 (0,0))):World->Prop);have fS:cU (∀W,W.heap[R]?=dy (el RR 159 (0,0))->W.heap[H]?=dy (el HH 154 (0,0))->W.heap[D]?=dy (el #[Z U (r.f:aq),Z U (r.pc:aq),ee (dy ⟨r.b,0,dD⟩) r.v.length r.v.length] 218 (0,0))->W.heap[gq]?=dy (el T 87 (0,0))->S5 W):=λW a b c d=>by rw[<-eN];exact⟨a,b,c,d⟩
    have E:cU (∀W,S5 W->W.cell? ⟨R,2,dD⟩=dy (eg (dy ⟨H,0,dD⟩))/\W.cell? ⟨R,9,dD⟩=dy (ee N.seA L.length N.seK)/\W.cell? ⟨H,0,dD⟩=dy (ee (dy ⟨gq,0,dD⟩) cs.length N.ceK)/\W.cell? ⟨D,0,dD⟩=dy (Z U (r.f:aq))/\R<W.heap.size/\H<W.heap.size/\D<W.heap.size/\gq<W.heap.size):=λW C=>by
     rw[<-eN] at C;exact⟨(rowAt C.1 2 ij).1,(rowAt C.1 9 fN).1,(rowAt C.2.1 0 im).1,zR C.2.2.1 0 _,ae C.1,ae C.2.1,ae C.2.2.1,ae C.2.2.2⟩
    have ki:cU (∀W,S5 W->∀n u,(#[Z U c.st.1,Z U c.st.2]:Array cy).toList[n]?=dy u->W.cell? ((⟨gq,k*4+2,dD⟩:Addr).add n)=dy u):=λW C n u I=>by
     rw[<-eN] at C;rw[cf,cE _ _ _ _ _ _ C.2.2.2]
     match n,I with
     |0,I=>simp at I;subst I;exact ie
     |1,I=>simp at I;subst I;exact ii
    have ly:S5 X.drew:=fS.out _ eK eL fz ez;obtain⟨i1,kj,kl,km,kn⟩:=info_parts Kj;have ip:=zH eL;have ir:=zH eK;have it:=zH fz;have iu:=zH ez;have ix:=zH O;have kp:=zH eJ;have kq:=zH hU;have ks:=zH fN;have iz:∀q,yA N.seA=dy q->q≠R/\q≠H/\q≠D/\q≠gq:=λq hq=>by
     have t:=O.t5 q hq;refine⟨λe=> ?_,λe=> ?_,λe=> ?_,λe=> ?_⟩
     ·rw[e,O.t1] at t;cases t
     ·rw[e,O.t2] at t;cases t
     ·rw[e] at t
      rcases fx.out D (by rw[t];simp) with z|z
      ·exact z gC.out
      ·have:=ae gw.out;omega
     ·rw[e,O.t4 gq hZ] at t;cases t
    have eR:=zH iz;clear eN eM fR ij fN im ie ii ez y2 y3 fL hZ eL eK fz O eJ er hE hJ hU hc ke kf hC iz A j8 ew j6 d0
    go_upto_region 7 with(fail)
    rw[hX];clear hX;refine ak 25 S5 (by kernel_rfl) ?_;refine zT 0 rfl E.out ?_;(try go_simp);refine zT 1 rfl E.out ?_;(try go_simp);refine zT 2 rfl E.out ?_;(try go_simp);refine zT 3 rfl E.out ?_;(try go_simp);refine zT 4 rfl E.out ?_;(try go_simp);refine zT 5 rfl E.out ?_;(try go_simp);refine zT 6 rfl E.out ?_;(try go_simp);refine zT 7 rfl E.out ?_;(try go_simp);refine zT 8 rfl E.out ?_;(try go_simp);refine zT 9 rfl E.out ?_;(try go_simp);refine zT 10 rfl E.out ?_;(try go_simp);refine zT 11 rfl E.out ?_;(try go_simp);refine zT 12 rfl E.out ?_;(try go_simp);refine zT 13 rfl E.out ?_;(try go_simp);refine zT 14 rfl E.out ?_;(try go_simp);refine zT 15 rfl E.out ?_;(try go_simp);refine zT 16 rfl E.out ?_;(try go_simp);refine zT 17 rfl E.out ?_;(try go_simp);refine zT 18 rfl E.out ?_;(try go_simp);refine zL 19 rfl 67 ⟨gq,k*4+2,dD⟩ ki.out du ?_;(try go_simp);refine zT 20 rfl E.out ?_;(try go_simp);refine zO 21 rfl λK' J=> ?_;go_simp;obtain⟨G,hG⟩:=zE X.heap.size;obtain⟨W8,eS⟩:=zE ((X.alloc (el #[Z U (r.f:aq),Z U (j:aq),Z U c.st.1,Z U c.st.2] 83)).drew);(try rw[hG]);(try rw[eS]);have en:bt X.heap.size X W8:=by rw[<-eS];exact((ba _ _).alloc (bA _) _).drew
    have iA:W8.heap[G]?=dy (el #[Z U (r.f:aq),Z U (j:aq),Z U c.st.1,Z U c.st.2] 83 (0,0)):=by rw[<-eS,<-hG];exact alloc_at _ _
    have h8:=ix.out.grow en;have fW:=(en.block R (ae ir.out)).trans ir.out;have fX:=(en.block H (ae ip.out)).trans ip.out;have fY:=(en.block D (ae it.out)).trans it.out;have gb:=(en.block gq (ae iu.out)).trans iu.out;have iC:S5 W8:=fS.out _ fW fX fY gb;refine J _ _ iC ?_;clear J;(try go_simp);refine zO 22 rfl λK' J=> ?_;have iD:=h8.x.se (by simp);have iS:B<=W8.heap.size:=by have:=h8.lo H (by rw[h8.t2];simp);omega
    refine aH (.tmp 58) (.tmp 75) 77 rfl B 83 i1 _ 4 32 underlying77 kj kl km kn rfl (by decide) (ee N.seA L.length N.seK) L.length (L.flatMap KR) rfl iD (dy ⟨G,0,dD⟩) 1 1 [Z U (r.f:aq),Z U (j:aq),Z U c.st.1,Z U c.st.2] rfl rfl (λh=>by cases h) (λad kt q u I=>by
     obtain rfl:(⟨G,0,dD⟩:Addr)=ad:=by simpa using kt
     rw[cf,ch,cE _ _ _ _ _ _ iA];simpa using I) (by simp[cP]) (by unfold maxLen;omega) (by omega) iS ?_
    intro v9 w9 gd i2 i3;obtain⟨i4,c9,kv⟩:=ai gd;subst kv;have es:Ext (λq=>yA N.seA=dy q) W8 w9:=Ext.of_grown i2 (λq hq=> .inl (by rw[<-aa N.seA L.length N.seK];exact hq));have eV:=es.heap fW (λe=>(eR.out _ e).1 rfl);have i5:S5 w9:=fS.out _ eV (es.heap fX (λe=>(eR.out _ e).2.1 rfl)) (es.heap fY (λe=>(eR.out _ e).2.2.1 rfl)) (es.heap gb (λe=>(eR.out _ e).2.2.2 rfl));refine J _ _ i5 ?_;clear J;(try go_simp);refine zT 23 rfl E.out ?_;(try go_simp);refine zT 24 rfl E.out ?_;(try go_simp);refine zK rfl λK' J=> ?_;have i6:w9.cell? ⟨R,9,dD⟩=dy (ee N.seA L.length N.seK):=(rowAt eV 9 ks.out).1;have i7:w9.frozen? ⟨R,9,dD⟩=dT:=bm _ _ _ _ _ eV;go_simp;(try simp only[i6,i7]);(try go_simp);refine J _ _ ?_;clear J;refine⟨by kernel_rfl, ?_⟩;have i8:=ix.out.pushS (w1:=W8) (w9:=w9) (x:=⟨(r.f:aq),(j:aq),c.st⟩) en es gd (λq e=>by have:=i3 q (by rw[aa];exact e);rwa [aa] at this);have ew:cU (Bb R H m B tg Q cs (pre++[r]) (L++[⟨(r.f:aq),(j:aq),c.st⟩]) (Kl s) (w9.setCell ⟨R,9,dD⟩ (ee i4 (L.length+1) c9))):=
     Bb.step (ka.out.trans (Ext.of_below_size (M:=λk=>fh k≠ .no) kp.out) fx.out) fx.out (Bb.step (Ext.refl _ _) (λ_ hk=> .inl hk) (i8.imp (λs' e=>kb.out.trans ⟨i4,c9,e⟩)))
    have kx:cU (∀x∈L++[(⟨(r.f:aq),(j:aq),c.st⟩:Sn)],x∈bd\/Kk m x):=λx hx=>by
     rcases cv.1 hx with q|q
     ·exact fy.out x q
     ·rw[bw.1 q];exact .inr kq.out
    clear i8 gd i2 i3 es eV i5 i6 i7 iD iS h8 fW fX fY gb iC iA en eS;go_wp2;go_roundw
    case rel=>exact⟨j+1,_,by omega,by go_num,kx.out,by simp;omega,ew.out⟩
    case measure=>simp[intOf];omega
  ·have lz:j=r.v.length:=by omega
   have lA:¬(j:aq)<(r.v.length:aq):=by omega
   have lB:decide (j<r.v.length)=dT:=cG fi;have HF:cU (Jq R H m B tg s cs (pre++[r]) bd w (em (.tuple #[])) wr):=⟨rfl,L,eI,by omega,Bb.step (Ext.of_below_size eE.out) (λ_ hk=> .inl hk) ⟨fh,N,P,e2,Y,t2⟩⟩
   clear P e2 Y t2 eI eq d0;go_wp2
   ((try simp only[Exit.inBlock,Exit.then]);(try rw[Exit.noGoto_ret]);(first|refine bodyPost_ret (df rfl _ _ _) rfl ?_|refine bodyPost_end (df rfl _ _ _) rfl ?_));exact HF.out
end
def J6 (m:Mo)(w:World)(e:Ending)(w':World):Prop:=
 ∃(R H B:bo) (tg:bo->WT) (s:IY) (cs:bq Cl) (stk:bq Fr) (bd:bq Sn),e= em (.tuple #[ee s.seA bd.length s.seK,ee s.ceA cs.length s.ceK])/\Wm R H m B tg s cs stk bd w'/\w.heap.size<=B/\yC m cs stk/\(∀x∈bd,Kk m x)/\bd.length<=200000/\cs.length<=600/\bt w.heap.size w w'
def KZ (R H:bo)(m:Mo)(B n:bo)(W w:World):Prop:=
 ∃(tg:bo->WT) (s:IY) (cs:bq Cl) (stk:bq Fr) (bd:bq Sn),Wm R H m B tg s cs stk bd w/\J5 m B w/\yC m cs stk/\(s.kind=4->stk≠[])/\cs.length<=n/\stk.length<=n+1/\s.no<=n/\0<=s.asked/\s.asked<=(n:aq)/\0<=s.steps/\s.steps<=(n:aq)/\(∀x∈bd,Kk m x)/\bd.length<=300*n/\bt B W w
theorem Jv (m:Mo)(w:World)(eS:dR w m)(L:bf m=0)(iS:∀st∈m.ss,st.fs.length<=1000)(eV:m.fs.length<=60)(ia fa:cL Addr)(il ic fl fc:bo)(fR:I4 w.heap.size w (ee ia il ic))(fS:Jb w.heap.size w (ee fa fl fc))(es:aq)(kd:es<=600):
  Calls aw 32 #[ei m.cells,ee ia il ic,ee fa fl fc,Z U es] w (J6 m w):=by
 obtain⟨N,hN⟩:=zE w.heap.size;obtain⟨W1,et⟩:=zE (w.alloc (el m.cells 25));have q1:W1.heap[N]?=dy (el m.cells 25 (0,0)):=by rw[<-et,<-hN];exact alloc_at _ _
 have c1:W1.cell? ⟨N,0,dD⟩=dy (ee m.sA m.ss.length m.sC):=(cE _ _ _ _ _ _ q1).trans rfl;have c2:W1.cell? ⟨N,1,dD⟩=dy (ee m.fA m.fs.length m.fC):=(cE _ _ _ _ _ _ q1).trans rfl;have eW:=iq et;have ff:=ae q1;have ev:=zH (l8 m W1 (eS.belowP eW));obtain⟨f,hf⟩:∃f:bo,m.fnIx dG=(f:aq):=by
  refine⟨(m.fnIx dG).toNat, ?_⟩;have O:=(dJ L).2.2.2.2.2;unfold Mo.fnIx fT at O⊢
  split at O
  ·rename_i h2
   rw[bx h2,am]
  ·omega
 have en:=yC.start (m:=m) L;rw[hf,am] at en;obtain⟨g,hg,_,i2,_⟩:=(en 0).frame (pre:=[]);simp only[hg] at en;have fW:=ap hg;have fX:=jm ((dJ L).2.2.2.2.1 g fW);rw[L] at ev;have fg:=et;simp only[Mo.cells] at fg ev;have fY:=zH fg;have gb:=zH eW;have gd:=zH L;have fh:=zH eS;have ge:=zH en;have HG:=zH hg;have HF:=zH hf;have gg:=zH fX;have gh:=zH fR;have gi:=zH fS;simp only[Mo.cells];clear et fg eW L eS en hg hf fX fR fS i2 fW q1;go_enter func32,ntmps32
 go_upto_region 1 with(fail)
 rw[fY.out];have G:((0:aq) != 0)=dT:=rfl
 go_upto_region 3 with(go_at_call 13;refine ev.out.mono ?_;rintro e w2 ⟨rfl,gj⟩;have P:=zH gj;clear gj)
 have gl:w2.cell? ⟨N,0,dD⟩=dy (ee m.sA m.ss.length m.sC):=by rw[P.out.cell (p:=⟨N,0,dD⟩) ff];exact c1
 have gm:w2.cell? ⟨N,1,dD⟩=dy (ee m.fA m.fs.length m.fC):=by rw[P.out.cell (p:=⟨N,1,dD⟩) ff];exact c2
 have i3:N<w2.heap.size:=by have:=P.out.size;omega
 clear c1 c2 ff ev fY G
 go_upto_region 4 with(fail)
 obtain⟨H,hH⟩:=zE w2.heap.size;obtain⟨C,Q⟩:=zE (⟨dD,0,dD,0,dD,0,dD,0,0,ee ia il ic,ee fa fl fc,0,4,0,0⟩:IY);obtain⟨D,ep⟩:=zE ((w2.alloc (el (KG C 0) 154)).alloc (el (JU m H C 0 0) 159));have ew:=ep;rw[<-Q,<-hH] at ew;simp only[KG,JU] at ew;simp only[ew];have ez:=P.out.size;have i4:=gb.out.size;have fi:D.heap[H]?=dy (el (KG C 0) 154 (0,0)):=by rw[<-ep,Below.heap_alloc _ _ _ (by rw[World.size_alloc];omega),<-hH];exact alloc_at _ _
 have eA:D.heap[H+1]?=dy (el (JU m H C 0 0) 159 (0,0)):=by rw[<-ep,show H+1=(w2.alloc (el (KG C 0) 154)).heap.size by rw[World.size_alloc,hH]];exact alloc_at _ _
 have eC:bt H w2 D:=by rw[<-ep,<-hH];exact((ba _ _).alloc (bA _) _).alloc (by rw[World.size_alloc];omega) _
 have eq:bt w.heap.size w D:=(gb.out.trans (P.out.mono i4)).trans (eC.mono (by omega));have fj:=ae eA;obtain⟨R,hR⟩:=zE (H+1);simp only[hR] at eA fj⊢;have fk:w.heap.size<=H:=by omega
 have gn:I4 H D C.inn:=by
  rw[<-Q];obtain⟨ao,n,cap,e,O,hc,h2⟩:=gh.out.ext (Ext.of_below_size (M:=λ_=>False) eq) (λ_ q=>q.elim);refine⟨ao,n,cap,e,O,hc,λhn=> ?_⟩;obtain⟨b,o,T,I,a3⟩:=h2 hn;exact⟨b,o,T,by omega,a3⟩
 have gr:Jb H D C.fail:=by
  rw[<-Q];obtain⟨ao,n,cap,e,O,h2⟩:=gi.out.ext (Ext.of_below_size (M:=λ_=>False) eq) (λ_ q=>q.elim);refine⟨ao,n,cap,e,O,λhn=> ?_⟩;obtain⟨b,o,T,I,a3⟩:=h2 hn;exact⟨b,o,T,by omega,a3⟩
 have gw:Wm R H m H (λk=>if k=R then .run else if k=H then .hp else .no) C [] [] [] D:=by
  have G:C=(⟨dD,0,dD,0,dD,0,dD,0,0,ee ia il ic,ee fa fl fc,0,4,0,0⟩:IY):=Q.symm;refine⟨⟨λ_=>eA,λ_=>fi,λ_=> ?_,λ_=> ?_,λ_=> ?_,λ_=>⟨[], ?_⟩,λd r h=>by simp at h,λd r h=>by simp at h,gn,gr⟩,λd r h=>by simp at h,λd r h=>by simp at h,bx rfl, ?_,λk h=> ?_,λk h=> ?_,λk h=> ?_,λk h=> ?_,λk h=> ?_⟩
  ·rw[G];exact World.ownsRow_nil _ _ _ _
  ·rw[G];exact World.ownsRow_nil _ _ _ _
  ·rw[G];exact World.ownsRow_nil _ _ _ _
  ·rw[G];exact World.ownsRow_nil _ _ _ _
  ·show(if H=R then _ else _)=_
   rw[bl (by omega),bx rfl]
  ·rw[G] at h;simp[yA,cC] at h
  ·rw[G] at h;simp[yA,cC] at h
  ·rw[G] at h;simp[yA,cC] at h
  ·rw[G] at h;simp[yA,cC] at h
  ·by_cases a:k=R
   ·rw[a];exact⟨by omega,fj⟩
   ·by_cases b:k=H
    ·rw[b];exact⟨bA _,ae fi⟩
    ·simp only[bl a,bl b] at h;exact cm rfl h
 have fm:J5 m H D:=⟨w,fk,fh.out.mo,eq⟩
 have eE:=nG m dG D fh.out.mo.nf (fm.inn.frow);rw[HF.out] at eE;simp only[Mo.cells] at eE;have c1:D.cell? ⟨N,0,dD⟩=dy (ee m.sA m.ss.length m.sC):=by rw[eC.cell (p:=⟨N,0,dD⟩) (show N<H by omega)];exact gl
 have c2:D.cell? ⟨N,1,dD⟩=dy (ee m.fA m.fs.length m.fC):=by rw[eC.cell (p:=⟨N,1,dD⟩) (show N<H by omega)];exact gm
 have gz:=zH eE;have eI:=zH gw;have fp:=zH fm;have i5:=zH eq;have gA:C.kind=4/\C.no=0/\C.asked=0/\C.steps=0:=by rw[<-Q];exact⟨rfl,rfl,rfl,rfl⟩
 have gC:=zH gA;have i6:N<D.heap.size:=by omega
 clear eE gw fm eq eC gA ep ew Q eA fi gn gr gl gm i3 ez P fh gh gi
 go_upto_region 5 with(first|(go_at_call 50;refine gz.out.mono ?_;rintro e w4 ⟨rfl,gE⟩;have eJ:=zH gE;clear gE)|(go_at_call 74;refine(Jd (args:=[]) w4 (eI.out.grow eJ.out) (fp.out.inn.below eJ.out) HG.out (by have:=gg.out.1;omega) eV (λq=>cm rfl q) (by simp) (by simp)).mono ?_;rintro e w5 ⟨rfl,b,gO⟩;have gR:=zH gO;clear gO))
 have gS:KZ R H m H 0 D w5:=by
  obtain⟨i7,s1,T,⟨A,K,I⟩,a3,a4⟩:=gR.out;have V:Ext (λk=>H<=k) D w5:=(Ext.of_below eJ.out |>.mono (λk q=>ci (Nat.le_of_lt (ae (eI.out.x.hp (by simp)))) q)).trans a3 (λk q=> .inl ((eI.out.lo k q).1));have i8:J5 m H w5:=fp.out.ext V (λk q=>q);obtain⟨z1,z2,z3,z4⟩:=gC.out;have e:JQ g.vs.length []=bc g.vs.length 0:=by unfold JQ;simp
  refine⟨i7,s1,[],[⟨f,0,bc g.vs.length 0,b⟩],[],by rw[e] at T;exact T,i8,ge.out b,λ_=>by simp,by simp,by simp,by rw[I];show C.no<=0;omega,by rw[I];show 0<=C.asked;omega,by rw[I];show C.asked<=_;omega,by rw[I];show 0<=C.steps;omega,by rw[I];show C.steps<=_;omega,λx V=>(by cases V),by simp,V.below (by have:=fj;omega) (λk q=>q)⟩
 have g6:=zH gS;clear gS gR eJ eI gz ge HG HF gg gC fp c1 c2 i6
 go_upto_region 6 with(fail)
 go_loopw [11] (λkk wr=>∃n:bo,n<=600/\kk= Z U (n:aq)/\KZ R H m H n D wr) (λkk _=>600-(intOf kk).toNat)
 case atStart=>exact⟨0,by omega,rfl,g6.out⟩
 case round=>
  obtain⟨n,hn,rfl,hw⟩:=hrel;obtain⟨tg,s,cs,stk,bd,E,eK,eL,X,l1,l2,l3,l4,l5,l6,l7,eM,l8,eN⟩:=hw;have r4:wr.cell? ⟨R,4,dD⟩=dy (Z U s.kind):=zR (E.x.run (by simp)) 4 _;have g7:=ae (E.x.run (by simp))
  by_cases g9:(n:aq)<es/\s.kind=4
  rotate_left
  ·have c9:wr.cell? ⟨R,9,dD⟩=dy (ee s.seA bd.length s.seK):=zR (E.x.run (by simp)) 9 _
   have i9:wr.cell? ⟨R,2,dD⟩=dy (eg (dy ⟨H,0,dD⟩)):=zR (E.x.run (by simp)) 2 _;have d0:wr.cell? ⟨H,0,dD⟩=dy (ee s.ceA cs.length s.ceK):=zR (E.x.hp (by simp)) 0 _;have jj:=ae (E.x.hp (by simp));have hC:cU (∀W,bt wr.heap.size wr W->J6 m w (em (.tuple #[ee s.seA bd.length s.seK,ee s.ceA cs.length s.ceK])) W):=λW hW=>⟨R,H,H,tg,s,cs,stk,bd,rfl,E.grow hW,fk,eL,eM,by omega,by omega,(i5.out.trans (eN.mono fk)).trans (hW.mono (by have:=E.lo R (by rw[E.t1];simp);omega))⟩
   clear E eK eL X eM eN;obtain⟨S3,ft⟩:=zE ((λW=>W=wr.drew):World->Prop);have ke:S3 wr.drew:=by rw[<-ft]
   have v:cU (∀W,S3 W->W.cell? ⟨R,9,dD⟩=dy (ee s.seA bd.length s.seK)/\W.cell? ⟨R,2,dD⟩=dy (eg (dy ⟨H,0,dD⟩))/\W.cell? ⟨H,0,dD⟩=dy (ee s.ceA cs.length s.ceK)/\R<W.heap.size/\H<W.heap.size):=λW hW=>by
    rw[<-ft] at hW;subst hW;exact⟨c9,i9,d0,g7,jj⟩
   clear ft
   by_cases hE:(n:aq)<es
   ·have hk:s.kind≠4:=λe=>g9 ⟨hE,e⟩
    have kf:(s.kind==4)=dT:=bD hk
    go_upto_region 10 with(fail)
    refine bL S3 (by kernel_rfl) ?_;refine yT 0 rfl v.out ?_;(try go_simp);refine yT 1 rfl v.out ?_;(try go_simp);refine yT 2 rfl v.out ?_;(try go_simp);refine yT 3 rfl v.out ?_;(try go_simp);refine yT 4 rfl v.out ?_;(try go_simp);refine yT 5 rfl v.out ?_;(try go_simp);refine yT 6 rfl v.out ?_;(try go_simp);refine yT 7 rfl v.out ?_;(try go_simp);refine yT 8 rfl v.out ?_;(try go_simp);refine yT 9 rfl v.out ?_;(try go_simp);refine yT 10 rfl v.out ?_;(try go_simp);refine yT 11 rfl v.out ?_;(try go_simp);refine yT 12 rfl v.out ?_;(try go_simp);refine⟨by kernel_rfl, ?_⟩;go_wp2
    go_ret2
    exact hC.out _ (ba _ _).drew
   ·go_upto_region 10 with(fail)
    refine bL S3 (by kernel_rfl) ?_;refine yT 0 rfl v.out ?_;(try go_simp);refine yT 1 rfl v.out ?_;(try go_simp);refine yT 2 rfl v.out ?_;(try go_simp);refine yT 3 rfl v.out ?_;(try go_simp);refine yT 4 rfl v.out ?_;(try go_simp);refine yT 5 rfl v.out ?_;(try go_simp);refine yT 6 rfl v.out ?_;(try go_simp);refine yT 7 rfl v.out ?_;(try go_simp);refine yT 8 rfl v.out ?_;(try go_simp);refine yT 9 rfl v.out ?_;(try go_simp);refine yT 10 rfl v.out ?_;(try go_simp);refine yT 11 rfl v.out ?_;(try go_simp);refine yT 12 rfl v.out ?_;(try go_simp);refine⟨by kernel_rfl, ?_⟩;go_wp2
    go_ret2
    exact hC.out _ (ba _ _).drew
  obtain⟨hE,hk⟩:=g9;obtain⟨pre,r,jn⟩:∃pre r,stk=pre++[r]:=by
   have:=dv (X hk);exact⟨_,_,this.symm⟩
  subst jn;rw[ca,cb] at l2;have hJ:=JN wr E eK gd.out eL iS eV (by omega) (by omega) (by omega) l4 (by omega) l6 (by omega);have hO:=zH hJ;have jp:=zH eM;have hU:=zH eN;have js:=zH E;have hZ:=zH eK;rw[hk] at r4;clear hJ eM eN E eK eL X g6
  go_upto_region 9 with(go_at_call 75;refine hO.out.mono ?_;rintro e w6 ⟨k,ie,fx,rfl,X,ii,m1,m2,kh,J,fy,⟨n1,n2,n3,n4,n5⟩,ij,im⟩;have eR:=fy.x.run (by simp);have jt:=zR eR 4 _ rfl;have ju:=bm _ _ 4 _ _ eR;have jx:=ae eR;have ip:=zH fy;have jz:=zH ij;have ki:=zH im;have ir:=zH ii;have j0:=zH X;clear fy ij im ii X eR)
  obtain⟨Y,fz⟩:=zE (w6.setCell ⟨R,4,dD⟩ (Z U k));rw[fz];obtain⟨j1,s3,er,e3,fL,j2⟩:=ip.out.nums (j:=4) (u:= Z U k) {J with kind:=k} rfl rfl;rw[fz] at er fL;obtain⟨y1,y2,y3,y4,y5⟩:s3.kind=k/\s3.no=J.no/\s3.asked=J.asked/\s3.steps=J.steps/\True:=by rw[e3];exact⟨rfl,rfl,rfl,rfl,trivial⟩
  have it:Ext (λq=>H<=q) wr w6:=jz.out.mono (λq z=>(js.out.lo q z).1);have fN:Ext (λq=>H<=q) wr Y:=it.trans (fL.mono (λq z=>(ip.out.lo q z).1)) (λq z=> .inl z);have iu:J5 m H Y:=hZ.out.ext fN (λq z=>z);have ix:Calls aw 76 #[eg (dy ⟨R,0,dD⟩)] Y (Jq R H m H j1 s3 ie fx bd Y):=by
   rcases List.eq_nil_or_concat fx with q|⟨iz,r2,q⟩
   ·subst q;exact JO Y er
   ·rw[List.concat_eq_append] at q
    subst q;have:(iz++[r2]).length=iz.length+1:=by simp
    have:(pre++[r]).length=pre.length+1:=by simp
    exact JE Y er iu gd.out ir.out eV (by omega) (by omega) (by omega)
  have j4:=zH ix;have j5:=zH fN;have j6:=zH er;clear ix fN it iu er fL j2 fz jt ju jx r4 g7 hO
  go_upto_region 10 with(go_at_call 76;refine j4.out.mono ?_;rintro e w8 ⟨rfl,j7,ez,kj,j8,s4,iA,⟨A4,K4,e4⟩,iC,kl⟩;have j9:=zH iA;have ka:=zH iC;have kb:=zH ez;clear iA iC ez)
  have kc:=zH e4;clear e4;go_roundw
  case rel=>
   obtain⟨z1,z2,z3,z4⟩:s4.kind=k/\s4.no=J.no/\s4.asked=J.asked/\s4.steps=J.steps:=by rw[kc.out];exact⟨y1,y2,y3,y4⟩
   have q:(pre++[r]).length=pre.length+1:=by simp
   have iD:Ext (λq=>H<=q) wr w8:=j5.out.trans (ka.out.mono (λq z=>(j6.out.lo q z).1)) (λq z=> .inl z);exact⟨n+1,by omega,by go_num,j8,s4,ie,fx,j7,j9.out,hZ.out.ext iD (λq z=>z),ir.out,λe=>j0.out (by rw[<-z1];exact e),by omega,by omega,by omega,by omega,by omega,by omega,by omega,λx V=>(kb.out x V).elim (jp.out x) id,by omega,hU.out.trans (iD.below (by have:=hU.out.size;omega) (λq z=>z))⟩
  case measure=>simp[intOf];omega
end Go.Proofs.YtjomgckjhcfbgaaGreat
