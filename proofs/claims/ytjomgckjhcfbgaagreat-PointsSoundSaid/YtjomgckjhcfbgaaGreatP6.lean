/- Walks. -/
import Derived.Test.YtjomgckjhcfbgaaGreatY18
import Derived.Test.YtjomgckjhcfbgaaGreatY13
import Derived.Test.YtjomgckjhcfbgaaGreatRows
import Derived.ProofKit
import Derived.ChangeSame
import Derived.Test.YtjomgckjhcfbgaaGreatY0
import Derived.Test.YtjomgckjhcfbgaaGreatY14
import Derived.Test.YtjomgckjhcfbgaaGreatP5
set_option maxRecDepth 100000
set_option maxHeartbeats 64000000
set_option linter.all false
namespace Go.Proofs.YtjomgckjhcfbgaaGreat
open Go.RowKit
open _root_.List renaming getElem?_eq_getElem→ac,getElem?_eq_some_iff→ag,mem_of_getElem?→ap,getElem?_map→cd,eq_nil_of_length_eq_zero→cj,mem_append→cv,getElem?_of_mem→da,length_map→dp
open _root_ renaming Int→aq,Nat→bo,List→bq,absurd→cm,decide_eq_false→cG,Option→cL,decide_eq_true_eq→cW
open _root_.Option.some renaming inj→ar
open Go.Proofs.Tryz renaming prog→aw,underlying3→cc,underlying42→cn,underlying9→cV,ntmps28→cY,func28→db,underlying67→du
open Go.RowKit.Below renaming refl→ba
open Go.IntKind renaming wrap_i64→bb,i64→bs,i64→U
open Go renaming seen→bd,Value→cy
open _root_.Prod.mk renaming injEq→br
open Go.RowKit renaming Below→bt,Hid→cU
open Go.DataW renaming trod_struct→b8,trod_int→cg,trod_string→cJ,trod→de
open Go.Addr renaming add_lit→cf
open _root_.Bool renaming and_eq_true→ct,true→dS,false→dT
open Go.Value renaming oneCell'→cP,string→ec,slice→ee,pointer→eg,bool→eh,agg→ei,int→Z
open _root_.Nat renaming zero_le→dt
open _root_.Option renaming some→dy,none→dD
open Go.Obj renaming cells→el
open Go.Ending renaming returned→em
open Go.Proofs.Tryz
def BytesL (w:World)(f:cL Addr)(n cap:bo):Prop:=n<=cap/\(n≠0->∃b o,f=dy ⟨b,o,dD⟩/\b<w.heap.size/\∀j,j<n->∃x,0<=x/\x<256/\w.cell? ⟨b,o+j,dD⟩=dy (.int .u8 x))
def BoolsL (w:World)(f:cL Addr)(n:bo):Prop:=n≠0->∃b o,f=dy ⟨b,o,dD⟩/\b<w.heap.size/\∀j,j<n->∃x,w.cell? ⟨b,o+j,dD⟩=dy (eh x)
theorem BytesL.at_ {w w':World}{f:cL Addr}{n cap:bo}(h:BytesL w f n cap)(I:n<=200)(u:bt w.heap.size w w'):I4 w'.heap.size w' (ee f n cap):=by
 refine⟨f,n,cap,rfl,by omega,h.1,λv=> ?_⟩;obtain⟨b,o,e,z,A⟩:=h.2 v;have:=u.size;exact⟨b,o,e,by omega,by omega,λj C=>by
  obtain⟨x,D,E,G⟩:=A j C;exact⟨x,D,E,by rw[u.cell (p:=⟨b,o+j,dD⟩) z];exact G⟩⟩
theorem BoolsL.at_ {w w':World}{f:cL Addr}{n cap:bo}(h:BoolsL w f n)(E:n<=200)(u:bt w.heap.size w w'):Jb w'.heap.size w' (ee f n cap):=by
 refine⟨f,n,cap,rfl,by omega,λv=> ?_⟩;obtain⟨b,o,e,z,A⟩:=h v;have:=u.size;exact⟨b,o,e,by omega,by omega,λj C=>by
  obtain⟨x,D⟩:=A j C;exact⟨x,by rw[u.cell (p:=⟨b,o+j,dD⟩) z];exact D⟩⟩
def K3 (il f:bo)(w:World)(e:Ending)(w':World):Prop:=∃b:Bool,e= em (eh b)/\(b=dS->il<=200/\f<=200)/\w'=w
theorem Jw (w:World)(v z:cL Addr)(il A f C:bo)(u:aq):
  Calls aw 28 #[ee v il A,ee z f C,Z U u] w (K3 il f w):=by
 by_cases D:(il:aq)<=200
 ·by_cases E:(f:aq)<=200
  ·by_cases G:(0:aq)<=u
   ·by_cases I:u<=3000
    ·go_enter db,cY
     go_wp2;go_ret;exact⟨_,rfl,λ_=>⟨by omega,by omega⟩,rfl⟩
    ·go_enter db,cY
     go_wp2;go_ret;exact⟨_,rfl,λ_=>⟨by omega,by omega⟩,rfl⟩
   ·go_enter db,cY
    go_wp2;go_ret;exact⟨_,rfl,λ_=>⟨by omega,by omega⟩,rfl⟩
  ·go_enter db,cY
   go_wp2;go_ret;exact⟨_,rfl,λh=>(by simp at h),rfl⟩
 ·go_enter db,cY
  go_wp2;go_ret;exact⟨_,rfl,λh=>(by simp at h),rfl⟩
section
variable {R H:bo}{m:Mo}{B:bo}{tg:bo->WT}{s:IY}{cs:bq Cl}{stk:bq Fr}{bd:bq Sn}{w w':World}
theorem Wm.seenAt (h:Wm R H m B tg s cs stk bd w){k:bo}{x:Sn}(z:bd[k]?=dy x):∃g,s.seA=dy ⟨g,0,dD⟩/\g<w.heap.size/\
  w.cell? ⟨g,k*4,dD⟩=dy (Z U x.f)/\w.cell? ⟨g,k*4+1,dD⟩=dy (Z U x.v)/\w.cell? ⟨g,k*4+2,dD⟩=dy (Z U x.st.1)/\w.cell? ⟨g,k*4+3,dD⟩=dy (Z U x.st.2):=by
 obtain⟨g,e,A,u⟩:=iI KR 4 (λ_=>rfl) (h.x.se (by simp)) z;exact⟨g,e,A,u 0 _ rfl,u 1 _ rfl,u 2 _ rfl,u 3 _ rfl⟩
end
section
open Go.RowKit Go.Maps
theorem KT {l:bq bo}(h:l.Pairwise (·<·))(f:∀x∈l,x<=900000):l.length<=1000000:=by
 have u:l.Nodup:=h.imp (λh=>Nat.ne_of_lt h);have:=ja l (List.range 900001) u λx v=>List.mem_range.2 (by have:=f x v;omega);rw[List.length_range] at this;omega
theorem KF {m:Mo}{f v:bo}{t:Ty}(h:pF m (av (f:aq) (v:aq)) t):∃g,m.fs[f]?=dy g/\v<g.vs.length:=by
 generalize u:av (f:aq) (v:aq)=nd at h;cases h with
 |var a b c=>
  simp only[av,br] at u;obtain⟨z,A,_⟩:=u;obtain rfl:=Int.ofNat.inj z;exact⟨_,a,by omega⟩
 |res a=>simp only[av,cZ,br] at u;omega
 |fld a b=>simp only[av,bN,br] at u;omega
theorem pointsSound_calls (m:Mo)(w:World)(ia fa:cL Addr)(il ic fl fc:bo)(eC:aq)(hm:m.inn w)(i5:∀g∈m.fs,∀i∈g.c.ins,fO i.d/\fO i.a/\fO i.b/\fO i.f)(i6:BytesL w ia il ic)(i7:BoolsL w fa fl):
  zP 7 #[ei m.cells,ee ia il ic,ee fa fl fc,Z U eC] w (eh dS):=by
 obtain⟨N,hN⟩:=zE w.heap.size;obtain⟨O,eN⟩:=zE (w.alloc (el m.cells 25));have fW:=iV eN hN;have eR:O.heap.size=N+1:=by rw[<-eN];simp[hN]
 have q1:O.heap[N]?=dy (el m.cells 25 (0,0)):=by rw[<-eN,<-hN];exact alloc_at _ _
 have HK:cU (∀W,bt O.heap.size O W->W.cell? ⟨N,0,dD⟩=dy (ee m.sA m.ss.length m.sC)/\W.cell? ⟨N,1,dD⟩=dy (ee m.fA m.fs.length m.fC)/\m.inn W/\bt N w W/\N<W.heap.size):=λW A=>by
  have J:=(A.block N (by omega)).trans q1;have h3:=fW.trans (A.mono (by omega));exact⟨zR J 0 _,zR J 1 _,hm.below (by rw[hN];exact h3),h3,ae J⟩
 obtain⟨c0,c1,i8,_⟩:=HK.out O (ba _ _);have gE:=zH (yH O m i8);have eS:=zH λW=>vO W;have lF:=zH i5;have gO:=eN;simp only[Mo.cells] at gO gE;have i9:=zH gO;have jj:=zH i6;have jn:=zH i7;have lG:=zH hN;unfold zP;rw[hN];simp only[Mo.cells];clear hm i8 q1 eN gO fW i5 i6 i7;go_enter func7,ntmps7
 go_upto_region 1 with(fail)
 rw[i9.out];clear hN
 go_wp2_with fail
 go_at_call 27;refine gE.out.mono ?_;rintro e w2 ⟨b,rfl,hb,ev⟩;obtain⟨d0,d1,fX,jp,_⟩:=HK.out w2 ev;have X:=zH ev;clear i9 gE;cases b with
 |false=>
  clear c0 c1 hb ev fX jp
  go_wp2_with (go_at_call 29;refine(eS.out _).mono ?_;rintro e w3 ⟨rfl,G⟩;have HR:=zH (HK.out w3 (X.out.trans (G.mono X.out.size))).2.2.2.1;clear G)
  go_ret;exact⟨rfl,HR.out⟩
 |true=>
 have eV:=hb rfl;have js:=mJ fX eV.2.2;have eW:=zH (l8 m w2 js);have fY:=zH fX;obtain⟨F,hF⟩:=zE (bf m);rw[hF] at eW;simp only[Mo.cells] at eW;clear c0 c1 hb ev fX jp js
 go_wp2_with fail
 go_at_call 28;refine(Jw w2 ia fa il ic fl fc eC).mono ?_;rintro e nb ⟨b,rfl,hb,jt⟩;have lH:=jt.symm;subst lH;clear jt;cases b with
 |false=>
  clear hb
  go_wp2_with (go_at_call 29;refine(eS.out _).mono ?_;rintro e w3 ⟨rfl,G⟩;have HR:=zH (HK.out w3 (X.out.trans (G.mono X.out.size))).2.2.2.1;clear G)
  go_ret;exact⟨rfl,HR.out⟩
 |true=>
 obtain⟨lI,lN⟩:=hb rfl
 by_cases ju:(600:aq)<eC
 ·have e6:decide ((600:aq)<eC)=dS:=decide_eq_true ju
  go_wp2_with (go_at_call 29;refine(eS.out _).mono ?_;rintro e w3 ⟨rfl,G⟩;have HR:=zH (HK.out w3 (X.out.trans (G.mono X.out.size))).2.2.2.1;clear G)
  go_ret;exact⟨rfl,HR.out⟩
 have e6:decide ((600:aq)<eC)=dT:=cG ju
 by_cases jx:F=0
 rotate_left
 ·have e0:(F != 0)=dS:=by rw[bne_iff_ne];exact jx
  clear hF
  go_wp2_with (first
   |(go_at_call 13;refine eW.out.mono ?_;rintro e w3 ⟨rfl,G⟩;have en:=zH (X.out.trans (G.mono X.out.size));clear G)
   |(go_at_call 29;refine(eS.out _).mono ?_;rintro e w4 ⟨rfl,eE⟩;have HR:=zH (HK.out w4 (en.out.trans (eE.mono en.out.size))).2.2.2.1;clear eE))
  go_ret;exact⟨rfl,HR.out⟩
 subst jx;have e0:((0:aq) != 0)=dT:=rfl;have gb:=zH hF;have ff:mF w2 m:=EY fY.out eV lF.out (λg hg i hi lO y hy=>by
  obtain⟨j,hj⟩:=da hg;obtain⟨k,hk⟩:=da hi;have J:=Gb hF hj hk lO y hy;have h2:=(mJ fY.out eV.2.2).vl g hg;unfold fO;omega)
 have es:∀st∈m.ss,st.fs.length<=1000:=λst fg=>by
  have h5:=eV.2.2.2.2.1 st.s (List.mem_map.2 ⟨st,fg,rfl⟩);have h6:=h5.1;rw[<-(fY.out.sin st fg).nf];omega
 have jz:=zH es;have fh:cU (∀W,bt w2.heap.size w2 W->mF W m):=λW A=>⟨dR.belowP ff.ri A,ff.wf,ff.ni,ff.nf⟩
 clear hF ff eV es
 go_upto_region 3 with(go_at_call 13;refine eW.out.mono ?_;rintro e w3 ⟨rfl,G⟩;have en:=zH (X.out.trans (G.mono X.out.size));have gd:=zH G;clear G)
 clear d0 d1 e0;obtain⟨d0,d1,_⟩:=HK.out w3 en.out;have j0:=zH (lw m w3 (fh.out w3 gd.out) gb.out);clear eW
 go_upto_region 4 with(go_at_call 30;refine j0.out.mono ?_;rintro e w4 ⟨Q,p,tg,s,rfl,fg,j1,hP,eE⟩;have eI:=zH fg;have gR:=zH j1;have HP:=zH hP;have lP:cU (bt O.heap.size O w4):=zH (en.out.trans (eE.mono en.out.size));have gS:=zH eE;clear fg j1 hP eE)
 clear d0 d1 j0;obtain⟨T,hT⟩:=zE (Q+3);rw[hT] at HP⊢;have nc:p.St.length<=400:=by
  rw[eI.out];have:=dN (l:=m.xi);have:=(fh.out w2 (ba _ _)).ni;omega
 have j2:cU (∀n x,(n,x)∈p.H->x<=900000):=λn x hx=>by
  have J:=ed ((gR.out n x).1 hx);rw[<-eI.out] at J;omega
 have j4:=zH (nK w4 HP.out (by omega))
 go_upto_region 7 with(go_at_call 31;refine j4.out.mono ?_;rintro e w5 ⟨v5,rfl,j5,fi⟩;have j6:=zH j5;have g6:=zH fi;clear j5 fi)
 have g7:cU (bt w2.heap.size w2 w5):=gd.out.trans ((gS.out.trans (g6.out.mono gS.out.size)).mono gd.out.size);have ge:cU (bt O.heap.size O w5):=X.out.trans (g7.out.mono X.out.size);obtain⟨d0,d1,_,j7,_⟩:=HK.out w5 ge.out;have g9:bt w.heap.size w w5:=by rw[lG.out];exact j7
 have lR:=(fh.out w2 (ba _ _)).nf;have j8:=zH (Jv m w5 (fh.out w5 g7.out).ri gb.out jz.out lR ia fa il ic fl fc (jj.out.at_ lI g9) (jn.out.at_ lN g9) eC (by omega));have hC:=j8.out;simp only[Mo.cells] at hC;have j9:=zH hC;clear hC j8 j7 g9
 go_upto_region 8 with(go_at_call 32;refine j9.out.mono ?_;rintro e I ⟨R,H,B,ng,s7,cs,stk,bd,rfl,ka,nh,kb,kc,nj,nl,fj⟩;have HM:=zH ka;have HI:=zH kb;have lS:=zH kc;have gg:=zH fj;clear ka kb kc fj)
 clear d0 d1 j9;have lT:=zH ((HP.out.grow g6.out).grow gg.out);have gh:cU (bt O.heap.size O I):=ge.out.trans (gg.out.mono ge.out.size);have hE:=zH (ownsRow_below j6.out gg.out);obtain⟨kd,c5,lV⟩:=ai hE.out;subst lV;have l0:cU (mF w2 m):=fh.out w2 (ba _ _);have ke:cU (∀n x,(n,x)∈p.H↔m.lf n x):=gR.out;clear j4 HP lP g6 en gd hT gS g7 ge j6 gR gg jj jn fY;have hJ:cU (∀W,bt I.heap.size I W->∀q:aq×aq,zP 34 #[ee kd p.St.length c5,ei #[Z U q.1,Z U q.2]] W (Z U (nL q 0 (aj m.xi)))):=λW A q=>by
  rw[<-eI.out];exact G8 W _ p.St q.1 q.2 (ownsRow_below hE.out A) (by omega)
 have kf:cU (∀W,bt I.heap.size I W->Pm T Q (Q+1) (Q+2) m (w3.heap.size+1) tg s p W):=λW A=>lT.out.grow A
 go_upto_region 9 with(fail)
 go_loopw [14] (λkk wr=>∃j:bo,j<=bd.length/\kk= Z U (j:aq)/\bt I.heap.size I wr) (λkk _=>bd.length-(intOf kk).toNat)
 case atStart=>exact⟨0,dt _,rfl,ba _ _⟩
 case round=>
  obtain⟨j,hj,rfl,L⟩:=hrel
  by_cases kh:j<bd.length
  ·obtain⟨x,hx⟩:∃x,bd[j]?=dy x:=⟨_,ac kh⟩
   obtain⟨f,v,y,ki,kj,hO,hU⟩:=lS.out x (ap hx);have fk:=HM.out.grow L;obtain⟨g,gi,gj,x0,x1,x2,x3⟩:=fk.seenAt hx;rw[ki] at x0;rw[kj] at x1;have kl:pF m (av (f:aq) (v:aq)) _:=(Aw gb.out hU).choose_spec.2;obtain⟨gf,hZ,mb⟩:=KF kl;have nn:=l0.out.ri.vl gf (ap hZ);have np:=(ag.1 hZ).1;have km:=(ag.1 hO).1;rw[<-eI.out] at km;have fm:=jy hO (gy m);have nr:(j:aq)<(bd.length:aq):=by omega
   obtain⟨C,ew⟩:=zE ((λW=>bt wr.heap.size wr W):World->Prop);have fp:cU (∀W,bt wr.heap.size wr W->C W):=λW A=>by rw[<-ew];exact A
   have Y:cU (∀W,C W->bt wr.heap.size wr W):=λW A=>by rw[<-ew] at A;exact A
   have eJ:cU (∀W,C W->bt I.heap.size I W):=λW A=>L.trans ((Y.out W A).mono L.size);have ft:cU (∀W W',C W->bt W.heap.size W W'->C W'):=λW W' J h2=>fp.out _ ((Y.out W J).trans (h2.mono (Y.out W J).size));have z:cU (∀W,C W->W.cell? ⟨g,j*4,dD⟩=dy (Z U (f:aq))/\W.cell? ⟨g,j*4+1,dD⟩=dy (Z U (v:aq))/\g<W.heap.size):=λW A=>by
    have h:=Y.out W A;have:=h.size;exact⟨by rw[h.cell (p:=⟨g,j*4,dD⟩) gj];exact x0,by rw[h.cell (p:=⟨g,j*4+1,dD⟩) gj];exact x1,by omega⟩
   have ie:cU (∀W,C W->∀q u,(#[Z U x.st.1,Z U x.st.2]:Array cy).toList[q]?=dy u->W.cell? ((⟨g,j*4+2,dD⟩:Addr).add q)=dy u):=λW A q u hu=>by
    have h:=Y.out W A;rw[cf,h.cell (p:=⟨g,j*4+2+q,dD⟩) gj];rcases q with _|_|q
    ·rw[<-(show _=dy u from hu)];exact x2
    ·rw[<-(show _=dy u from hu)];exact x3
    ·simp at hu
   have gl:cU (∀W,C W->zP 34 #[ee kd p.St.length c5,ei #[Z U x.st.1,Z U x.st.2]] W (Z U (y:aq))):=λW A=>by
    have:=hJ.out W (eJ.out W A) x.st;rw[fm] at this;exact this
   have mc:cU (∀W,C W->zP 33 #[eg (dy ⟨T,0,dD⟩),Z U (f:aq),Z U (v:aq),Z U (y:aq)] W (eh dS)):=λW A=>by
    obtain⟨q,me,ep⟩:=mH W (kf.out W (eJ.out W A)) f v y ⟨by omega,by omega⟩ (bY (oZ (by omega)) (oZ (by omega))) (oZ (by omega));rw[me.2 ⟨y,rfl,(ke.out _ _).2 hU⟩] at ep;exact ep
   obtain⟨V,hV⟩:=zE wr.drew;have fx:C V:=by rw[<-hV];exact fp.out _ (ba _ _).drew
   have HV:=zH hV;have eK:=zH L;have mf:=gi;clear ew fk hx hO hU ki kj kl hZ fm hV L x0 x1 x2 x3
   go_upto_region 11 with(fail)
   (try rw[mf]);refine bL C (by kernel_rfl) ?_;rw[HV.out];refine yT 0 rfl z.out ?_;(try go_simp);refine yT 1 rfl z.out ?_;(try go_simp);refine yT 2 rfl z.out ?_;(try go_simp);refine yT 3 rfl z.out ?_;(try go_simp);refine yT 4 rfl z.out ?_;(try go_simp);refine yT 5 rfl z.out ?_;(try go_simp);refine yT 6 rfl z.out ?_;(try go_simp);refine yT 7 rfl z.out ?_;(try go_simp);refine yT 8 rfl z.out ?_;(try go_simp);refine yT 9 rfl z.out ?_;(try go_simp);refine yT 10 rfl z.out ?_;(try go_simp);refine yT 11 rfl z.out ?_;(try go_simp);refine yT 12 rfl z.out ?_;(try go_simp);refine yT 13 rfl z.out ?_;(try go_simp);refine yT 14 rfl z.out ?_;(try go_simp);refine yT 15 rfl z.out ?_;(try go_simp);refine yL 16 rfl 67 ⟨g,j*4+2,dD⟩ ie.out du ?_;(try go_simp);refine yO 17 rfl λK' E=> ?_;go_simp;go_at_call 34;refine(gl.out V fx).mono ?_;rintro e W5 ⟨rfl,fi⟩;have et:C W5:=ft.out _ _ fx fi;refine E _ _ et ?_;clear E;(try go_simp);refine yO 18 rfl λK' E=> ?_;go_simp;go_at_call 33;refine(mc.out W5 et).mono ?_;rintro e W6 ⟨rfl,fj⟩;have ez:C W6:=ft.out _ _ et fj;refine E _ _ ez ?_;clear E;(try go_simp);refine yT 19 rfl z.out ?_;(try go_simp);refine⟨by kernel_rfl, ?_⟩;have gm:=zH (eJ.out W6 ez);clear fx et ez fi fj;go_wp2;go_roundw
   case rel=>exact⟨j+1,kh,by go_num,gm.out⟩
   case measure=>simp[intOf];omega
  have mg:¬(j:aq)<(bd.length:aq):=by omega
  have kn:=zH L;clear L hj
  go_upto_region 14 with(fail)
  obtain⟨w7,kp⟩:=zE wr;rw[kp] at kn⊢;clear kp
  go_loopw [15,16,17,18,19] (λkk _ _ _ _ wr=>∃j:bo,j<=cs.length/\kk= Z U (j:aq)/\bt I.heap.size I wr) (λkk _ _ _ _ _=>cs.length-(intOf kk).toNat)
  case atStart=>exact⟨0,dt _,rfl,kn.out⟩
  case round=>
   obtain⟨i,hi,rfl,L⟩:=hrel
   by_cases kq:i<cs.length
   rotate_left
   ·have mg:¬(i:aq)<(cs.length:aq):=by omega
    have eK:=zH (gh.out.trans (L.mono gh.out.size));clear L
    go_wp2_with (go_at_call 29;refine(eS.out _).mono ?_;rintro e w9 ⟨rfl,ks⟩;have HR:=zH (HK.out w9 (eK.out.trans (ks.mono eK.out.size))).2.2.2.1;clear ks)
    go_ret;exact⟨rfl,HR.out⟩
   obtain⟨c,hc⟩:∃c,cs[i]?=dy c:=⟨_,ac kq⟩
   obtain⟨y,st,ii,kt,kv,kx⟩:=(HI.out.cells c (ap hc)).ex;have fk:=HM.out.grow L;obtain⟨gc,gi,gj,_,x0,x1,x2,x3⟩:=fk.cellAt hc;have fm:=jy ii (gy m);have ns:(i:aq)<(cs.length:aq):=by omega
   have gl:=zH (hJ.out wr L c.st);rw[fm] at gl;have fy:=zH gi;have HC:=zH hc;have ij:=zH ii;have mh:=zH kt;have mj:=zH kx;have eK:=zH L;have nt:=x1;have nv:¬(y:aq)<0:=by omega
   clear fk hc ii kt kx L fm gi
   go_upto_region 16 with(fail)
   (try rw[fy.out])
   go_upto_region 19 with(go_at_call 34;refine gl.out.mono ?_;rintro e w8 ⟨rfl,ky⟩;have ml:=zH ky;clear ky)
   have gn:bt I.heap.size I w8:=eK.out.trans (ml.out.mono eK.out.size);obtain⟨d0,d1,fz,_,mm⟩:=HK.out w8 (gh.out.trans (gn.mono gh.out.size));obtain⟨j',k',q,g',i',s',kA,eL,fL,kB,hq,kL⟩:=yI gb.out ij.out;rw[mh.out] at kL;obtain rfl:=ar kL;have kO:=ap eL;obtain⟨fb,fo,kT,mn,k1⟩:=fz.frow (λe=>by rw[e] at eL;simp at eL);have k2:=fz.fin g' kO;obtain⟨ib,io,k3,mp,k4⟩:=k2.code.row (λe=>by rw[e] at fL;simp at fL);obtain⟨tb,tO,k5,ms,k6⟩:=fz.srow (λe=>by rw[e] at hq;simp at hq);obtain⟨eq,er,k7,k8,mu⟩:∃eq er,st.s.cells=#[ec st.s.nm,ee eq st.fs.length er,Z U st.s.ln,Z U st.s.cl]/\aK Fd.cells 5 w8 w8.heap.size eq st.fs/\st.fs.length<=maxLen:=by
    have J:=fz.sin st (ap hq);exact⟨st.s.fA,st.s.fC,by unfold DZ.cells;rw[J.nf],J.row,J.len⟩
   have im:=k1 j' g' eL 7 _ rfl;rw[k3] at im;have x4:=k4 k' i' fL 4 _ rfl;rw[kB] at x4;rw[kT] at d1;rw[k5] at d0;obtain⟨sb,rfl,k9,ip⟩:=iI pR 2 (λ_=>rfl) (ownsRow_below hE.out gn) (show p.St[y]?=dy ((j':aq),(k':aq)) by rw[eI.out,<-kA];exact ij.out);have s0:=ip 0 _ rfl;have s1:=ip 1 _ rfl;rw[Nat.add_zero] at s0;have km:y<p.St.length:=by rw[eI.out];exact(ag.1 ij.out).1
   have nw:=(ag.1 eL).1;have nx:=(ag.1 fL).1;have nB:=(ag.1 hq).1;have nF:=jz.out st (ap hq);have nI:(y:aq)<(p.St.length:aq):=by omega
   have nS:(j':aq)<(m.fs.length:aq):=by omega
   have nT:(k':aq)<(g'.c.ins.length:aq):=by omega
   have nV:(q:aq)<(m.ss.length:aq):=by omega
   obtain⟨V,hV⟩:=zE w8.drew;have fN:bt w8.heap.size w8 V:=by rw[<-hV];exact(ba _ _).drew
   obtain⟨S1,gr⟩:=zE ((λW=>bt w8.heap.size w8 W):World->Prop);have gw:cU (∀W,bt w8.heap.size w8 W->S1 W):=λW A=>by rw[<-gr];exact A
   have fx:S1 V:=gw.out _ fN;have la:N<w8.heap.size:=mm;have z:cU (∀W,S1 W->W.cell? ⟨N,0,dD⟩=dy (ee (dy ⟨tb,tO,dD⟩) m.ss.length m.sC)/\W.cell? ⟨N,1,dD⟩=dy (ee (dy ⟨fb,fo,dD⟩) m.fs.length m.fC)/\W.cell? ⟨sb,y*2,dD⟩=dy (Z U (j':aq))/\W.cell? ⟨sb,y*2+1,dD⟩=dy (Z U (k':aq))/\W.cell? ⟨fb,fo+j'*8+7,dD⟩=dy (ee (dy ⟨ib,io,dD⟩) g'.c.ins.length g'.c.insC)/\W.cell? ⟨ib,io+k'*13+4,dD⟩=dy (Z U (q:aq))/\N<W.heap.size/\sb<W.heap.size/\fb<W.heap.size/\ib<W.heap.size/\tb<W.heap.size):=λW A=>by
    rw[<-gr] at A;have hs:=A.size;exact⟨by rw[A.cell (p:=⟨N,0,dD⟩) la];exact d0,by rw[A.cell (p:=⟨N,1,dD⟩) la];exact d1,by rw[A.cell (p:=⟨sb,y*2,dD⟩) k9];exact s0,by rw[A.cell (p:=⟨sb,y*2+1,dD⟩) k9];exact s1,by rw[A.cell (p:=⟨fb,fo+j'*8+7,dD⟩) mn];exact im,by rw[A.cell (p:=⟨ib,io+k'*13+4,dD⟩) mp];exact x4,by omega,by omega,by omega,by omega,by omega⟩
   have ir:=k6 q st hq;rw[show St.cells st=st.s.cells from rfl,k7] at ir;have lb:cU (∀W,S1 W->∀n u,(#[ec st.s.nm,ee eq st.fs.length er,Z U st.s.ln,Z U st.s.cl]:Array cy).toList[n]?=dy u->W.cell? ((⟨tb,tO+q*4,dD⟩:Addr).add n)=dy u):=λW A n u hu=>by
    rw[<-gr] at A;rw[cf,A.cell (p:=⟨tb,tO+q*4+n,dD⟩) ms];exact ir n u hu
   obtain⟨D,hD⟩:=zE V.heap.size;obtain⟨W2,fR⟩:=zE (V.alloc (el #[ec st.s.nm,ee eq st.fs.length er,Z U st.s.ln,Z U st.s.cl] 90));have ld:∀(c:Array cy),c.size=4->(storeCells ⟨D,0,dD⟩ [ec st.s.nm,ee eq st.fs.length er,Z U st.s.ln,Z U st.s.cl] 0).run aw (V.alloc (el c 90))= .ok () W2:=λc hc=>by
    rw[<-hD,<-fR];exact run_storeCells_new (P:=aw) V 90 c #[ec st.s.nm,ee eq st.fs.length er,Z U st.s.ln,Z U st.s.cl] (by show _=dy 4;kernel_rfl) hc (by simp[cP])
   have G:bt w8.heap.size w8 W2:=by rw[<-fR];exact fN.alloc fN.size _
   have le:W2.heap[D]?=dy (el #[ec st.s.nm,ee eq st.fs.length er,Z U st.s.ln,Z U st.s.cl] 90 (0,0)):=by rw[<-fR,<-hD];exact alloc_at _ _
   have en:=zH G;have li:=zH le;have HV:=zH hV;have mv:=zH hD;have mw:=zH (k8.grow G);have it:=zH fN;have lj:=zH gn;clear gr fN hV d0 d1 s0 s1 im x4 ir k6 ip k4 k1 kT k3 k5 k2 fz kO eL fL hq kB k8 G le gn k7 kA;unfold maxLen at mu;refine bL S1 (by kernel_rfl) ?_;rw[HV.out];refine yT 0 rfl z.out ?_;(try go_simp);refine yT 1 rfl z.out ?_;(try go_simp);refine yT 2 rfl z.out ?_;(try go_simp);refine yT 3 rfl z.out ?_;(try go_simp);refine yT 4 rfl z.out ?_;(try go_simp);refine yT 5 rfl z.out ?_;(try go_simp);refine yT 6 rfl z.out ?_;(try go_simp);refine yT 7 rfl z.out ?_;(try go_simp);refine yT 8 rfl z.out ?_;(try go_simp);refine yT 9 rfl z.out ?_;(try go_simp);refine yT 10 rfl z.out ?_;(try go_simp);refine yT 11 rfl z.out ?_;(try go_simp);refine yT 12 rfl z.out ?_;(try go_simp);refine yT 13 rfl z.out ?_;(try go_simp);refine yT 14 rfl z.out ?_;(try go_simp);refine yT 15 rfl z.out ?_;(try go_simp);refine yT 16 rfl z.out ?_;(try go_simp);refine yT 17 rfl z.out ?_;(try go_simp);refine yT 18 rfl z.out ?_;(try go_simp);refine yT 19 rfl z.out ?_;(try go_simp);refine yT 20 rfl z.out ?_;(try go_simp);refine yL 21 rfl 90 ⟨tb,tO+q*4,dD⟩ lb.out underlying90 ?_;(try go_simp);refine yO 22 rfl λK' E=> ?_;go_simp;(try rw[mv.out]);refine E _ _ (gw.out _ (it.out.alloc it.out.size _)) ?_;have lk:=zH fR;clear E fR;(try go_simp);refine yO 23 rfl λK' E=> ?_;go_simp;(try simp only[ld]);(try go_simp);(try rw[lk.out]);refine E _ _ (gw.out _ en.out) ?_;clear E ld;refine⟨by kernel_rfl, ?_⟩;clear fx z lb gw HV hD it lk
   go_upto_region 21 with(fail)
   go_loopw [18,19] (λkk _ wr=>∃k:bo,k<=st.fs.length/\kk= Z U (k:aq)/\bt W2.heap.size W2 wr) (λkk _ _=>st.fs.length-(intOf kk).toNat)
   case atStart=>exact⟨0,dt _,rfl,ba _ _⟩
   case round=>
    obtain⟨k,hk,rfl,eA⟩:=hrel;have eM:bt I.heap.size I wr:=lj.out.trans ((en.out.trans (eA.mono en.out.size)).mono lj.out.size);have gz:=(eA.block D (ae li.out)).trans li.out;have iu:wr.cell? ⟨D,1,dD⟩=dy (ee eq st.fs.length er):=zR gz 1 _;have mx:=ae gz
    by_cases fS:k<st.fs.length
    rotate_left
    ·have n0:¬(k:aq)<(st.fs.length:aq):=by omega
     have my:=zH eM;clear eA eM gz;rw[<-fy.out];go_wp2;go_roundw
     case rel=>exact⟨i+1,kq,by go_num,my.out⟩
     case measure=>simp[intOf];omega
    obtain⟨fd,es⟩:∃fd,st.fs[k]?=dy fd:=⟨_,ac fS⟩
    obtain⟨p0,ix⟩:∃p0,c.fs[k]?=dy p0:=⟨_,ac (by rw[kv];exact fS)⟩
    have lp:=mj.out k fd p0 es ix;have mz:(k:aq)<(st.fs.length:aq):=by omega
    have n6:(k:aq)<(c.fs.length:aq):=by rw[kv];exact mz
    have gA:=HM.out.grow eM;obtain⟨mA,iz,n7,_,_,z1,_,_⟩:=gA.cellAt HC.out;rw[fy.out] at iz;obtain rfl:gc=mA:=by injection iz with e;injection e with e
    have iA:=gA.x.fl i c HC.out (by simp);have z2:wr.cell? ⟨c.b,k,dD⟩=dy (Z U p0):=iA.cell ix;have mb:=ae iA;obtain⟨gC,iC,lr,mB,ls⟩:=(mw.out.grow eA) (λe=>by rw[e] at es;simp at es)
    have z3:=ls k fd es 1 _ rfl;rw[lr] at iu;obtain⟨pt,iD⟩:=zE fd.ptr;rw[iD] at z3;obtain⟨C,ew⟩:=zE ((λW=>bt wr.heap.size wr W):World->Prop);have fp:cU (∀W,bt wr.heap.size wr W->C W):=λW A=>by rw[<-ew];exact A
    have Y:cU (∀W,C W->bt wr.heap.size wr W):=λW A=>by rw[<-ew] at A;exact A
    have eJ:cU (∀W,C W->bt I.heap.size I W):=λW A=>eM.trans ((Y.out W A).mono eM.size);have lv:cU (∀W,C W->bt W2.heap.size W2 W):=λW A=>eA.trans ((Y.out W A).mono eA.size);have ft:cU (∀W W',C W->bt W.heap.size W W'->C W'):=λW W' J h2=>fp.out _ ((Y.out W J).trans (h2.mono (Y.out W J).size));have z:cU (∀W,C W->W.cell? ⟨D,1,dD⟩=dy (ee (dy ⟨gC,iC,dD⟩) st.fs.length er)/\W.cell? ⟨gC,iC+k*5+1,dD⟩=dy (eh pt)/\D<W.heap.size/\gC<W.heap.size/\gc<W.heap.size):=λW A=>by
     have h:=Y.out W A;have:=h.size;exact⟨by rw[h.cell (p:=⟨D,1,dD⟩) mx];exact iu,by rw[h.cell (p:=⟨gC,iC+k*5+1,dD⟩) mB];exact z3,by omega,by omega,by omega⟩
    obtain⟨V3,iS⟩:=zE wr.drew;have i2:C V3:=by rw[<-iS];exact fp.out _ (ba _ _).drew
    have mC:=zH iS;have mL:=zH lp;have mN:=zH iD;have mS:=zH gA;have mT:=zH (lv.out V3 i2);clear ew ls gA iA iS lp iD gz eA eM ix es z3 lr
    go_upto_region 24 with(fail)
    (try rw[fy.out]);refine bL C (by kernel_rfl) ?_;rw[mC.out];have gm:=mT;clear z1 z2 iu;cases pt with
    |false=>
     refine yT 0 rfl z.out ?_;(try go_simp);refine yT 1 rfl z.out ?_;(try go_simp);refine yT 2 rfl z.out ?_;(try go_simp);refine yT 3 rfl z.out ?_;(try go_simp);refine yT 4 rfl z.out ?_;(try go_simp);refine yT 5 rfl z.out ?_;(try go_simp);refine yT 6 rfl z.out ?_;(try go_simp);refine yT 7 rfl z.out ?_;(try go_simp);refine Ja 8 rfl ?_;(try go_simp);refine Ja 9 rfl ?_;(try go_simp);refine yT 10 rfl z.out ?_;(try go_simp);refine yT 11 rfl z.out ?_;(try go_simp);refine Ja 12 rfl ?_;(try go_simp);refine Ja 13 rfl ?_;(try go_simp);refine Ja 14 rfl ?_;(try go_simp);refine Ja 15 rfl ?_;(try go_simp);refine Ja 16 rfl ?_;(try go_simp);refine Ja 17 rfl ?_;(try go_simp);refine Ja 18 rfl ?_;(try go_simp);refine Ja 19 rfl ?_;(try go_simp);refine Ja 20 rfl ?_;(try go_simp);refine Ja 21 rfl ?_;(try go_simp);refine Ja 22 rfl ?_;(try go_simp);refine Ja 23 rfl ?_;(try go_simp);refine Ja 24 rfl ?_;(try go_simp);refine Ja 25 rfl ?_;(try go_simp);refine yT 26 rfl z.out ?_;(try go_simp);refine⟨by kernel_rfl, ?_⟩;go_wp2;go_roundw
     case rel=>exact⟨k+1,fS,by go_num,gm.out⟩
     case measure=>simp[intOf];omega
    |true=>
    by_cases m0:0<p0
    rotate_left
    ·have m3:decide (0<p0)=dT:=cG m0
     refine yT 0 rfl z.out ?_;(try go_simp);refine yT 1 rfl z.out ?_;(try go_simp);refine yT 2 rfl z.out ?_;(try go_simp);refine yT 3 rfl z.out ?_;(try go_simp);refine yT 4 rfl z.out ?_;(try go_simp);refine yT 5 rfl z.out ?_;(try go_simp);refine yT 6 rfl z.out ?_;(try go_simp);refine yT 7 rfl z.out ?_;(try go_simp);refine yT 8 rfl z.out ?_;(try go_simp);refine yT 9 rfl z.out ?_;(try go_simp);refine yT 10 rfl z.out ?_;(try go_simp);refine yT 11 rfl z.out ?_;(try go_simp);refine Ja 12 rfl ?_;(try go_simp);refine Ja 13 rfl ?_;(try go_simp);refine Ja 14 rfl ?_;(try go_simp);refine Ja 15 rfl ?_;(try go_simp);refine Ja 16 rfl ?_;(try go_simp);refine Ja 17 rfl ?_;(try go_simp);refine Ja 18 rfl ?_;(try go_simp);refine Ja 19 rfl ?_;(try go_simp);refine Ja 20 rfl ?_;(try go_simp);refine Ja 21 rfl ?_;(try go_simp);refine Ja 22 rfl ?_;(try go_simp);refine Ja 23 rfl ?_;(try go_simp);refine Ja 24 rfl ?_;(try go_simp);refine Ja 25 rfl ?_;(try go_simp);refine yT 26 rfl z.out ?_;(try go_simp);refine⟨by kernel_rfl, ?_⟩;go_wp2;go_roundw
     case rel=>exact⟨k+1,fS,by go_num,gm.out⟩
     case measure=>simp[intOf];omega
    obtain⟨_,_,lx⟩:=mL.out.2 mN.out;obtain⟨n,rfl⟩:∃n:bo,p0=(n:aq)+1:=⟨(p0-1).toNat,by omega⟩
    obtain⟨q2,y2,ep,ly,lz⟩:=lx n rfl;rw[cd] at ep;obtain⟨c2,i3,m4⟩:∃c2,cs[n]?=dy c2/\c2.st=q2:=by
     cases lA:cs[n]? with
     |none=>rw[lA] at ep;simp at ep
     |some c2=>rw[lA] at ep;exact⟨c2,rfl,by simpa using ep⟩
    subst m4;have n8:=(ag.1 i3).1;have n9:(n:aq)<(cs.length:aq):=by omega
    have oa:bs.wrap ((n:aq)+1-1)=(n:aq):=by rw[bb];omega
    have ob:bs.wrap (n:aq)=(n:aq):=by rw[bb];omega
    have m3:decide (0<(n:aq)+1)=dS:=decide_eq_true (by omega);obtain⟨m5,i4,m6,_,_,_,u2,u3⟩:=mS.out.cellAt i3;rw[fy.out] at i4;obtain rfl:gc=m5:=by injection i4 with e;injection e with e
    have lB:=jy ly (gy m);have ie:cU (∀W,C W->∀q u,(#[Z U c2.st.1,Z U c2.st.2]:Array cy).toList[q]?=dy u->W.cell? ((⟨gc,n*4+2,dD⟩:Addr).add q)=dy u):=λW A q u hu=>by
     have h:=Y.out W A;rw[cf,h.cell (p:=⟨gc,n*4+2+q,dD⟩) m6];rcases q with _|_|q
     ·rw[<-(show _=dy u from hu)];exact u2
     ·rw[<-(show _=dy u from hu)];exact u3
     ·simp at hu
    have m7:cU (∀W,C W->zP 34 #[ee (dy ⟨sb,0,dD⟩) p.St.length c5,ei #[Z U c2.st.1,Z U c2.st.2]] W (Z U (y2:aq))):=λW A=>by
     have:=hJ.out W (eJ.out W A) c2.st;rw[lB] at this;exact this
    have m8:cU (∀W,C W->Calls aw 36 #[eg (dy ⟨T,0,dD⟩),Z U (y:aq),Z U (k:aq)] W (yB p.H (bN (y:aq) (k:aq)) W)):=λW A=>
     mG W (kf.out W (eJ.out W A)) y k ⟨by omega,by omega⟩ (tL (oZ (by omega)) (oZ (by omega))) j2.out
    have m9:=(ke.out _ _).2 lz;clear i3 ep ly lz lx lB iz i4 u2 u3;refine yT 0 rfl z.out ?_;(try go_simp);refine yT 1 rfl z.out ?_;(try go_simp);refine yT 2 rfl z.out ?_;(try go_simp);refine yT 3 rfl z.out ?_;(try go_simp);refine yT 4 rfl z.out ?_;(try go_simp);refine yT 5 rfl z.out ?_;(try go_simp);refine yT 6 rfl z.out ?_;(try go_simp);refine yT 7 rfl z.out ?_;(try go_simp);refine yT 8 rfl z.out ?_;(try go_simp);refine yT 9 rfl z.out ?_;(try go_simp);refine yT 10 rfl z.out ?_;(try go_simp);refine yT 11 rfl z.out ?_;(try go_simp);refine yT 12 rfl z.out ?_;(try go_simp);refine yT 13 rfl z.out ?_;(try go_simp);refine yT 14 rfl z.out ?_;(try go_simp);refine yT 16 rfl z.out ?_;(try go_simp);refine yT 17 rfl z.out ?_;(try go_simp);refine yT 18 rfl z.out ?_;(try go_simp);refine yT 19 rfl z.out ?_;(try go_simp);refine yT 20 rfl z.out ?_;(try go_simp);refine yT 21 rfl z.out ?_;(try go_simp);refine yL 22 rfl 67 ⟨gc,n*4+2,dD⟩ ie.out du ?_;(try go_simp);refine yO 15 rfl λK' E=> ?_;go_simp;go_at_call 36;refine(m8.out V3 i2).mono ?_;rintro e W5 ⟨l1,a1,c1,rfl,eR,fW⟩;have et:C W5:=ft.out _ _ i2 fW;refine E _ _ et ?_;clear E;(try go_simp);refine yO 23 rfl λK' E=> ?_;go_simp;go_at_call 34;refine(m7.out W5 et).mono ?_;rintro e W6 ⟨rfl,ev⟩;have ez:C W6:=ft.out _ _ et ev;refine E _ _ ez ?_;clear E;(try go_simp);have lE:=Ca W6 a1 (l1.map Int.ofNat) c1 (y2:aq) ((eR.1.at_).below ev) (by rw[dp];exact KT eR.2.1 (λx hx=>j2.out _ _ ((eR.2.2 x).1 hx)));rw[dp,show decide ((y2:aq)∈l1.map Int.ofNat)=dS from decide_eq_true (List.mem_map.2 ⟨y2,(eR.2.2 y2).2 m9,rfl⟩)] at lE;refine yO 24 rfl λK' E=> ?_;go_simp;go_at_call 35;refine lE.mono ?_;rintro e _ ⟨rfl,rfl⟩;refine E _ _ ez ?_;clear E;(try go_simp);refine yT 25 rfl z.out ?_;(try go_simp);refine yT 26 rfl z.out ?_;(try go_simp);refine⟨by kernel_rfl, ?_⟩;have na:=zH (lv.out W6 ez);go_wp2;go_roundw
    case rel=>exact⟨k+1,fS,by go_num,na.out⟩
    case measure=>simp[intOf];omega
end
section
open Go.ChangeShapes Go.WideShapes Go.ChangeAt Go.RowKit
theorem own_:ownKnob aw.godebug=dD:=by kernel_rfl
theorem laidOut_:laidOutB aw=dS:=by kernel_rfl
theorem law_post {H:Type}{enc:TypeId×cy->H}{P:Program}{f:Func}{s:ChangeSpec}{W u:World}{args:Array cy}{v:cy}{z A:bq (DataW H)}{C pa pv:bq MemPlace}
  (E:DataW.Whole enc P f.params.toList s.vars dT W args.toList z A C)
  (G:∀(b:bo)(I:bo->Bool)(J:Bool),DataW.TrodAll enc P u b I J f.resultTypes.toList (v.resultList f.resultTypes.size) (s.fn H (z++A)).results [])
  (L:DataW.TrodAll enc P u 0 (λb=>decide (b<W.heap.size)) dS f.params.toList args.toList (s.fn H (z++A)).args pa)
  (N:DataW.TrodVars enc P u (λb=>decide (b<W.heap.size)) s.vars (s.fn H (z++A)).vars pv)
  (O:C=pa++pv)(Q:bt W.heap.size W u):
  s.post enc P f dT dS dT dT W args v u:=by
 refine⟨z,A,C,[],pa,pv,E,G _ _ _,L,N,World.keptBut_mono (λp D=>⟨D, ?_⟩) (Q.frame (·∈C)),λh=> ?_⟩
 ·rw[O,cv] at D
  exact Or.inr D
 ·exact cm h (by decide)
theorem shut_true {H:Type}{enc:TypeId×cy->H}{W:World}{base:bo}{f:bo->Bool}{held:Bool}(b:Bool):DataW.Trod enc aw W base f held 4 (.bool b) (.lit (.bool b)) []:=⟨1,by simp[de,Value.cells,underlying4]⟩
end
section
open Go.RowKit Go.ChangeShapes Go.WideShapes Go.Deep
section
variable {H:Type}{enc:TypeId×cy->H}{w:World}{base:bo}{spare:bo->Bool}{held:Bool}
def Ins.mode_in (w:World)(i:Ins):Prop:=∃(l:bq aq) (f:cL Addr) (cap:bo),i.modeV= ee f l.length cap/\kI w f l
theorem DW {n:bo}{cs:bq cy}{x:DataW H×bq MemPlace}(h:de enc aw w base spare held n 42 cs=dy x):∃i:Ins,i.cells.toList=cs/\i.args_in w/\i.mode_in w:=by
 obtain⟨i,f,z⟩:=D5 h;refine⟨i,f,z, ?_⟩;obtain⟨u,m,_,_,J,D,E⟩:=b8 cn h;have N:u.length=12:=D;have G:=(E 8 _ rfl).trans (ac (show 8<u.length by omega));obtain⟨A,L,C,v,_,I,_⟩:=jE G;refine⟨L,A,C, ?_,I⟩;rw[<-f] at v;simpa[Ins.cells,show aw.cellsOf 35=1 from by kernel_rfl] using v
theorem Gl {n:bo}{cs:bq cy}{x:DataW H×bq MemPlace}(h:de enc aw w base spare held n 92 cs=dy x):∃f:Fd,f.cells.toList=cs/\f.nm.size<=maxLen:=by
 obtain⟨u,m,_,_,C,T,v⟩:=b8 underlying92 h;have V:aw.cellsOf 92=5:=by kernel_rfl
 have ew:u.length=3:=T;rw[V] at C;obtain⟨W,ez,X,Y⟩:=zU C;obtain⟨c1,eA,e1,en⟩:=zU Y;obtain⟨c2,eC,e2,ep⟩:=zU en;obtain⟨c3,eE,e3,eq⟩:=zU ep;obtain⟨c4,eI,e4,er⟩:=zU eq;obtain rfl:=cj er;subst e4 e3 e2 e1 X;have z1:aw.cellsOf 4=1:=by kernel_rfl
 have D:aw.cellsOf 9=1:=by kernel_rfl
 have E:aw.cellsOf 3=1:=by kernel_rfl
 have G:aw.cellsOf 32=2:=by kernel_rfl
 have I:aw.cellsOf 40=2:=by kernel_rfl
 have g0:=(v 0 _ rfl).trans (ac (show 0<u.length by omega));obtain⟨nm,r0,_,es⟩:=cJ cV g0;obtain rfl:W= .string nm:=by simpa[D] using r0
 have g1:=(v 1 _ rfl).trans (ac (show 1<u.length by omega));obtain⟨z,m',_,_,_,et,J⟩:=b8 underlying32 g1;have eJ:z.length=2:=et;have p0:=(J 0 _ rfl).trans (ac (show 0<z.length by omega));have p1:=(J 1 _ rfl).trans (ac (show 1<z.length by omega));obtain⟨L,s0,_⟩:=DataW.trod_bool underlying4 p0;obtain⟨N,s1,_,_⟩:=cJ cV p1;obtain rfl:c1= .bool L:=by simpa[z1,G] using s0
 obtain rfl:c2= .string N:=by simpa[D,G] using s1
 have g2:=(v 2 _ rfl).trans (ac (show 2<u.length by omega));obtain⟨A,eK,_,_,_,ev,O⟩:=b8 underlying40 g2;have eL:A.length=2:=ev;have u0:=(O 0 _ rfl).trans (ac (show 0<A.length by omega));have u1:=(O 1 _ rfl).trans (ac (show 1<A.length by omega));obtain⟨P,v0,_,_⟩:=cg cc u0;obtain⟨Q,v1,_,_⟩:=cg cc u1;obtain rfl:c3= .int .i64 P:=by simpa[E,I] using v0
 obtain rfl:c4= .int .i64 Q:=by simpa[E,I] using v1
 exact⟨⟨nm,L,N,P,Q⟩,rfl,es⟩
theorem Gm {n:bo}{cs:bq cy}{x:DataW H×bq MemPlace}(h:de enc aw w base spare held n 90 cs=dy x):∃s:St,s.cells.toList=cs/\s.inn w:=by
 obtain⟨u,m,_,_,C,O,v⟩:=b8 underlying90 h;have P:aw.cellsOf 90=4:=by kernel_rfl
 have ew:u.length=3:=O;rw[P] at C;obtain⟨Q,ez,T,V⟩:=zU C;obtain⟨W,eA,X,Y⟩:=zU V;obtain⟨c2,eC,e2,en⟩:=zU Y;obtain⟨c3,eE,e3,ep⟩:=zU en;obtain rfl:=cj ep;subst e3 e2 X T;have z2:aw.cellsOf 9=1:=by kernel_rfl
 have D:aw.cellsOf 3=1:=by kernel_rfl
 have E:aw.cellsOf 40=2:=by kernel_rfl
 have z6:aw.cellsOf 88=1:=by kernel_rfl
 have g0:=(v 0 _ rfl).trans (ac (show 0<u.length by omega));obtain⟨nm,r0,_,eq⟩:=cJ cV g0;obtain rfl:Q= .string nm:=by simpa[z2] using r0
 have g1:=(v 1 _ rfl).trans (ac (show 1<u.length by omega));obtain⟨G,z,I,r1,er,es,et⟩:=open_row Fd.cells (λf:Fd=>f.nm.size<=maxLen) 5 (by decide) underlying88 (by kernel_rfl) (λn cs x hx=>Gl hx) g1;obtain rfl:W= .slice G z.length I:=by simpa[z6] using r1
 have g2:=(v 2 _ rfl).trans (ac (show 2<u.length by omega));obtain⟨A,eI,_,_,_,ev,J⟩:=b8 underlying40 g2;have eJ:A.length=2:=ev;have u0:=(J 0 _ rfl).trans (ac (show 0<A.length by omega));have u1:=(J 1 _ rfl).trans (ac (show 1<A.length by omega));obtain⟨L,v0,_,_⟩:=cg cc u0;obtain⟨N,v1,_,_⟩:=cg cc u1;obtain rfl:c2= .int .i64 L:=by simpa[D,E] using v0
 obtain rfl:c3= .int .i64 N:=by simpa[D,E] using v1
 exact⟨⟨⟨nm,G,z.length,I,L,N⟩,z⟩,rfl,rfl,es,er,eq,et⟩
end
end
section
open Go.RowKit Go.ChangeShapes Go.WideShapes Go.Deep
theorem JF {x:aq}(h:(Lit.int .i64 x).wf=dS):fO x:=by
 simp only[Lit.wf,ct,cW] at h;exact h
def Ins.wfs (i:Ins):Prop:=fO i.d/\fO i.a/\fO i.b/\fO i.f
section
variable {H:Type}{enc:TypeId×cy->H}{w:World}{base:bo}{spare:bo->Bool}{held:Bool}
theorem DX {n:bo}{cs:bq cy}{x:DataW H×bq MemPlace}(h:de enc aw w base spare held n 42 cs=dy x):∃i:Ins,i.cells.toList=cs/\(i.args_in w/\i.wfs)/\i.mode_in w:=by
 obtain⟨i,A,I,J⟩:=DW h;refine⟨i,A,⟨I, ?_⟩,J⟩;obtain⟨u,m,_,_,en,L,v⟩:=b8 cn h;have ep:u.length=12:=L;have z:aw.cellsOf 3=1:=by kernel_rfl
 have N:=(v 1 _ rfl).trans (ac (show 1<u.length by omega));have g2:=(v 2 _ rfl).trans (ac (show 2<u.length by omega));have O:=(v 3 _ rfl).trans (ac (show 3<u.length by omega));have P:=(v 4 _ rfl).trans (ac (show 4<u.length by omega));obtain⟨d,C,_,w1⟩:=cg cc N;obtain⟨a,D,_,w2⟩:=cg cc g2;obtain⟨b,E,_,Q⟩:=cg cc O;obtain⟨f,G,_,T⟩:=cg cc P;rw[<-A] at C D E G;have V:i.d=d:=by simpa[Ins.cells,z] using C
 have W:i.a=a:=by simpa[Ins.cells,z] using D
 have X:i.b=b:=by simpa[Ins.cells,z] using E
 have Y:i.f=f:=by simpa[Ins.cells,z] using G
 unfold Ins.wfs;rw[V,W,X,Y];exact⟨JF w1,JF w2,JF Q,JF T⟩
theorem Fp {n:bo}{cs:bq cy}{x:DataW H×bq MemPlace}(h:de enc aw w base spare held n 38 cs=dy x):∃f:Fn,f.cells.toList=cs/\f.inn w/\∀i∈f.c.ins,i.wfs:=by
 obtain⟨u,m,_,_,L,eq,A⟩:=b8 underlying38 h;have hc:aw.cellsOf 38=8:=by kernel_rfl
 have eS:u.length=6:=eq;rw[hc] at L;obtain⟨c0,eV,e0,er⟩:=zU L;obtain⟨c1,eW,e1,es⟩:=zU er;obtain⟨c2,ff,e2,et⟩:=zU es;obtain⟨c3,fg,e3,ev⟩:=zU et;obtain⟨c4,fh,e4,ew⟩:=zU ev;obtain⟨c5,fi,e5,ez⟩:=zU ew;obtain⟨c6,fj,e6,eA⟩:=zU ez;obtain⟨c7,fk,e7,eC⟩:=zU eA;obtain rfl:=cj eC;subst e7 e6 e5 e4 e3 e2 e1 e0;have g0:=(A 0 _ rfl).trans (ac (show 0<u.length by omega));obtain⟨N,r0,_,eE⟩:=cJ cV g0;obtain rfl:c0= .string N:=by simpa[show aw.cellsOf 9=1 from by kernel_rfl] using r0
 have g1:=(A 1 _ rfl).trans (ac (show 1<u.length by omega));obtain⟨O,r1,_,_⟩:=cg cc g1;obtain rfl:c1= .int .i64 O:=by simpa[show aw.cellsOf 3=1 from by kernel_rfl] using r1
 have g2:=(A 2 _ rfl).trans (ac (show 2<u.length by omega));obtain⟨P,C,Q,r2,eI,T,_⟩:=open_row Vr.cells (λ_=>True) 3 (by decide) underlying30 (by kernel_rfl) (λn cs x z=>Cg z) g2;obtain rfl:c2= .slice P C.length Q:=by simpa[show aw.cellsOf 30=1 from by kernel_rfl] using r2
 have g3:=(A 3 _ rfl).trans (ac (show 3<u.length by omega));obtain⟨v,V,_⟩:=Cg g3;have z4:aw.cellsOf 34=3:=by kernel_rfl
 simp[Vr.cells,z4] at V;obtain⟨rfl,rfl,rfl⟩:=V;have g4:=(A 4 _ rfl).trans (ac (show 4<u.length by omega));obtain⟨W,D,X,r4,eJ,Y,_⟩:=jE g4;obtain rfl:c6= .slice W D.length X:=by simpa[show aw.cellsOf 35=1 from by kernel_rfl] using r4
 have g5:=(A 5 _ rfl).trans (ac (show 5<u.length by omega));obtain⟨en,ins,ep,r5,eK,eL,G⟩:=open_row Ins.cells (λi=>(i.args_in w/\i.wfs)/\i.mode_in w) 13 (by decide) underlying36 (by kernel_rfl) (λn cs x z=>DX z) g5;obtain rfl:c7= .slice en ins.length ep:=by simpa[show aw.cellsOf 36=1 from by kernel_rfl] using r5
 obtain⟨eM,eN,eR⟩:=lM (λk (l:bq aq)=>∀i,ins[k]?=dy i->∃E cap,i.modeV= .slice E l.length cap/\kI w E l) ins.length (λk hk=>by
  obtain⟨i,hi⟩:∃i,ins[k]?=dy i:=⟨_,ac hk⟩
  obtain⟨l,E,cap,I,J⟩:=(G i (ap hi)).2;exact⟨l,λj hj=>by rw[hi] at hj;obtain rfl:=ar hj;exact⟨E,cap,I,J⟩⟩)
 exact⟨⟨⟨N,O,P,C.length,Q,v.ptr,v.tgt,v.cls,W,D.length,X,en,ep,ins⟩,C,D,eM⟩,rfl,⟨⟨eL,λx z=>(G x z).1.1,eK,⟨C,rfl,T⟩,eI,eJ,⟨D,rfl,Y⟩⟩,eE,rfl,T,rfl,Y,eN,λk i l I J=>eR k l J i I⟩,λx z=>(G x z).1.2⟩
theorem open_moW {r:Reach}{Q:bo}{v:cy}{d:DataW H}{p:bq MemPlace}(T:Value.okWide aw w r Q 25 v)(h:DataW.Trod enc aw w base spare held 25 v d p):
  ∃m:Mo,v= .agg m.cells/\m.inn w/\∀g∈m.fs,∀i∈g.c.ins,i.wfs:=by
 obtain⟨cs,ez,V,W⟩:=GG underlying25 T h;obtain⟨A,m,_,_,z,X,u⟩:=b8 underlying25 W;have Y:aw.cellsOf 25=2:=by kernel_rfl
 have eA:A.length=2:=X;rw[Y] at z;obtain⟨c0,en,C⟩:=List.exists_cons_of_length_eq_add_one (show cs.toList.length=1+1 from by rw[z]);have ep:en.length=1:=by rw[C] at z;simpa using z
 obtain⟨c1,eC,e1,eq⟩:=zU ep;obtain rfl:=cj eq;subst e1;have g0:=(u 0 _ rfl).trans (ac (show 0<A.length by omega));have g1:=(u 1 _ rfl).trans (ac (show 1<A.length by omega));obtain⟨D,E,G,N,er,es,et⟩:=open_row St.cells (λs=>s.inn w) 4 (by decide) underlying22 (by kernel_rfl) (λn cs x I=>Gm I) g0;obtain⟨J,fs,L,O,ev,ew,P⟩:=open_row Fn.cells (λf=>f.inn w/\∀i∈f.c.ins,i.wfs) 8 (by decide) underlying23 (by kernel_rfl) (λn cs x I=>Fp I) g1;rw[C] at N O;obtain rfl:c0= .slice D E.length G:=by simpa[show aw.cellsOf 22=1 from by kernel_rfl] using N
 obtain rfl:c1= .slice J fs.length L:=by simpa[show aw.cellsOf 22=1 from by kernel_rfl,show aw.cellsOf 23=1 from by kernel_rfl] using O
 have e:cs=(⟨D,G,J,L,E,fs⟩:Mo).cells:=Array.ext' C;exact⟨⟨D,G,J,L,E,fs⟩,by rw[V,e],⟨es,ew,et,λf u=>(P f u).1,er,ev⟩,λf u=>(P f u).2⟩
end
end
theorem bu {a b:Bool}(h:a=dS)(k:b=dS):(a&&b)=dS:=by rw[h,k];rfl
theorem Jr:(laidOutB Tryz.pinned.checked.prog)=dS:=by kernel_rfl
theorem Js:(mapsRowed Tryz.pinned.checked.prog)=dS:=by kernel_rfl
theorem Jt:((Rows.pointsSoundRow.inPlace==Tryz.pinned.checked.prog.inPlace 7))=dS:=by kernel_rfl
theorem Jf:((Rows.pointsSoundRow.unfollowed==Tryz.pinned.checked.prog.unfollowed 7))=dS:=by kernel_rfl
theorem Jg:((Rows.pointsSoundRow.recurses==Tryz.pinned.checked.prog.recurses 7))=dS:=by kernel_rfl
theorem Jh:((Rows.pointsSoundRow.named==Tryz.pinned.checked.prog.varsNamed 7))=dS:=by kernel_rfl
theorem Ji:((Rows.pointsSoundRow.loops==(Tryz.f7.params.toList++Rows.pointsSoundSpec.plain.varTypes Tryz.pinned.checked.prog).any (Tryz.pinned.checked.prog.loopsFrom ·)))=dS:=by kernel_rfl
theorem Jj:(Tryz.pinned.checked.prog.stopsHeard)=dS:=by kernel_rfl
theorem Jk:(Tryz.pinned.checked.prog.mayEnter)=dS:=by kernel_rfl
theorem Jl:((Rows.pointsSoundRow.lifted==Tryz.pinned.checked.prog.liftsFinal))=dS:=by kernel_rfl
theorem Jm:((Tryz.pinned.checked.prog.make==dy Rows.pointsSoundRow.make))=dS:=by kernel_rfl
theorem pointsSound_closed:joinedFacts Tryz.pinned.checked.prog 7 Tryz.f7 Rows.pointsSoundSpec Rows.pointsSoundRow=dS:=by
 unfold joinedFacts;exact bu (bu (bu (bu (bu (bu (bu (bu (bu (bu (bu (bu (bu (bu (bu (bu (bu (bu (bu (bu (bu (bu (bu (bu (bu (bu (bu (bu (bu (bu (bu (by kernel_rfl) Jr) Js) (by kernel_rfl)) (by kernel_rfl)) (by kernel_rfl)) (by kernel_rfl)) (by kernel_rfl)) (by kernel_rfl)) Jt) Jf) Jg) Jh) (by kernel_rfl)) (by kernel_rfl)) (by kernel_rfl)) Ji) (by kernel_rfl)) (by kernel_rfl)) (by kernel_rfl)) (by kernel_rfl)) (by kernel_rfl)) (by kernel_rfl)) (by kernel_rfl)) Jj) Jk) Jl) Jm) (by kernel_rfl)) (by kernel_rfl)) (by kernel_rfl)) (by kernel_rfl)
end Go.Proofs.YtjomgckjhcfbgaaGreat
