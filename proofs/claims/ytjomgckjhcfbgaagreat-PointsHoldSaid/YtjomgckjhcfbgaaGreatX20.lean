/- Walks. -/
import Derived.Test.YtjomgckjhcfbgaaGreatRows
import Derived.ProofKit
import Derived.ChangeSame
import Derived.Maps.OwnOps
import Derived.Maps.Views
import Derived.DeepKeys4
import Derived.Test.YtjomgckjhcfbgaaGreatX14
set_option maxRecDepth 100000
set_option maxHeartbeats 64000000
set_option linter.all false
namespace Go.Proofs.YtjomgckjhcfbgaaGreat
open Go.RowKit
open Go.Proofs.Tryz renaming prog→ac,underlying42→cr,underlying38→cy,underlying3→cP,underlying32→dr,underlying25→ey,underlying4→fX,underlying9→fY,underlying88→gi,underlying40→li,underlying90→ms
open _root_.List renaming getElem?_eq_getElem→am,mem_of_getElem?→ce,mem_append→cC,eq_nil_of_length_eq_zero→cY,exists_cons_of_length_eq_add_one→nd
open Go.RowKit renaming Below→aq
open _root_ renaming List→bm,Nat→cd,Int→cj,Array→cG,Option→du,absurd→fL,decide_eq_true_eq→js
open Go renaming Value→bw,maxLen→dl,TypeId→ge,Program→i8,MemPlace→ml,Addr→oA
open _root_.Option.some renaming inj→cX
open Go.DataW renaming trod_int→dk,trod_struct→ef,trod→ie,trod_string→jx
open _root_.Bool renaming and_eq_true→eK,true→qv,false→qS
open _root_.Option renaming some→qt,none→qu
open Go.Value renaming slice→ra
open Go.Proofs.Tryz
section
open Go.ChangeShapes Go.WideShapes Go.ChangeAt Go.RowKit
theorem own_:ownKnob ac.godebug=qu:=by kernel_rfl
theorem laidOut_:laidOutB ac=qv:=by kernel_rfl
theorem law_post {H:Type}{enc:ge×bw->H}{P:i8}{f:Func}{s:ChangeSpec}{W W':World}{args:cG bw}{v:bw}{d o:bm (DataW H)}{q pa pv:bm ml}
  (y:DataW.Whole enc P f.params.toList s.vars qS W args.toList d o q)
  (A:∀(b:cd)(D:cd->Bool)(G:Bool),DataW.TrodAll enc P W' b D G f.resultTypes.toList (v.resultList f.resultTypes.size) (s.fn H (d++o)).results [])
  (J:DataW.TrodAll enc P W' 0 (λb=>decide (b<W.heap.size)) qv f.params.toList args.toList (s.fn H (d++o)).args pa)
  (K:DataW.TrodVars enc P W' (λb=>decide (b<W.heap.size)) s.vars (s.fn H (d++o)).vars pv)
  (R:q=pa++pv)(hb:aq W.heap.size W W'):
  s.post enc P f qS qv qS qS W args v W':=by
 refine⟨d,o,q,[],pa,pv,y,A _ _ _,J,K,World.keptBut_mono (λp u=>⟨u, ?_⟩) (hb.frame (·∈q)),λh=> ?_⟩
 ·rw[R,cC] at u
  exact Or.inr u
 ·exact fL h (by decide)
theorem shut_true {H:Type}{enc:ge×bw->H}{W:World}{base:cd}{d:cd->Bool}{held:Bool}(b:Bool):DataW.Trod enc ac W base d held 4 (.bool b) (.lit (.bool b)) []:=⟨1,by simp[ie,Value.cells,fX]⟩
end
section
open Go.RowKit Go.ChangeShapes Go.WideShapes Go.Deep
section
variable {H:Type}{enc:ge×bw->H}{w:World}{base:cd}{spare:cd->Bool}{held:Bool}
def Ins.mode_in (w:World)(i:Ins):Prop:=∃(l:bm cj) (d:du oA) (cap:cd),i.modeV= ra d l.length cap/\jr w d l
theorem Ba {n:cd}{d:bm bw}{x:DataW H×bm ml}(h:ie enc ac w base spare held n 42 d=qt x):∃i:Ins,i.cells.toList=d/\i.args_in w/\i.mode_in w:=by
 obtain⟨i,f,q⟩:=Bf h;refine⟨i,f,q, ?_⟩;obtain⟨xs,m,_,_,G,u,v⟩:=ef cr h;have J:xs.length=12:=u;have y:=(v 8 _ rfl).trans (am (show 8<xs.length by omega));obtain⟨A,L,C,o,_,D,_⟩:=iK y;refine⟨L,A,C, ?_,D⟩;rw[<-f] at o;simpa[Ins.cells,show ac.cellsOf 35=1 from by kernel_rfl] using o
theorem Dp {n:cd}{u:bm bw}{x:DataW H×bm ml}(h:ie enc ac w base spare held n 92 u=qt x):∃f:Fd,f.cells.toList=u/\f.nm.size<=dl:=by
 obtain⟨xs,m,_,_,v,rm,d⟩:=ef underlying92 h;have hc:ac.cellsOf 92=5:=by kernel_rfl
 have rN:xs.length=3:=rm;rw[hc] at v;obtain⟨c0,rS,e0,rn⟩:=zU v;obtain⟨c1,se,e1,rr⟩:=zU rn;obtain⟨c2,sf,e2,rv⟩:=zU rr;obtain⟨c3,sk,e3,rx⟩:=zU rv;obtain⟨c4,sn,e4,rB⟩:=zU rx;obtain rfl:=cY rB;subst e4 e3 e2 e1 e0;have z1:ac.cellsOf 4=1:=by kernel_rfl
 have y:ac.cellsOf 9=1:=by kernel_rfl
 have A:ac.cellsOf 3=1:=by kernel_rfl
 have D:ac.cellsOf 32=2:=by kernel_rfl
 have G:ac.cellsOf 40=2:=by kernel_rfl
 have g0:=(d 0 _ rfl).trans (am (show 0<xs.length by omega));obtain⟨nm,r0,_,rI⟩:=jx fY g0;obtain rfl:c0= .string nm:=by simpa[y] using r0
 have g1:=(d 1 _ rfl).trans (am (show 1<xs.length by omega));obtain⟨o,m',_,_,_,rK,J⟩:=ef dr g1;have sq:o.length=2:=rK;have p0:=(J 0 _ rfl).trans (am (show 0<o.length by omega));have p1:=(J 1 _ rfl).trans (am (show 1<o.length by omega));obtain⟨K,s0,_⟩:=DataW.trod_bool fX p0;obtain⟨R,s1,_,_⟩:=jx fY p1;obtain rfl:c1= .bool K:=by simpa[z1,D] using s0
 obtain rfl:c2= .string R:=by simpa[y,D] using s1
 have g2:=(d 2 _ rfl).trans (am (show 2<xs.length by omega));obtain⟨q,sr,_,_,_,rL,rl⟩:=ef li g2;have sx:q.length=2:=rL;have u0:=(rl 0 _ rfl).trans (am (show 0<q.length by omega));have u1:=(rl 1 _ rfl).trans (am (show 1<q.length by omega));obtain⟨ln,v0,_,_⟩:=dk cP u0;obtain⟨cl,v1,_,_⟩:=dk cP u1;obtain rfl:c3= .int .i64 ln:=by simpa[A,G] using v0
 obtain rfl:c4= .int .i64 cl:=by simpa[A,G] using v1
 exact⟨⟨nm,K,R,ln,cl⟩,rfl,rI⟩
theorem Dq {n:cd}{d:bm bw}{x:DataW H×bm ml}(h:ie enc ac w base spare held n 90 d=qt x):∃s:St,s.cells.toList=d/\s.inn w:=by
 obtain⟨xs,m,_,_,v,rl,o⟩:=ef ms h;have hc:ac.cellsOf 90=4:=by kernel_rfl
 have rN:xs.length=3:=rl;rw[hc] at v;obtain⟨c0,rS,e0,rm⟩:=zU v;obtain⟨c1,se,e1,rn⟩:=zU rm;obtain⟨c2,sf,e2,rr⟩:=zU rn;obtain⟨c3,sk,e3,rv⟩:=zU rr;obtain rfl:=cY rv;subst e3 e2 e1 e0;have z2:ac.cellsOf 9=1:=by kernel_rfl
 have y:ac.cellsOf 3=1:=by kernel_rfl
 have A:ac.cellsOf 40=2:=by kernel_rfl
 have z6:ac.cellsOf 88=1:=by kernel_rfl
 have g0:=(o 0 _ rfl).trans (am (show 0<xs.length by omega));obtain⟨nm,r0,_,rx⟩:=jx fY g0;obtain rfl:c0= .string nm:=by simpa[z2] using r0
 have g1:=(o 1 _ rfl).trans (am (show 1<xs.length by omega));obtain⟨D,q,G,r1,rB,rI,rK⟩:=open_row Fd.cells (λf:Fd=>f.nm.size<=dl) 5 (by decide) gi (by kernel_rfl) (λn d x hx=>Dp hx) g1;obtain rfl:c1= .slice D q.length G:=by simpa[z6] using r1
 have g2:=(o 2 _ rfl).trans (am (show 2<xs.length by omega));obtain⟨u,sn,_,_,_,rL,J⟩:=ef li g2;have sq:u.length=2:=rL;have u0:=(J 0 _ rfl).trans (am (show 0<u.length by omega));have u1:=(J 1 _ rfl).trans (am (show 1<u.length by omega));obtain⟨K,v0,_,_⟩:=dk cP u0;obtain⟨R,v1,_,_⟩:=dk cP u1;obtain rfl:c2= .int .i64 K:=by simpa[y,A] using v0
 obtain rfl:c3= .int .i64 R:=by simpa[y,A] using v1
 exact⟨⟨⟨nm,D,q.length,G,K,R⟩,q⟩,rfl,rfl,rI,rB,rx,rK⟩
end
end
section
open Go.RowKit Go.Maps
def Et (x:cj):Prop:= -9223372036854775808<=x/\x<=9223372036854775807
structure EO where
 fA:du oA
 fC:cd
 yA:du oA
 yC:cd
 vals:bm bw

end
section
open Go.RowKit Go.ChangeShapes Go.WideShapes Go.Deep
theorem vL {x:cj}(h:(Lit.int .i64 x).wf=qv):Et x:=by
 simp only[Lit.wf,eK,js] at h;exact h
def Ins.wfs (i:Ins):Prop:=Et i.d/\Et i.a/\Et i.b/\Et i.f
section
variable {H:Type}{enc:ge×bw->H}{w:World}{base:cd}{spare:cd->Bool}{held:Bool}
theorem Bc {n:cd}{q:bm bw}{x:DataW H×bm ml}(h:ie enc ac w base spare held n 42 q=qt x):∃i:Ins,i.cells.toList=q/\(i.args_in w/\i.wfs)/\i.mode_in w:=by
 obtain⟨i,u,G,J⟩:=Ba h;refine⟨i,u,⟨G, ?_⟩,J⟩;obtain⟨xs,m,_,_,rl,K,o⟩:=ef cr h;have rm:xs.length=12:=K;have z:ac.cellsOf 3=1:=by kernel_rfl
 have R:=(o 1 _ rfl).trans (am (show 1<xs.length by omega));have g2:=(o 2 _ rfl).trans (am (show 2<xs.length by omega));have g3:=(o 3 _ rfl).trans (am (show 3<xs.length by omega));have g4:=(o 4 _ rfl).trans (am (show 4<xs.length by omega));obtain⟨d,v,_,w1⟩:=dk cP R;obtain⟨a,y,_,w2⟩:=dk cP g2;obtain⟨b,A,_,w3⟩:=dk cP g3;obtain⟨f,D,_,w4⟩:=dk cP g4;rw[<-u] at v y A D;have e1:i.d=d:=by simpa[Ins.cells,z] using v
 have e2:i.a=a:=by simpa[Ins.cells,z] using y
 have e3:i.b=b:=by simpa[Ins.cells,z] using A
 have e4:i.f=f:=by simpa[Ins.cells,z] using D
 unfold Ins.wfs;rw[e1,e2,e3,e4];exact⟨vL w1,vL w2,vL w3,vL w4⟩
theorem Cx {n:cd}{q:bm bw}{x:DataW H×bm ml}(h:ie enc ac w base spare held n 38 q=qt x):∃f:Fn,f.cells.toList=q/\f.inn w/\∀i∈f.c.ins,i.wfs:=by
 obtain⟨xs,m,_,_,K,rK,o⟩:=ef cy h;have hc:ac.cellsOf 38=8:=by kernel_rfl
 have sX:xs.length=6:=rK;rw[hc] at K;obtain⟨c0,sY,e0,rL⟩:=zU K;obtain⟨c1,te,e1,rN⟩:=zU rL;obtain⟨c2,tf,e2,rS⟩:=zU rN;obtain⟨c3,th,e3,se⟩:=zU rS;obtain⟨c4,ti,e4,sf⟩:=zU se;obtain⟨c5,tj,e5,sk⟩:=zU sf;obtain⟨c6,tl,e6,sn⟩:=zU sk;obtain⟨c7,tm,e7,sq⟩:=zU sn;obtain rfl:=cY sq;subst e7 e6 e5 e4 e3 e2 e1 e0;have g0:=(o 0 _ rfl).trans (am (show 0<xs.length by omega));obtain⟨nm,r0,_,sr⟩:=jx fY g0;obtain rfl:c0= .string nm:=by simpa[show ac.cellsOf 9=1 from by kernel_rfl] using r0
 have g1:=(o 1 _ rfl).trans (am (show 1<xs.length by omega));obtain⟨R,r1,_,_⟩:=dk cP g1;obtain rfl:c1= .int .i64 R:=by simpa[show ac.cellsOf 3=1 from by kernel_rfl] using r1
 have g2:=(o 2 _ rfl).trans (am (show 2<xs.length by omega));obtain⟨rl,u,rm,r2,sx,rn,_⟩:=open_row Vr.cells (λ_=>True) 3 (by decide) underlying30 (by kernel_rfl) (λn q x d=>zl d) g2;obtain rfl:c2= .slice rl u.length rm:=by simpa[show ac.cellsOf 30=1 from by kernel_rfl] using r2
 have g3:=(o 3 _ rfl).trans (am (show 3<xs.length by omega));obtain⟨v,hv,_⟩:=zl g3;have z4:ac.cellsOf 34=3:=by kernel_rfl
 simp[Vr.cells,z4] at hv;obtain⟨rfl,rfl,rfl⟩:=hv;have g4:=(o 4 _ rfl).trans (am (show 4<xs.length by omega));obtain⟨rr,y,rv,r4,sy,rx,_⟩:=iK g4;obtain rfl:c6= .slice rr y.length rv:=by simpa[show ac.cellsOf 35=1 from by kernel_rfl] using r4
 have g5:=(o 5 _ rfl).trans (am (show 5<xs.length by omega));obtain⟨rB,ins,rI,r5,sB,sE,D⟩:=open_row Ins.cells (λi=>(i.args_in w/\i.wfs)/\i.mode_in w) 13 (by decide) underlying36 (by kernel_rfl) (λn q x d=>Bc d) g5;obtain rfl:c7= .slice rB ins.length rI:=by simpa[show ac.cellsOf 36=1 from by kernel_rfl] using r5
 obtain⟨sL,sR,sT⟩:=jP (λk (l:bm cj)=>∀i,ins[k]?=qt i->∃A cap,i.modeV= .slice A l.length cap/\jr w A l) ins.length (λk hk=>by
  obtain⟨i,hi⟩:∃i,ins[k]?=qt i:=⟨_,am hk⟩
  obtain⟨l,A,cap,G,J⟩:=(D i (ce hi)).2;exact⟨l,λj hj=>by rw[hi] at hj;obtain rfl:=cX hj;exact⟨A,cap,G,J⟩⟩)
 exact⟨⟨⟨nm,R,rl,u.length,rm,v.ptr,v.tgt,v.cls,rr,y.length,rv,rB,rI,ins⟩,u,y,sL⟩,rfl,⟨⟨sE,λx d=>(D x d).1.1,sB,⟨u,rfl,rn⟩,sx,sy,⟨y,rfl,rx⟩⟩,sr,rfl,rn,rfl,rx,sR,λk i l G J=>sT k l J i G⟩,λx d=>(D x d).1.2⟩
theorem open_moW {r:Reach}{b0:cd}{v:bw}{d:DataW H}{p:bm ml}(hv:Value.okWide ac w r b0 25 v)(h:DataW.Trod enc ac w base spare held 25 v d p):
  ∃m:Mo,v= .agg m.cells/\m.inn w/\∀g∈m.fs,∀i∈g.c.ins,i.wfs:=by
 obtain⟨q,fuel,rl,rm⟩:=DF ey hv h;obtain⟨xs,m,_,_,u,rn,o⟩:=ef ey rm;have hc:ac.cellsOf 25=2:=by kernel_rfl
 have rS:xs.length=2:=rn;rw[hc] at u;obtain⟨c0,rr,y⟩:=nd (show q.toList.length=1+1 from by rw[u]);have rv:rr.length=1:=by rw[y] at u;simpa using u
 obtain⟨c1,se,e1,rx⟩:=zU rv;obtain rfl:=cY rx;subst e1;have g0:=(o 0 _ rfl).trans (am (show 0<xs.length by omega));have g1:=(o 1 _ rfl).trans (am (show 1<xs.length by omega));obtain⟨sA,ss,sC,J,rB,rI,rK⟩:=open_row St.cells (λs=>s.inn w) 4 (by decide) underlying22 (by kernel_rfl) (λn q x A=>Dq A) g0;obtain⟨D,fs,G,K,rL,rN,R⟩:=open_row Fn.cells (λf=>f.inn w/\∀i∈f.c.ins,i.wfs) 8 (by decide) underlying23 (by kernel_rfl) (λn q x A=>Cx A) g1;rw[y] at J K;obtain rfl:c0= .slice sA ss.length sC:=by simpa[show ac.cellsOf 22=1 from by kernel_rfl] using J
 obtain rfl:c1= .slice D fs.length G:=by simpa[show ac.cellsOf 22=1 from by kernel_rfl,show ac.cellsOf 23=1 from by kernel_rfl] using K
 have e:q=(⟨sA,sC,D,G,ss,fs⟩:Mo).cells:=Array.ext' y;exact⟨⟨sA,sC,D,G,ss,fs⟩,by rw[rl,e],⟨rI,rN,rK,λf o=>(R f o).1,rB,rL⟩,λf o=>(R f o).2⟩
end
end
theorem aY {a b:Bool}(h:a=qv)(k:b=qv):(a&&b)=qv:=by rw[h,k];rfl
theorem sG:(laidOutB Tryz.pinned.checked.prog)=qv:=by kernel_rfl
theorem sH:(mapsRowed Tryz.pinned.checked.prog)=qv:=by kernel_rfl
theorem sI:((Rows.pointsHoldRow.inPlace==Tryz.pinned.checked.prog.inPlace 10))=qv:=by kernel_rfl
theorem qI:((Rows.pointsHoldRow.unfollowed==Tryz.pinned.checked.prog.unfollowed 10))=qv:=by kernel_rfl
theorem qJ:((Rows.pointsHoldRow.recurses==Tryz.pinned.checked.prog.recurses 10))=qv:=by kernel_rfl
theorem qK:((Rows.pointsHoldRow.named==Tryz.pinned.checked.prog.varsNamed 10))=qv:=by kernel_rfl
theorem qL:((Rows.pointsHoldRow.loops==(Tryz.f10.params.toList++Rows.pointsHoldSpec.plain.varTypes Tryz.pinned.checked.prog).any (Tryz.pinned.checked.prog.loopsFrom ·)))=qv:=by kernel_rfl
theorem qM:(Tryz.pinned.checked.prog.stopsHeard)=qv:=by kernel_rfl
theorem qN:(Tryz.pinned.checked.prog.mayEnter)=qv:=by kernel_rfl
theorem qO:((Rows.pointsHoldRow.lifted==Tryz.pinned.checked.prog.liftsFinal))=qv:=by kernel_rfl
theorem qP:((Tryz.pinned.checked.prog.make==qt Rows.pointsHoldRow.make))=qv:=by kernel_rfl
theorem pointsHold_closed:joinedFacts Tryz.pinned.checked.prog 10 Tryz.f10 Rows.pointsHoldSpec Rows.pointsHoldRow=qv:=by
 unfold joinedFacts;exact aY (aY (aY (aY (aY (aY (aY (aY (aY (aY (aY (aY (aY (aY (aY (aY (aY (aY (aY (aY (aY (aY (aY (aY (aY (aY (aY (aY (aY (aY (aY (by kernel_rfl) sG) sH) (by kernel_rfl)) (by kernel_rfl)) (by kernel_rfl)) (by kernel_rfl)) (by kernel_rfl)) (by kernel_rfl)) sI) qI) qJ) qK) (by kernel_rfl)) (by kernel_rfl)) (by kernel_rfl)) qL) (by kernel_rfl)) (by kernel_rfl)) (by kernel_rfl)) (by kernel_rfl)) (by kernel_rfl)) (by kernel_rfl)) (by kernel_rfl)) qM) qN) qO) qP) (by kernel_rfl)) (by kernel_rfl)) (by kernel_rfl)) (by kernel_rfl)
end Go.Proofs.YtjomgckjhcfbgaaGreat
