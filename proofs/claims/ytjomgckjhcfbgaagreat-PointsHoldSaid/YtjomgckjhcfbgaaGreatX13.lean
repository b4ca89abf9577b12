/- Walks. -/
import Derived.Test.YtjomgckjhcfbgaaGreatX10
import Derived.Test.YtjomgckjhcfbgaaGreatX12
set_option maxRecDepth 100000
set_option maxHeartbeats 64000000
set_option linter.all false
namespace Go.Proofs.YtjomgckjhcfbgaaGreat
open Go.RowKit
open Go.Proofs.Tryz renaming prog→ac,underlying42→cr,underlying38→cy,underlying25→ey
open _root_.List renaming getElem?_eq_getElem→am,setIfInBounds_toArray→ap,set_cons_zero→bj,set_cons_succ→bk,getElem?_eq_some_iff→bl,mem_of_getElem?→ce,mem_singleton→cA,mem_append→cC,take_length→cT,mem_map→dd,mem_flatMap→er,map_append→eS,pairwise_iff_getElem→fx,mem_cons→fW,all_eq_true→gC,nodup_append→iz,any_eq_true→ju,map_cons→kc,any_eq_false→kp,all_eq_false→lk,take_add_one→lP,pairwise_map→mz,mem_cons_of_mem→m5
open Go.RowKit.Below renaming refl→an
open Go.RowKit renaming Below→aq,Hid→ca
open _root_ renaming ByteArray→aw,List→bm,Nat→cd,Int→cj,decide_eq_false→cv,if_neg→cw,Array→cG,if_pos→cI,beq_eq_false_iff_ne→cR,decide_eq_true→dy,absurd→fL,bne_iff_ne→nt
open Go renaming cell_of_row→bh,wpList_load_row→bo,Value→bw,run_storeCells_new→cf,storeCells→cU,wpQuiet_nil→db,beq_toListBytes→eL,below_drewN→j8,Addr→oA
open _root_.Nat renaming zero_le→cJ,not_lt_zero→qe
open Go.Addr renaming add_lit→cM
open Go.Act renaming put→cV
open _root_.Option.some renaming inj→cX,injEq→dc
open _root_.Int renaming toNat_natCast→ep
open Go.Addr.mk renaming injEq→eW
open _root_.Bool renaming or_eq_true→gx,not_false→ot,not_eq_true'→pl,not_true→px,true→qv,false→qS
open _root_.Option renaming some→qt,none→qu
open Go.Value renaming string→qT,slice→ra,bool→re,agg→rh,int→Z
open Go.Obj renaming cells→rj
open Go.IntKind renaming i64→U
open Tryz
theorem xc {α:Type}{nm:α->aw}{xs:bm α}(h:∀(q:cd)(x:α),xs[q]?=qt x->fH (λy=>nm y==nm x) xs=(q:cj)):(xs.map nm).Nodup:=by
 rw[List.Nodup,mz,fx];intro i j u f v e;have d:=h j xs[j] (am f);unfold fH at d;have A:xs.findIdx (λy=>nm y==nm xs[j])<=i:=by
  apply Nat.le_of_not_lt;intro o;have:=List.not_of_lt_findIdx o;simp[e] at this
 rw[cI (by omega)] at d;omega
theorem tq {α:Type}{nm:α->aw}{xs:bm α}{q:cd}{x:α}(d:xs[q]?=qt x)(h:fH (λy=>nm y==nm x) xs≠(q:cj)):¬(xs.map nm).Nodup:=by
 intro f;rw[List.Nodup,mz,fx] at f;obtain⟨o,e⟩:=bl.1 d;refine h (iQ (j:=q) (y:=x) (λz u=> ?_) d (by simp));obtain⟨i,A,v⟩:=List.mem_take_iff_getElem.1 u;have:=f i q (by omega) o (by omega);rw[<-v,cR,<-e];exact this
def ve (l:bm Fd)(k:cd):Prop:=((l.take k).map Fd.nm).Nodup
theorem ve.next {l:bm Fd}{k:cd}{x:Fd}(h:ve l k)(d:l[k]?=qt x)(o:∀z∈l.take k,(z.nm==x.nm)=qS):ve l (k+1):=by
 unfold ve;obtain⟨v,e⟩:=bl.1 d;rw[lP,d,eS,iz];refine⟨h,by simp,λa q b f=> ?_⟩;obtain⟨z,u,rfl⟩:=dd.1 q;simp only[Option.toList_some,kc,List.map_nil,cA] at f;subst f;have:=o z u
 rwa [cR] at this
theorem xe {m:Mo}{s:St}{j k:cd}{x y:Fd}(f:s∈m.ss)(h:s.fs[j]?=qt x)(o:s.fs[k]?=qt y)(q:j<k)(e:x.nm=y.nm):bX m=qv:=by
 have d:¬(s.fs.map Fd.nm).Nodup:=by
  intro d;rw[List.Nodup,mz,fx] at d;obtain⟨u,v⟩:=bl.1 h;obtain⟨A,D⟩:=bl.1 o;exact d j k u A q (by rw[v,D];exact e)
 unfold bX;rw[gx,gx,ju];exact .inl (.inl ⟨s,f,dy d⟩)
theorem vg {m:Mo}(h:¬(m.ss.map λs=>s.s.nm).Nodup):bX m=qv:=by
 unfold bX;rw[gx,gx];exact .inl (.inr (dy h))
theorem yI {m:Mo}(h:¬(m.fs.map λf=>f.c.nm).Nodup):bX m=qv:=by
 unfold bX;rw[gx,gx];exact .inr (dy h)
theorem yJ {m:Mo}(d:∀s∈m.ss,ve s.fs s.fs.length)(h:(m.ss.map λs=>s.s.nm).Nodup)(o:(m.fs.map λf=>f.c.nm).Nodup):bX m=qS:=by
 unfold bX;rw[cv (not_not_intro h),cv (not_not_intro o),Bool.or_false,Bool.or_false,kp];intro s q;have:=d s q;unfold ve at this;rw[cT] at this;simp[this]
theorem vk (m:Mo)(w:World)(rL:m.inn w)(tU:m.ss.length<=90000)(tW:m.fs.length<=90000)(sk:∀s∈m.ss,s.fs.length<=90000):
  zP 47 #[rh m.cells] w (re (bX m)):=by
 obtain⟨R,hR⟩:=zE (bX m);rw[hR];have HR:=zH hR;obtain⟨N,hN⟩:=zE w.heap.size;obtain⟨d,rB⟩:=zE (w.alloc (rj m.cells 25));have sn:=iF rB;have sE:d.heap.size=N+1:=by rw[<-rB];simp[hN]
 have sL:d.heap[N]?=qt (rj m.cells 25 (0,0)):=by rw[<-rB,<-hN];exact alloc_at _ _
 have HK:ca (∀W,aq d.heap.size d W->W.cell? ⟨N,0,qu⟩=qt (ra m.sA m.ss.length m.sC)/\W.cell? ⟨N,1,qu⟩=qt (ra m.fA m.fs.length m.fC)/\m.inn W/\aq w.heap.size w W):=λW o=>by
  have q1:=(o.block N (by omega)).trans sL;have h3:=sn.trans (o.mono sn.size);exact⟨by rw[bh _ _ _ _ _ _ q1];rfl,by rw[bh _ _ _ _ _ _ q1];rfl,rL.below h3,h3⟩
 have tm:=zH λW o nm=>gH m nm W rL.ns (HK.out W o).2.2.1.srow;have tn:ca (∀W,aq d.heap.size d W->∀nm,zP 50 #[rh #[ra m.sA m.ss.length m.sC,ra m.fA m.fs.length m.fC],qT nm] W (Z U (m.fnIx nm))):=λW o nm=>lc m nm W rL.nf (HK.out W o).2.2.1.frow;have tp:=zH sk;have sq:=rB;simp only[Mo.cells] at sq;have tr:=zH sq;have ua:=zH sE;simp only[Mo.cells];clear rL sk rB sq sn sL hR sE;obtain⟨c0,c1,_,_⟩:=HK.out d (an _ _);go_enter func47,ntmps47
 go_upto_region 1 with(fail)
 rw[tr.out]
 go_wp2_with fail
 go_loopw [3] (λk wr=>∃j:cd,j<=m.ss.length/\k= Z U (j:cj)/\(∀(q:cd)(s:St),q<j->m.ss[q]?=qt s->m.stIx s.s.nm=(q:cj)/\ve s.fs s.fs.length)/\aq d.heap.size d wr) (λk _=>m.ss.length-(intOf k).toNat)
 case atStart=>exact⟨0,cJ _,rfl,λq s hq=>fL hq (qe _),an _ _⟩
 case round=>
  rename World=>G;clear c0 c1;obtain⟨j,hj,rfl,A,hb⟩:=hrel;obtain⟨c0,c1,rm,rn⟩:=HK.out G hb;have HZ:=zH A;have HB:=zH hb;have ub:=zH rn
  by_cases sr:j<m.ss.length
  ·obtain⟨s,D⟩:∃y,m.ss[j]?=qt y:=⟨_,am sr⟩
   have rI:=ce D;obtain⟨u,J,hA,rN,q1⟩:=rm.srow (by intro e;rw[e] at sr;simp at sr);have v:ca (∀W,aq G.heap.size G W->W.cell? ⟨N,0,qu⟩=qt (ra (qt ⟨u,J,qu⟩) m.ss.length m.sC)/\W.cell? ⟨N,1,qu⟩=qt (ra m.fA m.fs.length m.fC)/\W.cell? ⟨u,J+j*4,qu⟩=qt (qT s.s.nm)/\W.cell? ⟨u,J+j*4+1,qu⟩=qt (ra s.s.fA s.fs.length s.s.fC)/\aq d.heap.size d W/\s.inn W):=λW o=>by
    have h:=HB.out.trans (o.mono HB.out.size);obtain⟨k0,k1,k2,_⟩:=HK.out W h;refine⟨by rw[<-hA];exact k0,k1,by rw[o.cell (p:=⟨u,_,qu⟩) rN];exact q1 j s D 0 _ rfl, ?_,h,k2.sin s rI⟩;rw[o.cell (p:=⟨u,_,qu⟩) rN,<-(rm.sin s rI).nf];exact q1 j s D 1 _ rfl
   have uc:(j:cj)<(m.ss.length:cj):=by omega
   have HS:=zH D;have tt:=zH rI;have sk:=tp.out s rI;obtain⟨x,K⟩:=zE (m.stIx s.s.nm);have HX:=zH K;have HC:ca (∀p:BW G,zP 84 #[rh #[ra (qt ⟨u,J,qu⟩) m.ss.length m.sC,ra m.fA m.fs.length m.fC],qT s.s.nm] p.w (Z U x)):=λp=>by
    rw[<-hA,<-K];exact tm.out p.w (v.out p.w p.h).2.2.2.2.1 s.s.nm
   have m0:∀p:BW G,p.w.cell? ⟨N,0,qu⟩=qt (ra (qt ⟨u,J,qu⟩) m.ss.length m.sC):=λp=>(v.out p.w p.h).1;have m1:∀p:BW G,p.w.cell? ⟨N,1,qu⟩=qt (ra m.fA m.fs.length m.fC):=λp=>(v.out p.w p.h).2.1;have m2:∀p:BW G,p.w.cell? ⟨u,J+j*4,qu⟩=qt (qT s.s.nm):=λp=>(v.out p.w p.h).2.2.1;clear A hb rn D rI rm K
   go_wp2_with fail
   clear c0 c1 q1;refine zQ ?_
   repeat (go_big_quiet_step (first|(go_at_call 84;exact aV (HC.out _))))
   refine db ?_;rintro _ ⟨p,rfl⟩
   by_cases rr:x=(j:cj)
   ·subst rr
    obtain⟨W2,sx⟩:=p
    show Exit.then _ _ _ _ W2
    obtain⟨c0,c1,c2,c3,sR,tv⟩:=v.out W2 sx;have sy:=zH sR;have tz:=zH sx;clear m0 m1 m2 sR sx tv
    go_wp2_with fail
    go_loopw [5] (λk tA=>∃i:cd,i<=s.fs.length/\k= Z U (i:cj)/\ve s.fs i/\aq G.heap.size G tA) (λk _=>s.fs.length-(intOf k).toNat)
    case atStart=>exact⟨0,cJ _,rfl,by unfold ve;simp,tz.out⟩
    case round=>
     obtain⟨i,hi,rfl,sT,rS⟩:=hrel;have sX:=zH sT;have sY:=zH rS;clear c0 c1 c2 c3 sT
     by_cases rl:i<s.fs.length
     ·obtain⟨y,hy⟩:∃y,s.fs[i]?=qt y:=⟨_,am rl⟩
      obtain⟨f1,fo,se,_,_⟩:=(v.out wr rS).2.2.2.2.2.row (by intro e;rw[e] at rl;simp at rl);have te:ca (∀W,aq G.heap.size G W->∀(q:cd)(z:Fd),s.fs[q]?=qt z->W.cell? ⟨f1,fo+q*5,qu⟩=qt (qT z.nm)):=λW o q z A=>by
       obtain⟨f2,ud,sf,_,q2⟩:=(v.out W o).2.2.2.2.2.row (by intro e;rw[e] at rl;simp at rl);rw[se] at sf;simp only[dc,eW,and_true] at sf;rw[sf.1,sf.2];exact q2 q z A 0 _ rfl
      have tB:(i:cj)<(s.fs.length:cj):=by omega
      have HY:=zH hy;have ue:=zH se;rw[se];clear hy rS se
      go_wp2_with fail
      go_loopw [6] (λk tD=>∃q:cd,q<=i/\k= Z U (q:cj)/\(∀z∈s.fs.take q,(z.nm==y.nm)=qS)/\aq G.heap.size G tD) (λk _=>i-(intOf k).toNat)
      case atStart=>exact⟨0,cJ _,rfl,by simp,sY.out⟩
      case round=>
       obtain⟨q,hq,rfl,A,rv⟩:=hrel;have tf:=zH A;have th:=zH rv
       by_cases tE:q<i
       ·obtain⟨x,K⟩:∃y,s.fs[q]?=qt y:=⟨_,am (by omega)⟩
        have d0:wr.cell? ⟨f1,fo+q*5,qu⟩=qt (qT x.nm):=te.out wr rv q x K;have d1:wr.cell? ⟨f1,fo+i*5,qu⟩=qt (qT y.nm):=te.out wr rv i y HY.out;have ur:(q:cj)<(i:cj):=by omega
        have uv:(q:cj)<(s.fs.length:cj):=by omega
        have ti:=zH K
        by_cases hd:x.nm=y.nm
        ·have rx:ca (R=qv):=by unfold ca;rw[<-HR.out];exact xe tt.out ti.out HY.out tE hd
         have rK:ca (aq w.heap.size w wr):=(HK.out wr (HB.out.trans (rv.mono HB.out.size))).2.2.2;rw[hd] at d0;clear A K rv;go_wp2
         go_quiet (fail)
         go_wp2;go_ret;rw[rx.out];exact⟨rfl,j8 rK.out _⟩
        ·have tj:¬(x.nm.toList=y.nm.toList):=λe=>hd (eq_of_beq (by rw[eL,e];simp))
         have ux:(x.nm.toList==y.nm.toList)=qS:=by simpa using tj
         clear tj;have tG:ca ((x.nm==y.nm)=qS):=by unfold ca;simp[hd]
         clear A K rv hd;go_wp2
         go_quiet (fail)
         go_wp2;go_roundw
         case rel=>exact⟨q+1,by omega,by go_num,dF (p:=λz:Fd=>z.nm==y.nm) tf.out ti.out tG.out,j8 th.out _⟩
         case measure=>simp[intOf];omega
       ·have tM:q=i:=by omega
        subst tM;clear A rv;go_wp2;go_roundw
        case rel=>exact⟨q+1,by omega,by go_num,sX.out.next HY.out tf.out,th.out⟩
        case measure=>simp[intOf];omega
     ·have sB:i=s.fs.length:=by omega
      subst sB;clear rS;go_wp2;go_roundw
      case rel=>exact⟨j+1,by omega,by go_num,λq t hq ht=>by
       rcases Nat.lt_or_ge q j with h|h
       ·exact HZ.out q t h ht
       ·have e:q=j:=by omega
        rw[e,HS.out] at ht;rw[<-cX ht,e];exact⟨HX.out,sX.out⟩,HB.out.trans (sY.out.mono HB.out.size)⟩
      case measure=>simp[intOf];omega
   ·have rx:ca (R=qv):=by unfold ca;rw[<-HR.out];exact vg (tq (nm:=λt:St=>t.s.nm) HS.out (λe=>rr (by rw[<-HX.out];exact e)))
    have tP:(x != (j:cj))=qv:=by rw[nt];exact rr
    have rK:ca (aq w.heap.size w p.w):=(HK.out p.w (v.out p.w p.h).2.2.2.2.1).2.2.2;clear m0 m1 m2;go_wp2;go_ret;rw[rx.out];exact⟨rfl,rK.out⟩
  ·have tR:j=m.ss.length:=by omega
   subst tR;clear A hb rn rm
   go_wp2_with fail
   clear c0 c1
   go_loopw [7] (λk wr=>∃i:cd,i<=m.fs.length/\k= Z U (i:cj)/\(∀(q:cd)(f:Fn),q<i->m.fs[q]?=qt f->m.fnIx f.c.nm=(q:cj))/\aq d.heap.size d wr) (λk _=>m.fs.length-(intOf k).toNat)
   case atStart=>exact⟨0,cJ _,rfl,λq s hq=>fL hq (qe _),HB.out⟩
   case round=>
    obtain⟨i,hi,rfl,A,hb⟩:=hrel;obtain⟨c0,c1,rm,rn⟩:=HK.out wr hb;have tl:=zH A;have sy:=zH hb;have tS:=zH rn
    by_cases rl:i<m.fs.length
    ·obtain⟨f,D⟩:∃y,m.fs[i]?=qt y:=⟨_,am rl⟩
     obtain⟨u,J,hA,rN,q1⟩:=rm.frow (by intro e;rw[e] at rl;simp at rl);have v:ca (∀W,aq wr.heap.size wr W->W.cell? ⟨N,0,qu⟩=qt (ra m.sA m.ss.length m.sC)/\W.cell? ⟨N,1,qu⟩=qt (ra (qt ⟨u,J,qu⟩) m.fs.length m.fC)/\W.cell? ⟨u,J+i*8,qu⟩=qt (qT f.c.nm)/\aq d.heap.size d W):=λW o=>by
      have h:=sy.out.trans (o.mono sy.out.size);obtain⟨k0,k1,_,_⟩:=HK.out W h;exact⟨k0,by rw[<-hA];exact k1,by rw[o.cell (p:=⟨u,_,qu⟩) rN];exact q1 i f D 0 _ rfl,h⟩
     have tB:(i:cj)<(m.fs.length:cj):=by omega
     have HS:=zH D;obtain⟨x,K⟩:=zE (m.fnIx f.c.nm);have HX:=zH K;have HC:ca (∀p:BW wr,zP 50 #[rh #[ra m.sA m.ss.length m.sC,ra (qt ⟨u,J,qu⟩) m.fs.length m.fC],qT f.c.nm] p.w (Z U x)):=λp=>by
      rw[<-hA,<-K];exact tn.out p.w (v.out p.w p.h).2.2.2 f.c.nm
     have m0:∀p:BW wr,p.w.cell? ⟨N,0,qu⟩=qt (ra m.sA m.ss.length m.sC):=λp=>(v.out p.w p.h).1;have m1:∀p:BW wr,p.w.cell? ⟨N,1,qu⟩=qt (ra (qt ⟨u,J,qu⟩) m.fs.length m.fC):=λp=>(v.out p.w p.h).2.1;have m2:∀p:BW wr,p.w.cell? ⟨u,J+i*8,qu⟩=qt (qT f.c.nm):=λp=>(v.out p.w p.h).2.2.1;clear A hb rn D rm K
     go_wp2_with fail
     clear c0 c1 q1;refine zQ ?_
     repeat (go_big_quiet_step (first|(go_at_call 50;exact aV (HC.out _))))
     refine db ?_;rintro _ ⟨p,rfl⟩
     by_cases rr:x=(i:cj)
     ·subst rr
      clear m0 m1 m2;go_wp2;go_roundw
      case rel=>exact⟨i+1,by omega,by go_num,λq t hq ht=>by
       rcases Nat.lt_or_ge q i with h|h
       ·exact tl.out q t h ht
       ·have e:q=i:=by omega
        rw[e,HS.out] at ht;rw[<-cX ht,e];exact HX.out,(v.out p.w p.h).2.2.2⟩
      case measure=>simp[intOf];omega
     ·have rx:ca (R=qv):=by unfold ca;rw[<-HR.out];exact yI (tq (nm:=λt:Fn=>t.c.nm) HS.out (λe=>rr (by rw[<-HX.out];exact e)))
      have tP:(x != (i:cj))=qv:=by rw[nt];exact rr
      have rK:ca (aq w.heap.size w p.w):=(HK.out p.w (v.out p.w p.h).2.2.2).2.2.2;clear m0 m1 m2;go_wp2;go_ret;rw[rx.out];exact⟨rfl,rK.out⟩
    ·have sB:i=m.fs.length:=by omega
     subst sB;have rx:ca (R=qS):=by
      unfold ca;rw[<-HR.out];refine yJ (λs D=> ?_) (xc (nm:=λt:St=>t.s.nm) λq s D=> ?_) (xc (nm:=λt:Fn=>t.c.nm) λq f hf=> ?_)
      ·obtain⟨q,hq⟩:=List.mem_iff_getElem?.1 D
       exact(HZ.out q s (bl.1 hq).1 hq).2
      ·exact(HZ.out q s (bl.1 D).1 D).1
      ·exact tl.out q f (bl.1 hf).1 hf
     clear A hb rn rm;go_wp2;go_ret;rw[rx.out];exact⟨rfl,tS.out⟩
theorem xg {m:Mo}{s:St}{y:Fd}(d:s∈m.ss)(f:y∈s.fs)(h:m.known y.ty=qS):(!(bE m).all m.known)=qv:=by
 rw[pl,lk];exact⟨y.ty,cC.2 (.inl (er.2 ⟨s,d,dd.2 ⟨y,f,rfl⟩⟩)),by simp[h]⟩
theorem Aw {m:Mo}{f:Fn}(d:f∈m.fs)(h:m.known f.ret=qS):(!(bE m).all m.known)=qv:=by
 rw[pl,lk];exact⟨f.ret,cC.2 (.inr (er.2 ⟨f,d,by simp⟩)),by simp[h]⟩
theorem Ay {m:Mo}{f:Fn}{y:Vr}(d:f∈m.fs)(o:y∈f.vs)(h:m.known y.ty=qS):(!(bE m).all m.known)=qv:=by
 rw[pl,lk];exact⟨y.ty,cC.2 (.inr (er.2 ⟨f,d,m5 _ (dd.2 ⟨y,o,rfl⟩)⟩)),by simp[h]⟩
theorem Az {m:Mo}(v:∀s∈m.ss,∀y∈s.fs,m.known y.ty=qv)(q:∀f∈m.fs,m.known f.ret=qv/\∀y∈f.vs,m.known y.ty=qv):(!(bE m).all m.known)=qS:=by
 rw[Bool.not_eq_false',gC];intro t d;rcases cC.1 d with h|h
 ·obtain⟨s,A,d⟩:=er.1 h
  obtain⟨y,o,rfl⟩:=dd.1 d;exact v s A y o
 ·obtain⟨f,u,d⟩:=er.1 h
  rcases fW.1 d with rfl|d
  ·exact(q f u).1
  ·obtain⟨y,o,rfl⟩:=dd.1 d
   exact(q f u).2 y o
theorem pV (m:Mo)(w:World)(sn:m.inn w)(tP:m.ss.length<=90000)(tR:m.fs.length<=90000)(sq:∀s∈m.ss,s.fs.length<=90000)(sr:∀f∈m.fs,f.vs.length<=90000):
  zP 48 #[rh m.cells] w (re (!(bE m).all m.known)):=by
 obtain⟨R,hR⟩:=zE (!(bE m).all m.known);rw[hR];have HR:=zH hR;obtain⟨N,hN⟩:=zE w.heap.size;obtain⟨o,rK⟩:=zE (w.alloc (rj m.cells 25));have sx:=iF rK;have tf:o.heap.size=N+1:=by rw[<-rK];simp[hN]
 have th:o.heap[N]?=qt (rj m.cells 25 (0,0)):=by rw[<-rK,<-hN];exact alloc_at _ _
 have HK:ca (∀W,aq o.heap.size o W->W.cell? ⟨N,0,qu⟩=qt (ra m.sA m.ss.length m.sC)/\W.cell? ⟨N,1,qu⟩=qt (ra m.fA m.fs.length m.fC)/\m.inn W/\aq w.heap.size w W):=λW hW=>by
  have q1:=(hW.block N (by omega)).trans th;have h3:=sx.trans (hW.mono sx.size);exact⟨by rw[bh _ _ _ _ _ _ q1];rfl,by rw[bh _ _ _ _ _ _ q1];rfl,sn.below h3,h3⟩
 have sy:ca (∀W,aq o.heap.size o W->∀t:Ty,zP 85 #[rh #[ra m.sA m.ss.length m.sC,ra m.fA m.fs.length m.fC],rh #[re t.1,qT t.2]] W (re (m.known t))):=λW hW t=>uV m t.1 t.2 W sn.ns (HK.out W hW).2.2.1.srow;have tm:=zH sq;have tn:=zH sr;have sB:=rK;simp only[Mo.cells] at sB;have tp:=zH sB;have tS:=zH tf;simp only[Mo.cells];clear sn sq sr rK sB sx th hR tf;obtain⟨c0,c1,_,_⟩:=HK.out o (an _ _);go_enter func48,ntmps48
 go_upto_region 1 with(fail)
 rw[tp.out]
 go_wp2_with fail
 go_loopw [3] (λk wr=>∃j:cd,j<=m.ss.length/\k= Z U (j:cj)/\(∀s∈m.ss.take j,∀y∈s.fs,m.known y.ty=qv)/\aq o.heap.size o wr) (λk _=>m.ss.length-(intOf k).toNat)
 case atStart=>exact⟨0,cJ _,rfl,by simp,an _ _⟩
 case round=>
  rename World=>wo;clear c0 c1;obtain⟨j,hj,rfl,J,hb⟩:=hrel;obtain⟨c0,c1,rr,rB⟩:=HK.out wo hb;have HZ:=zH J;have HB:=zH hb
  by_cases rL:j<m.ss.length
  ·obtain⟨s,K⟩:∃y,m.ss[j]?=qt y:=⟨_,am rL⟩
   have rN:=ce K;obtain⟨u,v,hA,tr,q1⟩:=rr.srow (by intro e;rw[e] at rL;simp at rL);have A:ca (∀W,aq o.heap.size o W->W.cell? ⟨N,0,qu⟩=qt (ra (qt ⟨u,v,qu⟩) m.ss.length m.sC)/\W.cell? ⟨N,1,qu⟩=qt (ra m.fA m.fs.length m.fC)/\W.cell? ⟨u,v+j*4+1,qu⟩=qt (ra s.s.fA s.fs.length s.s.fC)/\s.inn W):=λW hW=>by
    obtain⟨k0,k1,k2,_⟩:=HK.out W hW;obtain⟨g2,tt,hA2,_,G⟩:=k2.srow (by intro e;rw[e] at rL;simp at rL);rw[hA] at hA2;simp only[dc,eW,and_true] at hA2;refine⟨by rw[<-hA];exact k0,k1, ?_,k2.sin s rN⟩;rw[<-(k2.sin s rN).nf,hA2.1,hA2.2];exact G j s K 1 _ rfl
   have tU:(j:cj)<(m.ss.length:cj):=by omega
   have HS:=zH K;have tv:=zH rN;have sq:=tm.out s rN;have HA:=zH hA;clear J hb rB K rN rr c0 c1 q1 hA;obtain⟨c0,c1,c2,_⟩:=A.out wo HB.out
   go_wp2_with fail
   clear c0 c1 c2
   go_loopw [4] (λk wr=>∃i:cd,i<=s.fs.length/\k= Z U (i:cj)/\(∀y∈s.fs.take i,m.known y.ty=qv)/\aq o.heap.size o wr) (λk _=>s.fs.length-(intOf k).toNat)
   case atStart=>exact⟨0,cJ _,rfl,by simp,HB.out⟩
   case round=>
    obtain⟨i,hi,rfl,rl,rm⟩:=hrel;have sE:=zH rl;have rv:=zH rm;obtain⟨c0,c1,c2,sL⟩:=A.out wr rm
    by_cases rn:i<s.fs.length
    ·obtain⟨y,hy⟩:∃y,s.fs[i]?=qt y:=⟨_,am rn⟩
     obtain⟨f1,fo,rS,se,G⟩:=sL.row (by intro e;rw[e] at rn;simp at rn);have tz:(i:cj)<(s.fs.length:cj):=by omega
     have HY:=zH hy;obtain⟨d,hd⟩:=zE (m.known y.ty);have sf:=zH hd;have D:ca (∀p:BW wr,aq o.heap.size o p.w):=λp=>rv.out.trans (p.h.mono rv.out.size);have HC:ca (∀p:BW wr,zP 85 #[rh #[ra (qt ⟨u,v,qu⟩) m.ss.length m.sC,ra m.fA m.fs.length m.fC],rh #[re y.ptr,qT y.tgt]] p.w (re d)):=λp=>by
      rw[<-HA.out,<-hd];exact sy.out p.w (D.out p) y.ty
     have m0:∀p:BW wr,p.w.cell? ⟨N,0,qu⟩=qt (ra (qt ⟨u,v,qu⟩) m.ss.length m.sC):=λp=>(A.out p.w (D.out p)).1;have m1:∀p:BW wr,p.w.cell? ⟨N,1,qu⟩=qt (ra m.fA m.fs.length m.fC):=λp=>(A.out p.w (D.out p)).2.1;have m2:∀p:BW wr,p.w.cell? ⟨u,v+j*4+1,qu⟩=qt (ra (qt ⟨f1,fo,qu⟩) s.fs.length s.s.fC):=λp=>by rw[<-rS];exact(A.out p.w (D.out p)).2.2.1
     have m3:∀p:BW wr,p.w.cell? ⟨f1,fo+i*5+1,qu⟩=qt (re y.ptr):=λp=>by rw[p.h.cell (p:=⟨f1,_,qu⟩) se];exact G i y hy 1 _ rfl
     have m4:∀p:BW wr,p.w.cell? ⟨f1,fo+i*5+1+1,qu⟩=qt (qT y.tgt):=λp=>by rw[p.h.cell (p:=⟨f1,_,qu⟩) se];exact G i y hy 2 _ rfl
     clear rl rm sL hy hd rS G
     go_wp2_with fail
     clear c0 c1 c2;refine zQ ?_
     repeat (go_big_quiet_step (first|(go_at_call 85;exact aV (HC.out _))))
     refine db ?_;rintro _ ⟨p,rfl⟩;have sR:ca (aq w.heap.size w p.w):=(HK.out p.w (D.out p)).2.2.2;clear m0 m1 m2 m3 m4;cases d with
     |false=>
      have rx:ca (R=qv):=by unfold ca;rw[<-HR.out];exact xg tv.out (ce HY.out) sf.out
      go_wp2;go_ret;rw[rx.out];exact⟨rfl,sR.out⟩
     |true=>
      go_wp2;go_roundw
      case rel=>exact⟨i+1,by omega,by go_num,bY (p:=λy:Fd=>m.known y.ty=qv) sE.out HY.out sf.out,D.out p⟩
      case measure=>simp[intOf];omega
    ·have sT:i=s.fs.length:=by omega
     subst sT;rw[cT] at rl;have sX:=zH rl;clear rm rl sL;go_wp2;go_roundw
     case rel=>exact⟨j+1,by omega,by go_num,bY (p:=λs:St=>∀y∈s.fs,m.known y.ty=qv) HZ.out HS.out sX.out,rv.out⟩
     case measure=>simp[intOf];omega
  ·have tA:j=m.ss.length:=by omega
   subst tA;rw[cT] at J;have HZ:=zH J;clear J hb rB rr
   go_wp2_with fail
   clear c0 c1
   go_loopw [5] (λk wr=>∃i:cd,i<=m.fs.length/\k= Z U (i:cj)/\(∀f∈m.fs.take i,m.known f.ret=qv/\∀y∈f.vs,m.known y.ty=qv)/\aq o.heap.size o wr) (λk _=>m.fs.length-(intOf k).toNat)
   case atStart=>exact⟨0,cJ _,rfl,by simp,HB.out⟩
   case round=>
    rename World=>wp;obtain⟨i,hi,rfl,J,hb⟩:=hrel;obtain⟨c0,c1,rr,rB⟩:=HK.out wp hb;have tB:=zH J;have ti:=zH hb;have tD:=zH rB
    by_cases rn:i<m.fs.length
    ·obtain⟨f,K⟩:∃y,m.fs[i]?=qt y:=⟨_,am rn⟩
     have sk:=ce K;obtain⟨u,v,hA,tr,q1⟩:=rr.frow (by intro e;rw[e] at rn;simp at rn);have A:ca (∀W,aq o.heap.size o W->W.cell? ⟨N,0,qu⟩=qt (ra m.sA m.ss.length m.sC)/\W.cell? ⟨N,1,qu⟩=qt (ra (qt ⟨u,v,qu⟩) m.fs.length m.fC)/\W.cell? ⟨u,v+i*8+2,qu⟩=qt (ra f.c.varsA f.vs.length f.c.varsC)/\W.cell? ⟨u,v+i*8+3,qu⟩=qt (re f.c.rp)/\W.cell? ⟨u,v+i*8+3+1,qu⟩=qt (qT f.c.rto)/\f.inn W):=λW hW=>by
      obtain⟨k0,k1,k2,_⟩:=HK.out W hW;obtain⟨g2,tt,hA2,_,G⟩:=k2.frow (by intro e;rw[e] at rn;simp at rn);rw[hA] at hA2;simp only[dc,eW,and_true] at hA2;refine⟨k0,by rw[<-hA];exact k1, ?_,by rw[hA2.1,hA2.2];exact G i f K 3 _ rfl,by rw[hA2.1,hA2.2];exact G i f K 4 _ rfl,k2.fin f sk⟩;rw[<-(k2.fin f sk).nvars,hA2.1,hA2.2];exact G i f K 2 _ rfl
     have tz:(i:cj)<(m.fs.length:cj):=by omega
     have HS:=zH K;have tj:=zH sk;have HA:=zH hA;have sr:=tn.out f sk;obtain⟨d,hd⟩:=zE (m.known f.ret);have sf:=zH hd;have D:ca (∀p:BW wp,aq o.heap.size o p.w):=λp=>ti.out.trans (p.h.mono ti.out.size);have HC:ca (∀p:BW wp,zP 85 #[rh #[ra m.sA m.ss.length m.sC,ra (qt ⟨u,v,qu⟩) m.fs.length m.fC],rh #[re f.c.rp,qT f.c.rto]] p.w (re d)):=λp=>by
      rw[<-HA.out,<-hd];exact sy.out p.w (D.out p) f.ret
     have m0:∀p:BW wp,p.w.cell? ⟨N,0,qu⟩=qt (ra m.sA m.ss.length m.sC):=λp=>(A.out p.w (D.out p)).1;have m1:∀p:BW wp,p.w.cell? ⟨N,1,qu⟩=qt (ra (qt ⟨u,v,qu⟩) m.fs.length m.fC):=λp=>(A.out p.w (D.out p)).2.1;have m3:∀p:BW wp,p.w.cell? ⟨u,v+i*8+3,qu⟩=qt (re f.c.rp):=λp=>(A.out p.w (D.out p)).2.2.2.1;have m4:∀p:BW wp,p.w.cell? ⟨u,v+i*8+3+1,qu⟩=qt (qT f.c.rto):=λp=>(A.out p.w (D.out p)).2.2.2.2.1;clear J hb rB K rr hd sk hA q1
     go_wp2_with fail
     clear c0 c1;refine zQ ?_
     repeat (go_big_quiet_step (first|(go_at_call 85;exact aV (HC.out _))))
     refine db ?_;rintro _ ⟨p,rfl⟩;have sR:ca (aq w.heap.size w p.w):=(HK.out p.w (D.out p)).2.2.2;clear m0 m1 m3 m4;cases d with
     |false=>
      have rx:ca (R=qv):=by unfold ca;rw[<-HR.out];exact Aw tj.out sf.out
      go_wp2;go_ret;rw[rx.out];exact⟨rfl,sR.out⟩
     |true=>
      go_wp2_with fail
      go_loopw [6] (λk wr=>∃q:cd,q<=f.vs.length/\k= Z U (q:cj)/\(∀y∈f.vs.take q,m.known y.ty=qv)/\aq o.heap.size o wr) (λk _=>f.vs.length-(intOf k).toNat)
      case atStart=>exact⟨0,cJ _,rfl,by simp,D.out p⟩
      case round=>
       obtain⟨q,hq,rfl,rl,rm⟩:=hrel;have sE:=zH rl;have rv:=zH rm;obtain⟨c0,c1,c2,_,_,sY⟩:=A.out wr rm
       by_cases te:q<f.vs.length
       ·obtain⟨y,hy⟩:∃y,f.vs[q]?=qt y:=⟨_,am te⟩
        obtain⟨f1,fo,rS,se,G⟩:=sY.vars (by intro e;rw[e] at te;simp at te);have tW:(q:cj)<(f.vs.length:cj):=by omega
        have HY:=zH hy;obtain⟨d,hd⟩:=zE (m.known y.ty);have tl:=zH hd;have rI:ca (∀p:BW wr,aq o.heap.size o p.w):=λp=>rv.out.trans (p.h.mono rv.out.size);have tE:ca (∀p:BW wr,zP 85 #[rh #[ra m.sA m.ss.length m.sC,ra (qt ⟨u,v,qu⟩) m.fs.length m.fC],rh #[re y.ptr,qT y.tgt]] p.w (re d)):=λp=>by
         rw[<-HA.out,<-hd];exact sy.out p.w (rI.out p) y.ty
        have m0:∀p:BW wr,p.w.cell? ⟨N,0,qu⟩=qt (ra m.sA m.ss.length m.sC):=λp=>(A.out p.w (rI.out p)).1;have m1:∀p:BW wr,p.w.cell? ⟨N,1,qu⟩=qt (ra (qt ⟨u,v,qu⟩) m.fs.length m.fC):=λp=>(A.out p.w (rI.out p)).2.1;have m2:∀p:BW wr,p.w.cell? ⟨u,v+i*8+2,qu⟩=qt (ra (qt ⟨f1,fo,qu⟩) f.vs.length f.c.varsC):=λp=>by rw[<-rS];exact(A.out p.w (rI.out p)).2.2.1
        have m3:∀p:BW wr,p.w.cell? ⟨f1,fo+q*3,qu⟩=qt (re y.ptr):=λp=>by rw[p.h.cell (p:=⟨f1,_,qu⟩) se];exact G q y hy 0 _ rfl
        have m4:∀p:BW wr,p.w.cell? ⟨f1,fo+q*3+1,qu⟩=qt (qT y.tgt):=λp=>by rw[p.h.cell (p:=⟨f1,_,qu⟩) se];exact G q y hy 1 _ rfl
        clear rl rm sY hy hd rS G
        go_wp2_with fail
        clear c0 c1 c2;refine zQ ?_
        repeat (go_big_quiet_step (first|(go_at_call 85;exact aV (tE.out _))))
        refine db ?_;rintro _ ⟨p,rfl⟩;have tG:ca (aq w.heap.size w p.w):=(HK.out p.w (rI.out p)).2.2.2;clear m0 m1 m2 m3 m4;cases d with
        |false=>
         have rx:ca (R=qv):=by unfold ca;rw[<-HR.out];exact Ay tj.out (ce HY.out) tl.out
         go_wp2;go_ret;rw[rx.out];exact⟨rfl,tG.out⟩
        |true=>
         go_wp2;go_roundw
         case rel=>exact⟨q+1,by omega,by go_num,bY (p:=λy:Vr=>m.known y.ty=qv) sE.out HY.out tl.out,rI.out p⟩
         case measure=>simp[intOf];omega
       ·have tM:q=f.vs.length:=by omega
        subst tM;rw[cT] at rl;have sX:=zH rl;clear rm rl sY;go_wp2;go_roundw
        case rel=>exact⟨i+1,by omega,by go_num,bY (p:=λf:Fn=>m.known f.ret=qv/\∀y∈f.vs,m.known y.ty=qv) tB.out HS.out ⟨sf.out,sX.out⟩,rv.out⟩
        case measure=>simp[intOf];omega
    ·have sT:i=m.fs.length:=by omega
     subst sT;rw[cT] at J;have rx:ca (R=qS):=by unfold ca;rw[<-HR.out];exact Az HZ.out J
     clear J hb rB rr;go_wp2;go_ret;rw[rx.out];exact⟨rfl,tD.out⟩
theorem pW (m:Mo)(w:World)(h:eD w m):
  zP 13 #[rh m.cells] w (Z U (dE m)):=by
 obtain⟨R,hR⟩:=zE (dE m);have HR:ca (R=if 30<m.ss.length\/60<m.fs.length then 2
  else if bX m=qv then 6
  else if (bE m).all m.known=qS then 5
  else if aM (codeF m) m.fs≠0 then aM (codeF m) m.fs
  else bv (decide (0<=m.fnIx cu)&&(match m.fs[(m.fnIx cu).toNat]? with
   |some g=>decide (g.c.par=0)&& !g.c.rp
   |none=>qS)) 9):=hR.symm
 rw[hR];obtain⟨N,hN⟩:=zE w.heap.size;obtain⟨D,sk⟩:=zE (w.alloc (rj m.cells 25));have tW:=gQ sk hN;have ua:D.heap.size=N+1:=by rw[<-sk];simp[hN]
 have ub:D.heap[N]?=qt (rj m.cells 25 (0,0)):=by rw[<-sk,<-hN];exact alloc_at _ _
 have vn:ca (∀W,aq N w W->eD W m):=λW hW=>⟨h.mo.below (by rw[hN];exact hW),h.sl,h.fl,h.fd,h.vl,h.al⟩
 have HK:ca (∀W,aq D.heap.size D W->W.heap[N]?=qt (rj m.cells 25 (0,0))/\W.cell? ⟨N,0,qu⟩=qt (ra m.sA m.ss.length m.sC)/\W.cell? ⟨N,1,qu⟩=qt (ra m.fA m.fs.length m.fC)/\eD W m/\aq N w W):=λW hW=>by
  have q1:=(hW.block N (by omega)).trans ub;have h3:=tW.trans (hW.mono (show N<=D.heap.size by omega));exact⟨q1,by rw[bh _ _ _ _ _ _ q1];rfl,by rw[bh _ _ _ _ _ _ q1];rfl,vn.out W h3,h3⟩
 have ti:=sk;simp only[Mo.cells] at ti;have uc:=zH ti;have xj:=zH ua;have vp:ca (∀W,aq N w W->N<=W.heap.size):=λW hW=>by have:=hW.size;omega
 unfold zP;rw[hN];simp only[Mo.cells];clear h sk ti tW ub hR ua;obtain⟨hr,c0,c1,_,_⟩:=HK.out D (an _ _);have ud:=zH hr;clear hr;go_enter func13,ntmps13
 go_upto_region 1 with(fail)
 rw[uc.out];clear uc hN
 by_cases g1:30<m.ss.length
 ·have A:ca (R=2):=by unfold ca;rw[HR.out,cI (.inl g1)]
  clear HR;go_wp2;go_ret;rw[A.out];exact⟨rfl,(HK.out D (an _ _)).2.2.2.2⟩
 by_cases g2:60<m.fs.length
 ·have A:ca (R=2):=by unfold ca;rw[HR.out,cI (.inr g2)]
  clear HR;go_wp2;go_ret;rw[A.out];exact⟨rfl,(HK.out D (an _ _)).2.2.2.2⟩
 have sn:ca (R=if bX m=qv then 6
  else if (bE m).all m.known=qS then 5
  else if aM (codeF m) m.fs≠0 then aM (codeF m) m.fs
  else bv (decide (0<=m.fnIx cu)&&(match m.fs[(m.fnIx cu).toNat]? with
   |some g=>decide (g.c.par=0)&& !g.c.rp
   |none=>qS)) 9):=by unfold ca;rw[HR.out,cw (by omega)]
 clear HR;have sY:ca (zP 47 #[rh m.cells] D (re (bX m))):=by
  obtain⟨_,_,_,h4,_⟩:=HK.out D (an _ _);exact vk m D h4.mo h4.sl h4.fl h4.fd
 obtain⟨tw,ue⟩:=zE (bX m);rw[ue] at sY sn;clear ue
 go_upto_region 3 with(fail)
 cases tw with
 |true=>
  have A:ca (R=6):=by unfold ca;rw[sn.out,cI rfl]
  clear sn
  go_wp2_with (first
   |(refine bo rfl 25 _ rfl N rfl 25 m.cells (0,0) _ ud.out ey rfl (by kernel_rfl) ?_)
   |(go_at_call 47;refine sY.out.mono ?_;rintro e w3 ⟨rfl,rv⟩;have rx:=zH rv;clear rv))
  go_ret;rw[A.out];exact⟨rfl,(HK.out w3 rx.out).2.2.2.2⟩
 |false=>
 have sq:ca (R=if (bE m).all m.known=qS then 5
  else if aM (codeF m) m.fs≠0 then aM (codeF m) m.fs
  else bv (decide (0<=m.fnIx cu)&&(match m.fs[(m.fnIx cu).toNat]? with
   |some g=>decide (g.c.par=0)&& !g.c.rp
   |none=>qS)) 9):=by unfold ca;rw[sn.out,cw (by simp)]
 clear sn
 go_upto_region 5 with(first
   |(refine bo rfl 25 _ rfl N rfl 25 m.cells (0,0) _ ud.out ey rfl (by kernel_rfl) ?_)
   |(go_at_call 47;refine sY.out.mono ?_;rintro e w3 ⟨rfl,rv⟩;have rx:=zH rv;clear rv))
 clear c0 c1 sY;obtain⟨hr,c0,c1,h4,_⟩:=HK.out w3 rx.out;have tj:=zH hr;have rN:ca (zP 48 #[rh m.cells] w3 (re (!(bE m).all m.known))):=pV m w3 h4.mo h4.sl h4.fl h4.fd h4.vl;clear hr h4;obtain⟨un,te⟩:=zE ((bE m).all m.known);rw[te] at rN sq;cases un with
 |false=>
  have A:ca (R=5):=by unfold ca;rw[sq.out,cI rfl]
  clear sq te;rw[ot] at rN
  go_wp2_with (first
   |(refine bo rfl 25 _ rfl N rfl 25 m.cells (0,0) _ tj.out ey rfl (by kernel_rfl) ?_)
   |(go_at_call 48;refine rN.out.mono ?_;rintro e w4 ⟨rfl,sr⟩;have tl:=zH sr;clear sr))
  go_ret;rw[A.out];exact⟨rfl,(HK.out w4 (rx.out.trans (tl.out.mono rx.out.size))).2.2.2.2⟩
 |true=>
 have tf:ca (R=if aM (codeF m) m.fs≠0 then aM (codeF m) m.fs
  else bv (decide (0<=m.fnIx cu)&&(match m.fs[(m.fnIx cu).toNat]? with
   |some g=>decide (g.c.par=0)&& !g.c.rp
   |none=>qS)) 9):=by unfold ca;rw[sq.out,cw (by simp)]
 have vq:ca (∀t∈bE m,m.known t=qv):=gC.1 te;clear sq te;rw[px] at rN
 go_upto_region 7 with(first
   |(refine bo rfl 25 _ rfl N rfl 25 m.cells (0,0) _ tj.out ey rfl (by kernel_rfl) ?_)
   |(go_at_call 48;refine rN.out.mono ?_;rintro e w4 ⟨rfl,sr⟩;have tl:ca (aq D.heap.size D w4):=rx.out.trans (sr.mono rx.out.size);clear sr))
 clear c0 c1 rN tj rx
 go_wp2_with fail
 go_loopw [3] (λk wr=>∃j:cd,j<=m.fs.length/\k= Z U (j:cj)/\(∀f∈m.fs.take j,codeF m f=0)/\aq D.heap.size D wr) (λk _=>m.fs.length-(intOf k).toNat)
 case atStart=>exact⟨0,cJ _,rfl,by simp,tl.out⟩
 case round=>
  rename World=>J;obtain⟨j,hj,rfl,hz,hb⟩:=hrel;obtain⟨hr,c0,c1,rn,tm⟩:=HK.out J hb;have HZ:=zH hz;have HB:=zH hb;have ur:=zH tm;have vr:=zH hr
  by_cases tn:j<m.fs.length
  ·obtain⟨f,hs⟩:∃y,m.fs[j]?=qt y:=⟨_,am tn⟩
   have rI:=ce hs;obtain⟨g1,uv,hA,xl,q1⟩:=rn.mo.frow (by intro e;rw[e] at tn;simp at tn);have vt:ca (∀k u,f.cells.toList[k]?=qt u->J.cell? ((⟨g1,uv+j*8,qu⟩:oA).add k)=qt u):=λk u hu=>by rw[cM];exact q1 j f hs k u hu
   have hst:∀(c:cG bw),c.size=8->(cU ⟨J.heap.size,0,qu⟩ f.cells.toList 0).run ac (J.alloc (rj c 38))= .ok () (J.alloc (rj f.cells 38)):=λc hc=>
    cf (P:=ac) J 38 c f.cells (by show _=qt 8;kernel_rfl) hc (ek f)
   obtain⟨P,hP⟩:=zE J.heap.size;obtain⟨G,rK⟩:=zE (J.alloc (rj f.cells 38));have vu:G.heap.size=P+1:=by rw[<-rK];simp[hP]
   have ux:G.heap[P]?=qt (rj f.cells 38 (0,0)):=by rw[<-rK,<-hP];exact alloc_at _ _
   have rv:aq D.heap.size D G:=by rw[<-rK];exact hb.alloc hb.size _
   have tp:=rn.mo.fin f rI;have xo:=rn.vl f rI;have rr:ca (∀W,aq G.heap.size G W->aq D.heap.size D W/\W.heap[P]?=qt (rj f.cells 38 (0,0))/\W.cell? ⟨P,1,qu⟩=qt (Z U f.c.par)/\W.cell? ⟨P,2,qu⟩=qt (ra f.c.varsA f.vs.length f.c.varsC)/\W.cell? ⟨P,7,qu⟩=qt (ra f.c.insA f.c.ins.length f.c.insC)):=λW hW=>by
    have q:=(hW.block P (by omega)).trans ux;refine⟨rv.trans (hW.mono rv.size),q,by rw[bh _ _ _ _ _ _ q];rfl, ?_,by rw[bh _ _ _ _ _ _ q];rfl⟩;rw[bh _ _ _ _ _ _ q,<-tp.nvars];rfl
   have xp:(j:cj)<(m.fs.length:cj):=by omega
   have HS:=zH hs;have xr:=zH rI;have vx:ca (∀W,aq G.heap.size G W->mr W m f/\∀i∈f.c.ins,i.args_in W):=λW hW=>by
    obtain⟨_,_,_,h4,_⟩:=HK.out W (rr.out W hW).1;have:=h4.mo.fin f rI;exact⟨yt h4.mo this,λi K=>this.code.args i K⟩
   have vy:ca (∀i∈f.c.ins,i.args.length<=40):=rn.al f rI;have wa:ca (∀v,isVar f.vs.length v=qv->m.known (ak f.vs v)=qv):=λv hv=>vq.out _ (by
    obtain⟨h0,h1⟩:=dJ.1 hv;obtain⟨k,rfl⟩:∃k:cd,v=(k:cj):=⟨v.toNat,by omega⟩
    obtain⟨x,hx⟩:∃x,f.vs[k]?=qt x:=⟨_,am (by omega)⟩
    have e:ak f.vs (k:cj)=x.ty:=by unfold ak;rw[ep,hx]
    rw[e];unfold bE;exact cC.2 (.inr (er.2 ⟨f,rI,m5 _ (dd.2 ⟨x,ce hx,rfl⟩)⟩)))
   have va:ca (f.c.ins≠[]->∃b o,f.c.insA=qt ⟨b,o,qu⟩/\∀W,aq G.heap.size G W->b<W.heap.size/\∀(k:cd)(i:Ins),f.c.ins[k]?=qt i->∀q u,i.cells.toList[q]?=qt u->W.cell? ⟨b,o+k*13+q,qu⟩=qt u):=λwb=>by
    obtain⟨b,o,hA,hb,hc⟩:=tp.code.row wb;refine⟨b,o,hA,λW hW=> ?_⟩;have vc:aq J.heap.size J W:=by
     have h0:=iF rK;exact h0.trans (hW.mono h0.size)
    refine⟨by have:=vc.size;omega,λk i K q u hu=> ?_⟩;rw[vc.cell (p:=⟨b,_,qu⟩) hb];exact hc k i K q u hu
   obtain⟨z,sx⟩:=zE (codeF m f);have rl:ca (z=if 300<f.vs.length\/f.c.ins.length<1\/3000<f.c.ins.length then 2
    else if f.c.par<0\/(f.vs.length:cj)<f.c.par then 15
    else if aM (aC m f) f.c.ins≠0 then aM (aC m f) f.c.ins
    else bv (match f.c.ins.getLast? with
     |some i=>decide (16<=i.op)
     |none=>qS) 15):=sx.symm
   have rm:ca (z≠0->R=z):=λh0=>by
    have e:=jk (f:=codeF m) hz hs (by rw[sx];exact h0);rw[tf.out,e,sx,cI h0]
   have rS:ca (z=0->∀f∈m.fs.take (j+1),codeF m f=0):=λh0=>bY (p:=λf=>codeF m f=0) hz hs (by rw[sx];exact h0);rw[hP] at hst;rw[rK] at hst;rw[hA] at c1;have we:=zH rK;have HP:=zH hP;clear hz hb tm hs rI rn tp q1 sx hr hA rv ux vu rK
   go_upto_region 11 with(refine az rfl 38 _ rfl ⟨g1,uv+j*8,qu⟩ rfl f.cells _ vt.out cy rfl (by kernel_rfl) ?_)
   clear c0 c1 hst we;have sy:ca (aq N w G):=(HK.out G (rr.out G (an _ _)).1).2.2.2.2;obtain⟨_,_,p1,p2,p7⟩:=rr.out G (an _ _)
   by_cases d1:300<f.vs.length
   ·have A:ca (R=2):=by
     have e:z=2:=by rw[rl.out,cI (.inl d1)]
     unfold ca;rw[rm.out (by rw[e];decide),e]
    clear rl rm rS;go_wp2;go_ret;rw[A.out];exact⟨rfl,sy.out⟩
   by_cases d2:f.c.ins.length<1
   ·have A:ca (R=2):=by
     have e:z=2:=by rw[rl.out,cI (.inr (.inl d2))]
     unfold ca;rw[rm.out (by rw[e];decide),e]
    clear rl rm rS;go_wp2;go_ret;rw[A.out];exact⟨rfl,sy.out⟩
   by_cases d3:3000<f.c.ins.length
   ·have A:ca (R=2):=by
     have e:z=2:=by rw[rl.out,cI (.inr (.inr d3))]
     unfold ca;rw[rm.out (by rw[e];decide),e]
    clear rl rm rS;go_wp2;go_ret;rw[A.out];exact⟨rfl,sy.out⟩
   by_cases d4:f.c.par<0
   ·have A:ca (R=15):=by
     have e:z=15:=by rw[rl.out,cw (by omega),cI (.inl d4)]
     unfold ca;rw[rm.out (by rw[e];decide),e]
    clear rl rm rS;go_wp2;go_ret;rw[A.out];exact⟨rfl,sy.out⟩
   by_cases d5:(f.vs.length:cj)<f.c.par
   ·have A:ca (R=15):=by
     have e:z=15:=by rw[rl.out,cw (by omega),cI (.inr d5)]
     unfold ca;rw[rm.out (by rw[e];decide),e]
    clear rl rm rS;go_wp2;go_ret;rw[A.out];exact⟨rfl,sy.out⟩
   have tr:ca (z=if aM (aC m f) f.c.ins≠0 then aM (aC m f) f.c.ins
    else bv (match f.c.ins.getLast? with
     |some i=>decide (16<=i.op)
     |none=>qS) 15):=by unfold ca;rw[rl.out,cw (by omega),cw (by omega)]
   clear rl
   go_wp2_with fail
   clear p1 p2 p7
   go_loopw [6] (λk wr=>∃q:cd,q<=f.c.ins.length/\k= Z U (q:cj)/\(∀i∈f.c.ins.take q,aC m f i=0)/\aq G.heap.size G wr) (λk _=>f.c.ins.length-(intOf k).toNat)
   case atStart=>exact⟨0,cJ _,rfl,by simp,an _ _⟩
   case round=>
    obtain⟨q,hq,rfl,sB,se⟩:=hrel;have tt:=zH sB;have tv:=zH se
    by_cases tz:q<f.c.ins.length
    ·obtain⟨i,K⟩:∃y,f.c.ins[q]?=qt y:=⟨_,am tz⟩
     have tA:=ce K;obtain⟨ib,io,sE,sL⟩:=va.out (by intro e;rw[e] at tz;simp at tz);have xt:(q:cj)<(f.c.ins.length:cj):=by omega
     have HI:=zH K;have rL:ca (∀p:BW wr,aq G.heap.size G p.w):=λp=>tv.out.trans (p.h.mono tv.out.size);have wg:ca (∀(p:BW wr) k u,m.cells.toList[k]?=qt u->p.w.cell? ((⟨N,0,qu⟩:oA).add k)=qt u):=λp=>cK (HK.out p.w (rr.out p.w (rL.out p)).1).1;have wi:ca (∀(p:BW wr) k u,f.cells.toList[k]?=qt u->p.w.cell? ((⟨P,0,qu⟩:oA).add k)=qt u):=λp=>cK (rr.out p.w (rL.out p)).2.1;have wj:ca (∀(p:BW wr) k u,i.cells.toList[k]?=qt u->p.w.cell? ((⟨ib,io+q*13,qu⟩:oA).add k)=qt u):=λp k u hu=>by
      rw[cM];exact(sL p.w (rL.out p)).2 q i K k u hu
     have p7:∀p:BW wr,p.w.cell? ⟨P,7,qu⟩=qt (ra (qt ⟨ib,io,qu⟩) f.c.ins.length f.c.insC):=λp=>by rw[<-sE];exact(rr.out p.w (rL.out p)).2.2.2.2
     obtain⟨d,hd⟩:=zE (aC m f i);have tB:=zH hd;have wk:ca (∀p:BW wr,zP 49 #[rh m.cells,rh f.cells,rh i.cells] p.w (Z U d)):=λp=>by
      obtain⟨h1,h2⟩:=vx.out p.w (rL.out p);rw[<-hd];exact pU m f i p.w h1 (h2 i tA) (vy.out i tA) wa.out
     clear sB se K tA sE sL hd
     go_wp2_with fail
     refine zQ ?_
     repeat (first
      |(go_big_quiet_want;(first
        |(refine iZ 25 _ rfl ⟨N,0,qu⟩ rfl m.cells _ wg.out ey rfl (by kernel_rfl) ?_)
        |(refine iZ 38 _ rfl ⟨P,0,qu⟩ rfl f.cells _ wi.out cy rfl (by kernel_rfl) ?_)
        |(refine iZ 42 _ rfl ⟨ib,io+q*13,qu⟩ rfl i.cells _ wj.out cr rfl (by kernel_rfl) ?_));(simp only[cV,ap,bj,bk]);go_big_quiet_on)
      |(go_big_quiet_step (first|(go_at_call 49;exact aV (wk.out _)))))
     refine db ?_;rintro _ ⟨p,rfl⟩;have tD:ca (aq N w p.w):=(HK.out p.w (rr.out p.w (rL.out p)).1).2.2.2.2;clear p7
     by_cases sR:d=0
     ·subst sR
      go_wp2;go_roundw
      case rel=>exact⟨q+1,by omega,by go_num,bY (p:=λi:Ins=>aC m f i=0) tt.out HI.out tB.out,rL.out p⟩
      case measure=>simp[intOf];omega
     ·have xF:(d==0)=qS:=by rw[cR];exact sR
      have A:ca (R=d):=by
       have e:=jk (f:=aC m f) tt.out HI.out (by rw[tB.out];exact sR);have e2:z=d:=by rw[tr.out,e,tB.out,cI sR]
       unfold ca;rw[rm.out (by rw[e2];exact sR),e2]
      go_wp2;go_ret;rw[A.out];exact⟨rfl,tD.out⟩
    ·have wl:q=f.c.ins.length:=by omega
     subst wl;rw[cT] at sB;obtain⟨i,K⟩:∃i,f.c.ins[f.c.ins.length-1]?=qt i:=⟨_,am (by omega)⟩
     have vd:ca (z=bv (decide (16<=i.op)) 15):=by
      unfold ca;rw[tr.out,gF sB,cw (by simp),List.getLast?_eq_getElem?,K]
     obtain⟨ib,io,sE,sL⟩:=va.out (by intro e;rw[e] at K;simp at K);obtain⟨L,hL⟩:∃L,f.c.ins.length=L+1:=⟨f.c.ins.length-1,by omega⟩
     rw[hL,Nat.add_sub_cancel] at K;have i0:wr.cell? ⟨ib,io+L*13,qu⟩=qt (Z U i.op):=(sL wr se).2 L i K 0 _ rfl;have p7:wr.cell? ⟨P,7,qu⟩=qt (ra (qt ⟨ib,io,qu⟩) (L+1) f.c.insC):=by rw[<-sE,<-hL];exact(rr.out wr se).2.2.2.2
     have xT:((L+1:cd):cj)-1=(L:cj):=by omega
     have tD:ca (aq N w wr):=(HK.out wr (rr.out wr se).1).2.2.2.2;have ya:=zH hL;have yb:L<=3000:=by omega
     clear sB se K sL tr tt sE;rw[hL]
     by_cases wn:i.op<16
     ·have A:ca (R=15):=by
       have e:z=15:=by rw[vd.out,cv (by omega)];rfl
       unfold ca;rw[rm.out (by rw[e];decide),e]
      go_wp2;go_ret;rw[A.out];exact⟨rfl,tD.out⟩
     ·have ws:ca (z=0):=by unfold ca;rw[vd.out,dy (by omega)];rfl
      have yd:decide (i.op<16)=qS:=cv wn;go_wp2;go_roundw
      case rel=>exact⟨j+1,by omega,by go_num,rS.out ws.out,(rr.out wr tv.out).1⟩
      case measure=>simp[intOf];omega
  ·have wx:j=m.fs.length:=by omega
   subst wx;rw[cT] at hz;have sT:ca (R=bv (decide (0<=m.fnIx cu)&&(match m.fs[(m.fnIx cu).toNat]? with
    |some g=>decide (g.c.par=0)&& !g.c.rp
    |none=>qS)) 9):=by
    unfold ca;rw[tf.out,gF hz,cw (by simp)]
   obtain⟨kx,sf⟩:=zE (m.fnIx cu);rw[sf] at sT;have vf:ca (zP 50 #[rh m.cells,qT ⟨#[109,97,105,110]⟩] J (Z U kx)):=by
    rw[<-sf];exact lc m cu J rn.mo.nf rn.mo.frow
   have tE:ca (∀W b,zP 51 #[re b,Z U 9] W (Z U (bv (!b) 9))):=λW b=>aX b 9 W;have tG:ca (∀W W',aq J.heap.size J W->aq W.heap.size W W'->aq N w W'):=λW W' h1 h2=>ur.out.trans ((h1.trans (h2.mono h1.size)).mono (vp.out _ ur.out));have xf:=zH rn.mo.frow;clear hz hb tm hr
   go_upto_region 25 with(first
    |(refine bo rfl 25 _ rfl N rfl 25 m.cells (0,0) _ vr.out ey rfl (by kernel_rfl) ?_)
    |(go_at_call 50;refine vf.out.mono ?_;rintro e w8 ⟨rfl,vh⟩;have th:=zH vh;clear vh))
   clear c0 c1 vf;rcases lC (λf:Fn=>f.c.nm==cu) m.fs with e|⟨k,f,e,hf,_⟩
   ·have tM:kx= -1:=by rw[<-sf];exact e
    subst tM;have A:ca (R=9):=by unfold ca;rw[sT.out];rfl
    clear rn sf tf sT e xf
    go_wp2_with (go_at_call 51;refine(tE.out _ _).mono ?_;rintro e w9 ⟨rfl,rB⟩;have sX:=zH rB;clear rB)
    go_ret;rw[A.out];exact⟨rfl,tG.out _ _ th.out sX.out⟩
   ·have tM:kx=(k:cj):=by rw[<-sf];exact e
    subst tM;have vi:=(bl.1 hf).1;have ye:(k:cj)<(m.fs.length:cj):=by omega
    have A:ca (R=bv (decide (f.c.par=0)&& !f.c.rp) 9):=by
     unfold ca;rw[sT.out,ep,hf,dy (by omega)];rfl
    obtain⟨fb,tP,vj,tR,tS⟩:=rn.mo.frow (by intro e;rw[e] at vi;simp at vi);have vm:ca (∀W8,aq J.heap.size J W8->W8.cell? ⟨fb,tP+k*8+1,qu⟩=qt (Z U f.c.par)/\W8.cell? ⟨fb,tP+k*8+3,qu⟩=qt (re f.c.rp)/\W8.cell? ⟨N,1,qu⟩=qt (ra (qt ⟨fb,tP,qu⟩) m.fs.length m.fC)):=by
     intro W8 h8;refine⟨?_, ?_, ?_⟩
     ·rw[h8.cell (p:=⟨fb,_,qu⟩) tR];exact tS k f hf 1 _ rfl
     ·rw[h8.cell (p:=⟨fb,_,qu⟩) tR];exact tS k f hf 3 _ rfl
     ·rw[<-vj];exact(HK.out W8 (HB.out.trans (h8.mono HB.out.size))).2.2.1
    have yi:max (k:cj) 0=(k:cj):=by omega
    have yk:k<=60:=by omega
    have yp:decide ((k:cj)<0)=qS:=cv (by omega);clear rn sf tf sT e tR tS hf vj;obtain⟨u1,u2,u3⟩:=vm.out w8 th.out;clear vm
    by_cases hp:f.c.par=0
    ·rw[hp] at u1
     have tU:ca (R=bv (!f.c.rp) 9):=by unfold ca;rw[A.out,hp];rfl
     go_wp2_with (go_at_call 51;refine(tE.out _ _).mono ?_;rintro e w9 ⟨rfl,rB⟩;have sX:=zH rB;clear rB)
     go_ret;rw[tU.out];exact⟨rfl,tG.out _ _ th.out sX.out⟩
    ·have tU:ca (R=9):=by unfold ca;rw[A.out,cv hp];rfl
     have yq:(f.c.par==0)=qS:=by rw[cR];exact hp
     go_wp2_with (go_at_call 51;refine(tE.out _ _).mono ?_;rintro e w9 ⟨rfl,rB⟩;have sX:=zH rB;clear rB)
     go_ret;rw[tU.out];exact⟨rfl,tG.out _ _ th.out sX.out⟩
end Go.Proofs.YtjomgckjhcfbgaaGreat
