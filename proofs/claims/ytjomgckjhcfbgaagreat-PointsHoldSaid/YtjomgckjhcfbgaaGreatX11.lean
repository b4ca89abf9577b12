/- Walks. -/
import Derived.Test.YtjomgckjhcfbgaaGreatX8
set_option maxRecDepth 100000
set_option maxHeartbeats 64000000
set_option linter.all false
namespace Go.Proofs.YtjomgckjhcfbgaaGreat
open Go.RowKit
open Go.Proofs.Tryz renaming prog→ac,underlying42→cr,underlying38→cy,underlying32→dr,ntmps85→pi,ntmps90→pj,ntmps88→pk,func85→pD,func90→pH,func88→pL,ntmps49→qn
open _root_.List renaming getElem?_eq_getElem→am,getElem?_eq_some_iff→bl,mem_of_getElem?→ce,length_append→co,take_length→cT,nil_append→ej,all_eq_true→gC,cons_append→gE,any_eq_true→ju,append_nil→kh,any_eq_false→kp,all_eq_false→lk,getElem?_eq_none→lA
open Go.RowKit.Below renaming refl→an,heap_alloc→bt
open Go.RowKit renaming Below→aq,Hid→ca
open _root_ renaming ByteArray→aw,List→bm,Nat→cd,Int→cj,decide_eq_false→cv,if_neg→cw,Array→cG,if_pos→cI,beq_eq_false_iff_ne→cR,Option→du,decide_eq_true→dy,absurd→fL,bne_iff_ne→nt
open _root_.Array renaming getElem?_eq_some_iff→bb,getElem?_toList→m6
open Go renaming cell_of_row→bh,wpList_load_row→bo,Value→bw,run_storeCells_new→cf,storeCells→cU,bodyPost_ret→da,wpQuiet_nil→db,frozen_of_row→dg,maxLen→dl,beq_toListBytes→eL,Calls→ft,TypeId→ge,Oper→ij,Program→i8,below_drewN→j8,Addr→oA
open _root_.Nat renaming le_refl→bp,zero_add→cH,zero_le→cJ,le_succ→gb
open Go.Value renaming oneCell'→br,string→em,int→eC,ownBlock→eN,string→qT,slice→ra,pointer→rb,bool→re,agg→rh,int→Z
open Go.Exit renaming inBlock→cL
open Go.Addr renaming add_lit→cM
open _root_.Option.some renaming inj→cX,injEq→dc
open _root_.Int renaming toNat_natCast→ep
open _root_.Bool renaming and_eq_true→eK,true→qv,false→qS
open Go.Addr.mk renaming injEq→eW
open Go.Sem renaming run_bind→fc
open Go.Op renaming equalIn→fS
open _root_.ByteArray renaming empty→iS
open Go.Result renaming andThen_ok→lx
open _root_.Prod.mk renaming injEq→lz
open _root_.Option renaming some→qt,none→qu
open Go.Obj renaming cells→rj
open Go.IntKind renaming i64→U
open Tryz
theorem lc (m:Mo)(nm:aw)(w:World)(hn:m.fs.length<=dl)(h:aH Fn.cells 8 w w.heap.size m.fA m.fs):
  zP 50 #[rh m.cells,qT nm] w (Z U (m.fnIx nm)):=by
 obtain⟨R,D⟩:=zE (m.fnIx nm);rw[D];have G:ca (R=fH (λf:Fn=>f.c.nm==nm) m.fs):=by rw[<-D];rfl
 obtain⟨sA,sC,fA,J,ss,fs⟩:=m;simp only at hn h G;have H:=zH h;unfold dl at hn;simp only[Mo.cells];clear D h;obtain⟨N,hN⟩:=zE w.heap.size;obtain⟨q,u⟩:=zE (w.alloc (rj #[ra sA ss.length sC,ra fA fs.length J] 25));have d:q.heap[N]?=qt (rj #[ra sA ss.length sC,ra fA fs.length J] 25 (0,0)):=by rw[<-u,<-hN];exact alloc_at _ _
 have c1:q.cell? ⟨N,0,qu⟩=qt (ra sA ss.length sC):=(bh _ _ _ _ _ _ d).trans rfl;have c2:q.cell? ⟨N,1,qu⟩=qt (ra fA fs.length J):=(bh _ _ _ _ _ _ d).trans rfl;have K:=iF u;have HB:=zH K;have rr:=zH u;have H1:=zH (H.out.grow K);clear d K u;go_enter func50,ntmps50
 go_upto_region 1 with(fail)
 rw[rr.out]
 go_wp2_with fail
 go_loopw [5] (λk wr=>∃j:cd,j<=fs.length/\k= Z U (j:cj)/\(∀f∈fs.take j,(f.c.nm==nm)=qS)/\wr=q) (λk _=>fs.length-(intOf k).toNat)
 case atStart=>exact⟨0,cJ _,rfl,by simp,rfl⟩
 case round=>
  obtain⟨j,hj,rfl,o,rfl⟩:=hrel
  by_cases rl:j<fs.length
  ·obtain⟨f,v⟩:∃y,fs[j]?=qt y:=⟨_,am rl⟩
   obtain⟨g1,rv,rfl,rB,d⟩:=H1.out (by intro e;rw[e] at rl;simp at rl);have d0:wr.cell? ⟨g1,rv+j*8,qu⟩=qt (qT f.c.nm):=d j f v 0 _ rfl;have rI:(j:cj)<(fs.length:cj):=by omega
   have HZ:=zH o;have HY:=zH v
   by_cases A:f.c.nm=nm
   ·subst A
    have rm:ca (R=(j:cj)):=by unfold ca;rw[G.out];exact iQ (p:=λg:Fn=>g.c.nm==f.c.nm) HZ.out HY.out (by simp)
    clear o v d;go_wp2;go_ret;rw[rm.out];exact⟨rfl,HB.out⟩
   ·have rn:¬(f.c.nm.toList=nm.toList):=λe=>A (eq_of_beq (by rw[eL,e];simp))
    have rK:(f.c.nm.toList==nm.toList)=qS:=by simpa using rn
    clear rn;have HD:ca ((f.c.nm==nm)=qS):=by unfold ca;simp[A]
    clear o v d A;go_wp2;exact⟨⟨j+1,by omega,by go_num,dF (p:=λf:Fn=>f.c.nm==nm) HZ.out HY.out HD.out,by first|rfl|trivial⟩,by simp[intOf];omega⟩
  ·have rx:j=fs.length:=by omega
   subst rx;rw[cT] at o;have rm:ca (R= -1):=by unfold ca;rw[G.out];exact fM (p:=λf:Fn=>f.c.nm==nm) o
   clear o;go_wp2;go_ret;rw[rm.out];exact⟨rfl,HB.out⟩
theorem gH (m:Mo)(nm:aw)(w:World)(hn:m.ss.length<=dl)(h:aH St.cells 4 w w.heap.size m.sA m.ss):
  zP 84 #[rh m.cells,qT nm] w (Z U (m.stIx nm)):=by
 obtain⟨R,D⟩:=zE (m.stIx nm);rw[D];have G:ca (R=fH (λf:St=>f.s.nm==nm) m.ss):=by rw[<-D];rfl
 obtain⟨sA,sC,J,K,ss,fs⟩:=m;simp only at hn h G;have H:=zH h;unfold dl at hn;simp only[Mo.cells];clear D h;obtain⟨N,hN⟩:=zE w.heap.size;obtain⟨q,u⟩:=zE (w.alloc (rj #[ra sA ss.length sC,ra J fs.length K] 25));have d:q.heap[N]?=qt (rj #[ra sA ss.length sC,ra J fs.length K] 25 (0,0)):=by rw[<-u,<-hN];exact alloc_at _ _
 have c1:q.cell? ⟨N,0,qu⟩=qt (ra sA ss.length sC):=(bh _ _ _ _ _ _ d).trans rfl;have c2:q.cell? ⟨N,1,qu⟩=qt (ra J fs.length K):=(bh _ _ _ _ _ _ d).trans rfl;have rl:=iF u;have HB:=zH rl;have rv:=zH u;have H1:=zH (H.out.grow rl);clear d rl u;go_enter func84,ntmps84
 go_upto_region 1 with(fail)
 rw[rv.out]
 go_wp2_with fail
 go_loopw [5] (λk wr=>∃j:cd,j<=ss.length/\k= Z U (j:cj)/\(∀f∈ss.take j,(f.s.nm==nm)=qS)/\wr=q) (λk _=>ss.length-(intOf k).toNat)
 case atStart=>exact⟨0,cJ _,rfl,by simp,rfl⟩
 case round=>
  obtain⟨j,hj,rfl,o,rfl⟩:=hrel
  by_cases rm:j<ss.length
  ·obtain⟨f,v⟩:∃y,ss[j]?=qt y:=⟨_,am rm⟩
   obtain⟨g1,rx,rfl,rI,d⟩:=H1.out (by intro e;rw[e] at rm;simp at rm);have d0:wr.cell? ⟨g1,rx+j*4,qu⟩=qt (qT f.s.nm):=d j f v 0 _ rfl;have rK:(j:cj)<(ss.length:cj):=by omega
   have HZ:=zH o;have HY:=zH v
   by_cases A:f.s.nm=nm
   ·subst A
    have rn:ca (R=(j:cj)):=by unfold ca;rw[G.out];exact iQ (p:=λg:St=>g.s.nm==f.s.nm) HZ.out HY.out (by simp)
    clear o v d;go_wp2;go_ret;rw[rn.out];exact⟨rfl,HB.out⟩
   ·have rr:¬(f.s.nm.toList=nm.toList):=λe=>A (eq_of_beq (by rw[eL,e];simp))
    have rL:(f.s.nm.toList==nm.toList)=qS:=by simpa using rr
    clear rr;have HD:ca ((f.s.nm==nm)=qS):=by unfold ca;simp[A]
    clear o v d A;go_wp2;exact⟨⟨j+1,by omega,by go_num,dF (p:=λf:St=>f.s.nm==nm) HZ.out HY.out HD.out,by first|rfl|trivial⟩,by simp[intOf];omega⟩
  ·have rB:j=ss.length:=by omega
   subst rB;rw[cT] at o;have rn:ca (R= -1):=by unfold ca;rw[G.out];exact fM (p:=λf:St=>f.s.nm==nm) o
   clear o;go_wp2;go_ret;rw[rn.out];exact⟨rfl,HB.out⟩
theorem aX (b:Bool)(f:cj)(w:World):zP 51 #[re b,Z U f] w (Z U (bv (!b) f)):=by
 cases b with
 |true=>
  go_enter func51,ntmps51;go_wp2;go_ret;exact⟨rfl,an _ _⟩
 |false=>
  go_enter func51,ntmps51;go_wp2;go_ret;exact⟨rfl,an _ _⟩
theorem mJ {α:Type}{p:α->Bool}{xs:bm α}{y:α}{j:cd}(d:xs[j]?=qt y)(f:p y=qS):xs.all p=qS:=by
 rw[lk];exact⟨y,ce d,by simp[f]⟩
theorem yF (g:Fn)(w:World)(ao:du oA)(cap:cd)(xs:bm cj)(hn:g.c.nvars=g.vs.length)(hl:xs.length<=dl)(h:au w ao xs):
  zP 87 #[rh g.cells,ra ao xs.length cap] w (re (aG g.vs.length xs)):=by
 obtain⟨R,D⟩:=zE (aG g.vs.length xs);rw[D];have u:ca (R=xs.all (isVar g.vs.length)):=by rw[<-D];rfl
 unfold dl at hl;simp only[Fn.cells,nJ.cells];rw[hn];clear D hn;obtain⟨N,hN⟩:=zE w.heap.size;obtain⟨v,A⟩:=zE (w.alloc (rj #[qT g.c.nm,Z U g.c.par,ra g.c.varsA g.vs.length g.c.varsC,re g.c.rp,qT g.c.rto,Z U g.c.rcl,ra g.c.fromA g.c.nfrom g.c.fromC,ra g.c.insA g.c.ins.length g.c.insC] 38));have d:v.heap[N]?=qt (rj #[qT g.c.nm,Z U g.c.par,ra g.c.varsA g.vs.length g.c.varsC,re g.c.rp,qT g.c.rto,Z U g.c.rcl,ra g.c.fromA g.c.nfrom g.c.fromC,ra g.c.insA g.c.ins.length g.c.insC] 38 (0,0)):=by rw[<-A,<-hN];exact alloc_at _ _
 have rm:ca (v.cell? ⟨N,2,qu⟩=qt (ra g.c.varsA g.vs.length g.c.varsC)):=(bh _ _ _ _ _ _ d).trans rfl;have G:=iF A;have J:=zH G;have rn:=zH A;have H1:=zH (h.below G);obtain⟨n,rr⟩:=zE g.vs.length;rw[rr] at u rm rn⊢;clear d G A rr h;go_enter func87,ntmps87
 go_upto_region 1 with(fail)
 rw[rn.out]
 go_wp2_with fail
 go_loopw [5] (λk wr=>∃j n':cd,j<=xs.length/\k= Z U (j:cj)/\(∀x∈xs.take j,isVar n x=qv)/\wr=v.drewN n') (λk _=>xs.length-(intOf k).toNat)
 case atStart=>exact⟨0,0,cJ _,rfl,by simp,rfl⟩
 case round=>
  obtain⟨j,n',hj,rfl,f,rfl⟩:=hrel
  by_cases K:j<xs.length
  ·obtain⟨x,o⟩:∃y,xs[j]?=qt y:=⟨_,am K⟩
   obtain⟨g1,rv,rfl,rI,d⟩:=H1.out (by intro e;rw[e] at K;simp at K);have d0:v.cell? ⟨g1,rv+j,qu⟩=qt (Z U x):=d j x o;have c2:=rm.out;have rK:(j:cj)<(xs.length:cj):=by omega
   have HZ:=zH f;have HY:=zH o
   by_cases rl:x<0
   ·have q:ca (R=qS):=by unfold ca;rw[u.out];exact mJ HY.out (by unfold isVar;rw[cv (by omega)];rfl)
    have e0:decide (x<0)=qv:=dy rl;clear f o d;go_wp2
    go_quiet (fail)
    go_wp2;go_ret;rw[q.out];exact⟨rfl,j8 (j8 J.out _) _⟩
   by_cases rx:(n:cj)<=x
   ·have q:ca (R=qS):=by unfold ca;rw[u.out];exact mJ HY.out (by unfold isVar;rw[cv (show¬x<(n:cj) by omega),Bool.and_false])
    have e0:decide (x<0)=qS:=cv rl;clear f o d;go_wp2
    go_quiet (fail)
    go_wp2;go_ret;rw[q.out];exact⟨rfl,j8 (j8 J.out _) _⟩
   ·have HD:ca (isVar n x=qv):=by unfold ca isVar;rw[dy (by omega),dy (by omega)];rfl
    have e0:decide (x<0)=qS:=cv rl;have e1:decide ((n:cj)<=x)=qS:=cv rx;clear f o d;go_wp2
    go_quiet (fail)
    go_wp2;go_roundw
    case rel=>exact⟨j+1,_,by omega,by go_num,bY (p:=λz=>isVar n z=qv) HZ.out HY.out HD.out,rfl⟩
    case measure=>simp[intOf];omega
  ·have rB:j=xs.length:=by omega
   subst rB;rw[cT] at f;have q:ca (R=qv):=by unfold ca;rw[u.out,gC];exact f
   clear f;go_wp2;go_ret;rw[q.out];exact⟨rfl,j8 J.out _⟩
theorem yG {w:World}{B:cd}{xs:bm aw}(d:B=w.heap.size):aN (w.alloc (rj (xs.map em).toArray 9)) (qt ⟨B,0,qu⟩) xs:=by
 subst d;intro _;refine⟨w.heap.size,0,rfl,by simp,λk u f=> ?_⟩;rw[cH,World.cell?_alloc_new];simp[f]
theorem uU {α:Type}{p:α->Bool}{xs:bm α}(h:∀z∈xs,p z=qS):xs.any p=qS:=by
 rw[kp];intro x d;rw[h x d];simp
theorem wY (s:aw)(w:World):zP 89 #[qT s] w (re (fE.any λx=>x==s)):=by
 obtain⟨R,f⟩:=zE (fE.any λx=>x==s);rw[f];obtain⟨N,hN⟩:=zE w.heap.size;obtain⟨G,h⟩:=zE (w.alloc (rj #[qT ⟨#[43]⟩,qT ⟨#[45]⟩,qT ⟨#[42]⟩,qT ⟨#[47]⟩,qT ⟨#[37]⟩,qT ⟨#[60]⟩,qT ⟨#[60,61]⟩,qT ⟨#[62]⟩,qT ⟨#[62,61]⟩,qT ⟨#[61,61]⟩,qT ⟨#[33,61]⟩] 9));have hst:aN G (qt ⟨N,0,qu⟩) fE:=by rw[<-h];exact yG hN.symm
 have J:=iF h;obtain⟨xs,u⟩:=zE fE;have v:xs.length=11:=by rw[<-u];rfl
 rw[u] at hst f;have HS:=zH hst;have K:=zH f;have HB:=zH J;have rm:=zH h;clear hst f J h u;go_enter func89,ntmps89
 go_upto_region 2 with(fail)
 rw[rm.out]
 go_wp2_with fail
 go_loopw [4] (λk wr=>∃j:cd,j<=11/\k= Z U (j:cj)/\(∀x∈xs.take j,(x==s)=qS)/\wr=G) (λk _=>11-(intOf k).toNat)
 case atStart=>exact⟨0,cJ _,rfl,by simp,rfl⟩
 case round=>
  obtain⟨j,hj,rfl,d,rfl⟩:=hrel
  by_cases rr:j<11
  ·obtain⟨x,o⟩:∃y,xs[j]?=qt y:=⟨_,am (by omega)⟩
   obtain⟨g1,rv,hA,rx,A⟩:=HS.out (by intro e;rw[e] at v;simp at v);simp only[dc,eW,and_true] at hA;obtain⟨rfl,rfl⟩:=hA;have d0:wr.cell? ⟨N,j,qu⟩=qt (qT x):=by have:=A j x o;rwa [cH] at this
   have rB:(j:cj)<11:=by omega
   have HZ:=zH d;have HY:=zH o
   by_cases q:x=s
   ·subst q
    have D:ca (R=qv):=by unfold ca;rw[<-K.out,ju];exact⟨x,ce HY.out,by simp⟩
    clear d o A;go_wp2;go_ret;rw[D.out];exact⟨rfl,HB.out⟩
   ·have rl:¬(x.toList=s.toList):=λe=>q (eq_of_beq (by rw[eL,e];simp))
    have rI:(x.toList==s.toList)=qS:=by simpa using rl
    clear rl;have HD:ca ((x==s)=qS):=by unfold ca;simp[q]
    clear d o A q;go_wp2;exact⟨⟨j+1,by omega,by go_num,dF (p:=λz:aw=>z==s) HZ.out HY.out HD.out,by first|rfl|trivial⟩,by simp[intOf];omega⟩
  ·have rn:j=11:=by omega
   subst rn;rw[show(11:cd)=xs.length from v.symm,cT] at d;have D:ca (R=qS):=by unfold ca;rw[<-K.out];exact uU d
   clear d;go_wp2;go_ret;rw[D.out];exact⟨rfl,HB.out⟩
theorem uV (m:Mo)(p:Bool)(s:aw)(w:World)(hn:m.ss.length<=dl)(h:aH St.cells 4 w w.heap.size m.sA m.ss):
  zP 85 #[rh m.cells,rh #[re p,qT s]] w (re (m.known (p,s))):=by
 obtain⟨R,G⟩:=zE (m.known (p,s));rw[G];have f:ca (R=if p=qv then decide (0<=m.stIx s) else s==iS):=by rw[<-G];rfl
 have J:=zH (cB p qS s iS);obtain⟨N,K⟩:=zE w.heap.size;obtain⟨v,o⟩:=zE ((w.alloc (rj m.cells 25)).alloc (rj #[re p,qT s] 32));have y:=Eu o;have rx:v.heap.size=N+2:=by rw[<-o];simp[K]
 have rn:=vN o K;have rr:=xI o K;have HK:ca (∀W,aq v.heap.size v W->W.cell? ⟨N,0,qu⟩=qt (ra m.sA m.ss.length m.sC)/\W.cell? ⟨N,1,qu⟩=qt (ra m.fA m.fs.length m.fC)/\W.cell? ⟨N+1,0,qu⟩=qt (re p)/\W.cell? ⟨N+1,1,qu⟩=qt (qT s)/\aq w.heap.size w W):=λW hW=>by
  have q1:=(hW.block N (by omega)).trans rn;have q2:=(hW.block (N+1) (by omega)).trans rr;exact⟨by rw[bh _ _ _ _ _ _ q1];rfl,by rw[bh _ _ _ _ _ _ q1];rfl,by rw[bh _ _ _ _ _ _ q2];rfl,by rw[bh _ _ _ _ _ _ q2];rfl,y.trans (hW.mono y.size)⟩
 obtain⟨c0,c1,c2,c3,_⟩:=HK.out v (an _ _);have A:=zH (gH m s v hn (h.grow y));have q:=zH y;have rl:=o;simp only[Mo.cells] at rl A;have D:=zH rl;simp only[Mo.cells];clear y rn rr o rl h G;cases p with
 |false=>
  have he:(iS).toList=([]:bm UInt8):=by simp[ByteArray.toList,ByteArray.toList.loop]
  by_cases hs:s.toList=[]
  ·have d:ca (R=qv):=by unfold ca;rw[f.out,cw (by simp),eL,he,hs];rfl
   clear f J;go_enter pD,pi
   go_upto_region 1 with(fail)
   rw[D.out];go_wp2;go_ret;rw[d.out];exact⟨rfl,q.out⟩
  ·have d:ca (R=qS):=by unfold ca;rw[f.out,cw (by simp),eL,he,cR];exact hs
   clear f J;go_enter pD,pi
   go_upto_region 1 with(fail)
   rw[D.out];go_wp2;go_ret;rw[d.out];exact⟨rfl,q.out⟩
 |true=>
  have d:ca (R=decide (0<=m.stIx s)):=by unfold ca;rw[f.out,cI rfl]
  obtain⟨x,hx⟩:=zE (m.stIx s);rw[hx] at A d;clear f J hx
  by_cases rv:0<=x
  ·go_enter pD,pi
   go_upto_region 1 with(fail)
   rw[D.out]
   go_wp2_with fail
   go_at_call 84;refine A.out.mono ?_;rintro e w2 ⟨rfl,u⟩;have rm:=zH (q.out.trans (u.mono q.out.size));clear u c0 c1 c2 c3;go_wp2;go_ret;rw[d.out];exact⟨by simp[rv],rm.out⟩
  ·go_enter pD,pi
   go_upto_region 1 with(fail)
   rw[D.out]
   go_wp2_with fail
   go_at_call 84;refine A.out.mono ?_;rintro e w2 ⟨rfl,u⟩;have rm:=zH (q.out.trans (u.mono q.out.size));clear c0 c1 c2 c3;obtain⟨_,_,c2,c3,_⟩:=HK.out w2 u;clear u;go_wp2;go_ret;rw[d.out];exact⟨by simp,rm.out⟩
theorem gP (m:Mo)(g:Fn)(v f:cj)(w:World)(h:mr w m g)(hv:isVar g.vs.length v=qv)(hk:m.known (ak g.vs v)=qv):
  zP 127 #[rh m.cells,rh g.cells,Z U v,Z U f] w (.tuple #[sS (aD m g.vs v f).1,Z U (aD m g.vs v f).2]):=by
 have HS:ca (∀W s,aq w.heap.size w W->zP 84 #[rh m.cells,qT s] W (Z U (m.stIx s))):=
  λW s D=>gH m s W h.mo.ns (h.mo.below D).srow
 simp only[Mo.cells] at HS;have HF:ca (aD m g.vs v f=(if (ak g.vs v).1=qS then(bq,7) else match m.ss[(m.stIx (ak g.vs v).2).toNat]? with
  |none=>(bq,15)
  |some s=>if f<0 then(bq,15) else match s.fs[f.toNat]? with
   |none=>(bq,15)
   |some x=>(x.ty,0):Ty×cj)):=rfl
 have HJ:=zH h;have HK:=zH hk;obtain⟨kv,u,vo,xv,rfl,ua,sY,tG,rn,sq,sr⟩:=dw h.vars hv;obtain⟨⟨b,s⟩,ht⟩:∃t,ak g.vs (kv:cj)=t:=⟨_,rfl⟩
 rw[ht] at rn;simp only[lz] at rn;rw[<-rn.1] at sq;rw[<-rn.2] at sr;rw[ht] at HF HK;obtain⟨F,hF⟩:=zE (aD m g.vs (kv:cj) f);rw[hF] at HF⊢;have hst:=λw c hc=>
  cf (P:=ac) w 32 c #[re b,qT s] (by show _=qt 2;kernel_rfl) hc (by simp[br])
 have te:=h.nv;have tM:=h.vl;unfold dl at tM;have ub:(kv:cj)<(g.vs.length:cj):=by omega
 simp only[Mo.cells,Fn.cells,nJ.cells];rw[te,sY];clear h hv hk ht hF rn te sY;obtain⟨N,hN⟩:=zE w.heap.size;obtain⟨Wa,rr⟩:=zE (w.alloc (rj #[ra m.sA m.ss.length m.sC,ra m.fA m.fs.length m.fC] 25));have tf:=gQ rr hN;have rL:Wa.heap.size=N+1:=by rw[<-rr];simp[hN]
 have th:Wa.heap[N]?=qt (rj #[ra m.sA m.ss.length m.sC,ra m.fA m.fs.length m.fC] 25 (0,0)):=by rw[<-rr,<-hN];exact alloc_at _ _
 obtain⟨Wb,rv⟩:=zE (Wa.alloc (rj #[qT g.c.nm,Z U g.c.par,ra (qt ⟨u,vo,qu⟩) g.vs.length g.c.varsC,re g.c.rp,qT g.c.rto,Z U g.c.rcl,ra g.c.fromA g.c.nfrom g.c.fromC,ra g.c.insA g.c.ins.length g.c.insC] 38));have sx:aq (N+1) Wa Wb:=by rw[<-rv,<-rL];exact(an _ _).alloc (bp _) _
 have rN:Wb.heap.size=N+2:=by rw[<-rv];simp[rL]
 have ti:Wb.heap[N+1]?=qt (rj #[qT g.c.nm,Z U g.c.par,ra (qt ⟨u,vo,qu⟩) g.vs.length g.c.varsC,re g.c.rp,qT g.c.rto,Z U g.c.rcl,ra g.c.fromA g.c.nfrom g.c.fromC,ra g.c.insA g.c.ins.length g.c.insC] 38 (0,0)):=by rw[<-rv,<-rL];exact alloc_at _ _
 obtain⟨G,rx⟩:=zE (Wb.alloc (rj #[re qS,qT ⟨#[]⟩] 32));have rS:aq (N+2) Wb G:=by rw[<-rx,<-rN];exact(an _ _).alloc (bp _) _
 have sy:G.heap.size=N+3:=by rw[<-rx];simp[rN]
 have tj:G.heap[N+2]?=qt (rj #[re qS,qT ⟨#[]⟩] 32 (0,0)):=by rw[<-rx,<-rN];exact alloc_at _ _
 have tl:=(rS.block (N+1) (by omega)).trans ti;have tm:=(rS.block N (by omega)).trans ((sx.block N (by omega)).trans th);have rl:=(tf.trans (sx.mono (by omega))).trans (rS.mono (by omega));have c0:=zR tl 2 (ra (qt ⟨u,vo,qu⟩) g.vs.length g.c.varsC);have c1:G.cell? ⟨u,vo+kv*3,qu⟩=qt (re b):=by rw[rl.cell (p:=⟨u,_,qu⟩) (show u<N by omega)];exact sq
 have c2:G.cell? ⟨u,vo+kv*3+1,qu⟩=qt (qT s):=by rw[rl.cell (p:=⟨u,_,qu⟩) (show u<N by omega)];exact sr
 obtain⟨d,rB⟩:=zE (G.alloc (rj #[re b,qT s] 32));have se:=iF rB;have uc:d.heap.size=N+4:=by rw[<-rB];simp[sy]
 have tn:=(se.block N (by omega)).trans tm;have sB:=(se.block (N+2) (by omega)).trans tj;have tp:d.heap[N+3]?=qt (rj #[re b,qT s] 32 (0,0)):=by rw[<-rB,<-sy];exact alloc_at _ _
 have sf:ca (aq N w d):=rl.trans (se.mono (by omega));have y:ca (∀W,aq d.heap.size d W->W.cell? ⟨N,0,qu⟩=qt (ra m.sA m.ss.length m.sC)/\W.cell? ⟨N,1,qu⟩=qt (ra m.fA m.fs.length m.fC)/\W.cell? ⟨N+3,0,qu⟩=qt (re b)/\W.cell? ⟨N+3,1,qu⟩=qt (qT s)/\
   W.cell? ⟨N+2,0,qu⟩=qt (re qS)/\W.cell? ⟨N+2,1,qu⟩=qt (qT ⟨#[]⟩)/\W.frozen? ⟨N+2,0,qu⟩=qS/\W.frozen? ⟨N+2,1,qu⟩=qS/\N+2<W.heap.size):=by
  intro W D;have q3:=(D.block N (by omega)).trans tn;have q4:=(D.block (N+2) (by omega)).trans sB;have q5:=(D.block (N+3) (by omega)).trans tp;refine⟨?_, ?_, ?_, ?_, ?_, ?_, ?_, ?_,(bb.1 q4).1⟩
  ·rw[bh _ _ _ _ _ _ q3];rfl
  ·rw[bh _ _ _ _ _ _ q3];rfl
  ·rw[bh _ _ _ _ _ _ q5];rfl
  ·rw[bh _ _ _ _ _ _ q5];rfl
  ·rw[bh _ _ _ _ _ _ q4];rfl
  ·rw[bh _ _ _ _ _ _ q4];rfl
  ·exact dg _ _ _ _ _ q4
  ·exact dg _ _ _ _ _ q4
 have sE:ca (∀W,aq d.heap.size d W->W.heap[N+2]?=qt (rj #[re qS,qT ⟨#[]⟩] 32 (0,0))):=λW D=>(D.block (N+2) (by omega)).trans sB;have J:=zH hN;have tr:=zH rB;have tt:ca (((w.alloc (rj #[ra m.sA m.ss.length m.sC,ra m.fA m.fs.length m.fC] 25)).alloc (rj #[qT g.c.nm,Z U g.c.par,ra (qt ⟨u,vo,qu⟩) g.vs.length g.c.varsC,re g.c.rp,qT g.c.rto,Z U g.c.rcl,ra g.c.fromA g.c.nfrom g.c.fromC,ra g.c.insA g.c.ins.length g.c.insC] 38)).alloc (rj #[re qS,qT ⟨#[]⟩] 32)=G):=by unfold ca;rw[rr,rv,rx]
 clear rr tf rL th rv sx rN ti rx rS tm tl tj rl rB se tn sB tp sq sr tG;go_enter func127,ntmps127
 go_upto_region 1 with(fail)
 rw[tt.out];clear tt hN
 go_upto_region 2 with(fail)
 rw[tr.out];clear tr hst c0 c1 c2 sy;obtain⟨k0,k1,k2,k3,k4,k5,k6,k7,tP⟩:=y.out d (an _ _);cases b with
 |false=>
  have K:ca (F=(bq,7)):=by rw[HF.out];rfl
  clear HF;go_wp2;(try simp only[cL,Exit.then]);refine da (aJ rfl _ _ (N+2) 32 _ (0,0) _ rfl (dG (sE.out d (an _ _))) dr (by kernel_rfl)) rfl ?_;rw[K.out,J.out];exact⟨rfl,(sf.out.setCell (by show N<=N+2;omega) _).setCell (by show N<=N+2;omega) _⟩
 |true=>
  obtain⟨k,o,sL,A⟩:=wM HK.out rfl;obtain⟨b0,sR,hA,tR,tv⟩:=HJ.out.mo.srow (by intro e;rw[e] at A;simp at A);have ud:=(bl.1 A).1;have ue:(k:cj)<(m.ss.length:cj):=by omega
  have tS:b0<N:=by have:=J.out;omega
  have m4:∀p:BW d,p.w.cell? ⟨b0,sR+k*4+1,qu⟩=qt (ra o.s.fA o.fs.length o.s.fC):=λp=>by
   rw[(sf.out.trans (p.h.mono (by omega))).cell (p:=⟨b0,_,qu⟩) tS];have:=tv k o A 1 _ rfl;rw[(HJ.out.mo.sin o (ce A)).nf] at this;exact this
  have tz:ca (∀p:BW d,zP 84 #[rh #[ra (qt ⟨b0,sR,qu⟩) m.ss.length m.sC,ra m.fA m.fs.length m.fC],qT s] p.w (Z U (k:cj))):=by
   intro p;have:=HS.out p.w s (by rw[J.out];exact sf.out.trans (p.h.mono (by omega)));rw[sL,hA] at this;exact this
  have R:ca (F=(if f<0 then(bq,15) else match o.fs[f.toNat]? with
   |none=>(bq,15)
   |some x=>(x.ty,0):Ty×cj)):=by
   unfold ca;rw[HF.out,cw (by simp)]
   show(match m.ss[(m.stIx s).toNat]? with
    |none=>(bq,15)
    |some s=>if f<0 then(bq,15) else match s.fs[f.toNat]? with
     |none=>(bq,15)
     |some x=>(x.ty,0):Ty×cj)=_
   rw[sL,ep,A]
  have tA:ca (o.inn w):=HJ.out.mo.sin o (ce A);have tU:=tA.out.len;unfold dl at tU;rw[hA] at k0 y;have m0:∀p:BW d,p.w.cell? ⟨N,0,qu⟩=qt (ra (qt ⟨b0,sR,qu⟩) m.ss.length m.sC):=λp=>(y.out p.w p.h).1;have m1:∀p:BW d,p.w.cell? ⟨N,1,qu⟩=qt (ra m.fA m.fs.length m.fC):=λp=>(y.out p.w p.h).2.1;have m2:∀p:BW d,p.w.cell? ⟨N+3,0,qu⟩=qt (re qv):=λp=>(y.out p.w p.h).2.2.1;have m3:∀p:BW d,p.w.cell? ⟨N+3,1,qu⟩=qt (qT s):=λp=>(y.out p.w p.h).2.2.2.1;clear HF HK sL A hA tR tv HJ HS
  go_wp2_with fail
  clear k0 k1 k2 k3 k4 k5 k6 k7 tP;refine zQ ?_
  repeat (go_big_quiet_step (first|(go_at_call 84;exact aV (tz.out _))))
  refine db ?_;rintro _ ⟨p,rfl⟩;obtain⟨rm,sk⟩:=p
  show Exit.then _ _ _ _ rm
  obtain⟨_,_,_,_,j4,j5,j6,j7,ur⟩:=y.out rm sk;have tB:=sE.out rm sk;have rI:ca (aq N w rm):=sf.out.trans (sk.mono (by omega));have sT:=zH tB;clear sk y sE tz tB m0 m1 m2 m3 m4
  by_cases sn:f<0
  ·have K:ca (F=(bq,15)):=by unfold ca;rw[R.out,cI sn]
   clear R;go_wp2;(try simp only[cL,Exit.then]);refine da (aJ rfl _ _ (N+2) 32 _ (0,0) _ rfl (dG sT.out) dr (by kernel_rfl)) rfl ?_;rw[K.out,J.out];exact⟨rfl,(rI.out.setCell (by show N<=N+2;omega) _).setCell (by show N<=N+2;omega) _⟩
  obtain⟨q,rfl⟩:∃q:cd,f=(q:cj):=⟨f.toNat,by omega⟩
  rw[cw sn,ep] at R
  by_cases rK:q<o.fs.length
  ·obtain⟨x,hx⟩:∃x,o.fs[q]?=qt x:=⟨_,am rK⟩
   have K:ca (F=(x.ty,0)):=by unfold ca;rw[R.out,hx]
   obtain⟨b1,tD,hA1,rl,sX⟩:=tA.out.row (by intro e;rw[e] at rK;simp at rK);have tE:b1<N:=by have:=J.out;omega
   have e1:rm.cell? ⟨b1,tD+q*5+1,qu⟩=qt (re x.ptr):=by rw[rI.out.cell (p:=⟨b1,_,qu⟩) tE];exact sX q x hx 1 _ rfl
   have e2:rm.cell? ⟨b1,tD+q*5+1+1,qu⟩=qt (qT x.tgt):=by rw[rI.out.cell (p:=⟨b1,_,qu⟩) tE];exact sX q x hx 2 _ rfl
   have tW:(q:cj)<(o.fs.length:cj):=by omega
   rw[hA1];clear R hx sX rl hA1 sn rK;go_wp2;(try simp only[cL,Exit.then]);refine da (aJ rfl _ _ (N+2) 32 _ (0,0) _ rfl (dG sT.out) dr (by kernel_rfl)) rfl ?_;rw[K.out,J.out];exact⟨rfl,(rI.out.setCell (by show N<=N+2;omega) _).setCell (by show N<=N+2;omega) _⟩
  ·have K:ca (F=(bq,15)):=by unfold ca;rw[R.out,lA (by omega)]
   have tW:(o.fs.length:cj)<=(q:cj):=by omega
   clear R sn rK;go_wp2;(try simp only[cL,Exit.then]);refine da (aJ rfl _ _ (N+2) 32 _ (0,0) _ rfl (dG sT.out) dr (by kernel_rfl)) rfl ?_;rw[K.out,J.out];exact⟨rfl,(rI.out.setCell (by show N<=N+2;omega) _).setCell (by show N<=N+2;omega) _⟩
theorem Av {w d:World}{a b c:cG bw}{f o q:ge}(h:((w.alloc (rj a f)).alloc (rj b o)).alloc (rj c q)=d):
  aq w.heap.size w d/\d.heap.size=w.heap.size+3/\d.heap[w.heap.size]?=qt (rj a f (0,0))/\d.heap[w.heap.size+1]?=qt (rj b o (0,0))/\d.heap[w.heap.size+2]?=qt (rj c q (0,0)):=by
 subst h;refine⟨(((an _ _).alloc (bp _) _).alloc (by simp) _).alloc (by simp;omega) _,by simp, ?_, ?_, ?_⟩
 ·rw[bt _ _ _ (by simp;omega),bt _ _ _ (by simp)];exact alloc_at _ _
 ·rw[bt _ _ _ (by simp)]
  have:=alloc_at (w.alloc (rj a f)) (rj b o)
  rwa [World.size_alloc] at this
 ·have:=alloc_at ((w.alloc (rj a f)).alloc (rj b o)) (rj c q)
  rwa [World.size_alloc,World.size_alloc] at this
def gc (g:Fn)(d:du oA):cG bw:=#[qT g.c.nm,Z U g.c.par,ra d g.vs.length g.c.varsC,re g.c.rp,qT g.c.rto,Z U g.c.rcl,ra g.c.fromA g.c.nfrom g.c.fromC,ra g.c.insA g.c.ins.length g.c.insC]
theorem jl {g:Fn}{d:du oA}(h:g.c.nvars=g.vs.length)(e:g.c.varsA=d):g.cells=gc g d:=by
 unfold Fn.cells nJ.cells gc;rw[h,e]
theorem uW (m:Mo)(g:Fn)(i:Ins)(w:World)(h:mr w m g)(rB:i.op=7)(ha:isVar g.vs.length i.a=qv)(ho:isVar g.vs.length i.d=qv)(hk:m.known (ak g.vs i.a)=qv):
  zP 90 #[rh m.cells,rh g.cells,rh i.cells] w (Z U (bN m g.vs i i.d qS)):=by
 have v:ca (∀W,aq w.heap.size w W->zP 127 #[rh m.cells,rh g.cells,Z U i.a,Z U i.f] W (.tuple #[sS (aD m g.vs i.a i.f).1,Z U (aD m g.vs i.a i.f).2])):=λW hW=>gP m g i.a i.f W (h.below hW) ha hk;have G:ca (bN m g.vs i i.d qS=if (aD m g.vs i.a i.f).2≠0 then(aD m g.vs i.a i.f).2 else bv ((aD m g.vs i.a i.f).1==ak g.vs i.d&&(aD m g.vs i.a i.f).1.1==qS) 7):=rfl;obtain⟨ka,o,J,q,rl,tD,se,tE,tG,sR,sT⟩:=dw h.vars ha;obtain⟨kd,ue,ur,u,rI,tM,sf,_,sX,sY,te⟩:=dw h.vars ho;rw[se] at sf;simp only[dc,eW,and_true] at sf;obtain⟨rfl,rfl⟩:=sf;rw[sX] at G;obtain⟨R,hR⟩:=zE (bN m g.vs i i.d qS);rw[hR] at G⊢;obtain⟨⟨⟨b,s⟩,z⟩,K⟩:∃F,aD m g.vs i.a i.f=F:=⟨_,rfl⟩
 rw[K] at G v;unfold sS at v;have hst:∀(w:World)(c:cG bw),c.size=2->(cU ⟨w.heap.size,0,qu⟩ [re b,qT s] 0).run ac (w.alloc (rj c 32))= .ok () (w.alloc (rj #[re b,qT s] 32)):=λw c hc=>
  cf (P:=ac) w 32 c #[re b,qT s] (by show _=qt 2;kernel_rfl) hc (by simp[br])
 have tf:∀(w:World)(c:cG bw),c.size=2->(cU ⟨w.heap.size,0,qu⟩ [re q.ptr,qT q.tgt] 0).run ac (w.alloc (rj c 32))= .ok () (w.alloc (rj #[re q.ptr,qT q.tgt] 32)):=λw c hc=>
  cf (P:=ac) w 32 c #[re q.ptr,qT q.tgt] (by show _=qt 2;kernel_rfl) hc (by simp[br])
 have th:=h.nv;have tP:=h.vl;unfold dl at tP;have uv:(ka:cj)<(g.vs.length:cj):=by omega
 have ux:(kd:cj)<(g.vs.length:cj):=by omega
 have ti:=jl th se;rw[ti] at v⊢;simp only[Mo.cells,Ins.cells] at v⊢;rw[rl] at v;rw[rB,rl,rI];simp only[gc] at v⊢;obtain⟨N,hN⟩:=zE w.heap.size;obtain⟨W1,sk⟩:=zE (((w.alloc (rj m.cells 25)).alloc (rj (gc g (qt ⟨o,J,qu⟩)) 38)).alloc (rj i.cells 42));obtain⟨rK,sn,r0,r1,r2⟩:=Av sk;rw[hN] at rK sn r0 r1 r2;have tR:ca (W1.heap[N+1]?=qt (rj #[qT g.c.nm,Z U g.c.par,ra (qt ⟨o,J,qu⟩) g.vs.length g.c.varsC,re g.c.rp,qT g.c.rto,Z U g.c.rcl,ra g.c.fromA g.c.nfrom g.c.fromC,ra g.c.insA g.c.ins.length g.c.insC] 38 (0,0))):=r1;have HK:ca (∀W,aq (N+3) W1 W->W.cell? ⟨N+1,2,qu⟩=qt (ra (qt ⟨o,J,qu⟩) g.vs.length g.c.varsC)/\W.cell? ⟨N+2,0,qu⟩=qt (Z U 7)/\W.cell? ⟨N+2,2,qu⟩=qt (Z U (ka:cj))/\W.cell? ⟨N+2,1,qu⟩=qt (Z U (kd:cj))/\
   W.cell? ⟨o,J+ka*3,qu⟩=qt (re q.ptr)/\W.cell? ⟨o,J+ka*3+1,qu⟩=qt (qT q.tgt)/\W.cell? ⟨o,J+kd*3,qu⟩=qt (re u.ptr)/\W.cell? ⟨o,J+kd*3+1,qu⟩=qt (qT u.tgt)/\aq N w W):=λW hW=>by
  have p1:=(hW.block (N+1) (by omega)).trans r1;have p2:=(hW.block (N+2) (by omega)).trans r2;have D:=rK.trans (hW.mono (by omega));refine⟨?_, ?_, ?_, ?_, ?_, ?_, ?_, ?_,D⟩
  ·rw[bh _ _ _ _ _ _ p1];rfl
  ·rw[bh _ _ _ _ _ _ p2,<-rB];rfl
  ·rw[bh _ _ _ _ _ _ p2,<-rl];rfl
  ·rw[bh _ _ _ _ _ _ p2,<-rI];rfl
  ·rw[D.cell (p:=⟨o,_,qu⟩) (show o<N by omega)];exact sR
  ·rw[D.cell (p:=⟨o,_,qu⟩) (show o<N by omega)];exact sT
  ·rw[D.cell (p:=⟨o,_,qu⟩) (show o<N by omega)];exact sY
  ·rw[D.cell (p:=⟨o,_,qu⟩) (show o<N by omega)];exact te
 have c0:=zR r0 0 (ra m.sA m.ss.length m.sC);have c1:=zR r0 1 (ra m.fA m.fs.length m.fC);have c2:W1.cell? ⟨N+2,2,qu⟩=qt (Z U (ka:cj)):=by rw[bh _ _ _ _ _ _ r2,<-rl];rfl
 have c3:=zR r2 4 (Z U i.f);have rv:=sk;simp only[Mo.cells,Ins.cells,gc] at rv;rw[rB,rl] at rv;rw[rI] at rv;have tj:=zH rv;have HN:=zH hN;have tS:=zH rK;have tl:=zH sn;rw[hN] at v;clear h ha ho hk rB rl rI se tE tG sX sR sT sY te hR K ti sk rv rK r0 r1 r2 th tM tD sn;go_enter pH,pj
 go_upto_region 1 with(fail)
 rw[tj.out]
 go_upto_region 2 with(first
  |(refine bo rfl 38 _ rfl (N+1) rfl 38 _ (0,0) _ tR.out cy rfl (by kernel_rfl) ?_)
  |(go_at_call 127;refine(v.out _ tS.out).mono ?_;rintro e w2 ⟨rfl,tU⟩;have sq:=zH tU))
 clear c0 c1 c2 c3 tj;obtain⟨T,hT⟩:=zE w2.heap.size;obtain⟨W3,rm⟩:=zE (w2.alloc (rj #[re b,qT s] 32));rw[hT,rm];have va:N+3<=T:=by have:=sq.out.size;rw[tl.out] at this;omega
 have sr:aq (N+3) W1 w2:=by have:=sq.out;rwa [tl.out] at this
 have rn:aq (N+3) W1 W3:=by rw[<-rm];exact sr.alloc (by omega) _
 have tm:W3.heap.size=T+1:=by rw[<-rm];simp[hT]
 have sx:W3.heap[T]?=qt (rj #[re b,qT s] 32 (0,0)):=by rw[<-rm,<-hT];exact alloc_at _ _
 by_cases K:z=0
 ·subst K
  have rL:ca (R=bv (((b,s):Ty)==(u.ptr,u.tgt)&&b==qS) 7):=by unfold ca;rw[G.out,cw (by simp)]
  obtain⟨y,rr⟩:=zE (W3.alloc (rj #[re q.ptr,qT q.tgt] 32));have tn:aq (N+3) W1 y:=by rw[<-rr];exact rn.alloc (by omega) _
  have tp:y.heap.size=T+2:=by rw[<-rr];simp[tm]
  have tr:y.heap[T+1]?=qt (rj #[re q.ptr,qT q.tgt] 32 (0,0)):=by rw[<-rr,<-tm];exact alloc_at _ _
  have tt:y.heap[T]?=qt (rj #[re b,qT s] 32 (0,0)):=by rw[<-rr,bt _ _ _ (by omega)];exact sx
  obtain⟨c0,c1,c2,c3,c4,c5,c6,c7,_⟩:=HK.out W3 rn;have tv:=zH rr;have tz:=zH tn;have rx:=zH tr;have tW:=zH tt;have ua:=zH tp;have vc:=zH rn;obtain⟨d,sy⟩:=zE (((b,s):Ty)==(u.ptr,u.tgt));have vd:∀w,(fS 10000 32 (rh #[re b,qT s]) (rh #[re u.ptr,qT u.tgt])).run ac w= .ok d w:=λw=>by rw[cB,sy]
  rw[sy] at rL;have d0:((0:cj) != 0)=qS:=rfl;clear hst rr tn tr tt tp rm rn sr sq sy G v
  go_upto_region 5 with(fail)
  rw[tv.out];clear c0 c1 c2 c3 c4 c5 c6 c7 tf sx tv;obtain⟨c0,c1,c2,c3,c4,c5,c6,c7,_⟩:=HK.out y tz.out;have k0:=zR rx.out 0 (re q.ptr);have k1:=zR rx.out 1 (qT q.tgt);have f0:y.frozen? ⟨T+1,0,qu⟩=qS:=dg _ _ _ _ _ rx.out;have f1:y.frozen? ⟨T+1,1,qu⟩=qS:=dg _ _ _ _ _ rx.out;have ub:T+1<y.heap.size:=by have:=ua.out;omega
  go_upto_region 8 with(fail)
  obtain⟨A,rN⟩:=zE ((y.setCell ⟨T+1,0,qu⟩ (re u.ptr)).setCell ⟨T+1,1,qu⟩ (qT u.tgt));rw[rN];have sB:A.heap[T+1]?=qt (rj #[re u.ptr,qT u.tgt] 32 (0,0)):=by rw[<-rN];exact dG rx.out
  have sE:aq (T+1) y A:=by rw[<-rN];exact((an _ _).setCell (by show T+1<=T+1;omega) _).setCell (by show T+1<=T+1;omega) _
  have sL:A.heap[T]?=qt (rj #[re b,qT s] 32 (0,0)):=(sE.block T (by omega)).trans tW.out;have tA:aq (N+3) W1 A:=tz.out.trans (sE.mono (by omega));clear c0 c1 c2 c3 c4 c5 c6 c7 k0 k1 f0 f1 ub rN;obtain⟨_,c1,_,_,_,_,_,_,D⟩:=HK.out A tA;have k0:=zR sB 0 (re u.ptr);have k1:=zR sB 1 (qT u.tgt);have k2:=zR sL 0 (re b);have k3:=zR sL 1 (qT s);have rS:=zH D;have HO:ca (∀x,zP 51 #[re x,Z U 7] A (Z U (bv (!x) 7))):=λx=>aX x 7 A;have uc:ca (∀w9,aq A.heap.size A w9->aq N w w9):=λw9 h9=>rS.out.trans (h9.mono (by have:=rS.out.size;rw[HN.out] at this;exact this));clear sB sL sE tA D;cases d<;>cases b<;>(go_wp2_with (go_at_call 51;refine(HO.out _).mono ?_;rintro e w7 ⟨rfl,tB⟩;have ud:=zH tB;clear tB);go_ret;rw[rL.out,HN.out];exact⟨rfl,uc.out _ ud.out⟩)
 ·have rL:ca (R=z):=by unfold ca;rw[G.out,cI K]
  have vf:(z != 0)=qv:=by rw[nt];exact K
  have rS:ca (aq N w W3):=(HK.out W3 rn).2.2.2.2.2.2.2.2;clear G v HK K hst tf sx rn sr rm;go_wp2;go_ret;rw[rL.out,HN.out];exact⟨rfl,rS.out⟩
theorem uX (m:Mo)(g:Fn)(i:Ins)(w:World)(h:mr w m g)(rB:i.op=8)(ha:isVar g.vs.length i.a=qv)(ho:isVar g.vs.length i.b=qv)(hk:m.known (ak g.vs i.a)=qv):
  zP 90 #[rh m.cells,rh g.cells,rh i.cells] w (Z U (bN m g.vs i i.b qS)):=by
 have v:ca (∀W,aq w.heap.size w W->zP 127 #[rh m.cells,rh g.cells,Z U i.a,Z U i.f] W (.tuple #[sS (aD m g.vs i.a i.f).1,Z U (aD m g.vs i.a i.f).2])):=λW hW=>gP m g i.a i.f W (h.below hW) ha hk;have G:ca (bN m g.vs i i.b qS=if (aD m g.vs i.a i.f).2≠0 then(aD m g.vs i.a i.f).2 else bv ((aD m g.vs i.a i.f).1==ak g.vs i.b&&(aD m g.vs i.a i.f).1.1==qS) 7):=rfl;obtain⟨ka,o,J,q,rl,tD,se,tE,tG,sR,sT⟩:=dw h.vars ha;obtain⟨kd,ue,ur,u,rI,tM,sf,_,sX,sY,te⟩:=dw h.vars ho;rw[se] at sf;simp only[dc,eW,and_true] at sf;obtain⟨rfl,rfl⟩:=sf;rw[sX] at G;obtain⟨R,hR⟩:=zE (bN m g.vs i i.b qS);rw[hR] at G⊢;obtain⟨⟨⟨b,s⟩,z⟩,K⟩:∃F,aD m g.vs i.a i.f=F:=⟨_,rfl⟩
 rw[K] at G v;unfold sS at v;have hst:∀(w:World)(c:cG bw),c.size=2->(cU ⟨w.heap.size,0,qu⟩ [re b,qT s] 0).run ac (w.alloc (rj c 32))= .ok () (w.alloc (rj #[re b,qT s] 32)):=λw c hc=>
  cf (P:=ac) w 32 c #[re b,qT s] (by show _=qt 2;kernel_rfl) hc (by simp[br])
 have tf:∀(w:World)(c:cG bw),c.size=2->(cU ⟨w.heap.size,0,qu⟩ [re q.ptr,qT q.tgt] 0).run ac (w.alloc (rj c 32))= .ok () (w.alloc (rj #[re q.ptr,qT q.tgt] 32)):=λw c hc=>
  cf (P:=ac) w 32 c #[re q.ptr,qT q.tgt] (by show _=qt 2;kernel_rfl) hc (by simp[br])
 have th:=h.nv;have tP:=h.vl;unfold dl at tP;have uv:(ka:cj)<(g.vs.length:cj):=by omega
 have ux:(kd:cj)<(g.vs.length:cj):=by omega
 have ti:=jl th se;rw[ti] at v⊢;simp only[Mo.cells,Ins.cells] at v⊢;rw[rl] at v;rw[rB,rl,rI];simp only[gc] at v⊢;obtain⟨N,hN⟩:=zE w.heap.size;obtain⟨W1,sk⟩:=zE (((w.alloc (rj m.cells 25)).alloc (rj (gc g (qt ⟨o,J,qu⟩)) 38)).alloc (rj i.cells 42));obtain⟨rK,sn,r0,r1,r2⟩:=Av sk;rw[hN] at rK sn r0 r1 r2;have tR:ca (W1.heap[N+1]?=qt (rj #[qT g.c.nm,Z U g.c.par,ra (qt ⟨o,J,qu⟩) g.vs.length g.c.varsC,re g.c.rp,qT g.c.rto,Z U g.c.rcl,ra g.c.fromA g.c.nfrom g.c.fromC,ra g.c.insA g.c.ins.length g.c.insC] 38 (0,0))):=r1;have HK:ca (∀W,aq (N+3) W1 W->W.cell? ⟨N+1,2,qu⟩=qt (ra (qt ⟨o,J,qu⟩) g.vs.length g.c.varsC)/\W.cell? ⟨N+2,0,qu⟩=qt (Z U 8)/\W.cell? ⟨N+2,2,qu⟩=qt (Z U (ka:cj))/\W.cell? ⟨N+2,3,qu⟩=qt (Z U (kd:cj))/\
   W.cell? ⟨o,J+ka*3,qu⟩=qt (re q.ptr)/\W.cell? ⟨o,J+ka*3+1,qu⟩=qt (qT q.tgt)/\W.cell? ⟨o,J+kd*3,qu⟩=qt (re u.ptr)/\W.cell? ⟨o,J+kd*3+1,qu⟩=qt (qT u.tgt)/\aq N w W):=λW hW=>by
  have p1:=(hW.block (N+1) (by omega)).trans r1;have p2:=(hW.block (N+2) (by omega)).trans r2;have D:=rK.trans (hW.mono (by omega));refine⟨?_, ?_, ?_, ?_, ?_, ?_, ?_, ?_,D⟩
  ·rw[bh _ _ _ _ _ _ p1];rfl
  ·rw[bh _ _ _ _ _ _ p2,<-rB];rfl
  ·rw[bh _ _ _ _ _ _ p2,<-rl];rfl
  ·rw[bh _ _ _ _ _ _ p2,<-rI];rfl
  ·rw[D.cell (p:=⟨o,_,qu⟩) (show o<N by omega)];exact sR
  ·rw[D.cell (p:=⟨o,_,qu⟩) (show o<N by omega)];exact sT
  ·rw[D.cell (p:=⟨o,_,qu⟩) (show o<N by omega)];exact sY
  ·rw[D.cell (p:=⟨o,_,qu⟩) (show o<N by omega)];exact te
 have c0:=zR r0 0 (ra m.sA m.ss.length m.sC);have c1:=zR r0 1 (ra m.fA m.fs.length m.fC);have c2:W1.cell? ⟨N+2,2,qu⟩=qt (Z U (ka:cj)):=by rw[bh _ _ _ _ _ _ r2,<-rl];rfl
 have c3:=zR r2 4 (Z U i.f);have rv:=sk;simp only[Mo.cells,Ins.cells,gc] at rv;rw[rB,rl] at rv;rw[rI] at rv;have tj:=zH rv;have HN:=zH hN;have tS:=zH rK;have tl:=zH sn;rw[hN] at v;clear h ha ho hk rB rl rI se tE tG sX sR sT sY te hR K ti sk rv rK r0 r1 r2 th tM tD sn;go_enter pH,pj
 go_upto_region 1 with(fail)
 rw[tj.out]
 go_upto_region 2 with(first
  |(refine bo rfl 38 _ rfl (N+1) rfl 38 _ (0,0) _ tR.out cy rfl (by kernel_rfl) ?_)
  |(go_at_call 127;refine(v.out _ tS.out).mono ?_;rintro e w2 ⟨rfl,tU⟩;have sq:=zH tU))
 clear c0 c1 c2 c3 tj;obtain⟨T,hT⟩:=zE w2.heap.size;obtain⟨W3,rm⟩:=zE (w2.alloc (rj #[re b,qT s] 32));rw[hT,rm];have va:N+3<=T:=by have:=sq.out.size;rw[tl.out] at this;omega
 have sr:aq (N+3) W1 w2:=by have:=sq.out;rwa [tl.out] at this
 have rn:aq (N+3) W1 W3:=by rw[<-rm];exact sr.alloc (by omega) _
 have tm:W3.heap.size=T+1:=by rw[<-rm];simp[hT]
 have sx:W3.heap[T]?=qt (rj #[re b,qT s] 32 (0,0)):=by rw[<-rm,<-hT];exact alloc_at _ _
 by_cases K:z=0
 ·subst K
  have rL:ca (R=bv (((b,s):Ty)==(u.ptr,u.tgt)&&b==qS) 7):=by unfold ca;rw[G.out,cw (by simp)]
  obtain⟨y,rr⟩:=zE (W3.alloc (rj #[re q.ptr,qT q.tgt] 32));have tn:aq (N+3) W1 y:=by rw[<-rr];exact rn.alloc (by omega) _
  have tp:y.heap.size=T+2:=by rw[<-rr];simp[tm]
  have tr:y.heap[T+1]?=qt (rj #[re q.ptr,qT q.tgt] 32 (0,0)):=by rw[<-rr,<-tm];exact alloc_at _ _
  have tt:y.heap[T]?=qt (rj #[re b,qT s] 32 (0,0)):=by rw[<-rr,bt _ _ _ (by omega)];exact sx
  obtain⟨c0,c1,c2,c3,c4,c5,c6,c7,_⟩:=HK.out W3 rn;have tv:=zH rr;have tz:=zH tn;have rx:=zH tr;have tW:=zH tt;have ua:=zH tp;have vc:=zH rn;obtain⟨d,sy⟩:=zE (((b,s):Ty)==(u.ptr,u.tgt));have vd:∀w,(fS 10000 32 (rh #[re b,qT s]) (rh #[re u.ptr,qT u.tgt])).run ac w= .ok d w:=λw=>by rw[cB,sy]
  rw[sy] at rL;have d0:((0:cj) != 0)=qS:=rfl;clear hst rr tn tr tt tp rm rn sr sq sy G v
  go_upto_region 5 with(fail)
  rw[tv.out];clear c0 c1 c2 c3 c4 c5 c6 c7 tf sx tv;obtain⟨c0,c1,c2,c3,c4,c5,c6,c7,_⟩:=HK.out y tz.out;have k0:=zR rx.out 0 (re q.ptr);have k1:=zR rx.out 1 (qT q.tgt);have f0:y.frozen? ⟨T+1,0,qu⟩=qS:=dg _ _ _ _ _ rx.out;have f1:y.frozen? ⟨T+1,1,qu⟩=qS:=dg _ _ _ _ _ rx.out;have ub:T+1<y.heap.size:=by have:=ua.out;omega
  go_upto_region 8 with(fail)
  obtain⟨A,rN⟩:=zE ((y.setCell ⟨T+1,0,qu⟩ (re u.ptr)).setCell ⟨T+1,1,qu⟩ (qT u.tgt));rw[rN];have sB:A.heap[T+1]?=qt (rj #[re u.ptr,qT u.tgt] 32 (0,0)):=by rw[<-rN];exact dG rx.out
  have sE:aq (T+1) y A:=by rw[<-rN];exact((an _ _).setCell (by show T+1<=T+1;omega) _).setCell (by show T+1<=T+1;omega) _
  have sL:A.heap[T]?=qt (rj #[re b,qT s] 32 (0,0)):=(sE.block T (by omega)).trans tW.out;have tA:aq (N+3) W1 A:=tz.out.trans (sE.mono (by omega));clear c0 c1 c2 c3 c4 c5 c6 c7 k0 k1 f0 f1 ub rN;obtain⟨_,c1,_,_,_,_,_,_,D⟩:=HK.out A tA;have k0:=zR sB 0 (re u.ptr);have k1:=zR sB 1 (qT u.tgt);have k2:=zR sL 0 (re b);have k3:=zR sL 1 (qT s);have rS:=zH D;have HO:ca (∀x,zP 51 #[re x,Z U 7] A (Z U (bv (!x) 7))):=λx=>aX x 7 A;have uc:ca (∀w9,aq A.heap.size A w9->aq N w w9):=λw9 h9=>rS.out.trans (h9.mono (by have:=rS.out.size;rw[HN.out] at this;exact this));clear sB sL sE tA D;cases d<;>cases b<;>(go_wp2_with (go_at_call 51;refine(HO.out _).mono ?_;rintro e w7 ⟨rfl,tB⟩;have ud:=zH tB;clear tB);go_ret;rw[rL.out,HN.out];exact⟨rfl,uc.out _ ud.out⟩)
 ·have rL:ca (R=z):=by unfold ca;rw[G.out,cI K]
  have vf:(z != 0)=qv:=by rw[nt];exact K
  have rS:ca (aq N w W3):=(HK.out W3 rn).2.2.2.2.2.2.2.2;clear G v HK K hst tf sx rn sr rm;go_wp2;go_ret;rw[rL.out,HN.out];exact⟨rfl,rS.out⟩
theorem rT (m:Mo)(g:Fn)(i:Ins)(w:World)(h:mr w m g)(rB:i.op=10)(ha:isVar g.vs.length i.a=qv)(ho:isVar g.vs.length i.d=qv)(hk:m.known (ak g.vs i.a)=qv):
  zP 90 #[rh m.cells,rh g.cells,rh i.cells] w (Z U (bN m g.vs i i.d qv)):=by
 have v:ca (∀W,aq w.heap.size w W->zP 127 #[rh m.cells,rh g.cells,Z U i.a,Z U i.f] W (.tuple #[sS (aD m g.vs i.a i.f).1,Z U (aD m g.vs i.a i.f).2])):=λW hW=>gP m g i.a i.f W (h.below hW) ha hk;have G:ca (bN m g.vs i i.d qv=if (aD m g.vs i.a i.f).2≠0 then(aD m g.vs i.a i.f).2 else bv ((aD m g.vs i.a i.f).1==ak g.vs i.d&&(aD m g.vs i.a i.f).1.1==qv) 7):=rfl;obtain⟨ka,o,J,q,rl,tD,se,tE,tG,sR,sT⟩:=dw h.vars ha;obtain⟨kd,ue,ur,u,rI,tM,sf,_,sX,sY,te⟩:=dw h.vars ho;rw[se] at sf;simp only[dc,eW,and_true] at sf;obtain⟨rfl,rfl⟩:=sf;rw[sX] at G;obtain⟨R,hR⟩:=zE (bN m g.vs i i.d qv);rw[hR] at G⊢;obtain⟨⟨⟨b,s⟩,z⟩,K⟩:∃F,aD m g.vs i.a i.f=F:=⟨_,rfl⟩
 rw[K] at G v;unfold sS at v;have hst:∀(w:World)(c:cG bw),c.size=2->(cU ⟨w.heap.size,0,qu⟩ [re b,qT s] 0).run ac (w.alloc (rj c 32))= .ok () (w.alloc (rj #[re b,qT s] 32)):=λw c hc=>
  cf (P:=ac) w 32 c #[re b,qT s] (by show _=qt 2;kernel_rfl) hc (by simp[br])
 have tf:∀(w:World)(c:cG bw),c.size=2->(cU ⟨w.heap.size,0,qu⟩ [re q.ptr,qT q.tgt] 0).run ac (w.alloc (rj c 32))= .ok () (w.alloc (rj #[re q.ptr,qT q.tgt] 32)):=λw c hc=>
  cf (P:=ac) w 32 c #[re q.ptr,qT q.tgt] (by show _=qt 2;kernel_rfl) hc (by simp[br])
 have th:=h.nv;have tP:=h.vl;unfold dl at tP;have uv:(ka:cj)<(g.vs.length:cj):=by omega
 have ux:(kd:cj)<(g.vs.length:cj):=by omega
 have ti:=jl th se;rw[ti] at v⊢;simp only[Mo.cells,Ins.cells] at v⊢;rw[rl] at v;rw[rB,rl,rI];simp only[gc] at v⊢;obtain⟨N,hN⟩:=zE w.heap.size;obtain⟨W1,sk⟩:=zE (((w.alloc (rj m.cells 25)).alloc (rj (gc g (qt ⟨o,J,qu⟩)) 38)).alloc (rj i.cells 42));obtain⟨rK,sn,r0,r1,r2⟩:=Av sk;rw[hN] at rK sn r0 r1 r2;have tR:ca (W1.heap[N+1]?=qt (rj #[qT g.c.nm,Z U g.c.par,ra (qt ⟨o,J,qu⟩) g.vs.length g.c.varsC,re g.c.rp,qT g.c.rto,Z U g.c.rcl,ra g.c.fromA g.c.nfrom g.c.fromC,ra g.c.insA g.c.ins.length g.c.insC] 38 (0,0))):=r1;have HK:ca (∀W,aq (N+3) W1 W->W.cell? ⟨N+1,2,qu⟩=qt (ra (qt ⟨o,J,qu⟩) g.vs.length g.c.varsC)/\W.cell? ⟨N+2,0,qu⟩=qt (Z U 10)/\W.cell? ⟨N+2,2,qu⟩=qt (Z U (ka:cj))/\W.cell? ⟨N+2,1,qu⟩=qt (Z U (kd:cj))/\
   W.cell? ⟨o,J+ka*3,qu⟩=qt (re q.ptr)/\W.cell? ⟨o,J+ka*3+1,qu⟩=qt (qT q.tgt)/\W.cell? ⟨o,J+kd*3,qu⟩=qt (re u.ptr)/\W.cell? ⟨o,J+kd*3+1,qu⟩=qt (qT u.tgt)/\aq N w W):=λW hW=>by
  have p1:=(hW.block (N+1) (by omega)).trans r1;have p2:=(hW.block (N+2) (by omega)).trans r2;have D:=rK.trans (hW.mono (by omega));refine⟨?_, ?_, ?_, ?_, ?_, ?_, ?_, ?_,D⟩
  ·rw[bh _ _ _ _ _ _ p1];rfl
  ·rw[bh _ _ _ _ _ _ p2,<-rB];rfl
  ·rw[bh _ _ _ _ _ _ p2,<-rl];rfl
  ·rw[bh _ _ _ _ _ _ p2,<-rI];rfl
  ·rw[D.cell (p:=⟨o,_,qu⟩) (show o<N by omega)];exact sR
  ·rw[D.cell (p:=⟨o,_,qu⟩) (show o<N by omega)];exact sT
  ·rw[D.cell (p:=⟨o,_,qu⟩) (show o<N by omega)];exact sY
  ·rw[D.cell (p:=⟨o,_,qu⟩) (show o<N by omega)];exact te
 have c0:=zR r0 0 (ra m.sA m.ss.length m.sC);have c1:=zR r0 1 (ra m.fA m.fs.length m.fC);have c2:W1.cell? ⟨N+2,2,qu⟩=qt (Z U (ka:cj)):=by rw[bh _ _ _ _ _ _ r2,<-rl];rfl
 have c3:=zR r2 4 (Z U i.f);have rv:=sk;simp only[Mo.cells,Ins.cells,gc] at rv;rw[rB,rl] at rv;rw[rI] at rv;have tj:=zH rv;have HN:=zH hN;have tS:=zH rK;have tl:=zH sn;rw[hN] at v;clear h ha ho hk rB rl rI se tE tG sX sR sT sY te hR K ti sk rv rK r0 r1 r2 th tM tD sn;go_enter pH,pj
 go_upto_region 1 with(fail)
 rw[tj.out]
 go_upto_region 2 with(first
  |(refine bo rfl 38 _ rfl (N+1) rfl 38 _ (0,0) _ tR.out cy rfl (by kernel_rfl) ?_)
  |(go_at_call 127;refine(v.out _ tS.out).mono ?_;rintro e w2 ⟨rfl,tU⟩;have sq:=zH tU))
 clear c0 c1 c2 c3 tj;obtain⟨T,hT⟩:=zE w2.heap.size;obtain⟨W3,rm⟩:=zE (w2.alloc (rj #[re b,qT s] 32));rw[hT,rm];have va:N+3<=T:=by have:=sq.out.size;rw[tl.out] at this;omega
 have sr:aq (N+3) W1 w2:=by have:=sq.out;rwa [tl.out] at this
 have rn:aq (N+3) W1 W3:=by rw[<-rm];exact sr.alloc (by omega) _
 have tm:W3.heap.size=T+1:=by rw[<-rm];simp[hT]
 have sx:W3.heap[T]?=qt (rj #[re b,qT s] 32 (0,0)):=by rw[<-rm,<-hT];exact alloc_at _ _
 by_cases K:z=0
 ·subst K
  have rL:ca (R=bv (((b,s):Ty)==(u.ptr,u.tgt)&&b==qv) 7):=by unfold ca;rw[G.out,cw (by simp)]
  obtain⟨y,rr⟩:=zE (W3.alloc (rj #[re q.ptr,qT q.tgt] 32));have tn:aq (N+3) W1 y:=by rw[<-rr];exact rn.alloc (by omega) _
  have tp:y.heap.size=T+2:=by rw[<-rr];simp[tm]
  have tr:y.heap[T+1]?=qt (rj #[re q.ptr,qT q.tgt] 32 (0,0)):=by rw[<-rr,<-tm];exact alloc_at _ _
  have tt:y.heap[T]?=qt (rj #[re b,qT s] 32 (0,0)):=by rw[<-rr,bt _ _ _ (by omega)];exact sx
  obtain⟨c0,c1,c2,c3,c4,c5,c6,c7,_⟩:=HK.out W3 rn;have tv:=zH rr;have tz:=zH tn;have rx:=zH tr;have tW:=zH tt;have ua:=zH tp;have vc:=zH rn;obtain⟨d,sy⟩:=zE (((b,s):Ty)==(u.ptr,u.tgt));have vd:∀w,(fS 10000 32 (rh #[re b,qT s]) (rh #[re u.ptr,qT u.tgt])).run ac w= .ok d w:=λw=>by rw[cB,sy]
  rw[sy] at rL;have d0:((0:cj) != 0)=qS:=rfl;clear hst rr tn tr tt tp rm rn sr sq sy G v
  go_upto_region 5 with(fail)
  rw[tv.out];clear c0 c1 c2 c3 c4 c5 c6 c7 tf sx tv;obtain⟨c0,c1,c2,c3,c4,c5,c6,c7,_⟩:=HK.out y tz.out;have k0:=zR rx.out 0 (re q.ptr);have k1:=zR rx.out 1 (qT q.tgt);have f0:y.frozen? ⟨T+1,0,qu⟩=qS:=dg _ _ _ _ _ rx.out;have f1:y.frozen? ⟨T+1,1,qu⟩=qS:=dg _ _ _ _ _ rx.out;have ub:T+1<y.heap.size:=by have:=ua.out;omega
  go_upto_region 8 with(fail)
  obtain⟨A,rN⟩:=zE ((y.setCell ⟨T+1,0,qu⟩ (re u.ptr)).setCell ⟨T+1,1,qu⟩ (qT u.tgt));rw[rN];have sB:A.heap[T+1]?=qt (rj #[re u.ptr,qT u.tgt] 32 (0,0)):=by rw[<-rN];exact dG rx.out
  have sE:aq (T+1) y A:=by rw[<-rN];exact((an _ _).setCell (by show T+1<=T+1;omega) _).setCell (by show T+1<=T+1;omega) _
  have sL:A.heap[T]?=qt (rj #[re b,qT s] 32 (0,0)):=(sE.block T (by omega)).trans tW.out;have tA:aq (N+3) W1 A:=tz.out.trans (sE.mono (by omega));clear c0 c1 c2 c3 c4 c5 c6 c7 k0 k1 f0 f1 ub rN;obtain⟨_,c1,_,_,_,_,_,_,D⟩:=HK.out A tA;have k0:=zR sB 0 (re u.ptr);have k1:=zR sB 1 (qT u.tgt);have k2:=zR sL 0 (re b);have k3:=zR sL 1 (qT s);have rS:=zH D;have HO:ca (∀x,zP 51 #[re x,Z U 7] A (Z U (bv (!x) 7))):=λx=>aX x 7 A;have uc:ca (∀w9,aq A.heap.size A w9->aq N w w9):=λw9 h9=>rS.out.trans (h9.mono (by have:=rS.out.size;rw[HN.out] at this;exact this));clear sB sL sE tA D;cases d<;>cases b<;>(go_wp2_with (go_at_call 51;refine(HO.out _).mono ?_;rintro e w7 ⟨rfl,tB⟩;have ud:=zH tB;clear tB);go_ret;rw[rL.out,HN.out];exact⟨rfl,uc.out _ ud.out⟩)
 ·have rL:ca (R=z):=by unfold ca;rw[G.out,cI K]
  have vf:(z != 0)=qv:=by rw[nt];exact K
  have rS:ca (aq N w W3):=(HK.out W3 rn).2.2.2.2.2.2.2.2;clear G v HK K hst tf sx rn sr rm;go_wp2;go_ret;rw[rL.out,HN.out];exact⟨rfl,rS.out⟩
theorem rU (m:Mo)(g:Fn)(i:Ins)(w:World)(h:mr w m g)(rB:i.op=11)(ha:isVar g.vs.length i.a=qv)(ho:isVar g.vs.length i.b=qv)(hk:m.known (ak g.vs i.a)=qv):
  zP 90 #[rh m.cells,rh g.cells,rh i.cells] w (Z U (bN m g.vs i i.b qv)):=by
 have v:ca (∀W,aq w.heap.size w W->zP 127 #[rh m.cells,rh g.cells,Z U i.a,Z U i.f] W (.tuple #[sS (aD m g.vs i.a i.f).1,Z U (aD m g.vs i.a i.f).2])):=λW hW=>gP m g i.a i.f W (h.below hW) ha hk;have G:ca (bN m g.vs i i.b qv=if (aD m g.vs i.a i.f).2≠0 then(aD m g.vs i.a i.f).2 else bv ((aD m g.vs i.a i.f).1==ak g.vs i.b&&(aD m g.vs i.a i.f).1.1==qv) 7):=rfl;obtain⟨ka,o,J,q,rl,tD,se,tE,tG,sR,sT⟩:=dw h.vars ha;obtain⟨kd,ue,ur,u,rI,tM,sf,_,sX,sY,te⟩:=dw h.vars ho;rw[se] at sf;simp only[dc,eW,and_true] at sf;obtain⟨rfl,rfl⟩:=sf;rw[sX] at G;obtain⟨R,hR⟩:=zE (bN m g.vs i i.b qv);rw[hR] at G⊢;obtain⟨⟨⟨b,s⟩,z⟩,K⟩:∃F,aD m g.vs i.a i.f=F:=⟨_,rfl⟩
 rw[K] at G v;unfold sS at v;have hst:∀(w:World)(c:cG bw),c.size=2->(cU ⟨w.heap.size,0,qu⟩ [re b,qT s] 0).run ac (w.alloc (rj c 32))= .ok () (w.alloc (rj #[re b,qT s] 32)):=λw c hc=>
  cf (P:=ac) w 32 c #[re b,qT s] (by show _=qt 2;kernel_rfl) hc (by simp[br])
 have tf:∀(w:World)(c:cG bw),c.size=2->(cU ⟨w.heap.size,0,qu⟩ [re q.ptr,qT q.tgt] 0).run ac (w.alloc (rj c 32))= .ok () (w.alloc (rj #[re q.ptr,qT q.tgt] 32)):=λw c hc=>
  cf (P:=ac) w 32 c #[re q.ptr,qT q.tgt] (by show _=qt 2;kernel_rfl) hc (by simp[br])
 have th:=h.nv;have tP:=h.vl;unfold dl at tP;have uv:(ka:cj)<(g.vs.length:cj):=by omega
 have ux:(kd:cj)<(g.vs.length:cj):=by omega
 have ti:=jl th se;rw[ti] at v⊢;simp only[Mo.cells,Ins.cells] at v⊢;rw[rl] at v;rw[rB,rl,rI];simp only[gc] at v⊢;obtain⟨N,hN⟩:=zE w.heap.size;obtain⟨W1,sk⟩:=zE (((w.alloc (rj m.cells 25)).alloc (rj (gc g (qt ⟨o,J,qu⟩)) 38)).alloc (rj i.cells 42));obtain⟨rK,sn,r0,r1,r2⟩:=Av sk;rw[hN] at rK sn r0 r1 r2;have tR:ca (W1.heap[N+1]?=qt (rj #[qT g.c.nm,Z U g.c.par,ra (qt ⟨o,J,qu⟩) g.vs.length g.c.varsC,re g.c.rp,qT g.c.rto,Z U g.c.rcl,ra g.c.fromA g.c.nfrom g.c.fromC,ra g.c.insA g.c.ins.length g.c.insC] 38 (0,0))):=r1;have HK:ca (∀W,aq (N+3) W1 W->W.cell? ⟨N+1,2,qu⟩=qt (ra (qt ⟨o,J,qu⟩) g.vs.length g.c.varsC)/\W.cell? ⟨N+2,0,qu⟩=qt (Z U 11)/\W.cell? ⟨N+2,2,qu⟩=qt (Z U (ka:cj))/\W.cell? ⟨N+2,3,qu⟩=qt (Z U (kd:cj))/\
   W.cell? ⟨o,J+ka*3,qu⟩=qt (re q.ptr)/\W.cell? ⟨o,J+ka*3+1,qu⟩=qt (qT q.tgt)/\W.cell? ⟨o,J+kd*3,qu⟩=qt (re u.ptr)/\W.cell? ⟨o,J+kd*3+1,qu⟩=qt (qT u.tgt)/\aq N w W):=λW hW=>by
  have p1:=(hW.block (N+1) (by omega)).trans r1;have p2:=(hW.block (N+2) (by omega)).trans r2;have D:=rK.trans (hW.mono (by omega));refine⟨?_, ?_, ?_, ?_, ?_, ?_, ?_, ?_,D⟩
  ·rw[bh _ _ _ _ _ _ p1];rfl
  ·rw[bh _ _ _ _ _ _ p2,<-rB];rfl
  ·rw[bh _ _ _ _ _ _ p2,<-rl];rfl
  ·rw[bh _ _ _ _ _ _ p2,<-rI];rfl
  ·rw[D.cell (p:=⟨o,_,qu⟩) (show o<N by omega)];exact sR
  ·rw[D.cell (p:=⟨o,_,qu⟩) (show o<N by omega)];exact sT
  ·rw[D.cell (p:=⟨o,_,qu⟩) (show o<N by omega)];exact sY
  ·rw[D.cell (p:=⟨o,_,qu⟩) (show o<N by omega)];exact te
 have c0:=zR r0 0 (ra m.sA m.ss.length m.sC);have c1:=zR r0 1 (ra m.fA m.fs.length m.fC);have c2:W1.cell? ⟨N+2,2,qu⟩=qt (Z U (ka:cj)):=by rw[bh _ _ _ _ _ _ r2,<-rl];rfl
 have c3:=zR r2 4 (Z U i.f);have rv:=sk;simp only[Mo.cells,Ins.cells,gc] at rv;rw[rB,rl] at rv;rw[rI] at rv;have tj:=zH rv;have HN:=zH hN;have tS:=zH rK;have tl:=zH sn;rw[hN] at v;clear h ha ho hk rB rl rI se tE tG sX sR sT sY te hR K ti sk rv rK r0 r1 r2 th tM tD sn;go_enter pH,pj
 go_upto_region 1 with(fail)
 rw[tj.out]
 go_upto_region 2 with(first
  |(refine bo rfl 38 _ rfl (N+1) rfl 38 _ (0,0) _ tR.out cy rfl (by kernel_rfl) ?_)
  |(go_at_call 127;refine(v.out _ tS.out).mono ?_;rintro e w2 ⟨rfl,tU⟩;have sq:=zH tU))
 clear c0 c1 c2 c3 tj;obtain⟨T,hT⟩:=zE w2.heap.size;obtain⟨W3,rm⟩:=zE (w2.alloc (rj #[re b,qT s] 32));rw[hT,rm];have va:N+3<=T:=by have:=sq.out.size;rw[tl.out] at this;omega
 have sr:aq (N+3) W1 w2:=by have:=sq.out;rwa [tl.out] at this
 have rn:aq (N+3) W1 W3:=by rw[<-rm];exact sr.alloc (by omega) _
 have tm:W3.heap.size=T+1:=by rw[<-rm];simp[hT]
 have sx:W3.heap[T]?=qt (rj #[re b,qT s] 32 (0,0)):=by rw[<-rm,<-hT];exact alloc_at _ _
 by_cases K:z=0
 ·subst K
  have rL:ca (R=bv (((b,s):Ty)==(u.ptr,u.tgt)&&b==qv) 7):=by unfold ca;rw[G.out,cw (by simp)]
  obtain⟨y,rr⟩:=zE (W3.alloc (rj #[re q.ptr,qT q.tgt] 32));have tn:aq (N+3) W1 y:=by rw[<-rr];exact rn.alloc (by omega) _
  have tp:y.heap.size=T+2:=by rw[<-rr];simp[tm]
  have tr:y.heap[T+1]?=qt (rj #[re q.ptr,qT q.tgt] 32 (0,0)):=by rw[<-rr,<-tm];exact alloc_at _ _
  have tt:y.heap[T]?=qt (rj #[re b,qT s] 32 (0,0)):=by rw[<-rr,bt _ _ _ (by omega)];exact sx
  obtain⟨c0,c1,c2,c3,c4,c5,c6,c7,_⟩:=HK.out W3 rn;have tv:=zH rr;have tz:=zH tn;have rx:=zH tr;have tW:=zH tt;have ua:=zH tp;have vc:=zH rn;obtain⟨d,sy⟩:=zE (((b,s):Ty)==(u.ptr,u.tgt));have vd:∀w,(fS 10000 32 (rh #[re b,qT s]) (rh #[re u.ptr,qT u.tgt])).run ac w= .ok d w:=λw=>by rw[cB,sy]
  rw[sy] at rL;have d0:((0:cj) != 0)=qS:=rfl;clear hst rr tn tr tt tp rm rn sr sq sy G v
  go_upto_region 5 with(fail)
  rw[tv.out];clear c0 c1 c2 c3 c4 c5 c6 c7 tf sx tv;obtain⟨c0,c1,c2,c3,c4,c5,c6,c7,_⟩:=HK.out y tz.out;have k0:=zR rx.out 0 (re q.ptr);have k1:=zR rx.out 1 (qT q.tgt);have f0:y.frozen? ⟨T+1,0,qu⟩=qS:=dg _ _ _ _ _ rx.out;have f1:y.frozen? ⟨T+1,1,qu⟩=qS:=dg _ _ _ _ _ rx.out;have ub:T+1<y.heap.size:=by have:=ua.out;omega
  go_upto_region 8 with(fail)
  obtain⟨A,rN⟩:=zE ((y.setCell ⟨T+1,0,qu⟩ (re u.ptr)).setCell ⟨T+1,1,qu⟩ (qT u.tgt));rw[rN];have sB:A.heap[T+1]?=qt (rj #[re u.ptr,qT u.tgt] 32 (0,0)):=by rw[<-rN];exact dG rx.out
  have sE:aq (T+1) y A:=by rw[<-rN];exact((an _ _).setCell (by show T+1<=T+1;omega) _).setCell (by show T+1<=T+1;omega) _
  have sL:A.heap[T]?=qt (rj #[re b,qT s] 32 (0,0)):=(sE.block T (by omega)).trans tW.out;have tA:aq (N+3) W1 A:=tz.out.trans (sE.mono (by omega));clear c0 c1 c2 c3 c4 c5 c6 c7 k0 k1 f0 f1 ub rN;obtain⟨_,c1,_,_,_,_,_,_,D⟩:=HK.out A tA;have k0:=zR sB 0 (re u.ptr);have k1:=zR sB 1 (qT u.tgt);have k2:=zR sL 0 (re b);have k3:=zR sL 1 (qT s);have rS:=zH D;have HO:ca (∀x,zP 51 #[re x,Z U 7] A (Z U (bv (!x) 7))):=λx=>aX x 7 A;have uc:ca (∀w9,aq A.heap.size A w9->aq N w w9):=λw9 h9=>rS.out.trans (h9.mono (by have:=rS.out.size;rw[HN.out] at this;exact this));clear sB sL sE tA D;cases d<;>cases b<;>(go_wp2_with (go_at_call 51;refine(HO.out _).mono ?_;rintro e w7 ⟨rfl,tB⟩;have ud:=zH tB;clear tB);go_ret;rw[rL.out,HN.out];exact⟨rfl,uc.out _ ud.out⟩)
 ·have rL:ca (R=z):=by unfold ca;rw[G.out,cI K]
  have vf:(z != 0)=qv:=by rw[nt];exact K
  have rS:ca (aq N w W3):=(HK.out W3 rn).2.2.2.2.2.2.2.2;clear G v HK K hst tf sx rn sr rm;go_wp2;go_ret;rw[rL.out,HN.out];exact⟨rfl,rS.out⟩
theorem wZ (m:Mo)(g:Fn)(i:Ins)(w:World)(h:mr w m g)(hi:i.args_in w)(ue:i.args.length<=dl)(hd:isVar g.vs.length i.d=qv)(ha:∀a∈i.args,isVar g.vs.length a=qv):
  zP 91 #[rh m.cells,rh g.cells,rh i.cells] w (Z U (gD m g.vs i)):=by
 obtain⟨⟨_,wg,n2,wi,ur⟩,ao,cap,tf,th⟩:=hi;have HA:ca (au w ao i.args):=th.at_;have HJ:=zH h;have uv:=zH ha;have ux:=zH tf;have HE:ca (gD m g.vs i=if i.f<0 then 15 else match m.fs[i.f.toNat]? with
  |none=>15
  |some g'=>if (i.args.length:cj)≠g'.c.par\/(g'.vs.length:cj)<g'.c.par then 7
   else if iP g.vs g'.vs 0 i.args=qS then 7 else bv (ak g.vs i.d==g'.ret) 7):=rfl
 obtain⟨R,hR⟩:=zE (gD m g.vs i);rw[hR] at HE⊢;obtain⟨D,o,G,xd,sf,va,rn,vc,ti,vd,vf⟩:=dw h.vars hd;have tj:=h.nv;have vh:=h.vl;unfold dl at vh ue;have vi:(D:cj)<(g.vs.length:cj):=by omega
 have tl:=jl tj rn;rw[tl];obtain⟨N,hN⟩:=zE w.heap.size;obtain⟨W1,sB⟩:=zE (((w.alloc (rj m.cells 25)).alloc (rj (gc g (qt ⟨o,G,qu⟩)) 38)).alloc (rj i.cells 42));obtain⟨sE,tm,r0,r1,r2⟩:=Av sB;rw[hN] at sE tm r0 r1 r2;have i4:=zR r2 4 (Z U i.f);have k1:=zR r0 1 (ra m.fA m.fs.length m.fC);have tn:ca (∀(W:World)(v:cj),aq N w W->isVar g.vs.length v=qv->∃(k:cd) (x:Vr),v=(k:cj)/\k<g.vs.length/\ak g.vs v=(x.ptr,x.tgt)/\W.cell? ⟨o,G+k*3,qu⟩=qt (re x.ptr)/\W.cell? ⟨o,G+k*3+1,qu⟩=qt (qT x.tgt)):=by
  intro W v J hv;obtain⟨k,b,rl,x,r1,r2,r3,r4,r5,r6,r7⟩:=dw h.vars hv;rw[rn] at r3;simp only[dc,eW,and_true] at r3;obtain⟨rfl,rfl⟩:=r3;exact⟨k,x,r1,r2,r5,by rw[J.cell (p:=⟨o,_,qu⟩) (show o<N by omega)];exact r6,by rw[J.cell (p:=⟨o,_,qu⟩) (show o<N by omega)];exact r7⟩
 have sk:=sB;simp only[Mo.cells,Ins.cells,gc] at sk;simp only[Mo.cells,Ins.cells,gc];rw[sf];rw[sf] at sk;have rK:=zH sk;have rr:=zH sE;have vj:=zH r0;have tp:=zH r1;have tr:=zH r2;have K:=zH hN;have rL:=zH tm;have tt:=zH sf;have tv:=zH ti;clear hR h th hd ha ur tf sB sk sE r0 r1 r2 sf ti vd vf rn tl tj vc va
 by_cases rN:i.f<0
 ·have A:ca (R=15):=by unfold ca;rw[HE.out,cI rN]
  clear HE;go_enter func91,ntmps91
  go_upto_region 1 with(fail)
  rw[rK.out];go_wp2;go_ret;rw[A.out];exact⟨rfl,by first|exact rr.out|(rw[K.out];exact rr.out)⟩
 obtain⟨F,hF⟩:∃F:cd,i.f=(F:cj):=⟨i.f.toNat,by omega⟩
 rw[hF] at i4
 by_cases rS:F<m.fs.length
 rotate_left
 ·have A:ca (R=15):=by unfold ca;rw[HE.out,cw rN,hF,ep,lA (by omega)]
  have vm:(m.fs.length:cj)<=(F:cj):=by omega
  clear HE rS rN hF;go_enter func91,ntmps91
  go_upto_region 1 with(fail)
  rw[rK.out];go_wp2;go_ret;rw[A.out];exact⟨rfl,by first|exact rr.out|(rw[K.out];exact rr.out)⟩
 obtain⟨f,sn⟩:∃f,m.fs[F]?=qt f:=⟨_,am rS⟩
 have rv:ca (R=if (i.args.length:cj)≠f.c.par\/(f.vs.length:cj)<f.c.par then 7 else if iP g.vs f.vs 0 i.args=qS then 7 else bv (ak g.vs i.d==f.ret) 7):=by
  unfold ca;rw[HE.out,cw rN,hF,ep,sn]
 have sL:=HJ.out.mo.fin f (ce sn);have vn:=zH sL;obtain⟨fb,tz,sR,vp,tA⟩:=HJ.out.mo.frow (by intro e;rw[e] at rS;simp at rS);have vq:fb<N:=by have:=K.out;omega
 have tB:ca (∀k u,f.cells.toList[k]?=qt u->W1.cell? ((⟨fb,tz+F*8,qu⟩:oA).add k)=qt u):=λk u hu=>by
  rw[cM,rr.out.cell (p:=⟨fb,_,qu⟩) vq];exact tA F f sn k u hu
 have vm:(F:cj)<(m.fs.length:cj):=by omega
 obtain⟨q,rx⟩:=zE (W1.alloc (rj f.cells 38));have hst:∀(c:cG bw),c.size=8->(cU ⟨N+3,0,qu⟩ f.cells.toList 0).run ac (W1.alloc (rj c 38))= .ok () q:=λc hc=>by
  rw[<-rx,<-rL.out];exact cf (P:=ac) W1 38 c f.cells (by show _=qt 8;kernel_rfl) hc (mD f)
 have sq:aq (N+3) W1 q:=by rw[<-rx,<-rL.out];exact(an _ _).alloc (bp _) _
 have tD:q.heap[N+3]?=qt (rj f.cells 38 (0,0)):=by rw[<-rx,<-rL.out];exact alloc_at _ _
 have vr:q.heap.size=N+4:=by rw[<-rx];simp[rL.out]
 have sr:ca (aq N w q):=rr.out.trans (sq.mono (by omega));have sT:ca (∀W,aq q.heap.size q W->W.cell? ⟨N+1,2,qu⟩=qt (ra (qt ⟨o,G,qu⟩) g.vs.length g.c.varsC)/\W.cell? ⟨N+2,1,qu⟩=qt (Z U (D:cj))/\W.cell? ⟨N+2,7,qu⟩=qt (ra ao i.args.length cap)/\
   W.cell? ⟨N+3,1,qu⟩=qt (Z U f.c.par)/\W.cell? ⟨N+3,2,qu⟩=qt (ra f.c.varsA f.vs.length f.c.varsC)/\W.cell? ⟨N+3,3,qu⟩=qt (re f.c.rp)/\W.cell? ⟨N+3,3+1,qu⟩=qt (qT f.c.rto)/\aq N w W):=by
  intro W J;have q1:=(J.block (N+1) (by omega)).trans ((sq.block (N+1) (by omega)).trans tp.out);have q2:=(J.block (N+2) (by omega)).trans ((sq.block (N+2) (by omega)).trans tr.out);have q3:=(J.block (N+3) (by omega)).trans tD;refine⟨?_, ?_, ?_, ?_, ?_, ?_, ?_,sr.out.trans (J.mono (by omega))⟩
  ·rw[bh _ _ _ _ _ _ q1];rfl
  ·rw[bh _ _ _ _ _ _ q2,<-tt.out];rfl
  ·rw[bh _ _ _ _ _ _ q2,<-ux.out];rfl
  ·rw[bh _ _ _ _ _ _ q3];rfl
  ·rw[bh _ _ _ _ _ _ q3,<-sL.nvars];rfl
  ·rw[bh _ _ _ _ _ _ q3];rfl
  ·rw[bh _ _ _ _ _ _ q3];rfl
 obtain⟨j2,j1,j7,c1,c2,c3,c4,_⟩:=sT.out q (an _ _);have tE:ca (∀(W:World)(v:cj),aq q.heap.size q W->isVar f.vs.length v=qv->∃(k b rl:cd) (x:Vr),v=(k:cj)/\k<f.vs.length/\f.c.varsA=qt ⟨b,rl,qu⟩/\b<q.heap.size/\ak f.vs v=(x.ptr,x.tgt)/\W.cell? ⟨b,rl+k*3,qu⟩=qt (re x.ptr)/\W.cell? ⟨b,rl+k*3+1,qu⟩=qt (qT x.tgt)):=by
  intro W v J hv;have tG:aq w.heap.size w W:=by rw[K.out];exact sr.out.trans (J.mono (by omega))
  obtain⟨k,b,rl,x,r1,r2,r3,r4,r5,r6,r7⟩:=dw (vn.out.vars) hv;exact⟨k,b,rl,x,r1,r2,r3,by omega,r5,by rw[tG.cell (p:=⟨b,_,qu⟩) r4];exact r6,by rw[tG.cell (p:=⟨b,_,qu⟩) r4];exact r7⟩
 have wj:=zH rx;have wk:=zH vr;rw[sR] at k1;rw[sR] at rK⊢;have vt:W1.heap.size=N+3:=rL.out;clear HE rN hF rS sn sL sR tA sq tD tp tr vj vp rx;have wl:i.args.length<=9223372036854775807:=by omega
 go_enter func91,ntmps91
 go_upto_region 1 with(fail)
 rw[rK.out];clear rK
 go_upto_region 4 with(first
  |(refine az rfl 38 _ rfl ⟨fb,tz+F*8,qu⟩ rfl f.cells _ tB.out cy rfl (by kernel_rfl) ?_))
 clear hst i4 k1 tB vt
 by_cases rB:(i.args.length:cj)=f.c.par
 rotate_left
 ·have A:ca (R=7):=by unfold ca;rw[rv.out,cI (.inl rB)]
  have wn:((i.args.length:cj) != f.c.par)=qv:=by rw[nt];exact rB
  clear rv;go_wp2;go_ret;rw[A.out,K.out];exact⟨rfl,sr.out⟩
 by_cases sx:(f.vs.length:cj)<f.c.par
 ·have A:ca (R=7):=by unfold ca;rw[rv.out,cI (.inr sx)]
  rw[<-rB] at sx c1;clear rv;go_wp2;go_ret;rw[A.out,K.out];exact⟨rfl,sr.out⟩
 have sX:ca (R=if iP g.vs f.vs 0 i.args=qS then 7 else bv (ak g.vs i.d==f.ret) 7):=by
  unfold ca;rw[rv.out,cw (λh=>by rcases h with h|h;exact h rB;exact sx h)]
 rw[<-rB] at sx c1;have ws:i.args.length<=f.vs.length:=by omega
 clear rv rB
 go_upto_region 6 with(fail)
 clear c1 c2 c3 c4 j1 j2 j7
 go_wp2_with fail
 go_loopw [8] (λc wr=>∃j:cd,j<=i.args.length/\c= Z U (j:cj)/\(∀k a,k<j->i.args[k]?=qt a->(ak g.vs a==ak f.vs (k:cj))=qv)/\aq q.heap.size q wr) (λc _=>i.args.length-(intOf c).toNat)
 case atStart=>exact⟨0,cJ _,rfl,λk a hk=>fL hk (by omega),an _ _⟩
 case round=>
  obtain⟨j,hj,rfl,sY,hb⟩:=hrel;have HB:=zH hb;have tM:=zH sY;obtain⟨j2,j1,j7,c1,c2,c3,c4,se⟩:=sT.out wr hb;have vu:=zH se
  by_cases sy:j<i.args.length
  ·obtain⟨y,hy⟩:∃y,i.args[j]?=qt y:=⟨_,am sy⟩
   obtain⟨ab,vx,vy,wx,tP⟩:=(HA.out.below (by rw[K.out];exact se)) (by intro e;rw[e] at sy;simp at sy)
   have d1:wr.cell? ⟨ab,vx+j,qu⟩=qt (Z U y):=tP j y hy;have tR:isVar g.vs.length y=qv:=uv.out y (ce hy);obtain⟨ky,xy,tS,xf,tU,e0,e1⟩:=tn.out wr y se tR;obtain⟨k',b,rl,x,xj,xl,rn,xo,tW,x0,x1⟩:=tE.out wr (j:cj) hb (dJ.2 ⟨by omega,by omega⟩);obtain rfl:k'=j:=by omega
   obtain⟨d,rm⟩:=zE (((xy.ptr,xy.tgt):Ty)==(x.ptr,x.tgt));have wa:∀w,(fS 10000 32 (rh #[re xy.ptr,qT xy.tgt]) (rh #[re x.ptr,qT x.tgt])).run ac w= .ok d w:=λw=>by rw[cB,rm]
   have ua:ca ((ak g.vs y==ak f.vs (k':cj))=d):=by unfold ca;rw[tU,tW];exact rm
   have HY:=zH hy;have xp:(k':cj)<(i.args.length:cj):=by omega
   have xr:(k':cj)<(f.vs.length:cj):=by omega
   have xt:(ky:cj)<(g.vs.length:cj):=by omega
   subst vy;rw[rn] at c2;rw[tS] at d1;clear sY hb se hy tP tR rn tW tU rm sy tS c1 c3 c4 j1;cases d with
   |true=>
    go_wp2_with fail
    go_quiet (fail)
    go_wp2;go_roundw
    case rel=>
     refine⟨k'+1,by omega,by go_num,λk a hk te=> ?_,j8 HB.out _⟩
     by_cases e:k=k'
     ·subst e
      rw[HY.out] at te;obtain rfl:=cX te;exact ua.out
     ·exact tM.out k a (by omega) te
    case measure=>simp[intOf];omega
   |false=>
    have A:ca (R=7):=by
     unfold ca;rw[sX.out,cI];cases hc:iP g.vs f.vs 0 i.args with
     |false=>rfl
     |true=>
      have:=(ji _ _ _ _).1 hc k' y HY.out;rw[cH,ua.out] at this;cases this
    go_wp2_with fail
    go_quiet (fail)
    go_wp2;go_ret;rw[A.out,K.out];exact⟨rfl,j8 vu.out _⟩
  ·have wb:j=i.args.length:=by omega
   subst wb;have ub:ca (R=bv (ak g.vs i.d==f.ret) 7):=by
    unfold ca;rw[sX.out,cw];rw[(ji _ _ _ _).2 (λk a hk=>by rw[cH];exact tM.out k a (bl.1 hk).1 hk)];decide
   have uc:isVar g.vs.length (D:cj)=qv:=dJ.2 ⟨by omega,vi⟩;obtain⟨d,rm⟩:=zE (((xd.ptr,xd.tgt):Ty)==(f.c.rp,f.c.rto));have wa:∀w,(fS 10000 32 (rh #[re xd.ptr,qT xd.tgt]) (rh #[re f.c.rp,qT f.c.rto])).run ac w= .ok d w:=λw=>by rw[cB,rm]
   have A:ca (R=bv d 7):=by unfold ca;rw[ub.out,tv.out,<-rm];rfl
   have rI:ca (∀p:BW wr,_):=λp:BW wr=>sT.out p.w (HB.out.trans (p.h.mono HB.out.size));have ud:ca (∀p:BW wr,p.w.cell? ⟨o,G+D*3,qu⟩=qt (re xd.ptr)/\p.w.cell? ⟨o,G+D*3+1,qu⟩=qt (qT xd.tgt)):=λp=>by
    obtain⟨k,x,q1,_,q2,q3,q4⟩:=tn.out p.w (D:cj) (rI.out p).2.2.2.2.2.2.2 uc;obtain rfl:D=k:=by omega
    rw[<-tt.out,tv.out] at q2;simp only[lz] at q2;rw[q2.1,q2.2];exact⟨q3,q4⟩
   have g0:∀p:BW wr,p.w.cell? ⟨N+1,2,qu⟩=qt (ra (qt ⟨o,G,qu⟩) g.vs.length g.c.varsC):=λp=>(rI.out p).1;have g1:∀p:BW wr,p.w.cell? ⟨N+2,1,qu⟩=qt (Z U (D:cj)):=λp=>(rI.out p).2.1;have g3:∀p:BW wr,p.w.cell? ⟨N+3,3,qu⟩=qt (re f.c.rp):=λp=>(rI.out p).2.2.2.2.2.1;have g4:∀p:BW wr,p.w.cell? ⟨N+3,3+1,qu⟩=qt (qT f.c.rto):=λp=>(rI.out p).2.2.2.2.2.2.1;have g5:∀p:BW wr,p.w.cell? ⟨o,G+D*3,qu⟩=qt (re xd.ptr):=λp=>(ud.out p).1;have g6:∀p:BW wr,p.w.cell? ⟨o,G+D*3+1,qu⟩=qt (qT xd.tgt):=λp=>(ud.out p).2;have HO:ca (∀(p:BW wr) x,zP 51 #[re x,Z U 7] p.w (Z U (bv (!x) 7))):=λp x=>aX x 7 p.w;clear sY hb se rm sX ub tE c1 c2 c3 c4 j1 j2 uc;cases d<;>
    (go_wp2_with fail
     clear j7;refine zQ ?_
     repeat (go_big_quiet_step (first|(go_at_call 51;exact aV (HO.out _ _))))
     refine db ?_;rintro _ ⟨p,rfl⟩;have we:=zH (rI.out p).2.2.2.2.2.2.2;clear g0 g1 g3 g4 g5 g6;go_wp2;go_ret;rw[A.out,K.out];exact⟨rfl,we.out⟩)
theorem au.lit (w:World)(d:cG bw)(xs:bm cj){B:cd}(f:B=w.heap.size)(h:d=(xs.map (eC .i64)).toArray):au (w.alloc (.cells d 3)) (qt ⟨B,0,qu⟩) xs:=by
 subst f h;intro _;refine⟨w.heap.size,0,rfl,by simp,λi u o=> ?_⟩;rw[cH,World.cell?_alloc_new];simp[o]
theorem uY (op:cj)(xs:bm cj)(n:cd)(f:n=xs.length)(o:xs.length<=90000)(W:World)(d:du oA)(h:au W d xs):
  zS 126 #[Z U op,ra d n n] W (re (decide (op∈xs))):=by
 subst f;exact Ao W _ d xs op o h
theorem oD (i:Ins)(w:World)(y:i.ok):zP 86 #[.agg i.cells] w (.tuple #[.int .i64 (aS i).1,.bool (aS i).2]):=by
 obtain⟨op,d,a,b,f,n,A,D,G,J,K,R,cl,args⟩:=i;obtain⟨⟨o,cap,q⟩,rl,n2,rm,u⟩:=y;simp only at q u;subst q u;simp only[Ins.cells,aS];have v:ca (∀(W:World) o,au W o [1,2,3,4,5,7,9,10,12,14,15]->zS 126 #[.int .i64 op,.slice o 11 11] W (.bool (ou op))):=
  λW o h=>uY op [1,2,3,4,5,7,9,10,12,14,15] 11 rfl (by simp) W o h
 cases hd:ou op with
 |true=>
  go_enter func86,ntmps86
  go_wp2_with (go_at_call 126;refine(v.out _ _ (au.lit _ _ _ (by simp) rfl)).mono ?_;rintro e w' ⟨rfl,rfl⟩)
  go_ret2
  exact⟨rfl,((an _ _).alloc (bp _) _).alloc (by simp) _⟩
 |false=>
  go_enter func86,ntmps86
  go_wp2_with (go_at_call 126;refine(v.out _ _ (au.lit _ _ _ (by simp) rfl)).mono ?_;rintro e w' ⟨rfl,rfl⟩)
  go_ret2
  exact⟨rfl,((an _ _).alloc (bp _) _).alloc (by simp) _⟩
theorem pR (i:Ins)(w:World)(tz:i.args_in w)(hl:i.args.length<=40):ft ac 88 #[.agg i.cells] w (jN w (readsOf i)):=by
 obtain⟨op,d,a,b,f,n,tf,tA,tB,th,ti,ln,cl,args⟩:=i;obtain⟨⟨_,tj,n2,tl,h2⟩,G,cap,h1,sB⟩:=tz;simp only at h1 h2 sB hl;subst h1 h2;simp only[Ins.cells,readsOf];have HA:ca (∀(W:World) G,au W G [3,4,6,7,8,9,10,11,13,14,17,18]->zS 126 #[.int .i64 op,.slice G 12 12] W (.bool (rM op))):=
  λW G h=>uY op [3,4,6,7,8,9,10,11,13,14,17,18] 12 rfl (by simp) W G h
 have HB:ca (∀(W:World) G,au W G [4,8,11]->zS 126 #[.int .i64 op,.slice G 3 3] W (.bool (qU op))):=
  λW G h=>uY op [4,8,11] 3 rfl (by simp) W G h
 have tm:=zH sB.at_;clear sB;obtain⟨N,R⟩:=zE w.heap.size;obtain⟨u,rN⟩:=zE (w.alloc (.cells #[.int .i64 op,.int .i64 d,.int .i64 a,.int .i64 b,.int .i64 f,.int .i64 n,.string tf,.slice G args.length cap,.slice tj n2 tl,.int .i64 th,.int .i64 ti,.int .i64 ln,.int .i64 cl] 42));have tn:=gQ rN R;have tp:u.heap.size=N+1:=by rw[<-rN];simp[R]
 have tr:u.heap[N]?=qt (.cells #[.int .i64 op,.int .i64 d,.int .i64 a,.int .i64 b,.int .i64 f,.int .i64 n,.string tf,.slice G args.length cap,.slice tj n2 tl,.int .i64 th,.int .i64 ti,.int .i64 ln,.int .i64 cl] 42 (0,0)):=by
  rw[<-rN,<-R];exact alloc_at _ _
 have K:ca (∀W,Ext (λk=>N+1<=k) u W->W.cell? ⟨N,0,qu⟩=qt (.int .i64 op)/\W.cell? ⟨N,2,qu⟩=qt (.int .i64 a)/\W.cell? ⟨N,3,qu⟩=qt (.int .i64 b)/\W.cell? ⟨N,7,qu⟩=qt (.slice G args.length cap)/\N<W.heap.size/\aq N w W/\au W G args):=by
  intro W hx;have h4:=hx.heap tr (by omega);have tt:aq N w W:=tn.trans ((hx.below (B:=N+1) (by omega) (λk J=>J)).mono (by omega));refine⟨?_, ?_, ?_, ?_,(bb.1 h4).1,tt,tm.out.below (by rw[R];exact tt)⟩<;>(rw[bh _ _ _ _ _ _ h4];rfl)
 have sq:=zH tp;have sr:=zH rN;have tD:N+1<=u.heap.size:=by omega
 clear tn tp tr rN tm
 by_cases sx:op=15
 ·subst sx
  have ea:rM 15=qS:=by decide
  have eb:qU 15=qS:=by decide
  rw[ea,eb,cw (by decide),cw (by decide),cI rfl];rw[ea] at HA;rw[eb] at HB;simp only[ej];clear ea eb;go_enter pL,pk
  go_wp2_with fail
  go_at_call 126;rw[sr.out];refine(HA.out _ _ (au.lit _ _ _ (by have:=sq.out;omega) rfl)).mono ?_;rintro e w2 ⟨rfl,rl⟩;have v:Ext (λk=>N+1<=k) u w2:=by rw[<-rl];exact(Ext.refl _ _).alloc _
  obtain⟨k0,k2,k3,k7,rn,o,q⟩:=K.out w2 v;have rr:=zH v;have sE:=zH q;have sL:=zH o;clear rl v q o
  go_wp2_with fail
  go_at_call 126;refine(HB.out _ _ (au.lit _ _ _ rfl rfl)).mono ?_;rintro e y ⟨rfl,A⟩;have D:Ext (λk=>N+1<=k) u y:=by rw[<-A];exact rr.out.alloc _
  have rm:=iF A;obtain⟨k0,k2,k3,k7,rn,o,q⟩:=K.out y D;have rS:=zH D;have se:=zH rm;have sy:=zH q;have rI:=zH o;clear A D rm q o;have sR:N<y.heap.size+1:=by omega
  go_wp2_with (at_builtin;refine aK rfl (.tmp 25) (.tmp 27) rfl (N+1) (.slice qu 0 0) [] rfl (aZ.nil _ _) _ args cap rfl sy.out ?c51 ?c52 ?_)
  case c51=>first|omega|(simp<;>omega)|simp
  case c52=>first|omega|(simp<;>omega)|simp
  intro v5 w5 rv sf;obtain⟨sT,sX,rfl⟩:=rv.isSlice;have sk:Ext (λk=>N+1<=k) u w5:=rS.out.trans (Ext.of_grown sf (λk J=> .inl (by first|(have h3:=((aZ.nil _ _).lt k J).1;exact h3)|(simp[eN] at J)))) (λj hj=> .inl hj);have HG:ca (jN w args (.returned (.slice sT args.length sX)) w5):=⟨_,_,rfl,by rw[R];exact aZ.mono (by simpa using rv) (gb N),by rw[R];exact(K.out w5 sk).2.2.2.2.2.1⟩
  clear rv sf sk
  try simp only[ej]
  go_wp2;go_ret;exact HG.out
 ·have tE:(op==15)=qS:=by simpa using sx
  rw[cw sx,kh];clear sx;cases ha:rM op with
  |false=>
   have hb:qU op=qS:=by
    cases h:qU op with
    |false=>rfl
    |true=>rw[zy h] at ha;cases ha
   rw[hb,cw (by decide),cw (by decide)];rw[ha] at HA;rw[hb] at HB;clear ha hb;go_enter pL,pk
   go_wp2_with fail
   go_at_call 126;rw[sr.out];refine(HA.out _ _ (au.lit _ _ _ (by have:=sq.out;omega) rfl)).mono ?_;rintro e w2 ⟨rfl,rl⟩;have v:Ext (λk=>N+1<=k) u w2:=by rw[<-rl];exact(Ext.refl _ _).alloc _
   obtain⟨k0,k2,k3,k7,rn,o,q⟩:=K.out w2 v;have rr:=zH v;have sE:=zH q;have sL:=zH o;clear rl v q o
   go_wp2_with fail
   go_at_call 126;refine(HB.out _ _ (au.lit _ _ _ rfl rfl)).mono ?_;rintro e y ⟨rfl,A⟩;have D:Ext (λk=>N+1<=k) u y:=by rw[<-A];exact rr.out.alloc _
   have rm:=iF A;obtain⟨k0,k2,k3,k7,rn,o,q⟩:=K.out y D;have rS:=zH D;have se:=zH rm;have sy:=zH q;have rI:=zH o;clear A D rm q o;go_wp2;go_ret;exact⟨qu,0,rfl,aZ.nil _ _,by first|exact rI.out|(rw[R];exact rI.out)⟩
  |true=>
   rw[ha] at HA;cases hb:qU op with
   |false=>
    rw[cI rfl,cw (by decide),kh];rw[hb] at HB;clear ha hb;go_enter pL,pk
    go_wp2_with fail
    go_at_call 126;rw[sr.out];refine(HA.out _ _ (au.lit _ _ _ (by have:=sq.out;omega) rfl)).mono ?_;rintro e w2 ⟨rfl,rl⟩;have v:Ext (λk=>N+1<=k) u w2:=by rw[<-rl];exact(Ext.refl _ _).alloc _
    obtain⟨k0,k2,k3,k7,rn,o,q⟩:=K.out w2 v;have rr:=zH v;have sE:=zH q;have sL:=zH o;clear rl v q o;have sR:N<w2.heap.size+1:=by omega
    go_wp2_with (at_builtin;refine aK rfl (.tmp 8) (.tmp 11) rfl (N+1) (.slice qu 0 0) [] rfl (aZ.nil _ _) _ [a] 1 rfl (au.one _ _ rfl) ?c31 ?c32 ?_)
    case c31=>first|omega|(simp<;>omega)|simp
    case c32=>first|omega|(simp<;>omega)|simp
    intro v3 w3 rx sn;obtain⟨rK,rL,rfl⟩:=rx.isSlice;have rB:Ext (λk=>N+1<=k) u w3:=(rr.out.alloc _).trans (Ext.of_grown sn (λk J=> .inl (by first|(have h3:=((aZ.nil _ _).lt k J).1;exact h3)|(simp[eN] at J)))) (λj hj=> .inl hj);obtain⟨k0,k2,k3,k7,rn,_,_⟩:=K.out w3 rB;have sY:=zH rB;have te:ca (aZ w3 (N+1) (.slice rK [a].length rL) [a]):=by unfold ca;simpa using rx
    clear rx sn rB
    try simp only[ej]
    go_wp2_with fail
    go_at_call 126;refine(HB.out _ _ (au.lit _ _ _ rfl rfl)).mono ?_;rintro e y ⟨rfl,A⟩;have D:Ext (λk=>N+1<=k) u y:=by rw[<-A];exact sY.out.alloc _
    have rm:=iF A;obtain⟨k0,k2,k3,k7,rn,o,q⟩:=K.out y D;have rS:=zH D;have se:=zH rm;have sy:=zH q;have rI:=zH o;clear A D rm q o;have HG:ca (jN w [a] (.returned (.slice rK [a].length rL)) y):=⟨_,_,rfl,by rw[R];exact aZ.mono (ownsRow_below te.out se.out) (gb N),by rw[R];exact rI.out⟩
    go_wp2;go_ret;exact HG.out
   |true=>
    rw[cI rfl,cI rfl];rw[hb] at HB;clear ha hb;go_enter pL,pk
    go_wp2_with fail
    go_at_call 126;rw[sr.out];refine(HA.out _ _ (au.lit _ _ _ (by have:=sq.out;omega) rfl)).mono ?_;rintro e w2 ⟨rfl,rl⟩;have v:Ext (λk=>N+1<=k) u w2:=by rw[<-rl];exact(Ext.refl _ _).alloc _
    obtain⟨k0,k2,k3,k7,rn,o,q⟩:=K.out w2 v;have rr:=zH v;have sE:=zH q;have sL:=zH o;clear rl v q o;have sR:N<w2.heap.size+1:=by omega
    go_wp2_with (at_builtin;refine aK rfl (.tmp 8) (.tmp 11) rfl (N+1) (.slice qu 0 0) [] rfl (aZ.nil _ _) _ [a] 1 rfl (au.one _ _ rfl) ?c31 ?c32 ?_)
    case c31=>first|omega|(simp<;>omega)|simp
    case c32=>first|omega|(simp<;>omega)|simp
    intro v3 w3 rx sn;obtain⟨rK,rL,rfl⟩:=rx.isSlice;have rB:Ext (λk=>N+1<=k) u w3:=(rr.out.alloc _).trans (Ext.of_grown sn (λk J=> .inl (by first|(have h3:=((aZ.nil _ _).lt k J).1;exact h3)|(simp[eN] at J)))) (λj hj=> .inl hj);obtain⟨k0,k2,k3,k7,rn,_,_⟩:=K.out w3 rB;have sY:=zH rB;have te:ca (aZ w3 (N+1) (.slice rK [a].length rL) [a]):=by unfold ca;simpa using rx
    clear rx sn rB
    try simp only[ej]
    go_wp2_with fail
    go_at_call 126;refine(HB.out _ _ (au.lit _ _ _ rfl rfl)).mono ?_;rintro e y ⟨rfl,A⟩;have D:Ext (λk=>N+1<=k) u y:=by rw[<-A];exact sY.out.alloc _
    have rm:=iF A;obtain⟨k0,k2,k3,k7,rn,o,q⟩:=K.out y D;have rS:=zH D;have se:=zH rm;have sy:=zH q;have rI:=zH o;clear A D rm q o;have tv:ca (aZ y (N+1) (.slice rK 1 rL) [a]):=ownsRow_below te.out se.out;have sR:N<y.heap.size+1:=by omega
    go_wp2_with (at_builtin;refine aK rfl (.tmp 17) (.tmp 20) rfl (N+1) (.slice rK 1 rL) [a] rfl (ownsRow_below tv.out ((an _ _).alloc (bp _) _)) _ [b] 1 rfl (au.one _ _ rfl) ?c51 ?c52 ?_)
    case c51=>first|omega|(simp<;>omega)|simp
    case c52=>first|omega|(simp<;>omega)|simp
    intro v5 w5 rv sf;obtain⟨sT,sX,rfl⟩:=rv.isSlice;have sk:Ext (λk=>N+1<=k) u w5:=(rS.out.alloc _).trans (Ext.of_grown sf (λk J=> .inl (by first|(have h3:=(tv.out.lt k J).1;exact h3)|(simp[eN] at J)))) (λj hj=> .inl hj);obtain⟨k0,k2,k3,k7,rn,o,_⟩:=K.out w5 sk;have HG:ca (jN w [a,b] (.returned (.slice sT [a,b].length sX)) w5):=⟨_,_,rfl,by rw[R];exact aZ.mono (by simpa using rv) (gb N),by rw[R];exact o⟩
    clear rv sf sk o
    try simp only[gE,ej]
    go_wp2;go_ret;exact HG.out
theorem iZ {P:i8}{W:World}{o:ij}{a:Act}{K:Act->Prop}(f:ge)(x:Operand)(v:o.op= .load f x)
  (q:oA)(y:a.eval x= rb (qt q))(h:cG bw)(d:TypeDesc)(A:∀(p:BW W)(j:cd)(u:bw),h.toList[j]?=qt u->p.w.cell? (q.add j)=qt u)
  (D:P.underlying f=qt d)(G:(match d with| .struct _| .array _ _=>qv|_=>qS)=qv)(J:(P.info? f).map (·.size)=qt h.size)
  (R:K (a.put o.dst (rh h))):o.quiet P a (λw'=>∃p:BW W,w'=p.w) K:=by
 refine⟨_,λw hw=> ?_,R⟩;obtain⟨p,rfl⟩:=hw;unfold Oper.quietAt execOp;simp only[v,y,Instr.loadAt,Instr.sureAddr,fc,Sem.run_pure,lx,gW p.w q f h d (A p) D G J];exact⟨rfl,rfl⟩
theorem dh (n:cd)(xs d:bm cj):aG n (xs++d)=(aG n xs&&aG n d):=by unfold aG;rw[List.all_append]
theorem eF {g:Fn}{i:Ins}(h:aG g.vs.length (readsOf i)=qv)(d:rM i.op=qv):isVar g.vs.length i.a=qv:=by
 unfold readsOf at h;rw[cI d,dh,dh] at h;simp only[eK] at h;simpa[aG] using h.1.1
theorem uZ {g:Fn}{i:Ins}(h:aG g.vs.length (readsOf i)=qv)(d:qU i.op=qv):isVar g.vs.length i.b=qv:=by
 unfold readsOf at h;rw[cI d,dh,dh] at h;simp only[eK] at h;simpa[aG] using h.1.2
theorem yH {g:Fn}{i:Ins}(h:aG g.vs.length (readsOf i)=qv)(d:i.op=15):∀a∈i.args,isVar g.vs.length a=qv:=by
 unfold readsOf at h;rw[cI d,dh,dh] at h;simp only[eK] at h;exact gC.1 h.2
structure Bx (m:Mo)(g:Fn)(i:Ins)(ao:du oA)(N:cd)(W:World):Prop where
 m0:W.cell? ⟨N,0,qu⟩=qt (ra m.sA m.ss.length m.sC)
 m1:W.cell? ⟨N,1,qu⟩=qt (ra m.fA m.fs.length m.fC)
 gr:W.heap[N+1]?=qt (rj #[qT g.c.nm,Z U g.c.par,ra ao g.vs.length g.c.varsC,re g.c.rp,qT g.c.rto,Z U g.c.rcl,ra g.c.fromA g.c.nfrom g.c.fromC,ra g.c.insA g.c.ins.length g.c.insC] 38 (0,0))
 ir:W.heap[N+2]?=qt (rj #[Z U i.op,Z U i.d,Z U i.a,Z U i.b,Z U i.f,Z U i.n,qT i.sign,i.argsV,i.modeV,Z U i.tI,Z U i.els,Z U i.ln,Z U i.cl] 42 (0,0))
theorem Bx.g2 {m:Mo}{g:Fn}{i:Ins}{d:du oA}{N:cd}{W:World}(h:Bx m g i d N W):W.cell? ⟨N+1,2,qu⟩=qt (ra d g.vs.length g.c.varsC):=by rw[bh _ _ _ _ _ _ h.gr];rfl
theorem Bx.g3 {m:Mo}{g:Fn}{i:Ins}{d:du oA}{N:cd}{W:World}(h:Bx m g i d N W):W.cell? ⟨N+1,3,qu⟩=qt (re g.c.rp):=by rw[bh _ _ _ _ _ _ h.gr];rfl
theorem Bx.g4 {m:Mo}{g:Fn}{i:Ins}{d:du oA}{N:cd}{W:World}(h:Bx m g i d N W):W.cell? ⟨N+1,3+1,qu⟩=qt (qT g.c.rto):=by rw[bh _ _ _ _ _ _ h.gr];rfl
theorem Bx.g7 {m:Mo}{g:Fn}{i:Ins}{d:du oA}{N:cd}{W:World}(h:Bx m g i d N W):W.cell? ⟨N+1,7,qu⟩=qt (ra g.c.insA g.c.ins.length g.c.insC):=by rw[bh _ _ _ _ _ _ h.gr];rfl
theorem Bx.i0 {m:Mo}{g:Fn}{i:Ins}{d:du oA}{N:cd}{W:World}(h:Bx m g i d N W):W.cell? ⟨N+2,0,qu⟩=qt (Z U i.op):=by rw[bh _ _ _ _ _ _ h.ir];rfl
theorem Bx.i2 {m:Mo}{g:Fn}{i:Ins}{d:du oA}{N:cd}{W:World}(h:Bx m g i d N W):W.cell? ⟨N+2,2,qu⟩=qt (Z U i.a):=by rw[bh _ _ _ _ _ _ h.ir];rfl
theorem Bx.i3 {m:Mo}{g:Fn}{i:Ins}{d:du oA}{N:cd}{W:World}(h:Bx m g i d N W):W.cell? ⟨N+2,3,qu⟩=qt (Z U i.b):=by rw[bh _ _ _ _ _ _ h.ir];rfl
theorem Bx.i4 {m:Mo}{g:Fn}{i:Ins}{d:du oA}{N:cd}{W:World}(h:Bx m g i d N W):W.cell? ⟨N+2,4,qu⟩=qt (Z U i.f):=by rw[bh _ _ _ _ _ _ h.ir];rfl
theorem Bx.i6 {m:Mo}{g:Fn}{i:Ins}{d:du oA}{N:cd}{W:World}(h:Bx m g i d N W):W.cell? ⟨N+2,6,qu⟩=qt (qT i.sign):=by rw[bh _ _ _ _ _ _ h.ir];rfl
theorem Bx.i9 {m:Mo}{g:Fn}{i:Ins}{d:du oA}{N:cd}{W:World}(h:Bx m g i d N W):W.cell? ⟨N+2,9,qu⟩=qt (Z U i.tI):=by rw[bh _ _ _ _ _ _ h.ir];rfl
theorem Bx.i10 {m:Mo}{g:Fn}{i:Ins}{d:du oA}{N:cd}{W:World}(h:Bx m g i d N W):W.cell? ⟨N+2,10,qu⟩=qt (Z U i.els):=by rw[bh _ _ _ _ _ _ h.ir];rfl
theorem cK {w:World}{b:cd}{d:cG bw}{t:ge}(h:w.heap[b]?=qt (rj d t (0,0))):∀j u,d.toList[j]?=qt u->w.cell? ((⟨b,0,qu⟩:oA).add j)=qt u:=by
 intro j u f;rw[cM,cH,bh _ _ _ _ _ _ h];rw[<-f,m6]
theorem eO {m:Mo}{g:Fn}{i:Ins}{w:World}(h:mr w m g)(R:i.args_in w)(rl:i.args.length<=40):∃q N o,w.heap.size=N/\o.heap.size=N+3/\
  ((w.alloc (rj m.cells 25)).alloc (rj (gc g q) 38)).alloc (rj i.cells 42)=o/\ca (w.heap.size=N)/\ca (o.heap.size=N+3)/\ca (g.cells=gc g q)/\ca (g.c.varsA=q)/\
  ca (∀W,aq (N+3) o W->Bx m g i q N W)/\ca (∀W,aq (N+3) o W->aq N w W)/\ca (∀W,aq (N+3) o W->mr W m g)/\ca (∀W,aq (N+3) o W->i.args_in W)/\
  ca (∀W v y (xs:bm cj),xs.length<=42->au W v xs->zP 87 #[rh #[qT g.c.nm,Z U g.c.par,ra q g.vs.length g.c.varsC,re g.c.rp,qT g.c.rto,Z U g.c.rcl,ra g.c.fromA g.c.nfrom g.c.fromC,ra g.c.insA g.c.ins.length g.c.insC],ra v xs.length y] W (re (aG g.vs.length xs)))/\
  ca (∀W,zP 86 #[rh #[Z U i.op,Z U i.d,Z U i.a,Z U i.b,Z U i.f,Z U i.n,qT i.sign,i.argsV,i.modeV,Z U i.tI,Z U i.els,Z U i.ln,Z U i.cl]] W (.tuple #[Z U (aS i).1,re (aS i).2]))/\
  ca (∀W,aq (N+3) o W->ft ac 88 #[rh #[Z U i.op,Z U i.d,Z U i.a,Z U i.b,Z U i.f,Z U i.n,qT i.sign,i.argsV,i.modeV,Z U i.tI,Z U i.els,Z U i.ln,Z U i.cl]] W (jN W (readsOf i)))/\ca ((readsOf i).length<=42):=by
 obtain⟨q,rm⟩:=zE g.c.varsA;have D:=jl h.nv rm;obtain⟨N,A⟩:=zE w.heap.size;obtain⟨o,rn⟩:=zE (((w.alloc (rj m.cells 25)).alloc (rj g.cells 38)).alloc (rj i.cells 42));obtain⟨rr,G,r0,J,r2⟩:=Av rn;rw[A] at rr G r0 J r2;rw[D] at J;have rx:ca (∀W,aq (N+3) o W->Bx m g i q N W):=λW u=>by
  have q0:=(u.block N (by omega)).trans r0;exact⟨by rw[bh _ _ _ _ _ _ q0];rfl,by rw[bh _ _ _ _ _ _ q0];rfl,(u.block (N+1) (by omega)).trans J,(u.block (N+2) (by omega)).trans r2⟩
 have K:ca (∀W,aq (N+3) o W->aq N w W):=λW u=>rr.trans (u.mono (by omega));have HJ:ca (∀W,aq (N+3) o W->mr W m g):=λW u=>h.below (by rw[A];exact K.out W u);have rv:ca (∀W,aq (N+3) o W->i.args_in W):=λW u=>by
  obtain⟨h1,q,cap,h2,h3⟩:=R;exact⟨h1,q,cap,h2,aH.grow h3 (by rw[A];exact K.out W u)⟩
 have rB:=R.1;have rI:ca (∀W v y (xs:bm cj),xs.length<=42->au W v xs->zP 87 #[rh #[qT g.c.nm,Z U g.c.par,ra q g.vs.length g.c.varsC,re g.c.rp,qT g.c.rto,Z U g.c.rcl,ra g.c.fromA g.c.nfrom g.c.fromC,ra g.c.insA g.c.ins.length g.c.insC],ra v xs.length y] W (re (aG g.vs.length xs))):=λW v y xs hx rK=>by
  have:=yF g W v y xs h.nv (by unfold dl;omega) rK;rw[D] at this;exact this
 have rL:ca (∀W,zP 86 #[rh #[Z U i.op,Z U i.d,Z U i.a,Z U i.b,Z U i.f,Z U i.n,qT i.sign,i.argsV,i.modeV,Z U i.tI,Z U i.els,Z U i.ln,Z U i.cl]] W (.tuple #[Z U (aS i).1,re (aS i).2])):=λW=>oD i W rB;have rN:ca (∀W,aq (N+3) o W->ft ac 88 #[rh #[Z U i.op,Z U i.d,Z U i.a,Z U i.b,Z U i.f,Z U i.n,qT i.sign,i.argsV,i.modeV,Z U i.tI,Z U i.els,Z U i.ln,Z U i.cl]] W (jN W (readsOf i))):=λW u=>pR i W (rv.out W u) rl;have rS:=zH rl;have se:ca ((readsOf i).length<=42):=by
  unfold ca readsOf;simp only[co];have:(if rM i.op=qv then[i.a] else[]).length<=1:=by split<;>simp
  have:(if qU i.op=qv then[i.b] else[]).length<=1:=by split<;>simp
  have:(if i.op=15 then i.args else[]).length<=40:=by split<;>first|exact rS.out|simp
  omega
 exact⟨q,N,o,A,G,by rw[<-rn,D],A,G,D,rm,rx,K,HJ,rv,rI,rL,rN,se⟩
theorem eT {g:Fn}{i:Ins}(v:¬i.op<1)(y:¬18<i.op):∃f o q,decide (i.op<1)=qS/\decide (18<i.op)=qS/\ca (¬(i.op<1\/18<i.op))/\ca (aG g.vs.length [i.d]=o)/\ca (aG g.vs.length (readsOf i)=q)/\ca (ou i.op=f)/\
  ca (aS i=if f=qv then(i.d,qv) else(0,qS))/\ca (aG g.vs.length (readsOf i++(if ou i.op=qv then[i.d] else[]))=(q&&(!f||o))):=by
 obtain⟨f,u⟩:=zE (ou i.op);obtain⟨o,A⟩:=zE (aG g.vs.length [i.d]);obtain⟨q,D⟩:=zE (aG g.vs.length (readsOf i));refine⟨f,o,q,cv v,cv y,λh=>h.elim v y,A,D,u, ?_, ?_⟩
 ·unfold ca aS;rw[u]
 ·unfold ca
  rw[dh,D,u];cases f with
  |true=>rw[cI rfl,A];rfl
  |false=>rw[cw (by simp)];simp[aG]
theorem dK {m:Mo}{g:Fn}{i:Ins}{R:cj}{f o q:Bool}(u:ca (aC m g i=R))(v:ca (¬(i.op<1\/18<i.op)))(y:ca (aG g.vs.length (readsOf i++(if ou i.op=qv then[i.d] else[]))=(q&&(!f||o))))(h:(q&&(!f||o))=qv):
  R=if i.op=15 then gD m g.vs i else if i.op=16 then bv (isVar g.c.ins.length i.tI) 15 else if i.op=17 then(if isVar g.c.ins.length i.tI&&isVar g.c.ins.length i.els then dB g.vs [i.a] else 15) else if i.op=18 then bv (ak g.vs i.a==g.ret) 7 else aj m g.vs i:=by
 rw[<-u.out];unfold aC;rw[cw v.out,cw (by rw[y.out,h];simp)]
theorem rV (m:Mo)(g:Fn)(i:Ins)(w:World)(h:mr w m g)(u:i.args_in w)(y:i.args.length<=40)(rm:∀v,isVar g.vs.length v=qv->m.known (ak g.vs v)=qv)(rn:i.op<1\/18<i.op):
  zP 49 #[rh m.cells,rh g.cells,rh i.cells] w (Z U (aC m g i)):=by
 obtain⟨ao,N,f,hN,rr,o,A,rN,rv,rS,D,rx,HJ,se,sf,rB,sk,sn⟩:=eO h u y;rw[rv.out];simp only[Mo.cells,gc,Ins.cells] at o⊢;have G:=zH o;obtain⟨R,q⟩:=zE (aC m g i);rw[q];have HR:=zH q;have J:ca (R=3):=by unfold ca;rw[<-HR.out];unfold aC;rw[cI rn]
 have K:=D.out f (an _ _);have rI:=zH K.ir;clear h u y rm o q;have rK:f.heap.size=N+3:=rr;go_enter func49,qn
 go_upto_region 1 with(fail)
 rw[G.out];clear G K hN
 go_upto_region 2 with(first
  |(refine bo rfl 42 _ rfl (N+2) rfl 42 _ (0,0) _ rI.out cr rfl (by kernel_rfl) ?_)
  |(go_at_call 86;refine(rB.out _).mono ?_;rintro e w2 ⟨rfl,d⟩;have rL:=zH d;clear d))
 have d:aq (N+3) f w2:=by have:=rL.out;rwa [rK] at this
 have i0:=(D.out w2 d).i0;have rl:=zH (rx.out w2 d)
 by_cases h1:i.op<1
 ·have o1:decide (i.op<1)=qv:=dy h1
  go_wp2;go_ret;rw[J.out,A.out];exact⟨rfl,rl.out⟩
 ·have o1:decide (i.op<1)=qS:=cv h1
  have h2:18<i.op:=by omega
  have o2:decide (18<i.op)=qv:=dy h2;go_wp2;go_ret;rw[J.out,A.out];exact⟨rfl,rl.out⟩
end Go.Proofs.YtjomgckjhcfbgaaGreat
