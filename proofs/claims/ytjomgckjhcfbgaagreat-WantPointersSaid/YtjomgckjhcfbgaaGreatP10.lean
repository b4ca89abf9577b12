/- Walks. -/
import Derived.Test.YtjomgckjhcfbgaaGreatP7
set_option maxRecDepth 100000
set_option maxHeartbeats 64000000
set_option linter.all false
namespace Go.Proofs.YtjomgckjhcfbgaaGreat
open Go.RowKit
open Go.Proofs.Tryz renaming prog→am,underlying42→cA,underlying38→cJ,underlying32→dT,ntmps85→rd,ntmps90→re,ntmps88→rg,func85→rS,func90→se,func88→sf,ntmps49→sY
open _root_.List renaming getElem?_eq_getElem→ap,length_append→bm,getElem?_eq_some_iff→bo,mem_of_getElem?→ci,take_length→cL,append_nil→eA,nil_append→eK,cons_append→gh,all_eq_true→gn,any_eq_true→js,any_eq_false→j8,all_eq_false→lR,getElem?_eq_none→m9
open Go.RowKit.Below renaming refl→aq,heap_alloc→cE
open _root_ renaming Int→aw,Nat→bj,ByteArray→bl,List→bp,if_neg→bw,decide_eq_false→cm,Option→cC,if_pos→cH,beq_eq_false_iff_ne→cN,decide_eq_true→cR,Array→dl,absurd→fz,Bool→ml,bne_iff_ne→oe
open Go.RowKit renaming Below→aE,Hid→cg,intOf→dp
open _root_.Array renaming getElem?_eq_some_iff→br
open Go renaming cell_of_row→bt,wpList_load_row→cf,run_storeCells_new→cr,Value→cw,storeCells→dd,frozen_of_row→de,bodyPost_ret→dk,wpQuiet_nil→dr,maxLen→du,Addr→fg,Calls→fj,beq_toListBytes→fx,TypeId→fX,below_drewN→hU,Oper→kj,Program→km
open _root_.Nat renaming le_refl→cd,zero_add→cI,zero_le→cM,le_succ→iu
open Go.Value renaming oneCell'→cn,ownBlock→eL,string→eM,int→eS,string→tm,slice→tn,pointer→tr,bool→tt,agg→tv,int→Z
open _root_.Option.some renaming inj→cy,injEq→dj
open Go.Exit renaming inBlock→cQ
open Go.Addr renaming add_lit→cU
open _root_.Bool renaming and_eq_true→ej,true→ti,false→tj
open _root_.Int renaming toNat_natCast→ep
open Go.Addr.mk renaming injEq→eV
open Go.Sem renaming run_bind→ft,run_pure→rn
open Go.Op renaming equalIn→gt
open _root_.ByteArray renaming empty→kh
open Go.Result renaming andThen_ok→kB
open _root_.Prod.mk renaming injEq→pp
open _root_.Option renaming some→tf,none→th
open Go.Obj renaming cells→tA
open Go.IntKind renaming i64→U
open Tryz
theorem mG (m:Mo)(nm:bl)(w:World)(J:m.fs.length<=du)(h:aH Fn.cells 8 w w.heap.size m.fA m.fs):
  zP 50 #[tv m.cells,tm nm] w (Z U (m.fnIx nm)):=by
 obtain⟨R,v⟩:=zE (m.fnIx nm);rw[v];have x:cg (R=fV (λf:Fn=>f.c.nm==nm) m.fs):=by rw[<-v];rfl
 obtain⟨sA,sC,fA,fC,z,fs⟩:=m;simp only at J h x;have H:=zH h;unfold du at J;simp only[Mo.cells];clear v h;obtain⟨N,hN⟩:=zE w.heap.size;obtain⟨W1,q⟩:=zE (w.alloc (tA #[tn sA z.length sC,tn fA fs.length fC] 25));have d:W1.heap[N]?=tf (tA #[tn sA z.length sC,tn fA fs.length fC] 25 (0,0)):=by rw[<-q,<-hN];exact alloc_at _ _
 have c1:W1.cell? ⟨N,0,th⟩=tf (tn sA z.length sC):=(bt _ _ _ _ _ _ d).trans rfl;have c2:W1.cell? ⟨N,1,th⟩=tf (tn fA fs.length fC):=(bt _ _ _ _ _ _ d).trans rfl;have A:=gy q;have K:=zH A;have tE:=zH q;have H1:=zH (H.out.grow A);clear d A q;go_enter func50,ntmps50
 go_upto_region 1 with(fail)
 rw[tE.out]
 go_wp2_with fail
 go_loopw [5] (λk wr=>∃j:bj,j<=fs.length/\k= Z U (j:aw)/\(∀f∈fs.take j,(f.c.nm==nm)=tj)/\wr=W1) (λk _=>fs.length-(dp k).toNat)
 case atStart=>exact⟨0,cM _,rfl,by simp,rfl⟩
 case round=>
  obtain⟨j,hj,rfl,o,rfl⟩:=hrel
  by_cases E:j<fs.length
  ·obtain⟨f,t⟩:∃y,fs[j]?=tf y:=⟨_,ap E⟩
   obtain⟨g1,tG,rfl,tP,d⟩:=H1.out (by intro e;rw[e] at E;simp at E);have d0:wr.cell? ⟨g1,tG+j*8,th⟩=tf (tm f.c.nm):=d j f t 0 _ rfl;have tR:(j:aw)<(fs.length:aw):=by omega
   have W:=zH o;have HY:=zH t
   by_cases u:f.c.nm=nm
   ·subst u
    have G:cg (R=(j:aw)):=by unfold cg;rw[x.out];exact iI (p:=λg:Fn=>g.c.nm==f.c.nm) W.out HY.out (by simp)
    clear o t d;go_wp2;go_ret;rw[G.out];exact⟨rfl,K.out⟩
   ·have tD:¬(f.c.nm.toList=nm.toList):=λe=>u (eq_of_beq (by rw[fx,e];simp))
    have tS:(f.c.nm.toList==nm.toList)=tj:=by simpa using tD
    clear tD;have HD:cg ((f.c.nm==nm)=tj):=by unfold cg;simp[u]
    clear o t d u;go_wp2;exact⟨⟨j+1,by omega,by go_num,dE (p:=λf:Fn=>f.c.nm==nm) W.out HY.out HD.out,by first|rfl|trivial⟩,by simp[dp];omega⟩
  ·have tM:j=fs.length:=by omega
   subst tM;rw[cL] at o;have G:cg (R= -1):=by unfold cg;rw[x.out];exact fH (p:=λf:Fn=>f.c.nm==nm) o
   clear o;go_wp2;go_ret;rw[G.out];exact⟨rfl,K.out⟩
theorem ig (m:Mo)(nm:bl)(w:World)(G:m.ss.length<=du)(h:aH St.cells 4 w w.heap.size m.sA m.ss):
  zP 84 #[tv m.cells,tm nm] w (Z U (m.stIx nm)):=by
 obtain⟨R,v⟩:=zE (m.stIx nm);rw[v];have x:cg (R=fV (λf:St=>f.s.nm==nm) m.ss):=by rw[<-v];rfl
 obtain⟨sA,sC,fA,fC,ss,fs⟩:=m;simp only at G h x;have H:=zH h;unfold du at G;simp only[Mo.cells];clear v h;obtain⟨N,hN⟩:=zE w.heap.size;obtain⟨W1,q⟩:=zE (w.alloc (tA #[tn sA ss.length sC,tn fA fs.length fC] 25));have d:W1.heap[N]?=tf (tA #[tn sA ss.length sC,tn fA fs.length fC] 25 (0,0)):=by rw[<-q,<-hN];exact alloc_at _ _
 have c1:W1.cell? ⟨N,0,th⟩=tf (tn sA ss.length sC):=(bt _ _ _ _ _ _ d).trans rfl;have c2:W1.cell? ⟨N,1,th⟩=tf (tn fA fs.length fC):=(bt _ _ _ _ _ _ d).trans rfl;have z:=gy q;have J:=zH z;have tE:=zH q;have H1:=zH (H.out.grow z);clear d z q;go_enter func84,ntmps84
 go_upto_region 1 with(fail)
 rw[tE.out]
 go_wp2_with fail
 go_loopw [5] (λk wr=>∃j:bj,j<=ss.length/\k= Z U (j:aw)/\(∀f∈ss.take j,(f.s.nm==nm)=tj)/\wr=W1) (λk _=>ss.length-(dp k).toNat)
 case atStart=>exact⟨0,cM _,rfl,by simp,rfl⟩
 case round=>
  obtain⟨j,hj,rfl,o,rfl⟩:=hrel
  by_cases A:j<ss.length
  ·obtain⟨f,t⟩:∃y,ss[j]?=tf y:=⟨_,ap A⟩
   obtain⟨g1,tG,rfl,tP,d⟩:=H1.out (by intro e;rw[e] at A;simp at A);have d0:wr.cell? ⟨g1,tG+j*4,th⟩=tf (tm f.s.nm):=d j f t 0 _ rfl;have tR:(j:aw)<(ss.length:aw):=by omega
   have K:=zH o;have W:=zH t
   by_cases u:f.s.nm=nm
   ·subst u
    have E:cg (R=(j:aw)):=by unfold cg;rw[x.out];exact iI (p:=λg:St=>g.s.nm==f.s.nm) K.out W.out (by simp)
    clear o t d;go_wp2;go_ret;rw[E.out];exact⟨rfl,J.out⟩
   ·have tD:¬(f.s.nm.toList=nm.toList):=λe=>u (eq_of_beq (by rw[fx,e];simp))
    have tS:(f.s.nm.toList==nm.toList)=tj:=by simpa using tD
    clear tD;have HD:cg ((f.s.nm==nm)=tj):=by unfold cg;simp[u]
    clear o t d u;go_wp2;exact⟨⟨j+1,by omega,by go_num,dE (p:=λf:St=>f.s.nm==nm) K.out W.out HD.out,by first|rfl|trivial⟩,by simp[dp];omega⟩
  ·have tM:j=ss.length:=by omega
   subst tM;rw[cL] at o;have E:cg (R= -1):=by unfold cg;rw[x.out];exact fH (p:=λf:St=>f.s.nm==nm) o
   clear o;go_wp2;go_ret;rw[E.out];exact⟨rfl,J.out⟩
theorem bn (b:ml)(f:aw)(w:World):zP 51 #[tt b,Z U f] w (Z U (bN (!b) f)):=by
 cases b with
 |true=>
  go_enter func51,ntmps51;go_wp2;go_ret;exact⟨rfl,aq _ _⟩
 |false=>
  go_enter func51,ntmps51;go_wp2;go_ret;exact⟨rfl,aq _ _⟩
theorem oh {α:Type}{p:α->ml}{xs:bp α}{y:α}{j:bj}(d:xs[j]?=tf y)(e:p y=tj):xs.all p=tj:=by
 rw[lR];exact⟨y,ci d,by simp[e]⟩
theorem Bp (g:Fn)(w:World)(ao:cC fg)(cap:bj)(xs:bp aw)(W:g.c.nvars=g.vs.length)(hl:xs.length<=du)(h:ak w ao xs):
  zP 87 #[tv g.cells,tn ao xs.length cap] w (tt (aK g.vs.length xs)):=by
 obtain⟨R,v⟩:=zE (aK g.vs.length xs);rw[v];have t:cg (R=xs.all (isVar g.vs.length)):=by rw[<-v];rfl
 unfold du at hl;simp only[Fn.cells,dP.cells];rw[W];clear v W;obtain⟨N,hN⟩:=zE w.heap.size;obtain⟨W1,u⟩:=zE (w.alloc (tA #[tm g.c.nm,Z U g.c.par,tn g.c.varsA g.vs.length g.c.varsC,tt g.c.rp,tm g.c.rto,Z U g.c.rcl,tn g.c.fromA g.c.nfrom g.c.fromC,tn g.c.insA g.c.ins.length g.c.insC] 38));have d:W1.heap[N]?=tf (tA #[tm g.c.nm,Z U g.c.par,tn g.c.varsA g.vs.length g.c.varsC,tt g.c.rp,tm g.c.rto,Z U g.c.rcl,tn g.c.fromA g.c.nfrom g.c.fromC,tn g.c.insA g.c.ins.length g.c.insC] 38 (0,0)):=by rw[<-u,<-hN];exact alloc_at _ _
 have tD:cg (W1.cell? ⟨N,2,th⟩=tf (tn g.c.varsA g.vs.length g.c.varsC)):=(bt _ _ _ _ _ _ d).trans rfl;have A:=gy u;have E:=zH A;have tE:=zH u;have H1:=zH (h.below A);obtain⟨n,tG⟩:=zE g.vs.length;rw[tG] at t tD tE⊢;clear d A u tG h;go_enter func87,ntmps87
 go_upto_region 1 with(fail)
 rw[tE.out]
 go_wp2_with fail
 go_loopw [5] (λk wr=>∃j n':bj,j<=xs.length/\k= Z U (j:aw)/\(∀x∈xs.take j,isVar n x=ti)/\wr=W1.drewN n') (λk _=>xs.length-(dp k).toNat)
 case atStart=>exact⟨0,0,cM _,rfl,by simp,rfl⟩
 case round=>
  obtain⟨j,n',hj,rfl,f,rfl⟩:=hrel
  by_cases G:j<xs.length
  ·obtain⟨x,o⟩:∃y,xs[j]?=tf y:=⟨_,ap G⟩
   obtain⟨g1,tM,rfl,tS,d⟩:=H1.out (by intro e;rw[e] at G;simp at G);have d0:W1.cell? ⟨g1,tM+j,th⟩=tf (Z U x):=d j x o;have c2:=tD.out;have tU:(j:aw)<(xs.length:aw):=by omega
   have HZ:=zH f;have J:=zH o
   by_cases K:x<0
   ·have q:cg (R=tj):=by unfold cg;rw[t.out];exact oh J.out (by unfold isVar;rw[cm (by omega)];rfl)
    have e0:decide (x<0)=ti:=cR K;clear f o d;go_wp2
    go_quiet (fail)
    go_wp2;go_ret;rw[q.out];exact⟨rfl,hU (hU E.out _) _⟩
   by_cases tP:(n:aw)<=x
   ·have q:cg (R=tj):=by unfold cg;rw[t.out];exact oh J.out (by unfold isVar;rw[cm (show¬x<(n:aw) by omega),Bool.and_false])
    have e0:decide (x<0)=tj:=cm K;clear f o d;go_wp2
    go_quiet (fail)
    go_wp2;go_ret;rw[q.out];exact⟨rfl,hU (hU E.out _) _⟩
   ·have HD:cg (isVar n x=ti):=by unfold cg isVar;rw[cR (by omega),cR (by omega)];rfl
    have e0:decide (x<0)=tj:=cm K;have e1:decide ((n:aw)<=x)=tj:=cm tP;clear f o d;go_wp2
    go_quiet (fail)
    go_wp2;go_roundw
    case rel=>exact⟨j+1,_,by omega,by go_num,dw (p:=λz=>isVar n z=ti) HZ.out J.out HD.out,rfl⟩
    case measure=>simp[dp];omega
  ·have tR:j=xs.length:=by omega
   subst tR;rw[cL] at f;have q:cg (R=ti):=by unfold cg;rw[t.out,gn];exact f
   clear f;go_wp2;go_ret;rw[q.out];exact⟨rfl,hU E.out _⟩
theorem Bq {w:World}{B:bj}{xs:bp bl}(d:B=w.heap.size):aR (w.alloc (tA (xs.map eM).toArray 9)) (tf ⟨B,0,th⟩) xs:=by
 subst d;intro _;refine⟨w.heap.size,0,rfl,by simp,λk u e=> ?_⟩;rw[cI,World.cell?_alloc_new];simp[e]
theorem xn {α:Type}{p:α->ml}{xs:bp α}(h:∀z∈xs,p z=tj):xs.any p=tj:=by
 rw[j8];intro x d;rw[h x d];simp
theorem zm (s:bl)(w:World):zP 89 #[tm s] w (tt (fZ.any λx=>x==s)):=by
 obtain⟨R,f⟩:=zE (fZ.any λx=>x==s);rw[f];obtain⟨N,hN⟩:=zE w.heap.size;obtain⟨W1,g⟩:=zE (w.alloc (tA #[tm ⟨#[43]⟩,tm ⟨#[45]⟩,tm ⟨#[42]⟩,tm ⟨#[47]⟩,tm ⟨#[37]⟩,tm ⟨#[60]⟩,tm ⟨#[60,61]⟩,tm ⟨#[62]⟩,tm ⟨#[62,61]⟩,tm ⟨#[61,61]⟩,tm ⟨#[33,61]⟩] 9));have hst:aR W1 (tf ⟨N,0,th⟩) fZ:=by rw[<-g];exact Bq hN.symm
 have A:=gy g;obtain⟨xs,q⟩:=zE fZ;have t:xs.length=11:=by rw[<-q];rfl
 rw[q] at hst f;have HS:=zH hst;have E:=zH f;have G:=zH A;have tD:=zH g;clear hst f A g q;go_enter func89,ntmps89
 go_upto_region 2 with(fail)
 rw[tD.out]
 go_wp2_with fail
 go_loopw [4] (λk wr=>∃j:bj,j<=11/\k= Z U (j:aw)/\(∀x∈xs.take j,(x==s)=tj)/\wr=W1) (λk _=>11-(dp k).toNat)
 case atStart=>exact⟨0,cM _,rfl,by simp,rfl⟩
 case round=>
  obtain⟨j,hj,rfl,d,rfl⟩:=hrel
  by_cases tG:j<11
  ·obtain⟨x,h⟩:∃y,xs[j]?=tf y:=⟨_,ap (by omega)⟩
   obtain⟨g1,tM,J,tP,u⟩:=HS.out (by intro e;rw[e] at t;simp at t);simp only[dj,eV,and_true] at J;obtain⟨rfl,rfl⟩:=J;have d0:wr.cell? ⟨N,j,th⟩=tf (tm x):=by have:=u j x h;rwa [cI] at this
   have tR:(j:aw)<11:=by omega
   have HZ:=zH d;have K:=zH h
   by_cases o:x=s
   ·subst o
    have v:cg (R=ti):=by unfold cg;rw[<-E.out,js];exact⟨x,ci K.out,by simp⟩
    clear d h u;go_wp2;go_ret;rw[v.out];exact⟨rfl,G.out⟩
   ·have W:¬(x.toList=s.toList):=λe=>o (eq_of_beq (by rw[fx,e];simp))
    have tS:(x.toList==s.toList)=tj:=by simpa using W
    clear W;have HD:cg ((x==s)=tj):=by unfold cg;simp[o]
    clear d h u o;go_wp2;exact⟨⟨j+1,by omega,by go_num,dE (p:=λz:bl=>z==s) HZ.out K.out HD.out,by first|rfl|trivial⟩,by simp[dp];omega⟩
  ·have tE:j=11:=by omega
   subst tE;rw[show(11:bj)=xs.length from t.symm,cL] at d;have v:cg (R=tj):=by unfold cg;rw[<-E.out];exact xn d
   clear d;go_wp2;go_ret;rw[v.out];exact⟨rfl,G.out⟩
theorem xq (m:Mo)(p:ml)(s:bl)(w:World)(hn:m.ss.length<=du)(h:aH St.cells 4 w w.heap.size m.sA m.ss):
  zP 85 #[tv m.cells,tv #[tt p,tm s]] w (tt (m.known (p,s))):=by
 obtain⟨R,v⟩:=zE (m.known (p,s));rw[v];have f:cg (R=if p=ti then decide (0<=m.stIx s) else s==kh):=by rw[<-v];rfl
 have y:=zH (dB p tj s kh);obtain⟨N,z⟩:=zE w.heap.size;obtain⟨W1,g⟩:=zE ((w.alloc (tA m.cells 25)).alloc (tA #[tt p,tm s] 32));have q:=EX g;have tE:W1.heap.size=N+2:=by rw[<-g];simp[z]
 have J:=vZ g z;have K:=yo g z;have HK:cg (∀W,aE W1.heap.size W1 W->W.cell? ⟨N,0,th⟩=tf (tn m.sA m.ss.length m.sC)/\W.cell? ⟨N,1,th⟩=tf (tn m.fA m.fs.length m.fC)/\W.cell? ⟨N+1,0,th⟩=tf (tt p)/\W.cell? ⟨N+1,1,th⟩=tf (tm s)/\aE w.heap.size w W):=λW A=>by
  have q1:=(A.block N (by omega)).trans J;have q2:=(A.block (N+1) (by omega)).trans K;exact⟨by rw[bt _ _ _ _ _ _ q1];rfl,by rw[bt _ _ _ _ _ _ q1];rfl,by rw[bt _ _ _ _ _ _ q2];rfl,by rw[bt _ _ _ _ _ _ q2];rfl,q.trans (A.mono q.size)⟩
 obtain⟨c0,c1,c2,c3,_⟩:=HK.out W1 (aq _ _);have t:=zH (ig m s W1 hn (h.grow q));have j:=zH q;have E:=g;simp only[Mo.cells] at E t;have u:=zH E;simp only[Mo.cells];clear q J K g E h v;cases p with
 |false=>
  have he:(kh).toList=([]:bp UInt8):=by simp[ByteArray.toList,ByteArray.toList.loop]
  by_cases hs:s.toList=[]
  ·have d:cg (R=ti):=by unfold cg;rw[f.out,bw (by simp),fx,he,hs];rfl
   clear f y;go_enter rS,rd
   go_upto_region 1 with(fail)
   rw[u.out];go_wp2;go_ret;rw[d.out];exact⟨rfl,j.out⟩
  ·have d:cg (R=tj):=by unfold cg;rw[f.out,bw (by simp),fx,he,cN];exact hs
   clear f y;go_enter rS,rd
   go_upto_region 1 with(fail)
   rw[u.out];go_wp2;go_ret;rw[d.out];exact⟨rfl,j.out⟩
 |true=>
  have d:cg (R=decide (0<=m.stIx s)):=by unfold cg;rw[f.out,cH rfl]
  obtain⟨x,hx⟩:=zE (m.stIx s);rw[hx] at t d;clear f y hx
  by_cases tD:0<=x
  ·go_enter rS,rd
   go_upto_region 1 with(fail)
   rw[u.out]
   go_wp2_with fail
   go_at_call 84;refine t.out.mono ?_;rintro e w2 ⟨rfl,o⟩;have G:=zH (j.out.trans (o.mono j.out.size));clear o c0 c1 c2 c3;go_wp2;go_ret;rw[d.out];exact⟨by simp[tD],G.out⟩
  ·go_enter rS,rd
   go_upto_region 1 with(fail)
   rw[u.out]
   go_wp2_with fail
   go_at_call 84;refine t.out.mono ?_;rintro e w2 ⟨rfl,o⟩;have G:=zH (j.out.trans (o.mono j.out.size));clear c0 c1 c2 c3;obtain⟨_,_,c2,c3,_⟩:=HK.out w2 o;clear o;go_wp2;go_ret;rw[d.out];exact⟨by simp,G.out⟩
theorem iK (m:Mo)(g:Fn)(v f:aw)(w:World)(h:nR w m g)(hv:isVar g.vs.length v=ti)(hk:m.known (ax g.vs v)=ti):
  zP 127 #[tv m.cells,tv g.cells,Z U v,Z U f] w (.tuple #[vG (aI m g.vs v f).1,Z U (aI m g.vs v f).2]):=by
 have HS:cg (∀W s,aE w.heap.size w W->zP 84 #[tv m.cells,tm s] W (Z U (m.stIx s))):=
  λW s z=>ig m s W h.mo.ns (h.mo.below z).srow
 simp only[Mo.cells] at HS;have J:cg (aI m g.vs v f=(if (ax g.vs v).1=tj then(bG,7) else match m.ss[(m.stIx (ax g.vs v).2).toNat]? with
  |none=>(bG,15)
  |some s=>if f<0 then(bG,15) else match s.fs[f.toNat]? with
   |none=>(bG,15)
   |some x=>(x.ty,0):Ty×aw)):=rfl
 have HJ:=zH h;have HK:=zH hk;obtain⟨kv,o,K,xv,rfl,yk,vr,xF,tE,ur,uv⟩:=dM h.vars hv;obtain⟨⟨b,s⟩,ht⟩:∃t,ax g.vs (kv:aw)=t:=⟨_,rfl⟩
 rw[ht] at tE;simp only[pp] at tE;rw[<-tE.1] at ur;rw[<-tE.2] at uv;rw[ht] at J HK;obtain⟨F,hF⟩:=zE (aI m g.vs (kv:aw) f);rw[hF] at J⊢;have hst:=λw c hc=>
  cr (P:=am) w 32 c #[tt b,tm s] (by show _=tf 2;kernel_rfl) hc (by simp[cn])
 have vt:=h.nv;have xT:=h.vl;unfold du at xT;have yp:(kv:aw)<(g.vs.length:aw):=by omega
 simp only[Mo.cells,Fn.cells,dP.cells];rw[vt,vr];clear h hv hk ht hF tE vt vr;obtain⟨N,hN⟩:=zE w.heap.size;obtain⟨Wa,tG⟩:=zE (w.alloc (tA #[tn m.sA m.ss.length m.sC,tn m.fA m.fs.length m.fC] 25));have vu:=ik tG hN;have tW:Wa.heap.size=N+1:=by rw[<-tG];simp[hN]
 have vx:Wa.heap[N]?=tf (tA #[tn m.sA m.ss.length m.sC,tn m.fA m.fs.length m.fC] 25 (0,0)):=by rw[<-tG,<-hN];exact alloc_at _ _
 obtain⟨Wb,tM⟩:=zE (Wa.alloc (tA #[tm g.c.nm,Z U g.c.par,tn (tf ⟨o,K,th⟩) g.vs.length g.c.varsC,tt g.c.rp,tm g.c.rto,Z U g.c.rcl,tn g.c.fromA g.c.nfrom g.c.fromC,tn g.c.insA g.c.ins.length g.c.insC] 38));have ux:aE (N+1) Wa Wb:=by rw[<-tM,<-tW];exact(aq _ _).alloc (cd _) _
 have ua:Wb.heap.size=N+2:=by rw[<-tM];simp[tW]
 have vy:Wb.heap[N+1]?=tf (tA #[tm g.c.nm,Z U g.c.par,tn (tf ⟨o,K,th⟩) g.vs.length g.c.varsC,tt g.c.rp,tm g.c.rto,Z U g.c.rcl,tn g.c.fromA g.c.nfrom g.c.fromC,tn g.c.insA g.c.ins.length g.c.insC] 38 (0,0)):=by rw[<-tM,<-tW];exact alloc_at _ _
 obtain⟨W1,tP⟩:=zE (Wb.alloc (tA #[tt tj,tm ⟨#[]⟩] 32));have ub:aE (N+2) Wb W1:=by rw[<-tP,<-ua];exact(aq _ _).alloc (cd _) _
 have vc:W1.heap.size=N+3:=by rw[<-tP];simp[ua]
 have we:W1.heap[N+2]?=tf (tA #[tt tj,tm ⟨#[]⟩] 32 (0,0)):=by rw[<-tP,<-ua];exact alloc_at _ _
 have wg:=(ub.block (N+1) (by omega)).trans vy;have wj:=(ub.block N (by omega)).trans ((ux.block N (by omega)).trans vx);have R:=(vu.trans (ux.mono (by omega))).trans (ub.mono (by omega));have c0:=zR wg 2 (tn (tf ⟨o,K,th⟩) g.vs.length g.c.varsC);have c1:W1.cell? ⟨o,K+kv*3,th⟩=tf (tt b):=by rw[R.cell (p:=⟨o,_,th⟩) (show o<N by omega)];exact ur
 have c2:W1.cell? ⟨o,K+kv*3+1,th⟩=tf (tm s):=by rw[R.cell (p:=⟨o,_,th⟩) (show o<N by omega)];exact uv
 obtain⟨d,tR⟩:=zE (W1.alloc (tA #[tt b,tm s] 32));have uc:=gy tR;have yq:d.heap.size=N+4:=by rw[<-tR];simp[vc]
 have wk:=(uc.block N (by omega)).trans wj;have vd:=(uc.block (N+2) (by omega)).trans we;have wl:d.heap[N+3]?=tf (tA #[tt b,tm s] 32 (0,0)):=by rw[<-tR,<-vc];exact alloc_at _ _
 have ud:cg (aE N w d):=R.trans (uc.mono (by omega));have u:cg (∀W,aE d.heap.size d W->W.cell? ⟨N,0,th⟩=tf (tn m.sA m.ss.length m.sC)/\W.cell? ⟨N,1,th⟩=tf (tn m.fA m.fs.length m.fC)/\W.cell? ⟨N+3,0,th⟩=tf (tt b)/\W.cell? ⟨N+3,1,th⟩=tf (tm s)/\
   W.cell? ⟨N+2,0,th⟩=tf (tt tj)/\W.cell? ⟨N+2,1,th⟩=tf (tm ⟨#[]⟩)/\W.frozen? ⟨N+2,0,th⟩=tj/\W.frozen? ⟨N+2,1,th⟩=tj/\N+2<W.heap.size):=by
  intro W z;have q3:=(z.block N (by omega)).trans wk;have q4:=(z.block (N+2) (by omega)).trans vd;have q5:=(z.block (N+3) (by omega)).trans wl;refine⟨?_, ?_, ?_, ?_, ?_, ?_, ?_, ?_,(br.1 q4).1⟩
  ·rw[bt _ _ _ _ _ _ q3];rfl
  ·rw[bt _ _ _ _ _ _ q3];rfl
  ·rw[bt _ _ _ _ _ _ q5];rfl
  ·rw[bt _ _ _ _ _ _ q5];rfl
  ·rw[bt _ _ _ _ _ _ q4];rfl
  ·rw[bt _ _ _ _ _ _ q4];rfl
  ·exact de _ _ _ _ _ q4
  ·exact de _ _ _ _ _ q4
 have vf:cg (∀W,aE d.heap.size d W->W.heap[N+2]?=tf (tA #[tt tj,tm ⟨#[]⟩] 32 (0,0))):=λW z=>(z.block (N+2) (by omega)).trans vd;have A:=zH hN;have ws:=zH tR;have xf:cg (((w.alloc (tA #[tn m.sA m.ss.length m.sC,tn m.fA m.fs.length m.fC] 25)).alloc (tA #[tm g.c.nm,Z U g.c.par,tn (tf ⟨o,K,th⟩) g.vs.length g.c.varsC,tt g.c.rp,tm g.c.rto,Z U g.c.rcl,tn g.c.fromA g.c.nfrom g.c.fromC,tn g.c.insA g.c.ins.length g.c.insC] 38)).alloc (tA #[tt tj,tm ⟨#[]⟩] 32)=W1):=by unfold cg;rw[tG,tM,tP]
 clear tG vu tW vx tM ux ua vy tP ub wj wg we R tR uc wk vd wl ur uv xF;go_enter func127,ntmps127
 go_upto_region 1 with(fail)
 rw[xf.out];clear xf hN
 go_upto_region 2 with(fail)
 rw[ws.out];clear ws hst c0 c1 c2 vc;obtain⟨k0,k1,k2,k3,k4,k5,k6,k7,ya⟩:=u.out d (aq _ _);cases b with
 |false=>
  have E:cg (F=(bG,7)):=by rw[J.out];rfl
  clear J;go_wp2;(try simp only[cQ,Exit.then]);refine dk (aO rfl _ _ (N+2) 32 _ (0,0) _ rfl (dV (vf.out d (aq _ _))) dT (by kernel_rfl)) rfl ?_;rw[E.out,A.out];exact⟨rfl,(ud.out.setCell (by show N<=N+2;omega) _).setCell (by show N<=N+2;omega) _⟩
 |true=>
  obtain⟨k,j,vh,y⟩:=yX HK.out rfl;obtain⟨b0,vm,hA,yb,xj⟩:=HJ.out.mo.srow (by intro e;rw[e] at y;simp at y);have yr:=(bo.1 y).1;have yv:(k:aw)<(m.ss.length:aw):=by omega
  have yd:b0<N:=by have:=A.out;omega
  have m4:∀p:BW d,p.w.cell? ⟨b0,vm+k*4+1,th⟩=tf (tn j.s.fA j.fs.length j.s.fC):=λp=>by
   rw[(ud.out.trans (p.h.mono (by omega))).cell (p:=⟨b0,_,th⟩) yd];have:=xj k j y 1 _ rfl;rw[(HJ.out.mo.sin j (ci y)).nf] at this;exact this
  have xl:cg (∀p:BW d,zP 84 #[tv #[tn (tf ⟨b0,vm,th⟩) m.ss.length m.sC,tn m.fA m.fs.length m.fC],tm s] p.w (Z U (k:aw))):=by
   intro p;have:=HS.out p.w s (by rw[A.out];exact ud.out.trans (p.h.mono (by omega)));rw[vh,hA] at this;exact this
  have G:cg (F=(if f<0 then(bG,15) else match j.fs[f.toNat]? with
   |none=>(bG,15)
   |some x=>(x.ty,0):Ty×aw)):=by
   unfold cg;rw[J.out,bw (by simp)]
   show(match m.ss[(m.stIx s).toNat]? with
    |none=>(bG,15)
    |some s=>if f<0 then(bG,15) else match s.fs[f.toNat]? with
     |none=>(bG,15)
     |some x=>(x.ty,0):Ty×aw)=_
   rw[vh,ep,y]
  have xo:cg (j.inn w):=HJ.out.mo.sin j (ci y);have ye:=xo.out.len;unfold du at ye;rw[hA] at k0 u;have m0:∀p:BW d,p.w.cell? ⟨N,0,th⟩=tf (tn (tf ⟨b0,vm,th⟩) m.ss.length m.sC):=λp=>(u.out p.w p.h).1;have m1:∀p:BW d,p.w.cell? ⟨N,1,th⟩=tf (tn m.fA m.fs.length m.fC):=λp=>(u.out p.w p.h).2.1;have m2:∀p:BW d,p.w.cell? ⟨N+3,0,th⟩=tf (tt ti):=λp=>(u.out p.w p.h).2.2.1;have m3:∀p:BW d,p.w.cell? ⟨N+3,1,th⟩=tf (tm s):=λp=>(u.out p.w p.h).2.2.2.1;clear J HK vh y hA yb xj HJ HS
  go_wp2_with fail
  clear k0 k1 k2 k3 k4 k5 k6 k7 ya;refine zQ ?_
  repeat (go_big_quiet_step (first|(go_at_call 84;exact bg (xl.out _))))
  refine dr ?_;rintro _ ⟨p,rfl⟩;obtain⟨tD,ue⟩:=p
  show Exit.then _ _ _ _ tD
  obtain⟨_,_,_,_,j4,j5,j6,j7,yy⟩:=u.out tD ue;have xp:=vf.out tD ue;have tS:cg (aE N w tD):=ud.out.trans (ue.mono (by omega));have vp:=zH xp;clear ue u vf xl xp m0 m1 m2 m3 m4
  by_cases up:f<0
  ·have E:cg (F=(bG,15)):=by unfold cg;rw[G.out,cH up]
   clear G;go_wp2;(try simp only[cQ,Exit.then]);refine dk (aO rfl _ _ (N+2) 32 _ (0,0) _ rfl (dV vp.out) dT (by kernel_rfl)) rfl ?_;rw[E.out,A.out];exact⟨rfl,(tS.out.setCell (by show N<=N+2;omega) _).setCell (by show N<=N+2;omega) _⟩
  obtain⟨q,rfl⟩:∃q:bj,f=(q:aw):=⟨f.toNat,by omega⟩
  rw[bw up,ep] at G
  by_cases tU:q<j.fs.length
  ·obtain⟨x,hx⟩:∃x,j.fs[q]?=tf x:=⟨_,ap tU⟩
   have E:cg (F=(x.ty,0)):=by unfold cg;rw[G.out,hx]
   obtain⟨b1,xr,hA1,R,vq⟩:=xo.out.row (by intro e;rw[e] at tU;simp at tU);have xt:b1<N:=by have:=A.out;omega
   have e1:tD.cell? ⟨b1,xr+q*5+1,th⟩=tf (tt x.ptr):=by rw[tS.out.cell (p:=⟨b1,_,th⟩) xt];exact vq q x hx 1 _ rfl
   have e2:tD.cell? ⟨b1,xr+q*5+1+1,th⟩=tf (tm x.tgt):=by rw[tS.out.cell (p:=⟨b1,_,th⟩) xt];exact vq q x hx 2 _ rfl
   have yi:(q:aw)<(j.fs.length:aw):=by omega
   rw[hA1];clear G hx vq R hA1 up tU;go_wp2;(try simp only[cQ,Exit.then]);refine dk (aO rfl _ _ (N+2) 32 _ (0,0) _ rfl (dV vp.out) dT (by kernel_rfl)) rfl ?_;rw[E.out,A.out];exact⟨rfl,(tS.out.setCell (by show N<=N+2;omega) _).setCell (by show N<=N+2;omega) _⟩
  ·have E:cg (F=(bG,15)):=by unfold cg;rw[G.out,m9 (by omega)]
   have yi:(j.fs.length:aw)<=(q:aw):=by omega
   clear G up tU;go_wp2;(try simp only[cQ,Exit.then]);refine dk (aO rfl _ _ (N+2) 32 _ (0,0) _ rfl (dV vp.out) dT (by kernel_rfl)) rfl ?_;rw[E.out,A.out];exact⟨rfl,(tS.out.setCell (by show N<=N+2;omega) _).setCell (by show N<=N+2;omega) _⟩
theorem Br {w W1:World}{a b c:dl cw}{d e f:fX}(h:((w.alloc (tA a d)).alloc (tA b e)).alloc (tA c f)=W1):
  aE w.heap.size w W1/\W1.heap.size=w.heap.size+3/\W1.heap[w.heap.size]?=tf (tA a d (0,0))/\W1.heap[w.heap.size+1]?=tf (tA b e (0,0))/\W1.heap[w.heap.size+2]?=tf (tA c f (0,0)):=by
 subst h;refine⟨(((aq _ _).alloc (cd _) _).alloc (by simp) _).alloc (by simp;omega) _,by simp, ?_, ?_, ?_⟩
 ·rw[cE _ _ _ (by simp;omega),cE _ _ _ (by simp)];exact alloc_at _ _
 ·rw[cE _ _ _ (by simp)]
  have:=alloc_at (w.alloc (tA a d)) (tA b e)
  rwa [World.size_alloc] at this
 ·have:=alloc_at ((w.alloc (tA a d)).alloc (tA b e)) (tA c f)
  rwa [World.size_alloc,World.size_alloc] at this
def gc (g:Fn)(ao:cC fg):dl cw:=#[tm g.c.nm,Z U g.c.par,tn ao g.vs.length g.c.varsC,tt g.c.rp,tm g.c.rto,Z U g.c.rcl,tn g.c.fromA g.c.nfrom g.c.fromC,tn g.c.insA g.c.ins.length g.c.insC]
theorem jQ {g:Fn}{ao:cC fg}(h:g.c.nvars=g.vs.length)(e:g.c.varsA=ao):g.cells=gc g ao:=by
 unfold Fn.cells dP.cells gc;rw[h,e]
theorem xu (m:Mo)(g:Fn)(i:Ins)(w:World)(h:nR w m g)(tR:i.op=7)(ha:isVar g.vs.length i.a=ti)(ho:isVar g.vs.length i.d=ti)(hk:m.known (ax g.vs i.a)=ti):
  zP 90 #[tv m.cells,tv g.cells,tv i.cells] w (Z U (cu m g.vs i i.d tj)):=by
 have t:cg (∀W,aE w.heap.size w W->zP 127 #[tv m.cells,tv g.cells,Z U i.a,Z U i.f] W (.tuple #[vG (aI m g.vs i.a i.f).1,Z U (aI m g.vs i.a i.f).2])):=λW hW=>iK m g i.a i.f W (h.below hW) ha hk;have A:cg (cu m g.vs i i.d tj=if (aI m g.vs i.a i.f).2≠0 then(aI m g.vs i.a i.f).2 else bN ((aI m g.vs i.a i.f).1==ax g.vs i.d&&(aI m g.vs i.a i.f).1.1==tj) 7):=rfl;obtain⟨ka,j,E,o,K,xr,uc,xt,xF,vm,vp⟩:=dM h.vars ha;obtain⟨kd,yv,yy,q,tS,xT,ud,_,vq,vr,vt⟩:=dM h.vars ho;rw[uc] at ud;simp only[dj,eV,and_true] at ud;obtain⟨rfl,rfl⟩:=ud;rw[vq] at A;obtain⟨R,hR⟩:=zE (cu m g.vs i i.d tj);rw[hR] at A⊢;obtain⟨⟨⟨b,s⟩,z⟩,G⟩:∃F,aI m g.vs i.a i.f=F:=⟨_,rfl⟩
 rw[G] at A t;unfold vG at t;have hst:∀(w:World)(c:dl cw),c.size=2->(dd ⟨w.heap.size,0,th⟩ [tt b,tm s] 0).run am (w.alloc (tA c 32))= .ok () (w.alloc (tA #[tt b,tm s] 32)):=λw c hc=>
  cr (P:=am) w 32 c #[tt b,tm s] (by show _=tf 2;kernel_rfl) hc (by simp[cn])
 have vu:∀(w:World)(c:dl cw),c.size=2->(dd ⟨w.heap.size,0,th⟩ [tt o.ptr,tm o.tgt] 0).run am (w.alloc (tA c 32))= .ok () (w.alloc (tA #[tt o.ptr,tm o.tgt] 32)):=λw c hc=>
  cr (P:=am) w 32 c #[tt o.ptr,tm o.tgt] (by show _=tf 2;kernel_rfl) hc (by simp[cn])
 have vx:=h.nv;have ya:=h.vl;unfold du at ya;have yW:(ka:aw)<(g.vs.length:aw):=by omega
 have zc:(kd:aw)<(g.vs.length:aw):=by omega
 have vy:=jQ vx uc;rw[vy] at t⊢;simp only[Mo.cells,Ins.cells] at t⊢;rw[K] at t;rw[tR,K,tS];simp only[gc] at t⊢;obtain⟨N,hN⟩:=zE w.heap.size;obtain⟨W1,ue⟩:=zE (((w.alloc (tA m.cells 25)).alloc (tA (gc g (tf ⟨j,E,th⟩)) 38)).alloc (tA i.cells 42));obtain⟨tU,up,r0,r1,r2⟩:=Br ue;rw[hN] at tU up r0 r1 r2;have yb:cg (W1.heap[N+1]?=tf (tA #[tm g.c.nm,Z U g.c.par,tn (tf ⟨j,E,th⟩) g.vs.length g.c.varsC,tt g.c.rp,tm g.c.rto,Z U g.c.rcl,tn g.c.fromA g.c.nfrom g.c.fromC,tn g.c.insA g.c.ins.length g.c.insC] 38 (0,0))):=r1;have HK:cg (∀W,aE (N+3) W1 W->W.cell? ⟨N+1,2,th⟩=tf (tn (tf ⟨j,E,th⟩) g.vs.length g.c.varsC)/\W.cell? ⟨N+2,0,th⟩=tf (Z U 7)/\W.cell? ⟨N+2,2,th⟩=tf (Z U (ka:aw))/\W.cell? ⟨N+2,1,th⟩=tf (Z U (kd:aw))/\
   W.cell? ⟨j,E+ka*3,th⟩=tf (tt o.ptr)/\W.cell? ⟨j,E+ka*3+1,th⟩=tf (tm o.tgt)/\W.cell? ⟨j,E+kd*3,th⟩=tf (tt q.ptr)/\W.cell? ⟨j,E+kd*3+1,th⟩=tf (tm q.tgt)/\aE N w W):=λW hW=>by
  have p1:=(hW.block (N+1) (by omega)).trans r1;have p2:=(hW.block (N+2) (by omega)).trans r2;have y:=tU.trans (hW.mono (by omega));refine⟨?_, ?_, ?_, ?_, ?_, ?_, ?_, ?_,y⟩
  ·rw[bt _ _ _ _ _ _ p1];rfl
  ·rw[bt _ _ _ _ _ _ p2,<-tR];rfl
  ·rw[bt _ _ _ _ _ _ p2,<-K];rfl
  ·rw[bt _ _ _ _ _ _ p2,<-tS];rfl
  ·rw[y.cell (p:=⟨j,_,th⟩) (show j<N by omega)];exact vm
  ·rw[y.cell (p:=⟨j,_,th⟩) (show j<N by omega)];exact vp
  ·rw[y.cell (p:=⟨j,_,th⟩) (show j<N by omega)];exact vr
  ·rw[y.cell (p:=⟨j,_,th⟩) (show j<N by omega)];exact vt
 have c0:=zR r0 0 (tn m.sA m.ss.length m.sC);have c1:=zR r0 1 (tn m.fA m.fs.length m.fC);have c2:W1.cell? ⟨N+2,2,th⟩=tf (Z U (ka:aw)):=by rw[bt _ _ _ _ _ _ r2,<-K];rfl
 have c3:=zR r2 4 (Z U i.f);have tM:=ue;simp only[Mo.cells,Ins.cells,gc] at tM;rw[tR,K] at tM;rw[tS] at tM;have we:=zH tM;have HN:=zH hN;have yd:=zH tU;have wg:=zH up;rw[hN] at t;clear h ha ho hk tR K tS uc xt xF vq vm vp vr vt hR G vy ue tM tU r0 r1 r2 vx xT xr up;go_enter se,re
 go_upto_region 1 with(fail)
 rw[we.out]
 go_upto_region 2 with(first
  |(refine cf rfl 38 _ rfl (N+1) rfl 38 _ (0,0) _ yb.out cJ rfl (by kernel_rfl) ?_)
  |(go_at_call 127;refine(t.out _ yd.out).mono ?_;rintro e w2 ⟨rfl,ye⟩;have ur:=zH ye))
 clear c0 c1 c2 c3 we;obtain⟨T,hT⟩:=zE w2.heap.size;obtain⟨J,tD⟩:=zE (w2.alloc (tA #[tt b,tm s] 32));rw[hT,tD];have zd:N+3<=T:=by have:=ur.out.size;rw[wg.out] at this;omega
 have uv:aE (N+3) W1 w2:=by have:=ur.out;rwa [wg.out] at this
 have tE:aE (N+3) W1 J:=by rw[<-tD];exact uv.alloc (by omega) _
 have wj:J.heap.size=T+1:=by rw[<-tD];simp[hT]
 have ux:J.heap[T]?=tf (tA #[tt b,tm s] 32 (0,0)):=by rw[<-tD,<-hT];exact alloc_at _ _
 by_cases G:z=0
 ·subst G
  have tW:cg (R=bN (((b,s):Ty)==(q.ptr,q.tgt)&&b==tj) 7):=by unfold cg;rw[A.out,bw (by simp)]
  obtain⟨u,tG⟩:=zE (J.alloc (tA #[tt o.ptr,tm o.tgt] 32));have wk:aE (N+3) W1 u:=by rw[<-tG];exact tE.alloc (by omega) _
  have wl:u.heap.size=T+2:=by rw[<-tG];simp[wj]
  have ws:u.heap[T+1]?=tf (tA #[tt o.ptr,tm o.tgt] 32 (0,0)):=by rw[<-tG,<-wj];exact alloc_at _ _
  have xf:u.heap[T]?=tf (tA #[tt b,tm s] 32 (0,0)):=by rw[<-tG,cE _ _ _ (by omega)];exact ux
  obtain⟨c0,c1,c2,c3,c4,c5,c6,c7,_⟩:=HK.out J tE;have xj:=zH tG;have xl:=zH wk;have tP:=zH ws;have yi:=zH xf;have yk:=zH wl;have zj:=zH tE;obtain⟨d,vc⟩:=zE (((b,s):Ty)==(q.ptr,q.tgt));have zp:∀w,(gt 10000 32 (tv #[tt b,tm s]) (tv #[tt q.ptr,tm q.tgt])).run am w= .ok d w:=λw=>by rw[dB,vc]
  rw[vc] at tW;have d0:((0:aw) != 0)=tj:=rfl;clear hst tG wk ws xf wl tD tE uv ur vc A t
  go_upto_region 5 with(fail)
  rw[xj.out];clear c0 c1 c2 c3 c4 c5 c6 c7 vu ux xj;obtain⟨c0,c1,c2,c3,c4,c5,c6,c7,_⟩:=HK.out u xl.out;have k0:=zR tP.out 0 (tt o.ptr);have k1:=zR tP.out 1 (tm o.tgt);have f0:u.frozen? ⟨T+1,0,th⟩=tj:=de _ _ _ _ _ tP.out;have f1:u.frozen? ⟨T+1,1,th⟩=tj:=de _ _ _ _ _ tP.out;have yp:T+1<u.heap.size:=by have:=yk.out;omega
  go_upto_region 8 with(fail)
  obtain⟨v,ua⟩:=zE ((u.setCell ⟨T+1,0,th⟩ (tt q.ptr)).setCell ⟨T+1,1,th⟩ (tm q.tgt));rw[ua];have vd:v.heap[T+1]?=tf (tA #[tt q.ptr,tm q.tgt] 32 (0,0)):=by rw[<-ua];exact dV tP.out
  have vf:aE (T+1) u v:=by rw[<-ua];exact((aq _ _).setCell (by show T+1<=T+1;omega) _).setCell (by show T+1<=T+1;omega) _
  have vh:v.heap[T]?=tf (tA #[tt b,tm s] 32 (0,0)):=(vf.block T (by omega)).trans yi.out;have xo:aE (N+3) W1 v:=xl.out.trans (vf.mono (by omega));clear c0 c1 c2 c3 c4 c5 c6 c7 k0 k1 f0 f1 yp ua;obtain⟨_,c1,_,_,_,_,_,_,y⟩:=HK.out v xo;have k0:=zR vd 0 (tt q.ptr);have k1:=zR vd 1 (tm q.tgt);have k2:=zR vh 0 (tt b);have k3:=zR vh 1 (tm s);have ub:=zH y;have HO:cg (∀x,zP 51 #[tt x,Z U 7] v (Z U (bN (!x) 7))):=λx=>bn x 7 v;have yq:cg (∀w9,aE v.heap.size v w9->aE N w w9):=λw9 h9=>ub.out.trans (h9.mono (by have:=ub.out.size;rw[HN.out] at this;exact this));clear vd vh vf xo y;cases d<;>cases b<;>(go_wp2_with (go_at_call 51;refine(HO.out _).mono ?_;rintro e w7 ⟨rfl,xp⟩;have yr:=zH xp;clear xp);go_ret;rw[tW.out,HN.out];exact⟨rfl,yq.out _ yr.out⟩)
 ·have tW:cg (R=z):=by unfold cg;rw[A.out,cH G]
  have zr:(z != 0)=ti:=by rw[oe];exact G
  have ub:cg (aE N w J):=(HK.out J tE).2.2.2.2.2.2.2.2;clear A t HK G hst vu ux tE uv tD;go_wp2;go_ret;rw[tW.out,HN.out];exact⟨rfl,ub.out⟩
theorem xw (m:Mo)(g:Fn)(i:Ins)(w:World)(h:nR w m g)(tR:i.op=8)(ha:isVar g.vs.length i.a=ti)(ho:isVar g.vs.length i.b=ti)(hk:m.known (ax g.vs i.a)=ti):
  zP 90 #[tv m.cells,tv g.cells,tv i.cells] w (Z U (cu m g.vs i i.b tj)):=by
 have t:cg (∀W,aE w.heap.size w W->zP 127 #[tv m.cells,tv g.cells,Z U i.a,Z U i.f] W (.tuple #[vG (aI m g.vs i.a i.f).1,Z U (aI m g.vs i.a i.f).2])):=λW hW=>iK m g i.a i.f W (h.below hW) ha hk;have A:cg (cu m g.vs i i.b tj=if (aI m g.vs i.a i.f).2≠0 then(aI m g.vs i.a i.f).2 else bN ((aI m g.vs i.a i.f).1==ax g.vs i.b&&(aI m g.vs i.a i.f).1.1==tj) 7):=rfl;obtain⟨ka,j,E,o,K,xr,uc,xt,xF,vm,vp⟩:=dM h.vars ha;obtain⟨kd,yv,yy,q,tS,xT,ud,_,vq,vr,vt⟩:=dM h.vars ho;rw[uc] at ud;simp only[dj,eV,and_true] at ud;obtain⟨rfl,rfl⟩:=ud;rw[vq] at A;obtain⟨R,hR⟩:=zE (cu m g.vs i i.b tj);rw[hR] at A⊢;obtain⟨⟨⟨b,s⟩,z⟩,G⟩:∃F,aI m g.vs i.a i.f=F:=⟨_,rfl⟩
 rw[G] at A t;unfold vG at t;have hst:∀(w:World)(c:dl cw),c.size=2->(dd ⟨w.heap.size,0,th⟩ [tt b,tm s] 0).run am (w.alloc (tA c 32))= .ok () (w.alloc (tA #[tt b,tm s] 32)):=λw c hc=>
  cr (P:=am) w 32 c #[tt b,tm s] (by show _=tf 2;kernel_rfl) hc (by simp[cn])
 have vu:∀(w:World)(c:dl cw),c.size=2->(dd ⟨w.heap.size,0,th⟩ [tt o.ptr,tm o.tgt] 0).run am (w.alloc (tA c 32))= .ok () (w.alloc (tA #[tt o.ptr,tm o.tgt] 32)):=λw c hc=>
  cr (P:=am) w 32 c #[tt o.ptr,tm o.tgt] (by show _=tf 2;kernel_rfl) hc (by simp[cn])
 have vx:=h.nv;have ya:=h.vl;unfold du at ya;have yW:(ka:aw)<(g.vs.length:aw):=by omega
 have zc:(kd:aw)<(g.vs.length:aw):=by omega
 have vy:=jQ vx uc;rw[vy] at t⊢;simp only[Mo.cells,Ins.cells] at t⊢;rw[K] at t;rw[tR,K,tS];simp only[gc] at t⊢;obtain⟨N,hN⟩:=zE w.heap.size;obtain⟨W1,ue⟩:=zE (((w.alloc (tA m.cells 25)).alloc (tA (gc g (tf ⟨j,E,th⟩)) 38)).alloc (tA i.cells 42));obtain⟨tU,up,r0,r1,r2⟩:=Br ue;rw[hN] at tU up r0 r1 r2;have yb:cg (W1.heap[N+1]?=tf (tA #[tm g.c.nm,Z U g.c.par,tn (tf ⟨j,E,th⟩) g.vs.length g.c.varsC,tt g.c.rp,tm g.c.rto,Z U g.c.rcl,tn g.c.fromA g.c.nfrom g.c.fromC,tn g.c.insA g.c.ins.length g.c.insC] 38 (0,0))):=r1;have HK:cg (∀W,aE (N+3) W1 W->W.cell? ⟨N+1,2,th⟩=tf (tn (tf ⟨j,E,th⟩) g.vs.length g.c.varsC)/\W.cell? ⟨N+2,0,th⟩=tf (Z U 8)/\W.cell? ⟨N+2,2,th⟩=tf (Z U (ka:aw))/\W.cell? ⟨N+2,3,th⟩=tf (Z U (kd:aw))/\
   W.cell? ⟨j,E+ka*3,th⟩=tf (tt o.ptr)/\W.cell? ⟨j,E+ka*3+1,th⟩=tf (tm o.tgt)/\W.cell? ⟨j,E+kd*3,th⟩=tf (tt q.ptr)/\W.cell? ⟨j,E+kd*3+1,th⟩=tf (tm q.tgt)/\aE N w W):=λW hW=>by
  have p1:=(hW.block (N+1) (by omega)).trans r1;have p2:=(hW.block (N+2) (by omega)).trans r2;have y:=tU.trans (hW.mono (by omega));refine⟨?_, ?_, ?_, ?_, ?_, ?_, ?_, ?_,y⟩
  ·rw[bt _ _ _ _ _ _ p1];rfl
  ·rw[bt _ _ _ _ _ _ p2,<-tR];rfl
  ·rw[bt _ _ _ _ _ _ p2,<-K];rfl
  ·rw[bt _ _ _ _ _ _ p2,<-tS];rfl
  ·rw[y.cell (p:=⟨j,_,th⟩) (show j<N by omega)];exact vm
  ·rw[y.cell (p:=⟨j,_,th⟩) (show j<N by omega)];exact vp
  ·rw[y.cell (p:=⟨j,_,th⟩) (show j<N by omega)];exact vr
  ·rw[y.cell (p:=⟨j,_,th⟩) (show j<N by omega)];exact vt
 have c0:=zR r0 0 (tn m.sA m.ss.length m.sC);have c1:=zR r0 1 (tn m.fA m.fs.length m.fC);have c2:W1.cell? ⟨N+2,2,th⟩=tf (Z U (ka:aw)):=by rw[bt _ _ _ _ _ _ r2,<-K];rfl
 have c3:=zR r2 4 (Z U i.f);have tM:=ue;simp only[Mo.cells,Ins.cells,gc] at tM;rw[tR,K] at tM;rw[tS] at tM;have we:=zH tM;have HN:=zH hN;have yd:=zH tU;have wg:=zH up;rw[hN] at t;clear h ha ho hk tR K tS uc xt xF vq vm vp vr vt hR G vy ue tM tU r0 r1 r2 vx xT xr up;go_enter se,re
 go_upto_region 1 with(fail)
 rw[we.out]
 go_upto_region 2 with(first
  |(refine cf rfl 38 _ rfl (N+1) rfl 38 _ (0,0) _ yb.out cJ rfl (by kernel_rfl) ?_)
  |(go_at_call 127;refine(t.out _ yd.out).mono ?_;rintro e w2 ⟨rfl,ye⟩;have ur:=zH ye))
 clear c0 c1 c2 c3 we;obtain⟨T,hT⟩:=zE w2.heap.size;obtain⟨J,tD⟩:=zE (w2.alloc (tA #[tt b,tm s] 32));rw[hT,tD];have zd:N+3<=T:=by have:=ur.out.size;rw[wg.out] at this;omega
 have uv:aE (N+3) W1 w2:=by have:=ur.out;rwa [wg.out] at this
 have tE:aE (N+3) W1 J:=by rw[<-tD];exact uv.alloc (by omega) _
 have wj:J.heap.size=T+1:=by rw[<-tD];simp[hT]
 have ux:J.heap[T]?=tf (tA #[tt b,tm s] 32 (0,0)):=by rw[<-tD,<-hT];exact alloc_at _ _
 by_cases G:z=0
 ·subst G
  have tW:cg (R=bN (((b,s):Ty)==(q.ptr,q.tgt)&&b==tj) 7):=by unfold cg;rw[A.out,bw (by simp)]
  obtain⟨u,tG⟩:=zE (J.alloc (tA #[tt o.ptr,tm o.tgt] 32));have wk:aE (N+3) W1 u:=by rw[<-tG];exact tE.alloc (by omega) _
  have wl:u.heap.size=T+2:=by rw[<-tG];simp[wj]
  have ws:u.heap[T+1]?=tf (tA #[tt o.ptr,tm o.tgt] 32 (0,0)):=by rw[<-tG,<-wj];exact alloc_at _ _
  have xf:u.heap[T]?=tf (tA #[tt b,tm s] 32 (0,0)):=by rw[<-tG,cE _ _ _ (by omega)];exact ux
  obtain⟨c0,c1,c2,c3,c4,c5,c6,c7,_⟩:=HK.out J tE;have xj:=zH tG;have xl:=zH wk;have tP:=zH ws;have yi:=zH xf;have yk:=zH wl;have zj:=zH tE;obtain⟨d,vc⟩:=zE (((b,s):Ty)==(q.ptr,q.tgt));have zp:∀w,(gt 10000 32 (tv #[tt b,tm s]) (tv #[tt q.ptr,tm q.tgt])).run am w= .ok d w:=λw=>by rw[dB,vc]
  rw[vc] at tW;have d0:((0:aw) != 0)=tj:=rfl;clear hst tG wk ws xf wl tD tE uv ur vc A t
  go_upto_region 5 with(fail)
  rw[xj.out];clear c0 c1 c2 c3 c4 c5 c6 c7 vu ux xj;obtain⟨c0,c1,c2,c3,c4,c5,c6,c7,_⟩:=HK.out u xl.out;have k0:=zR tP.out 0 (tt o.ptr);have k1:=zR tP.out 1 (tm o.tgt);have f0:u.frozen? ⟨T+1,0,th⟩=tj:=de _ _ _ _ _ tP.out;have f1:u.frozen? ⟨T+1,1,th⟩=tj:=de _ _ _ _ _ tP.out;have yp:T+1<u.heap.size:=by have:=yk.out;omega
  go_upto_region 8 with(fail)
  obtain⟨v,ua⟩:=zE ((u.setCell ⟨T+1,0,th⟩ (tt q.ptr)).setCell ⟨T+1,1,th⟩ (tm q.tgt));rw[ua];have vd:v.heap[T+1]?=tf (tA #[tt q.ptr,tm q.tgt] 32 (0,0)):=by rw[<-ua];exact dV tP.out
  have vf:aE (T+1) u v:=by rw[<-ua];exact((aq _ _).setCell (by show T+1<=T+1;omega) _).setCell (by show T+1<=T+1;omega) _
  have vh:v.heap[T]?=tf (tA #[tt b,tm s] 32 (0,0)):=(vf.block T (by omega)).trans yi.out;have xo:aE (N+3) W1 v:=xl.out.trans (vf.mono (by omega));clear c0 c1 c2 c3 c4 c5 c6 c7 k0 k1 f0 f1 yp ua;obtain⟨_,c1,_,_,_,_,_,_,y⟩:=HK.out v xo;have k0:=zR vd 0 (tt q.ptr);have k1:=zR vd 1 (tm q.tgt);have k2:=zR vh 0 (tt b);have k3:=zR vh 1 (tm s);have ub:=zH y;have HO:cg (∀x,zP 51 #[tt x,Z U 7] v (Z U (bN (!x) 7))):=λx=>bn x 7 v;have yq:cg (∀w9,aE v.heap.size v w9->aE N w w9):=λw9 h9=>ub.out.trans (h9.mono (by have:=ub.out.size;rw[HN.out] at this;exact this));clear vd vh vf xo y;cases d<;>cases b<;>(go_wp2_with (go_at_call 51;refine(HO.out _).mono ?_;rintro e w7 ⟨rfl,xp⟩;have yr:=zH xp;clear xp);go_ret;rw[tW.out,HN.out];exact⟨rfl,yq.out _ yr.out⟩)
 ·have tW:cg (R=z):=by unfold cg;rw[A.out,cH G]
  have zr:(z != 0)=ti:=by rw[oe];exact G
  have ub:cg (aE N w J):=(HK.out J tE).2.2.2.2.2.2.2.2;clear A t HK G hst vu ux tE uv tD;go_wp2;go_ret;rw[tW.out,HN.out];exact⟨rfl,ub.out⟩
theorem uC (m:Mo)(g:Fn)(i:Ins)(w:World)(h:nR w m g)(tR:i.op=10)(ha:isVar g.vs.length i.a=ti)(ho:isVar g.vs.length i.d=ti)(hk:m.known (ax g.vs i.a)=ti):
  zP 90 #[tv m.cells,tv g.cells,tv i.cells] w (Z U (cu m g.vs i i.d ti)):=by
 have t:cg (∀W,aE w.heap.size w W->zP 127 #[tv m.cells,tv g.cells,Z U i.a,Z U i.f] W (.tuple #[vG (aI m g.vs i.a i.f).1,Z U (aI m g.vs i.a i.f).2])):=λW hW=>iK m g i.a i.f W (h.below hW) ha hk;have A:cg (cu m g.vs i i.d ti=if (aI m g.vs i.a i.f).2≠0 then(aI m g.vs i.a i.f).2 else bN ((aI m g.vs i.a i.f).1==ax g.vs i.d&&(aI m g.vs i.a i.f).1.1==ti) 7):=rfl;obtain⟨ka,j,E,o,K,xr,uc,xt,xF,vm,vp⟩:=dM h.vars ha;obtain⟨kd,yv,yy,q,tS,xT,ud,_,vq,vr,vt⟩:=dM h.vars ho;rw[uc] at ud;simp only[dj,eV,and_true] at ud;obtain⟨rfl,rfl⟩:=ud;rw[vq] at A;obtain⟨R,hR⟩:=zE (cu m g.vs i i.d ti);rw[hR] at A⊢;obtain⟨⟨⟨b,s⟩,z⟩,G⟩:∃F,aI m g.vs i.a i.f=F:=⟨_,rfl⟩
 rw[G] at A t;unfold vG at t;have hst:∀(w:World)(c:dl cw),c.size=2->(dd ⟨w.heap.size,0,th⟩ [tt b,tm s] 0).run am (w.alloc (tA c 32))= .ok () (w.alloc (tA #[tt b,tm s] 32)):=λw c hc=>
  cr (P:=am) w 32 c #[tt b,tm s] (by show _=tf 2;kernel_rfl) hc (by simp[cn])
 have vu:∀(w:World)(c:dl cw),c.size=2->(dd ⟨w.heap.size,0,th⟩ [tt o.ptr,tm o.tgt] 0).run am (w.alloc (tA c 32))= .ok () (w.alloc (tA #[tt o.ptr,tm o.tgt] 32)):=λw c hc=>
  cr (P:=am) w 32 c #[tt o.ptr,tm o.tgt] (by show _=tf 2;kernel_rfl) hc (by simp[cn])
 have vx:=h.nv;have ya:=h.vl;unfold du at ya;have yW:(ka:aw)<(g.vs.length:aw):=by omega
 have zc:(kd:aw)<(g.vs.length:aw):=by omega
 have vy:=jQ vx uc;rw[vy] at t⊢;simp only[Mo.cells,Ins.cells] at t⊢;rw[K] at t;rw[tR,K,tS];simp only[gc] at t⊢;obtain⟨N,hN⟩:=zE w.heap.size;obtain⟨W1,ue⟩:=zE (((w.alloc (tA m.cells 25)).alloc (tA (gc g (tf ⟨j,E,th⟩)) 38)).alloc (tA i.cells 42));obtain⟨tU,up,r0,r1,r2⟩:=Br ue;rw[hN] at tU up r0 r1 r2;have yb:cg (W1.heap[N+1]?=tf (tA #[tm g.c.nm,Z U g.c.par,tn (tf ⟨j,E,th⟩) g.vs.length g.c.varsC,tt g.c.rp,tm g.c.rto,Z U g.c.rcl,tn g.c.fromA g.c.nfrom g.c.fromC,tn g.c.insA g.c.ins.length g.c.insC] 38 (0,0))):=r1;have HK:cg (∀W,aE (N+3) W1 W->W.cell? ⟨N+1,2,th⟩=tf (tn (tf ⟨j,E,th⟩) g.vs.length g.c.varsC)/\W.cell? ⟨N+2,0,th⟩=tf (Z U 10)/\W.cell? ⟨N+2,2,th⟩=tf (Z U (ka:aw))/\W.cell? ⟨N+2,1,th⟩=tf (Z U (kd:aw))/\
   W.cell? ⟨j,E+ka*3,th⟩=tf (tt o.ptr)/\W.cell? ⟨j,E+ka*3+1,th⟩=tf (tm o.tgt)/\W.cell? ⟨j,E+kd*3,th⟩=tf (tt q.ptr)/\W.cell? ⟨j,E+kd*3+1,th⟩=tf (tm q.tgt)/\aE N w W):=λW hW=>by
  have p1:=(hW.block (N+1) (by omega)).trans r1;have p2:=(hW.block (N+2) (by omega)).trans r2;have y:=tU.trans (hW.mono (by omega));refine⟨?_, ?_, ?_, ?_, ?_, ?_, ?_, ?_,y⟩
  ·rw[bt _ _ _ _ _ _ p1];rfl
  ·rw[bt _ _ _ _ _ _ p2,<-tR];rfl
  ·rw[bt _ _ _ _ _ _ p2,<-K];rfl
  ·rw[bt _ _ _ _ _ _ p2,<-tS];rfl
  ·rw[y.cell (p:=⟨j,_,th⟩) (show j<N by omega)];exact vm
  ·rw[y.cell (p:=⟨j,_,th⟩) (show j<N by omega)];exact vp
  ·rw[y.cell (p:=⟨j,_,th⟩) (show j<N by omega)];exact vr
  ·rw[y.cell (p:=⟨j,_,th⟩) (show j<N by omega)];exact vt
 have c0:=zR r0 0 (tn m.sA m.ss.length m.sC);have c1:=zR r0 1 (tn m.fA m.fs.length m.fC);have c2:W1.cell? ⟨N+2,2,th⟩=tf (Z U (ka:aw)):=by rw[bt _ _ _ _ _ _ r2,<-K];rfl
 have c3:=zR r2 4 (Z U i.f);have tM:=ue;simp only[Mo.cells,Ins.cells,gc] at tM;rw[tR,K] at tM;rw[tS] at tM;have we:=zH tM;have HN:=zH hN;have yd:=zH tU;have wg:=zH up;rw[hN] at t;clear h ha ho hk tR K tS uc xt xF vq vm vp vr vt hR G vy ue tM tU r0 r1 r2 vx xT xr up;go_enter se,re
 go_upto_region 1 with(fail)
 rw[we.out]
 go_upto_region 2 with(first
  |(refine cf rfl 38 _ rfl (N+1) rfl 38 _ (0,0) _ yb.out cJ rfl (by kernel_rfl) ?_)
  |(go_at_call 127;refine(t.out _ yd.out).mono ?_;rintro e w2 ⟨rfl,ye⟩;have ur:=zH ye))
 clear c0 c1 c2 c3 we;obtain⟨T,hT⟩:=zE w2.heap.size;obtain⟨J,tD⟩:=zE (w2.alloc (tA #[tt b,tm s] 32));rw[hT,tD];have zd:N+3<=T:=by have:=ur.out.size;rw[wg.out] at this;omega
 have uv:aE (N+3) W1 w2:=by have:=ur.out;rwa [wg.out] at this
 have tE:aE (N+3) W1 J:=by rw[<-tD];exact uv.alloc (by omega) _
 have wj:J.heap.size=T+1:=by rw[<-tD];simp[hT]
 have ux:J.heap[T]?=tf (tA #[tt b,tm s] 32 (0,0)):=by rw[<-tD,<-hT];exact alloc_at _ _
 by_cases G:z=0
 ·subst G
  have tW:cg (R=bN (((b,s):Ty)==(q.ptr,q.tgt)&&b==ti) 7):=by unfold cg;rw[A.out,bw (by simp)]
  obtain⟨u,tG⟩:=zE (J.alloc (tA #[tt o.ptr,tm o.tgt] 32));have wk:aE (N+3) W1 u:=by rw[<-tG];exact tE.alloc (by omega) _
  have wl:u.heap.size=T+2:=by rw[<-tG];simp[wj]
  have ws:u.heap[T+1]?=tf (tA #[tt o.ptr,tm o.tgt] 32 (0,0)):=by rw[<-tG,<-wj];exact alloc_at _ _
  have xf:u.heap[T]?=tf (tA #[tt b,tm s] 32 (0,0)):=by rw[<-tG,cE _ _ _ (by omega)];exact ux
  obtain⟨c0,c1,c2,c3,c4,c5,c6,c7,_⟩:=HK.out J tE;have xj:=zH tG;have xl:=zH wk;have tP:=zH ws;have yi:=zH xf;have yk:=zH wl;have zj:=zH tE;obtain⟨d,vc⟩:=zE (((b,s):Ty)==(q.ptr,q.tgt));have zp:∀w,(gt 10000 32 (tv #[tt b,tm s]) (tv #[tt q.ptr,tm q.tgt])).run am w= .ok d w:=λw=>by rw[dB,vc]
  rw[vc] at tW;have d0:((0:aw) != 0)=tj:=rfl;clear hst tG wk ws xf wl tD tE uv ur vc A t
  go_upto_region 5 with(fail)
  rw[xj.out];clear c0 c1 c2 c3 c4 c5 c6 c7 vu ux xj;obtain⟨c0,c1,c2,c3,c4,c5,c6,c7,_⟩:=HK.out u xl.out;have k0:=zR tP.out 0 (tt o.ptr);have k1:=zR tP.out 1 (tm o.tgt);have f0:u.frozen? ⟨T+1,0,th⟩=tj:=de _ _ _ _ _ tP.out;have f1:u.frozen? ⟨T+1,1,th⟩=tj:=de _ _ _ _ _ tP.out;have yp:T+1<u.heap.size:=by have:=yk.out;omega
  go_upto_region 8 with(fail)
  obtain⟨v,ua⟩:=zE ((u.setCell ⟨T+1,0,th⟩ (tt q.ptr)).setCell ⟨T+1,1,th⟩ (tm q.tgt));rw[ua];have vd:v.heap[T+1]?=tf (tA #[tt q.ptr,tm q.tgt] 32 (0,0)):=by rw[<-ua];exact dV tP.out
  have vf:aE (T+1) u v:=by rw[<-ua];exact((aq _ _).setCell (by show T+1<=T+1;omega) _).setCell (by show T+1<=T+1;omega) _
  have vh:v.heap[T]?=tf (tA #[tt b,tm s] 32 (0,0)):=(vf.block T (by omega)).trans yi.out;have xo:aE (N+3) W1 v:=xl.out.trans (vf.mono (by omega));clear c0 c1 c2 c3 c4 c5 c6 c7 k0 k1 f0 f1 yp ua;obtain⟨_,c1,_,_,_,_,_,_,y⟩:=HK.out v xo;have k0:=zR vd 0 (tt q.ptr);have k1:=zR vd 1 (tm q.tgt);have k2:=zR vh 0 (tt b);have k3:=zR vh 1 (tm s);have ub:=zH y;have HO:cg (∀x,zP 51 #[tt x,Z U 7] v (Z U (bN (!x) 7))):=λx=>bn x 7 v;have yq:cg (∀w9,aE v.heap.size v w9->aE N w w9):=λw9 h9=>ub.out.trans (h9.mono (by have:=ub.out.size;rw[HN.out] at this;exact this));clear vd vh vf xo y;cases d<;>cases b<;>(go_wp2_with (go_at_call 51;refine(HO.out _).mono ?_;rintro e w7 ⟨rfl,xp⟩;have yr:=zH xp;clear xp);go_ret;rw[tW.out,HN.out];exact⟨rfl,yq.out _ yr.out⟩)
 ·have tW:cg (R=z):=by unfold cg;rw[A.out,cH G]
  have zr:(z != 0)=ti:=by rw[oe];exact G
  have ub:cg (aE N w J):=(HK.out J tE).2.2.2.2.2.2.2.2;clear A t HK G hst vu ux tE uv tD;go_wp2;go_ret;rw[tW.out,HN.out];exact⟨rfl,ub.out⟩
theorem uD (m:Mo)(g:Fn)(i:Ins)(w:World)(h:nR w m g)(tR:i.op=11)(ha:isVar g.vs.length i.a=ti)(ho:isVar g.vs.length i.b=ti)(hk:m.known (ax g.vs i.a)=ti):
  zP 90 #[tv m.cells,tv g.cells,tv i.cells] w (Z U (cu m g.vs i i.b ti)):=by
 have t:cg (∀W,aE w.heap.size w W->zP 127 #[tv m.cells,tv g.cells,Z U i.a,Z U i.f] W (.tuple #[vG (aI m g.vs i.a i.f).1,Z U (aI m g.vs i.a i.f).2])):=λW hW=>iK m g i.a i.f W (h.below hW) ha hk;have A:cg (cu m g.vs i i.b ti=if (aI m g.vs i.a i.f).2≠0 then(aI m g.vs i.a i.f).2 else bN ((aI m g.vs i.a i.f).1==ax g.vs i.b&&(aI m g.vs i.a i.f).1.1==ti) 7):=rfl;obtain⟨ka,j,E,o,K,xr,uc,xt,xF,vm,vp⟩:=dM h.vars ha;obtain⟨kd,yv,yy,q,tS,xT,ud,_,vq,vr,vt⟩:=dM h.vars ho;rw[uc] at ud;simp only[dj,eV,and_true] at ud;obtain⟨rfl,rfl⟩:=ud;rw[vq] at A;obtain⟨R,hR⟩:=zE (cu m g.vs i i.b ti);rw[hR] at A⊢;obtain⟨⟨⟨b,s⟩,z⟩,G⟩:∃F,aI m g.vs i.a i.f=F:=⟨_,rfl⟩
 rw[G] at A t;unfold vG at t;have hst:∀(w:World)(c:dl cw),c.size=2->(dd ⟨w.heap.size,0,th⟩ [tt b,tm s] 0).run am (w.alloc (tA c 32))= .ok () (w.alloc (tA #[tt b,tm s] 32)):=λw c hc=>
  cr (P:=am) w 32 c #[tt b,tm s] (by show _=tf 2;kernel_rfl) hc (by simp[cn])
 have vu:∀(w:World)(c:dl cw),c.size=2->(dd ⟨w.heap.size,0,th⟩ [tt o.ptr,tm o.tgt] 0).run am (w.alloc (tA c 32))= .ok () (w.alloc (tA #[tt o.ptr,tm o.tgt] 32)):=λw c hc=>
  cr (P:=am) w 32 c #[tt o.ptr,tm o.tgt] (by show _=tf 2;kernel_rfl) hc (by simp[cn])
 have vx:=h.nv;have ya:=h.vl;unfold du at ya;have yW:(ka:aw)<(g.vs.length:aw):=by omega
 have zc:(kd:aw)<(g.vs.length:aw):=by omega
 have vy:=jQ vx uc;rw[vy] at t⊢;simp only[Mo.cells,Ins.cells] at t⊢;rw[K] at t;rw[tR,K,tS];simp only[gc] at t⊢;obtain⟨N,hN⟩:=zE w.heap.size;obtain⟨W1,ue⟩:=zE (((w.alloc (tA m.cells 25)).alloc (tA (gc g (tf ⟨j,E,th⟩)) 38)).alloc (tA i.cells 42));obtain⟨tU,up,r0,r1,r2⟩:=Br ue;rw[hN] at tU up r0 r1 r2;have yb:cg (W1.heap[N+1]?=tf (tA #[tm g.c.nm,Z U g.c.par,tn (tf ⟨j,E,th⟩) g.vs.length g.c.varsC,tt g.c.rp,tm g.c.rto,Z U g.c.rcl,tn g.c.fromA g.c.nfrom g.c.fromC,tn g.c.insA g.c.ins.length g.c.insC] 38 (0,0))):=r1;have HK:cg (∀W,aE (N+3) W1 W->W.cell? ⟨N+1,2,th⟩=tf (tn (tf ⟨j,E,th⟩) g.vs.length g.c.varsC)/\W.cell? ⟨N+2,0,th⟩=tf (Z U 11)/\W.cell? ⟨N+2,2,th⟩=tf (Z U (ka:aw))/\W.cell? ⟨N+2,3,th⟩=tf (Z U (kd:aw))/\
   W.cell? ⟨j,E+ka*3,th⟩=tf (tt o.ptr)/\W.cell? ⟨j,E+ka*3+1,th⟩=tf (tm o.tgt)/\W.cell? ⟨j,E+kd*3,th⟩=tf (tt q.ptr)/\W.cell? ⟨j,E+kd*3+1,th⟩=tf (tm q.tgt)/\aE N w W):=λW hW=>by
  have p1:=(hW.block (N+1) (by omega)).trans r1;have p2:=(hW.block (N+2) (by omega)).trans r2;have y:=tU.trans (hW.mono (by omega));refine⟨?_, ?_, ?_, ?_, ?_, ?_, ?_, ?_,y⟩
  ·rw[bt _ _ _ _ _ _ p1];rfl
  ·rw[bt _ _ _ _ _ _ p2,<-tR];rfl
  ·rw[bt _ _ _ _ _ _ p2,<-K];rfl
  ·rw[bt _ _ _ _ _ _ p2,<-tS];rfl
  ·rw[y.cell (p:=⟨j,_,th⟩) (show j<N by omega)];exact vm
  ·rw[y.cell (p:=⟨j,_,th⟩) (show j<N by omega)];exact vp
  ·rw[y.cell (p:=⟨j,_,th⟩) (show j<N by omega)];exact vr
  ·rw[y.cell (p:=⟨j,_,th⟩) (show j<N by omega)];exact vt
 have c0:=zR r0 0 (tn m.sA m.ss.length m.sC);have c1:=zR r0 1 (tn m.fA m.fs.length m.fC);have c2:W1.cell? ⟨N+2,2,th⟩=tf (Z U (ka:aw)):=by rw[bt _ _ _ _ _ _ r2,<-K];rfl
 have c3:=zR r2 4 (Z U i.f);have tM:=ue;simp only[Mo.cells,Ins.cells,gc] at tM;rw[tR,K] at tM;rw[tS] at tM;have we:=zH tM;have HN:=zH hN;have yd:=zH tU;have wg:=zH up;rw[hN] at t;clear h ha ho hk tR K tS uc xt xF vq vm vp vr vt hR G vy ue tM tU r0 r1 r2 vx xT xr up;go_enter se,re
 go_upto_region 1 with(fail)
 rw[we.out]
 go_upto_region 2 with(first
  |(refine cf rfl 38 _ rfl (N+1) rfl 38 _ (0,0) _ yb.out cJ rfl (by kernel_rfl) ?_)
  |(go_at_call 127;refine(t.out _ yd.out).mono ?_;rintro e w2 ⟨rfl,ye⟩;have ur:=zH ye))
 clear c0 c1 c2 c3 we;obtain⟨T,hT⟩:=zE w2.heap.size;obtain⟨J,tD⟩:=zE (w2.alloc (tA #[tt b,tm s] 32));rw[hT,tD];have zd:N+3<=T:=by have:=ur.out.size;rw[wg.out] at this;omega
 have uv:aE (N+3) W1 w2:=by have:=ur.out;rwa [wg.out] at this
 have tE:aE (N+3) W1 J:=by rw[<-tD];exact uv.alloc (by omega) _
 have wj:J.heap.size=T+1:=by rw[<-tD];simp[hT]
 have ux:J.heap[T]?=tf (tA #[tt b,tm s] 32 (0,0)):=by rw[<-tD,<-hT];exact alloc_at _ _
 by_cases G:z=0
 ·subst G
  have tW:cg (R=bN (((b,s):Ty)==(q.ptr,q.tgt)&&b==ti) 7):=by unfold cg;rw[A.out,bw (by simp)]
  obtain⟨u,tG⟩:=zE (J.alloc (tA #[tt o.ptr,tm o.tgt] 32));have wk:aE (N+3) W1 u:=by rw[<-tG];exact tE.alloc (by omega) _
  have wl:u.heap.size=T+2:=by rw[<-tG];simp[wj]
  have ws:u.heap[T+1]?=tf (tA #[tt o.ptr,tm o.tgt] 32 (0,0)):=by rw[<-tG,<-wj];exact alloc_at _ _
  have xf:u.heap[T]?=tf (tA #[tt b,tm s] 32 (0,0)):=by rw[<-tG,cE _ _ _ (by omega)];exact ux
  obtain⟨c0,c1,c2,c3,c4,c5,c6,c7,_⟩:=HK.out J tE;have xj:=zH tG;have xl:=zH wk;have tP:=zH ws;have yi:=zH xf;have yk:=zH wl;have zj:=zH tE;obtain⟨d,vc⟩:=zE (((b,s):Ty)==(q.ptr,q.tgt));have zp:∀w,(gt 10000 32 (tv #[tt b,tm s]) (tv #[tt q.ptr,tm q.tgt])).run am w= .ok d w:=λw=>by rw[dB,vc]
  rw[vc] at tW;have d0:((0:aw) != 0)=tj:=rfl;clear hst tG wk ws xf wl tD tE uv ur vc A t
  go_upto_region 5 with(fail)
  rw[xj.out];clear c0 c1 c2 c3 c4 c5 c6 c7 vu ux xj;obtain⟨c0,c1,c2,c3,c4,c5,c6,c7,_⟩:=HK.out u xl.out;have k0:=zR tP.out 0 (tt o.ptr);have k1:=zR tP.out 1 (tm o.tgt);have f0:u.frozen? ⟨T+1,0,th⟩=tj:=de _ _ _ _ _ tP.out;have f1:u.frozen? ⟨T+1,1,th⟩=tj:=de _ _ _ _ _ tP.out;have yp:T+1<u.heap.size:=by have:=yk.out;omega
  go_upto_region 8 with(fail)
  obtain⟨v,ua⟩:=zE ((u.setCell ⟨T+1,0,th⟩ (tt q.ptr)).setCell ⟨T+1,1,th⟩ (tm q.tgt));rw[ua];have vd:v.heap[T+1]?=tf (tA #[tt q.ptr,tm q.tgt] 32 (0,0)):=by rw[<-ua];exact dV tP.out
  have vf:aE (T+1) u v:=by rw[<-ua];exact((aq _ _).setCell (by show T+1<=T+1;omega) _).setCell (by show T+1<=T+1;omega) _
  have vh:v.heap[T]?=tf (tA #[tt b,tm s] 32 (0,0)):=(vf.block T (by omega)).trans yi.out;have xo:aE (N+3) W1 v:=xl.out.trans (vf.mono (by omega));clear c0 c1 c2 c3 c4 c5 c6 c7 k0 k1 f0 f1 yp ua;obtain⟨_,c1,_,_,_,_,_,_,y⟩:=HK.out v xo;have k0:=zR vd 0 (tt q.ptr);have k1:=zR vd 1 (tm q.tgt);have k2:=zR vh 0 (tt b);have k3:=zR vh 1 (tm s);have ub:=zH y;have HO:cg (∀x,zP 51 #[tt x,Z U 7] v (Z U (bN (!x) 7))):=λx=>bn x 7 v;have yq:cg (∀w9,aE v.heap.size v w9->aE N w w9):=λw9 h9=>ub.out.trans (h9.mono (by have:=ub.out.size;rw[HN.out] at this;exact this));clear vd vh vf xo y;cases d<;>cases b<;>(go_wp2_with (go_at_call 51;refine(HO.out _).mono ?_;rintro e w7 ⟨rfl,xp⟩;have yr:=zH xp;clear xp);go_ret;rw[tW.out,HN.out];exact⟨rfl,yq.out _ yr.out⟩)
 ·have tW:cg (R=z):=by unfold cg;rw[A.out,cH G]
  have zr:(z != 0)=ti:=by rw[oe];exact G
  have ub:cg (aE N w J):=(HK.out J tE).2.2.2.2.2.2.2.2;clear A t HK G hst vu ux tE uv tD;go_wp2;go_ret;rw[tW.out,HN.out];exact⟨rfl,ub.out⟩
theorem zo (m:Mo)(g:Fn)(i:Ins)(w:World)(h:nR w m g)(hi:i.args_in w)(yy:i.args.length<=du)(hd:isVar g.vs.length i.d=ti)(ha:∀a∈i.args,isVar g.vs.length a=ti):
  zP 91 #[tv m.cells,tv g.cells,tv i.cells] w (Z U (gU m g.vs i)):=by
 obtain⟨⟨_,A1,n2,A2,yW⟩,ao,cap,vx,vy⟩:=hi;have HA:cg (ak w ao i.args):=vy.at_;have HJ:=zH h;have zc:=zH ha;have zd:=zH vx;have K:cg (gU m g.vs i=if i.f<0 then 15 else match m.fs[i.f.toNat]? with
  |none=>15
  |some g'=>if (i.args.length:aw)≠g'.c.par\/(g'.vs.length:aw)<g'.c.par then 7
   else if il g.vs g'.vs 0 i.args=tj then 7 else bN (ax g.vs i.d==g'.ret) 7):=rfl
 obtain⟨R,hR⟩:=zE (gU m g.vs i);rw[hR] at K⊢;obtain⟨z,o,A,J,ue,zj,tG,zp,we,zr,zs⟩:=dM h.vars hd;have wg:=h.nv;have zv:=h.vl;unfold du at zv yy;have An:(z:aw)<(g.vs.length:aw):=by omega
 have wj:=jQ wg tG;rw[wj];obtain⟨N,hN⟩:=zE w.heap.size;obtain⟨W1,vf⟩:=zE (((w.alloc (tA m.cells 25)).alloc (tA (gc g (tf ⟨o,A,th⟩)) 38)).alloc (tA i.cells 42));obtain⟨vh,wk,r0,r1,r2⟩:=Br vf;rw[hN] at vh wk r0 r1 r2;have i4:=zR r2 4 (Z U i.f);have k1:=zR r0 1 (tn m.fA m.fs.length m.fC);have wl:cg (∀(W:World)(v:aw),aE N w W->isVar g.vs.length v=ti->∃(k:bj) (x:Vr),v=(k:aw)/\k<g.vs.length/\ax g.vs v=(x.ptr,x.tgt)/\W.cell? ⟨o,A+k*3,th⟩=tf (tt x.ptr)/\W.cell? ⟨o,A+k*3+1,th⟩=tf (tm x.tgt)):=by
  intro W v E hv;obtain⟨k,b,tD,x,r1,r2,r3,r4,r5,r6,r7⟩:=dM h.vars hv;rw[tG] at r3;simp only[dj,eV,and_true] at r3;obtain⟨rfl,rfl⟩:=r3;exact⟨k,x,r1,r2,r5,by rw[E.cell (p:=⟨o,_,th⟩) (show o<N by omega)];exact r6,by rw[E.cell (p:=⟨o,_,th⟩) (show o<N by omega)];exact r7⟩
 have up:=vf;simp only[Mo.cells,Ins.cells,gc] at up;simp only[Mo.cells,Ins.cells,gc];rw[ue];rw[ue] at up;have tW:=zH up;have tM:=zH vh;have At:=zH r0;have ws:=zH r1;have xf:=zH r2;have G:=zH hN;have ua:=zH wk;have xj:=zH ue;have xl:=zH we;clear hR h vy hd ha yW vx vf up vh r0 r1 r2 ue we zr zs tG wj wg zp zj
 by_cases ub:i.f<0
 ·have t:cg (R=15):=by unfold cg;rw[K.out,cH ub]
  clear K;go_enter func91,ntmps91
  go_upto_region 1 with(fail)
  rw[tW.out];go_wp2;go_ret;rw[t.out];exact⟨rfl,by first|exact tM.out|(rw[G.out];exact tM.out)⟩
 obtain⟨F,hF⟩:∃F:bj,i.f=(F:aw):=⟨i.f.toNat,by omega⟩
 rw[hF] at i4
 by_cases uc:F<m.fs.length
 rotate_left
 ·have t:cg (R=15):=by unfold cg;rw[K.out,bw ub,hF,ep,m9 (by omega)]
  have Ax:(m.fs.length:aw)<=(F:aw):=by omega
  clear K uc ub hF;go_enter func91,ntmps91
  go_upto_region 1 with(fail)
  rw[tW.out];go_wp2;go_ret;rw[t.out];exact⟨rfl,by first|exact tM.out|(rw[G.out];exact tM.out)⟩
 obtain⟨f,ur⟩:∃f,m.fs[F]?=tf f:=⟨_,ap uc⟩
 have tP:cg (R=if (i.args.length:aw)≠f.c.par\/(f.vs.length:aw)<f.c.par then 7 else if il g.vs f.vs 0 i.args=tj then 7 else bN (ax g.vs i.d==f.ret) 7):=by
  unfold cg;rw[K.out,bw ub,hF,ep,ur]
 have vm:=HJ.out.mo.fin f (ci ur);have AD:=zH vm;obtain⟨fb,xo,vp,AE,xp⟩:=HJ.out.mo.frow (by intro e;rw[e] at uc;simp at uc);have AF:fb<N:=by have:=G.out;omega
 have xr:cg (∀k u,f.cells.toList[k]?=tf u->W1.cell? ((⟨fb,xo+F*8,th⟩:fg).add k)=tf u):=λk u hu=>by
  rw[cU,tM.out.cell (p:=⟨fb,_,th⟩) AF];exact xp F f ur k u hu
 have Ax:(F:aw)<(m.fs.length:aw):=by omega
 obtain⟨q,tR⟩:=zE (W1.alloc (tA f.cells 38));have hst:∀(c:dl cw),c.size=8->(dd ⟨N+3,0,th⟩ f.cells.toList 0).run am (W1.alloc (tA c 38))= .ok () q:=λc hc=>by
  rw[<-tR,<-ua.out];exact cr (P:=am) W1 38 c f.cells (by show _=tf 8;kernel_rfl) hc (nT f)
 have uv:aE (N+3) W1 q:=by rw[<-tR,<-ua.out];exact(aq _ _).alloc (cd _) _
 have xt:q.heap[N+3]?=tf (tA f.cells 38 (0,0)):=by rw[<-tR,<-ua.out];exact alloc_at _ _
 have AH:q.heap.size=N+4:=by rw[<-tR];simp[ua.out]
 have ux:cg (aE N w q):=tM.out.trans (uv.mono (by omega));have vq:cg (∀W,aE q.heap.size q W->W.cell? ⟨N+1,2,th⟩=tf (tn (tf ⟨o,A,th⟩) g.vs.length g.c.varsC)/\W.cell? ⟨N+2,1,th⟩=tf (Z U (z:aw))/\W.cell? ⟨N+2,7,th⟩=tf (tn ao i.args.length cap)/\
   W.cell? ⟨N+3,1,th⟩=tf (Z U f.c.par)/\W.cell? ⟨N+3,2,th⟩=tf (tn f.c.varsA f.vs.length f.c.varsC)/\W.cell? ⟨N+3,3,th⟩=tf (tt f.c.rp)/\W.cell? ⟨N+3,3+1,th⟩=tf (tm f.c.rto)/\aE N w W):=by
  intro W E;have q1:=(E.block (N+1) (by omega)).trans ((uv.block (N+1) (by omega)).trans ws.out);have q2:=(E.block (N+2) (by omega)).trans ((uv.block (N+2) (by omega)).trans xf.out);have q3:=(E.block (N+3) (by omega)).trans xt;refine⟨?_, ?_, ?_, ?_, ?_, ?_, ?_,ux.out.trans (E.mono (by omega))⟩
  ·rw[bt _ _ _ _ _ _ q1];rfl
  ·rw[bt _ _ _ _ _ _ q2,<-xj.out];rfl
  ·rw[bt _ _ _ _ _ _ q2,<-zd.out];rfl
  ·rw[bt _ _ _ _ _ _ q3];rfl
  ·rw[bt _ _ _ _ _ _ q3,<-vm.nvars];rfl
  ·rw[bt _ _ _ _ _ _ q3];rfl
  ·rw[bt _ _ _ _ _ _ q3];rfl
 obtain⟨j2,j1,j7,c1,c2,c3,c4,_⟩:=vq.out q (aq _ _);have xF:cg (∀(W:World)(v:aw),aE q.heap.size q W->isVar f.vs.length v=ti->∃(k b tD:bj) (x:Vr),v=(k:aw)/\k<f.vs.length/\f.c.varsA=tf ⟨b,tD,th⟩/\b<q.heap.size/\ax f.vs v=(x.ptr,x.tgt)/\W.cell? ⟨b,tD+k*3,th⟩=tf (tt x.ptr)/\W.cell? ⟨b,tD+k*3+1,th⟩=tf (tm x.tgt)):=by
  intro W v E hv;have xT:aE w.heap.size w W:=by rw[G.out];exact ux.out.trans (E.mono (by omega))
  obtain⟨k,b,tD,x,r1,r2,r3,r4,r5,r6,r7⟩:=dM (AD.out.vars) hv;exact⟨k,b,tD,x,r1,r2,r3,by omega,r5,by rw[xT.cell (p:=⟨b,_,th⟩) r4];exact r6,by rw[xT.cell (p:=⟨b,_,th⟩) r4];exact r7⟩
 have A3:=zH tR;have A4:=zH AH;rw[vp] at k1;rw[vp] at tW⊢;have AI:W1.heap.size=N+3:=ua.out;clear K ub hF uc ur vm vp xp uv xt ws xf At AE tR;have A5:i.args.length<=9223372036854775807:=by omega
 go_enter func91,ntmps91
 go_upto_region 1 with(fail)
 rw[tW.out];clear tW
 go_upto_region 4 with(first
  |(refine ay rfl 38 _ rfl ⟨fb,xo+F*8,th⟩ rfl f.cells _ xr.out cJ rfl (by kernel_rfl) ?_))
 clear hst i4 k1 xr AI
 by_cases tS:(i.args.length:aw)=f.c.par
 rotate_left
 ·have t:cg (R=7):=by unfold cg;rw[tP.out,cH (.inl tS)]
  have A6:((i.args.length:aw) != f.c.par)=ti:=by rw[oe];exact tS
  clear tP;go_wp2;go_ret;rw[t.out,G.out];exact⟨rfl,ux.out⟩
 by_cases vc:(f.vs.length:aw)<f.c.par
 ·have t:cg (R=7):=by unfold cg;rw[tP.out,cH (.inr vc)]
  rw[<-tS] at vc c1;clear tP;go_wp2;go_ret;rw[t.out,G.out];exact⟨rfl,ux.out⟩
 have vr:cg (R=if il g.vs f.vs 0 i.args=tj then 7 else bN (ax g.vs i.d==f.ret) 7):=by
  unfold cg;rw[tP.out,bw (λh=>by rcases h with h|h;exact h tS;exact vc h)]
 rw[<-tS] at vc c1;have Bk:i.args.length<=f.vs.length:=by omega
 clear tP tS
 go_upto_region 6 with(fail)
 clear c1 c2 c3 c4 j1 j2 j7
 go_wp2_with fail
 go_loopw [8] (λc wr=>∃j:bj,j<=i.args.length/\c= Z U (j:aw)/\(∀k a,k<j->i.args[k]?=tf a->(ax g.vs a==ax f.vs (k:aw))=ti)/\aE q.heap.size q wr) (λc _=>i.args.length-(dp c).toNat)
 case atStart=>exact⟨0,cM _,rfl,λk a hk=>fz hk (by omega),aq _ _⟩
 case round=>
  obtain⟨j,hj,rfl,vt,hb⟩:=hrel;have HB:=zH hb;have ya:=zH vt;obtain⟨j2,j1,j7,c1,c2,c3,c4,ud⟩:=vq.out wr hb;have AK:=zH ud
  by_cases vd:j<i.args.length
  ·obtain⟨y,hy⟩:∃y,i.args[j]?=tf y:=⟨_,ap vd⟩
   obtain⟨ab,AM,AN,Bm,yb⟩:=(HA.out.below (by rw[G.out];exact ud)) (by intro e;rw[e] at vd;simp at vd)
   have d1:wr.cell? ⟨ab,AM+j,th⟩=tf (Z U y):=yb j y hy;have yd:isVar g.vs.length y=ti:=zc.out y (ci hy);obtain⟨ky,xy,ye,Bs,yi,e0,e1⟩:=wl.out wr y ud yd;obtain⟨k',b,tD,x,By,BE,tG,BT,yk,x0,x1⟩:=xF.out wr (j:aw) hb (dW.2 ⟨by omega,by omega⟩);obtain rfl:k'=j:=by omega
   obtain⟨d,tE⟩:=zE (((xy.ptr,xy.tgt):Ty)==(x.ptr,x.tgt));have AS:∀w,(gt 10000 32 (tv #[tt xy.ptr,tm xy.tgt]) (tv #[tt x.ptr,tm x.tgt])).run am w= .ok d w:=λw=>by rw[dB,tE]
   have yp:cg ((ax g.vs y==ax f.vs (k':aw))=d):=by unfold cg;rw[yi,yk];exact tE
   have HY:=zH hy;have BY:(k':aw)<(i.args.length:aw):=by omega
   have B4:(k':aw)<(f.vs.length:aw):=by omega
   have B5:(ky:aw)<(g.vs.length:aw):=by omega
   subst AN;rw[tG] at c2;rw[ye] at d1;clear vt hb ud hy yb yd tG yk yi tE vd ye c1 c3 c4 j1;cases d with
   |true=>
    go_wp2_with fail
    go_quiet (fail)
    go_wp2;go_roundw
    case rel=>
     refine⟨k'+1,by omega,by go_num,λk a hk vu=> ?_,hU HB.out _⟩
     by_cases e:k=k'
     ·subst e
      rw[HY.out] at vu;obtain rfl:=cy vu;exact yp.out
     ·exact ya.out k a (by omega) vu
    case measure=>simp[dp];omega
   |false=>
    have t:cg (R=7):=by
     unfold cg;rw[vr.out,cH];cases hc:il g.vs f.vs 0 i.args with
     |false=>rfl
     |true=>
      have:=(jO _ _ _ _).1 hc k' y HY.out;rw[cI,yp.out] at this;cases this
    go_wp2_with fail
    go_quiet (fail)
    go_wp2;go_ret;rw[t.out,G.out];exact⟨rfl,hU AK.out _⟩
  ·have AT:j=i.args.length:=by omega
   subst AT;have yq:cg (R=bN (ax g.vs i.d==f.ret) 7):=by
    unfold cg;rw[vr.out,bw];rw[(jO _ _ _ _).2 (λk a hk=>by rw[cI];exact ya.out k a (bo.1 hk).1 hk)];decide
   have yr:isVar g.vs.length (z:aw)=ti:=dW.2 ⟨by omega,An⟩;obtain⟨d,tE⟩:=zE (((J.ptr,J.tgt):Ty)==(f.c.rp,f.c.rto));have AS:∀w,(gt 10000 32 (tv #[tt J.ptr,tm J.tgt]) (tv #[tt f.c.rp,tm f.c.rto])).run am w= .ok d w:=λw=>by rw[dB,tE]
   have t:cg (R=bN d 7):=by unfold cg;rw[yq.out,xl.out,<-tE];rfl
   have tU:cg (∀p:BW wr,_):=λp:BW wr=>vq.out p.w (HB.out.trans (p.h.mono HB.out.size));have yv:cg (∀p:BW wr,p.w.cell? ⟨o,A+z*3,th⟩=tf (tt J.ptr)/\p.w.cell? ⟨o,A+z*3+1,th⟩=tf (tm J.tgt)):=λp=>by
    obtain⟨k,x,q1,_,q2,q3,q4⟩:=wl.out p.w (z:aw) (tU.out p).2.2.2.2.2.2.2 yr;obtain rfl:z=k:=by omega
    rw[<-xj.out,xl.out] at q2;simp only[pp] at q2;rw[q2.1,q2.2];exact⟨q3,q4⟩
   have g0:∀p:BW wr,p.w.cell? ⟨N+1,2,th⟩=tf (tn (tf ⟨o,A,th⟩) g.vs.length g.c.varsC):=λp=>(tU.out p).1;have g1:∀p:BW wr,p.w.cell? ⟨N+2,1,th⟩=tf (Z U (z:aw)):=λp=>(tU.out p).2.1;have g3:∀p:BW wr,p.w.cell? ⟨N+3,3,th⟩=tf (tt f.c.rp):=λp=>(tU.out p).2.2.2.2.2.1;have g4:∀p:BW wr,p.w.cell? ⟨N+3,3+1,th⟩=tf (tm f.c.rto):=λp=>(tU.out p).2.2.2.2.2.2.1;have g5:∀p:BW wr,p.w.cell? ⟨o,A+z*3,th⟩=tf (tt J.ptr):=λp=>(yv.out p).1;have g6:∀p:BW wr,p.w.cell? ⟨o,A+z*3+1,th⟩=tf (tm J.tgt):=λp=>(yv.out p).2;have HO:cg (∀(p:BW wr) x,zP 51 #[tt x,Z U 7] p.w (Z U (bN (!x) 7))):=λp x=>bn x 7 p.w;clear vt hb ud tE vr yq xF c1 c2 c3 c4 j1 j2 yr;cases d<;>
    (go_wp2_with fail
     clear j7;refine zQ ?_
     repeat (go_big_quiet_step (first|(go_at_call 51;exact bg (HO.out _ _))))
     refine dr ?_;rintro _ ⟨p,rfl⟩;have AW:=zH (tU.out p).2.2.2.2.2.2.2;clear g0 g1 g3 g4 g5 g6;go_wp2;go_ret;rw[t.out,G.out];exact⟨rfl,AW.out⟩)
theorem ak.lit (w:World)(d:dl cw)(xs:bp aw){B:bj}(e:B=w.heap.size)(h:d=(xs.map (eS .i64)).toArray):ak (w.alloc (.cells d 3)) (tf ⟨B,0,th⟩) xs:=by
 subst e h;intro _;refine⟨w.heap.size,0,rfl,by simp,λi u hi=> ?_⟩;rw[cI,World.cell?_alloc_new];simp[hi]
theorem xx (op:aw)(xs:bp aw)(n:bj)(d:n=xs.length)(e:xs.length<=90000)(W:World)(ao:cC fg)(h:ak W ao xs):
  zS 126 #[Z U op,tn ao n n] W (tt (decide (op∈xs))):=by
 subst d;exact CW W _ ao xs op e h
theorem qL (i:Ins)(w:World)(q:i.ok):zP 86 #[.agg i.cells] w (.tuple #[.int .i64 (az i).1,.bool (az i).2]):=by
 obtain⟨op,d,a,b,f,n,t,u,v,x,y,z,A,args⟩:=i;obtain⟨⟨ao,cap,g⟩,E,n2,G,j⟩:=q;simp only at g j;subst g j;simp only[Ins.cells,az];have o:cg (∀(W:World) ao,ak W ao [1,2,3,4,5,7,9,10,12,14,15]->zS 126 #[.int .i64 op,.slice ao 11 11] W (.bool (qH op))):=
  λW ao h=>xx op [1,2,3,4,5,7,9,10,12,14,15] 11 rfl (by simp) W ao h
 cases J:qH op with
 |true=>
  go_enter func86,ntmps86
  go_wp2_with (go_at_call 126;refine(o.out _ _ (ak.lit _ _ _ (by simp) rfl)).mono ?_;rintro e w' ⟨rfl,rfl⟩)
  go_ret2
  exact⟨rfl,((aq _ _).alloc (cd _) _).alloc (by simp) _⟩
 |false=>
  go_enter func86,ntmps86
  go_wp2_with (go_at_call 126;refine(o.out _ _ (ak.lit _ _ _ (by simp) rfl)).mono ?_;rintro e w' ⟨rfl,rfl⟩)
  go_ret2
  exact⟨rfl,((aq _ _).alloc (cd _) _).alloc (by simp) _⟩
theorem rZ (i:Ins)(w:World)(xj:i.args_in w)(hl:i.args.length<=40):fj am 88 #[.agg i.cells] w (iT w (readsOf i)):=by
 obtain⟨op,d,a,b,f,n,vt,xl,xo,vu,vx,ln,cl,args⟩:=i;obtain⟨⟨_,vy,n2,we,h2⟩,ao,cap,h1,vc⟩:=xj;simp only at h1 h2 vc hl;subst h1 h2;simp only[Ins.cells,readsOf];have HA:cg (∀(W:World) ao,ak W ao [3,4,6,7,8,9,10,11,13,14,17,18]->zS 126 #[.int .i64 op,.slice ao 12 12] W (.bool (uy op))):=
  λW ao h=>xx op [3,4,6,7,8,9,10,11,13,14,17,18] 12 rfl (by simp) W ao h
 have HB:cg (∀(W:World) ao,ak W ao [4,8,11]->zS 126 #[.int .i64 op,.slice ao 3 3] W (.bool (rT op))):=
  λW ao h=>xx op [4,8,11] 3 rfl (by simp) W ao h
 have wg:=zH vc.at_;clear vc;obtain⟨N,z⟩:=zE w.heap.size;obtain⟨W1,tW⟩:=zE (w.alloc (.cells #[.int .i64 op,.int .i64 d,.int .i64 a,.int .i64 b,.int .i64 f,.int .i64 n,.string vt,.slice ao args.length cap,.slice vy n2 we,.int .i64 vu,.int .i64 vx,.int .i64 ln,.int .i64 cl] 42));have wj:=ik tW z;have wk:W1.heap.size=N+1:=by rw[<-tW];simp[z]
 have wl:W1.heap[N]?=tf (.cells #[.int .i64 op,.int .i64 d,.int .i64 a,.int .i64 b,.int .i64 f,.int .i64 n,.string vt,.slice ao args.length cap,.slice vy n2 we,.int .i64 vu,.int .i64 vx,.int .i64 ln,.int .i64 cl] 42 (0,0)):=by
  rw[<-tW,<-z];exact alloc_at _ _
 have y:cg (∀W,Ext (λk=>N+1<=k) W1 W->W.cell? ⟨N,0,th⟩=tf (.int .i64 op)/\W.cell? ⟨N,2,th⟩=tf (.int .i64 a)/\W.cell? ⟨N,3,th⟩=tf (.int .i64 b)/\W.cell? ⟨N,7,th⟩=tf (.slice ao args.length cap)/\N<W.heap.size/\aE N w W/\ak W ao args):=by
  intro W hx;have h4:=hx.heap wl (by omega);have ws:aE N w W:=wj.trans ((hx.below (B:=N+1) (by omega) (λk x=>x)).mono (by omega));refine⟨?_, ?_, ?_, ?_,(br.1 h4).1,ws,wg.out.below (by rw[z];exact ws)⟩<;>(rw[bt _ _ _ _ _ _ h4];rfl)
 have up:=zH wk;have ur:=zH tW;have xp:N+1<=W1.heap.size:=by omega
 clear wj wk wl tW wg
 by_cases uv:op=15
 ·subst uv
  have ea:uy 15=tj:=by decide
  have eb:rT 15=tj:=by decide
  rw[ea,eb,bw (by decide),bw (by decide),cH rfl];rw[ea] at HA;rw[eb] at HB;simp only[eK];clear ea eb;go_enter sf,rg
  go_wp2_with fail
  go_at_call 126;rw[ur.out];refine(HA.out _ _ (ak.lit _ _ _ (by have:=up.out;omega) rfl)).mono ?_;rintro e w2 ⟨rfl,A⟩;have q:Ext (λk=>N+1<=k) W1 w2:=by rw[<-A];exact(Ext.refl _ _).alloc _
  obtain⟨G,J,K,R,tD,g,o⟩:=y.out w2 q;have tE:=zH q;have vd:=zH o;have vf:=zH g;clear A q o g
  go_wp2_with fail
  go_at_call 126;refine(HB.out _ _ (ak.lit _ _ _ rfl rfl)).mono ?_;rintro e t ⟨rfl,u⟩;have v:Ext (λk=>N+1<=k) W1 t:=by rw[<-u];exact tE.out.alloc _
  have E:=gy u;obtain⟨G,J,K,R,tD,g,o⟩:=y.out t v;have ua:=zH v;have ub:=zH E;have ux:=zH o;have tR:=zH g;clear u v E o g;have vh:N<t.heap.size+1:=by omega
  go_wp2_with (at_builtin;refine aL rfl (.tmp 25) (.tmp 27) rfl (N+1) (.slice th 0 0) [] rfl (aU.nil _ _) _ args cap rfl ux.out ?c51 ?c52 ?_)
  case c51=>first|omega|(simp<;>omega)|simp
  case c52=>first|omega|(simp<;>omega)|simp
  intro v5 w5 tG uc;obtain⟨vm,vp,rfl⟩:=tG.isSlice;have ud:Ext (λk=>N+1<=k) W1 w5:=ua.out.trans (Ext.of_grown uc (λk x=> .inl (by first|(have h3:=((aU.nil _ _).lt k x).1;exact h3)|(simp[eL] at x)))) (λj hj=> .inl hj);have HG:cg (iT w args (.returned (.slice vm args.length vp)) w5):=⟨_,_,rfl,by rw[z];exact aU.mono (by simpa using tG) (iu N),by rw[z];exact(y.out w5 ud).2.2.2.2.2.1⟩
  clear tG uc ud
  try simp only[eK]
  go_wp2;go_ret;exact HG.out
 ·have xr:(op==15)=tj:=by simpa using uv
  rw[bw uv,eA];clear uv;cases ha:uy op with
  |false=>
   have hb:rT op=tj:=by
    cases h:rT op with
    |false=>rfl
    |true=>rw[Cj h] at ha;cases ha
   rw[hb,bw (by decide),bw (by decide)];rw[ha] at HA;rw[hb] at HB;clear ha hb;go_enter sf,rg
   go_wp2_with fail
   go_at_call 126;rw[ur.out];refine(HA.out _ _ (ak.lit _ _ _ (by have:=up.out;omega) rfl)).mono ?_;rintro e w2 ⟨rfl,A⟩;have q:Ext (λk=>N+1<=k) W1 w2:=by rw[<-A];exact(Ext.refl _ _).alloc _
   obtain⟨G,J,K,R,tD,g,o⟩:=y.out w2 q;have tE:=zH q;have vd:=zH o;have vf:=zH g;clear A q o g
   go_wp2_with fail
   go_at_call 126;refine(HB.out _ _ (ak.lit _ _ _ rfl rfl)).mono ?_;rintro e t ⟨rfl,u⟩;have v:Ext (λk=>N+1<=k) W1 t:=by rw[<-u];exact tE.out.alloc _
   have E:=gy u;obtain⟨G,J,K,R,tD,g,o⟩:=y.out t v;have ua:=zH v;have ub:=zH E;have ux:=zH o;have tR:=zH g;clear u v E o g;go_wp2;go_ret;exact⟨th,0,rfl,aU.nil _ _,by first|exact tR.out|(rw[z];exact tR.out)⟩
  |true=>
   rw[ha] at HA;cases hb:rT op with
   |false=>
    rw[cH rfl,bw (by decide),eA];rw[hb] at HB;clear ha hb;go_enter sf,rg
    go_wp2_with fail
    go_at_call 126;rw[ur.out];refine(HA.out _ _ (ak.lit _ _ _ (by have:=up.out;omega) rfl)).mono ?_;rintro e w2 ⟨rfl,A⟩;have q:Ext (λk=>N+1<=k) W1 w2:=by rw[<-A];exact(Ext.refl _ _).alloc _
    obtain⟨G,J,K,R,tD,g,o⟩:=y.out w2 q;have tE:=zH q;have vd:=zH o;have vf:=zH g;clear A q o g;have vh:N<w2.heap.size+1:=by omega
    go_wp2_with (at_builtin;refine aL rfl (.tmp 8) (.tmp 11) rfl (N+1) (.slice th 0 0) [] rfl (aU.nil _ _) _ [a] 1 rfl (ak.one _ _ rfl) ?c31 ?c32 ?_)
    case c31=>first|omega|(simp<;>omega)|simp
    case c32=>first|omega|(simp<;>omega)|simp
    intro v3 w3 tM ue;obtain⟨tS,tU,rfl⟩:=tM.isSlice;have tP:Ext (λk=>N+1<=k) W1 w3:=(tE.out.alloc _).trans (Ext.of_grown ue (λk x=> .inl (by first|(have h3:=((aU.nil _ _).lt k x).1;exact h3)|(simp[eL] at x)))) (λj hj=> .inl hj);obtain⟨G,J,K,R,tD,_,_⟩:=y.out w3 tP;have vq:=zH tP;have vr:cg (aU w3 (N+1) (.slice tS [a].length tU) [a]):=by unfold cg;simpa using tM
    clear tM ue tP
    try simp only[eK]
    go_wp2_with fail
    go_at_call 126;refine(HB.out _ _ (ak.lit _ _ _ rfl rfl)).mono ?_;rintro e t ⟨rfl,u⟩;have v:Ext (λk=>N+1<=k) W1 t:=by rw[<-u];exact vq.out.alloc _
    have E:=gy u;obtain⟨G,J,K,R,tD,g,o⟩:=y.out t v;have ua:=zH v;have ub:=zH E;have ux:=zH o;have tR:=zH g;clear u v E o g;have HG:cg (iT w [a] (.returned (.slice tS [a].length tU)) t):=⟨_,_,rfl,by rw[z];exact aU.mono (ownsRow_below vr.out ub.out) (iu N),by rw[z];exact tR.out⟩
    go_wp2;go_ret;exact HG.out
   |true=>
    rw[cH rfl,cH rfl];rw[hb] at HB;clear ha hb;go_enter sf,rg
    go_wp2_with fail
    go_at_call 126;rw[ur.out];refine(HA.out _ _ (ak.lit _ _ _ (by have:=up.out;omega) rfl)).mono ?_;rintro e w2 ⟨rfl,A⟩;have q:Ext (λk=>N+1<=k) W1 w2:=by rw[<-A];exact(Ext.refl _ _).alloc _
    obtain⟨G,J,K,R,tD,g,o⟩:=y.out w2 q;have tE:=zH q;have vd:=zH o;have vf:=zH g;clear A q o g;have vh:N<w2.heap.size+1:=by omega
    go_wp2_with (at_builtin;refine aL rfl (.tmp 8) (.tmp 11) rfl (N+1) (.slice th 0 0) [] rfl (aU.nil _ _) _ [a] 1 rfl (ak.one _ _ rfl) ?c31 ?c32 ?_)
    case c31=>first|omega|(simp<;>omega)|simp
    case c32=>first|omega|(simp<;>omega)|simp
    intro v3 w3 tM ue;obtain⟨tS,tU,rfl⟩:=tM.isSlice;have tP:Ext (λk=>N+1<=k) W1 w3:=(tE.out.alloc _).trans (Ext.of_grown ue (λk x=> .inl (by first|(have h3:=((aU.nil _ _).lt k x).1;exact h3)|(simp[eL] at x)))) (λj hj=> .inl hj);obtain⟨G,J,K,R,tD,_,_⟩:=y.out w3 tP;have vq:=zH tP;have vr:cg (aU w3 (N+1) (.slice tS [a].length tU) [a]):=by unfold cg;simpa using tM
    clear tM ue tP
    try simp only[eK]
    go_wp2_with fail
    go_at_call 126;refine(HB.out _ _ (ak.lit _ _ _ rfl rfl)).mono ?_;rintro e t ⟨rfl,u⟩;have v:Ext (λk=>N+1<=k) W1 t:=by rw[<-u];exact vq.out.alloc _
    have E:=gy u;obtain⟨G,J,K,R,tD,g,o⟩:=y.out t v;have ua:=zH v;have ub:=zH E;have ux:=zH o;have tR:=zH g;clear u v E o g;have xf:cg (aU t (N+1) (.slice tS 1 tU) [a]):=ownsRow_below vr.out ub.out;have vh:N<t.heap.size+1:=by omega
    go_wp2_with (at_builtin;refine aL rfl (.tmp 17) (.tmp 20) rfl (N+1) (.slice tS 1 tU) [a] rfl (ownsRow_below xf.out ((aq _ _).alloc (cd _) _)) _ [b] 1 rfl (ak.one _ _ rfl) ?c51 ?c52 ?_)
    case c51=>first|omega|(simp<;>omega)|simp
    case c52=>first|omega|(simp<;>omega)|simp
    intro v5 w5 tG uc;obtain⟨vm,vp,rfl⟩:=tG.isSlice;have ud:Ext (λk=>N+1<=k) W1 w5:=(ua.out.alloc _).trans (Ext.of_grown uc (λk x=> .inl (by first|(have h3:=(xf.out.lt k x).1;exact h3)|(simp[eL] at x)))) (λj hj=> .inl hj);obtain⟨G,J,K,R,tD,g,_⟩:=y.out w5 ud;have HG:cg (iT w [a,b] (.returned (.slice vm [a,b].length vp)) w5):=⟨_,_,rfl,by rw[z];exact aU.mono (by simpa using tG) (iu N),by rw[z];exact g⟩
    clear tG uc ud g
    try simp only[gh,eK]
    go_wp2;go_ret;exact HG.out
theorem jH {P:km}{W:World}{o:kj}{a:Act}{K:Act->Prop}(e:fX)(x:Operand)(h:o.op= .load e x)
  (g:fg)(q:a.eval x= tr (tf g))(f:dl cw)(d:TypeDesc)(t:∀(p:BW W)(j:bj)(u:cw),f.toList[j]?=tf u->p.w.cell? (g.add j)=tf u)
  (v:P.underlying e=tf d)(y:(match d with| .struct _| .array _ _=>ti|_=>tj)=ti)(hi:(P.info? e).map (·.size)=tf f.size)
  (z:K (a.put o.dst (tv f))):o.quiet P a (λw'=>∃p:BW W,w'=p.w) K:=by
 refine⟨_,λw A=> ?_,z⟩;obtain⟨p,rfl⟩:=A;unfold Oper.quietAt execOp;simp only[h,q,Instr.loadAt,Instr.sureAddr,ft,rn,kB,iV p.w g e f d (t p) v y hi];exact⟨rfl,rfl⟩
theorem dF (n:bj)(xs d:bp aw):aK n (xs++d)=(aK n xs&&aK n d):=by unfold aK;rw[List.all_append]
theorem fB {g:Fn}{i:Ins}(h:aK g.vs.length (readsOf i)=ti)(d:uy i.op=ti):isVar g.vs.length i.a=ti:=by
 unfold readsOf at h;rw[cH d,dF,dF] at h;simp only[ej] at h;simpa[aK] using h.1.1
theorem xz {g:Fn}{i:Ins}(h:aK g.vs.length (readsOf i)=ti)(d:rT i.op=ti):isVar g.vs.length i.b=ti:=by
 unfold readsOf at h;rw[cH d,dF,dF] at h;simp only[ej] at h;simpa[aK] using h.1.2
theorem Bt {g:Fn}{i:Ins}(h:aK g.vs.length (readsOf i)=ti)(d:i.op=15):∀a∈i.args,isVar g.vs.length a=ti:=by
 unfold readsOf at h;rw[cH d,dF,dF] at h;simp only[ej] at h;exact gn.1 h.2
structure Bx (m:Mo)(g:Fn)(i:Ins)(ao:cC fg)(N:bj)(W:World):Prop where
 m0:W.cell? ⟨N,0,th⟩=tf (tn m.sA m.ss.length m.sC)
 m1:W.cell? ⟨N,1,th⟩=tf (tn m.fA m.fs.length m.fC)
 gr:W.heap[N+1]?=tf (tA #[tm g.c.nm,Z U g.c.par,tn ao g.vs.length g.c.varsC,tt g.c.rp,tm g.c.rto,Z U g.c.rcl,tn g.c.fromA g.c.nfrom g.c.fromC,tn g.c.insA g.c.ins.length g.c.insC] 38 (0,0))
 ir:W.heap[N+2]?=tf (tA #[Z U i.op,Z U i.d,Z U i.a,Z U i.b,Z U i.f,Z U i.n,tm i.sign,i.argsV,i.modeV,Z U i.tI,Z U i.els,Z U i.ln,Z U i.cl] 42 (0,0))
theorem Bx.g2 {m:Mo}{g:Fn}{i:Ins}{ao:cC fg}{N:bj}{W:World}(h:Bx m g i ao N W):W.cell? ⟨N+1,2,th⟩=tf (tn ao g.vs.length g.c.varsC):=by rw[bt _ _ _ _ _ _ h.gr];rfl
theorem Bx.g3 {m:Mo}{g:Fn}{i:Ins}{ao:cC fg}{N:bj}{W:World}(h:Bx m g i ao N W):W.cell? ⟨N+1,3,th⟩=tf (tt g.c.rp):=by rw[bt _ _ _ _ _ _ h.gr];rfl
theorem Bx.g4 {m:Mo}{g:Fn}{i:Ins}{ao:cC fg}{N:bj}{W:World}(h:Bx m g i ao N W):W.cell? ⟨N+1,3+1,th⟩=tf (tm g.c.rto):=by rw[bt _ _ _ _ _ _ h.gr];rfl
theorem Bx.g7 {m:Mo}{g:Fn}{i:Ins}{ao:cC fg}{N:bj}{W:World}(h:Bx m g i ao N W):W.cell? ⟨N+1,7,th⟩=tf (tn g.c.insA g.c.ins.length g.c.insC):=by rw[bt _ _ _ _ _ _ h.gr];rfl
theorem Bx.i0 {m:Mo}{g:Fn}{i:Ins}{ao:cC fg}{N:bj}{W:World}(h:Bx m g i ao N W):W.cell? ⟨N+2,0,th⟩=tf (Z U i.op):=by rw[bt _ _ _ _ _ _ h.ir];rfl
theorem Bx.i2 {m:Mo}{g:Fn}{i:Ins}{ao:cC fg}{N:bj}{W:World}(h:Bx m g i ao N W):W.cell? ⟨N+2,2,th⟩=tf (Z U i.a):=by rw[bt _ _ _ _ _ _ h.ir];rfl
theorem Bx.i3 {m:Mo}{g:Fn}{i:Ins}{ao:cC fg}{N:bj}{W:World}(h:Bx m g i ao N W):W.cell? ⟨N+2,3,th⟩=tf (Z U i.b):=by rw[bt _ _ _ _ _ _ h.ir];rfl
theorem Bx.i4 {m:Mo}{g:Fn}{i:Ins}{ao:cC fg}{N:bj}{W:World}(h:Bx m g i ao N W):W.cell? ⟨N+2,4,th⟩=tf (Z U i.f):=by rw[bt _ _ _ _ _ _ h.ir];rfl
theorem Bx.i6 {m:Mo}{g:Fn}{i:Ins}{ao:cC fg}{N:bj}{W:World}(h:Bx m g i ao N W):W.cell? ⟨N+2,6,th⟩=tf (tm i.sign):=by rw[bt _ _ _ _ _ _ h.ir];rfl
theorem Bx.i9 {m:Mo}{g:Fn}{i:Ins}{ao:cC fg}{N:bj}{W:World}(h:Bx m g i ao N W):W.cell? ⟨N+2,9,th⟩=tf (Z U i.tI):=by rw[bt _ _ _ _ _ _ h.ir];rfl
theorem Bx.i10 {m:Mo}{g:Fn}{i:Ins}{ao:cC fg}{N:bj}{W:World}(h:Bx m g i ao N W):W.cell? ⟨N+2,10,th⟩=tf (Z U i.els):=by rw[bt _ _ _ _ _ _ h.ir];rfl
theorem dC {w:World}{b:bj}{d:dl cw}{t:fX}(h:w.heap[b]?=tf (tA d t (0,0))):∀j u,d.toList[j]?=tf u->w.cell? ((⟨b,0,th⟩:fg).add j)=tf u:=by
 intro j u e;rw[cU,cI,bt _ _ _ _ _ _ h];rw[<-e,Array.getElem?_toList]
theorem fE {m:Mo}{g:Fn}{i:Ins}{w:World}(h:nR w m g)(hi:i.args_in w)(x:i.args.length<=40):∃ao N W1,w.heap.size=N/\W1.heap.size=N+3/\
  ((w.alloc (tA m.cells 25)).alloc (tA (gc g ao) 38)).alloc (tA i.cells 42)=W1/\cg (w.heap.size=N)/\cg (W1.heap.size=N+3)/\cg (g.cells=gc g ao)/\cg (g.c.varsA=ao)/\
  cg (∀W,aE (N+3) W1 W->Bx m g i ao N W)/\cg (∀W,aE (N+3) W1 W->aE N w W)/\cg (∀W,aE (N+3) W1 W->nR W m g)/\cg (∀W,aE (N+3) W1 W->i.args_in W)/\
  cg (∀W j o (xs:bp aw),xs.length<=42->ak W j xs->zP 87 #[tv #[tm g.c.nm,Z U g.c.par,tn ao g.vs.length g.c.varsC,tt g.c.rp,tm g.c.rto,Z U g.c.rcl,tn g.c.fromA g.c.nfrom g.c.fromC,tn g.c.insA g.c.ins.length g.c.insC],tn j xs.length o] W (tt (aK g.vs.length xs)))/\
  cg (∀W,zP 86 #[tv #[Z U i.op,Z U i.d,Z U i.a,Z U i.b,Z U i.f,Z U i.n,tm i.sign,i.argsV,i.modeV,Z U i.tI,Z U i.els,Z U i.ln,Z U i.cl]] W (.tuple #[Z U (az i).1,tt (az i).2]))/\
  cg (∀W,aE (N+3) W1 W->fj am 88 #[tv #[Z U i.op,Z U i.d,Z U i.a,Z U i.b,Z U i.f,Z U i.n,tm i.sign,i.argsV,i.modeV,Z U i.tI,Z U i.els,Z U i.ln,Z U i.cl]] W (iT W (readsOf i)))/\cg ((readsOf i).length<=42):=by
 obtain⟨ao,y⟩:=zE g.c.varsA;have t:=jQ h.nv y;obtain⟨N,q⟩:=zE w.heap.size;obtain⟨W1,z⟩:=zE (((w.alloc (tA m.cells 25)).alloc (tA g.cells 38)).alloc (tA i.cells 42));obtain⟨A,u,E,r1,r2⟩:=Br z;rw[q] at A u E r1 r2;rw[t] at r1;have K:cg (∀W,aE (N+3) W1 W->Bx m g i ao N W):=λW e=>by
  have G:=(e.block N (by omega)).trans E;exact⟨by rw[bt _ _ _ _ _ _ G];rfl,by rw[bt _ _ _ _ _ _ G];rfl,(e.block (N+1) (by omega)).trans r1,(e.block (N+2) (by omega)).trans r2⟩
 have v:cg (∀W,aE (N+3) W1 W->aE N w W):=λW e=>A.trans (e.mono (by omega));have R:cg (∀W,aE (N+3) W1 W->nR W m g):=λW e=>h.below (by rw[q];exact v.out W e);have J:cg (∀W,aE (N+3) W1 W->i.args_in W):=λW e=>by
  obtain⟨h1,ao,cap,h2,h3⟩:=hi;exact⟨h1,ao,cap,h2,aH.grow h3 (by rw[q];exact v.out W e)⟩
 have tD:=hi.1;have tE:cg (∀W j o (xs:bp aw),xs.length<=42->ak W j xs->zP 87 #[tv #[tm g.c.nm,Z U g.c.par,tn ao g.vs.length g.c.varsC,tt g.c.rp,tm g.c.rto,Z U g.c.rcl,tn g.c.fromA g.c.nfrom g.c.fromC,tn g.c.insA g.c.ins.length g.c.insC],tn j xs.length o] W (tt (aK g.vs.length xs))):=λW j o xs hx tG=>by
  have:=Bp g W j o xs h.nv (by unfold du;omega) tG;rw[t] at this;exact this
 have tM:cg (∀W,zP 86 #[tv #[Z U i.op,Z U i.d,Z U i.a,Z U i.b,Z U i.f,Z U i.n,tm i.sign,i.argsV,i.modeV,Z U i.tI,Z U i.els,Z U i.ln,Z U i.cl]] W (.tuple #[Z U (az i).1,tt (az i).2])):=λW=>qL i W tD;have tP:cg (∀W,aE (N+3) W1 W->fj am 88 #[tv #[Z U i.op,Z U i.d,Z U i.a,Z U i.b,Z U i.f,Z U i.n,tm i.sign,i.argsV,i.modeV,Z U i.tI,Z U i.els,Z U i.ln,Z U i.cl]] W (iT W (readsOf i))):=λW e=>rZ i W (J.out W e) x;have tR:=zH x;have tS:cg ((readsOf i).length<=42):=by
  unfold cg readsOf;simp only[bm];have:(if uy i.op=ti then[i.a] else[]).length<=1:=by split<;>simp
  have:(if rT i.op=ti then[i.b] else[]).length<=1:=by split<;>simp
  have:(if i.op=15 then i.args else[]).length<=40:=by split<;>first|exact tR.out|simp
  omega
 exact⟨ao,N,W1,q,u,by rw[<-z,t],q,u,t,y,K,v,R,J,tE,tM,tP,tS⟩
theorem fI {g:Fn}{i:Ins}(q:¬i.op<1)(t:¬18<i.op):∃e f j,decide (i.op<1)=tj/\decide (18<i.op)=tj/\cg (¬(i.op<1\/18<i.op))/\cg (aK g.vs.length [i.d]=f)/\cg (aK g.vs.length (readsOf i)=j)/\cg (qH i.op=e)/\
  cg (az i=if e=ti then(i.d,ti) else(0,tj))/\cg (aK g.vs.length (readsOf i++(if qH i.op=ti then[i.d] else[]))=(j&&(!e||f))):=by
 obtain⟨e,o⟩:=zE (qH i.op);obtain⟨f,u⟩:=zE (aK g.vs.length [i.d]);obtain⟨j,v⟩:=zE (aK g.vs.length (readsOf i));refine⟨e,f,j,cm q,cm t,λh=>h.elim q t,u,v,o, ?_, ?_⟩
 ·unfold cg az;rw[o]
 ·unfold cg
  rw[dF,v,o];cases e with
  |true=>rw[cH rfl,u];rfl
  |false=>rw[bw (by simp)];simp[aK]
theorem dY {m:Mo}{g:Fn}{i:Ins}{R:aw}{e f j:ml}(o:cg (aF m g i=R))(q:cg (¬(i.op<1\/18<i.op)))(t:cg (aK g.vs.length (readsOf i++(if qH i.op=ti then[i.d] else[]))=(j&&(!e||f))))(h:(j&&(!e||f))=ti):
  R=if i.op=15 then gU m g.vs i else if i.op=16 then bN (isVar g.c.ins.length i.tI) 15 else if i.op=17 then(if isVar g.c.ins.length i.tI&&isVar g.c.ins.length i.els then dQ g.vs [i.a] else 15) else if i.op=18 then bN (ax g.vs i.a==g.ret) 7 else au m g.vs i:=by
 rw[<-o.out];unfold aF;rw[bw q.out,bw (by rw[t.out,h];simp)]
theorem uE (m:Mo)(g:Fn)(i:Ins)(w:World)(h:nR w m g)(hi:i.args_in w)(o:i.args.length<=40)(E:∀v,isVar g.vs.length v=ti->m.known (ax g.vs v)=ti)(G:i.op<1\/18<i.op):
  zP 49 #[tv m.cells,tv g.cells,tv i.cells] w (Z U (aF m g i)):=by
 obtain⟨ao,N,W1,J,K,f,q,tR,W,tS,t,tD,HJ,tU,tW,tE,ua,ub⟩:=fE h hi o;rw[W.out];simp only[Mo.cells,gc,Ins.cells] at f⊢;have u:=zH f;obtain⟨R,j⟩:=zE (aF m g i);rw[j];have HR:=zH j;have x:cg (R=3):=by unfold cg;rw[<-HR.out];unfold aF;rw[cH G]
 have y:=t.out W1 (aq _ _);have tG:=zH y.ir;clear h hi o E f j;have tM:W1.heap.size=N+3:=K;go_enter func49,sY
 go_upto_region 1 with(fail)
 rw[u.out];clear u y J
 go_upto_region 2 with(first
  |(refine cf rfl 42 _ rfl (N+2) rfl 42 _ (0,0) _ tG.out cA rfl (by kernel_rfl) ?_)
  |(go_at_call 86;refine(tE.out _).mono ?_;rintro e w2 ⟨rfl,d⟩;have tP:=zH d;clear d))
 have d:aE (N+3) W1 w2:=by have:=tP.out;rwa [tM] at this
 have i0:=(t.out w2 d).i0;have z:=zH (tD.out w2 d)
 by_cases A:i.op<1
 ·have o1:decide (i.op<1)=ti:=cR A
  go_wp2;go_ret;rw[x.out,q.out];exact⟨rfl,z.out⟩
 ·have o1:decide (i.op<1)=tj:=cm A
  have h2:18<i.op:=by omega
  have o2:decide (18<i.op)=ti:=cR h2;go_wp2;go_ret;rw[x.out,q.out];exact⟨rfl,z.out⟩
end Go.Proofs.YtjomgckjhcfbgaaGreat
