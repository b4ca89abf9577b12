/- Walks. -/
import Derived.Test.YtjomgckjhcfbgaaGreatU7
set_option maxRecDepth 100000
set_option maxHeartbeats 64000000
set_option linter.all false
namespace Go.Proofs.YtjomgckjhcfbgaaGreat
open Go.RowKit
open Go.Proofs.Tryz renaming prog→am,underlying42→cD,underlying38→cQ,underlying32→eM,ntmps85→rK,ntmps90→rL,ntmps88→rN,func85→sL,func90→sR,func88→sX,ntmps49→tB
open _root_.List renaming getElem?_eq_getElem→ap,getElem?_eq_some_iff→bl,length_append→bo,mem_of_getElem?→cd,take_length→cR,append_nil→ej,nil_append→fN,all_eq_true→gA,cons_append→ij,any_eq_true→kh,any_eq_false→lx,getElem?_eq_none→mw,all_eq_false→m6
open Go.RowKit.Below renaming refl→aq,heap_alloc→cJ
open _root_ renaming Int→aw,Nat→bh,List→bj,ByteArray→bm,if_neg→bx,decide_eq_false→cv,Option→cG,if_pos→cI,beq_eq_false_iff_ne→cT,decide_eq_true→cV,Array→eA,absurd→fL,Bool→mm,and_true→pf,bne_iff_ne→pp
open Go.RowKit renaming Below→aE,Hid→cj,intOf→de
open _root_.Array renaming getElem?_eq_some_iff→br
open Go renaming cell_of_row→bw,wpList_load_row→cm,run_storeCells_new→cx,Value→cA,wpQuiet_nil→dj,storeCells→dt,frozen_of_row→ei,bodyPost_ret→er,maxLen→eC,Addr→fS,beq_toListBytes→fY,Calls→ge,TypeId→gt,below_drewN→hU,Program→lr,Oper→mS,Operand→tE
open _root_.Nat renaming le_refl→cg,zero_add→cL,zero_le→cN,le_succ→i5
open Go.Value renaming oneCell'→ct,ownBlock→et,int→eS,string→fz,string→tS,slice→tU,pointer→tW,bool→ua,agg→ub,int→Z
open _root_.Option.some renaming inj→cE,injEq→dd
open Go.Addr renaming add_lit→cY
open Go.Exit renaming inBlock→dk
open Go.Addr.mk renaming injEq→eR
open _root_.Int renaming toNat_natCast→eW
open _root_.Bool renaming and_eq_true→fj,true→tP,false→tR
open Go.Sem renaming run_bind→fX,run_pure→sn
open Go.Op renaming equalIn→gE
open _root_.ByteArray renaming empty→lO
open Go.Result renaming andThen_ok→mu
open _root_.Prod.mk renaming injEq→qs
open _root_.Option renaming some→tG,none→tM
open Go.Obj renaming cells→uc
open Go.IntKind renaming i64→U
open Tryz
theorem nD (m:Mo)(nm:bm)(w:World)(J:m.fs.length<=eC)(h:aJ Fn.cells 8 w w.heap.size m.fA m.fs):
  zP 50 #[ub m.cells,tS nm] w (Z U (m.fnIx nm)):=by
 obtain⟨R,v⟩:=zE (m.fnIx nm);rw[v];have x:cj (R=gW (λf:Fn=>f.c.nm==nm) m.fs):=by rw[<-v];rfl
 obtain⟨sA,sC,fA,fC,z,fs⟩:=m;simp only at J h x;have H:=zH h;unfold eC at J;simp only[Mo.cells];clear v h;obtain⟨N,hN⟩:=zE w.heap.size;obtain⟨W1,q⟩:=zE (w.alloc (uc #[tU sA z.length sC,tU fA fs.length fC] 25));have d:W1.heap[N]?=tG (uc #[tU sA z.length sC,tU fA fs.length fC] 25 (0,0)):=by rw[<-q,<-hN];exact alloc_at _ _
 have c1:W1.cell? ⟨N,0,tM⟩=tG (tU sA z.length sC):=(bw _ _ _ _ _ _ d).trans rfl;have c2:W1.cell? ⟨N,1,tM⟩=tG (tU fA fs.length fC):=(bw _ _ _ _ _ _ d).trans rfl;have A:=il q;have K:=zH A;have up:=zH q;have H1:=zH (H.out.grow A);clear d A q;go_enter func50,ntmps50
 go_upto_region 1 with(fail)
 rw[up.out]
 go_wp2_with fail
 go_loopw [5] (λk wr=>∃j:bh,j<=fs.length/\k= Z U (j:aw)/\(∀f∈fs.take j,(f.c.nm==nm)=tR)/\wr=W1) (λk _=>fs.length-(de k).toNat)
 case atStart=>exact⟨0,cN _,rfl,by simp,rfl⟩
 case round=>
  obtain⟨j,hj,rfl,o,rfl⟩:=hrel
  by_cases E:j<fs.length
  ·obtain⟨f,t⟩:∃y,fs[j]?=tG y:=⟨_,ap E⟩
   obtain⟨g1,ur,rfl,ux,d⟩:=H1.out (by intro e;rw[e] at E;simp at E);have d0:wr.cell? ⟨g1,ur+j*8,tM⟩=tG (tS f.c.nm):=d j f t 0 _ rfl;have vc:(j:aw)<(fs.length:aw):=by omega
   have HZ:=zH o;have HY:=zH t
   by_cases u:f.c.nm=nm
   ·subst u
    have G:cj (R=(j:aw)):=by unfold cj;rw[x.out];exact jd (p:=λg:Fn=>g.c.nm==f.c.nm) HZ.out HY.out (by simp)
    clear o t d;go_wp2;go_ret;rw[G.out];exact⟨rfl,K.out⟩
   ·have ue:¬(f.c.nm.toList=nm.toList):=λe=>u (eq_of_beq (by rw[fY,e];simp))
    have vd:(f.c.nm.toList==nm.toList)=tR:=by simpa using ue
    clear ue;have HD:cj ((f.c.nm==nm)=tR):=by unfold cj;simp[u]
    clear o t d u;go_wp2;exact⟨⟨j+1,by omega,by go_num,dR (p:=λf:Fn=>f.c.nm==nm) HZ.out HY.out HD.out,by first|rfl|trivial⟩,by simp[de];omega⟩
  ·have uv:j=fs.length:=by omega
   subst uv;rw[cR] at o;have G:cj (R= -1):=by unfold cj;rw[x.out];exact gI (p:=λf:Fn=>f.c.nm==nm) o
   clear o;go_wp2;go_ret;rw[G.out];exact⟨rfl,K.out⟩
theorem iQ (m:Mo)(nm:bm)(w:World)(G:m.ss.length<=eC)(h:aJ St.cells 4 w w.heap.size m.sA m.ss):
  zP 84 #[ub m.cells,tS nm] w (Z U (m.stIx nm)):=by
 obtain⟨R,v⟩:=zE (m.stIx nm);rw[v];have x:cj (R=gW (λf:St=>f.s.nm==nm) m.ss):=by rw[<-v];rfl
 obtain⟨sA,sC,fA,fC,ss,fs⟩:=m;simp only at G h x;have H:=zH h;unfold eC at G;simp only[Mo.cells];clear v h;obtain⟨N,hN⟩:=zE w.heap.size;obtain⟨W1,q⟩:=zE (w.alloc (uc #[tU sA ss.length sC,tU fA fs.length fC] 25));have d:W1.heap[N]?=tG (uc #[tU sA ss.length sC,tU fA fs.length fC] 25 (0,0)):=by rw[<-q,<-hN];exact alloc_at _ _
 have c1:W1.cell? ⟨N,0,tM⟩=tG (tU sA ss.length sC):=(bw _ _ _ _ _ _ d).trans rfl;have c2:W1.cell? ⟨N,1,tM⟩=tG (tU fA fs.length fC):=(bw _ _ _ _ _ _ d).trans rfl;have z:=il q;have J:=zH z;have up:=zH q;have H1:=zH (H.out.grow z);clear d z q;go_enter func84,ntmps84
 go_upto_region 1 with(fail)
 rw[up.out]
 go_wp2_with fail
 go_loopw [5] (λk wr=>∃j:bh,j<=ss.length/\k= Z U (j:aw)/\(∀f∈ss.take j,(f.s.nm==nm)=tR)/\wr=W1) (λk _=>ss.length-(de k).toNat)
 case atStart=>exact⟨0,cN _,rfl,by simp,rfl⟩
 case round=>
  obtain⟨j,hj,rfl,o,rfl⟩:=hrel
  by_cases A:j<ss.length
  ·obtain⟨f,t⟩:∃y,ss[j]?=tG y:=⟨_,ap A⟩
   obtain⟨g1,ur,rfl,ux,d⟩:=H1.out (by intro e;rw[e] at A;simp at A);have d0:wr.cell? ⟨g1,ur+j*4,tM⟩=tG (tS f.s.nm):=d j f t 0 _ rfl;have vc:(j:aw)<(ss.length:aw):=by omega
   have K:=zH o;have HY:=zH t
   by_cases u:f.s.nm=nm
   ·subst u
    have E:cj (R=(j:aw)):=by unfold cj;rw[x.out];exact jd (p:=λg:St=>g.s.nm==f.s.nm) K.out HY.out (by simp)
    clear o t d;go_wp2;go_ret;rw[E.out];exact⟨rfl,J.out⟩
   ·have ue:¬(f.s.nm.toList=nm.toList):=λe=>u (eq_of_beq (by rw[fY,e];simp))
    have vd:(f.s.nm.toList==nm.toList)=tR:=by simpa using ue
    clear ue;have HD:cj ((f.s.nm==nm)=tR):=by unfold cj;simp[u]
    clear o t d u;go_wp2;exact⟨⟨j+1,by omega,by go_num,dR (p:=λf:St=>f.s.nm==nm) K.out HY.out HD.out,by first|rfl|trivial⟩,by simp[de];omega⟩
  ·have uv:j=ss.length:=by omega
   subst uv;rw[cR] at o;have E:cj (R= -1):=by unfold cj;rw[x.out];exact gI (p:=λf:St=>f.s.nm==nm) o
   clear o;go_wp2;go_ret;rw[E.out];exact⟨rfl,J.out⟩
theorem bG (b:mm)(f:aw)(w:World):zP 51 #[ua b,Z U f] w (Z U (bU (!b) f)):=by
 cases b with
 |true=>
  go_enter func51,ntmps51;go_wp2;go_ret;exact⟨rfl,aq _ _⟩
 |false=>
  go_enter func51,ntmps51;go_wp2;go_ret;exact⟨rfl,aq _ _⟩
theorem o9 {α:Type}{p:α->mm}{xs:bj α}{y:α}{j:bh}(d:xs[j]?=tG y)(e:p y=tR):xs.all p=tR:=by
 rw[m6];exact⟨y,cd d,by simp[e]⟩
theorem CF (g:Fn)(w:World)(ao:cG fS)(cap:bh)(xs:bj aw)(hn:g.c.nvars=g.vs.length)(hl:xs.length<=eC)(h:ak w ao xs):
  zP 87 #[ub g.cells,tU ao xs.length cap] w (ua (aP g.vs.length xs)):=by
 obtain⟨R,v⟩:=zE (aP g.vs.length xs);rw[v];have t:cj (R=xs.all (isVar g.vs.length)):=by rw[<-v];rfl
 unfold eC at hl;simp only[Fn.cells,dx.cells];rw[hn];clear v hn;obtain⟨N,hN⟩:=zE w.heap.size;obtain⟨W1,u⟩:=zE (w.alloc (uc #[tS g.c.nm,Z U g.c.par,tU g.c.varsA g.vs.length g.c.varsC,ua g.c.rp,tS g.c.rto,Z U g.c.rcl,tU g.c.fromA g.c.nfrom g.c.fromC,tU g.c.insA g.c.ins.length g.c.insC] 38));have d:W1.heap[N]?=tG (uc #[tS g.c.nm,Z U g.c.par,tU g.c.varsA g.vs.length g.c.varsC,ua g.c.rp,tS g.c.rto,Z U g.c.rcl,tU g.c.fromA g.c.nfrom g.c.fromC,tU g.c.insA g.c.ins.length g.c.insC] 38 (0,0)):=by rw[<-u,<-hN];exact alloc_at _ _
 have ue:cj (W1.cell? ⟨N,2,tM⟩=tG (tU g.c.varsA g.vs.length g.c.varsC)):=(bw _ _ _ _ _ _ d).trans rfl;have A:=il u;have E:=zH A;have up:=zH u;have H1:=zH (h.below A);obtain⟨n,ur⟩:=zE g.vs.length;rw[ur] at t ue up⊢;clear d A u ur h;go_enter func87,ntmps87
 go_upto_region 1 with(fail)
 rw[up.out]
 go_wp2_with fail
 go_loopw [5] (λk wr=>∃j n':bh,j<=xs.length/\k= Z U (j:aw)/\(∀x∈xs.take j,isVar n x=tP)/\wr=W1.drewN n') (λk _=>xs.length-(de k).toNat)
 case atStart=>exact⟨0,0,cN _,rfl,by simp,rfl⟩
 case round=>
  obtain⟨j,n',hj,rfl,f,rfl⟩:=hrel
  by_cases G:j<xs.length
  ·obtain⟨x,o⟩:∃y,xs[j]?=tG y:=⟨_,ap G⟩
   obtain⟨g1,uv,rfl,vd,d⟩:=H1.out (by intro e;rw[e] at G;simp at G);have d0:W1.cell? ⟨g1,uv+j,tM⟩=tG (Z U x):=d j x o;have c2:=ue.out;have vf:(j:aw)<(xs.length:aw):=by omega
   have HZ:=zH f;have J:=zH o
   by_cases K:x<0
   ·have q:cj (R=tR):=by unfold cj;rw[t.out];exact o9 J.out (by unfold isVar;rw[cv (by omega)];rfl)
    have e0:decide (x<0)=tP:=cV K;clear f o d;go_wp2
    go_quiet (fail)
    go_wp2;go_ret;rw[q.out];exact⟨rfl,hU (hU E.out _) _⟩
   by_cases ux:(n:aw)<=x
   ·have q:cj (R=tR):=by unfold cj;rw[t.out];exact o9 J.out (by unfold isVar;rw[cv (show¬x<(n:aw) by omega),Bool.and_false])
    have e0:decide (x<0)=tR:=cv K;clear f o d;go_wp2
    go_quiet (fail)
    go_wp2;go_ret;rw[q.out];exact⟨rfl,hU (hU E.out _) _⟩
   ·have HD:cj (isVar n x=tP):=by unfold cj isVar;rw[cV (by omega),cV (by omega)];rfl
    have e0:decide (x<0)=tR:=cv K;have e1:decide ((n:aw)<=x)=tR:=cv ux;clear f o d;go_wp2
    go_quiet (fail)
    go_wp2;go_roundw
    case rel=>exact⟨j+1,_,by omega,by go_num,dL (p:=λz=>isVar n z=tP) HZ.out J.out HD.out,rfl⟩
    case measure=>simp[de];omega
  ·have vc:j=xs.length:=by omega
   subst vc;rw[cR] at f;have q:cj (R=tP):=by unfold cj;rw[t.out,gA];exact f
   clear f;go_wp2;go_ret;rw[q.out];exact⟨rfl,hU E.out _⟩
theorem CJ {w:World}{B:bh}{xs:bj bm}(d:B=w.heap.size):aW (w.alloc (uc (xs.map fz).toArray 9)) (tG ⟨B,0,tM⟩) xs:=by
 subst d;intro _;refine⟨w.heap.size,0,rfl,by simp,λk u e=> ?_⟩;rw[cL,World.cell?_alloc_new];simp[e]
theorem yl {α:Type}{p:α->mm}{xs:bj α}(h:∀z∈xs,p z=tR):xs.any p=tR:=by
 rw[lx];intro x d;rw[h x d];simp
theorem Aw (s:bm)(w:World):zP 89 #[tS s] w (ua (gX.any λx=>x==s)):=by
 obtain⟨R,f⟩:=zE (gX.any λx=>x==s);rw[f];obtain⟨N,hN⟩:=zE w.heap.size;obtain⟨W1,g⟩:=zE (w.alloc (uc #[tS ⟨#[43]⟩,tS ⟨#[45]⟩,tS ⟨#[42]⟩,tS ⟨#[47]⟩,tS ⟨#[37]⟩,tS ⟨#[60]⟩,tS ⟨#[60,61]⟩,tS ⟨#[62]⟩,tS ⟨#[62,61]⟩,tS ⟨#[61,61]⟩,tS ⟨#[33,61]⟩] 9));have hst:aW W1 (tG ⟨N,0,tM⟩) gX:=by rw[<-g];exact CJ hN.symm
 have A:=il g;obtain⟨xs,q⟩:=zE gX;have t:xs.length=11:=by rw[<-q];rfl
 rw[q] at hst f;have HS:=zH hst;have E:=zH f;have G:=zH A;have up:=zH g;clear hst f A g q;go_enter func89,ntmps89
 go_upto_region 2 with(fail)
 rw[up.out]
 go_wp2_with fail
 go_loopw [4] (λk wr=>∃j:bh,j<=11/\k= Z U (j:aw)/\(∀x∈xs.take j,(x==s)=tR)/\wr=W1) (λk _=>11-(de k).toNat)
 case atStart=>exact⟨0,cN _,rfl,by simp,rfl⟩
 case round=>
  obtain⟨j,hj,rfl,d,rfl⟩:=hrel
  by_cases uv:j<11
  ·obtain⟨x,h⟩:∃y,xs[j]?=tG y:=⟨_,ap (by omega)⟩
   obtain⟨g1,ux,J,vc,u⟩:=HS.out (by intro e;rw[e] at t;simp at t);simp only[dd,eR,pf] at J;obtain⟨rfl,rfl⟩:=J;have d0:wr.cell? ⟨N,j,tM⟩=tG (tS x):=by have:=u j x h;rwa [cL] at this
   have vd:(j:aw)<11:=by omega
   have HZ:=zH d;have K:=zH h
   by_cases o:x=s
   ·subst o
    have v:cj (R=tP):=by unfold cj;rw[<-E.out,kh];exact⟨x,cd K.out,by simp⟩
    clear d h u;go_wp2;go_ret;rw[v.out];exact⟨rfl,G.out⟩
   ·have ue:¬(x.toList=s.toList):=λe=>o (eq_of_beq (by rw[fY,e];simp))
    have vf:(x.toList==s.toList)=tR:=by simpa using ue
    clear ue;have HD:cj ((x==s)=tR):=by unfold cj;simp[o]
    clear d h u o;go_wp2;exact⟨⟨j+1,by omega,by go_num,dR (p:=λz:bm=>z==s) HZ.out K.out HD.out,by first|rfl|trivial⟩,by simp[de];omega⟩
  ·have ur:j=11:=by omega
   subst ur;rw[show(11:bh)=xs.length from t.symm,cR] at d;have v:cj (R=tR):=by unfold cj;rw[<-E.out];exact yl d
   clear d;go_wp2;go_ret;rw[v.out];exact⟨rfl,G.out⟩
theorem ym (m:Mo)(p:mm)(s:bm)(w:World)(hn:m.ss.length<=eC)(h:aJ St.cells 4 w w.heap.size m.sA m.ss):
  zP 85 #[ub m.cells,ub #[ua p,tS s]] w (ua (m.known (p,s))):=by
 obtain⟨R,v⟩:=zE (m.known (p,s));rw[v];have f:cj (R=if p=tP then decide (0<=m.stIx s) else s==lO):=by rw[<-v];rfl
 have y:=zH (dP p tR s lO);obtain⟨N,z⟩:=zE w.heap.size;obtain⟨W1,g⟩:=zE ((w.alloc (uc m.cells 25)).alloc (uc #[ua p,tS s] 32));have q:=E8 g;have up:W1.heap.size=N+2:=by rw[<-g];simp[z]
 have J:=vY g z;have K:=zl g z;have HK:cj (∀W,aE W1.heap.size W1 W->W.cell? ⟨N,0,tM⟩=tG (tU m.sA m.ss.length m.sC)/\W.cell? ⟨N,1,tM⟩=tG (tU m.fA m.fs.length m.fC)/\W.cell? ⟨N+1,0,tM⟩=tG (ua p)/\W.cell? ⟨N+1,1,tM⟩=tG (tS s)/\aE w.heap.size w W):=λW A=>by
  have q1:=(A.block N (by omega)).trans J;have q2:=(A.block (N+1) (by omega)).trans K;exact⟨by rw[bw _ _ _ _ _ _ q1];rfl,by rw[bw _ _ _ _ _ _ q1];rfl,by rw[bw _ _ _ _ _ _ q2];rfl,by rw[bw _ _ _ _ _ _ q2];rfl,q.trans (A.mono q.size)⟩
 obtain⟨c0,c1,c2,c3,_⟩:=HK.out W1 (aq _ _);have t:=zH (iQ m s W1 hn (h.grow q));have j:=zH q;have E:=g;simp only[Mo.cells] at E t;have u:=zH E;simp only[Mo.cells];clear q J K g E h v;cases p with
 |false=>
  have he:(lO).toList=([]:bj UInt8):=by simp[ByteArray.toList,ByteArray.toList.loop]
  by_cases hs:s.toList=[]
  ·have d:cj (R=tP):=by unfold cj;rw[f.out,bx (by simp),fY,he,hs];rfl
   clear f y;go_enter sL,rK
   go_upto_region 1 with(fail)
   rw[u.out];go_wp2;go_ret;rw[d.out];exact⟨rfl,j.out⟩
  ·have d:cj (R=tR):=by unfold cj;rw[f.out,bx (by simp),fY,he,cT];exact hs
   clear f y;go_enter sL,rK
   go_upto_region 1 with(fail)
   rw[u.out];go_wp2;go_ret;rw[d.out];exact⟨rfl,j.out⟩
 |true=>
  have d:cj (R=decide (0<=m.stIx s)):=by unfold cj;rw[f.out,cI rfl]
  obtain⟨x,hx⟩:=zE (m.stIx s);rw[hx] at t d;clear f y hx
  by_cases ue:0<=x
  ·go_enter sL,rK
   go_upto_region 1 with(fail)
   rw[u.out]
   go_wp2_with fail
   go_at_call 84;refine t.out.mono ?_;rintro e w2 ⟨rfl,o⟩;have G:=zH (j.out.trans (o.mono j.out.size));clear o c0 c1 c2 c3;go_wp2;go_ret;rw[d.out];exact⟨by simp[ue],G.out⟩
  ·go_enter sL,rK
   go_upto_region 1 with(fail)
   rw[u.out]
   go_wp2_with fail
   go_at_call 84;refine t.out.mono ?_;rintro e w2 ⟨rfl,o⟩;have G:=zH (j.out.trans (o.mono j.out.size));clear c0 c1 c2 c3;obtain⟨_,_,c2,c3,_⟩:=HK.out w2 o;clear o;go_wp2;go_ret;rw[d.out];exact⟨by simp,G.out⟩
theorem je (m:Mo)(g:Fn)(v f:aw)(w:World)(h:oQ w m g)(hv:isVar g.vs.length v=tP)(hk:m.known (ay g.vs v)=tP):
  zP 127 #[ub m.cells,ub g.cells,Z U v,Z U f] w (.tuple #[wG (aM m g.vs v f).1,Z U (aM m g.vs v f).2]):=by
 have HS:cj (∀W s,aE w.heap.size w W->zP 84 #[ub m.cells,tS s] W (Z U (m.stIx s))):=
  λW s z=>iQ m s W h.mo.ns (h.mo.below z).srow
 simp only[Mo.cells] at HS;have J:cj (aM m g.vs v f=(if (ay g.vs v).1=tR then(bM,7) else match m.ss[(m.stIx (ay g.vs v).2).toNat]? with
  |none=>(bM,15)
  |some s=>if f<0 then(bM,15) else match s.fs[f.toNat]? with
   |none=>(bM,15)
   |some x=>(x.ty,0):Ty×aw)):=rfl
 have HJ:=zH h;have HK:=zH hk;obtain⟨kv,o,K,xv,rfl,AE,xo,zp,up,vx,vy⟩:=ed h.vars hv;obtain⟨⟨b,s⟩,ht⟩:∃t,ay g.vs (kv:aw)=t:=⟨_,rfl⟩
 rw[ht] at up;simp only[qs] at up;rw[<-up.1] at vx;rw[<-up.2] at vy;rw[ht] at J HK;obtain⟨F,hF⟩:=zE (aM m g.vs (kv:aw) f);rw[hF] at J⊢;have hst:=λw c hc=>
  cx (P:=am) w 32 c #[ua b,tS s] (by show _=tG 2;kernel_rfl) hc (by simp[ct])
 have xp:=h.nv;have zs:=h.vl;unfold eC at zs;have AF:(kv:aw)<(g.vs.length:aw):=by omega
 simp only[Mo.cells,Fn.cells,dx.cells];rw[xp,xo];clear h hv hk ht hF up xp xo;obtain⟨N,hN⟩:=zE w.heap.size;obtain⟨Wa,ur⟩:=zE (w.alloc (uc #[tU m.sA m.ss.length m.sC,tU m.fA m.fs.length m.fC] 25));have xt:=iR ur hN;have vh:Wa.heap.size=N+1:=by rw[<-ur];simp[hN]
 have xF:Wa.heap[N]?=tG (uc #[tU m.sA m.ss.length m.sC,tU m.fA m.fs.length m.fC] 25 (0,0)):=by rw[<-ur,<-hN];exact alloc_at _ _
 obtain⟨Wb,uv⟩:=zE (Wa.alloc (uc #[tS g.c.nm,Z U g.c.par,tU (tG ⟨o,K,tM⟩) g.vs.length g.c.varsC,ua g.c.rp,tS g.c.rto,Z U g.c.rcl,tU g.c.fromA g.c.nfrom g.c.fromC,tU g.c.insA g.c.ins.length g.c.insC] 38));have we:aE (N+1) Wa Wb:=by rw[<-uv,<-vh];exact(aq _ _).alloc (cg _) _
 have vm:Wb.heap.size=N+2:=by rw[<-uv];simp[vh]
 have xT:Wb.heap[N+1]?=tG (uc #[tS g.c.nm,Z U g.c.par,tU (tG ⟨o,K,tM⟩) g.vs.length g.c.varsC,ua g.c.rp,tS g.c.rto,Z U g.c.rcl,tU g.c.fromA g.c.nfrom g.c.fromC,tU g.c.insA g.c.ins.length g.c.insC] 38 (0,0)):=by rw[<-uv,<-vh];exact alloc_at _ _
 obtain⟨W1,ux⟩:=zE (Wb.alloc (uc #[ua tR,tS ⟨#[]⟩] 32));have vp:aE (N+2) Wb W1:=by rw[<-ux,<-vm];exact(aq _ _).alloc (cg _) _
 have wg:W1.heap.size=N+3:=by rw[<-ux];simp[vm]
 have yb:W1.heap[N+2]?=tG (uc #[ua tR,tS ⟨#[]⟩] 32 (0,0)):=by rw[<-ux,<-vm];exact alloc_at _ _
 have yd:=(vp.block (N+1) (by omega)).trans xT;have ye:=(vp.block N (by omega)).trans ((we.block N (by omega)).trans xF);have R:=(xt.trans (we.mono (by omega))).trans (vp.mono (by omega));have c0:=zR yd 2 (tU (tG ⟨o,K,tM⟩) g.vs.length g.c.varsC);have c1:W1.cell? ⟨o,K+kv*3,tM⟩=tG (ua b):=by rw[R.cell (p:=⟨o,_,tM⟩) (show o<N by omega)];exact vx
 have c2:W1.cell? ⟨o,K+kv*3+1,tM⟩=tG (tS s):=by rw[R.cell (p:=⟨o,_,tM⟩) (show o<N by omega)];exact vy
 obtain⟨d,vc⟩:=zE (W1.alloc (uc #[ua b,tS s] 32));have vq:=il vc;have AH:d.heap.size=N+4:=by rw[<-vc];simp[wg]
 have yi:=(vq.block N (by omega)).trans ye;have wj:=(vq.block (N+2) (by omega)).trans yb;have yk:d.heap[N+3]?=tG (uc #[ua b,tS s] 32 (0,0)):=by rw[<-vc,<-wg];exact alloc_at _ _
 have vr:cj (aE N w d):=R.trans (vq.mono (by omega));have u:cj (∀W,aE d.heap.size d W->W.cell? ⟨N,0,tM⟩=tG (tU m.sA m.ss.length m.sC)/\W.cell? ⟨N,1,tM⟩=tG (tU m.fA m.fs.length m.fC)/\W.cell? ⟨N+3,0,tM⟩=tG (ua b)/\W.cell? ⟨N+3,1,tM⟩=tG (tS s)/\
   W.cell? ⟨N+2,0,tM⟩=tG (ua tR)/\W.cell? ⟨N+2,1,tM⟩=tG (tS ⟨#[]⟩)/\W.frozen? ⟨N+2,0,tM⟩=tR/\W.frozen? ⟨N+2,1,tM⟩=tR/\N+2<W.heap.size):=by
  intro W z;have q3:=(z.block N (by omega)).trans yi;have q4:=(z.block (N+2) (by omega)).trans wj;have q5:=(z.block (N+3) (by omega)).trans yk;refine⟨?_, ?_, ?_, ?_, ?_, ?_, ?_, ?_,(br.1 q4).1⟩
  ·rw[bw _ _ _ _ _ _ q3];rfl
  ·rw[bw _ _ _ _ _ _ q3];rfl
  ·rw[bw _ _ _ _ _ _ q5];rfl
  ·rw[bw _ _ _ _ _ _ q5];rfl
  ·rw[bw _ _ _ _ _ _ q4];rfl
  ·rw[bw _ _ _ _ _ _ q4];rfl
  ·exact ei _ _ _ _ _ q4
  ·exact ei _ _ _ _ _ q4
 have wk:cj (∀W,aE d.heap.size d W->W.heap[N+2]?=tG (uc #[ua tR,tS ⟨#[]⟩] 32 (0,0))):=λW z=>(z.block (N+2) (by omega)).trans wj;have A:=zH hN;have yp:=zH vc;have yq:cj (((w.alloc (uc #[tU m.sA m.ss.length m.sC,tU m.fA m.fs.length m.fC] 25)).alloc (uc #[tS g.c.nm,Z U g.c.par,tU (tG ⟨o,K,tM⟩) g.vs.length g.c.varsC,ua g.c.rp,tS g.c.rto,Z U g.c.rcl,tU g.c.fromA g.c.nfrom g.c.fromC,tU g.c.insA g.c.ins.length g.c.insC] 38)).alloc (uc #[ua tR,tS ⟨#[]⟩] 32)=W1):=by unfold cj;rw[ur,uv,ux]
 clear ur xt vh xF uv we vm xT ux vp ye yd yb R vc vq yi wj yk vx vy zp;go_enter func127,ntmps127
 go_upto_region 1 with(fail)
 rw[yq.out];clear yq hN
 go_upto_region 2 with(fail)
 rw[yp.out];clear yp hst c0 c1 c2 wg;obtain⟨k0,k1,k2,k3,k4,k5,k6,k7,zv⟩:=u.out d (aq _ _);cases b with
 |false=>
  have E:cj (F=(bM,7)):=by rw[J.out];rfl
  clear J;go_wp2;(try simp only[dk,Exit.then]);refine er (aT rfl _ _ (N+2) 32 _ (0,0) _ rfl (eQ (wk.out d (aq _ _))) eM (by kernel_rfl)) rfl ?_;rw[E.out,A.out];exact⟨rfl,(vr.out.setCell (by show N<=N+2;omega) _).setCell (by show N<=N+2;omega) _⟩
 |true=>
  obtain⟨k,j,wl,y⟩:=Ai HK.out rfl;obtain⟨b0,ws,hA,An,yr⟩:=HJ.out.mo.srow (by intro e;rw[e] at y;simp at y);have AI:=(bl.1 y).1;have AK:(k:aw)<(m.ss.length:aw):=by omega
  have At:b0<N:=by have:=A.out;omega
  have m4:∀p:BW d,p.w.cell? ⟨b0,ws+k*4+1,tM⟩=tG (tU j.s.fA j.fs.length j.s.fC):=λp=>by
   rw[(vr.out.trans (p.h.mono (by omega))).cell (p:=⟨b0,_,tM⟩) At];have:=yr k j y 1 _ rfl;rw[(HJ.out.mo.sin j (cd y)).nf] at this;exact this
  have yv:cj (∀p:BW d,zP 84 #[ub #[tU (tG ⟨b0,ws,tM⟩) m.ss.length m.sC,tU m.fA m.fs.length m.fC],tS s] p.w (Z U (k:aw))):=by
   intro p;have:=HS.out p.w s (by rw[A.out];exact vr.out.trans (p.h.mono (by omega)));rw[wl,hA] at this;exact this
  have G:cj (F=(if f<0 then(bM,15) else match j.fs[f.toNat]? with
   |none=>(bM,15)
   |some x=>(x.ty,0):Ty×aw)):=by
   unfold cj;rw[J.out,bx (by simp)]
   show(match m.ss[(m.stIx s).toNat]? with
    |none=>(bM,15)
    |some s=>if f<0 then(bM,15) else match s.fs[f.toNat]? with
     |none=>(bM,15)
     |some x=>(x.ty,0):Ty×aw)=_
   rw[wl,eW,y]
  have yy:cj (j.inn w):=HJ.out.mo.sin j (cd y);have Ax:=yy.out.len;unfold eC at Ax;rw[hA] at k0 u;have m0:∀p:BW d,p.w.cell? ⟨N,0,tM⟩=tG (tU (tG ⟨b0,ws,tM⟩) m.ss.length m.sC):=λp=>(u.out p.w p.h).1;have m1:∀p:BW d,p.w.cell? ⟨N,1,tM⟩=tG (tU m.fA m.fs.length m.fC):=λp=>(u.out p.w p.h).2.1;have m2:∀p:BW d,p.w.cell? ⟨N+3,0,tM⟩=tG (ua tP):=λp=>(u.out p.w p.h).2.2.1;have m3:∀p:BW d,p.w.cell? ⟨N+3,1,tM⟩=tG (tS s):=λp=>(u.out p.w p.h).2.2.2.1;clear J HK wl y hA An yr HJ HS
  go_wp2_with fail
  clear k0 k1 k2 k3 k4 k5 k6 k7 zv;refine zQ ?_
  repeat (go_big_quiet_step (first|(go_at_call 84;exact bE (yv.out _))))
  refine dj ?_;rintro _ ⟨p,rfl⟩;obtain⟨ue,vt⟩:=p
  show Exit.then _ _ _ _ ue
  obtain⟨_,_,_,_,j4,j5,j6,j7,AM⟩:=u.out ue vt;have yW:=wk.out ue vt;have vd:cj (aE N w ue):=vr.out.trans (vt.mono (by omega));have xf:=zH yW;clear vt u wk yv yW m0 m1 m2 m3 m4
  by_cases vu:f<0
  ·have E:cj (F=(bM,15)):=by unfold cj;rw[G.out,cI vu]
   clear G;go_wp2;(try simp only[dk,Exit.then]);refine er (aT rfl _ _ (N+2) 32 _ (0,0) _ rfl (eQ xf.out) eM (by kernel_rfl)) rfl ?_;rw[E.out,A.out];exact⟨rfl,(vd.out.setCell (by show N<=N+2;omega) _).setCell (by show N<=N+2;omega) _⟩
  obtain⟨q,rfl⟩:∃q:bh,f=(q:aw):=⟨f.toNat,by omega⟩
  rw[bx vu,eW] at G
  by_cases vf:q<j.fs.length
  ·obtain⟨x,hx⟩:∃x,j.fs[q]?=tG x:=⟨_,ap vf⟩
   have E:cj (F=(x.ty,0)):=by unfold cj;rw[G.out,hx]
   obtain⟨b1,zc,hA1,R,xj⟩:=yy.out.row (by intro e;rw[e] at vf;simp at vf);have zj:b1<N:=by have:=A.out;omega
   have e1:ue.cell? ⟨b1,zc+q*5+1,tM⟩=tG (ua x.ptr):=by rw[vd.out.cell (p:=⟨b1,_,tM⟩) zj];exact xj q x hx 1 _ rfl
   have e2:ue.cell? ⟨b1,zc+q*5+1+1,tM⟩=tG (tS x.tgt):=by rw[vd.out.cell (p:=⟨b1,_,tM⟩) zj];exact xj q x hx 2 _ rfl
   have AD:(q:aw)<(j.fs.length:aw):=by omega
   rw[hA1];clear G hx xj R hA1 vu vf;go_wp2;(try simp only[dk,Exit.then]);refine er (aT rfl _ _ (N+2) 32 _ (0,0) _ rfl (eQ xf.out) eM (by kernel_rfl)) rfl ?_;rw[E.out,A.out];exact⟨rfl,(vd.out.setCell (by show N<=N+2;omega) _).setCell (by show N<=N+2;omega) _⟩
  ·have E:cj (F=(bM,15)):=by unfold cj;rw[G.out,mw (by omega)]
   have AD:(j.fs.length:aw)<=(q:aw):=by omega
   clear G vu vf;go_wp2;(try simp only[dk,Exit.then]);refine er (aT rfl _ _ (N+2) 32 _ (0,0) _ rfl (eQ xf.out) eM (by kernel_rfl)) rfl ?_;rw[E.out,A.out];exact⟨rfl,(vd.out.setCell (by show N<=N+2;omega) _).setCell (by show N<=N+2;omega) _⟩
theorem Et {w W1:World}{a b c:eA cA}{d e f:gt}(h:((w.alloc (uc a d)).alloc (uc b e)).alloc (uc c f)=W1):
  aE w.heap.size w W1/\W1.heap.size=w.heap.size+3/\W1.heap[w.heap.size]?=tG (uc a d (0,0))/\W1.heap[w.heap.size+1]?=tG (uc b e (0,0))/\W1.heap[w.heap.size+2]?=tG (uc c f (0,0)):=by
 subst h;refine⟨(((aq _ _).alloc (cg _) _).alloc (by simp) _).alloc (by simp;omega) _,by simp, ?_, ?_, ?_⟩
 ·rw[cJ _ _ _ (by simp;omega),cJ _ _ _ (by simp)];exact alloc_at _ _
 ·rw[cJ _ _ _ (by simp)]
  have:=alloc_at (w.alloc (uc a d)) (uc b e)
  rwa [World.size_alloc] at this
 ·have:=alloc_at ((w.alloc (uc a d)).alloc (uc b e)) (uc c f)
  rwa [World.size_alloc,World.size_alloc] at this
def gc (g:Fn)(ao:cG fS):eA cA:=#[tS g.c.nm,Z U g.c.par,tU ao g.vs.length g.c.varsC,ua g.c.rp,tS g.c.rto,Z U g.c.rcl,tU g.c.fromA g.c.nfrom g.c.fromC,tU g.c.insA g.c.ins.length g.c.insC]
theorem kz {g:Fn}{ao:cG fS}(h:g.c.nvars=g.vs.length)(e:g.c.varsA=ao):g.cells=gc g ao:=by
 unfold Fn.cells dx.cells gc;rw[h,e]
theorem yn (m:Mo)(g:Fn)(i:Ins)(w:World)(h:oQ w m g)(vc:i.op=7)(ha:isVar g.vs.length i.a=tP)(ho:isVar g.vs.length i.d=tP)(hk:m.known (ay g.vs i.a)=tP):
  zP 90 #[ub m.cells,ub g.cells,ub i.cells] w (Z U (dA m g.vs i i.d tR)):=by
 have t:cj (∀W,aE w.heap.size w W->zP 127 #[ub m.cells,ub g.cells,Z U i.a,Z U i.f] W (.tuple #[wG (aM m g.vs i.a i.f).1,Z U (aM m g.vs i.a i.f).2])):=λW hW=>je m g i.a i.f W (h.below hW) ha hk;have A:cj (dA m g.vs i i.d tR=if (aM m g.vs i.a i.f).2≠0 then(aM m g.vs i.a i.f).2 else bU ((aM m g.vs i.a i.f).1==ay g.vs i.d&&(aM m g.vs i.a i.f).1.1==tR) 7):=rfl;obtain⟨ka,j,E,o,K,zc,vq,zj,zp,ws,xf⟩:=ed h.vars ha;obtain⟨kd,AK,AM,q,vd,zs,vr,_,xj,xo,xp⟩:=ed h.vars ho;rw[vq] at vr;simp only[dd,eR,pf] at vr;obtain⟨rfl,rfl⟩:=vr;rw[xj] at A;obtain⟨R,hR⟩:=zE (dA m g.vs i i.d tR);rw[hR] at A⊢;obtain⟨⟨⟨b,s⟩,z⟩,G⟩:∃F,aM m g.vs i.a i.f=F:=⟨_,rfl⟩
 rw[G] at A t;unfold wG at t;have hst:∀(w:World)(c:eA cA),c.size=2->(dt ⟨w.heap.size,0,tM⟩ [ua b,tS s] 0).run am (w.alloc (uc c 32))= .ok () (w.alloc (uc #[ua b,tS s] 32)):=λw c hc=>
  cx (P:=am) w 32 c #[ua b,tS s] (by show _=tG 2;kernel_rfl) hc (by simp[ct])
 have xt:∀(w:World)(c:eA cA),c.size=2->(dt ⟨w.heap.size,0,tM⟩ [ua o.ptr,tS o.tgt] 0).run am (w.alloc (uc c 32))= .ok () (w.alloc (uc #[ua o.ptr,tS o.tgt] 32)):=λw c hc=>
  cx (P:=am) w 32 c #[ua o.ptr,tS o.tgt] (by show _=tG 2;kernel_rfl) hc (by simp[ct])
 have xF:=h.nv;have zv:=h.vl;unfold eC at zv;have AN:(ka:aw)<(g.vs.length:aw):=by omega
 have AS:(kd:aw)<(g.vs.length:aw):=by omega
 have xT:=kz xF vq;rw[xT] at t⊢;simp only[Mo.cells,Ins.cells] at t⊢;rw[K] at t;rw[vc,K,vd];simp only[gc] at t⊢;obtain⟨N,hN⟩:=zE w.heap.size;obtain⟨W1,vt⟩:=zE (((w.alloc (uc m.cells 25)).alloc (uc (gc g (tG ⟨j,E,tM⟩)) 38)).alloc (uc i.cells 42));obtain⟨vf,vu,r0,r1,r2⟩:=Et vt;rw[hN] at vf vu r0 r1 r2;have An:cj (W1.heap[N+1]?=tG (uc #[tS g.c.nm,Z U g.c.par,tU (tG ⟨j,E,tM⟩) g.vs.length g.c.varsC,ua g.c.rp,tS g.c.rto,Z U g.c.rcl,tU g.c.fromA g.c.nfrom g.c.fromC,tU g.c.insA g.c.ins.length g.c.insC] 38 (0,0))):=r1;have HK:cj (∀W,aE (N+3) W1 W->W.cell? ⟨N+1,2,tM⟩=tG (tU (tG ⟨j,E,tM⟩) g.vs.length g.c.varsC)/\W.cell? ⟨N+2,0,tM⟩=tG (Z U 7)/\W.cell? ⟨N+2,2,tM⟩=tG (Z U (ka:aw))/\W.cell? ⟨N+2,1,tM⟩=tG (Z U (kd:aw))/\
   W.cell? ⟨j,E+ka*3,tM⟩=tG (ua o.ptr)/\W.cell? ⟨j,E+ka*3+1,tM⟩=tG (tS o.tgt)/\W.cell? ⟨j,E+kd*3,tM⟩=tG (ua q.ptr)/\W.cell? ⟨j,E+kd*3+1,tM⟩=tG (tS q.tgt)/\aE N w W):=λW hW=>by
  have p1:=(hW.block (N+1) (by omega)).trans r1;have p2:=(hW.block (N+2) (by omega)).trans r2;have y:=vf.trans (hW.mono (by omega));refine⟨?_, ?_, ?_, ?_, ?_, ?_, ?_, ?_,y⟩
  ·rw[bw _ _ _ _ _ _ p1];rfl
  ·rw[bw _ _ _ _ _ _ p2,<-vc];rfl
  ·rw[bw _ _ _ _ _ _ p2,<-K];rfl
  ·rw[bw _ _ _ _ _ _ p2,<-vd];rfl
  ·rw[y.cell (p:=⟨j,_,tM⟩) (show j<N by omega)];exact ws
  ·rw[y.cell (p:=⟨j,_,tM⟩) (show j<N by omega)];exact xf
  ·rw[y.cell (p:=⟨j,_,tM⟩) (show j<N by omega)];exact xo
  ·rw[y.cell (p:=⟨j,_,tM⟩) (show j<N by omega)];exact xp
 have c0:=zR r0 0 (tU m.sA m.ss.length m.sC);have c1:=zR r0 1 (tU m.fA m.fs.length m.fC);have c2:W1.cell? ⟨N+2,2,tM⟩=tG (Z U (ka:aw)):=by rw[bw _ _ _ _ _ _ r2,<-K];rfl
 have c3:=zR r2 4 (Z U i.f);have uv:=vt;simp only[Mo.cells,Ins.cells,gc] at uv;rw[vc,K] at uv;rw[vd] at uv;have yb:=zH uv;have HN:=zH hN;have At:=zH vf;have yd:=zH vu;rw[hN] at t;clear h ha ho hk vc K vd vq zj zp xj ws xf xo xp hR G xT vt uv vf r0 r1 r2 xF zs zc vu;go_enter sR,rL
 go_upto_region 1 with(fail)
 rw[yb.out]
 go_upto_region 2 with(first
  |(refine cm rfl 38 _ rfl (N+1) rfl 38 _ (0,0) _ An.out cQ rfl (by kernel_rfl) ?_)
  |(go_at_call 127;refine(t.out _ At.out).mono ?_;rintro e w2 ⟨rfl,Ax⟩;have vx:=zH Ax))
 clear c0 c1 c2 c3 yb;obtain⟨T,hT⟩:=zE w2.heap.size;obtain⟨J,ue⟩:=zE (w2.alloc (uc #[ua b,tS s] 32));rw[hT,ue];have AT:N+3<=T:=by have:=vx.out.size;rw[yd.out] at this;omega
 have vy:aE (N+3) W1 w2:=by have:=vx.out;rwa [yd.out] at this
 have up:aE (N+3) W1 J:=by rw[<-ue];exact vy.alloc (by omega) _
 have ye:J.heap.size=T+1:=by rw[<-ue];simp[hT]
 have we:J.heap[T]?=tG (uc #[ua b,tS s] 32 (0,0)):=by rw[<-ue,<-hT];exact alloc_at _ _
 by_cases G:z=0
 ·subst G
  have vh:cj (R=bU (((b,s):Ty)==(q.ptr,q.tgt)&&b==tR) 7):=by unfold cj;rw[A.out,bx (by simp)]
  obtain⟨u,ur⟩:=zE (J.alloc (uc #[ua o.ptr,tS o.tgt] 32));have yi:aE (N+3) W1 u:=by rw[<-ur];exact up.alloc (by omega) _
  have yk:u.heap.size=T+2:=by rw[<-ur];simp[ye]
  have yp:u.heap[T+1]?=tG (uc #[ua o.ptr,tS o.tgt] 32 (0,0)):=by rw[<-ur,<-ye];exact alloc_at _ _
  have yq:u.heap[T]?=tG (uc #[ua b,tS s] 32 (0,0)):=by rw[<-ur,cJ _ _ _ (by omega)];exact we
  obtain⟨c0,c1,c2,c3,c4,c5,c6,c7,_⟩:=HK.out J up;have yr:=zH ur;have yv:=zH yi;have ux:=zH yp;have AD:=zH yq;have AE:=zH yk;have AW:=zH up;obtain⟨d,wg⟩:=zE (((b,s):Ty)==(q.ptr,q.tgt));have A0:∀w,(gE 10000 32 (ub #[ua b,tS s]) (ub #[ua q.ptr,tS q.tgt])).run am w= .ok d w:=λw=>by rw[dP,wg]
  rw[wg] at vh;have d0:((0:aw) != 0)=tR:=rfl;clear hst ur yi yp yq yk ue up vy vx wg A t
  go_upto_region 5 with(fail)
  rw[yr.out];clear c0 c1 c2 c3 c4 c5 c6 c7 xt we yr;obtain⟨c0,c1,c2,c3,c4,c5,c6,c7,_⟩:=HK.out u yv.out;have k0:=zR ux.out 0 (ua o.ptr);have k1:=zR ux.out 1 (tS o.tgt);have f0:u.frozen? ⟨T+1,0,tM⟩=tR:=ei _ _ _ _ _ ux.out;have f1:u.frozen? ⟨T+1,1,tM⟩=tR:=ei _ _ _ _ _ ux.out;have AF:T+1<u.heap.size:=by have:=AE.out;omega
  go_upto_region 8 with(fail)
  obtain⟨v,vm⟩:=zE ((u.setCell ⟨T+1,0,tM⟩ (ua q.ptr)).setCell ⟨T+1,1,tM⟩ (tS q.tgt));rw[vm];have wj:v.heap[T+1]?=tG (uc #[ua q.ptr,tS q.tgt] 32 (0,0)):=by rw[<-vm];exact eQ ux.out
  have wk:aE (T+1) u v:=by rw[<-vm];exact((aq _ _).setCell (by show T+1<=T+1;omega) _).setCell (by show T+1<=T+1;omega) _
  have wl:v.heap[T]?=tG (uc #[ua b,tS s] 32 (0,0)):=(wk.block T (by omega)).trans AD.out;have yy:aE (N+3) W1 v:=yv.out.trans (wk.mono (by omega));clear c0 c1 c2 c3 c4 c5 c6 c7 k0 k1 f0 f1 AF vm;obtain⟨_,c1,_,_,_,_,_,_,y⟩:=HK.out v yy;have k0:=zR wj 0 (ua q.ptr);have k1:=zR wj 1 (tS q.tgt);have k2:=zR wl 0 (ua b);have k3:=zR wl 1 (tS s);have vp:=zH y;have HO:cj (∀x,zP 51 #[ua x,Z U 7] v (Z U (bU (!x) 7))):=λx=>bG x 7 v;have AH:cj (∀w9,aE v.heap.size v w9->aE N w w9):=λw9 h9=>vp.out.trans (h9.mono (by have:=vp.out.size;rw[HN.out] at this;exact this));clear wj wl wk yy y;cases d<;>cases b<;>(go_wp2_with (go_at_call 51;refine(HO.out _).mono ?_;rintro e w7 ⟨rfl,yW⟩;have AI:=zH yW;clear yW);go_ret;rw[vh.out,HN.out];exact⟨rfl,AH.out _ AI.out⟩)
 ·have vh:cj (R=z):=by unfold cj;rw[A.out,cI G]
  have A1:(z != 0)=tP:=by rw[pp];exact G
  have vp:cj (aE N w J):=(HK.out J up).2.2.2.2.2.2.2.2;clear A t HK G hst xt we up vy ue;go_wp2;go_ret;rw[vh.out,HN.out];exact⟨rfl,vp.out⟩
theorem yo (m:Mo)(g:Fn)(i:Ins)(w:World)(h:oQ w m g)(vc:i.op=8)(ha:isVar g.vs.length i.a=tP)(ho:isVar g.vs.length i.b=tP)(hk:m.known (ay g.vs i.a)=tP):
  zP 90 #[ub m.cells,ub g.cells,ub i.cells] w (Z U (dA m g.vs i i.b tR)):=by
 have t:cj (∀W,aE w.heap.size w W->zP 127 #[ub m.cells,ub g.cells,Z U i.a,Z U i.f] W (.tuple #[wG (aM m g.vs i.a i.f).1,Z U (aM m g.vs i.a i.f).2])):=λW hW=>je m g i.a i.f W (h.below hW) ha hk;have A:cj (dA m g.vs i i.b tR=if (aM m g.vs i.a i.f).2≠0 then(aM m g.vs i.a i.f).2 else bU ((aM m g.vs i.a i.f).1==ay g.vs i.b&&(aM m g.vs i.a i.f).1.1==tR) 7):=rfl;obtain⟨ka,j,E,o,K,zc,vq,zj,zp,ws,xf⟩:=ed h.vars ha;obtain⟨kd,AK,AM,q,vd,zs,vr,_,xj,xo,xp⟩:=ed h.vars ho;rw[vq] at vr;simp only[dd,eR,pf] at vr;obtain⟨rfl,rfl⟩:=vr;rw[xj] at A;obtain⟨R,hR⟩:=zE (dA m g.vs i i.b tR);rw[hR] at A⊢;obtain⟨⟨⟨b,s⟩,z⟩,G⟩:∃F,aM m g.vs i.a i.f=F:=⟨_,rfl⟩
 rw[G] at A t;unfold wG at t;have hst:∀(w:World)(c:eA cA),c.size=2->(dt ⟨w.heap.size,0,tM⟩ [ua b,tS s] 0).run am (w.alloc (uc c 32))= .ok () (w.alloc (uc #[ua b,tS s] 32)):=λw c hc=>
  cx (P:=am) w 32 c #[ua b,tS s] (by show _=tG 2;kernel_rfl) hc (by simp[ct])
 have xt:∀(w:World)(c:eA cA),c.size=2->(dt ⟨w.heap.size,0,tM⟩ [ua o.ptr,tS o.tgt] 0).run am (w.alloc (uc c 32))= .ok () (w.alloc (uc #[ua o.ptr,tS o.tgt] 32)):=λw c hc=>
  cx (P:=am) w 32 c #[ua o.ptr,tS o.tgt] (by show _=tG 2;kernel_rfl) hc (by simp[ct])
 have xF:=h.nv;have zv:=h.vl;unfold eC at zv;have AN:(ka:aw)<(g.vs.length:aw):=by omega
 have AS:(kd:aw)<(g.vs.length:aw):=by omega
 have xT:=kz xF vq;rw[xT] at t⊢;simp only[Mo.cells,Ins.cells] at t⊢;rw[K] at t;rw[vc,K,vd];simp only[gc] at t⊢;obtain⟨N,hN⟩:=zE w.heap.size;obtain⟨W1,vt⟩:=zE (((w.alloc (uc m.cells 25)).alloc (uc (gc g (tG ⟨j,E,tM⟩)) 38)).alloc (uc i.cells 42));obtain⟨vf,vu,r0,r1,r2⟩:=Et vt;rw[hN] at vf vu r0 r1 r2;have An:cj (W1.heap[N+1]?=tG (uc #[tS g.c.nm,Z U g.c.par,tU (tG ⟨j,E,tM⟩) g.vs.length g.c.varsC,ua g.c.rp,tS g.c.rto,Z U g.c.rcl,tU g.c.fromA g.c.nfrom g.c.fromC,tU g.c.insA g.c.ins.length g.c.insC] 38 (0,0))):=r1;have HK:cj (∀W,aE (N+3) W1 W->W.cell? ⟨N+1,2,tM⟩=tG (tU (tG ⟨j,E,tM⟩) g.vs.length g.c.varsC)/\W.cell? ⟨N+2,0,tM⟩=tG (Z U 8)/\W.cell? ⟨N+2,2,tM⟩=tG (Z U (ka:aw))/\W.cell? ⟨N+2,3,tM⟩=tG (Z U (kd:aw))/\
   W.cell? ⟨j,E+ka*3,tM⟩=tG (ua o.ptr)/\W.cell? ⟨j,E+ka*3+1,tM⟩=tG (tS o.tgt)/\W.cell? ⟨j,E+kd*3,tM⟩=tG (ua q.ptr)/\W.cell? ⟨j,E+kd*3+1,tM⟩=tG (tS q.tgt)/\aE N w W):=λW hW=>by
  have p1:=(hW.block (N+1) (by omega)).trans r1;have p2:=(hW.block (N+2) (by omega)).trans r2;have y:=vf.trans (hW.mono (by omega));refine⟨?_, ?_, ?_, ?_, ?_, ?_, ?_, ?_,y⟩
  ·rw[bw _ _ _ _ _ _ p1];rfl
  ·rw[bw _ _ _ _ _ _ p2,<-vc];rfl
  ·rw[bw _ _ _ _ _ _ p2,<-K];rfl
  ·rw[bw _ _ _ _ _ _ p2,<-vd];rfl
  ·rw[y.cell (p:=⟨j,_,tM⟩) (show j<N by omega)];exact ws
  ·rw[y.cell (p:=⟨j,_,tM⟩) (show j<N by omega)];exact xf
  ·rw[y.cell (p:=⟨j,_,tM⟩) (show j<N by omega)];exact xo
  ·rw[y.cell (p:=⟨j,_,tM⟩) (show j<N by omega)];exact xp
 have c0:=zR r0 0 (tU m.sA m.ss.length m.sC);have c1:=zR r0 1 (tU m.fA m.fs.length m.fC);have c2:W1.cell? ⟨N+2,2,tM⟩=tG (Z U (ka:aw)):=by rw[bw _ _ _ _ _ _ r2,<-K];rfl
 have c3:=zR r2 4 (Z U i.f);have uv:=vt;simp only[Mo.cells,Ins.cells,gc] at uv;rw[vc,K] at uv;rw[vd] at uv;have yb:=zH uv;have HN:=zH hN;have At:=zH vf;have yd:=zH vu;rw[hN] at t;clear h ha ho hk vc K vd vq zj zp xj ws xf xo xp hR G xT vt uv vf r0 r1 r2 xF zs zc vu;go_enter sR,rL
 go_upto_region 1 with(fail)
 rw[yb.out]
 go_upto_region 2 with(first
  |(refine cm rfl 38 _ rfl (N+1) rfl 38 _ (0,0) _ An.out cQ rfl (by kernel_rfl) ?_)
  |(go_at_call 127;refine(t.out _ At.out).mono ?_;rintro e w2 ⟨rfl,Ax⟩;have vx:=zH Ax))
 clear c0 c1 c2 c3 yb;obtain⟨T,hT⟩:=zE w2.heap.size;obtain⟨J,ue⟩:=zE (w2.alloc (uc #[ua b,tS s] 32));rw[hT,ue];have AT:N+3<=T:=by have:=vx.out.size;rw[yd.out] at this;omega
 have vy:aE (N+3) W1 w2:=by have:=vx.out;rwa [yd.out] at this
 have up:aE (N+3) W1 J:=by rw[<-ue];exact vy.alloc (by omega) _
 have ye:J.heap.size=T+1:=by rw[<-ue];simp[hT]
 have we:J.heap[T]?=tG (uc #[ua b,tS s] 32 (0,0)):=by rw[<-ue,<-hT];exact alloc_at _ _
 by_cases G:z=0
 ·subst G
  have vh:cj (R=bU (((b,s):Ty)==(q.ptr,q.tgt)&&b==tR) 7):=by unfold cj;rw[A.out,bx (by simp)]
  obtain⟨u,ur⟩:=zE (J.alloc (uc #[ua o.ptr,tS o.tgt] 32));have yi:aE (N+3) W1 u:=by rw[<-ur];exact up.alloc (by omega) _
  have yk:u.heap.size=T+2:=by rw[<-ur];simp[ye]
  have yp:u.heap[T+1]?=tG (uc #[ua o.ptr,tS o.tgt] 32 (0,0)):=by rw[<-ur,<-ye];exact alloc_at _ _
  have yq:u.heap[T]?=tG (uc #[ua b,tS s] 32 (0,0)):=by rw[<-ur,cJ _ _ _ (by omega)];exact we
  obtain⟨c0,c1,c2,c3,c4,c5,c6,c7,_⟩:=HK.out J up;have yr:=zH ur;have yv:=zH yi;have ux:=zH yp;have AD:=zH yq;have AE:=zH yk;have AW:=zH up;obtain⟨d,wg⟩:=zE (((b,s):Ty)==(q.ptr,q.tgt));have A0:∀w,(gE 10000 32 (ub #[ua b,tS s]) (ub #[ua q.ptr,tS q.tgt])).run am w= .ok d w:=λw=>by rw[dP,wg]
  rw[wg] at vh;have d0:((0:aw) != 0)=tR:=rfl;clear hst ur yi yp yq yk ue up vy vx wg A t
  go_upto_region 5 with(fail)
  rw[yr.out];clear c0 c1 c2 c3 c4 c5 c6 c7 xt we yr;obtain⟨c0,c1,c2,c3,c4,c5,c6,c7,_⟩:=HK.out u yv.out;have k0:=zR ux.out 0 (ua o.ptr);have k1:=zR ux.out 1 (tS o.tgt);have f0:u.frozen? ⟨T+1,0,tM⟩=tR:=ei _ _ _ _ _ ux.out;have f1:u.frozen? ⟨T+1,1,tM⟩=tR:=ei _ _ _ _ _ ux.out;have AF:T+1<u.heap.size:=by have:=AE.out;omega
  go_upto_region 8 with(fail)
  obtain⟨v,vm⟩:=zE ((u.setCell ⟨T+1,0,tM⟩ (ua q.ptr)).setCell ⟨T+1,1,tM⟩ (tS q.tgt));rw[vm];have wj:v.heap[T+1]?=tG (uc #[ua q.ptr,tS q.tgt] 32 (0,0)):=by rw[<-vm];exact eQ ux.out
  have wk:aE (T+1) u v:=by rw[<-vm];exact((aq _ _).setCell (by show T+1<=T+1;omega) _).setCell (by show T+1<=T+1;omega) _
  have wl:v.heap[T]?=tG (uc #[ua b,tS s] 32 (0,0)):=(wk.block T (by omega)).trans AD.out;have yy:aE (N+3) W1 v:=yv.out.trans (wk.mono (by omega));clear c0 c1 c2 c3 c4 c5 c6 c7 k0 k1 f0 f1 AF vm;obtain⟨_,c1,_,_,_,_,_,_,y⟩:=HK.out v yy;have k0:=zR wj 0 (ua q.ptr);have k1:=zR wj 1 (tS q.tgt);have k2:=zR wl 0 (ua b);have k3:=zR wl 1 (tS s);have vp:=zH y;have HO:cj (∀x,zP 51 #[ua x,Z U 7] v (Z U (bU (!x) 7))):=λx=>bG x 7 v;have AH:cj (∀w9,aE v.heap.size v w9->aE N w w9):=λw9 h9=>vp.out.trans (h9.mono (by have:=vp.out.size;rw[HN.out] at this;exact this));clear wj wl wk yy y;cases d<;>cases b<;>(go_wp2_with (go_at_call 51;refine(HO.out _).mono ?_;rintro e w7 ⟨rfl,yW⟩;have AI:=zH yW;clear yW);go_ret;rw[vh.out,HN.out];exact⟨rfl,AH.out _ AI.out⟩)
 ·have vh:cj (R=z):=by unfold cj;rw[A.out,cI G]
  have A1:(z != 0)=tP:=by rw[pp];exact G
  have vp:cj (aE N w J):=(HK.out J up).2.2.2.2.2.2.2.2;clear A t HK G hst xt we up vy ue;go_wp2;go_ret;rw[vh.out,HN.out];exact⟨rfl,vp.out⟩
theorem uW (m:Mo)(g:Fn)(i:Ins)(w:World)(h:oQ w m g)(vc:i.op=10)(ha:isVar g.vs.length i.a=tP)(ho:isVar g.vs.length i.d=tP)(hk:m.known (ay g.vs i.a)=tP):
  zP 90 #[ub m.cells,ub g.cells,ub i.cells] w (Z U (dA m g.vs i i.d tP)):=by
 have t:cj (∀W,aE w.heap.size w W->zP 127 #[ub m.cells,ub g.cells,Z U i.a,Z U i.f] W (.tuple #[wG (aM m g.vs i.a i.f).1,Z U (aM m g.vs i.a i.f).2])):=λW hW=>je m g i.a i.f W (h.below hW) ha hk;have A:cj (dA m g.vs i i.d tP=if (aM m g.vs i.a i.f).2≠0 then(aM m g.vs i.a i.f).2 else bU ((aM m g.vs i.a i.f).1==ay g.vs i.d&&(aM m g.vs i.a i.f).1.1==tP) 7):=rfl;obtain⟨ka,j,E,o,K,zc,vq,zj,zp,ws,xf⟩:=ed h.vars ha;obtain⟨kd,AK,AM,q,vd,zs,vr,_,xj,xo,xp⟩:=ed h.vars ho;rw[vq] at vr;simp only[dd,eR,pf] at vr;obtain⟨rfl,rfl⟩:=vr;rw[xj] at A;obtain⟨R,hR⟩:=zE (dA m g.vs i i.d tP);rw[hR] at A⊢;obtain⟨⟨⟨b,s⟩,z⟩,G⟩:∃F,aM m g.vs i.a i.f=F:=⟨_,rfl⟩
 rw[G] at A t;unfold wG at t;have hst:∀(w:World)(c:eA cA),c.size=2->(dt ⟨w.heap.size,0,tM⟩ [ua b,tS s] 0).run am (w.alloc (uc c 32))= .ok () (w.alloc (uc #[ua b,tS s] 32)):=λw c hc=>
  cx (P:=am) w 32 c #[ua b,tS s] (by show _=tG 2;kernel_rfl) hc (by simp[ct])
 have xt:∀(w:World)(c:eA cA),c.size=2->(dt ⟨w.heap.size,0,tM⟩ [ua o.ptr,tS o.tgt] 0).run am (w.alloc (uc c 32))= .ok () (w.alloc (uc #[ua o.ptr,tS o.tgt] 32)):=λw c hc=>
  cx (P:=am) w 32 c #[ua o.ptr,tS o.tgt] (by show _=tG 2;kernel_rfl) hc (by simp[ct])
 have xF:=h.nv;have zv:=h.vl;unfold eC at zv;have AN:(ka:aw)<(g.vs.length:aw):=by omega
 have AS:(kd:aw)<(g.vs.length:aw):=by omega
 have xT:=kz xF vq;rw[xT] at t⊢;simp only[Mo.cells,Ins.cells] at t⊢;rw[K] at t;rw[vc,K,vd];simp only[gc] at t⊢;obtain⟨N,hN⟩:=zE w.heap.size;obtain⟨W1,vt⟩:=zE (((w.alloc (uc m.cells 25)).alloc (uc (gc g (tG ⟨j,E,tM⟩)) 38)).alloc (uc i.cells 42));obtain⟨vf,vu,r0,r1,r2⟩:=Et vt;rw[hN] at vf vu r0 r1 r2;have An:cj (W1.heap[N+1]?=tG (uc #[tS g.c.nm,Z U g.c.par,tU (tG ⟨j,E,tM⟩) g.vs.length g.c.varsC,ua g.c.rp,tS g.c.rto,Z U g.c.rcl,tU g.c.fromA g.c.nfrom g.c.fromC,tU g.c.insA g.c.ins.length g.c.insC] 38 (0,0))):=r1;have HK:cj (∀W,aE (N+3) W1 W->W.cell? ⟨N+1,2,tM⟩=tG (tU (tG ⟨j,E,tM⟩) g.vs.length g.c.varsC)/\W.cell? ⟨N+2,0,tM⟩=tG (Z U 10)/\W.cell? ⟨N+2,2,tM⟩=tG (Z U (ka:aw))/\W.cell? ⟨N+2,1,tM⟩=tG (Z U (kd:aw))/\
   W.cell? ⟨j,E+ka*3,tM⟩=tG (ua o.ptr)/\W.cell? ⟨j,E+ka*3+1,tM⟩=tG (tS o.tgt)/\W.cell? ⟨j,E+kd*3,tM⟩=tG (ua q.ptr)/\W.cell? ⟨j,E+kd*3+1,tM⟩=tG (tS q.tgt)/\aE N w W):=λW hW=>by
  have p1:=(hW.block (N+1) (by omega)).trans r1;have p2:=(hW.block (N+2) (by omega)).trans r2;have y:=vf.trans (hW.mono (by omega));refine⟨?_, ?_, ?_, ?_, ?_, ?_, ?_, ?_,y⟩
  ·rw[bw _ _ _ _ _ _ p1];rfl
  ·rw[bw _ _ _ _ _ _ p2,<-vc];rfl
  ·rw[bw _ _ _ _ _ _ p2,<-K];rfl
  ·rw[bw _ _ _ _ _ _ p2,<-vd];rfl
  ·rw[y.cell (p:=⟨j,_,tM⟩) (show j<N by omega)];exact ws
  ·rw[y.cell (p:=⟨j,_,tM⟩) (show j<N by omega)];exact xf
  ·rw[y.cell (p:=⟨j,_,tM⟩) (show j<N by omega)];exact xo
  ·rw[y.cell (p:=⟨j,_,tM⟩) (show j<N by omega)];exact xp
 have c0:=zR r0 0 (tU m.sA m.ss.length m.sC);have c1:=zR r0 1 (tU m.fA m.fs.length m.fC);have c2:W1.cell? ⟨N+2,2,tM⟩=tG (Z U (ka:aw)):=by rw[bw _ _ _ _ _ _ r2,<-K];rfl
 have c3:=zR r2 4 (Z U i.f);have uv:=vt;simp only[Mo.cells,Ins.cells,gc] at uv;rw[vc,K] at uv;rw[vd] at uv;have yb:=zH uv;have HN:=zH hN;have At:=zH vf;have yd:=zH vu;rw[hN] at t;clear h ha ho hk vc K vd vq zj zp xj ws xf xo xp hR G xT vt uv vf r0 r1 r2 xF zs zc vu;go_enter sR,rL
 go_upto_region 1 with(fail)
 rw[yb.out]
 go_upto_region 2 with(first
  |(refine cm rfl 38 _ rfl (N+1) rfl 38 _ (0,0) _ An.out cQ rfl (by kernel_rfl) ?_)
  |(go_at_call 127;refine(t.out _ At.out).mono ?_;rintro e w2 ⟨rfl,Ax⟩;have vx:=zH Ax))
 clear c0 c1 c2 c3 yb;obtain⟨T,hT⟩:=zE w2.heap.size;obtain⟨J,ue⟩:=zE (w2.alloc (uc #[ua b,tS s] 32));rw[hT,ue];have AT:N+3<=T:=by have:=vx.out.size;rw[yd.out] at this;omega
 have vy:aE (N+3) W1 w2:=by have:=vx.out;rwa [yd.out] at this
 have up:aE (N+3) W1 J:=by rw[<-ue];exact vy.alloc (by omega) _
 have ye:J.heap.size=T+1:=by rw[<-ue];simp[hT]
 have we:J.heap[T]?=tG (uc #[ua b,tS s] 32 (0,0)):=by rw[<-ue,<-hT];exact alloc_at _ _
 by_cases G:z=0
 ·subst G
  have vh:cj (R=bU (((b,s):Ty)==(q.ptr,q.tgt)&&b==tP) 7):=by unfold cj;rw[A.out,bx (by simp)]
  obtain⟨u,ur⟩:=zE (J.alloc (uc #[ua o.ptr,tS o.tgt] 32));have yi:aE (N+3) W1 u:=by rw[<-ur];exact up.alloc (by omega) _
  have yk:u.heap.size=T+2:=by rw[<-ur];simp[ye]
  have yp:u.heap[T+1]?=tG (uc #[ua o.ptr,tS o.tgt] 32 (0,0)):=by rw[<-ur,<-ye];exact alloc_at _ _
  have yq:u.heap[T]?=tG (uc #[ua b,tS s] 32 (0,0)):=by rw[<-ur,cJ _ _ _ (by omega)];exact we
  obtain⟨c0,c1,c2,c3,c4,c5,c6,c7,_⟩:=HK.out J up;have yr:=zH ur;have yv:=zH yi;have ux:=zH yp;have AD:=zH yq;have AE:=zH yk;have AW:=zH up;obtain⟨d,wg⟩:=zE (((b,s):Ty)==(q.ptr,q.tgt));have A0:∀w,(gE 10000 32 (ub #[ua b,tS s]) (ub #[ua q.ptr,tS q.tgt])).run am w= .ok d w:=λw=>by rw[dP,wg]
  rw[wg] at vh;have d0:((0:aw) != 0)=tR:=rfl;clear hst ur yi yp yq yk ue up vy vx wg A t
  go_upto_region 5 with(fail)
  rw[yr.out];clear c0 c1 c2 c3 c4 c5 c6 c7 xt we yr;obtain⟨c0,c1,c2,c3,c4,c5,c6,c7,_⟩:=HK.out u yv.out;have k0:=zR ux.out 0 (ua o.ptr);have k1:=zR ux.out 1 (tS o.tgt);have f0:u.frozen? ⟨T+1,0,tM⟩=tR:=ei _ _ _ _ _ ux.out;have f1:u.frozen? ⟨T+1,1,tM⟩=tR:=ei _ _ _ _ _ ux.out;have AF:T+1<u.heap.size:=by have:=AE.out;omega
  go_upto_region 8 with(fail)
  obtain⟨v,vm⟩:=zE ((u.setCell ⟨T+1,0,tM⟩ (ua q.ptr)).setCell ⟨T+1,1,tM⟩ (tS q.tgt));rw[vm];have wj:v.heap[T+1]?=tG (uc #[ua q.ptr,tS q.tgt] 32 (0,0)):=by rw[<-vm];exact eQ ux.out
  have wk:aE (T+1) u v:=by rw[<-vm];exact((aq _ _).setCell (by show T+1<=T+1;omega) _).setCell (by show T+1<=T+1;omega) _
  have wl:v.heap[T]?=tG (uc #[ua b,tS s] 32 (0,0)):=(wk.block T (by omega)).trans AD.out;have yy:aE (N+3) W1 v:=yv.out.trans (wk.mono (by omega));clear c0 c1 c2 c3 c4 c5 c6 c7 k0 k1 f0 f1 AF vm;obtain⟨_,c1,_,_,_,_,_,_,y⟩:=HK.out v yy;have k0:=zR wj 0 (ua q.ptr);have k1:=zR wj 1 (tS q.tgt);have k2:=zR wl 0 (ua b);have k3:=zR wl 1 (tS s);have vp:=zH y;have HO:cj (∀x,zP 51 #[ua x,Z U 7] v (Z U (bU (!x) 7))):=λx=>bG x 7 v;have AH:cj (∀w9,aE v.heap.size v w9->aE N w w9):=λw9 h9=>vp.out.trans (h9.mono (by have:=vp.out.size;rw[HN.out] at this;exact this));clear wj wl wk yy y;cases d<;>cases b<;>(go_wp2_with (go_at_call 51;refine(HO.out _).mono ?_;rintro e w7 ⟨rfl,yW⟩;have AI:=zH yW;clear yW);go_ret;rw[vh.out,HN.out];exact⟨rfl,AH.out _ AI.out⟩)
 ·have vh:cj (R=z):=by unfold cj;rw[A.out,cI G]
  have A1:(z != 0)=tP:=by rw[pp];exact G
  have vp:cj (aE N w J):=(HK.out J up).2.2.2.2.2.2.2.2;clear A t HK G hst xt we up vy ue;go_wp2;go_ret;rw[vh.out,HN.out];exact⟨rfl,vp.out⟩
theorem uX (m:Mo)(g:Fn)(i:Ins)(w:World)(h:oQ w m g)(vc:i.op=11)(ha:isVar g.vs.length i.a=tP)(ho:isVar g.vs.length i.b=tP)(hk:m.known (ay g.vs i.a)=tP):
  zP 90 #[ub m.cells,ub g.cells,ub i.cells] w (Z U (dA m g.vs i i.b tP)):=by
 have t:cj (∀W,aE w.heap.size w W->zP 127 #[ub m.cells,ub g.cells,Z U i.a,Z U i.f] W (.tuple #[wG (aM m g.vs i.a i.f).1,Z U (aM m g.vs i.a i.f).2])):=λW hW=>je m g i.a i.f W (h.below hW) ha hk;have A:cj (dA m g.vs i i.b tP=if (aM m g.vs i.a i.f).2≠0 then(aM m g.vs i.a i.f).2 else bU ((aM m g.vs i.a i.f).1==ay g.vs i.b&&(aM m g.vs i.a i.f).1.1==tP) 7):=rfl;obtain⟨ka,j,E,o,K,zc,vq,zj,zp,ws,xf⟩:=ed h.vars ha;obtain⟨kd,AK,AM,q,vd,zs,vr,_,xj,xo,xp⟩:=ed h.vars ho;rw[vq] at vr;simp only[dd,eR,pf] at vr;obtain⟨rfl,rfl⟩:=vr;rw[xj] at A;obtain⟨R,hR⟩:=zE (dA m g.vs i i.b tP);rw[hR] at A⊢;obtain⟨⟨⟨b,s⟩,z⟩,G⟩:∃F,aM m g.vs i.a i.f=F:=⟨_,rfl⟩
 rw[G] at A t;unfold wG at t;have hst:∀(w:World)(c:eA cA),c.size=2->(dt ⟨w.heap.size,0,tM⟩ [ua b,tS s] 0).run am (w.alloc (uc c 32))= .ok () (w.alloc (uc #[ua b,tS s] 32)):=λw c hc=>
  cx (P:=am) w 32 c #[ua b,tS s] (by show _=tG 2;kernel_rfl) hc (by simp[ct])
 have xt:∀(w:World)(c:eA cA),c.size=2->(dt ⟨w.heap.size,0,tM⟩ [ua o.ptr,tS o.tgt] 0).run am (w.alloc (uc c 32))= .ok () (w.alloc (uc #[ua o.ptr,tS o.tgt] 32)):=λw c hc=>
  cx (P:=am) w 32 c #[ua o.ptr,tS o.tgt] (by show _=tG 2;kernel_rfl) hc (by simp[ct])
 have xF:=h.nv;have zv:=h.vl;unfold eC at zv;have AN:(ka:aw)<(g.vs.length:aw):=by omega
 have AS:(kd:aw)<(g.vs.length:aw):=by omega
 have xT:=kz xF vq;rw[xT] at t⊢;simp only[Mo.cells,Ins.cells] at t⊢;rw[K] at t;rw[vc,K,vd];simp only[gc] at t⊢;obtain⟨N,hN⟩:=zE w.heap.size;obtain⟨W1,vt⟩:=zE (((w.alloc (uc m.cells 25)).alloc (uc (gc g (tG ⟨j,E,tM⟩)) 38)).alloc (uc i.cells 42));obtain⟨vf,vu,r0,r1,r2⟩:=Et vt;rw[hN] at vf vu r0 r1 r2;have An:cj (W1.heap[N+1]?=tG (uc #[tS g.c.nm,Z U g.c.par,tU (tG ⟨j,E,tM⟩) g.vs.length g.c.varsC,ua g.c.rp,tS g.c.rto,Z U g.c.rcl,tU g.c.fromA g.c.nfrom g.c.fromC,tU g.c.insA g.c.ins.length g.c.insC] 38 (0,0))):=r1;have HK:cj (∀W,aE (N+3) W1 W->W.cell? ⟨N+1,2,tM⟩=tG (tU (tG ⟨j,E,tM⟩) g.vs.length g.c.varsC)/\W.cell? ⟨N+2,0,tM⟩=tG (Z U 11)/\W.cell? ⟨N+2,2,tM⟩=tG (Z U (ka:aw))/\W.cell? ⟨N+2,3,tM⟩=tG (Z U (kd:aw))/\
   W.cell? ⟨j,E+ka*3,tM⟩=tG (ua o.ptr)/\W.cell? ⟨j,E+ka*3+1,tM⟩=tG (tS o.tgt)/\W.cell? ⟨j,E+kd*3,tM⟩=tG (ua q.ptr)/\W.cell? ⟨j,E+kd*3+1,tM⟩=tG (tS q.tgt)/\aE N w W):=λW hW=>by
  have p1:=(hW.block (N+1) (by omega)).trans r1;have p2:=(hW.block (N+2) (by omega)).trans r2;have y:=vf.trans (hW.mono (by omega));refine⟨?_, ?_, ?_, ?_, ?_, ?_, ?_, ?_,y⟩
  ·rw[bw _ _ _ _ _ _ p1];rfl
  ·rw[bw _ _ _ _ _ _ p2,<-vc];rfl
  ·rw[bw _ _ _ _ _ _ p2,<-K];rfl
  ·rw[bw _ _ _ _ _ _ p2,<-vd];rfl
  ·rw[y.cell (p:=⟨j,_,tM⟩) (show j<N by omega)];exact ws
  ·rw[y.cell (p:=⟨j,_,tM⟩) (show j<N by omega)];exact xf
  ·rw[y.cell (p:=⟨j,_,tM⟩) (show j<N by omega)];exact xo
  ·rw[y.cell (p:=⟨j,_,tM⟩) (show j<N by omega)];exact xp
 have c0:=zR r0 0 (tU m.sA m.ss.length m.sC);have c1:=zR r0 1 (tU m.fA m.fs.length m.fC);have c2:W1.cell? ⟨N+2,2,tM⟩=tG (Z U (ka:aw)):=by rw[bw _ _ _ _ _ _ r2,<-K];rfl
 have c3:=zR r2 4 (Z U i.f);have uv:=vt;simp only[Mo.cells,Ins.cells,gc] at uv;rw[vc,K] at uv;rw[vd] at uv;have yb:=zH uv;have HN:=zH hN;have At:=zH vf;have yd:=zH vu;rw[hN] at t;clear h ha ho hk vc K vd vq zj zp xj ws xf xo xp hR G xT vt uv vf r0 r1 r2 xF zs zc vu;go_enter sR,rL
 go_upto_region 1 with(fail)
 rw[yb.out]
 go_upto_region 2 with(first
  |(refine cm rfl 38 _ rfl (N+1) rfl 38 _ (0,0) _ An.out cQ rfl (by kernel_rfl) ?_)
  |(go_at_call 127;refine(t.out _ At.out).mono ?_;rintro e w2 ⟨rfl,Ax⟩;have vx:=zH Ax))
 clear c0 c1 c2 c3 yb;obtain⟨T,hT⟩:=zE w2.heap.size;obtain⟨J,ue⟩:=zE (w2.alloc (uc #[ua b,tS s] 32));rw[hT,ue];have AT:N+3<=T:=by have:=vx.out.size;rw[yd.out] at this;omega
 have vy:aE (N+3) W1 w2:=by have:=vx.out;rwa [yd.out] at this
 have up:aE (N+3) W1 J:=by rw[<-ue];exact vy.alloc (by omega) _
 have ye:J.heap.size=T+1:=by rw[<-ue];simp[hT]
 have we:J.heap[T]?=tG (uc #[ua b,tS s] 32 (0,0)):=by rw[<-ue,<-hT];exact alloc_at _ _
 by_cases G:z=0
 ·subst G
  have vh:cj (R=bU (((b,s):Ty)==(q.ptr,q.tgt)&&b==tP) 7):=by unfold cj;rw[A.out,bx (by simp)]
  obtain⟨u,ur⟩:=zE (J.alloc (uc #[ua o.ptr,tS o.tgt] 32));have yi:aE (N+3) W1 u:=by rw[<-ur];exact up.alloc (by omega) _
  have yk:u.heap.size=T+2:=by rw[<-ur];simp[ye]
  have yp:u.heap[T+1]?=tG (uc #[ua o.ptr,tS o.tgt] 32 (0,0)):=by rw[<-ur,<-ye];exact alloc_at _ _
  have yq:u.heap[T]?=tG (uc #[ua b,tS s] 32 (0,0)):=by rw[<-ur,cJ _ _ _ (by omega)];exact we
  obtain⟨c0,c1,c2,c3,c4,c5,c6,c7,_⟩:=HK.out J up;have yr:=zH ur;have yv:=zH yi;have ux:=zH yp;have AD:=zH yq;have AE:=zH yk;have AW:=zH up;obtain⟨d,wg⟩:=zE (((b,s):Ty)==(q.ptr,q.tgt));have A0:∀w,(gE 10000 32 (ub #[ua b,tS s]) (ub #[ua q.ptr,tS q.tgt])).run am w= .ok d w:=λw=>by rw[dP,wg]
  rw[wg] at vh;have d0:((0:aw) != 0)=tR:=rfl;clear hst ur yi yp yq yk ue up vy vx wg A t
  go_upto_region 5 with(fail)
  rw[yr.out];clear c0 c1 c2 c3 c4 c5 c6 c7 xt we yr;obtain⟨c0,c1,c2,c3,c4,c5,c6,c7,_⟩:=HK.out u yv.out;have k0:=zR ux.out 0 (ua o.ptr);have k1:=zR ux.out 1 (tS o.tgt);have f0:u.frozen? ⟨T+1,0,tM⟩=tR:=ei _ _ _ _ _ ux.out;have f1:u.frozen? ⟨T+1,1,tM⟩=tR:=ei _ _ _ _ _ ux.out;have AF:T+1<u.heap.size:=by have:=AE.out;omega
  go_upto_region 8 with(fail)
  obtain⟨v,vm⟩:=zE ((u.setCell ⟨T+1,0,tM⟩ (ua q.ptr)).setCell ⟨T+1,1,tM⟩ (tS q.tgt));rw[vm];have wj:v.heap[T+1]?=tG (uc #[ua q.ptr,tS q.tgt] 32 (0,0)):=by rw[<-vm];exact eQ ux.out
  have wk:aE (T+1) u v:=by rw[<-vm];exact((aq _ _).setCell (by show T+1<=T+1;omega) _).setCell (by show T+1<=T+1;omega) _
  have wl:v.heap[T]?=tG (uc #[ua b,tS s] 32 (0,0)):=(wk.block T (by omega)).trans AD.out;have yy:aE (N+3) W1 v:=yv.out.trans (wk.mono (by omega));clear c0 c1 c2 c3 c4 c5 c6 c7 k0 k1 f0 f1 AF vm;obtain⟨_,c1,_,_,_,_,_,_,y⟩:=HK.out v yy;have k0:=zR wj 0 (ua q.ptr);have k1:=zR wj 1 (tS q.tgt);have k2:=zR wl 0 (ua b);have k3:=zR wl 1 (tS s);have vp:=zH y;have HO:cj (∀x,zP 51 #[ua x,Z U 7] v (Z U (bU (!x) 7))):=λx=>bG x 7 v;have AH:cj (∀w9,aE v.heap.size v w9->aE N w w9):=λw9 h9=>vp.out.trans (h9.mono (by have:=vp.out.size;rw[HN.out] at this;exact this));clear wj wl wk yy y;cases d<;>cases b<;>(go_wp2_with (go_at_call 51;refine(HO.out _).mono ?_;rintro e w7 ⟨rfl,yW⟩;have AI:=zH yW;clear yW);go_ret;rw[vh.out,HN.out];exact⟨rfl,AH.out _ AI.out⟩)
 ·have vh:cj (R=z):=by unfold cj;rw[A.out,cI G]
  have A1:(z != 0)=tP:=by rw[pp];exact G
  have vp:cj (aE N w J):=(HK.out J up).2.2.2.2.2.2.2.2;clear A t HK G hst xt we up vy ue;go_wp2;go_ret;rw[vh.out,HN.out];exact⟨rfl,vp.out⟩
theorem Ay (m:Mo)(g:Fn)(i:Ins)(w:World)(h:oQ w m g)(hi:i.args_in w)(AM:i.args.length<=eC)(hd:isVar g.vs.length i.d=tP)(ha:∀a∈i.args,isVar g.vs.length a=tP):
  zP 91 #[ub m.cells,ub g.cells,ub i.cells] w (Z U (iL m g.vs i)):=by
 obtain⟨⟨_,B9,n2,Cd,AN⟩,ao,cap,xF,xT⟩:=hi;have HA:cj (ak w ao i.args):=xT.at_;have HJ:=zH h;have AS:=zH ha;have AT:=zH xF;have K:cj (iL m g.vs i=if i.f<0 then 15 else match m.fs[i.f.toNat]? with
  |none=>15
  |some g'=>if (i.args.length:aw)≠g'.c.par\/(g'.vs.length:aw)<g'.c.par then 7
   else if iT g.vs g'.vs 0 i.args=tR then 7 else bU (ay g.vs i.d==g'.ret) 7):=rfl
 obtain⟨R,hR⟩:=zE (iL m g.vs i);rw[hR] at K⊢;obtain⟨z,o,A,J,vt,AW,ur,A0,yb,A1,A2⟩:=ed h.vars hd;have yd:=h.nv;have A3:=h.vl;unfold eC at A3 AM;have A4:(z:aw)<(g.vs.length:aw):=by omega
 have ye:=kz yd ur;rw[ye];obtain⟨N,hN⟩:=zE w.heap.size;obtain⟨W1,wk⟩:=zE (((w.alloc (uc m.cells 25)).alloc (uc (gc g (tG ⟨o,A,tM⟩)) 38)).alloc (uc i.cells 42));obtain⟨wl,yi,r0,r1,r2⟩:=Et wk;rw[hN] at wl yi r0 r1 r2;have i4:=zR r2 4 (Z U i.f);have k1:=zR r0 1 (tU m.fA m.fs.length m.fC);have yk:cj (∀(W:World)(v:aw),aE N w W->isVar g.vs.length v=tP->∃(k:bh) (x:Vr),v=(k:aw)/\k<g.vs.length/\ay g.vs v=(x.ptr,x.tgt)/\W.cell? ⟨o,A+k*3,tM⟩=tG (ua x.ptr)/\W.cell? ⟨o,A+k*3+1,tM⟩=tG (tS x.tgt)):=by
  intro W v E hv;obtain⟨k,b,ue,x,r1,r2,r3,r4,r5,r6,r7⟩:=ed h.vars hv;rw[ur] at r3;simp only[dd,eR,pf] at r3;obtain⟨rfl,rfl⟩:=r3;exact⟨k,x,r1,r2,r5,by rw[E.cell (p:=⟨o,_,tM⟩) (show o<N by omega)];exact r6,by rw[E.cell (p:=⟨o,_,tM⟩) (show o<N by omega)];exact r7⟩
 have vu:=wk;simp only[Mo.cells,Ins.cells,gc] at vu;simp only[Mo.cells,Ins.cells,gc];rw[vt];rw[vt] at vu;have vh:=zH vu;have uv:=zH wl;have A5:=zH r0;have yp:=zH r1;have yq:=zH r2;have G:=zH hN;have vm:=zH yi;have yr:=zH vt;have yv:=zH yb;clear hR h xT hd ha AN xF wk vu wl r0 r1 r2 vt yb A1 A2 ur ye yd A0 AW
 by_cases vp:i.f<0
 ·have t:cj (R=15):=by unfold cj;rw[K.out,cI vp]
  clear K;go_enter func91,ntmps91
  go_upto_region 1 with(fail)
  rw[vh.out];go_wp2;go_ret;rw[t.out];exact⟨rfl,by first|exact uv.out|(rw[G.out];exact uv.out)⟩
 obtain⟨F,hF⟩:∃F:bh,i.f=(F:aw):=⟨i.f.toNat,by omega⟩
 rw[hF] at i4
 by_cases vq:F<m.fs.length
 rotate_left
 ·have t:cj (R=15):=by unfold cj;rw[K.out,bx vp,hF,eW,mw (by omega)]
  have A6:(m.fs.length:aw)<=(F:aw):=by omega
  clear K vq vp hF;go_enter func91,ntmps91
  go_upto_region 1 with(fail)
  rw[vh.out];go_wp2;go_ret;rw[t.out];exact⟨rfl,by first|exact uv.out|(rw[G.out];exact uv.out)⟩
 obtain⟨f,vx⟩:∃f,m.fs[F]?=tG f:=⟨_,ap vq⟩
 have ux:cj (R=if (i.args.length:aw)≠f.c.par\/(f.vs.length:aw)<f.c.par then 7 else if iT g.vs f.vs 0 i.args=tR then 7 else bU (ay g.vs i.d==f.ret) 7):=by
  unfold cj;rw[K.out,bx vp,hF,eW,vx]
 have ws:=HJ.out.mo.fin f (cd vx);have Bk:=zH ws;obtain⟨fb,yy,xf,Bm,yW⟩:=HJ.out.mo.frow (by intro e;rw[e] at vq;simp at vq);have Bs:fb<N:=by have:=G.out;omega
 have zc:cj (∀k u,f.cells.toList[k]?=tG u->W1.cell? ((⟨fb,yy+F*8,tM⟩:fS).add k)=tG u):=λk u hu=>by
  rw[cY,uv.out.cell (p:=⟨fb,_,tM⟩) Bs];exact yW F f vx k u hu
 have A6:(F:aw)<(m.fs.length:aw):=by omega
 obtain⟨q,vc⟩:=zE (W1.alloc (uc f.cells 38));have hst:∀(c:eA cA),c.size=8->(dt ⟨N+3,0,tM⟩ f.cells.toList 0).run am (W1.alloc (uc c 38))= .ok () q:=λc hc=>by
  rw[<-vc,<-vm.out];exact cx (P:=am) W1 38 c f.cells (by show _=tG 8;kernel_rfl) hc (oU f)
 have vy:aE (N+3) W1 q:=by rw[<-vc,<-vm.out];exact(aq _ _).alloc (cg _) _
 have zj:q.heap[N+3]?=tG (uc f.cells 38 (0,0)):=by rw[<-vc,<-vm.out];exact alloc_at _ _
 have By:q.heap.size=N+4:=by rw[<-vc];simp[vm.out]
 have we:cj (aE N w q):=uv.out.trans (vy.mono (by omega));have xj:cj (∀W,aE q.heap.size q W->W.cell? ⟨N+1,2,tM⟩=tG (tU (tG ⟨o,A,tM⟩) g.vs.length g.c.varsC)/\W.cell? ⟨N+2,1,tM⟩=tG (Z U (z:aw))/\W.cell? ⟨N+2,7,tM⟩=tG (tU ao i.args.length cap)/\
   W.cell? ⟨N+3,1,tM⟩=tG (Z U f.c.par)/\W.cell? ⟨N+3,2,tM⟩=tG (tU f.c.varsA f.vs.length f.c.varsC)/\W.cell? ⟨N+3,3,tM⟩=tG (ua f.c.rp)/\W.cell? ⟨N+3,3+1,tM⟩=tG (tS f.c.rto)/\aE N w W):=by
  intro W E;have q1:=(E.block (N+1) (by omega)).trans ((vy.block (N+1) (by omega)).trans yp.out);have q2:=(E.block (N+2) (by omega)).trans ((vy.block (N+2) (by omega)).trans yq.out);have q3:=(E.block (N+3) (by omega)).trans zj;refine⟨?_, ?_, ?_, ?_, ?_, ?_, ?_,we.out.trans (E.mono (by omega))⟩
  ·rw[bw _ _ _ _ _ _ q1];rfl
  ·rw[bw _ _ _ _ _ _ q2,<-yr.out];rfl
  ·rw[bw _ _ _ _ _ _ q2,<-AT.out];rfl
  ·rw[bw _ _ _ _ _ _ q3];rfl
  ·rw[bw _ _ _ _ _ _ q3,<-ws.nvars];rfl
  ·rw[bw _ _ _ _ _ _ q3];rfl
  ·rw[bw _ _ _ _ _ _ q3];rfl
 obtain⟨j2,j1,j7,c1,c2,c3,c4,_⟩:=xj.out q (aq _ _);have zp:cj (∀(W:World)(v:aw),aE q.heap.size q W->isVar f.vs.length v=tP->∃(k b ue:bh) (x:Vr),v=(k:aw)/\k<f.vs.length/\f.c.varsA=tG ⟨b,ue,tM⟩/\b<q.heap.size/\ay f.vs v=(x.ptr,x.tgt)/\W.cell? ⟨b,ue+k*3,tM⟩=tG (ua x.ptr)/\W.cell? ⟨b,ue+k*3+1,tM⟩=tG (tS x.tgt)):=by
  intro W v E hv;have zs:aE w.heap.size w W:=by rw[G.out];exact we.out.trans (E.mono (by omega))
  obtain⟨k,b,ue,x,r1,r2,r3,r4,r5,r6,r7⟩:=ed (Bk.out.vars) hv;exact⟨k,b,ue,x,r1,r2,r3,by omega,r5,by rw[zs.cell (p:=⟨b,_,tM⟩) r4];exact r6,by rw[zs.cell (p:=⟨b,_,tM⟩) r4];exact r7⟩
 have Cl:=zH vc;have Cp:=zH By;rw[xf] at k1;rw[xf] at vh⊢;have BE:W1.heap.size=N+3:=vm.out;clear K vp hF vq vx ws xf yW vy zj yp yq A5 Bm vc;have CA:i.args.length<=9223372036854775807:=by omega
 go_enter func91,ntmps91
 go_upto_region 1 with(fail)
 rw[vh.out];clear vh
 go_upto_region 4 with(first
  |(refine au rfl 38 _ rfl ⟨fb,yy+F*8,tM⟩ rfl f.cells _ zc.out cQ rfl (by kernel_rfl) ?_))
 clear hst i4 k1 zc BE
 by_cases vd:(i.args.length:aw)=f.c.par
 rotate_left
 ·have t:cj (R=7):=by unfold cj;rw[ux.out,cI (.inl vd)]
  have CC:((i.args.length:aw) != f.c.par)=tP:=by rw[pp];exact vd
  clear ux;go_wp2;go_ret;rw[t.out,G.out];exact⟨rfl,we.out⟩
 by_cases wg:(f.vs.length:aw)<f.c.par
 ·have t:cj (R=7):=by unfold cj;rw[ux.out,cI (.inr wg)]
  rw[<-vd] at wg c1;clear ux;go_wp2;go_ret;rw[t.out,G.out];exact⟨rfl,we.out⟩
 have xo:cj (R=if iT g.vs f.vs 0 i.args=tR then 7 else bU (ay g.vs i.d==f.ret) 7):=by
  unfold cj;rw[ux.out,bx (λh=>by rcases h with h|h;exact h vd;exact wg h)]
 rw[<-vd] at wg c1;have CD:i.args.length<=f.vs.length:=by omega
 clear ux vd
 go_upto_region 6 with(fail)
 clear c1 c2 c3 c4 j1 j2 j7
 go_wp2_with fail
 go_loopw [8] (λc wr=>∃j:bh,j<=i.args.length/\c= Z U (j:aw)/\(∀k a,k<j->i.args[k]?=tG a->(ay g.vs a==ay f.vs (k:aw))=tP)/\aE q.heap.size q wr) (λc _=>i.args.length-(de c).toNat)
 case atStart=>exact⟨0,cN _,rfl,λk a hk=>fL hk (by omega),aq _ _⟩
 case round=>
  obtain⟨j,hj,rfl,xp,hb⟩:=hrel;have HB:=zH hb;have zv:=zH xp;obtain⟨j2,j1,j7,c1,c2,c3,c4,vr⟩:=xj.out wr hb;have BT:=zH vr
  by_cases wj:j<i.args.length
  ·obtain⟨y,hy⟩:∃y,i.args[j]?=tG y:=⟨_,ap wj⟩
   obtain⟨ab,BY,B5,CH,An⟩:=(HA.out.below (by rw[G.out];exact vr)) (by intro e;rw[e] at wj;simp at wj)
   have d1:wr.cell? ⟨ab,BY+j,tM⟩=tG (Z U y):=An j y hy;have At:isVar g.vs.length y=tP:=AS.out y (cd hy);obtain⟨ky,xy,Ax,CM,AD,e0,e1⟩:=yk.out wr y vr At;obtain⟨k',b,ue,x,CN,CT,ur,C4,AE,x0,x1⟩:=zp.out wr (j:aw) hb (eT.2 ⟨by omega,by omega⟩);obtain rfl:k'=j:=by omega
   obtain⟨d,up⟩:=zE (((xy.ptr,xy.tgt):Ty)==(x.ptr,x.tgt));have B6:∀w,(gE 10000 32 (ub #[ua xy.ptr,tS xy.tgt]) (ub #[ua x.ptr,tS x.tgt])).run am w= .ok d w:=λw=>by rw[dP,up]
   have AF:cj ((ay g.vs y==ay f.vs (k':aw))=d):=by unfold cj;rw[AD,AE];exact up
   have HY:=zH hy;have C5:(k':aw)<(i.args.length:aw):=by omega
   have C6:(k':aw)<(f.vs.length:aw):=by omega
   have C7:(ky:aw)<(g.vs.length:aw):=by omega
   subst B5;rw[ur] at c2;rw[Ax] at d1;clear xp hb vr hy An At ur AE AD up wj Ax c1 c3 c4 j1;cases d with
   |true=>
    go_wp2_with fail
    go_quiet (fail)
    go_wp2;go_roundw
    case rel=>
     refine⟨k'+1,by omega,by go_num,λk a hk xt=> ?_,hU HB.out _⟩
     by_cases e:k=k'
     ·subst e
      rw[HY.out] at xt;obtain rfl:=cE xt;exact AF.out
     ·exact zv.out k a (by omega) xt
    case measure=>simp[de];omega
   |false=>
    have t:cj (R=7):=by
     unfold cj;rw[xo.out,cI];cases hc:iT g.vs f.vs 0 i.args with
     |false=>rfl
     |true=>
      have:=(ku _ _ _ _).1 hc k' y HY.out;rw[cL,AF.out] at this;cases this
    go_wp2_with fail
    go_quiet (fail)
    go_wp2;go_ret;rw[t.out,G.out];exact⟨rfl,hU BT.out _⟩
  ·have B7:j=i.args.length:=by omega
   subst B7;have AH:cj (R=bU (ay g.vs i.d==f.ret) 7):=by
    unfold cj;rw[xo.out,bx];rw[(ku _ _ _ _).2 (λk a hk=>by rw[cL];exact zv.out k a (bl.1 hk).1 hk)];decide
   have AI:isVar g.vs.length (z:aw)=tP:=eT.2 ⟨by omega,A4⟩;obtain⟨d,up⟩:=zE (((J.ptr,J.tgt):Ty)==(f.c.rp,f.c.rto));have B6:∀w,(gE 10000 32 (ub #[ua J.ptr,tS J.tgt]) (ub #[ua f.c.rp,tS f.c.rto])).run am w= .ok d w:=λw=>by rw[dP,up]
   have t:cj (R=bU d 7):=by unfold cj;rw[AH.out,yv.out,<-up];rfl
   have vf:cj (∀p:BW wr,_):=λp:BW wr=>xj.out p.w (HB.out.trans (p.h.mono HB.out.size));have AK:cj (∀p:BW wr,p.w.cell? ⟨o,A+z*3,tM⟩=tG (ua J.ptr)/\p.w.cell? ⟨o,A+z*3+1,tM⟩=tG (tS J.tgt)):=λp=>by
    obtain⟨k,x,q1,_,q2,q3,q4⟩:=yk.out p.w (z:aw) (vf.out p).2.2.2.2.2.2.2 AI;obtain rfl:z=k:=by omega
    rw[<-yr.out,yv.out] at q2;simp only[qs] at q2;rw[q2.1,q2.2];exact⟨q3,q4⟩
   have g0:∀p:BW wr,p.w.cell? ⟨N+1,2,tM⟩=tG (tU (tG ⟨o,A,tM⟩) g.vs.length g.c.varsC):=λp=>(vf.out p).1;have g1:∀p:BW wr,p.w.cell? ⟨N+2,1,tM⟩=tG (Z U (z:aw)):=λp=>(vf.out p).2.1;have g3:∀p:BW wr,p.w.cell? ⟨N+3,3,tM⟩=tG (ua f.c.rp):=λp=>(vf.out p).2.2.2.2.2.1;have g4:∀p:BW wr,p.w.cell? ⟨N+3,3+1,tM⟩=tG (tS f.c.rto):=λp=>(vf.out p).2.2.2.2.2.2.1;have g5:∀p:BW wr,p.w.cell? ⟨o,A+z*3,tM⟩=tG (ua J.ptr):=λp=>(AK.out p).1;have g6:∀p:BW wr,p.w.cell? ⟨o,A+z*3+1,tM⟩=tG (tS J.tgt):=λp=>(AK.out p).2;have HO:cj (∀(p:BW wr) x,zP 51 #[ua x,Z U 7] p.w (Z U (bU (!x) 7))):=λp x=>bG x 7 p.w;clear xp hb vr up xo AH zp c1 c2 c3 c4 j1 j2 AI;cases d<;>
    (go_wp2_with fail
     clear j7;refine zQ ?_
     repeat (go_big_quiet_step (first|(go_at_call 51;exact bE (HO.out _ _))))
     refine dj ?_;rintro _ ⟨p,rfl⟩;have B8:=zH (vf.out p).2.2.2.2.2.2.2;clear g0 g1 g3 g4 g5 g6;go_wp2;go_ret;rw[t.out,G.out];exact⟨rfl,B8.out⟩)
theorem ak.lit (w:World)(d:eA cA)(xs:bj aw){B:bh}(e:B=w.heap.size)(h:d=(xs.map (eS .i64)).toArray):ak (w.alloc (.cells d 3)) (tG ⟨B,0,tM⟩) xs:=by
 subst e h;intro _;refine⟨w.heap.size,0,rfl,by simp,λi u hi=> ?_⟩;rw[cL,World.cell?_alloc_new];simp[hi]
theorem yt (op:aw)(xs:bj aw)(n:bh)(d:n=xs.length)(e:xs.length<=90000)(W:World)(ao:cG fS)(h:ak W ao xs):
  zS 126 #[Z U op,tU ao n n] W (ua (decide (op∈xs))):=by
 subst d;exact En W _ ao xs op e h
theorem kW (i:Ins)(w:World)(q:i.ok):zP 86 #[.agg i.cells] w (.tuple #[.int .i64 (az i).1,.bool (az i).2]):=by
 obtain⟨op,d,a,b,f,n,t,u,v,x,y,z,A,args⟩:=i;obtain⟨⟨ao,cap,g⟩,E,n2,G,j⟩:=q;simp only at g j;subst g j;simp only[Ins.cells,az];have o:cj (∀(W:World) ao,ak W ao [1,2,3,4,5,7,9,10,12,14,15]->zS 126 #[.int .i64 op,.slice ao 11 11] W (.bool (qY op))):=
  λW ao h=>yt op [1,2,3,4,5,7,9,10,12,14,15] 11 rfl (by simp) W ao h
 cases J:qY op with
 |true=>
  go_enter func86,ntmps86
  go_wp2_with (go_at_call 126;refine(o.out _ _ (ak.lit _ _ _ (by simp) rfl)).mono ?_;rintro e w' ⟨rfl,rfl⟩)
  go_ret2
  exact⟨rfl,((aq _ _).alloc (cg _) _).alloc (by simp) _⟩
 |false=>
  go_enter func86,ntmps86
  go_wp2_with (go_at_call 126;refine(o.out _ _ (ak.lit _ _ _ (by simp) rfl)).mono ?_;rintro e w' ⟨rfl,rfl⟩)
  go_ret2
  exact⟨rfl,((aq _ _).alloc (cg _) _).alloc (by simp) _⟩
theorem lQ (i:Ins)(w:World)(yr:i.args_in w)(hl:i.args.length<=40):ge am 88 #[.agg i.cells] w (fK w (readsOf i)):=by
 obtain⟨op,d,a,b,f,n,xp,yv,yy,xt,xF,ln,cl,args⟩:=i;obtain⟨⟨_,xT,n2,yb,h2⟩,ao,cap,h1,wg⟩:=yr;simp only at h1 h2 wg hl;subst h1 h2;simp only[Ins.cells,readsOf];have HA:cj (∀(W:World) ao,ak W ao [3,4,6,7,8,9,10,11,13,14,17,18]->zS 126 #[.int .i64 op,.slice ao 12 12] W (.bool (sP op))):=
  λW ao h=>yt op [3,4,6,7,8,9,10,11,13,14,17,18] 12 rfl (by simp) W ao h
 have HB:cj (∀(W:World) ao,ak W ao [4,8,11]->zS 126 #[.int .i64 op,.slice ao 3 3] W (.bool (rM op))):=
  λW ao h=>yt op [4,8,11] 3 rfl (by simp) W ao h
 have yd:=zH wg.at_;clear wg;obtain⟨N,z⟩:=zE w.heap.size;obtain⟨W1,vh⟩:=zE (w.alloc (.cells #[.int .i64 op,.int .i64 d,.int .i64 a,.int .i64 b,.int .i64 f,.int .i64 n,.string xp,.slice ao args.length cap,.slice xT n2 yb,.int .i64 xt,.int .i64 xF,.int .i64 ln,.int .i64 cl] 42));have ye:=iR vh z;have yi:W1.heap.size=N+1:=by rw[<-vh];simp[z]
 have yk:W1.heap[N]?=tG (.cells #[.int .i64 op,.int .i64 d,.int .i64 a,.int .i64 b,.int .i64 f,.int .i64 n,.string xp,.slice ao args.length cap,.slice xT n2 yb,.int .i64 xt,.int .i64 xF,.int .i64 ln,.int .i64 cl] 42 (0,0)):=by
  rw[<-vh,<-z];exact alloc_at _ _
 have y:cj (∀W,Ext (λk=>N+1<=k) W1 W->W.cell? ⟨N,0,tM⟩=tG (.int .i64 op)/\W.cell? ⟨N,2,tM⟩=tG (.int .i64 a)/\W.cell? ⟨N,3,tM⟩=tG (.int .i64 b)/\W.cell? ⟨N,7,tM⟩=tG (.slice ao args.length cap)/\N<W.heap.size/\aE N w W/\ak W ao args):=by
  intro W hx;have h4:=hx.heap yk (by omega);have yp:aE N w W:=ye.trans ((hx.below (B:=N+1) (by omega) (λk x=>x)).mono (by omega));refine⟨?_, ?_, ?_, ?_,(br.1 h4).1,yp,yd.out.below (by rw[z];exact yp)⟩<;>(rw[bw _ _ _ _ _ _ h4];rfl)
 have vu:=zH yi;have vx:=zH vh;have yW:N+1<=W1.heap.size:=by omega
 clear ye yi yk vh yd
 by_cases vy:op=15
 ·subst vy
  have ea:sP 15=tR:=by decide
  have eb:rM 15=tR:=by decide
  rw[ea,eb,bx (by decide),bx (by decide),cI rfl];rw[ea] at HA;rw[eb] at HB;simp only[fN];clear ea eb;go_enter sX,rN
  go_wp2_with fail
  go_at_call 126;rw[vx.out];refine(HA.out _ _ (ak.lit _ _ _ (by have:=vu.out;omega) rfl)).mono ?_;rintro e w2 ⟨rfl,A⟩;have q:Ext (λk=>N+1<=k) W1 w2:=by rw[<-A];exact(Ext.refl _ _).alloc _
  obtain⟨G,J,K,R,ue,g,o⟩:=y.out w2 q;have up:=zH q;have wj:=zH o;have wk:=zH g;clear A q o g
  go_wp2_with fail
  go_at_call 126;refine(HB.out _ _ (ak.lit _ _ _ rfl rfl)).mono ?_;rintro e t ⟨rfl,u⟩;have v:Ext (λk=>N+1<=k) W1 t:=by rw[<-u];exact up.out.alloc _
  have E:=il u;obtain⟨G,J,K,R,ue,g,o⟩:=y.out t v;have vm:=zH v;have vp:=zH E;have we:=zH o;have vc:=zH g;clear u v E o g;have wl:N<t.heap.size+1:=by omega
  go_wp2_with (at_builtin;refine aR rfl (.tmp 25) (.tmp 27) rfl (N+1) (.slice tM 0 0) [] rfl (aL.nil _ _) _ args cap rfl we.out ?c51 ?c52 ?_)
  case c51=>first|omega|(simp<;>omega)|simp
  case c52=>first|omega|(simp<;>omega)|simp
  intro v5 w5 ur vq;obtain⟨ws,xf,rfl⟩:=ur.isSlice;have vr:Ext (λk=>N+1<=k) W1 w5:=vm.out.trans (Ext.of_grown vq (λk x=> .inl (by first|(have h3:=((aL.nil _ _).lt k x).1;exact h3)|(simp[et] at x)))) (λj hj=> .inl hj);have HG:cj (fK w args (.returned (.slice ws args.length xf)) w5):=⟨_,_,rfl,by rw[z];exact aL.mono (by simpa using ur) (i5 N),by rw[z];exact(y.out w5 vr).2.2.2.2.2.1⟩
  clear ur vq vr
  try simp only[fN]
  go_wp2;go_ret;exact HG.out
 ·have zc:(op==15)=tR:=by simpa using vy
  rw[bx vy,ej];clear vy;cases ha:sP op with
  |false=>
   have hb:rM op=tR:=by
    cases h:rM op with
    |false=>rfl
    |true=>rw[DF h] at ha;cases ha
   rw[hb,bx (by decide),bx (by decide)];rw[ha] at HA;rw[hb] at HB;clear ha hb;go_enter sX,rN
   go_wp2_with fail
   go_at_call 126;rw[vx.out];refine(HA.out _ _ (ak.lit _ _ _ (by have:=vu.out;omega) rfl)).mono ?_;rintro e w2 ⟨rfl,A⟩;have q:Ext (λk=>N+1<=k) W1 w2:=by rw[<-A];exact(Ext.refl _ _).alloc _
   obtain⟨G,J,K,R,ue,g,o⟩:=y.out w2 q;have up:=zH q;have wj:=zH o;have wk:=zH g;clear A q o g
   go_wp2_with fail
   go_at_call 126;refine(HB.out _ _ (ak.lit _ _ _ rfl rfl)).mono ?_;rintro e t ⟨rfl,u⟩;have v:Ext (λk=>N+1<=k) W1 t:=by rw[<-u];exact up.out.alloc _
   have E:=il u;obtain⟨G,J,K,R,ue,g,o⟩:=y.out t v;have vm:=zH v;have vp:=zH E;have we:=zH o;have vc:=zH g;clear u v E o g;go_wp2;go_ret;exact⟨tM,0,rfl,aL.nil _ _,by first|exact vc.out|(rw[z];exact vc.out)⟩
  |true=>
   rw[ha] at HA;cases hb:rM op with
   |false=>
    rw[cI rfl,bx (by decide),ej];rw[hb] at HB;clear ha hb;go_enter sX,rN
    go_wp2_with fail
    go_at_call 126;rw[vx.out];refine(HA.out _ _ (ak.lit _ _ _ (by have:=vu.out;omega) rfl)).mono ?_;rintro e w2 ⟨rfl,A⟩;have q:Ext (λk=>N+1<=k) W1 w2:=by rw[<-A];exact(Ext.refl _ _).alloc _
    obtain⟨G,J,K,R,ue,g,o⟩:=y.out w2 q;have up:=zH q;have wj:=zH o;have wk:=zH g;clear A q o g;have wl:N<w2.heap.size+1:=by omega
    go_wp2_with (at_builtin;refine aR rfl (.tmp 8) (.tmp 11) rfl (N+1) (.slice tM 0 0) [] rfl (aL.nil _ _) _ [a] 1 rfl (ak.one _ _ rfl) ?c31 ?c32 ?_)
    case c31=>first|omega|(simp<;>omega)|simp
    case c32=>first|omega|(simp<;>omega)|simp
    intro v3 w3 uv vt;obtain⟨vd,vf,rfl⟩:=uv.isSlice;have ux:Ext (λk=>N+1<=k) W1 w3:=(up.out.alloc _).trans (Ext.of_grown vt (λk x=> .inl (by first|(have h3:=((aL.nil _ _).lt k x).1;exact h3)|(simp[et] at x)))) (λj hj=> .inl hj);obtain⟨G,J,K,R,ue,_,_⟩:=y.out w3 ux;have xj:=zH ux;have xo:cj (aL w3 (N+1) (.slice vd [a].length vf) [a]):=by unfold cj;simpa using uv
    clear uv vt ux
    try simp only[fN]
    go_wp2_with fail
    go_at_call 126;refine(HB.out _ _ (ak.lit _ _ _ rfl rfl)).mono ?_;rintro e t ⟨rfl,u⟩;have v:Ext (λk=>N+1<=k) W1 t:=by rw[<-u];exact xj.out.alloc _
    have E:=il u;obtain⟨G,J,K,R,ue,g,o⟩:=y.out t v;have vm:=zH v;have vp:=zH E;have we:=zH o;have vc:=zH g;clear u v E o g;have HG:cj (fK w [a] (.returned (.slice vd [a].length vf)) t):=⟨_,_,rfl,by rw[z];exact aL.mono (ownsRow_below xo.out vp.out) (i5 N),by rw[z];exact vc.out⟩
    go_wp2;go_ret;exact HG.out
   |true=>
    rw[cI rfl,cI rfl];rw[hb] at HB;clear ha hb;go_enter sX,rN
    go_wp2_with fail
    go_at_call 126;rw[vx.out];refine(HA.out _ _ (ak.lit _ _ _ (by have:=vu.out;omega) rfl)).mono ?_;rintro e w2 ⟨rfl,A⟩;have q:Ext (λk=>N+1<=k) W1 w2:=by rw[<-A];exact(Ext.refl _ _).alloc _
    obtain⟨G,J,K,R,ue,g,o⟩:=y.out w2 q;have up:=zH q;have wj:=zH o;have wk:=zH g;clear A q o g;have wl:N<w2.heap.size+1:=by omega
    go_wp2_with (at_builtin;refine aR rfl (.tmp 8) (.tmp 11) rfl (N+1) (.slice tM 0 0) [] rfl (aL.nil _ _) _ [a] 1 rfl (ak.one _ _ rfl) ?c31 ?c32 ?_)
    case c31=>first|omega|(simp<;>omega)|simp
    case c32=>first|omega|(simp<;>omega)|simp
    intro v3 w3 uv vt;obtain⟨vd,vf,rfl⟩:=uv.isSlice;have ux:Ext (λk=>N+1<=k) W1 w3:=(up.out.alloc _).trans (Ext.of_grown vt (λk x=> .inl (by first|(have h3:=((aL.nil _ _).lt k x).1;exact h3)|(simp[et] at x)))) (λj hj=> .inl hj);obtain⟨G,J,K,R,ue,_,_⟩:=y.out w3 ux;have xj:=zH ux;have xo:cj (aL w3 (N+1) (.slice vd [a].length vf) [a]):=by unfold cj;simpa using uv
    clear uv vt ux
    try simp only[fN]
    go_wp2_with fail
    go_at_call 126;refine(HB.out _ _ (ak.lit _ _ _ rfl rfl)).mono ?_;rintro e t ⟨rfl,u⟩;have v:Ext (λk=>N+1<=k) W1 t:=by rw[<-u];exact xj.out.alloc _
    have E:=il u;obtain⟨G,J,K,R,ue,g,o⟩:=y.out t v;have vm:=zH v;have vp:=zH E;have we:=zH o;have vc:=zH g;clear u v E o g;have yq:cj (aL t (N+1) (.slice vd 1 vf) [a]):=ownsRow_below xo.out vp.out;have wl:N<t.heap.size+1:=by omega
    go_wp2_with (at_builtin;refine aR rfl (.tmp 17) (.tmp 20) rfl (N+1) (.slice vd 1 vf) [a] rfl (ownsRow_below yq.out ((aq _ _).alloc (cg _) _)) _ [b] 1 rfl (ak.one _ _ rfl) ?c51 ?c52 ?_)
    case c51=>first|omega|(simp<;>omega)|simp
    case c52=>first|omega|(simp<;>omega)|simp
    intro v5 w5 ur vq;obtain⟨ws,xf,rfl⟩:=ur.isSlice;have vr:Ext (λk=>N+1<=k) W1 w5:=(vm.out.alloc _).trans (Ext.of_grown vq (λk x=> .inl (by first|(have h3:=(yq.out.lt k x).1;exact h3)|(simp[et] at x)))) (λj hj=> .inl hj);obtain⟨G,J,K,R,ue,g,_⟩:=y.out w5 vr;have HG:cj (fK w [a,b] (.returned (.slice ws [a,b].length xf)) w5):=⟨_,_,rfl,by rw[z];exact aL.mono (by simpa using ur) (i5 N),by rw[z];exact g⟩
    clear ur vq vr g
    try simp only[ij,fN]
    go_wp2;go_ret;exact HG.out
theorem jV {P:lr}{W:World}{o:mS}{a:Act}{K:Act->Prop}(e:gt)(x:tE)(h:o.op= .load e x)
  (g:fS)(q:a.eval x= tW (tG g))(f:eA cA)(d:TypeDesc)(t:∀(p:BW W)(j:bh)(u:cA),f.toList[j]?=tG u->p.w.cell? (g.add j)=tG u)
  (v:P.underlying e=tG d)(y:(match d with| .struct _| .array _ _=>tP|_=>tR)=tP)(hi:(P.info? e).map (·.size)=tG f.size)
  (z:K (a.put o.dst (ub f))):o.quiet P a (λw'=>∃p:BW W,w'=p.w) K:=by
 refine⟨_,λw A=> ?_,z⟩;obtain⟨p,rfl⟩:=A;unfold Oper.quietAt execOp;simp only[h,q,Instr.loadAt,Instr.sureAddr,fX,sn,mu,jq p.w g e f d (t p) v y hi];exact⟨rfl,rfl⟩
theorem dS (n:bh)(xs d:bj aw):aP n (xs++d)=(aP n xs&&aP n d):=by unfold aP;rw[List.all_append]
theorem gq {g:Fn}{i:Ins}(h:aP g.vs.length (readsOf i)=tP)(d:sP i.op=tP):isVar g.vs.length i.a=tP:=by
 unfold readsOf at h;rw[cI d,dS,dS] at h;simp only[fj] at h;simpa[aP] using h.1.1
theorem yu {g:Fn}{i:Ins}(h:aP g.vs.length (readsOf i)=tP)(d:rM i.op=tP):isVar g.vs.length i.b=tP:=by
 unfold readsOf at h;rw[cI d,dS,dS] at h;simp only[fj] at h;simpa[aP] using h.1.2
theorem CK {g:Fn}{i:Ins}(h:aP g.vs.length (readsOf i)=tP)(d:i.op=15):∀a∈i.args,isVar g.vs.length a=tP:=by
 unfold readsOf at h;rw[cI d,dS,dS] at h;simp only[fj] at h;exact gA.1 h.2
structure Bx (m:Mo)(g:Fn)(i:Ins)(ao:cG fS)(N:bh)(W:World):Prop where
 m0:W.cell? ⟨N,0,tM⟩=tG (tU m.sA m.ss.length m.sC)
 m1:W.cell? ⟨N,1,tM⟩=tG (tU m.fA m.fs.length m.fC)
 gr:W.heap[N+1]?=tG (uc #[tS g.c.nm,Z U g.c.par,tU ao g.vs.length g.c.varsC,ua g.c.rp,tS g.c.rto,Z U g.c.rcl,tU g.c.fromA g.c.nfrom g.c.fromC,tU g.c.insA g.c.ins.length g.c.insC] 38 (0,0))
 ir:W.heap[N+2]?=tG (uc #[Z U i.op,Z U i.d,Z U i.a,Z U i.b,Z U i.f,Z U i.n,tS i.sign,i.argsV,i.modeV,Z U i.tI,Z U i.els,Z U i.ln,Z U i.cl] 42 (0,0))
theorem Bx.g2 {m:Mo}{g:Fn}{i:Ins}{ao:cG fS}{N:bh}{W:World}(h:Bx m g i ao N W):W.cell? ⟨N+1,2,tM⟩=tG (tU ao g.vs.length g.c.varsC):=by rw[bw _ _ _ _ _ _ h.gr];rfl
theorem Bx.g3 {m:Mo}{g:Fn}{i:Ins}{ao:cG fS}{N:bh}{W:World}(h:Bx m g i ao N W):W.cell? ⟨N+1,3,tM⟩=tG (ua g.c.rp):=by rw[bw _ _ _ _ _ _ h.gr];rfl
theorem Bx.g4 {m:Mo}{g:Fn}{i:Ins}{ao:cG fS}{N:bh}{W:World}(h:Bx m g i ao N W):W.cell? ⟨N+1,3+1,tM⟩=tG (tS g.c.rto):=by rw[bw _ _ _ _ _ _ h.gr];rfl
theorem Bx.g7 {m:Mo}{g:Fn}{i:Ins}{ao:cG fS}{N:bh}{W:World}(h:Bx m g i ao N W):W.cell? ⟨N+1,7,tM⟩=tG (tU g.c.insA g.c.ins.length g.c.insC):=by rw[bw _ _ _ _ _ _ h.gr];rfl
theorem Bx.i0 {m:Mo}{g:Fn}{i:Ins}{ao:cG fS}{N:bh}{W:World}(h:Bx m g i ao N W):W.cell? ⟨N+2,0,tM⟩=tG (Z U i.op):=by rw[bw _ _ _ _ _ _ h.ir];rfl
theorem Bx.i2 {m:Mo}{g:Fn}{i:Ins}{ao:cG fS}{N:bh}{W:World}(h:Bx m g i ao N W):W.cell? ⟨N+2,2,tM⟩=tG (Z U i.a):=by rw[bw _ _ _ _ _ _ h.ir];rfl
theorem Bx.i3 {m:Mo}{g:Fn}{i:Ins}{ao:cG fS}{N:bh}{W:World}(h:Bx m g i ao N W):W.cell? ⟨N+2,3,tM⟩=tG (Z U i.b):=by rw[bw _ _ _ _ _ _ h.ir];rfl
theorem Bx.i4 {m:Mo}{g:Fn}{i:Ins}{ao:cG fS}{N:bh}{W:World}(h:Bx m g i ao N W):W.cell? ⟨N+2,4,tM⟩=tG (Z U i.f):=by rw[bw _ _ _ _ _ _ h.ir];rfl
theorem Bx.i6 {m:Mo}{g:Fn}{i:Ins}{ao:cG fS}{N:bh}{W:World}(h:Bx m g i ao N W):W.cell? ⟨N+2,6,tM⟩=tG (tS i.sign):=by rw[bw _ _ _ _ _ _ h.ir];rfl
theorem Bx.i9 {m:Mo}{g:Fn}{i:Ins}{ao:cG fS}{N:bh}{W:World}(h:Bx m g i ao N W):W.cell? ⟨N+2,9,tM⟩=tG (Z U i.tI):=by rw[bw _ _ _ _ _ _ h.ir];rfl
theorem Bx.i10 {m:Mo}{g:Fn}{i:Ins}{ao:cG fS}{N:bh}{W:World}(h:Bx m g i ao N W):W.cell? ⟨N+2,10,tM⟩=tG (Z U i.els):=by rw[bw _ _ _ _ _ _ h.ir];rfl
theorem dC {w:World}{b:bh}{d:eA cA}{t:gt}(h:w.heap[b]?=tG (uc d t (0,0))):∀j u,d.toList[j]?=tG u->w.cell? ((⟨b,0,tM⟩:fS).add j)=tG u:=by
 intro j u e;rw[cY,cL,bw _ _ _ _ _ _ h];rw[<-e,Array.getElem?_toList]
theorem gB {m:Mo}{g:Fn}{i:Ins}{w:World}(h:oQ w m g)(hi:i.args_in w)(x:i.args.length<=40):∃ao N W1,w.heap.size=N/\W1.heap.size=N+3/\
  ((w.alloc (uc m.cells 25)).alloc (uc (gc g ao) 38)).alloc (uc i.cells 42)=W1/\cj (w.heap.size=N)/\cj (W1.heap.size=N+3)/\cj (g.cells=gc g ao)/\cj (g.c.varsA=ao)/\
  cj (∀W,aE (N+3) W1 W->Bx m g i ao N W)/\cj (∀W,aE (N+3) W1 W->aE N w W)/\cj (∀W,aE (N+3) W1 W->oQ W m g)/\cj (∀W,aE (N+3) W1 W->i.args_in W)/\
  cj (∀W j o (xs:bj aw),xs.length<=42->ak W j xs->zP 87 #[ub #[tS g.c.nm,Z U g.c.par,tU ao g.vs.length g.c.varsC,ua g.c.rp,tS g.c.rto,Z U g.c.rcl,tU g.c.fromA g.c.nfrom g.c.fromC,tU g.c.insA g.c.ins.length g.c.insC],tU j xs.length o] W (ua (aP g.vs.length xs)))/\
  cj (∀W,zP 86 #[ub #[Z U i.op,Z U i.d,Z U i.a,Z U i.b,Z U i.f,Z U i.n,tS i.sign,i.argsV,i.modeV,Z U i.tI,Z U i.els,Z U i.ln,Z U i.cl]] W (.tuple #[Z U (az i).1,ua (az i).2]))/\
  cj (∀W,aE (N+3) W1 W->ge am 88 #[ub #[Z U i.op,Z U i.d,Z U i.a,Z U i.b,Z U i.f,Z U i.n,tS i.sign,i.argsV,i.modeV,Z U i.tI,Z U i.els,Z U i.ln,Z U i.cl]] W (fK W (readsOf i)))/\cj ((readsOf i).length<=42):=by
 obtain⟨ao,y⟩:=zE g.c.varsA;have t:=kz h.nv y;obtain⟨N,q⟩:=zE w.heap.size;obtain⟨W1,z⟩:=zE (((w.alloc (uc m.cells 25)).alloc (uc g.cells 38)).alloc (uc i.cells 42));obtain⟨A,u,E,r1,r2⟩:=Et z;rw[q] at A u E r1 r2;rw[t] at r1;have K:cj (∀W,aE (N+3) W1 W->Bx m g i ao N W):=λW e=>by
  have G:=(e.block N (by omega)).trans E;exact⟨by rw[bw _ _ _ _ _ _ G];rfl,by rw[bw _ _ _ _ _ _ G];rfl,(e.block (N+1) (by omega)).trans r1,(e.block (N+2) (by omega)).trans r2⟩
 have v:cj (∀W,aE (N+3) W1 W->aE N w W):=λW e=>A.trans (e.mono (by omega));have R:cj (∀W,aE (N+3) W1 W->oQ W m g):=λW e=>h.below (by rw[q];exact v.out W e);have J:cj (∀W,aE (N+3) W1 W->i.args_in W):=λW e=>by
  obtain⟨h1,ao,cap,h2,h3⟩:=hi;exact⟨h1,ao,cap,h2,aJ.grow h3 (by rw[q];exact v.out W e)⟩
 have ue:=hi.1;have up:cj (∀W j o (xs:bj aw),xs.length<=42->ak W j xs->zP 87 #[ub #[tS g.c.nm,Z U g.c.par,tU ao g.vs.length g.c.varsC,ua g.c.rp,tS g.c.rto,Z U g.c.rcl,tU g.c.fromA g.c.nfrom g.c.fromC,tU g.c.insA g.c.ins.length g.c.insC],tU j xs.length o] W (ua (aP g.vs.length xs))):=λW j o xs hx ur=>by
  have:=CF g W j o xs h.nv (by unfold eC;omega) ur;rw[t] at this;exact this
 have uv:cj (∀W,zP 86 #[ub #[Z U i.op,Z U i.d,Z U i.a,Z U i.b,Z U i.f,Z U i.n,tS i.sign,i.argsV,i.modeV,Z U i.tI,Z U i.els,Z U i.ln,Z U i.cl]] W (.tuple #[Z U (az i).1,ua (az i).2])):=λW=>kW i W ue;have ux:cj (∀W,aE (N+3) W1 W->ge am 88 #[ub #[Z U i.op,Z U i.d,Z U i.a,Z U i.b,Z U i.f,Z U i.n,tS i.sign,i.argsV,i.modeV,Z U i.tI,Z U i.els,Z U i.ln,Z U i.cl]] W (fK W (readsOf i))):=λW e=>lQ i W (J.out W e) x;have vc:=zH x;have vd:cj ((readsOf i).length<=42):=by
  unfold cj readsOf;simp only[bo];have:(if sP i.op=tP then[i.a] else[]).length<=1:=by split<;>simp
  have:(if rM i.op=tP then[i.b] else[]).length<=1:=by split<;>simp
  have:(if i.op=15 then i.args else[]).length<=40:=by split<;>first|exact vc.out|simp
  omega
 exact⟨ao,N,W1,q,u,by rw[<-z,t],q,u,t,y,K,v,R,J,up,uv,ux,vd⟩
theorem gJ {g:Fn}{i:Ins}(q:¬i.op<1)(t:¬18<i.op):∃e f j,decide (i.op<1)=tR/\decide (18<i.op)=tR/\cj (¬(i.op<1\/18<i.op))/\cj (aP g.vs.length [i.d]=f)/\cj (aP g.vs.length (readsOf i)=j)/\cj (qY i.op=e)/\
  cj (az i=if e=tP then(i.d,tP) else(0,tR))/\cj (aP g.vs.length (readsOf i++(if qY i.op=tP then[i.d] else[]))=(j&&(!e||f))):=by
 obtain⟨e,o⟩:=zE (qY i.op);obtain⟨f,u⟩:=zE (aP g.vs.length [i.d]);obtain⟨j,v⟩:=zE (aP g.vs.length (readsOf i));refine⟨e,f,j,cv q,cv t,λh=>h.elim q t,u,v,o, ?_, ?_⟩
 ·unfold cj az;rw[o]
 ·unfold cj
  rw[dS,v,o];cases e with
  |true=>rw[cI rfl,u];rfl
  |false=>rw[bx (by simp)];simp[aP]
theorem eX {m:Mo}{g:Fn}{i:Ins}{R:aw}{e f j:mm}(o:cj (aF m g i=R))(q:cj (¬(i.op<1\/18<i.op)))(t:cj (aP g.vs.length (readsOf i++(if qY i.op=tP then[i.d] else[]))=(j&&(!e||f))))(h:(j&&(!e||f))=tP):
  R=if i.op=15 then iL m g.vs i else if i.op=16 then bU (isVar g.c.ins.length i.tI) 15 else if i.op=17 then(if isVar g.c.ins.length i.tI&&isVar g.c.ins.length i.els then eD g.vs [i.a] else 15) else if i.op=18 then bU (ay g.vs i.a==g.ret) 7 else ax m g.vs i:=by
 rw[<-o.out];unfold aF;rw[bx q.out,bx (by rw[t.out,h];simp)]
theorem uY (m:Mo)(g:Fn)(i:Ins)(w:World)(h:oQ w m g)(hi:i.args_in w)(o:i.args.length<=40)(E:∀v,isVar g.vs.length v=tP->m.known (ay g.vs v)=tP)(G:i.op<1\/18<i.op):
  zP 49 #[ub m.cells,ub g.cells,ub i.cells] w (Z U (aF m g i)):=by
 obtain⟨ao,N,W1,J,K,f,q,vd,ue,vf,t,up,HJ,vh,vm,ur,vp,vq⟩:=gB h hi o;rw[ue.out];simp only[Mo.cells,gc,Ins.cells] at f⊢;have u:=zH f;obtain⟨R,j⟩:=zE (aF m g i);rw[j];have HR:=zH j;have x:cj (R=3):=by unfold cj;rw[<-HR.out];unfold aF;rw[cI G]
 have y:=t.out W1 (aq _ _);have uv:=zH y.ir;clear h hi o E f j;have ux:W1.heap.size=N+3:=K;go_enter func49,tB
 go_upto_region 1 with(fail)
 rw[u.out];clear u y J
 go_upto_region 2 with(first
  |(refine cm rfl 42 _ rfl (N+2) rfl 42 _ (0,0) _ uv.out cD rfl (by kernel_rfl) ?_)
  |(go_at_call 86;refine(ur.out _).mono ?_;rintro e w2 ⟨rfl,d⟩;have vc:=zH d;clear d))
 have d:aE (N+3) W1 w2:=by have:=vc.out;rwa [ux] at this
 have i0:=(t.out w2 d).i0;have z:=zH (up.out w2 d)
 by_cases A:i.op<1
 ·have o1:decide (i.op<1)=tP:=cV A
  go_wp2;go_ret;rw[x.out,q.out];exact⟨rfl,z.out⟩
 ·have o1:decide (i.op<1)=tR:=cv A
  have h2:18<i.op:=by omega
  have o2:decide (18<i.op)=tP:=cV h2;go_wp2;go_ret;rw[x.out,q.out];exact⟨rfl,z.out⟩
end Go.Proofs.YtjomgckjhcfbgaaGreat
