/- Walks. -/
import Derived.Test.YtjomgckjhcfbgaaGreatY8
set_option maxRecDepth 100000
set_option maxHeartbeats 64000000
set_option linter.all false
namespace Go.Proofs.YtjomgckjhcfbgaaGreat
open Go.RowKit
open Go.Proofs.Tryz renaming prog→ac,underlying42→cJ,underlying38→cQ,underlying32→ey,ntmps85→rL,ntmps90→rN,ntmps88→rS,func85→sR,func90→sT,func88→sX,ntmps49→tp
open _root_.List renaming getElem?_eq_getElem→am,getElem?_eq_some_iff→ap,mem_of_getElem?→cf,length_append→cw,take_length→de,nil_append→fc,all_eq_true→js,cons_append→jt,any_eq_true→kq,any_eq_false→lz,append_nil→mj,getElem?_eq_none→my,all_eq_false→m9
open Go.RowKit.Below renaming refl→aq,heap_alloc→cn
open _root_ renaming ByteArray→aE,List→bm,Int→bp,Nat→bx,if_neg→cE,decide_eq_false→cL,if_pos→cR,Array→da,beq_eq_false_iff_ne→dp,decide_eq_true→ef,Option→eA,absurd→fW,Bool→nj,and_true→pc,bne_iff_ne→qq
open Go.RowKit renaming Below→bh,Hid→cm
open _root_.Array renaming getElem?_eq_some_iff→bj,getElem?_toList→po
open Go renaming cell_of_row→cc,Value→cd,wpList_load_row→ci,run_storeCells_new→ct,storeCells→dr,bodyPost_ret→dv,maxLen→dT,wpQuiet_nil→eh,frozen_of_row→eq,beq_toListBytes→fY,Calls→gd,TypeId→gx,Oper→ke,Program→km,below_drewN→lB
open _root_.Nat renaming le_refl→ce,zero_le→cN,zero_add→cV,le_succ→ip
open Go.Value renaming oneCell'→cj,int→eE,ownBlock→eJ,string→fh,string→tM,slice→tP,pointer→tR,bool→tU,agg→tW,int→Z
open _root_.Option.some renaming inj→cD,injEq→dt
open _root_.Int renaming toNat_natCast→cP
open _root_.Prod.mk renaming injEq→cU
open Go.Exit renaming inBlock→db
open Go.Addr renaming add_lit→dc
open _root_.Bool renaming and_eq_true→eN,true→tE,false→tG
open Go.Addr.mk renaming injEq→eW
open Go.Sem renaming run_bind→ft
open Go.Op renaming equalIn→gE
open _root_.ByteArray renaming empty→lp
open Go.Result renaming andThen_ok→mA
open _root_.Option renaming some→tB,none→tD
open Go.Obj renaming cells→ua
open Go.IntKind renaming i64→U
open Tryz
theorem nG (m:Mo)(nm:aE)(w:World)(hn:m.fs.length<=dT)(h:aK Fn.cells 8 w w.heap.size m.fA m.fs):
  zP 50 #[tW m.cells,tM nm] w (Z U (m.fnIx nm)):=by
 obtain⟨R,G⟩:=zE (m.fnIx nm);rw[G];have J:cm (R=fT (λf:Fn=>f.c.nm==nm) m.fs):=by rw[<-G];rfl
 obtain⟨sA,sC,fA,fC,ss,fs⟩:=m;simp only at hn h J;have H:=zH h;unfold dT at hn;simp only[Mo.cells];clear G h;obtain⟨N,hN⟩:=zE w.heap.size;obtain⟨u,v⟩:=zE (w.alloc (ua #[tP sA ss.length sC,tP fA fs.length fC] 25));have d:u.heap[N]?=tB (ua #[tP sA ss.length sC,tP fA fs.length fC] 25 (0,0)):=by rw[<-v,<-hN];exact alloc_at _ _
 have c1:u.cell? ⟨N,0,tD⟩=tB (tP sA ss.length sC):=(cc _ _ _ _ _ _ d).trans rfl;have c2:u.cell? ⟨N,1,tD⟩=tB (tP fA fs.length fC):=(cc _ _ _ _ _ _ d).trans rfl;have uc:=iq v;have HB:=zH uc;have uv:=zH v;have H1:=zH (H.out.grow uc);clear d uc v;go_enter func50,ntmps50
 go_upto_region 1 with(fail)
 rw[uv.out]
 go_wp2_with fail
 go_loopw [5] (λk wr=>∃j:bx,j<=fs.length/\k= Z U (j:bp)/\(∀f∈fs.take j,(f.c.nm==nm)=tG)/\wr=u) (λk _=>fs.length-(intOf k).toNat)
 case atStart=>exact⟨0,cN _,rfl,by simp,rfl⟩
 case round=>
  obtain⟨j,hj,rfl,q,rfl⟩:=hrel
  by_cases ud:j<fs.length
  ·obtain⟨f,A⟩:∃y,fs[j]?=tB y:=⟨_,am ud⟩
   obtain⟨g1,ux,rfl,vc,d⟩:=H1.out (by intro e;rw[e] at ud;simp at ud);have d0:wr.cell? ⟨g1,ux+j*8,tD⟩=tB (tM f.c.nm):=d j f A 0 _ rfl;have vd:(j:bp)<(fs.length:bp):=by omega
   have HZ:=zH q;have HY:=zH A
   by_cases D:f.c.nm=nm
   ·subst D
    have ue:cm (R=(j:bp)):=by unfold cm;rw[J.out];exact jJ (p:=λg:Fn=>g.c.nm==f.c.nm) HZ.out HY.out (by simp)
    clear q A d;go_wp2;go_ret;rw[ue.out];exact⟨rfl,HB.out⟩
   ·have ur:¬(f.c.nm.toList=nm.toList):=λe=>D (eq_of_beq (by rw[fY,e];simp))
    have vf:(f.c.nm.toList==nm.toList)=tG:=by simpa using ur
    clear ur;have HD:cm ((f.c.nm==nm)=tG):=by unfold cm;simp[D]
    clear q A d D;go_wp2;exact⟨⟨j+1,by omega,by go_num,d9 (p:=λf:Fn=>f.c.nm==nm) HZ.out HY.out HD.out,by first|rfl|trivial⟩,by simp[intOf];omega⟩
  ·have va:j=fs.length:=by omega
   subst va;rw[de] at q;have ue:cm (R= -1):=by unfold cm;rw[J.out];exact gQ (p:=λf:Fn=>f.c.nm==nm) q
   clear q;go_wp2;go_ret;rw[ue.out];exact⟨rfl,HB.out⟩
theorem iJ (m:Mo)(nm:aE)(w:World)(hn:m.ss.length<=dT)(h:aK St.cells 4 w w.heap.size m.sA m.ss):
  zP 84 #[tW m.cells,tM nm] w (Z U (m.stIx nm)):=by
 obtain⟨R,G⟩:=zE (m.stIx nm);rw[G];have J:cm (R=fT (λf:St=>f.s.nm==nm) m.ss):=by rw[<-G];rfl
 obtain⟨sA,sC,fA,fC,ss,fs⟩:=m;simp only at hn h J;have H:=zH h;unfold dT at hn;simp only[Mo.cells];clear G h;obtain⟨N,hN⟩:=zE w.heap.size;obtain⟨u,v⟩:=zE (w.alloc (ua #[tP sA ss.length sC,tP fA fs.length fC] 25));have d:u.heap[N]?=tB (ua #[tP sA ss.length sC,tP fA fs.length fC] 25 (0,0)):=by rw[<-v,<-hN];exact alloc_at _ _
 have c1:u.cell? ⟨N,0,tD⟩=tB (tP sA ss.length sC):=(cc _ _ _ _ _ _ d).trans rfl;have c2:u.cell? ⟨N,1,tD⟩=tB (tP fA fs.length fC):=(cc _ _ _ _ _ _ d).trans rfl;have uc:=iq v;have HB:=zH uc;have uv:=zH v;have H1:=zH (H.out.grow uc);clear d uc v;go_enter func84,ntmps84
 go_upto_region 1 with(fail)
 rw[uv.out]
 go_wp2_with fail
 go_loopw [5] (λk wr=>∃j:bx,j<=ss.length/\k= Z U (j:bp)/\(∀f∈ss.take j,(f.s.nm==nm)=tG)/\wr=u) (λk _=>ss.length-(intOf k).toNat)
 case atStart=>exact⟨0,cN _,rfl,by simp,rfl⟩
 case round=>
  obtain⟨j,hj,rfl,q,rfl⟩:=hrel
  by_cases ud:j<ss.length
  ·obtain⟨f,A⟩:∃y,ss[j]?=tB y:=⟨_,am ud⟩
   obtain⟨g1,ux,rfl,vc,d⟩:=H1.out (by intro e;rw[e] at ud;simp at ud);have d0:wr.cell? ⟨g1,ux+j*4,tD⟩=tB (tM f.s.nm):=d j f A 0 _ rfl;have vd:(j:bp)<(ss.length:bp):=by omega
   have HZ:=zH q;have HY:=zH A
   by_cases D:f.s.nm=nm
   ·subst D
    have ue:cm (R=(j:bp)):=by unfold cm;rw[J.out];exact jJ (p:=λg:St=>g.s.nm==f.s.nm) HZ.out HY.out (by simp)
    clear q A d;go_wp2;go_ret;rw[ue.out];exact⟨rfl,HB.out⟩
   ·have ur:¬(f.s.nm.toList=nm.toList):=λe=>D (eq_of_beq (by rw[fY,e];simp))
    have vf:(f.s.nm.toList==nm.toList)=tG:=by simpa using ur
    clear ur;have HD:cm ((f.s.nm==nm)=tG):=by unfold cm;simp[D]
    clear q A d D;go_wp2;exact⟨⟨j+1,by omega,by go_num,d9 (p:=λf:St=>f.s.nm==nm) HZ.out HY.out HD.out,by first|rfl|trivial⟩,by simp[intOf];omega⟩
  ·have va:j=ss.length:=by omega
   subst va;rw[de] at q;have ue:cm (R= -1):=by unfold cm;rw[J.out];exact gQ (p:=λf:St=>f.s.nm==nm) q
   clear q;go_wp2;go_ret;rw[ue.out];exact⟨rfl,HB.out⟩
theorem bi (b:nj)(f:bp)(w:World):zP 51 #[tU b,Z U f] w (Z U (bM (!b) f)):=by
 cases b with
 |true=>
  go_enter func51,ntmps51;go_wp2;go_ret;exact⟨rfl,aq _ _⟩
 |false=>
  go_enter func51,ntmps51;go_wp2;go_ret;exact⟨rfl,aq _ _⟩
theorem oQ {α:Type}{p:α->nj}{xs:bm α}{y:α}{j:bx}(d:xs[j]?=tB y)(f:p y=tG):xs.all p=tG:=by
 rw[m9];exact⟨y,cf d,by simp[f]⟩
theorem BD (g:Fn)(w:World)(ao:eA Addr)(cap:bx)(xs:bm bp)(hn:g.c.nvars=g.vs.length)(hl:xs.length<=dT)(h:aA w ao xs):
  zP 87 #[tW g.cells,tP ao xs.length cap] w (tU (aJ g.vs.length xs)):=by
 obtain⟨R,G⟩:=zE (aJ g.vs.length xs);rw[G];have v:cm (R=xs.all (isVar g.vs.length)):=by rw[<-G];rfl
 unfold dT at hl;simp only[Fn.cells,qp.cells];rw[hn];clear G hn;obtain⟨N,hN⟩:=zE w.heap.size;obtain⟨A,D⟩:=zE (w.alloc (ua #[tM g.c.nm,Z U g.c.par,tP g.c.varsA g.vs.length g.c.varsC,tU g.c.rp,tM g.c.rto,Z U g.c.rcl,tP g.c.fromA g.c.nfrom g.c.fromC,tP g.c.insA g.c.ins.length g.c.insC] 38));have d:A.heap[N]?=tB (ua #[tM g.c.nm,Z U g.c.par,tP g.c.varsA g.vs.length g.c.varsC,tU g.c.rp,tM g.c.rto,Z U g.c.rcl,tP g.c.fromA g.c.nfrom g.c.fromC,tP g.c.insA g.c.ins.length g.c.insC] 38 (0,0)):=by rw[<-D,<-hN];exact alloc_at _ _
 have ue:cm (A.cell? ⟨N,2,tD⟩=tB (tP g.c.varsA g.vs.length g.c.varsC)):=(cc _ _ _ _ _ _ d).trans rfl;have J:=iq D;have HB:=zH J;have ur:=zH D;have H1:=zH (h.below J);obtain⟨n,uv⟩:=zE g.vs.length;rw[uv] at v ue ur⊢;clear d J D uv h;go_enter func87,ntmps87
 go_upto_region 1 with(fail)
 rw[ur.out]
 go_wp2_with fail
 go_loopw [5] (λk wr=>∃j n':bx,j<=xs.length/\k= Z U (j:bp)/\(∀x∈xs.take j,isVar n x=tE)/\wr=A.drewN n') (λk _=>xs.length-(intOf k).toNat)
 case atStart=>exact⟨0,0,cN _,rfl,by simp,rfl⟩
 case round=>
  obtain⟨j,n',hj,rfl,f,rfl⟩:=hrel
  by_cases uc:j<xs.length
  ·obtain⟨x,q⟩:∃y,xs[j]?=tB y:=⟨_,am uc⟩
   obtain⟨g1,ux,rfl,vd,d⟩:=H1.out (by intro e;rw[e] at uc;simp at uc);have d0:A.cell? ⟨g1,ux+j,tD⟩=tB (Z U x):=d j x q;have c2:=ue.out;have vf:(j:bp)<(xs.length:bp):=by omega
   have HZ:=zH f;have HY:=zH q
   by_cases ud:x<0
   ·have u:cm (R=tG):=by unfold cm;rw[v.out];exact oQ HY.out (by unfold isVar;rw[cL (by omega)];rfl)
    have e0:decide (x<0)=tE:=ef ud;clear f q d;go_wp2
    go_quiet (fail)
    go_wp2;go_ret;rw[u.out];exact⟨rfl,lB (lB HB.out _) _⟩
   by_cases va:(n:bp)<=x
   ·have u:cm (R=tG):=by unfold cm;rw[v.out];exact oQ HY.out (by unfold isVar;rw[cL (show¬x<(n:bp) by omega),Bool.and_false])
    have e0:decide (x<0)=tG:=cL ud;clear f q d;go_wp2
    go_quiet (fail)
    go_wp2;go_ret;rw[u.out];exact⟨rfl,lB (lB HB.out _) _⟩
   ·have HD:cm (isVar n x=tE):=by unfold cm isVar;rw[ef (by omega),ef (by omega)];rfl
    have e0:decide (x<0)=tG:=cL ud;have e1:decide ((n:bp)<=x)=tG:=cL va;clear f q d;go_wp2
    go_quiet (fail)
    go_wp2;go_roundw
    case rel=>exact⟨j+1,_,by omega,by go_num,dE (p:=λz=>isVar n z=tE) HZ.out HY.out HD.out,rfl⟩
    case measure=>simp[intOf];omega
  ·have vc:j=xs.length:=by omega
   subst vc;rw[de] at f;have u:cm (R=tE):=by unfold cm;rw[v.out,js];exact f
   clear f;go_wp2;go_ret;rw[u.out];exact⟨rfl,lB HB.out _⟩
theorem BF {w:World}{B:bx}{xs:bm aE}(d:B=w.heap.size):aR (w.alloc (ua (xs.map fh).toArray 9)) (tB ⟨B,0,tD⟩) xs:=by
 subst d;intro _;refine⟨w.heap.size,0,rfl,by simp,λk u f=> ?_⟩;rw[cV,World.cell?_alloc_new];simp[f]
theorem xX {α:Type}{p:α->nj}{xs:bm α}(h:∀z∈xs,p z=tG):xs.any p=tG:=by
 rw[lz];intro x d;rw[h x d];simp
theorem zZ (s:aE)(w:World):zP 89 #[tM s] w (tU (gK.any λx=>x==s)):=by
 obtain⟨R,f⟩:=zE (gK.any λx=>x==s);rw[f];obtain⟨N,hN⟩:=zE w.heap.size;obtain⟨J,h⟩:=zE (w.alloc (ua #[tM ⟨#[43]⟩,tM ⟨#[45]⟩,tM ⟨#[42]⟩,tM ⟨#[47]⟩,tM ⟨#[37]⟩,tM ⟨#[60]⟩,tM ⟨#[60,61]⟩,tM ⟨#[62]⟩,tM ⟨#[62,61]⟩,tM ⟨#[61,61]⟩,tM ⟨#[33,61]⟩] 9));have hst:aR J (tB ⟨N,0,tD⟩) gK:=by rw[<-h];exact BF hN.symm
 have uc:=iq h;obtain⟨xs,v⟩:=zE gK;have A:xs.length=11:=by rw[<-v];rfl
 rw[v] at hst f;have HS:=zH hst;have HR:=zH f;have HB:=zH uc;have ue:=zH h;clear hst f uc h v;go_enter func89,ntmps89
 go_upto_region 2 with(fail)
 rw[ue.out]
 go_wp2_with fail
 go_loopw [4] (λk wr=>∃j:bx,j<=11/\k= Z U (j:bp)/\(∀x∈xs.take j,(x==s)=tG)/\wr=J) (λk _=>11-(intOf k).toNat)
 case atStart=>exact⟨0,cN _,rfl,by simp,rfl⟩
 case round=>
  obtain⟨j,hj,rfl,d,rfl⟩:=hrel
  by_cases uv:j<11
  ·obtain⟨x,q⟩:∃y,xs[j]?=tB y:=⟨_,am (by omega)⟩
   obtain⟨g1,ux,hA,va,D⟩:=HS.out (by intro e;rw[e] at A;simp at A);simp only[dt,eW,pc] at hA;obtain⟨rfl,rfl⟩:=hA;have d0:wr.cell? ⟨N,j,tD⟩=tB (tM x):=by have:=D j x q;rwa [cV] at this
   have vc:(j:bp)<11:=by omega
   have HZ:=zH d;have HY:=zH q
   by_cases u:x=s
   ·subst u
    have G:cm (R=tE):=by unfold cm;rw[<-HR.out,kq];exact⟨x,cf HY.out,by simp⟩
    clear d q D;go_wp2;go_ret;rw[G.out];exact⟨rfl,HB.out⟩
   ·have ud:¬(x.toList=s.toList):=λe=>u (eq_of_beq (by rw[fY,e];simp))
    have vd:(x.toList==s.toList)=tG:=by simpa using ud
    clear ud;have HD:cm ((x==s)=tG):=by unfold cm;simp[u]
    clear d q D u;go_wp2;exact⟨⟨j+1,by omega,by go_num,d9 (p:=λz:aE=>z==s) HZ.out HY.out HD.out,by first|rfl|trivial⟩,by simp[intOf];omega⟩
  ·have ur:j=11:=by omega
   subst ur;rw[show(11:bx)=xs.length from A.symm,de] at d;have G:cm (R=tG):=by unfold cm;rw[<-HR.out];exact xX d
   clear d;go_wp2;go_ret;rw[G.out];exact⟨rfl,HB.out⟩
theorem xY (m:Mo)(p:nj)(s:aE)(w:World)(hn:m.ss.length<=dT)(h:aK St.cells 4 w w.heap.size m.sA m.ss):
  zP 85 #[tW m.cells,tW #[tU p,tM s]] w (tU (m.known (p,s))):=by
 obtain⟨R,hR⟩:=zE (m.known (p,s));rw[hR];have f:cm (R=if p=tE then decide (0<=m.stIx s) else s==lp):=by rw[<-hR];rfl
 have uc:=zH (dH p tG s lp);obtain⟨N,hN⟩:=zE w.heap.size;obtain⟨A,q⟩:=zE ((w.alloc (ua m.cells 25)).alloc (ua #[tU p,tM s] 32));have D:=Ir q;have va:A.heap.size=N+2:=by rw[<-q];simp[hN]
 have ur:=yP q hN;have uv:=AO q hN;have HK:cm (∀W,bh A.heap.size A W->W.cell? ⟨N,0,tD⟩=tB (tP m.sA m.ss.length m.sC)/\W.cell? ⟨N,1,tD⟩=tB (tP m.fA m.fs.length m.fC)/\W.cell? ⟨N+1,0,tD⟩=tB (tU p)/\W.cell? ⟨N+1,1,tD⟩=tB (tM s)/\bh w.heap.size w W):=λW hW=>by
  have q1:=(hW.block N (by omega)).trans ur;have q2:=(hW.block (N+1) (by omega)).trans uv;exact⟨by rw[cc _ _ _ _ _ _ q1];rfl,by rw[cc _ _ _ _ _ _ q1];rfl,by rw[cc _ _ _ _ _ _ q2];rfl,by rw[cc _ _ _ _ _ _ q2];rfl,D.trans (hW.mono D.size)⟩
 obtain⟨c0,c1,c2,c3,_⟩:=HK.out A (aq _ _);have G:=zH (iJ m s A hn (h.grow D));have u:=zH D;have ud:=q;simp only[Mo.cells] at ud G;have J:=zH ud;simp only[Mo.cells];clear D ur uv q ud h hR;cases p with
 |false=>
  have he:(lp).toList=([]:bm UInt8):=by simp[ByteArray.toList,ByteArray.toList.loop]
  by_cases hs:s.toList=[]
  ·have d:cm (R=tE):=by unfold cm;rw[f.out,cE (by simp),fY,he,hs];rfl
   clear f uc;go_enter sR,rL
   go_upto_region 1 with(fail)
   rw[J.out];go_wp2;go_ret;rw[d.out];exact⟨rfl,u.out⟩
  ·have d:cm (R=tG):=by unfold cm;rw[f.out,cE (by simp),fY,he,dp];exact hs
   clear f uc;go_enter sR,rL
   go_upto_region 1 with(fail)
   rw[J.out];go_wp2;go_ret;rw[d.out];exact⟨rfl,u.out⟩
 |true=>
  have d:cm (R=decide (0<=m.stIx s)):=by unfold cm;rw[f.out,cR rfl]
  obtain⟨x,hx⟩:=zE (m.stIx s);rw[hx] at G d;clear f uc hx
  by_cases ux:0<=x
  ·go_enter sR,rL
   go_upto_region 1 with(fail)
   rw[J.out]
   go_wp2_with fail
   go_at_call 84;refine G.out.mono ?_;rintro e w2 ⟨rfl,v⟩;have ue:=zH (u.out.trans (v.mono u.out.size));clear v c0 c1 c2 c3;go_wp2;go_ret;rw[d.out];exact⟨by simp[ux],ue.out⟩
  ·go_enter sR,rL
   go_upto_region 1 with(fail)
   rw[J.out]
   go_wp2_with fail
   go_at_call 84;refine G.out.mono ?_;rintro e w2 ⟨rfl,v⟩;have ue:=zH (u.out.trans (v.mono u.out.size));clear c0 c1 c2 c3;obtain⟨_,_,c2,c3,_⟩:=HK.out w2 v;clear v;go_wp2;go_ret;rw[d.out];exact⟨by simp,ue.out⟩
theorem iT (m:Mo)(g:Fn)(v f:bp)(w:World)(h:oJ w m g)(hv:isVar g.vs.length v=tE)(hk:m.known (az g.vs v)=tE):
  zP 127 #[tW m.cells,tW g.cells,Z U v,Z U f] w (.tuple #[wy (aI m g.vs v f).1,Z U (aI m g.vs v f).2]):=by
 have HS:cm (∀W s,bh w.heap.size w W->zP 84 #[tW m.cells,tM s] W (Z U (m.stIx s))):=
  λW s G=>iJ m s W h.mo.ns (h.mo.below G).srow
 simp only[Mo.cells] at HS;have HF:cm (aI m g.vs v f=(if (az g.vs v).1=tG then(bI,7) else match m.ss[(m.stIx (az g.vs v).2).toNat]? with
  |none=>(bI,15)
  |some s=>if f<0 then(bI,15) else match s.fs[f.toNat]? with
   |none=>(bI,15)
   |some x=>(x.ty,0):Ty×bp)):=rfl
 have HJ:=zH h;have HK:=zH hk;obtain⟨kv,u,vo,xv,rfl,zr,xf,yv,uv,vx,vy⟩:=dU h.vars hv;obtain⟨⟨b,s⟩,ht⟩:∃t,az g.vs (kv:bp)=t:=⟨_,rfl⟩
 rw[ht] at uv;simp only[cU] at uv;rw[<-uv.1] at vx;rw[<-uv.2] at vy;rw[ht] at HF HK;obtain⟨F,hF⟩:=zE (aI m g.vs (kv:bp) f);rw[hF] at HF⊢;have hst:=λw c hc=>
  ct (P:=ac) w 32 c #[tU b,tM s] (by show _=tB 2;kernel_rfl) hc (by simp[cj])
 have xj:=h.nv;have yy:=h.vl;unfold dT at yy;have zv:(kv:bp)<(g.vs.length:bp):=by omega
 simp only[Mo.cells,Fn.cells,qp.cells];rw[xj,xf];clear h hv hk ht hF uv xj xf;obtain⟨N,hN⟩:=zE w.heap.size;obtain⟨Wa,ux⟩:=zE (w.alloc (ua #[tP m.sA m.ss.length m.sC,tP m.fA m.fs.length m.fC] 25));have xl:=iV ux hN;have vi:Wa.heap.size=N+1:=by rw[<-ux];simp[hN]
 have xo:Wa.heap[N]?=tB (ua #[tP m.sA m.ss.length m.sC,tP m.fA m.fs.length m.fC] 25 (0,0)):=by rw[<-ux,<-hN];exact alloc_at _ _
 obtain⟨Wb,va⟩:=zE (Wa.alloc (ua #[tM g.c.nm,Z U g.c.par,tP (tB ⟨u,vo,tD⟩) g.vs.length g.c.varsC,tU g.c.rp,tM g.c.rto,Z U g.c.rcl,tP g.c.fromA g.c.nfrom g.c.fromC,tP g.c.insA g.c.ins.length g.c.insC] 38));have we:bh (N+1) Wa Wb:=by rw[<-va,<-vi];exact(aq _ _).alloc (ce _) _
 have vj:Wb.heap.size=N+2:=by rw[<-va];simp[vi]
 have xp:Wb.heap[N+1]?=tB (ua #[tM g.c.nm,Z U g.c.par,tP (tB ⟨u,vo,tD⟩) g.vs.length g.c.varsC,tU g.c.rp,tM g.c.rto,Z U g.c.rcl,tP g.c.fromA g.c.nfrom g.c.fromC,tP g.c.insA g.c.ins.length g.c.insC] 38 (0,0)):=by rw[<-va,<-vi];exact alloc_at _ _
 obtain⟨J,vc⟩:=zE (Wb.alloc (ua #[tU tG,tM ⟨#[]⟩] 32));have vm:bh (N+2) Wb J:=by rw[<-vc,<-vj];exact(aq _ _).alloc (ce _) _
 have wg:J.heap.size=N+3:=by rw[<-vc];simp[vj]
 have xr:J.heap[N+2]?=tB (ua #[tU tG,tM ⟨#[]⟩] 32 (0,0)):=by rw[<-vc,<-vj];exact alloc_at _ _
 have xt:=(vm.block (N+1) (by omega)).trans xp;have xF:=(vm.block N (by omega)).trans ((we.block N (by omega)).trans xo);have ue:=(xl.trans (we.mono (by omega))).trans (vm.mono (by omega));have c0:=zR xt 2 (tP (tB ⟨u,vo,tD⟩) g.vs.length g.c.varsC);have c1:J.cell? ⟨u,vo+kv*3,tD⟩=tB (tU b):=by rw[ue.cell (p:=⟨u,_,tD⟩) (show u<N by omega)];exact vx
 have c2:J.cell? ⟨u,vo+kv*3+1,tD⟩=tB (tM s):=by rw[ue.cell (p:=⟨u,_,tD⟩) (show u<N by omega)];exact vy
 obtain⟨d,vd⟩:=zE (J.alloc (ua #[tU b,tM s] 32));have vp:=iq vd;have An:d.heap.size=N+4:=by rw[<-vd];simp[wg]
 have xT:=(vp.block N (by omega)).trans xF;have wi:=(vp.block (N+2) (by omega)).trans xr;have ya:d.heap[N+3]?=tB (ua #[tU b,tM s] 32 (0,0)):=by rw[<-vd,<-wg];exact alloc_at _ _
 have vq:cm (bh N w d):=ue.trans (vp.mono (by omega));have A:cm (∀W,bh d.heap.size d W->W.cell? ⟨N,0,tD⟩=tB (tP m.sA m.ss.length m.sC)/\W.cell? ⟨N,1,tD⟩=tB (tP m.fA m.fs.length m.fC)/\W.cell? ⟨N+3,0,tD⟩=tB (tU b)/\W.cell? ⟨N+3,1,tD⟩=tB (tM s)/\
   W.cell? ⟨N+2,0,tD⟩=tB (tU tG)/\W.cell? ⟨N+2,1,tD⟩=tB (tM ⟨#[]⟩)/\W.frozen? ⟨N+2,0,tD⟩=tG/\W.frozen? ⟨N+2,1,tD⟩=tG/\N+2<W.heap.size):=by
  intro W G;have q3:=(G.block N (by omega)).trans xT;have q4:=(G.block (N+2) (by omega)).trans wi;have q5:=(G.block (N+3) (by omega)).trans ya;refine⟨?_, ?_, ?_, ?_, ?_, ?_, ?_, ?_,(bj.1 q4).1⟩
  ·rw[cc _ _ _ _ _ _ q3];rfl
  ·rw[cc _ _ _ _ _ _ q3];rfl
  ·rw[cc _ _ _ _ _ _ q5];rfl
  ·rw[cc _ _ _ _ _ _ q5];rfl
  ·rw[cc _ _ _ _ _ _ q4];rfl
  ·rw[cc _ _ _ _ _ _ q4];rfl
  ·exact eq _ _ _ _ _ q4
  ·exact eq _ _ _ _ _ q4
 have wj:cm (∀W,bh d.heap.size d W->W.heap[N+2]?=tB (ua #[tU tG,tM ⟨#[]⟩] 32 (0,0))):=λW G=>(G.block (N+2) (by omega)).trans wi;have HN:=zH hN;have yb:=zH vd;have yd:cm (((w.alloc (ua #[tP m.sA m.ss.length m.sC,tP m.fA m.fs.length m.fC] 25)).alloc (ua #[tM g.c.nm,Z U g.c.par,tP (tB ⟨u,vo,tD⟩) g.vs.length g.c.varsC,tU g.c.rp,tM g.c.rto,Z U g.c.rcl,tP g.c.fromA g.c.nfrom g.c.fromC,tP g.c.insA g.c.ins.length g.c.insC] 38)).alloc (ua #[tU tG,tM ⟨#[]⟩] 32)=J):=by unfold cm;rw[ux,va,vc]
 clear ux xl vi xo va we vj xp vc vm xF xt xr ue vd vp xT wi ya vx vy yv;go_enter func127,ntmps127
 go_upto_region 1 with(fail)
 rw[yd.out];clear yd hN
 go_upto_region 2 with(fail)
 rw[yb.out];clear yb hst c0 c1 c2 wg;obtain⟨k0,k1,k2,k3,k4,k5,k6,k7,yW⟩:=A.out d (aq _ _);cases b with
 |false=>
  have uc:cm (F=(bI,7)):=by rw[HF.out];rfl
  clear HF;go_wp2;(try simp only[db,Exit.then]);refine dv (aO rfl _ _ (N+2) 32 _ (0,0) _ rfl (ek (wj.out d (aq _ _))) ey (by kernel_rfl)) rfl ?_;rw[uc.out,HN.out];exact⟨rfl,(vq.out.setCell (by show N<=N+2;omega) _).setCell (by show N<=N+2;omega) _⟩
 |true=>
  obtain⟨k,st,wk,D⟩:=zz HK.out rfl;obtain⟨b0,wl,hA,zc,ye⟩:=HJ.out.mo.srow (by intro e;rw[e] at D;simp at D);have As:=(ap.1 D).1;have At:(k:bp)<(m.ss.length:bp):=by omega
  have zd:b0<N:=by have:=HN.out;omega
  have m4:∀p:BW d,p.w.cell? ⟨b0,wl+k*4+1,tD⟩=tB (tP st.s.fA st.fs.length st.s.fC):=λp=>by
   rw[(vq.out.trans (p.h.mono (by omega))).cell (p:=⟨b0,_,tD⟩) zd];have:=ye k st D 1 _ rfl;rw[(HJ.out.mo.sin st (cf D)).nf] at this;exact this
  have yi:cm (∀p:BW d,zP 84 #[tW #[tP (tB ⟨b0,wl,tD⟩) m.ss.length m.sC,tP m.fA m.fs.length m.fC],tM s] p.w (Z U (k:bp))):=by
   intro p;have:=HS.out p.w s (by rw[HN.out];exact vq.out.trans (p.h.mono (by omega)));rw[wk,hA] at this;exact this
  have ud:cm (F=(if f<0 then(bI,15) else match st.fs[f.toNat]? with
   |none=>(bI,15)
   |some x=>(x.ty,0):Ty×bp)):=by
   unfold cm;rw[HF.out,cE (by simp)]
   show(match m.ss[(m.stIx s).toNat]? with
    |none=>(bI,15)
    |some s=>if f<0 then(bI,15) else match s.fs[f.toNat]? with
     |none=>(bI,15)
     |some x=>(x.ty,0):Ty×bp)=_
   rw[wk,cP,D]
  have yk:cm (st.inn w):=HJ.out.mo.sin st (cf D);have zj:=yk.out.len;unfold dT at zj;rw[hA] at k0 A;have m0:∀p:BW d,p.w.cell? ⟨N,0,tD⟩=tB (tP (tB ⟨b0,wl,tD⟩) m.ss.length m.sC):=λp=>(A.out p.w p.h).1;have m1:∀p:BW d,p.w.cell? ⟨N,1,tD⟩=tB (tP m.fA m.fs.length m.fC):=λp=>(A.out p.w p.h).2.1;have m2:∀p:BW d,p.w.cell? ⟨N+3,0,tD⟩=tB (tU tE):=λp=>(A.out p.w p.h).2.2.1;have m3:∀p:BW d,p.w.cell? ⟨N+3,1,tD⟩=tB (tM s):=λp=>(A.out p.w p.h).2.2.2.1;clear HF HK wk D hA zc ye HJ HS
  go_wp2_with fail
  clear k0 k1 k2 k3 k4 k5 k6 k7 yW;refine zQ ?_
  repeat (go_big_quiet_step (first|(go_at_call 84;exact aW (yi.out _))))
  refine eh ?_;rintro _ ⟨p,rfl⟩;obtain⟨ur,vr⟩:=p
  show Exit.then _ _ _ _ ur
  obtain⟨_,_,_,_,j4,j5,j6,j7,Ax⟩:=A.out ur vr;have yp:=wj.out ur vr;have vf:cm (bh N w ur):=vq.out.trans (vr.mono (by omega));have ws:=zH yp;clear vr A wj yi yp m0 m1 m2 m3 m4
  by_cases vu:f<0
  ·have uc:cm (F=(bI,15)):=by unfold cm;rw[ud.out,cR vu]
   clear ud;go_wp2;(try simp only[db,Exit.then]);refine dv (aO rfl _ _ (N+2) 32 _ (0,0) _ rfl (ek ws.out) ey (by kernel_rfl)) rfl ?_;rw[uc.out,HN.out];exact⟨rfl,(vf.out.setCell (by show N<=N+2;omega) _).setCell (by show N<=N+2;omega) _⟩
  obtain⟨q,rfl⟩:∃q:bx,f=(q:bp):=⟨f.toNat,by omega⟩
  rw[cE vu,cP] at ud
  by_cases vh:q<st.fs.length
  ·obtain⟨x,hx⟩:∃x,st.fs[q]?=tB x:=⟨_,am vh⟩
   have uc:cm (F=(x.ty,0)):=by unfold cm;rw[ud.out,hx]
   obtain⟨b1,yq,hA1,ue,wx⟩:=yk.out.row (by intro e;rw[e] at vh;simp at vh);have yr:b1<N:=by have:=HN.out;omega
   have e1:ur.cell? ⟨b1,yq+q*5+1,tD⟩=tB (tU x.ptr):=by rw[vf.out.cell (p:=⟨b1,_,tD⟩) yr];exact wx q x hx 1 _ rfl
   have e2:ur.cell? ⟨b1,yq+q*5+1+1,tD⟩=tB (tM x.tgt):=by rw[vf.out.cell (p:=⟨b1,_,tD⟩) yr];exact wx q x hx 2 _ rfl
   have zp:(q:bp)<(st.fs.length:bp):=by omega
   rw[hA1];clear ud hx wx ue hA1 vu vh;go_wp2;(try simp only[db,Exit.then]);refine dv (aO rfl _ _ (N+2) 32 _ (0,0) _ rfl (ek ws.out) ey (by kernel_rfl)) rfl ?_;rw[uc.out,HN.out];exact⟨rfl,(vf.out.setCell (by show N<=N+2;omega) _).setCell (by show N<=N+2;omega) _⟩
  ·have uc:cm (F=(bI,15)):=by unfold cm;rw[ud.out,my (by omega)]
   have zp:(st.fs.length:bp)<=(q:bp):=by omega
   clear ud vu vh;go_wp2;(try simp only[db,Exit.then]);refine dv (aO rfl _ _ (N+2) 32 _ (0,0) _ rfl (ek ws.out) ey (by kernel_rfl)) rfl ?_;rw[uc.out,HN.out];exact⟨rfl,(vf.out.setCell (by show N<=N+2;omega) _).setCell (by show N<=N+2;omega) _⟩
theorem Di {w d:World}{a b c:da cd}{f q u:gx}(h:((w.alloc (ua a f)).alloc (ua b q)).alloc (ua c u)=d):
  bh w.heap.size w d/\d.heap.size=w.heap.size+3/\d.heap[w.heap.size]?=tB (ua a f (0,0))/\d.heap[w.heap.size+1]?=tB (ua b q (0,0))/\d.heap[w.heap.size+2]?=tB (ua c u (0,0)):=by
 subst h;refine⟨(((aq _ _).alloc (ce _) _).alloc (by simp) _).alloc (by simp;omega) _,by simp, ?_, ?_, ?_⟩
 ·rw[cn _ _ _ (by simp;omega),cn _ _ _ (by simp)];exact alloc_at _ _
 ·rw[cn _ _ _ (by simp)]
  have:=alloc_at (w.alloc (ua a f)) (ua b q)
  rwa [World.size_alloc] at this
 ·have:=alloc_at ((w.alloc (ua a f)).alloc (ua b q)) (ua c u)
  rwa [World.size_alloc,World.size_alloc] at this
def gc (g:Fn)(d:eA Addr):da cd:=#[tM g.c.nm,Z U g.c.par,tP d g.vs.length g.c.varsC,tU g.c.rp,tM g.c.rto,Z U g.c.rcl,tP g.c.fromA g.c.nfrom g.c.fromC,tP g.c.insA g.c.ins.length g.c.insC]
theorem kz {g:Fn}{d:eA Addr}(h:g.c.nvars=g.vs.length)(e:g.c.varsA=d):g.cells=gc g d:=by
 unfold Fn.cells qp.cells gc;rw[h,e]
theorem xZ (m:Mo)(g:Fn)(i:Ins)(w:World)(h:oJ w m g)(va:i.op=7)(ha:isVar g.vs.length i.a=tE)(ho:isVar g.vs.length i.d=tE)(hk:m.known (az g.vs i.a)=tE):
  zP 90 #[tW m.cells,tW g.cells,tW i.cells] w (Z U (bV m g.vs i i.d tG)):=by
 have A:cm (∀W,bh w.heap.size w W->zP 127 #[tW m.cells,tW g.cells,Z U i.a,Z U i.f] W (.tuple #[wy (aI m g.vs i.a i.f).1,Z U (aI m g.vs i.a i.f).2])):=λW hW=>iT m g i.a i.f W (h.below hW) ha hk;have HE:cm (bV m g.vs i i.d tG=if (aI m g.vs i.a i.f).2≠0 then(aI m g.vs i.a i.f).2 else bM ((aI m g.vs i.a i.f).1==az g.vs i.d&&(aI m g.vs i.a i.f).1.1==tG) 7):=rfl;obtain⟨ka,q,vo,u,uc,yk,vj,yp,yq,wj,wk⟩:=dU h.vars ha;obtain⟨kd,An,As,v,vc,yr,vm,_,wl,ws,wx⟩:=dU h.vars ho;rw[vj] at vm;simp only[dt,eW,pc] at vm;obtain⟨rfl,rfl⟩:=vm;rw[wl] at HE;obtain⟨R,hR⟩:=zE (bV m g.vs i i.d tG);rw[hR] at HE⊢;obtain⟨⟨⟨b,s⟩,z⟩,hz⟩:∃F,aI m g.vs i.a i.f=F:=⟨_,rfl⟩
 rw[hz] at HE A;unfold wy at A;have hst:∀(w:World)(c:da cd),c.size=2->(dr ⟨w.heap.size,0,tD⟩ [tU b,tM s] 0).run ac (w.alloc (ua c 32))= .ok () (w.alloc (ua #[tU b,tM s] 32)):=λw c hc=>
  ct (P:=ac) w 32 c #[tU b,tM s] (by show _=tB 2;kernel_rfl) hc (by simp[cj])
 have xf:∀(w:World)(c:da cd),c.size=2->(dr ⟨w.heap.size,0,tD⟩ [tU u.ptr,tM u.tgt] 0).run ac (w.alloc (ua c 32))= .ok () (w.alloc (ua #[tU u.ptr,tM u.tgt] 32)):=λw c hc=>
  ct (P:=ac) w 32 c #[tU u.ptr,tM u.tgt] (by show _=tB 2;kernel_rfl) hc (by simp[cj])
 have xj:=h.nv;have yv:=h.vl;unfold dT at yv;have At:(ka:bp)<(g.vs.length:bp):=by omega
 have Ax:(kd:bp)<(g.vs.length:bp):=by omega
 have xl:=kz xj vj;rw[xl] at A⊢;simp only[Mo.cells,Ins.cells] at A⊢;rw[uc] at A;rw[va,uc,vc];simp only[gc] at A⊢;obtain⟨N,hN⟩:=zE w.heap.size;obtain⟨W1,vp⟩:=zE (((w.alloc (ua m.cells 25)).alloc (ua (gc g (tB ⟨q,vo,tD⟩)) 38)).alloc (ua i.cells 42));obtain⟨vd,vq,r0,r1,r2⟩:=Di vp;rw[hN] at vd vq r0 r1 r2;have yy:cm (W1.heap[N+1]?=tB (ua #[tM g.c.nm,Z U g.c.par,tP (tB ⟨q,vo,tD⟩) g.vs.length g.c.varsC,tU g.c.rp,tM g.c.rto,Z U g.c.rcl,tP g.c.fromA g.c.nfrom g.c.fromC,tP g.c.insA g.c.ins.length g.c.insC] 38 (0,0))):=r1;have HK:cm (∀W,bh (N+3) W1 W->W.cell? ⟨N+1,2,tD⟩=tB (tP (tB ⟨q,vo,tD⟩) g.vs.length g.c.varsC)/\W.cell? ⟨N+2,0,tD⟩=tB (Z U 7)/\W.cell? ⟨N+2,2,tD⟩=tB (Z U (ka:bp))/\W.cell? ⟨N+2,1,tD⟩=tB (Z U (kd:bp))/\
   W.cell? ⟨q,vo+ka*3,tD⟩=tB (tU u.ptr)/\W.cell? ⟨q,vo+ka*3+1,tD⟩=tB (tM u.tgt)/\W.cell? ⟨q,vo+kd*3,tD⟩=tB (tU v.ptr)/\W.cell? ⟨q,vo+kd*3+1,tD⟩=tB (tM v.tgt)/\bh N w W):=λW hW=>by
  have p1:=(hW.block (N+1) (by omega)).trans r1;have p2:=(hW.block (N+2) (by omega)).trans r2;have J:=vd.trans (hW.mono (by omega));refine⟨?_, ?_, ?_, ?_, ?_, ?_, ?_, ?_,J⟩
  ·rw[cc _ _ _ _ _ _ p1];rfl
  ·rw[cc _ _ _ _ _ _ p2,<-va];rfl
  ·rw[cc _ _ _ _ _ _ p2,<-uc];rfl
  ·rw[cc _ _ _ _ _ _ p2,<-vc];rfl
  ·rw[J.cell (p:=⟨q,_,tD⟩) (show q<N by omega)];exact wj
  ·rw[J.cell (p:=⟨q,_,tD⟩) (show q<N by omega)];exact wk
  ·rw[J.cell (p:=⟨q,_,tD⟩) (show q<N by omega)];exact ws
  ·rw[J.cell (p:=⟨q,_,tD⟩) (show q<N by omega)];exact wx
 have c0:=zR r0 0 (tP m.sA m.ss.length m.sC);have c1:=zR r0 1 (tP m.fA m.fs.length m.fC);have c2:W1.cell? ⟨N+2,2,tD⟩=tB (Z U (ka:bp)):=by rw[cc _ _ _ _ _ _ r2,<-uc];rfl
 have c3:=zR r2 4 (Z U i.f);have uv:=vp;simp only[Mo.cells,Ins.cells,gc] at uv;rw[va,uc] at uv;rw[vc] at uv;have xo:=zH uv;have HN:=zH hN;have yW:=zH vd;have xp:=zH vq;rw[hN] at A;clear h ha ho hk va uc vc vj yp yq wl wj wk ws wx hR hz xl vp uv vd r0 r1 r2 xj yr yk vq;go_enter sT,rN
 go_upto_region 1 with(fail)
 rw[xo.out]
 go_upto_region 2 with(first
  |(refine ci rfl 38 _ rfl (N+1) rfl 38 _ (0,0) _ yy.out cQ rfl (by kernel_rfl) ?_)
  |(go_at_call 127;refine(A.out _ yW.out).mono ?_;rintro e w2 ⟨rfl,zc⟩;have vr:=zH zc))
 clear c0 c1 c2 c3 xo;obtain⟨T,hT⟩:=zE w2.heap.size;obtain⟨W3,ud⟩:=zE (w2.alloc (ua #[tU b,tM s] 32));rw[hT,ud];have AD:N+3<=T:=by have:=vr.out.size;rw[xp.out] at this;omega
 have vu:bh (N+3) W1 w2:=by have:=vr.out;rwa [xp.out] at this
 have ue:bh (N+3) W1 W3:=by rw[<-ud];exact vu.alloc (by omega) _
 have xr:W3.heap.size=T+1:=by rw[<-ud];simp[hT]
 have vx:W3.heap[T]?=tB (ua #[tU b,tM s] 32 (0,0)):=by rw[<-ud,<-hT];exact alloc_at _ _
 by_cases hz:z=0
 ·subst hz
  have vf:cm (R=bM (((b,s):Ty)==(v.ptr,v.tgt)&&b==tG) 7):=by unfold cm;rw[HE.out,cE (by simp)]
  obtain⟨D,ur⟩:=zE (W3.alloc (ua #[tU u.ptr,tM u.tgt] 32));have xt:bh (N+3) W1 D:=by rw[<-ur];exact ue.alloc (by omega) _
  have xF:D.heap.size=T+2:=by rw[<-ur];simp[xr]
  have xT:D.heap[T+1]?=tB (ua #[tU u.ptr,tM u.tgt] 32 (0,0)):=by rw[<-ur,<-xr];exact alloc_at _ _
  have ya:D.heap[T]?=tB (ua #[tU b,tM s] 32 (0,0)):=by rw[<-ur,cn _ _ _ (by omega)];exact vx
  obtain⟨c0,c1,c2,c3,c4,c5,c6,c7,_⟩:=HK.out W3 ue;have yb:=zH ur;have yd:=zH xt;have ux:=zH xT;have zd:=zH ya;have zj:=zH xF;have AE:=zH ue;obtain⟨d,vy⟩:=zE (((b,s):Ty)==(v.ptr,v.tgt));have AF:∀w,(gE 10000 32 (tW #[tU b,tM s]) (tW #[tU v.ptr,tM v.tgt])).run ac w= .ok d w:=λw=>by rw[dH,vy]
  rw[vy] at vf;have d0:((0:bp) != 0)=tG:=rfl;clear hst ur xt xT ya xF ud ue vu vr vy HE A
  go_upto_region 5 with(fail)
  rw[yb.out];clear c0 c1 c2 c3 c4 c5 c6 c7 xf vx yb;obtain⟨c0,c1,c2,c3,c4,c5,c6,c7,_⟩:=HK.out D yd.out;have k0:=zR ux.out 0 (tU u.ptr);have k1:=zR ux.out 1 (tM u.tgt);have f0:D.frozen? ⟨T+1,0,tD⟩=tG:=eq _ _ _ _ _ ux.out;have f1:D.frozen? ⟨T+1,1,tD⟩=tG:=eq _ _ _ _ _ ux.out;have zp:T+1<D.heap.size:=by have:=zj.out;omega
  go_upto_region 8 with(fail)
  obtain⟨G,vh⟩:=zE ((D.setCell ⟨T+1,0,tD⟩ (tU v.ptr)).setCell ⟨T+1,1,tD⟩ (tM v.tgt));rw[vh];have we:G.heap[T+1]?=tB (ua #[tU v.ptr,tM v.tgt] 32 (0,0)):=by rw[<-vh];exact ek ux.out
  have wg:bh (T+1) D G:=by rw[<-vh];exact((aq _ _).setCell (by show T+1<=T+1;omega) _).setCell (by show T+1<=T+1;omega) _
  have wi:G.heap[T]?=tB (ua #[tU b,tM s] 32 (0,0)):=(wg.block T (by omega)).trans zd.out;have ye:bh (N+3) W1 G:=yd.out.trans (wg.mono (by omega));clear c0 c1 c2 c3 c4 c5 c6 c7 k0 k1 f0 f1 zp vh;obtain⟨_,c1,_,_,_,_,_,_,J⟩:=HK.out G ye;have k0:=zR we 0 (tU v.ptr);have k1:=zR we 1 (tM v.tgt);have k2:=zR wi 0 (tU b);have k3:=zR wi 1 (tM s);have vi:=zH J;have HO:cm (∀x,zP 51 #[tU x,Z U 7] G (Z U (bM (!x) 7))):=λx=>bi x 7 G;have zr:cm (∀w9,bh G.heap.size G w9->bh N w w9):=λw9 h9=>vi.out.trans (h9.mono (by have:=vi.out.size;rw[HN.out] at this;exact this));clear we wi wg ye J;cases d<;>cases b<;>(go_wp2_with (go_at_call 51;refine(HO.out _).mono ?_;rintro e w7 ⟨rfl,yi⟩;have zv:=zH yi;clear yi);go_ret;rw[vf.out,HN.out];exact⟨rfl,zr.out _ zv.out⟩)
 ·have vf:cm (R=z):=by unfold cm;rw[HE.out,cR hz]
  have AG:(z != 0)=tE:=by rw[qq];exact hz
  have vi:cm (bh N w W3):=(HK.out W3 ue).2.2.2.2.2.2.2.2;clear HE A HK hz hst xf vx ue vu ud;go_wp2;go_ret;rw[vf.out,HN.out];exact⟨rfl,vi.out⟩
theorem yc (m:Mo)(g:Fn)(i:Ins)(w:World)(h:oJ w m g)(va:i.op=8)(ha:isVar g.vs.length i.a=tE)(ho:isVar g.vs.length i.b=tE)(hk:m.known (az g.vs i.a)=tE):
  zP 90 #[tW m.cells,tW g.cells,tW i.cells] w (Z U (bV m g.vs i i.b tG)):=by
 have A:cm (∀W,bh w.heap.size w W->zP 127 #[tW m.cells,tW g.cells,Z U i.a,Z U i.f] W (.tuple #[wy (aI m g.vs i.a i.f).1,Z U (aI m g.vs i.a i.f).2])):=λW hW=>iT m g i.a i.f W (h.below hW) ha hk;have HE:cm (bV m g.vs i i.b tG=if (aI m g.vs i.a i.f).2≠0 then(aI m g.vs i.a i.f).2 else bM ((aI m g.vs i.a i.f).1==az g.vs i.b&&(aI m g.vs i.a i.f).1.1==tG) 7):=rfl;obtain⟨ka,q,vo,u,uc,yk,vj,yp,yq,wj,wk⟩:=dU h.vars ha;obtain⟨kd,An,As,v,vc,yr,vm,_,wl,ws,wx⟩:=dU h.vars ho;rw[vj] at vm;simp only[dt,eW,pc] at vm;obtain⟨rfl,rfl⟩:=vm;rw[wl] at HE;obtain⟨R,hR⟩:=zE (bV m g.vs i i.b tG);rw[hR] at HE⊢;obtain⟨⟨⟨b,s⟩,z⟩,hz⟩:∃F,aI m g.vs i.a i.f=F:=⟨_,rfl⟩
 rw[hz] at HE A;unfold wy at A;have hst:∀(w:World)(c:da cd),c.size=2->(dr ⟨w.heap.size,0,tD⟩ [tU b,tM s] 0).run ac (w.alloc (ua c 32))= .ok () (w.alloc (ua #[tU b,tM s] 32)):=λw c hc=>
  ct (P:=ac) w 32 c #[tU b,tM s] (by show _=tB 2;kernel_rfl) hc (by simp[cj])
 have xf:∀(w:World)(c:da cd),c.size=2->(dr ⟨w.heap.size,0,tD⟩ [tU u.ptr,tM u.tgt] 0).run ac (w.alloc (ua c 32))= .ok () (w.alloc (ua #[tU u.ptr,tM u.tgt] 32)):=λw c hc=>
  ct (P:=ac) w 32 c #[tU u.ptr,tM u.tgt] (by show _=tB 2;kernel_rfl) hc (by simp[cj])
 have xj:=h.nv;have yv:=h.vl;unfold dT at yv;have At:(ka:bp)<(g.vs.length:bp):=by omega
 have Ax:(kd:bp)<(g.vs.length:bp):=by omega
 have xl:=kz xj vj;rw[xl] at A⊢;simp only[Mo.cells,Ins.cells] at A⊢;rw[uc] at A;rw[va,uc,vc];simp only[gc] at A⊢;obtain⟨N,hN⟩:=zE w.heap.size;obtain⟨W1,vp⟩:=zE (((w.alloc (ua m.cells 25)).alloc (ua (gc g (tB ⟨q,vo,tD⟩)) 38)).alloc (ua i.cells 42));obtain⟨vd,vq,r0,r1,r2⟩:=Di vp;rw[hN] at vd vq r0 r1 r2;have yy:cm (W1.heap[N+1]?=tB (ua #[tM g.c.nm,Z U g.c.par,tP (tB ⟨q,vo,tD⟩) g.vs.length g.c.varsC,tU g.c.rp,tM g.c.rto,Z U g.c.rcl,tP g.c.fromA g.c.nfrom g.c.fromC,tP g.c.insA g.c.ins.length g.c.insC] 38 (0,0))):=r1;have HK:cm (∀W,bh (N+3) W1 W->W.cell? ⟨N+1,2,tD⟩=tB (tP (tB ⟨q,vo,tD⟩) g.vs.length g.c.varsC)/\W.cell? ⟨N+2,0,tD⟩=tB (Z U 8)/\W.cell? ⟨N+2,2,tD⟩=tB (Z U (ka:bp))/\W.cell? ⟨N+2,3,tD⟩=tB (Z U (kd:bp))/\
   W.cell? ⟨q,vo+ka*3,tD⟩=tB (tU u.ptr)/\W.cell? ⟨q,vo+ka*3+1,tD⟩=tB (tM u.tgt)/\W.cell? ⟨q,vo+kd*3,tD⟩=tB (tU v.ptr)/\W.cell? ⟨q,vo+kd*3+1,tD⟩=tB (tM v.tgt)/\bh N w W):=λW hW=>by
  have p1:=(hW.block (N+1) (by omega)).trans r1;have p2:=(hW.block (N+2) (by omega)).trans r2;have J:=vd.trans (hW.mono (by omega));refine⟨?_, ?_, ?_, ?_, ?_, ?_, ?_, ?_,J⟩
  ·rw[cc _ _ _ _ _ _ p1];rfl
  ·rw[cc _ _ _ _ _ _ p2,<-va];rfl
  ·rw[cc _ _ _ _ _ _ p2,<-uc];rfl
  ·rw[cc _ _ _ _ _ _ p2,<-vc];rfl
  ·rw[J.cell (p:=⟨q,_,tD⟩) (show q<N by omega)];exact wj
  ·rw[J.cell (p:=⟨q,_,tD⟩) (show q<N by omega)];exact wk
  ·rw[J.cell (p:=⟨q,_,tD⟩) (show q<N by omega)];exact ws
  ·rw[J.cell (p:=⟨q,_,tD⟩) (show q<N by omega)];exact wx
 have c0:=zR r0 0 (tP m.sA m.ss.length m.sC);have c1:=zR r0 1 (tP m.fA m.fs.length m.fC);have c2:W1.cell? ⟨N+2,2,tD⟩=tB (Z U (ka:bp)):=by rw[cc _ _ _ _ _ _ r2,<-uc];rfl
 have c3:=zR r2 4 (Z U i.f);have uv:=vp;simp only[Mo.cells,Ins.cells,gc] at uv;rw[va,uc] at uv;rw[vc] at uv;have xo:=zH uv;have HN:=zH hN;have yW:=zH vd;have xp:=zH vq;rw[hN] at A;clear h ha ho hk va uc vc vj yp yq wl wj wk ws wx hR hz xl vp uv vd r0 r1 r2 xj yr yk vq;go_enter sT,rN
 go_upto_region 1 with(fail)
 rw[xo.out]
 go_upto_region 2 with(first
  |(refine ci rfl 38 _ rfl (N+1) rfl 38 _ (0,0) _ yy.out cQ rfl (by kernel_rfl) ?_)
  |(go_at_call 127;refine(A.out _ yW.out).mono ?_;rintro e w2 ⟨rfl,zc⟩;have vr:=zH zc))
 clear c0 c1 c2 c3 xo;obtain⟨T,hT⟩:=zE w2.heap.size;obtain⟨W3,ud⟩:=zE (w2.alloc (ua #[tU b,tM s] 32));rw[hT,ud];have AD:N+3<=T:=by have:=vr.out.size;rw[xp.out] at this;omega
 have vu:bh (N+3) W1 w2:=by have:=vr.out;rwa [xp.out] at this
 have ue:bh (N+3) W1 W3:=by rw[<-ud];exact vu.alloc (by omega) _
 have xr:W3.heap.size=T+1:=by rw[<-ud];simp[hT]
 have vx:W3.heap[T]?=tB (ua #[tU b,tM s] 32 (0,0)):=by rw[<-ud,<-hT];exact alloc_at _ _
 by_cases hz:z=0
 ·subst hz
  have vf:cm (R=bM (((b,s):Ty)==(v.ptr,v.tgt)&&b==tG) 7):=by unfold cm;rw[HE.out,cE (by simp)]
  obtain⟨D,ur⟩:=zE (W3.alloc (ua #[tU u.ptr,tM u.tgt] 32));have xt:bh (N+3) W1 D:=by rw[<-ur];exact ue.alloc (by omega) _
  have xF:D.heap.size=T+2:=by rw[<-ur];simp[xr]
  have xT:D.heap[T+1]?=tB (ua #[tU u.ptr,tM u.tgt] 32 (0,0)):=by rw[<-ur,<-xr];exact alloc_at _ _
  have ya:D.heap[T]?=tB (ua #[tU b,tM s] 32 (0,0)):=by rw[<-ur,cn _ _ _ (by omega)];exact vx
  obtain⟨c0,c1,c2,c3,c4,c5,c6,c7,_⟩:=HK.out W3 ue;have yb:=zH ur;have yd:=zH xt;have ux:=zH xT;have zd:=zH ya;have zj:=zH xF;have AE:=zH ue;obtain⟨d,vy⟩:=zE (((b,s):Ty)==(v.ptr,v.tgt));have AF:∀w,(gE 10000 32 (tW #[tU b,tM s]) (tW #[tU v.ptr,tM v.tgt])).run ac w= .ok d w:=λw=>by rw[dH,vy]
  rw[vy] at vf;have d0:((0:bp) != 0)=tG:=rfl;clear hst ur xt xT ya xF ud ue vu vr vy HE A
  go_upto_region 5 with(fail)
  rw[yb.out];clear c0 c1 c2 c3 c4 c5 c6 c7 xf vx yb;obtain⟨c0,c1,c2,c3,c4,c5,c6,c7,_⟩:=HK.out D yd.out;have k0:=zR ux.out 0 (tU u.ptr);have k1:=zR ux.out 1 (tM u.tgt);have f0:D.frozen? ⟨T+1,0,tD⟩=tG:=eq _ _ _ _ _ ux.out;have f1:D.frozen? ⟨T+1,1,tD⟩=tG:=eq _ _ _ _ _ ux.out;have zp:T+1<D.heap.size:=by have:=zj.out;omega
  go_upto_region 8 with(fail)
  obtain⟨G,vh⟩:=zE ((D.setCell ⟨T+1,0,tD⟩ (tU v.ptr)).setCell ⟨T+1,1,tD⟩ (tM v.tgt));rw[vh];have we:G.heap[T+1]?=tB (ua #[tU v.ptr,tM v.tgt] 32 (0,0)):=by rw[<-vh];exact ek ux.out
  have wg:bh (T+1) D G:=by rw[<-vh];exact((aq _ _).setCell (by show T+1<=T+1;omega) _).setCell (by show T+1<=T+1;omega) _
  have wi:G.heap[T]?=tB (ua #[tU b,tM s] 32 (0,0)):=(wg.block T (by omega)).trans zd.out;have ye:bh (N+3) W1 G:=yd.out.trans (wg.mono (by omega));clear c0 c1 c2 c3 c4 c5 c6 c7 k0 k1 f0 f1 zp vh;obtain⟨_,c1,_,_,_,_,_,_,J⟩:=HK.out G ye;have k0:=zR we 0 (tU v.ptr);have k1:=zR we 1 (tM v.tgt);have k2:=zR wi 0 (tU b);have k3:=zR wi 1 (tM s);have vi:=zH J;have HO:cm (∀x,zP 51 #[tU x,Z U 7] G (Z U (bM (!x) 7))):=λx=>bi x 7 G;have zr:cm (∀w9,bh G.heap.size G w9->bh N w w9):=λw9 h9=>vi.out.trans (h9.mono (by have:=vi.out.size;rw[HN.out] at this;exact this));clear we wi wg ye J;cases d<;>cases b<;>(go_wp2_with (go_at_call 51;refine(HO.out _).mono ?_;rintro e w7 ⟨rfl,yi⟩;have zv:=zH yi;clear yi);go_ret;rw[vf.out,HN.out];exact⟨rfl,zr.out _ zv.out⟩)
 ·have vf:cm (R=z):=by unfold cm;rw[HE.out,cR hz]
  have AG:(z != 0)=tE:=by rw[qq];exact hz
  have vi:cm (bh N w W3):=(HK.out W3 ue).2.2.2.2.2.2.2.2;clear HE A HK hz hst xf vx ue vu ud;go_wp2;go_ret;rw[vf.out,HN.out];exact⟨rfl,vi.out⟩
theorem vD (m:Mo)(g:Fn)(i:Ins)(w:World)(h:oJ w m g)(va:i.op=10)(ha:isVar g.vs.length i.a=tE)(ho:isVar g.vs.length i.d=tE)(hk:m.known (az g.vs i.a)=tE):
  zP 90 #[tW m.cells,tW g.cells,tW i.cells] w (Z U (bV m g.vs i i.d tE)):=by
 have A:cm (∀W,bh w.heap.size w W->zP 127 #[tW m.cells,tW g.cells,Z U i.a,Z U i.f] W (.tuple #[wy (aI m g.vs i.a i.f).1,Z U (aI m g.vs i.a i.f).2])):=λW hW=>iT m g i.a i.f W (h.below hW) ha hk;have HE:cm (bV m g.vs i i.d tE=if (aI m g.vs i.a i.f).2≠0 then(aI m g.vs i.a i.f).2 else bM ((aI m g.vs i.a i.f).1==az g.vs i.d&&(aI m g.vs i.a i.f).1.1==tE) 7):=rfl;obtain⟨ka,q,vo,u,uc,yk,vj,yp,yq,wj,wk⟩:=dU h.vars ha;obtain⟨kd,An,As,v,vc,yr,vm,_,wl,ws,wx⟩:=dU h.vars ho;rw[vj] at vm;simp only[dt,eW,pc] at vm;obtain⟨rfl,rfl⟩:=vm;rw[wl] at HE;obtain⟨R,hR⟩:=zE (bV m g.vs i i.d tE);rw[hR] at HE⊢;obtain⟨⟨⟨b,s⟩,z⟩,hz⟩:∃F,aI m g.vs i.a i.f=F:=⟨_,rfl⟩
 rw[hz] at HE A;unfold wy at A;have hst:∀(w:World)(c:da cd),c.size=2->(dr ⟨w.heap.size,0,tD⟩ [tU b,tM s] 0).run ac (w.alloc (ua c 32))= .ok () (w.alloc (ua #[tU b,tM s] 32)):=λw c hc=>
  ct (P:=ac) w 32 c #[tU b,tM s] (by show _=tB 2;kernel_rfl) hc (by simp[cj])
 have xf:∀(w:World)(c:da cd),c.size=2->(dr ⟨w.heap.size,0,tD⟩ [tU u.ptr,tM u.tgt] 0).run ac (w.alloc (ua c 32))= .ok () (w.alloc (ua #[tU u.ptr,tM u.tgt] 32)):=λw c hc=>
  ct (P:=ac) w 32 c #[tU u.ptr,tM u.tgt] (by show _=tB 2;kernel_rfl) hc (by simp[cj])
 have xj:=h.nv;have yv:=h.vl;unfold dT at yv;have At:(ka:bp)<(g.vs.length:bp):=by omega
 have Ax:(kd:bp)<(g.vs.length:bp):=by omega
 have xl:=kz xj vj;rw[xl] at A⊢;simp only[Mo.cells,Ins.cells] at A⊢;rw[uc] at A;rw[va,uc,vc];simp only[gc] at A⊢;obtain⟨N,hN⟩:=zE w.heap.size;obtain⟨W1,vp⟩:=zE (((w.alloc (ua m.cells 25)).alloc (ua (gc g (tB ⟨q,vo,tD⟩)) 38)).alloc (ua i.cells 42));obtain⟨vd,vq,r0,r1,r2⟩:=Di vp;rw[hN] at vd vq r0 r1 r2;have yy:cm (W1.heap[N+1]?=tB (ua #[tM g.c.nm,Z U g.c.par,tP (tB ⟨q,vo,tD⟩) g.vs.length g.c.varsC,tU g.c.rp,tM g.c.rto,Z U g.c.rcl,tP g.c.fromA g.c.nfrom g.c.fromC,tP g.c.insA g.c.ins.length g.c.insC] 38 (0,0))):=r1;have HK:cm (∀W,bh (N+3) W1 W->W.cell? ⟨N+1,2,tD⟩=tB (tP (tB ⟨q,vo,tD⟩) g.vs.length g.c.varsC)/\W.cell? ⟨N+2,0,tD⟩=tB (Z U 10)/\W.cell? ⟨N+2,2,tD⟩=tB (Z U (ka:bp))/\W.cell? ⟨N+2,1,tD⟩=tB (Z U (kd:bp))/\
   W.cell? ⟨q,vo+ka*3,tD⟩=tB (tU u.ptr)/\W.cell? ⟨q,vo+ka*3+1,tD⟩=tB (tM u.tgt)/\W.cell? ⟨q,vo+kd*3,tD⟩=tB (tU v.ptr)/\W.cell? ⟨q,vo+kd*3+1,tD⟩=tB (tM v.tgt)/\bh N w W):=λW hW=>by
  have p1:=(hW.block (N+1) (by omega)).trans r1;have p2:=(hW.block (N+2) (by omega)).trans r2;have J:=vd.trans (hW.mono (by omega));refine⟨?_, ?_, ?_, ?_, ?_, ?_, ?_, ?_,J⟩
  ·rw[cc _ _ _ _ _ _ p1];rfl
  ·rw[cc _ _ _ _ _ _ p2,<-va];rfl
  ·rw[cc _ _ _ _ _ _ p2,<-uc];rfl
  ·rw[cc _ _ _ _ _ _ p2,<-vc];rfl
  ·rw[J.cell (p:=⟨q,_,tD⟩) (show q<N by omega)];exact wj
  ·rw[J.cell (p:=⟨q,_,tD⟩) (show q<N by omega)];exact wk
  ·rw[J.cell (p:=⟨q,_,tD⟩) (show q<N by omega)];exact ws
  ·rw[J.cell (p:=⟨q,_,tD⟩) (show q<N by omega)];exact wx
 have c0:=zR r0 0 (tP m.sA m.ss.length m.sC);have c1:=zR r0 1 (tP m.fA m.fs.length m.fC);have c2:W1.cell? ⟨N+2,2,tD⟩=tB (Z U (ka:bp)):=by rw[cc _ _ _ _ _ _ r2,<-uc];rfl
 have c3:=zR r2 4 (Z U i.f);have uv:=vp;simp only[Mo.cells,Ins.cells,gc] at uv;rw[va,uc] at uv;rw[vc] at uv;have xo:=zH uv;have HN:=zH hN;have yW:=zH vd;have xp:=zH vq;rw[hN] at A;clear h ha ho hk va uc vc vj yp yq wl wj wk ws wx hR hz xl vp uv vd r0 r1 r2 xj yr yk vq;go_enter sT,rN
 go_upto_region 1 with(fail)
 rw[xo.out]
 go_upto_region 2 with(first
  |(refine ci rfl 38 _ rfl (N+1) rfl 38 _ (0,0) _ yy.out cQ rfl (by kernel_rfl) ?_)
  |(go_at_call 127;refine(A.out _ yW.out).mono ?_;rintro e w2 ⟨rfl,zc⟩;have vr:=zH zc))
 clear c0 c1 c2 c3 xo;obtain⟨T,hT⟩:=zE w2.heap.size;obtain⟨W3,ud⟩:=zE (w2.alloc (ua #[tU b,tM s] 32));rw[hT,ud];have AD:N+3<=T:=by have:=vr.out.size;rw[xp.out] at this;omega
 have vu:bh (N+3) W1 w2:=by have:=vr.out;rwa [xp.out] at this
 have ue:bh (N+3) W1 W3:=by rw[<-ud];exact vu.alloc (by omega) _
 have xr:W3.heap.size=T+1:=by rw[<-ud];simp[hT]
 have vx:W3.heap[T]?=tB (ua #[tU b,tM s] 32 (0,0)):=by rw[<-ud,<-hT];exact alloc_at _ _
 by_cases hz:z=0
 ·subst hz
  have vf:cm (R=bM (((b,s):Ty)==(v.ptr,v.tgt)&&b==tE) 7):=by unfold cm;rw[HE.out,cE (by simp)]
  obtain⟨D,ur⟩:=zE (W3.alloc (ua #[tU u.ptr,tM u.tgt] 32));have xt:bh (N+3) W1 D:=by rw[<-ur];exact ue.alloc (by omega) _
  have xF:D.heap.size=T+2:=by rw[<-ur];simp[xr]
  have xT:D.heap[T+1]?=tB (ua #[tU u.ptr,tM u.tgt] 32 (0,0)):=by rw[<-ur,<-xr];exact alloc_at _ _
  have ya:D.heap[T]?=tB (ua #[tU b,tM s] 32 (0,0)):=by rw[<-ur,cn _ _ _ (by omega)];exact vx
  obtain⟨c0,c1,c2,c3,c4,c5,c6,c7,_⟩:=HK.out W3 ue;have yb:=zH ur;have yd:=zH xt;have ux:=zH xT;have zd:=zH ya;have zj:=zH xF;have AE:=zH ue;obtain⟨d,vy⟩:=zE (((b,s):Ty)==(v.ptr,v.tgt));have AF:∀w,(gE 10000 32 (tW #[tU b,tM s]) (tW #[tU v.ptr,tM v.tgt])).run ac w= .ok d w:=λw=>by rw[dH,vy]
  rw[vy] at vf;have d0:((0:bp) != 0)=tG:=rfl;clear hst ur xt xT ya xF ud ue vu vr vy HE A
  go_upto_region 5 with(fail)
  rw[yb.out];clear c0 c1 c2 c3 c4 c5 c6 c7 xf vx yb;obtain⟨c0,c1,c2,c3,c4,c5,c6,c7,_⟩:=HK.out D yd.out;have k0:=zR ux.out 0 (tU u.ptr);have k1:=zR ux.out 1 (tM u.tgt);have f0:D.frozen? ⟨T+1,0,tD⟩=tG:=eq _ _ _ _ _ ux.out;have f1:D.frozen? ⟨T+1,1,tD⟩=tG:=eq _ _ _ _ _ ux.out;have zp:T+1<D.heap.size:=by have:=zj.out;omega
  go_upto_region 8 with(fail)
  obtain⟨G,vh⟩:=zE ((D.setCell ⟨T+1,0,tD⟩ (tU v.ptr)).setCell ⟨T+1,1,tD⟩ (tM v.tgt));rw[vh];have we:G.heap[T+1]?=tB (ua #[tU v.ptr,tM v.tgt] 32 (0,0)):=by rw[<-vh];exact ek ux.out
  have wg:bh (T+1) D G:=by rw[<-vh];exact((aq _ _).setCell (by show T+1<=T+1;omega) _).setCell (by show T+1<=T+1;omega) _
  have wi:G.heap[T]?=tB (ua #[tU b,tM s] 32 (0,0)):=(wg.block T (by omega)).trans zd.out;have ye:bh (N+3) W1 G:=yd.out.trans (wg.mono (by omega));clear c0 c1 c2 c3 c4 c5 c6 c7 k0 k1 f0 f1 zp vh;obtain⟨_,c1,_,_,_,_,_,_,J⟩:=HK.out G ye;have k0:=zR we 0 (tU v.ptr);have k1:=zR we 1 (tM v.tgt);have k2:=zR wi 0 (tU b);have k3:=zR wi 1 (tM s);have vi:=zH J;have HO:cm (∀x,zP 51 #[tU x,Z U 7] G (Z U (bM (!x) 7))):=λx=>bi x 7 G;have zr:cm (∀w9,bh G.heap.size G w9->bh N w w9):=λw9 h9=>vi.out.trans (h9.mono (by have:=vi.out.size;rw[HN.out] at this;exact this));clear we wi wg ye J;cases d<;>cases b<;>(go_wp2_with (go_at_call 51;refine(HO.out _).mono ?_;rintro e w7 ⟨rfl,yi⟩;have zv:=zH yi;clear yi);go_ret;rw[vf.out,HN.out];exact⟨rfl,zr.out _ zv.out⟩)
 ·have vf:cm (R=z):=by unfold cm;rw[HE.out,cR hz]
  have AG:(z != 0)=tE:=by rw[qq];exact hz
  have vi:cm (bh N w W3):=(HK.out W3 ue).2.2.2.2.2.2.2.2;clear HE A HK hz hst xf vx ue vu ud;go_wp2;go_ret;rw[vf.out,HN.out];exact⟨rfl,vi.out⟩
theorem vE (m:Mo)(g:Fn)(i:Ins)(w:World)(h:oJ w m g)(va:i.op=11)(ha:isVar g.vs.length i.a=tE)(ho:isVar g.vs.length i.b=tE)(hk:m.known (az g.vs i.a)=tE):
  zP 90 #[tW m.cells,tW g.cells,tW i.cells] w (Z U (bV m g.vs i i.b tE)):=by
 have A:cm (∀W,bh w.heap.size w W->zP 127 #[tW m.cells,tW g.cells,Z U i.a,Z U i.f] W (.tuple #[wy (aI m g.vs i.a i.f).1,Z U (aI m g.vs i.a i.f).2])):=λW hW=>iT m g i.a i.f W (h.below hW) ha hk;have HE:cm (bV m g.vs i i.b tE=if (aI m g.vs i.a i.f).2≠0 then(aI m g.vs i.a i.f).2 else bM ((aI m g.vs i.a i.f).1==az g.vs i.b&&(aI m g.vs i.a i.f).1.1==tE) 7):=rfl;obtain⟨ka,q,vo,u,uc,yk,vj,yp,yq,wj,wk⟩:=dU h.vars ha;obtain⟨kd,An,As,v,vc,yr,vm,_,wl,ws,wx⟩:=dU h.vars ho;rw[vj] at vm;simp only[dt,eW,pc] at vm;obtain⟨rfl,rfl⟩:=vm;rw[wl] at HE;obtain⟨R,hR⟩:=zE (bV m g.vs i i.b tE);rw[hR] at HE⊢;obtain⟨⟨⟨b,s⟩,z⟩,hz⟩:∃F,aI m g.vs i.a i.f=F:=⟨_,rfl⟩
 rw[hz] at HE A;unfold wy at A;have hst:∀(w:World)(c:da cd),c.size=2->(dr ⟨w.heap.size,0,tD⟩ [tU b,tM s] 0).run ac (w.alloc (ua c 32))= .ok () (w.alloc (ua #[tU b,tM s] 32)):=λw c hc=>
  ct (P:=ac) w 32 c #[tU b,tM s] (by show _=tB 2;kernel_rfl) hc (by simp[cj])
 have xf:∀(w:World)(c:da cd),c.size=2->(dr ⟨w.heap.size,0,tD⟩ [tU u.ptr,tM u.tgt] 0).run ac (w.alloc (ua c 32))= .ok () (w.alloc (ua #[tU u.ptr,tM u.tgt] 32)):=λw c hc=>
  ct (P:=ac) w 32 c #[tU u.ptr,tM u.tgt] (by show _=tB 2;kernel_rfl) hc (by simp[cj])
 have xj:=h.nv;have yv:=h.vl;unfold dT at yv;have At:(ka:bp)<(g.vs.length:bp):=by omega
 have Ax:(kd:bp)<(g.vs.length:bp):=by omega
 have xl:=kz xj vj;rw[xl] at A⊢;simp only[Mo.cells,Ins.cells] at A⊢;rw[uc] at A;rw[va,uc,vc];simp only[gc] at A⊢;obtain⟨N,hN⟩:=zE w.heap.size;obtain⟨W1,vp⟩:=zE (((w.alloc (ua m.cells 25)).alloc (ua (gc g (tB ⟨q,vo,tD⟩)) 38)).alloc (ua i.cells 42));obtain⟨vd,vq,r0,r1,r2⟩:=Di vp;rw[hN] at vd vq r0 r1 r2;have yy:cm (W1.heap[N+1]?=tB (ua #[tM g.c.nm,Z U g.c.par,tP (tB ⟨q,vo,tD⟩) g.vs.length g.c.varsC,tU g.c.rp,tM g.c.rto,Z U g.c.rcl,tP g.c.fromA g.c.nfrom g.c.fromC,tP g.c.insA g.c.ins.length g.c.insC] 38 (0,0))):=r1;have HK:cm (∀W,bh (N+3) W1 W->W.cell? ⟨N+1,2,tD⟩=tB (tP (tB ⟨q,vo,tD⟩) g.vs.length g.c.varsC)/\W.cell? ⟨N+2,0,tD⟩=tB (Z U 11)/\W.cell? ⟨N+2,2,tD⟩=tB (Z U (ka:bp))/\W.cell? ⟨N+2,3,tD⟩=tB (Z U (kd:bp))/\
   W.cell? ⟨q,vo+ka*3,tD⟩=tB (tU u.ptr)/\W.cell? ⟨q,vo+ka*3+1,tD⟩=tB (tM u.tgt)/\W.cell? ⟨q,vo+kd*3,tD⟩=tB (tU v.ptr)/\W.cell? ⟨q,vo+kd*3+1,tD⟩=tB (tM v.tgt)/\bh N w W):=λW hW=>by
  have p1:=(hW.block (N+1) (by omega)).trans r1;have p2:=(hW.block (N+2) (by omega)).trans r2;have J:=vd.trans (hW.mono (by omega));refine⟨?_, ?_, ?_, ?_, ?_, ?_, ?_, ?_,J⟩
  ·rw[cc _ _ _ _ _ _ p1];rfl
  ·rw[cc _ _ _ _ _ _ p2,<-va];rfl
  ·rw[cc _ _ _ _ _ _ p2,<-uc];rfl
  ·rw[cc _ _ _ _ _ _ p2,<-vc];rfl
  ·rw[J.cell (p:=⟨q,_,tD⟩) (show q<N by omega)];exact wj
  ·rw[J.cell (p:=⟨q,_,tD⟩) (show q<N by omega)];exact wk
  ·rw[J.cell (p:=⟨q,_,tD⟩) (show q<N by omega)];exact ws
  ·rw[J.cell (p:=⟨q,_,tD⟩) (show q<N by omega)];exact wx
 have c0:=zR r0 0 (tP m.sA m.ss.length m.sC);have c1:=zR r0 1 (tP m.fA m.fs.length m.fC);have c2:W1.cell? ⟨N+2,2,tD⟩=tB (Z U (ka:bp)):=by rw[cc _ _ _ _ _ _ r2,<-uc];rfl
 have c3:=zR r2 4 (Z U i.f);have uv:=vp;simp only[Mo.cells,Ins.cells,gc] at uv;rw[va,uc] at uv;rw[vc] at uv;have xo:=zH uv;have HN:=zH hN;have yW:=zH vd;have xp:=zH vq;rw[hN] at A;clear h ha ho hk va uc vc vj yp yq wl wj wk ws wx hR hz xl vp uv vd r0 r1 r2 xj yr yk vq;go_enter sT,rN
 go_upto_region 1 with(fail)
 rw[xo.out]
 go_upto_region 2 with(first
  |(refine ci rfl 38 _ rfl (N+1) rfl 38 _ (0,0) _ yy.out cQ rfl (by kernel_rfl) ?_)
  |(go_at_call 127;refine(A.out _ yW.out).mono ?_;rintro e w2 ⟨rfl,zc⟩;have vr:=zH zc))
 clear c0 c1 c2 c3 xo;obtain⟨T,hT⟩:=zE w2.heap.size;obtain⟨W3,ud⟩:=zE (w2.alloc (ua #[tU b,tM s] 32));rw[hT,ud];have AD:N+3<=T:=by have:=vr.out.size;rw[xp.out] at this;omega
 have vu:bh (N+3) W1 w2:=by have:=vr.out;rwa [xp.out] at this
 have ue:bh (N+3) W1 W3:=by rw[<-ud];exact vu.alloc (by omega) _
 have xr:W3.heap.size=T+1:=by rw[<-ud];simp[hT]
 have vx:W3.heap[T]?=tB (ua #[tU b,tM s] 32 (0,0)):=by rw[<-ud,<-hT];exact alloc_at _ _
 by_cases hz:z=0
 ·subst hz
  have vf:cm (R=bM (((b,s):Ty)==(v.ptr,v.tgt)&&b==tE) 7):=by unfold cm;rw[HE.out,cE (by simp)]
  obtain⟨D,ur⟩:=zE (W3.alloc (ua #[tU u.ptr,tM u.tgt] 32));have xt:bh (N+3) W1 D:=by rw[<-ur];exact ue.alloc (by omega) _
  have xF:D.heap.size=T+2:=by rw[<-ur];simp[xr]
  have xT:D.heap[T+1]?=tB (ua #[tU u.ptr,tM u.tgt] 32 (0,0)):=by rw[<-ur,<-xr];exact alloc_at _ _
  have ya:D.heap[T]?=tB (ua #[tU b,tM s] 32 (0,0)):=by rw[<-ur,cn _ _ _ (by omega)];exact vx
  obtain⟨c0,c1,c2,c3,c4,c5,c6,c7,_⟩:=HK.out W3 ue;have yb:=zH ur;have yd:=zH xt;have ux:=zH xT;have zd:=zH ya;have zj:=zH xF;have AE:=zH ue;obtain⟨d,vy⟩:=zE (((b,s):Ty)==(v.ptr,v.tgt));have AF:∀w,(gE 10000 32 (tW #[tU b,tM s]) (tW #[tU v.ptr,tM v.tgt])).run ac w= .ok d w:=λw=>by rw[dH,vy]
  rw[vy] at vf;have d0:((0:bp) != 0)=tG:=rfl;clear hst ur xt xT ya xF ud ue vu vr vy HE A
  go_upto_region 5 with(fail)
  rw[yb.out];clear c0 c1 c2 c3 c4 c5 c6 c7 xf vx yb;obtain⟨c0,c1,c2,c3,c4,c5,c6,c7,_⟩:=HK.out D yd.out;have k0:=zR ux.out 0 (tU u.ptr);have k1:=zR ux.out 1 (tM u.tgt);have f0:D.frozen? ⟨T+1,0,tD⟩=tG:=eq _ _ _ _ _ ux.out;have f1:D.frozen? ⟨T+1,1,tD⟩=tG:=eq _ _ _ _ _ ux.out;have zp:T+1<D.heap.size:=by have:=zj.out;omega
  go_upto_region 8 with(fail)
  obtain⟨G,vh⟩:=zE ((D.setCell ⟨T+1,0,tD⟩ (tU v.ptr)).setCell ⟨T+1,1,tD⟩ (tM v.tgt));rw[vh];have we:G.heap[T+1]?=tB (ua #[tU v.ptr,tM v.tgt] 32 (0,0)):=by rw[<-vh];exact ek ux.out
  have wg:bh (T+1) D G:=by rw[<-vh];exact((aq _ _).setCell (by show T+1<=T+1;omega) _).setCell (by show T+1<=T+1;omega) _
  have wi:G.heap[T]?=tB (ua #[tU b,tM s] 32 (0,0)):=(wg.block T (by omega)).trans zd.out;have ye:bh (N+3) W1 G:=yd.out.trans (wg.mono (by omega));clear c0 c1 c2 c3 c4 c5 c6 c7 k0 k1 f0 f1 zp vh;obtain⟨_,c1,_,_,_,_,_,_,J⟩:=HK.out G ye;have k0:=zR we 0 (tU v.ptr);have k1:=zR we 1 (tM v.tgt);have k2:=zR wi 0 (tU b);have k3:=zR wi 1 (tM s);have vi:=zH J;have HO:cm (∀x,zP 51 #[tU x,Z U 7] G (Z U (bM (!x) 7))):=λx=>bi x 7 G;have zr:cm (∀w9,bh G.heap.size G w9->bh N w w9):=λw9 h9=>vi.out.trans (h9.mono (by have:=vi.out.size;rw[HN.out] at this;exact this));clear we wi wg ye J;cases d<;>cases b<;>(go_wp2_with (go_at_call 51;refine(HO.out _).mono ?_;rintro e w7 ⟨rfl,yi⟩;have zv:=zH yi;clear yi);go_ret;rw[vf.out,HN.out];exact⟨rfl,zr.out _ zv.out⟩)
 ·have vf:cm (R=z):=by unfold cm;rw[HE.out,cR hz]
  have AG:(z != 0)=tE:=by rw[qq];exact hz
  have vi:cm (bh N w W3):=(HK.out W3 ue).2.2.2.2.2.2.2.2;clear HE A HK hz hst xf vx ue vu ud;go_wp2;go_ret;rw[vf.out,HN.out];exact⟨rfl,vi.out⟩
theorem Aa (m:Mo)(g:Fn)(i:Ins)(w:World)(h:oJ w m g)(hi:i.args_in w)(An:i.args.length<=dT)(hd:isVar g.vs.length i.d=tE)(ha:∀a∈i.args,isVar g.vs.length a=tE):
  zP 91 #[tW m.cells,tW g.cells,tW i.cells] w (Z U (iG m g.vs i)):=by
 obtain⟨⟨_,By,n2,BE,As⟩,ao,cap,xf,xj⟩:=hi;have HA:cm (aA w ao i.args):=xj.at_;have HJ:=zH h;have At:=zH ha;have Ax:=zH xf;have HE:cm (iG m g.vs i=if i.f<0 then 15 else match m.fs[i.f.toNat]? with
  |none=>15
  |some g'=>if (i.args.length:bp)≠g'.c.par\/(g'.vs.length:bp)<g'.c.par then 7
   else if iF g.vs g'.vs 0 i.args=tG then 7 else bM (az g.vs i.d==g'.ret) 7):=rfl
 obtain⟨R,hR⟩:=zE (iG m g.vs i);rw[hR] at HE⊢;obtain⟨G,q,J,xd,vm,AD,ue,AE,xl,AF,AG⟩:=dU h.vars hd;have xo:=h.nv;have AH:=h.vl;unfold dT at AH An;have AI:(G:bp)<(g.vs.length:bp):=by omega
 have xp:=kz xo ue;rw[xp];obtain⟨N,hN⟩:=zE w.heap.size;obtain⟨W1,we⟩:=zE (((w.alloc (ua m.cells 25)).alloc (ua (gc g (tB ⟨q,J,tD⟩)) 38)).alloc (ua i.cells 42));obtain⟨wg,xr,r0,r1,r2⟩:=Di we;rw[hN] at wg xr r0 r1 r2;have i4:=zR r2 4 (Z U i.f);have k1:=zR r0 1 (tP m.fA m.fs.length m.fC);have xt:cm (∀(W:World)(v:bp),bh N w W->isVar g.vs.length v=tE->∃(k:bx) (x:Vr),v=(k:bp)/\k<g.vs.length/\az g.vs v=(x.ptr,x.tgt)/\W.cell? ⟨q,J+k*3,tD⟩=tB (tU x.ptr)/\W.cell? ⟨q,J+k*3+1,tD⟩=tB (tM x.tgt)):=by
  intro W v hW hv;obtain⟨k,b,uc,x,r1,r2,r3,r4,r5,r6,r7⟩:=dU h.vars hv;rw[ue] at r3;simp only[dt,eW,pc] at r3;obtain⟨rfl,rfl⟩:=r3;exact⟨k,x,r1,r2,r5,by rw[hW.cell (p:=⟨q,_,tD⟩) (show q<N by omega)];exact r6,by rw[hW.cell (p:=⟨q,_,tD⟩) (show q<N by omega)];exact r7⟩
 have vp:=we;simp only[Mo.cells,Ins.cells,gc] at vp;simp only[Mo.cells,Ins.cells,gc];rw[vm];rw[vm] at vp;have vd:=zH vp;have ur:=zH wg;have AK:=zH r0;have xF:=zH r1;have xT:=zH r2;have HN:=zH hN;have vf:=zH xr;have ya:=zH vm;have yb:=zH xl;clear hR h xj hd ha As xf we vp wg r0 r1 r2 vm xl AF AG ue xp xo AE AD
 by_cases vh:i.f<0
 ·have D:cm (R=15):=by unfold cm;rw[HE.out,cR vh]
  clear HE;go_enter func91,ntmps91
  go_upto_region 1 with(fail)
  rw[vd.out];go_wp2;go_ret;rw[D.out];exact⟨rfl,by first|exact ur.out|(rw[HN.out];exact ur.out)⟩
 obtain⟨F,hF⟩:∃F:bx,i.f=(F:bp):=⟨i.f.toNat,by omega⟩
 rw[hF] at i4
 by_cases vi:F<m.fs.length
 rotate_left
 ·have D:cm (R=15):=by unfold cm;rw[HE.out,cE vh,hF,cP,my (by omega)]
  have AM:(m.fs.length:bp)<=(F:bp):=by omega
  clear HE vi vh hF;go_enter func91,ntmps91
  go_upto_region 1 with(fail)
  rw[vd.out];go_wp2;go_ret;rw[D.out];exact⟨rfl,by first|exact ur.out|(rw[HN.out];exact ur.out)⟩
 obtain⟨f,vq⟩:∃f,m.fs[F]?=tB f:=⟨_,am vi⟩
 have uv:cm (R=if (i.args.length:bp)≠f.c.par\/(f.vs.length:bp)<f.c.par then 7 else if iF g.vs f.vs 0 i.args=tG then 7 else bM (az g.vs i.d==f.ret) 7):=by
  unfold cm;rw[HE.out,cE vh,hF,cP,vq]
 have wi:=HJ.out.mo.fin f (cf vq);have AN:=zH wi;obtain⟨fb,yd,wj,AS,ye⟩:=HJ.out.mo.frow (by intro e;rw[e] at vi;simp at vi);have AT:fb<N:=by have:=HN.out;omega
 have yi:cm (∀k u,f.cells.toList[k]?=tB u->W1.cell? ((⟨fb,yd+F*8,tD⟩:Addr).add k)=tB u):=λk u hu=>by
  rw[dc,ur.out.cell (p:=⟨fb,_,tD⟩) AT];exact ye F f vq k u hu
 have AM:(F:bp)<(m.fs.length:bp):=by omega
 obtain⟨A,ux⟩:=zE (W1.alloc (ua f.cells 38));have hst:∀(c:da cd),c.size=8->(dr ⟨N+3,0,tD⟩ f.cells.toList 0).run ac (W1.alloc (ua c 38))= .ok () A:=λc hc=>by
  rw[<-ux,<-vf.out];exact ct (P:=ac) W1 38 c f.cells (by show _=tB 8;kernel_rfl) hc (oK f)
 have vr:bh (N+3) W1 A:=by rw[<-ux,<-vf.out];exact(aq _ _).alloc (ce _) _
 have yk:A.heap[N+3]?=tB (ua f.cells 38 (0,0)):=by rw[<-ux,<-vf.out];exact alloc_at _ _
 have AW:A.heap.size=N+4:=by rw[<-ux];simp[vf.out]
 have vu:cm (bh N w A):=ur.out.trans (vr.mono (by omega));have wk:cm (∀W,bh A.heap.size A W->W.cell? ⟨N+1,2,tD⟩=tB (tP (tB ⟨q,J,tD⟩) g.vs.length g.c.varsC)/\W.cell? ⟨N+2,1,tD⟩=tB (Z U (G:bp))/\W.cell? ⟨N+2,7,tD⟩=tB (tP ao i.args.length cap)/\
   W.cell? ⟨N+3,1,tD⟩=tB (Z U f.c.par)/\W.cell? ⟨N+3,2,tD⟩=tB (tP f.c.varsA f.vs.length f.c.varsC)/\W.cell? ⟨N+3,3,tD⟩=tB (tU f.c.rp)/\W.cell? ⟨N+3,3+1,tD⟩=tB (tM f.c.rto)/\bh N w W):=by
  intro W hW;have q1:=(hW.block (N+1) (by omega)).trans ((vr.block (N+1) (by omega)).trans xF.out);have q2:=(hW.block (N+2) (by omega)).trans ((vr.block (N+2) (by omega)).trans xT.out);have q3:=(hW.block (N+3) (by omega)).trans yk;refine⟨?_, ?_, ?_, ?_, ?_, ?_, ?_,vu.out.trans (hW.mono (by omega))⟩
  ·rw[cc _ _ _ _ _ _ q1];rfl
  ·rw[cc _ _ _ _ _ _ q2,<-ya.out];rfl
  ·rw[cc _ _ _ _ _ _ q2,<-Ax.out];rfl
  ·rw[cc _ _ _ _ _ _ q3];rfl
  ·rw[cc _ _ _ _ _ _ q3,<-wi.nvars];rfl
  ·rw[cc _ _ _ _ _ _ q3];rfl
  ·rw[cc _ _ _ _ _ _ q3];rfl
 obtain⟨j2,j1,j7,c1,c2,c3,c4,_⟩:=wk.out A (aq _ _);have yp:cm (∀(W:World)(v:bp),bh A.heap.size A W->isVar f.vs.length v=tE->∃(k b uc:bx) (x:Vr),v=(k:bp)/\k<f.vs.length/\f.c.varsA=tB ⟨b,uc,tD⟩/\b<A.heap.size/\az f.vs v=(x.ptr,x.tgt)/\W.cell? ⟨b,uc+k*3,tD⟩=tB (tU x.ptr)/\W.cell? ⟨b,uc+k*3+1,tD⟩=tB (tM x.tgt)):=by
  intro W v hW hv;have yq:bh w.heap.size w W:=by rw[HN.out];exact vu.out.trans (hW.mono (by omega))
  obtain⟨k,b,uc,x,r1,r2,r3,r4,r5,r6,r7⟩:=dU (AN.out.vars) hv;exact⟨k,b,uc,x,r1,r2,r3,by omega,r5,by rw[yq.cell (p:=⟨b,_,tD⟩) r4];exact r6,by rw[yq.cell (p:=⟨b,_,tD⟩) r4];exact r7⟩
 have BT:=zH ux;have BY:=zH AW;rw[wj] at k1;rw[wj] at vd⊢;have A0:W1.heap.size=N+3:=vf.out;clear HE vh hF vi vq wi wj ye vr yk xF xT AK AS ux;have B4:i.args.length<=9223372036854775807:=by omega
 go_enter func91,ntmps91
 go_upto_region 1 with(fail)
 rw[vd.out];clear vd
 go_upto_region 4 with(first
  |(refine aG rfl 38 _ rfl ⟨fb,yd+F*8,tD⟩ rfl f.cells _ yi.out cQ rfl (by kernel_rfl) ?_))
 clear hst i4 k1 yi A0
 by_cases va:(i.args.length:bp)=f.c.par
 rotate_left
 ·have D:cm (R=7):=by unfold cm;rw[uv.out,cR (.inl va)]
  have B5:((i.args.length:bp) != f.c.par)=tE:=by rw[qq];exact va
  clear uv;go_wp2;go_ret;rw[D.out,HN.out];exact⟨rfl,vu.out⟩
 by_cases vx:(f.vs.length:bp)<f.c.par
 ·have D:cm (R=7):=by unfold cm;rw[uv.out,cR (.inr vx)]
  rw[<-va] at vx c1;clear uv;go_wp2;go_ret;rw[D.out,HN.out];exact⟨rfl,vu.out⟩
 have wl:cm (R=if iF g.vs f.vs 0 i.args=tG then 7 else bM (az g.vs i.d==f.ret) 7):=by
  unfold cm;rw[uv.out,cE (λh=>by rcases h with h|h;exact h va;exact vx h)]
 rw[<-va] at vx c1;have B6:i.args.length<=f.vs.length:=by omega
 clear uv va
 go_upto_region 6 with(fail)
 clear c1 c2 c3 c4 j1 j2 j7
 go_wp2_with fail
 go_loopw [8] (λc wr=>∃j:bx,j<=i.args.length/\c= Z U (j:bp)/\(∀k a,k<j->i.args[k]?=tB a->(az g.vs a==az f.vs (k:bp))=tE)/\bh A.heap.size A wr) (λc _=>i.args.length-(intOf c).toNat)
 case atStart=>exact⟨0,cN _,rfl,λk a hk=>fW hk (by omega),aq _ _⟩
 case round=>
  obtain⟨j,hj,rfl,ws,hb⟩:=hrel;have HB:=zH hb;have yr:=zH ws;obtain⟨j2,j1,j7,c1,c2,c3,c4,vj⟩:=wk.out wr hb;have A2:=zH vj
  by_cases vy:j<i.args.length
  ·obtain⟨y,hy⟩:∃y,i.args[j]?=tB y:=⟨_,am vy⟩
   obtain⟨ab,A4,A5,B8,yv⟩:=(HA.out.below (by rw[HN.out];exact vj)) (by intro e;rw[e] at vy;simp at vy)
   have d1:wr.cell? ⟨ab,A4+j,tD⟩=tB (Z U y):=yv j y hy;have yy:isVar g.vs.length y=tE:=At.out y (cf hy);obtain⟨ky,xy,yW,B9,zc,e0,e1⟩:=xt.out wr y vj yy;obtain⟨k',b,uc,x,Cd,Cl,ue,Cp,zd,x0,x1⟩:=yp.out wr (j:bp) hb (eF.2 ⟨by omega,by omega⟩);obtain rfl:k'=j:=by omega
   obtain⟨d,ud⟩:=zE (((xy.ptr,xy.tgt):Ty)==(x.ptr,x.tgt));have A6:∀w,(gE 10000 32 (tW #[tU xy.ptr,tM xy.tgt]) (tW #[tU x.ptr,tM x.tgt])).run ac w= .ok d w:=λw=>by rw[dH,ud]
   have zj:cm ((az g.vs y==az f.vs (k':bp))=d):=by unfold cm;rw[zc,zd];exact ud
   have HY:=zH hy;have CA:(k':bp)<(i.args.length:bp):=by omega
   have CC:(k':bp)<(f.vs.length:bp):=by omega
   have CD:(ky:bp)<(g.vs.length:bp):=by omega
   subst A5;rw[ue] at c2;rw[yW] at d1;clear ws hb vj hy yv yy ue zd zc ud vy yW c1 c3 c4 j1;cases d with
   |true=>
    go_wp2_with fail
    go_quiet (fail)
    go_wp2;go_roundw
    case rel=>
     refine⟨k'+1,by omega,by go_num,λk a hk wx=> ?_,lB HB.out _⟩
     by_cases e:k=k'
     ·subst e
      rw[HY.out] at wx;obtain rfl:=cD wx;exact zj.out
     ·exact yr.out k a (by omega) wx
    case measure=>simp[intOf];omega
   |false=>
    have D:cm (R=7):=by
     unfold cm;rw[wl.out,cR];cases hc:iF g.vs f.vs 0 i.args with
     |false=>rfl
     |true=>
      have:=(ku _ _ _ _).1 hc k' y HY.out;rw[cV,zj.out] at this;cases this
    go_wp2_with fail
    go_quiet (fail)
    go_wp2;go_ret;rw[D.out,HN.out];exact⟨rfl,lB A2.out _⟩
  ·have Bk:j=i.args.length:=by omega
   subst Bk;have zp:cm (R=bM (az g.vs i.d==f.ret) 7):=by
    unfold cm;rw[wl.out,cE];rw[(ku _ _ _ _).2 (λk a hk=>by rw[cV];exact yr.out k a (ap.1 hk).1 hk)];decide
   have zr:isVar g.vs.length (G:bp)=tE:=eF.2 ⟨by omega,AI⟩;obtain⟨d,ud⟩:=zE (((xd.ptr,xd.tgt):Ty)==(f.c.rp,f.c.rto));have A6:∀w,(gE 10000 32 (tW #[tU xd.ptr,tM xd.tgt]) (tW #[tU f.c.rp,tM f.c.rto])).run ac w= .ok d w:=λw=>by rw[dH,ud]
   have D:cm (R=bM d 7):=by unfold cm;rw[zp.out,yb.out,<-ud];rfl
   have vc:cm (∀p:BW wr,_):=λp:BW wr=>wk.out p.w (HB.out.trans (p.h.mono HB.out.size));have zv:cm (∀p:BW wr,p.w.cell? ⟨q,J+G*3,tD⟩=tB (tU xd.ptr)/\p.w.cell? ⟨q,J+G*3+1,tD⟩=tB (tM xd.tgt)):=λp=>by
    obtain⟨k,x,q1,_,q2,q3,q4⟩:=xt.out p.w (G:bp) (vc.out p).2.2.2.2.2.2.2 zr;obtain rfl:G=k:=by omega
    rw[<-ya.out,yb.out] at q2;simp only[cU] at q2;rw[q2.1,q2.2];exact⟨q3,q4⟩
   have g0:∀p:BW wr,p.w.cell? ⟨N+1,2,tD⟩=tB (tP (tB ⟨q,J,tD⟩) g.vs.length g.c.varsC):=λp=>(vc.out p).1;have g1:∀p:BW wr,p.w.cell? ⟨N+2,1,tD⟩=tB (Z U (G:bp)):=λp=>(vc.out p).2.1;have g3:∀p:BW wr,p.w.cell? ⟨N+3,3,tD⟩=tB (tU f.c.rp):=λp=>(vc.out p).2.2.2.2.2.1;have g4:∀p:BW wr,p.w.cell? ⟨N+3,3+1,tD⟩=tB (tM f.c.rto):=λp=>(vc.out p).2.2.2.2.2.2.1;have g5:∀p:BW wr,p.w.cell? ⟨q,J+G*3,tD⟩=tB (tU xd.ptr):=λp=>(zv.out p).1;have g6:∀p:BW wr,p.w.cell? ⟨q,J+G*3+1,tD⟩=tB (tM xd.tgt):=λp=>(zv.out p).2;have HO:cm (∀(p:BW wr) x,zP 51 #[tU x,Z U 7] p.w (Z U (bM (!x) 7))):=λp x=>bi x 7 p.w;clear ws hb vj ud wl zp yp c1 c2 c3 c4 j1 j2 zr;cases d<;>
    (go_wp2_with fail
     clear j7;refine zQ ?_
     repeat (go_big_quiet_step (first|(go_at_call 51;exact aW (HO.out _ _))))
     refine eh ?_;rintro _ ⟨p,rfl⟩;have Bm:=zH (vc.out p).2.2.2.2.2.2.2;clear g0 g1 g3 g4 g5 g6;go_wp2;go_ret;rw[D.out,HN.out];exact⟨rfl,Bm.out⟩)
theorem aA.lit (w:World)(d:da cd)(xs:bm bp){B:bx}(f:B=w.heap.size)(h:d=(xs.map (eE .i64)).toArray):aA (w.alloc (.cells d 3)) (tB ⟨B,0,tD⟩) xs:=by
 subst f h;intro _;refine⟨w.heap.size,0,rfl,by simp,λi u q=> ?_⟩;rw[cV,World.cell?_alloc_new];simp[q]
theorem yf (op:bp)(xs:bm bp)(n:bx)(f:n=xs.length)(q:xs.length<=90000)(W:World)(d:eA Addr)(h:aA W d xs):
  zS 126 #[Z U op,tP d n n] W (tU (decide (op∈xs))):=by
 subst f;exact Db W _ d xs op q h
theorem qZ (i:Ins)(w:World)(D:i.ok):zP 86 #[.agg i.cells] w (.tuple #[.int .i64 (aX i).1,.bool (aX i).2]):=by
 obtain⟨op,d,a,b,f,n,G,J,uc,ud,ue,ln,cl,args⟩:=i;obtain⟨⟨q,cap,u⟩,ur,n2,uv,v⟩:=D;simp only at u v;subst u v;simp only[Ins.cells,aX];have A:cm (∀(W:World) q,aA W q [1,2,3,4,5,7,9,10,12,14,15]->zS 126 #[.int .i64 op,.slice q 11 11] W (.bool (nZ op))):=
  λW q h=>yf op [1,2,3,4,5,7,9,10,12,14,15] 11 rfl (by simp) W q h
 cases hd:nZ op with
 |true=>
  go_enter func86,ntmps86
  go_wp2_with (go_at_call 126;refine(A.out _ _ (aA.lit _ _ _ (by simp) rfl)).mono ?_;rintro e w' ⟨rfl,rfl⟩)
  go_ret2
  exact⟨rfl,((aq _ _).alloc (ce _) _).alloc (by simp) _⟩
 |false=>
  go_enter func86,ntmps86
  go_wp2_with (go_at_call 126;refine(A.out _ _ (aA.lit _ _ _ (by simp) rfl)).mono ?_;rintro e w' ⟨rfl,rfl⟩)
  go_ret2
  exact⟨rfl,((aq _ _).alloc (ce _) _).alloc (by simp) _⟩
theorem sJ (i:Ins)(w:World)(yd:i.args_in w)(hl:i.args.length<=40):gd ac 88 #[.agg i.cells] w (lJ w (readsOf i)):=by
 obtain⟨op,d,a,b,f,n,xf,ye,yi,xj,xl,ln,cl,args⟩:=i;obtain⟨⟨_,xo,n2,xp,h2⟩,ao,cap,h1,we⟩:=yd;simp only at h1 h2 we hl;subst h1 h2;simp only[Ins.cells,readsOf];have HA:cm (∀(W:World) ao,aA W ao [3,4,6,7,8,9,10,11,13,14,17,18]->zS 126 #[.int .i64 op,.slice ao 12 12] W (.bool (oH op))):=
  λW ao h=>yf op [3,4,6,7,8,9,10,11,13,14,17,18] 12 rfl (by simp) W ao h
 have HB:cm (∀(W:World) ao,aA W ao [4,8,11]->zS 126 #[.int .i64 op,.slice ao 3 3] W (.bool (rz op))):=
  λW ao h=>yf op [4,8,11] 3 rfl (by simp) W ao h
 have xr:=zH we.at_;clear we;obtain⟨N,hN⟩:=zE w.heap.size;obtain⟨v,vh⟩:=zE (w.alloc (.cells #[.int .i64 op,.int .i64 d,.int .i64 a,.int .i64 b,.int .i64 f,.int .i64 n,.string xf,.slice ao args.length cap,.slice xo n2 xp,.int .i64 xj,.int .i64 xl,.int .i64 ln,.int .i64 cl] 42));have xt:=iV vh hN;have xF:v.heap.size=N+1:=by rw[<-vh];simp[hN]
 have xT:v.heap[N]?=tB (.cells #[.int .i64 op,.int .i64 d,.int .i64 a,.int .i64 b,.int .i64 f,.int .i64 n,.string xf,.slice ao args.length cap,.slice xo n2 xp,.int .i64 xj,.int .i64 xl,.int .i64 ln,.int .i64 cl] 42 (0,0)):=by
  rw[<-vh,<-hN];exact alloc_at _ _
 have HK:cm (∀W,Ext (λk=>N+1<=k) v W->W.cell? ⟨N,0,tD⟩=tB (.int .i64 op)/\W.cell? ⟨N,2,tD⟩=tB (.int .i64 a)/\W.cell? ⟨N,3,tD⟩=tB (.int .i64 b)/\W.cell? ⟨N,7,tD⟩=tB (.slice ao args.length cap)/\N<W.heap.size/\bh N w W/\aA W ao args):=by
  intro W hx;have h4:=hx.heap xT (by omega);have ya:bh N w W:=xt.trans ((hx.below (B:=N+1) (by omega) (λk hk=>hk)).mono (by omega));refine⟨?_, ?_, ?_, ?_,(bj.1 h4).1,ya,xr.out.below (by rw[hN];exact ya)⟩<;>(rw[cc _ _ _ _ _ _ h4];rfl)
 have vr:=zH xF;have vu:=zH vh;have yk:N+1<=v.heap.size:=by omega
 clear xt xF xT vh xr
 by_cases vx:op=15
 ·subst vx
  have ea:oH 15=tG:=by decide
  have eb:rz 15=tG:=by decide
  rw[ea,eb,cE (by decide),cE (by decide),cR rfl];rw[ea] at HA;rw[eb] at HB;simp only[fc];clear ea eb;go_enter sX,rS
  go_wp2_with fail
  go_at_call 126;rw[vu.out];refine(HA.out _ _ (aA.lit _ _ _ (by have:=vr.out;omega) rfl)).mono ?_;rintro e w2 ⟨rfl,uc⟩;have A:Ext (λk=>N+1<=k) v w2:=by rw[<-uc];exact(Ext.refl _ _).alloc _
  obtain⟨k0,k2,k3,k7,ue,q,u⟩:=HK.out w2 A;have ur:=zH A;have wg:=zH u;have wi:=zH q;clear uc A u q
  go_wp2_with fail
  go_at_call 126;refine(HB.out _ _ (aA.lit _ _ _ rfl rfl)).mono ?_;rintro e D ⟨rfl,G⟩;have J:Ext (λk=>N+1<=k) v D:=by rw[<-G];exact ur.out.alloc _
  have ud:=iq G;obtain⟨k0,k2,k3,k7,ue,q,u⟩:=HK.out D J;have vi:=zH J;have vj:=zH ud;have vy:=zH u;have vc:=zH q;clear G J ud u q;have wj:N<D.heap.size+1:=by omega
  go_wp2_with (at_builtin;refine aP rfl (.tmp 25) (.tmp 27) rfl (N+1) (.slice tD 0 0) [] rfl (aT.nil _ _) _ args cap rfl vy.out ?c51 ?c52 ?_)
  case c51=>first|omega|(simp<;>omega)|simp
  case c52=>first|omega|(simp<;>omega)|simp
  intro v5 w5 uv vm;obtain⟨wk,wl,rfl⟩:=uv.isSlice;have vp:Ext (λk=>N+1<=k) v w5:=vi.out.trans (Ext.of_grown vm (λk hk=> .inl (by first|(have h3:=((aT.nil _ _).lt k hk).1;exact h3)|(simp[eJ] at hk)))) (λj hj=> .inl hj);have HG:cm (lJ w args (.returned (.slice wk args.length wl)) w5):=⟨_,_,rfl,by rw[hN];exact aT.mono (by simpa using uv) (ip N),by rw[hN];exact(HK.out w5 vp).2.2.2.2.2.1⟩
  clear uv vm vp
  try simp only[fc]
  go_wp2;go_ret;exact HG.out
 ·have yp:(op==15)=tG:=by simpa using vx
  rw[cE vx,mj];clear vx;cases ha:oH op with
  |false=>
   have hb:rz op=tG:=by
    cases h:rz op with
    |false=>rfl
    |true=>rw[Ct h] at ha;cases ha
   rw[hb,cE (by decide),cE (by decide)];rw[ha] at HA;rw[hb] at HB;clear ha hb;go_enter sX,rS
   go_wp2_with fail
   go_at_call 126;rw[vu.out];refine(HA.out _ _ (aA.lit _ _ _ (by have:=vr.out;omega) rfl)).mono ?_;rintro e w2 ⟨rfl,uc⟩;have A:Ext (λk=>N+1<=k) v w2:=by rw[<-uc];exact(Ext.refl _ _).alloc _
   obtain⟨k0,k2,k3,k7,ue,q,u⟩:=HK.out w2 A;have ur:=zH A;have wg:=zH u;have wi:=zH q;clear uc A u q
   go_wp2_with fail
   go_at_call 126;refine(HB.out _ _ (aA.lit _ _ _ rfl rfl)).mono ?_;rintro e D ⟨rfl,G⟩;have J:Ext (λk=>N+1<=k) v D:=by rw[<-G];exact ur.out.alloc _
   have ud:=iq G;obtain⟨k0,k2,k3,k7,ue,q,u⟩:=HK.out D J;have vi:=zH J;have vj:=zH ud;have vy:=zH u;have vc:=zH q;clear G J ud u q;go_wp2;go_ret;exact⟨tD,0,rfl,aT.nil _ _,by first|exact vc.out|(rw[hN];exact vc.out)⟩
  |true=>
   rw[ha] at HA;cases hb:rz op with
   |false=>
    rw[cR rfl,cE (by decide),mj];rw[hb] at HB;clear ha hb;go_enter sX,rS
    go_wp2_with fail
    go_at_call 126;rw[vu.out];refine(HA.out _ _ (aA.lit _ _ _ (by have:=vr.out;omega) rfl)).mono ?_;rintro e w2 ⟨rfl,uc⟩;have A:Ext (λk=>N+1<=k) v w2:=by rw[<-uc];exact(Ext.refl _ _).alloc _
    obtain⟨k0,k2,k3,k7,ue,q,u⟩:=HK.out w2 A;have ur:=zH A;have wg:=zH u;have wi:=zH q;clear uc A u q;have wj:N<w2.heap.size+1:=by omega
    go_wp2_with (at_builtin;refine aP rfl (.tmp 8) (.tmp 11) rfl (N+1) (.slice tD 0 0) [] rfl (aT.nil _ _) _ [a] 1 rfl (aA.one _ _ rfl) ?c31 ?c32 ?_)
    case c31=>first|omega|(simp<;>omega)|simp
    case c32=>first|omega|(simp<;>omega)|simp
    intro v3 w3 ux vq;obtain⟨vd,vf,rfl⟩:=ux.isSlice;have va:Ext (λk=>N+1<=k) v w3:=(ur.out.alloc _).trans (Ext.of_grown vq (λk hk=> .inl (by first|(have h3:=((aT.nil _ _).lt k hk).1;exact h3)|(simp[eJ] at hk)))) (λj hj=> .inl hj);obtain⟨k0,k2,k3,k7,ue,_,_⟩:=HK.out w3 va;have ws:=zH va;have wx:cm (aT w3 (N+1) (.slice vd [a].length vf) [a]):=by unfold cm;simpa using ux
    clear ux vq va
    try simp only[fc]
    go_wp2_with fail
    go_at_call 126;refine(HB.out _ _ (aA.lit _ _ _ rfl rfl)).mono ?_;rintro e D ⟨rfl,G⟩;have J:Ext (λk=>N+1<=k) v D:=by rw[<-G];exact ws.out.alloc _
    have ud:=iq G;obtain⟨k0,k2,k3,k7,ue,q,u⟩:=HK.out D J;have vi:=zH J;have vj:=zH ud;have vy:=zH u;have vc:=zH q;clear G J ud u q;have HG:cm (lJ w [a] (.returned (.slice vd [a].length vf)) D):=⟨_,_,rfl,by rw[hN];exact aT.mono (ownsRow_below wx.out vj.out) (ip N),by rw[hN];exact vc.out⟩
    go_wp2;go_ret;exact HG.out
   |true=>
    rw[cR rfl,cR rfl];rw[hb] at HB;clear ha hb;go_enter sX,rS
    go_wp2_with fail
    go_at_call 126;rw[vu.out];refine(HA.out _ _ (aA.lit _ _ _ (by have:=vr.out;omega) rfl)).mono ?_;rintro e w2 ⟨rfl,uc⟩;have A:Ext (λk=>N+1<=k) v w2:=by rw[<-uc];exact(Ext.refl _ _).alloc _
    obtain⟨k0,k2,k3,k7,ue,q,u⟩:=HK.out w2 A;have ur:=zH A;have wg:=zH u;have wi:=zH q;clear uc A u q;have wj:N<w2.heap.size+1:=by omega
    go_wp2_with (at_builtin;refine aP rfl (.tmp 8) (.tmp 11) rfl (N+1) (.slice tD 0 0) [] rfl (aT.nil _ _) _ [a] 1 rfl (aA.one _ _ rfl) ?c31 ?c32 ?_)
    case c31=>first|omega|(simp<;>omega)|simp
    case c32=>first|omega|(simp<;>omega)|simp
    intro v3 w3 ux vq;obtain⟨vd,vf,rfl⟩:=ux.isSlice;have va:Ext (λk=>N+1<=k) v w3:=(ur.out.alloc _).trans (Ext.of_grown vq (λk hk=> .inl (by first|(have h3:=((aT.nil _ _).lt k hk).1;exact h3)|(simp[eJ] at hk)))) (λj hj=> .inl hj);obtain⟨k0,k2,k3,k7,ue,_,_⟩:=HK.out w3 va;have ws:=zH va;have wx:cm (aT w3 (N+1) (.slice vd [a].length vf) [a]):=by unfold cm;simpa using ux
    clear ux vq va
    try simp only[fc]
    go_wp2_with fail
    go_at_call 126;refine(HB.out _ _ (aA.lit _ _ _ rfl rfl)).mono ?_;rintro e D ⟨rfl,G⟩;have J:Ext (λk=>N+1<=k) v D:=by rw[<-G];exact ws.out.alloc _
    have ud:=iq G;obtain⟨k0,k2,k3,k7,ue,q,u⟩:=HK.out D J;have vi:=zH J;have vj:=zH ud;have vy:=zH u;have vc:=zH q;clear G J ud u q;have yb:cm (aT D (N+1) (.slice vd 1 vf) [a]):=ownsRow_below wx.out vj.out;have wj:N<D.heap.size+1:=by omega
    go_wp2_with (at_builtin;refine aP rfl (.tmp 17) (.tmp 20) rfl (N+1) (.slice vd 1 vf) [a] rfl (ownsRow_below yb.out ((aq _ _).alloc (ce _) _)) _ [b] 1 rfl (aA.one _ _ rfl) ?c51 ?c52 ?_)
    case c51=>first|omega|(simp<;>omega)|simp
    case c52=>first|omega|(simp<;>omega)|simp
    intro v5 w5 uv vm;obtain⟨wk,wl,rfl⟩:=uv.isSlice;have vp:Ext (λk=>N+1<=k) v w5:=(vi.out.alloc _).trans (Ext.of_grown vm (λk hk=> .inl (by first|(have h3:=(yb.out.lt k hk).1;exact h3)|(simp[eJ] at hk)))) (λj hj=> .inl hj);obtain⟨k0,k2,k3,k7,ue,q,_⟩:=HK.out w5 vp;have HG:cm (lJ w [a,b] (.returned (.slice wk [a,b].length wl)) w5):=⟨_,_,rfl,by rw[hN];exact aT.mono (by simpa using uv) (ip N),by rw[hN];exact q⟩
    clear uv vm vp q
    try simp only[jt,fc]
    go_wp2;go_ret;exact HG.out
theorem jQ {P:km}{W:World}{o:ke}{a:Act}{K:Act->Prop}(f:gx)(x:Operand)(v:o.op= .load f x)
  (q:Addr)(A:a.eval x= tR (tB q))(h:da cd)(d:TypeDesc)(D:∀(p:BW W)(j:bx)(u:cd),h.toList[j]?=tB u->p.w.cell? (q.add j)=tB u)
  (G:P.underlying f=tB d)(J:(match d with| .struct _| .array _ _=>tE|_=>tG)=tE)(hi:(P.info? f).map (·.size)=tB h.size)
  (hk:K (a.put o.dst (tW h))):o.quiet P a (λw'=>∃p:BW W,w'=p.w) K:=by
 refine⟨_,λw hw=> ?_,hk⟩;obtain⟨p,rfl⟩:=hw;unfold Oper.quietAt execOp;simp only[v,A,Instr.loadAt,Instr.sureAddr,ft,Sem.run_pure,mA,jb p.w q f h d (D p) G J hi];exact⟨rfl,rfl⟩
theorem dM (n:bx)(xs d:bm bp):aJ n (xs++d)=(aJ n xs&&aJ n d):=by unfold aJ;rw[List.all_append]
theorem fM {g:Fn}{i:Ins}(h:aJ g.vs.length (readsOf i)=tE)(d:oH i.op=tE):isVar g.vs.length i.a=tE:=by
 unfold readsOf at h;rw[cR d,dM,dM] at h;simp only[eN] at h;simpa[aJ] using h.1.1
theorem yg {g:Fn}{i:Ins}(h:aJ g.vs.length (readsOf i)=tE)(d:rz i.op=tE):isVar g.vs.length i.b=tE:=by
 unfold readsOf at h;rw[cR d,dM,dM] at h;simp only[eN] at h;simpa[aJ] using h.1.2
theorem BG {g:Fn}{i:Ins}(h:aJ g.vs.length (readsOf i)=tE)(d:i.op=15):∀a∈i.args,isVar g.vs.length a=tE:=by
 unfold readsOf at h;rw[cR d,dM,dM] at h;simp only[eN] at h;exact js.1 h.2
structure Bx (m:Mo)(g:Fn)(i:Ins)(ao:eA Addr)(N:bx)(W:World):Prop where
 m0:W.cell? ⟨N,0,tD⟩=tB (tP m.sA m.ss.length m.sC)
 m1:W.cell? ⟨N,1,tD⟩=tB (tP m.fA m.fs.length m.fC)
 gr:W.heap[N+1]?=tB (ua #[tM g.c.nm,Z U g.c.par,tP ao g.vs.length g.c.varsC,tU g.c.rp,tM g.c.rto,Z U g.c.rcl,tP g.c.fromA g.c.nfrom g.c.fromC,tP g.c.insA g.c.ins.length g.c.insC] 38 (0,0))
 ir:W.heap[N+2]?=tB (ua #[Z U i.op,Z U i.d,Z U i.a,Z U i.b,Z U i.f,Z U i.n,tM i.sign,i.argsV,i.modeV,Z U i.tI,Z U i.els,Z U i.ln,Z U i.cl] 42 (0,0))
theorem Bx.g2 {m:Mo}{g:Fn}{i:Ins}{d:eA Addr}{N:bx}{W:World}(h:Bx m g i d N W):W.cell? ⟨N+1,2,tD⟩=tB (tP d g.vs.length g.c.varsC):=by rw[cc _ _ _ _ _ _ h.gr];rfl
theorem Bx.g3 {m:Mo}{g:Fn}{i:Ins}{d:eA Addr}{N:bx}{W:World}(h:Bx m g i d N W):W.cell? ⟨N+1,3,tD⟩=tB (tU g.c.rp):=by rw[cc _ _ _ _ _ _ h.gr];rfl
theorem Bx.g4 {m:Mo}{g:Fn}{i:Ins}{d:eA Addr}{N:bx}{W:World}(h:Bx m g i d N W):W.cell? ⟨N+1,3+1,tD⟩=tB (tM g.c.rto):=by rw[cc _ _ _ _ _ _ h.gr];rfl
theorem Bx.g7 {m:Mo}{g:Fn}{i:Ins}{d:eA Addr}{N:bx}{W:World}(h:Bx m g i d N W):W.cell? ⟨N+1,7,tD⟩=tB (tP g.c.insA g.c.ins.length g.c.insC):=by rw[cc _ _ _ _ _ _ h.gr];rfl
theorem Bx.i0 {m:Mo}{g:Fn}{i:Ins}{d:eA Addr}{N:bx}{W:World}(h:Bx m g i d N W):W.cell? ⟨N+2,0,tD⟩=tB (Z U i.op):=by rw[cc _ _ _ _ _ _ h.ir];rfl
theorem Bx.i2 {m:Mo}{g:Fn}{i:Ins}{d:eA Addr}{N:bx}{W:World}(h:Bx m g i d N W):W.cell? ⟨N+2,2,tD⟩=tB (Z U i.a):=by rw[cc _ _ _ _ _ _ h.ir];rfl
theorem Bx.i3 {m:Mo}{g:Fn}{i:Ins}{d:eA Addr}{N:bx}{W:World}(h:Bx m g i d N W):W.cell? ⟨N+2,3,tD⟩=tB (Z U i.b):=by rw[cc _ _ _ _ _ _ h.ir];rfl
theorem Bx.i4 {m:Mo}{g:Fn}{i:Ins}{d:eA Addr}{N:bx}{W:World}(h:Bx m g i d N W):W.cell? ⟨N+2,4,tD⟩=tB (Z U i.f):=by rw[cc _ _ _ _ _ _ h.ir];rfl
theorem Bx.i6 {m:Mo}{g:Fn}{i:Ins}{d:eA Addr}{N:bx}{W:World}(h:Bx m g i d N W):W.cell? ⟨N+2,6,tD⟩=tB (tM i.sign):=by rw[cc _ _ _ _ _ _ h.ir];rfl
theorem Bx.i9 {m:Mo}{g:Fn}{i:Ins}{d:eA Addr}{N:bx}{W:World}(h:Bx m g i d N W):W.cell? ⟨N+2,9,tD⟩=tB (Z U i.tI):=by rw[cc _ _ _ _ _ _ h.ir];rfl
theorem Bx.i10 {m:Mo}{g:Fn}{i:Ins}{d:eA Addr}{N:bx}{W:World}(h:Bx m g i d N W):W.cell? ⟨N+2,10,tD⟩=tB (Z U i.els):=by rw[cc _ _ _ _ _ _ h.ir];rfl
theorem dI {w:World}{b:bx}{d:da cd}{t:gx}(h:w.heap[b]?=tB (ua d t (0,0))):∀j u,d.toList[j]?=tB u->w.cell? ((⟨b,0,tD⟩:Addr).add j)=tB u:=by
 intro j u f;rw[dc,cV,cc _ _ _ _ _ _ h];rw[<-f,po]
theorem fU {m:Mo}{g:Fn}{i:Ins}{w:World}(h:oJ w m g)(hi:i.args_in w)(ue:i.args.length<=40):∃u N q,w.heap.size=N/\q.heap.size=N+3/\
  ((w.alloc (ua m.cells 25)).alloc (ua (gc g u) 38)).alloc (ua i.cells 42)=q/\cm (w.heap.size=N)/\cm (q.heap.size=N+3)/\cm (g.cells=gc g u)/\cm (g.c.varsA=u)/\
  cm (∀W,bh (N+3) q W->Bx m g i u N W)/\cm (∀W,bh (N+3) q W->bh N w W)/\cm (∀W,bh (N+3) q W->oJ W m g)/\cm (∀W,bh (N+3) q W->i.args_in W)/\
  cm (∀W A D (xs:bm bp),xs.length<=42->aA W A xs->zP 87 #[tW #[tM g.c.nm,Z U g.c.par,tP u g.vs.length g.c.varsC,tU g.c.rp,tM g.c.rto,Z U g.c.rcl,tP g.c.fromA g.c.nfrom g.c.fromC,tP g.c.insA g.c.ins.length g.c.insC],tP A xs.length D] W (tU (aJ g.vs.length xs)))/\
  cm (∀W,zP 86 #[tW #[Z U i.op,Z U i.d,Z U i.a,Z U i.b,Z U i.f,Z U i.n,tM i.sign,i.argsV,i.modeV,Z U i.tI,Z U i.els,Z U i.ln,Z U i.cl]] W (.tuple #[Z U (aX i).1,tU (aX i).2]))/\
  cm (∀W,bh (N+3) q W->gd ac 88 #[tW #[Z U i.op,Z U i.d,Z U i.a,Z U i.b,Z U i.f,Z U i.n,tM i.sign,i.argsV,i.modeV,Z U i.tI,Z U i.els,Z U i.ln,Z U i.cl]] W (lJ W (readsOf i)))/\cm ((readsOf i).length<=42):=by
 obtain⟨u,ur⟩:=zE g.c.varsA;have J:=kz h.nv ur;obtain⟨N,G⟩:=zE w.heap.size;obtain⟨q,uv⟩:=zE (((w.alloc (ua m.cells 25)).alloc (ua g.cells 38)).alloc (ua i.cells 42));obtain⟨ux,uc,r0,r1,r2⟩:=Di uv;rw[G] at ux uc r0 r1 r2;rw[J] at r1;have vc:cm (∀W,bh (N+3) q W->Bx m g i u N W):=λW v=>by
  have q0:=(v.block N (by omega)).trans r0;exact⟨by rw[cc _ _ _ _ _ _ q0];rfl,by rw[cc _ _ _ _ _ _ q0];rfl,(v.block (N+1) (by omega)).trans r1,(v.block (N+2) (by omega)).trans r2⟩
 have ud:cm (∀W,bh (N+3) q W->bh N w W):=λW v=>ux.trans (v.mono (by omega));have HJ:cm (∀W,bh (N+3) q W->oJ W m g):=λW v=>h.below (by rw[G];exact ud.out W v);have va:cm (∀W,bh (N+3) q W->i.args_in W):=λW v=>by
  obtain⟨h1,u,cap,h2,h3⟩:=hi;exact⟨h1,u,cap,h2,aK.grow h3 (by rw[G];exact ud.out W v)⟩
 have vd:=hi.1;have vf:cm (∀W A D (xs:bm bp),xs.length<=42->aA W A xs->zP 87 #[tW #[tM g.c.nm,Z U g.c.par,tP u g.vs.length g.c.varsC,tU g.c.rp,tM g.c.rto,Z U g.c.rcl,tP g.c.fromA g.c.nfrom g.c.fromC,tP g.c.insA g.c.ins.length g.c.insC],tP A xs.length D] W (tU (aJ g.vs.length xs))):=λW A D xs hx vh=>by
  have:=BD g W A D xs h.nv (by unfold dT;omega) vh;rw[J] at this;exact this
 have vi:cm (∀W,zP 86 #[tW #[Z U i.op,Z U i.d,Z U i.a,Z U i.b,Z U i.f,Z U i.n,tM i.sign,i.argsV,i.modeV,Z U i.tI,Z U i.els,Z U i.ln,Z U i.cl]] W (.tuple #[Z U (aX i).1,tU (aX i).2])):=λW=>qZ i W vd;have vj:cm (∀W,bh (N+3) q W->gd ac 88 #[tW #[Z U i.op,Z U i.d,Z U i.a,Z U i.b,Z U i.f,Z U i.n,tM i.sign,i.argsV,i.modeV,Z U i.tI,Z U i.els,Z U i.ln,Z U i.cl]] W (lJ W (readsOf i))):=λW v=>sJ i W (va.out W v) ue;have vm:=zH ue;have vp:cm ((readsOf i).length<=42):=by
  unfold cm readsOf;simp only[cw];have:(if oH i.op=tE then[i.a] else[]).length<=1:=by split<;>simp
  have:(if rz i.op=tE then[i.b] else[]).length<=1:=by split<;>simp
  have:(if i.op=15 then i.args else[]).length<=40:=by split<;>first|exact vm.out|simp
  omega
 exact⟨u,N,q,G,uc,by rw[<-uv,J],G,uc,J,ur,vc,ud,HJ,va,vf,vi,vj,vp⟩
theorem gq {g:Fn}{i:Ins}(A:¬i.op<1)(D:¬18<i.op):∃f q u,decide (i.op<1)=tG/\decide (18<i.op)=tG/\cm (¬(i.op<1\/18<i.op))/\cm (aJ g.vs.length [i.d]=q)/\cm (aJ g.vs.length (readsOf i)=u)/\cm (nZ i.op=f)/\
  cm (aX i=if f=tE then(i.d,tE) else(0,tG))/\cm (aJ g.vs.length (readsOf i++(if nZ i.op=tE then[i.d] else[]))=(u&&(!f||q))):=by
 obtain⟨f,v⟩:=zE (nZ i.op);obtain⟨q,G⟩:=zE (aJ g.vs.length [i.d]);obtain⟨u,J⟩:=zE (aJ g.vs.length (readsOf i));refine⟨f,q,u,cL A,cL D,λh=>h.elim A D,G,J,v, ?_, ?_⟩
 ·unfold cm aX;rw[v]
 ·unfold cm
  rw[dM,J,v];cases f with
  |true=>rw[cR rfl,G];rfl
  |false=>rw[cE (by simp)];simp[aJ]
theorem eG {m:Mo}{g:Fn}{i:Ins}{R:bp}{f q u:nj}(v:cm (aD m g i=R))(A:cm (¬(i.op<1\/18<i.op)))(D:cm (aJ g.vs.length (readsOf i++(if nZ i.op=tE then[i.d] else[]))=(u&&(!f||q))))(h:(u&&(!f||q))=tE):
  R=if i.op=15 then iG m g.vs i else if i.op=16 then bM (isVar g.c.ins.length i.tI) 15 else if i.op=17 then(if isVar g.c.ins.length i.tI&&isVar g.c.ins.length i.els then dX g.vs [i.a] else 15) else if i.op=18 then bM (az g.vs i.a==g.ret) 7 else ay m g.vs i:=by
 rw[<-v.out];unfold aD;rw[cE A.out,cE (by rw[D.out,h];simp)]
theorem vF (m:Mo)(g:Fn)(i:Ins)(w:World)(h:oJ w m g)(A:i.args_in w)(D:i.args.length<=40)(uv:∀v,isVar g.vs.length v=tE->m.known (az g.vs v)=tE)(ux:i.op<1\/18<i.op):
  zP 49 #[tW m.cells,tW g.cells,tW i.cells] w (Z U (aD m g i)):=by
 obtain⟨ao,N,f,hN,va,q,G,vm,vc,vp,J,vd,HJ,vq,vr,vf,vu,vx⟩:=fU h A D;rw[vc.out];simp only[Mo.cells,gc,Ins.cells] at q⊢;have uc:=zH q;obtain⟨R,u⟩:=zE (aD m g i);rw[u];have HR:=zH u;have ud:cm (R=3):=by unfold cm;rw[<-HR.out];unfold aD;rw[cR ux]
 have ue:=J.out f (aq _ _);have vh:=zH ue.ir;clear h A D uv q u;have vi:f.heap.size=N+3:=va;go_enter func49,tp
 go_upto_region 1 with(fail)
 rw[uc.out];clear uc ue hN
 go_upto_region 2 with(first
  |(refine ci rfl 42 _ rfl (N+2) rfl 42 _ (0,0) _ vh.out cJ rfl (by kernel_rfl) ?_)
  |(go_at_call 86;refine(vf.out _).mono ?_;rintro e w2 ⟨rfl,d⟩;have vj:=zH d;clear d))
 have d:bh (N+3) f w2:=by have:=vj.out;rwa [vi] at this
 have i0:=(J.out w2 d).i0;have ur:=zH (vd.out w2 d)
 by_cases h1:i.op<1
 ·have o1:decide (i.op<1)=tE:=ef h1
  go_wp2;go_ret;rw[ud.out,G.out];exact⟨rfl,ur.out⟩
 ·have o1:decide (i.op<1)=tG:=cL h1
  have h2:18<i.op:=by omega
  have o2:decide (18<i.op)=tE:=ef h2;go_wp2;go_ret;rw[ud.out,G.out];exact⟨rfl,ur.out⟩
end Go.Proofs.YtjomgckjhcfbgaaGreat
