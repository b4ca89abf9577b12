/- Walks. -/
import Derived.BigQuiet
import Derived.Laws.StructEq
import Derived.Test.YtjomgckjhcfbgaaGreatY22
set_option maxRecDepth 100000
set_option maxHeartbeats 64000000
set_option linter.all false
namespace Go.Proofs.YtjomgckjhcfbgaaGreat
open Go.RowKit
open Go.Proofs.Tryz renaming prog→ac,underlying3→dj,underlying35→iu,underlying67→oR,ntmps38→pk,ntmps45→pl,func38→pD,func45→pH
open _root_.List renaming getElem?_eq_getElem→am,getElem?_eq_some_iff→ap,setIfInBounds_toArray→aw,set_cons_zero→bt,set_cons_succ→bw,length_append→cw,take_length→de,mem_map→dy,length_map→ei,range→ej,getElem?_map→fj,map_append→fL,mem_range→jn,eq_nil_iff_forall_not_mem→j9,length_filter_le→ki,any_eq_true→kq,length_range→ml,getElem?_eq_none→my,mem_filter→mz,take_add_one→mT,pairwise_map→nh,filter_append→ra
open Go.RowKit.Below renaming refl→aq
open Go.RowKit renaming Below→bh,Hid→cm
open _root_.Array renaming getElem?_eq_some_iff→bj
open _root_.Nat renaming lt_of_lt_of_le→bl,le_refl→ce,zero_le→cN,zero_add→cV
open _root_ renaming List→bm,Int→bp,Nat→bx,if_neg→cE,if_pos→cR,Array→da,Option→eA,absurd→fW,False→mb,beq_iff_eq→mN,Bool→nj
open Go renaming cell_of_row→cc,Value→cd,bodyPost_ret→dv,maxLen→dT,results_none→fa,run_underlying→fN,Calls→gd,info_parts→gA,wpListIn_nil→ju,Program→km,bodyPost_end→kA,below_drewN→lB,wpIn_region_lit→m8,wpIn_wide→pT
open Go.Value renaming oneCell'→cj,int→eE,slice→tP,pointer→tR,bool→tU,agg→tW,int→Z
open _root_.Int renaming toNat_natCast→cP,ofNat→gw
open _root_.Prod.mk renaming injEq→cU
open Go.Exit renaming inBlock→db,noGoto_ret→iz
open Go.Act renaming put→dk
open _root_.Classical renaming byContradiction→er
open Go.Sem renaming run_bind→ft
open Go.Fence renaming wide→ge
open Go.Op renaming equalIn→gE
open Go.Result renaming andThen_ok→mA
open _root_.Std.Legacy.Range renaming forIn_eq_forIn_range'→oc,size→rm
open Go.Lib renaming hid→oS
open _root_.List.Pairwise renaming filter→sY
open _root_.Option renaming some→tB,none→tD
open _root_.Bool renaming true→tE,false→tG
open Go.Obj renaming cells→ua
open Go.Ending renaming returned→ub
open Go.IntKind renaming i64→U
open Tryz
theorem DT {P:km}{α:Type}{g:Operand}{A:da Tmp}{assign body:Code}{R:Exit->Act->World->Prop}{id:bx}{a:Act}{w:World}{gf:bx}{lb:da cd}{fn:Func}{fb:Code}
  (hg:a.eval g= .func (.func gf) #[] lb)(hf:P.funcs[gf]?=tB fn)(ud:(fn.name=="runtime.NumGoroutine")=tG)(hb:fn.body=tB fb)
  {G:α->da cd}{xs:bm α}{Rd:bx->Prop}{J:World}(ue:Iter P gf lb G xs Rd J)(ur:bh J.heap.size J w)(hRd:∀k,Rd k->k<w.heap.size)(uv:∀x,(G x).size=A.size)
  (I:bm α->(bx->Prop)->World->Prop)(f:bm α->(bx->Prop)->World->Prop)
  (hI:∀d C W W',I d C W->Ext (λk=>w.heap.size<=k/\¬C k) W W'->I d C W')
  (hIC:∀d C W,I d C W->∀k,C k->k<W.heap.size/\¬Rd k)
  (hIx:∀d C W W',f d C W->Ext (λk=>w.heap.size<=k/\¬C k) W W'->f d C W')
  (C0:bx->Prop)(h0:I [] C0 w)
  (hround:∀(l:bx)(d:bm α)(x:α)(C:bx->Prop)(W:World),w.heap.size<=l->I d C W->(d++[x])<+:xs->
   assign.wpIn (ge.inRound l) 0 P (Exit.then (λa₁ W₁=>∃q:bx->Prop,(∀k,q k->C k\/W.heap.size<=k)/\I d q W₁/\Ext C W W₁/\
    ∀u,I d q u->Ext (·=l) W₁ u->body.wpIn (ge.inRound l) 0 P (wY I (λc d C W=>c= .exit id/\f d C W) q u (d++[x])) a₁ u) (λ_ _ _=>mb))
    {tmps:=(A.zip (G x)).foldl (λt (p,v)=>t.setIfInBounds p v) a.tmps,defers:=[]} W)
  (uc:∀(D:bx)(d:bm α)(C:bx->Prop)(W:World),w.heap.size<=D->¬C D->d<+:xs->((d=xs/\I d C W)\/f d C W)->W.heap[D]?=tB (.deferred (tB []))->R .normal {a with defers:=mark D::a.defers} W):
  (Code.rangeFunc g A assign body).wp P (db id R) a w:=by
 refine jX hg hf ud hb ue ur hRd uv I (λc d C W=>c= .exit id/\f d C W) hI hIC (λc d C W W' h hx=>⟨h.1,hIx d C W W' h.2 hx⟩) C0 h0 hround ?_ ?_
 ·intro D C W hD hC hi hd
  exact uc D xs C W hD hC List.prefix_rfl (.inl ⟨rfl,hi⟩) hd
 ·rintro D c d C W hD hC hp ⟨rfl,hx⟩ hd
  refine wp_exit ?_
  show(if id=id then R .normal _ _ else _)
  rw[cR rfl];exact uc D d C W hD hC hp (.inr hx) hd
section
open Go.RowKit Go.Maps
theorem pO (w:World)(d:eA Addr)(n c:bx):
  gd ac 82 #[tP d n c] w λe w'=>e= ub (.func (.func 125) #[] #[tR (tB ⟨w.heap.size,0,tD⟩)])/\w.alloc (ua #[tP d n c] 35)=w':=by
 have f:∀(fn:Go.Fn)(first cap:da cd)(w:World),(Instr.makeFunc fn first cap).run ac w= .ok (.func fn first cap) w:=λ_ _ _ _=>rfl;go_enter func82,ntmps82;go_wp2;go_ret;exact⟨rfl,rfl⟩
def Fb (P:World->cd->Prop)(w:World)(e:Ending)(w':World):Prop:=
 ∃D v,e= ub (.func (.func 125) #[] #[tR (tB ⟨D,0,tD⟩)])/\w.heap.size<=D/\w'.heap[D]?=tB (ua #[v] 35 (0,0))/\P w' v/\bh w.heap.size w w'
section
variable {T HM FM GM:bx}{m:Mo}{B:bx}{tg tg1:bx->PT}{s s1:yx}{p p1 p':PS}{w w1 w':World}
theorem vQ (w:World)(r:eA Addr)(f v:bp)(d:f<0\/v<0):gd ac 39 #[.pointer r,Z U f,Z U v] w (Fb (λ_ v=>v= tP tD 0 0) w):=by
 have u:=zH (nJ w r f v d);clear d;go_enter func39,ntmps39
 go_wp2_with (first
  |(go_at_call 44;refine u.out.mono ?_;rintro e w2 ⟨rfl,rfl⟩)
  |(go_at_call 82;refine(pO _ _ _ _).mono ?_;rintro e A ⟨rfl,h⟩;have q:=zH h;clear h))
 go_ret;refine⟨w.heap.size,_,rfl,ce _,by rw[<-q.out];exact alloc_at _ _,rfl,by rw[<-q.out];exact(aq _ _).alloc (ce _) _⟩
theorem yJ (w:World)(h:Pm T HM FM GM m B tg s p w)(f v:bp)(A:0<=f/\0<=v)(D:gT (av f v))(G:∀n x,(n,x)∈p.H->x<=900000):
  gd ac 39 #[tR (tB ⟨T,0,tD⟩),Z U f,Z U v] w (Fb (λw' u=>∃l d cap,u= tP d l.length cap/\rD w' w.heap.size u p.H (av f v) l) w):=by
 have HV:=zH (kW w h f v A D G);clear h A D G;go_enter func39,ntmps39
 go_wp2_with (first
  |(go_at_call 44;refine HV.out.mono ?_;rintro e w2 ⟨l,d,cap,rfl,J,uc⟩;have q:=zH uc;have ud:=zH J;clear uc J)
  |(go_at_call 82;refine(pO _ _ _ _).mono ?_;rintro e w3 ⟨rfl,ue⟩;have ur:=zH ue;clear ue))
 go_ret;have uv:bh w2.heap.size w2 w3:=by rw[<-ur.out];exact(aq _ _).alloc (ce _) _
 refine⟨w2.heap.size,_,rfl,q.out.size,by rw[<-ur.out];exact alloc_at _ _,⟨l,d,cap,rfl,⟨?_,ud.out.2⟩⟩,q.out.trans (uv.mono q.out.size)⟩;exact af ud.out.1 (Ext.of_below_size (M:=λ_=>mb) uv) (λ_ _ h=>h)
end
end
def yK (B:bx)(d:eA Addr)(k:bx):Prop:=k=B\/∃a,d=tB a/\a.block=k
theorem Gi (B cap base:bx)(d:eA Addr)(xs:bm bp)(w:World)(hb:w.heap[B]?=tB (ua #[tP d xs.length cap] 35 (0,0)))(ho:aT w base (tP d xs.length cap) xs)(hn:xs.length<=1000000):
  Iter ac 125 #[tR (tB ⟨B,0,tD⟩)] BN xs (yK B d) w:=by
 intro l J Jx C W A hst ur hstx uv hJ;have hB:B<w.heap.size:=(bj.1 hb).1;have vi:=zH ur;have HM:=zH uv;have HJ:=zH hJ;have HR:cm (∀D C q,J D C q->Ext (λk=>¬yK B d k) W q->q.cell? ⟨B,0,tD⟩=tB (tP d xs.length cap)/\∀i z,xs[i]?=tB z->∃g,d=tB ⟨g,0,tD⟩/\g<q.heap.size/\q.cell? ⟨g,i,tD⟩=tB (Z U z)):=by
  intro D C q _ f;have vj:W.heap[B]?=tB (ua #[tP d xs.length cap] 35 (0,0)):=(A.block B hB).trans hb;refine⟨by rw[cc _ _ _ _ _ _ (f.heap vj (λh=>h (.inl rfl)))];rfl,λi z hi=> ?_⟩;obtain⟨g,rfl,vy,ux,vm⟩:=ho.shape (by have:=(ap.1 hi).1;omega);refine⟨g,rfl,bl (bl ux A.size) f.size, ?_⟩;rw[f.cell (a:=⟨g,i,tD⟩) (by have:=A.size;show g<_;omega) (λh=>h (.inr ⟨_,rfl,rfl⟩)),A.cell (p:=⟨g,i,tD⟩) ux];exact vm i _ hi
 have we:=(HR.out [] C W hJ (Ext.refl _ _)).1;clear hst ur hstx uv hJ hb ho A
 show gd _ _ #[.func (.yield l) #[] #[],tR (tB ⟨B,0,tD⟩)] _ _
 go_enter func125,ntmps125
 go_wp2_with fail
 go_loopw [7] (λi wr=>∃(j:bx) (C:bx->Prop),j<=xs.length/\i= Z U (j:bp)/\J (xs.take j) C wr/\Ext (λk=>¬yK B d k) W wr) (λi _=>xs.length-(intOf i).toNat)
 case atStart=>exact⟨0,C,cN _,rfl,by simpa using HJ.out,Ext.refl _ _⟩
 case round=>
  obtain⟨j,C1,hj,rfl,u,ud⟩:=hrel
  by_cases vp:j<xs.length
  ·obtain⟨va,vc⟩:=HR.out _ _ _ u ud
   obtain⟨x,f⟩:∃x,xs[j]?=tB x:=⟨_,am vp⟩
   obtain⟨g,vq,hg,vd⟩:=vc j x f;subst vq;have wg:(j:bp)<(xs.length:bp):=by omega
   have HP:cm (xs.take (j+1)=xs.take j++[x]):=by unfold cm;rw[mT,f];rfl
   have vf:=zH (HM.out (xs.take j) x C1 wr u (by rw[<-HP.out];exact List.take_prefix _ _));unfold BN at vf;have vr:=zH ud;have ue:=zH u;clear ud u vc f
   go_upto_region 3 with(fail)
   refine(pT (n:=0)).1 ?_;refine m8 (aB rfl (by simp) (.func (.yield l) #[] #[]) (w':=wr) (by simp[go_sem]) ?_);simp only[dk,aw,bt,bw];refine aB rfl (by simp) (Z U x) (w':=wr) (by simp[go_sem]) ?_;simp only[dk,aw,bt,bw];refine eU (fv:= .func (.yield l) #[] #[]) (args:=#[Z U x]) rfl (.tmp 11) #[.tmp 12] _ rfl rfl (by simp[Act.eval]) vf.out ?_;intro v G hv;simp only[dk,aw,bt,bw];rcases hv with⟨rfl,C',vu,uc,vh⟩|⟨rfl,uc⟩
   ·refine aB rfl (by simp) (tU tG) (w':=G) (by simp[go_sem]) ?_
    simp only[dk,aw,bt,bw];refine ju ?_;have HN:cm (J (xs.take (j+1)) C' G/\Ext (λk=>¬yK B (tB ⟨g,0,tD⟩) k) W G):=
     ⟨by rw[HP.out];exact uc,vr.out.trans vh (λk hk=> .inl ((vi.out _ _ _ ue.out k hk).2))⟩
    clear uc vh vu va vd;go_wp2;go_roundw
    case rel=>exact⟨j+1,C',by omega,by go_num,HN.out.1,HN.out.2⟩
    case measure=>simp[intOf];omega
   ·refine aB rfl (by simp) (tU tE) (w':=G) (by simp[go_sem]) ?_
    simp only[dk,aw,bt,bw];refine ju ?_;have HF:cm (∃D,D<+:xs/\Jx D G):=⟨xs.take (j+1),List.take_prefix _ _,by rw[HP.out];exact uc⟩
    clear uc va vd;go_wp2
    ((try simp only[db,Exit.then]);(try rw[iz]);(first|refine dv (fa rfl _ _ _) rfl ?_|refine kA (fa rfl _ _ _) rfl ?_));exact⟨_,rfl,.inr HF.out⟩
  ·have vx:j=xs.length:=by omega
   subst vx;have ue:=zH u;clear u ud;go_wp2
   ((try simp only[db,Exit.then]);(try rw[iz]);(first|refine dv (fa rfl _ _ _) rfl ?_|refine kA (fa rfl _ _ _) rfl ?_));exact⟨_,rfl,.inl ⟨C1,by have:=ue.out;rwa [de] at this⟩⟩
theorem Ce:(ac.info? 3).map (λi=>(i.zero,i.size,i.bytes))=tB (tB (Z U 0),1,8):=by kernel_rfl
def lg (w:World)(l:bm bx)(e:Ending)(w':World):Prop:=∃v,e= ub v/\w'.ownsRow w.heap.size 3 1 v l.length (l.map λy:bx=>eE .i64 (y:bp))/\bh w.heap.size w w'
theorem wW (z:bx->nj)(j:bx):(ej (j+1)).filter z=(ej j).filter z++(if z j=tE then[j] else[]):=by
 rw[List.range_succ,ra];congr 1
 by_cases h:z j=tE
 ·simp[h]
 ·simp[h]
theorem jV (w:World)(b P:bx)(z:bx->nj)(vp:P<=90000)(hz:aL w b P z):
  gd ac 81 #[tP (tB ⟨b,0,tD⟩) P P] w (lg w ((ej P).filter z)):=by
 obtain⟨d,A⟩:=zE w.heap.size;have ue:b<d:=by rw[<-A];exact aC.lt hz
 have ur:cm (∀W,bh d w W->(∀v,v<P->W.cell? ⟨b,v,tD⟩=tB (tU (z v)))/\b<W.heap.size):=λW hW=>by
  refine⟨λv hv=> ?_,by have:=hW.size;omega⟩;rw[hW.cell (p:=⟨b,v,tD⟩) ue];exact aL.cell hz hv
 obtain⟨i0,uv,ux,va,vc⟩:=gA Ce;unfold lg;rw[A];clear hz;go_enter func81,ntmps81;go_wp2
 go_loopw [3,4] (λv c wr=>∃(j:bx) (l:bm bx),j<=P/\c= Z U (j:bp)/\l=(ej j).filter z/\wr.ownsRow d 3 1 v l.length (l.map λy:bx=>eE .i64 (y:bp))/\bh d w wr) (λ_ c _=>P-(intOf c).toNat)
 case atStart=>exact⟨0,[],cN _,rfl,rfl,World.ownsRow_nil _ _ _ _,by rw[<-A];exact aq _ _⟩
 case round=>
  obtain⟨j,l,hj,rfl,q,u,f⟩:=hrel
  by_cases vd:j<P
  ·have vf:(j:bp)<(P:bp):=by omega
   obtain⟨hc,vq⟩:=ur.out wr f;have c0:=hc j vd;obtain⟨ao,cap,rfl⟩:=ai u;have vr:l.length<=j:=by
    have:=ki z (ej j);rw[<-q,ml] at this;exact this
   have vh:=f.size;rw[A] at vh;obtain⟨D,hD⟩:=zE wr.heap.size;have uc:=zH u;have G:=zH q;have J:=zH f;clear u q f hc;cases h:z j with
   |true=>
    have ud:cm ((ej (j+1)).filter z=l++[j]):=by unfold cm;rw[wW,h,<-G.out];rfl
    rw[h] at c0;clear h
    go_wp2_with (at_builtin;refine bW rfl (.tmp 15) (.tmp 17) 35 rfl d 3 i0 _ 1 8 iu uv ux va vc rfl (by decide) (tP ao l.length cap) l.length (l.map λy:bx=>eE .i64 (y:bp)) rfl uc.out D #[Z U (j:bp)] hD.symm rfl rfl (by simp[cj]) (by unfold dT;omega) (by omega) (by omega) ?_;intro v9 w9 o9 x9 b9;have vi:=zH o9;have vj:cm (bh d w w9):=J.out.trans (x9.below (by omega) (λk hk=>(uc.out.lt k hk).1));clear o9 x9 b9)
    go_roundw
    case rel=>exact⟨j+1,l++[j],by omega,by go_num,ud.out.symm,by rw[cw,fL];exact vi.out,vj.out⟩
    case measure=>simp[intOf];omega
   |false=>
    have ud:cm ((ej (j+1)).filter z=l):=by unfold cm;rw[wW,h,<-G.out];simp
    rw[h] at c0;clear h;go_wp2;go_roundw
    case rel=>exact⟨j+1,l,by omega,by go_num,ud.out.symm,uc.out,J.out⟩
    case measure=>simp[intOf];omega
  ·have vm:j=P:=by omega
   subst vm;have vf:¬(j:bp)<(j:bp):=by omega
   have HO:=zH u;have J:=zH f;have G:=zH q;clear u f q;go_wp2;go_ret;exact⟨_,rfl,by rw[<-G.out];exact HO.out,J.out⟩
section
variable {m:Mo}{n S B:bx}{sv vv rv gv:cd}{vt gt:bm (cd×bm bx)}{rl:bm bx}{x:X3}{tag:Tag}
theorem uo (w:World)(h:eQ w m n S B sv vv rv gv vt gt rl x tag)(hn:n<=90000){f v b:bx}{r:cd×bm bx}(d:vt[f]?=tB r)(q:r.2[v]?=tB b):
  gd ac 38 #[tR (tB ⟨S,0,tD⟩),Z U (f:bp),Z U (v:bp)] w (lg w ((ej n).filter (x f v))):=by
 obtain⟨VA,cv,g,cg,A,uc,ud,hg,ue,u,_⟩:=h.vars.at_ d q;rw[cV] at u;have s1:w.cell? ⟨S,1,tD⟩=tB (tP (tB ⟨VA,0,tD⟩) vt.length cv):=by rw[<-A];exact zR h.rec_ 1 _
 have sl:=ae h.rec_;have hf:=(ap.1 d).1;have hv:=(ap.1 q).1;have ur:(f:bp)<(vt.length:bp):=by omega
 have uv:(v:bp)<(r.2.length:bp):=by omega
 have ux:¬(f:bp)<0:=by omega
 have va:¬(v:bp)<0:=by omega
 have vc:¬(f:bp)≥(vt.length:bp):=by omega
 have vd:¬(v:bp)≥(r.2.length:bp):=by omega
 have HL:=zH (jV w b n (x f v) hn u);clear h d q u A;go_enter pD,pk
 go_wp2_with (go_at_call 81;refine HL.out.mono ?_;rintro e w2 ⟨D,rfl,G,J⟩;have HF:cm (lg w ((ej n).filter (x f v)) (ub D) w2):=⟨D,rfl,G,J⟩;clear G J)
 go_ret;exact HF.out
theorem pQ (w:World)(h:eQ w m n S B sv vv rv gv vt gt rl x tag)(G:n<=90000){f b:bx}(d:rl[f]?=tB b):
  gd ac 43 #[tR (tB ⟨S,0,tD⟩),Z U (f:bp)] w (lg w ((ej n).filter (x 1000000 f))):=by
 obtain⟨g,J,q,hg,uc,u,_⟩:=h.resAt d;have s1:w.cell? ⟨S,2,tD⟩=tB (tP (tB ⟨g,0,tD⟩) rl.length J):=by rw[<-q];exact zR h.rec_ 2 _
 have sl:=ae h.rec_;have hf:=(ap.1 d).1;have ud:(f:bp)<(rl.length:bp):=by omega
 have ue:¬(f:bp)<0:=by omega
 have ur:¬(f:bp)≥(rl.length:bp):=by omega
 have HL:=zH (jV w b n (x 1000000 f) G u);clear h d u q;go_enter func43,ntmps43
 go_wp2_with (go_at_call 81;refine HL.out.mono ?_;rintro e w2 ⟨v,rfl,A,D⟩;have HF:cm (lg w ((ej n).filter (x 1000000 f)) (ub v) w2):=⟨v,rfl,A,D⟩;clear A D)
 go_ret;exact HF.out
theorem qo (w:World)(h:eQ w m n S B sv vv rv gv vt gt rl x tag)(hn:n<=90000){f v b:bx}{r:cd×bm bx}(d:gt[f]?=tB r)(q:r.2[v]?=tB b):
  gd ac 45 #[tR (tB ⟨S,0,tD⟩),Z U (f:bp),Z U (v:bp)] w (lg w ((ej n).filter (x (2000000+f) v))):=by
 obtain⟨VA,cv,g,cg,u,uc,ud,hg,ue,A,_⟩:=h.flds.at_ d q;have s1:w.cell? ⟨S,3,tD⟩=tB (tP (tB ⟨VA,0,tD⟩) gt.length cv):=by rw[<-u];exact zR h.rec_ 3 _
 have sl:=ae h.rec_;have hf:=(ap.1 d).1;have hv:=(ap.1 q).1;have ur:(f:bp)<(gt.length:bp):=by omega
 have uv:(v:bp)<(r.2.length:bp):=by omega
 have ux:¬(f:bp)<0:=by omega
 have va:¬(v:bp)<0:=by omega
 have vc:¬(f:bp)≥(gt.length:bp):=by omega
 have vd:¬(v:bp)≥(r.2.length:bp):=by omega
 have HL:=zH (jV w b n (x (2000000+f) v) hn A);clear h d q A u;go_enter pH,pl
 go_wp2_with (go_at_call 81;refine HL.out.mono ?_;rintro e w2 ⟨D,rfl,G,J⟩;have HF:cm (lg w ((ej n).filter (x (2000000+f) v)) (ub D) w2):=⟨D,rfl,G,J⟩;clear G J)
 go_ret;exact HF.out
theorem nN (w:World)(h:eQ w m n S B sv vv rv gv vt gt rl x tag){f v:bp}(A:f<0\/(vt.length:bp)<=f\/v<0\/∃(fn:bx) (r:cd×bm bx),f=(fn:bp)/\vt[fn]?=tB r/\(r.2.length:bp)<=v):
  zS 38 #[tR (tB ⟨S,0,tD⟩),Z U f,Z U v] w (tP tD 0 0):=by
 obtain⟨ao,cv,q⟩:=ai h.vars.own;have s1:w.cell? ⟨S,1,tD⟩=tB (tP ao vt.length cv):=by rw[<-q];exact zR h.rec_ 1 _
 have sl:=ae h.rec_
 by_cases c1:f<0
 ·clear h A q
  go_enter pD,pk;go_wp2;go_ret;exact⟨rfl,rfl⟩
 by_cases c2:(vt.length:bp)<=f
 ·have J:f≥(vt.length:bp):=c2
  clear h A q;go_enter pD,pk;go_wp2;go_ret;exact⟨rfl,rfl⟩
 by_cases c3:v<0
 ·have J:¬f≥(vt.length:bp):=c2
  clear h A q;go_enter pD,pk;go_wp2;go_ret;exact⟨rfl,rfl⟩
 obtain⟨fn,r,rfl,D,c4⟩:∃(fn:bx) (r:cd×bm bx),f=(fn:bp)/\vt[fn]?=tB r/\(r.2.length:bp)<=v:=by
  rcases A with d|d|d|d
  ·exact fW d c1
  ·exact fW d c2
  ·exact fW d c3
  ·exact d
 have uc:=h.vars.row fn r D;obtain⟨a2,ue,e2⟩:=ai uc.own;have G:=h.vars.own;rw[q] at G;obtain⟨VA,rfl,ur,ud⟩:=di G (j:=fn) (u:=r.1) (by rw[fj,D];rfl);rw[e2] at ud;have uv:=(ap.1 D).1;have ux:(fn:bp)<(vt.length:bp):=by omega
 have J:¬(fn:bp)≥(vt.length:bp):=c2;have va:v≥(r.2.length:bp):=c4;clear h A q G uc D e2;go_enter pD,pk;go_wp2;go_ret;exact⟨rfl,rfl⟩
theorem eQ.copy12 {w w':World}{d:bx}(h:eQ w m n S B sv vv rv gv vt gt rl x tag)(A:bh w.heap.size w w')(v:w'.heap[d]?=tB (ua #[sv,vv,rv,gv] 99 (0,0)))(D:w.heap.size<=d):∃tag',eQ w' m n d B sv vv rv gv vt gt rl x tag':=by
 have q:Ext (λ_=>mb) w w':=Ext.of_below_size A;have G:=h.low S (by rw[h.tS];simp);have u:∀k,k<w.heap.size->(λk=>if k=d then((5,0,0):bx×bx×bx) else tag k) k=tag k:=λk f=>cE (by omega);refine⟨λk=>if k=d then(5,0,0) else tag k,⟨v,af h.sites q (λ_ _ h=>h),h.vars.ext2 q (λ_ h=>h.elim) (by simp) u,h.res.ext q (λ_ h=>h.elim) u,h.flds.ext2 q (λ_ h=>h.elim) (by simp) u,cR rfl,λk f=>(u k (h.sites.lt k f).2).trans (h.ts k f),λk f=> ?_,h.lv⟩⟩
 by_cases e:k=d
 ·rw[e];exact⟨by omega,(bj.1 v).1⟩
 ·simp only[cE e] at f
  have:=h.low k f;exact⟨this.1,bl this.2 q.size⟩
end
theorem wX (a b:bm bx)(u:a.Pairwise (·<·))(v:b.Pairwise (·<·))(h:∀x,x∈a↔x∈b):a=b:=by
 have q:∀l:bm bx,l.Pairwise (·<·)->(l.map gw).Pairwise (·<·):=λl A=>nh.2 (A.imp (λh=>Int.ofNat_lt.2 h));have:=Ah (a.map gw) (b.map gw) (q a u) (q b v) (λx=>by
  constructor
  ·intro d
   obtain⟨y,f,rfl⟩:=dy.1 d;exact dy.2 ⟨y,(h y).1 f,rfl⟩
  ·intro d
   obtain⟨y,f,rfl⟩:=dy.1 d;exact dy.2 ⟨y,(h y).2 f,rfl⟩)
 exact(List.map_inj_right (λx y h=>Int.ofNat.inj h)).1 this
theorem uq {m:Mo}{n:bx}{x:X3}(h:∀d t y,pF m d t->y<n->(x.at_ d y=tE↔m.lf d y)){d:Nd}{t:Ty}(q:pF m d t){l:bm bx}(v:l.Pairwise (·<·))(A:∀y,y∈l↔m.lf d y)(u:∀y,m.lf d y->y<n):l=(ej n).filter (x (dm d).1 (dm d).2):=by
 refine wX _ _ v (sY _ List.pairwise_lt_range) λy=> ?_;rw[A,mz,jn];constructor
 ·intro f
  exact⟨u y f,(h d t y q (u y f)).2 f⟩
 ·rintro⟨D,G⟩
  exact(h d t y q D).1 G
theorem Fe (d:bx)(p q:bp)(W:World):(gE (d+1+1) 67 (tW #[Z U p,Z U q]) (tW #[Z U p,Z U q])).run ac W= .ok tE W:=by
 have f:∀w,(Go.sizeOf 3).run ac w= .ok 1 w:=Tryz.sizeOf3;have h:∀w,(isAgg 3).run ac w= .ok tG w:=Tryz.isAgg3;have u:∀(a b:bp)(w:World),(gE (d+1) 3 (Z U a) (Z U b)).run ac w= .ok (a==b) w:=λa b w=>run_equalIn_int w d 3 .i64 .i64 a b dj;have v:∀(a b:bp)(w:World),(part 3 #[Z U a,Z U b] 0).run ac w= .ok (Z U a) w:=λa b w=>by simp[part,ft,f,h]
 have A:∀(a b:bp)(w:World),(part 3 #[Z U a,Z U b] 1).run ac w= .ok (Z U b) w:=λa b w=>by simp[part,ft,f,h]
 rw[Op.equalIn.eq_def];simp only[ft,fN oR,mA,f];simp[oc,rm,List.range'_succ,ft,v,A,u]
theorem DU (p q:bp)(W:World):(binOp .neq 67 (tW #[Z U p,Z U q]) (tW #[Z U p,Z U q])).run ac W= .ok (tU tG) W:=by
 rw[run_neq_struct,show(10000:bx)=9998+1+1 from rfl,Fe];rfl
theorem qQ {w w':World}(h:bh w.heap.size w w'):∀m,bh w.heap.size w (w'.drewN m)
 |0=>h
 |m+1=>(qQ h m).drew
theorem ru (w:World)(p1 G c1 c2:bx)(f h:eA Addr)(l:bm (bp×bp))(hn:l.length<=90000)(u:w.ownsRow p1 67 2 (tP f l.length c1) l.length (l.flatMap pR))(v:w.ownsRow G 67 2 (tP h l.length c2) l.length (l.flatMap pR)):
  zP 40 #[tP f l.length c1,tP h l.length c2] w (tU tE):=by
 have J:=zH u;have H2:=zH v;clear u v;go_enter func40,ntmps40
 go_wp2_with fail
 go_loopw [5] (λc wr=>∃k:bx,k<=l.length/\c= Z U (k:bp)/\∃m,wr=w.drewN m) (λc _=>l.length-(intOf c).toNat)
 case atStart=>exact⟨0,cN _,rfl,0,rfl⟩
 case round=>
  obtain⟨k,hk,rfl,m,rfl⟩:=hrel
  by_cases uc:k<l.length
  ·have ue:(k:bp)<(l.length:bp):=by omega
   obtain⟨⟨p,q⟩,d⟩:∃p,l[k]?=tB p:=⟨_,am uc⟩
   obtain⟨A,rfl,_,d1⟩:=iI pR 2 (λ_=>rfl) J.out d;obtain⟨D,rfl,_,d2⟩:=iI pR 2 (λ_=>rfl) H2.out d;have d10:w.cell? ⟨A,k*2,tD⟩=tB (Z U p):=d1 0 _ rfl;have d11:w.cell? ⟨A,k*2+1,tD⟩=tB (Z U q):=d1 1 _ rfl;have d20:w.cell? ⟨D,k*2,tD⟩=tB (Z U p):=d2 0 _ rfl;have d21:w.cell? ⟨D,k*2+1,tD⟩=tB (Z U q):=d2 1 _ rfl;have ur:=DU p q;have uv:ac.eqGuardType ac.depth 67=tG:=by kernel_rfl
   clear d d1 d2
   go_wp2_with fail
   go_quiet (fail)
   go_wp2;go_roundw
   case rel=>exact⟨k+1,by omega,by go_num,_,rfl⟩
   case measure=>simp[intOf];omega
  ·have ud:k=l.length:=by omega
   subst ud;go_wp2;go_ret;exact⟨rfl,qQ (aq _ _) m⟩
theorem vR (w:World)(p1 D c1 c2:bx)(f h:eA Addr)(xs:bm bp)(hn:xs.length<=90000)(q:aT w p1 (tP f xs.length c1) xs)(u:aT w D (tP h xs.length c2) xs):
  gd ac 41 #[tP f xs.length c1,tP h xs.length c2] w λe w'=>e= ub (tU tE)/\∃m,w'=w.drewN m:=by
 have G:=oS q;have J:=oS u;clear q u;go_enter func41,ntmps41
 go_wp2_with fail
 go_loopw [5] (λc wr=>∃j:bx,j<=xs.length/\c= Z U (j:bp)/\∃m,wr=w.drewN m) (λc _=>xs.length-(intOf c).toNat)
 case atStart=>exact⟨0,cN _,rfl,0,rfl⟩
 case round=>
  obtain⟨j,hj,rfl,m,rfl⟩:=hrel
  by_cases uc:j<xs.length
  ·obtain⟨z,d⟩:∃z,xs[j]?=tB z:=⟨_,am uc⟩
   obtain⟨g1,rfl,_,ue,v⟩:=G.out.shape (by omega);obtain⟨g2,rfl,_,ur,A⟩:=J.out.shape (by omega);have d1:w.cell? ⟨g1,j,tD⟩=tB (Z U z):=v j z d;have d2:w.cell? ⟨g2,j,tD⟩=tB (Z U z):=A j z d;have uv:(j:bp)<(xs.length:bp):=by omega
   clear d v A;go_wp2
   go_quiet (fail)
   go_wp2;go_roundw
   case rel=>exact⟨j+1,by omega,by go_num,_,rfl⟩
   case measure=>simp[intOf];omega
  ·have ud:j=xs.length:=by omega
   subst ud;go_wp2;go_ret;exact⟨rfl,m,rfl⟩
theorem vS (w:World)(p1 h c1 c2:bx)(d f:eA Addr)(xs:bm bp)(q:xs.length<=90000)(u:aT w p1 (tP d xs.length c1) xs)(v:aT w h (tP f xs.length c2) xs):
  gd ac 41 #[tP d xs.length c1,tP f xs.length c2] w λe w'=>e= ub (tU tE)/\bh w.heap.size w w':=
 (vR w p1 h c1 c2 d f xs q u v).mono λ_ _ ⟨A,m,hm⟩=>⟨A,by rw[hm];exact lB (aq _ _) m⟩
section
variable {m:Mo}{n S B:bx}{sv vv rv gv:cd}{vt gt:bm (cd×bm bx)}{rl:bm bx}{x:X3}{tag:Tag}
theorem kG (w:World)(h:eQ w m n S B sv vv rv gv vt gt rl x tag){f:bp}(d:f<0\/(rl.length:bp)<=f):
  zS 43 #[tR (tB ⟨S,0,tD⟩),Z U f] w (tP tD 0 0):=by
 obtain⟨v,A,q⟩:=ai h.res.own;have s1:w.cell? ⟨S,2,tD⟩=tB (tP v rl.length A):=by rw[<-q];exact zR h.rec_ 2 _
 have D:=ae h.rec_
 by_cases c1:f<0
 ·clear h d q
  go_enter func43,ntmps43;go_wp2;go_ret;exact⟨rfl,rfl⟩
 have c2:(rl.length:bp)<=f:=by
  rcases d with u|u
  ·exact fW u c1
  ·exact u
 have G:f≥(rl.length:bp):=c2;clear h d q;go_enter func43,ntmps43;go_wp2;go_ret;exact⟨rfl,rfl⟩
theorem lD (w:World)(h:eQ w m n S B sv vv rv gv vt gt rl x tag){f v:bp}(A:f<0\/(gt.length:bp)<=f\/v<0\/∃(fn:bx) (r:cd×bm bx),f=(fn:bp)/\gt[fn]?=tB r/\(r.2.length:bp)<=v):
  zS 45 #[tR (tB ⟨S,0,tD⟩),Z U f,Z U v] w (tP tD 0 0):=by
 obtain⟨ao,cv,q⟩:=ai h.flds.own;have s1:w.cell? ⟨S,3,tD⟩=tB (tP ao gt.length cv):=by rw[<-q];exact zR h.rec_ 3 _
 have sl:=ae h.rec_
 by_cases c1:f<0
 ·clear h A q
  go_enter pH,pl;go_wp2;go_ret;exact⟨rfl,rfl⟩
 by_cases c2:(gt.length:bp)<=f
 ·have J:f≥(gt.length:bp):=c2
  clear h A q;go_enter pH,pl;go_wp2;go_ret;exact⟨rfl,rfl⟩
 by_cases c3:v<0
 ·have J:¬f≥(gt.length:bp):=c2
  clear h A q;go_enter pH,pl;go_wp2;go_ret;exact⟨rfl,rfl⟩
 obtain⟨fn,r,rfl,D,c4⟩:∃(fn:bx) (r:cd×bm bx),f=(fn:bp)/\gt[fn]?=tB r/\(r.2.length:bp)<=v:=by
  rcases A with d|d|d|d
  ·exact fW d c1
  ·exact fW d c2
  ·exact fW d c3
  ·exact d
 have uc:=h.flds.row fn r D;obtain⟨a2,ue,e2⟩:=ai uc.own;have G:=h.flds.own;rw[q] at G;obtain⟨VA,rfl,ur,ud⟩:=di G (j:=fn) (u:=r.1) (by rw[fj,D];rfl);rw[e2] at ud;have uv:=(ap.1 D).1;have ux:(fn:bp)<(gt.length:bp):=by omega
 have J:¬(fn:bp)≥(gt.length:bp):=c2;have va:v≥(r.2.length:bp):=c4;clear h A q G uc D e2;go_enter pH,pl;go_wp2;go_ret;exact⟨rfl,rfl⟩
end
def jW (w:World)(l:bm bx)(e:Ending)(w':World):Prop:=∃B d cap,e= ub (tP d l.length cap)/\aT w' B (tP d l.length cap) (l.map gw)/\bh w.heap.size w w'
theorem Ip {f:FuncId}{a:da cd}{w:World}(h:zP f a w (tP tD 0 0)):gd ac f a w (jW w []):=
 h.mono λ_ _ ⟨e,hb⟩=>⟨0,tD,0,e,aT.nil _ _,hb⟩
theorem lh {f:FuncId}{a:da cd}{w:World}(h:zS f a w (tP tD 0 0)):gd ac f a w (jW w []):=
 Ip (h.mono λ_ _ ⟨e,hb⟩=>⟨e,by rw[<-hb];exact aq _ _⟩)
theorem DV {f:FuncId}{a:da cd}{w:World}{H:bm (Nd×bx)}{q:Nd}{l:bm bx}(h:gd ac f a w (yB H q w))(u:∀d:bm bx,d.Pairwise (·<·)->(∀y,y∈d↔(q,y)∈H)->d=l):gd ac f a w (jW w l):=
 h.mono λ_ _ ⟨d,ao,cap,e,⟨h1,h2,h3⟩,hb⟩=>by
  obtain rfl:=u d h2 h3;exact⟨_,ao,cap,e,h1,hb⟩
theorem G9 {f:FuncId}{a:da cd}{w:World}{l:bm bx}(h:gd ac f a w (lg w l)):gd ac f a w (jW w l):=
 h.mono λ_ w' ⟨v,e,ho,hb⟩=>by
  obtain⟨d,cap,rfl⟩:=ai ho;refine⟨w.heap.size,d,cap,e, ?_,hb⟩;unfold aT;rw[ei,List.map_map];exact ho
theorem Ff {m:Mo}{f v:bp}{t:Ty}(h:pF m (av f v) t)(q:0<=v)(u:0<=f):∃(j:bx) (g:Fn),f=(j:bp)/\m.fs[j]?=tB g/\v<g.vs.length:=by
 generalize d:av f v=A at h;cases h with
 |var a b c=>
  simp only[av,cU] at d;obtain⟨rfl,rfl,_⟩:=d;exact⟨_,_,rfl,a,c⟩
 |res a=>simp only[av,cZ,cU] at d;omega
 |fld a b=>simp only[av,bN,cU] at d;omega
theorem Fg {m:Mo}{f:bp}{t:Ty}(h:pF m (cZ f) t)(q:0<=f):∃(j:bx) (g:Fn),f=(j:bp)/\m.fs[j]?=tB g:=by
 generalize d:cZ f=u at h;cases h with
 |var a b c=>simp only[av,cZ,cU] at d;omega
 |res a=>
  simp only[cZ,cU] at d;obtain⟨rfl,_⟩:=d;exact⟨_,_,rfl,a⟩
 |fld a b=>simp only[cZ,bN,cU] at d;omega
theorem Fh {m:Mo}{f v:bp}{t:Ty}(h:pF m (bN f v) t)(q:0<=v):∃(y k:bx) (s:St),f=(y:bp)/\v=(k:bp)/\m.siteS y=tB s/\k<s.fs.length:=by
 generalize d:bN f v=u at h;cases h with
 |var a b c=>simp only[av,bN,cU] at d;omega
 |res a=>simp only[cZ,bN,cU] at d;omega
 |fld a b=>
  simp only[bN,cU] at d;obtain⟨_,rfl,rfl⟩:=d;exact⟨_,_,_,rfl,rfl,a,(ap.1 b).1⟩
structure nu (w:World)(m:Mo)(T S n:bx):Prop where
 pts:∃HM FM GM B tg s p,Pm T HM FM GM m B tg s p w/\∀nd y,(nd,y)∈p.H↔m.lf nd y
 ref:∃B sv vv rv gv vt gt rl x tag,eQ w m n S B sv vv rv gv vt gt rl x tag/\lC m n vt gt rl/\∀nd t y,pF m nd t->y<n->(x.at_ nd y=tE↔m.lf nd y)
 right:bf m=0
 nn:n<=400
 ns:(aj m.xi).length=n
theorem nu.grow {w w':World}{m:Mo}{T S n:bx}(h:nu w m T S n)(d:bh w.heap.size w w'):nu w' m T S n:=by
 obtain⟨HM,FM,GM,B,tg,s,p,f,q⟩:=h.pts;obtain⟨u,sv,vv,rv,gv,vt,gt,rl,x,tag,v,A⟩:=h.ref;exact⟨⟨HM,FM,GM,B,tg,s,p,f.grow d,q⟩,⟨u,sv,vv,rv,gv,vt,gt,rl,x,tag,v.grow d,A⟩,h.right,h.nn,h.ns⟩
section
variable {w:World}{m:Mo}{T S n:bx}
theorem yM {z:bx->nj}{k:bx}(h:n<=k):((ej n).filter z).length<=k:=by
 have:=ki z (ej n);rw[ml] at this;omega
theorem nu.lt (h:nu w m T S n){d:Nd}{y:bx}(f:m.lf d y):y<n:=by
 have:=ed f;rw[h.ns] at this;exact this
theorem nu.var (h:nu w m T S n)(f v:bp)(hf:fO f)(hv:fO v):∃l:bm bx,l.length<=400/\l.Pairwise (·<·)/\(∀y,y∈l↔0<=f/\0<=v/\m.lf (av f v) y)/\∀W,bh w.heap.size w W->
  gd ac 44 #[tR (tB ⟨T,0,tD⟩),Z U f,Z U v] W (jW W l)/\gd ac 38 #[tR (tB ⟨S,0,tD⟩),Z U f,Z U v] W (jW W l):=by
 obtain⟨HM,FM,GM,B,tg,s,p,hP,ud⟩:=h.pts;obtain⟨B',sv,vv,rv,gv,vt,gt,rl,x,tag,hM,uc,hx⟩:=h.ref;have vc:=h.nn;have ur:∀nd y,(nd,y)∈p.H->y<=900000:=λnd y d=>by have:=h.lt ((ud _ _).1 d);omega
 by_cases uv:f<0\/v<0
 ·exact⟨[],by simp,.nil,λy=>by simp;omega,λW G=>⟨lh (nJ W _ f v uv),lh (nN W (hM.grow G) (by rcases uv with q|q;exact .inl q;exact .inr (.inr (.inl q))))⟩⟩
 obtain⟨fn,rfl⟩:∃fn:bx,f=(fn:bp):=⟨f.toNat,by omega⟩
 obtain⟨u,rfl⟩:∃u:bx,v=(u:bp):=⟨v.toNat,by omega⟩
 have A:0<=(fn:bp)/\0<=(u:bp):=by omega
 by_cases ue:∃g,m.fs[fn]?=tB g/\u<g.vs.length
 ·obtain⟨g,D,vd⟩:=ue
  have vf:=(ap.1 D).1;obtain⟨r,J⟩:∃r,vt[fn]?=tB r:=⟨_,am (by rw[uc.nv];exact vf)⟩
  obtain⟨b,hb⟩:∃b,r.2[u]?=tB b:=⟨_,am (by rw[uc.v fn r g J D];exact vd)⟩
  have ux:=pF.var D A.2 (show(u:bp)<g.vs.length by omega);have e:=ig A.1 A.2;simp only[cP] at e;refine⟨(ej n).filter (x fn u),yM vc,sY _ List.pairwise_lt_range,λy=> ?_,λW G=>⟨DV (kW W (hP.grow G) _ _ A (bY hf hv) ur) λl' h1 h2=> ?_,G9 (uo W (hM.grow G) (by omega) J hb)⟩⟩
  ·rw[mz,jn]
   have h3:=λd=>hx _ _ y ux d;unfold X3.at_ at h3;rw[e] at h3;constructor
   ·rintro⟨a,b⟩
    exact⟨A.1,A.2,(h3 a).1 b⟩
   ·rintro⟨_,_,a⟩
    exact⟨h.lt a,(h3 (h.lt a)).2 a⟩
  ·have:=uq hx ux h1 (λy=>(h2 y).trans (ud _ _)) (λy d=>h.lt d)
   rw[e] at this;exact this
 ·have va:∀y,¬m.lf (av (fn:bp) (u:bp)) y:=λy d=>by
   obtain⟨_,_,ht⟩:=Aw h.right d;obtain⟨j,g,e,D,hl⟩:=Ff ht A.2 A.1;obtain rfl:fn=j:=by omega
   exact ue ⟨g,D,by omega⟩
  refine⟨[],by simp,.nil,λy=>by simp[va y],λW G=>⟨DV (kW W (hP.grow G) _ _ A (bY hf hv) ur) λl' h1 h2=> ?_,lh (nN W (hM.grow G) ?_)⟩⟩
  ·exact j9.2 λy d=>va y ((ud _ _).1 ((h2 y).1 d))
  ·by_cases c:(vt.length:bp)<=(fn:bp)
   ·exact .inr (.inl c)
   ·obtain⟨r,J⟩:∃r,vt[fn]?=tB r:=⟨_,am (by omega)⟩
    obtain⟨g,D⟩:∃g,m.fs[fn]?=tB g:=⟨_,am (by rw[<-uc.nv];omega)⟩
    refine .inr (.inr (.inr ⟨fn,r,rfl,J, ?_⟩));have:=uc.v fn r g J D;have:¬u<g.vs.length:=λq=>ue ⟨g,D,q⟩;omega
theorem nu.result (h:nu w m T S n)(f:bp)(J:fO f):∃l:bm bx,l.length<=400/\∀W,bh w.heap.size w W->
  gd ac 42 #[tR (tB ⟨T,0,tD⟩),Z U f] W (jW W l)/\gd ac 43 #[tR (tB ⟨S,0,tD⟩),Z U f] W (jW W l):=by
 obtain⟨HM,FM,GM,B,tg,s,p,hP,v⟩:=h.pts;obtain⟨B',sv,vv,rv,gv,vt,gt,rl,x,tag,A,uc,hx⟩:=h.ref;have uv:=h.nn;have ud:∀nd y,(nd,y)∈p.H->y<=900000:=λnd y q=>by have:=h.lt ((v _ _).1 q);omega
 by_cases ue:f<0
 ·exact⟨[],by simp,λW d=>⟨lh (qj W _ f ue),lh (kG W (A.grow d) (.inl ue))⟩⟩
 obtain⟨fn,rfl⟩:∃fn:bx,f=(fn:bp):=⟨f.toNat,by omega⟩
 have u:0<=(fn:bp):=by omega
 by_cases ur:fn<m.fs.length
 ·obtain⟨g,D⟩:∃g,m.fs[fn]?=tB g:=⟨_,am ur⟩
  obtain⟨b,hb⟩:∃b,rl[fn]?=tB b:=⟨_,am (by rw[uc.nr];exact ur)⟩
  have e:=ik u;simp only[cP] at e;refine⟨(ej n).filter (x 1000000 fn),yM uv,λW d=>⟨DV (lu W (hP.grow d) _ u (qh J) ud) λl' h1 G=> ?_,G9 (pQ W (A.grow d) (by omega) hb)⟩⟩;have:=uq hx (pF.res D) h1 (λy=>(G y).trans (v _ _)) (λy q=>h.lt q);rw[e] at this;exact this
 ·refine⟨[],by simp,λW d=>⟨DV (lu W (hP.grow d) _ u (qh J) ud) λl' h1 G=> ?_,lh (kG W (A.grow d) (.inr (by rw[uc.nr];omega)))⟩⟩
  refine j9.2 λy q=> ?_;obtain⟨_,_,ht⟩:=Aw h.right ((v _ _).1 ((G y).1 q));obtain⟨j,g,e,D⟩:=Fg ht u;have:=(ap.1 D).1;omega
theorem nu.field (h:nu w m T S n)(f v:bp)(hf:fO f)(hv:fO v):∃l:bm bx,l.length<=400/\∀W,bh w.heap.size w W->
  gd ac 36 #[tR (tB ⟨T,0,tD⟩),Z U f,Z U v] W (jW W l)/\gd ac 45 #[tR (tB ⟨S,0,tD⟩),Z U f,Z U v] W (jW W l):=by
 obtain⟨HM,FM,GM,B,tg,s,p,hP,ud⟩:=h.pts;obtain⟨B',sv,vv,rv,gv,vt,gt,rl,x,tag,hM,G,hx⟩:=h.ref;have vc:=h.nn;have uv:∀nd y,(nd,y)∈p.H->y<=900000:=λnd y A=>by have:=h.lt ((ud _ _).1 A);omega
 by_cases ux:f<0\/v<0
 ·exact⟨[],by simp,λW u=>⟨lh (rq W _ f v ux),lh (lD W (hM.grow u) (by rcases ux with q|q;exact .inl q;exact .inr (.inr (.inl q))))⟩⟩
 obtain⟨fn,rfl⟩:∃fn:bx,f=(fn:bp):=⟨f.toNat,by omega⟩
 obtain⟨d,rfl⟩:∃d:bx,v=(d:bp):=⟨v.toNat,by omega⟩
 have ue:0<=(fn:bp)/\0<=(d:bp):=by omega
 have vd:∀k,k<n->∃s,m.siteS k=tB s:=λk hk=>by
  obtain⟨q,hq⟩:∃q,(aj m.xi)[k]?=tB q:=⟨_,am (by rw[h.ns];exact hk)⟩
  obtain⟨_,_,_,_,_,st,_,_,_,_,_,c2⟩:=yI h.right hq;exact⟨st,c2⟩
 by_cases ur:∃s,m.siteS fn=tB s/\fn<n/\d<s.fs.length
 ·obtain⟨g,hg,vf,va⟩:=ur
  obtain⟨r,D⟩:∃r,gt[fn]?=tB r:=⟨_,am (by rw[G.ng];exact vf)⟩
  obtain⟨b,hb⟩:∃b,r.2[d]?=tB b:=⟨_,am (by rw[G.g fn r g D hg];exact va)⟩
  have vh:=pF.fld hg (am va);have e:=il (x:=(fn:bp)) (k:=(d:bp));simp only[cP] at e;refine⟨(ej n).filter (x (2000000+fn) d),yM vc,λW u=>⟨DV (mG W (hP.grow u) _ _ ue (tL hf hv) uv) λl' h1 h2=> ?_,G9 (qo W (hM.grow u) (by omega) D hb)⟩⟩;have:=uq hx vh h1 (λy=>(h2 y).trans (ud _ _)) (λy A=>h.lt A);rw[e] at this;exact this
 ·refine⟨[],by simp,λW u=>⟨DV (mG W (hP.grow u) _ _ ue (tL hf hv) uv) λl' h1 h2=> ?_,lh (lD W (hM.grow u) ?_)⟩⟩
  ·refine j9.2 λy A=> ?_
   obtain⟨_,_,ht⟩:=Aw h.right ((ud _ _).1 ((h2 y).1 A));obtain⟨j,k,s',e1,e2,J,hl⟩:=Fh ht ue.2;obtain rfl:fn=j:=by omega
   obtain rfl:d=k:=by omega
   have uc:fn<n:=by
    unfold Mo.siteS Mo.siteI at J;refine er λq=> ?_;rw[my (by rw[h.ns];omega)] at J;simp at J
   exact ur ⟨s',J,uc,hl⟩
  ·by_cases c:(gt.length:bp)<=(fn:bp)
   ·exact .inr (.inl c)
   ·have uc:fn<n:=by rw[<-G.ng];omega
    obtain⟨r,D⟩:∃r,gt[fn]?=tB r:=⟨_,am (by omega)⟩
    obtain⟨st,hst⟩:=vd fn uc;refine .inr (.inr (.inr ⟨fn,r,rfl,D, ?_⟩));have:=G.g fn r st D hst;have:¬d<st.fs.length:=λq=>ur ⟨st,hst,uc,q⟩;omega
def Gj (w:World)(l:bm bx)(e:Ending)(w':World):Prop:=
 ∃D B d cap,e= ub (.func (.func 125) #[] #[tR (tB ⟨D,0,tD⟩)])/\w.heap.size<=D/\w'.heap[D]?=tB (ua #[tP d (l.map gw).length cap] 35 (0,0))/\w.heap.size<=B/\aT w' B (tP d (l.map gw).length cap) (l.map gw)/\bh w.heap.size w w'
theorem nu.each (h:nu w m T S n)(f v:bp)(hf:fO f)(hv:fO v)(l:bm bx)(h1:l.Pairwise (·<·))(h2:∀y,y∈l↔0<=f/\0<=v/\m.lf (av f v) y):
  gd ac 39 #[tR (tB ⟨T,0,tD⟩),Z U f,Z U v] w (Gj w l):=by
 obtain⟨HM,FM,GM,B,tg,s,p,hP,uc⟩:=h.pts;have va:=h.nn;have ud:∀nd y,(nd,y)∈p.H->y<=900000:=λnd y d=>by have:=h.lt ((uc _ _).1 d);omega
 by_cases ue:f<0\/v<0
 ·have A:l=[]:=j9.2 λy d=>by have:=(h2 y).1 d;omega
  subst A;refine(vQ w _ f v ue).mono ?_;rintro e w' ⟨D,u,rfl,G,J,rfl,hb⟩;exact⟨D,w.heap.size,tD,0,rfl,G,J,ce _,aT.nil _ _,hb⟩
 ·refine(yJ w hP f v (by omega) (bY hf hv) ud).mono ?_
  rintro e w' ⟨D,u,rfl,G,J,⟨l',ao,cap,rfl,ur,uv,ux⟩,hb⟩;have A:l'=l:=wX _ _ uv h1 λy=>by
   rw[ux,h2,uc];exact⟨λq=>⟨by omega,by omega,q⟩,λq=>q.2.2⟩
  subst A;exact⟨D,w.heap.size,ao,cap,rfl,G,by rw[ei];exact J,ce _,by rw[ei];exact ur,hb⟩
theorem nu.has (h:nu w m T S n)(f v x:bp)(D:fO f)(G:fO v)(J:fO x)(l:bm bx)(u:∀y,y∈l↔0<=f/\0<=v/\m.lf (av f v) y):
  zP 33 #[tR (tB ⟨T,0,tD⟩),Z U f,Z U v,Z U x] w (tU ((l.map gw).any (·==x))):=by
 obtain⟨HM,FM,GM,B,tg,s,p,hP,A⟩:=h.pts;have e:((l.map gw).any (·==x))=tE↔∃y:bx,x=(y:bp)/\y∈l:=by
  rw[kq];constructor
  ·rintro⟨z,hz,e⟩
   obtain⟨y,d,rfl⟩:=dy.1 hz;exact⟨y,(mN.1 e).symm,d⟩
  ·rintro⟨y,rfl,d⟩
   exact⟨_,dy.2 ⟨y,d,rfl⟩,mN.2 rfl⟩
 by_cases uc:f<0\/v<0
 ·have:((l.map gw).any (·==x))=tG:=by
   rw[Bool.eq_false_iff];intro q;obtain⟨y,_,d⟩:=e.1 q;have:=(u y).1 d;omega
  rw[this];exact yD w T f v x uc
 ·obtain⟨b,hb,hc⟩:=mH w hP f v x (by omega) (bY D G) J
  have:((l.map gw).any (·==x))=b:=by
   rw[Bool.eq_iff_iff,e,hb];constructor
   ·rintro⟨y,rfl,d⟩
    exact⟨y,rfl,(A _ _).2 ((u y).1 d).2.2⟩
   ·rintro⟨y,rfl,d⟩
    exact⟨y,rfl,(u y).2 ⟨by omega,by omega,(A _ _).1 d⟩⟩
  rw[this];exact hc
end
theorem Fj (W:World){l:bm bx}{d f:eA Addr}{c1 c2 h q:bx}(A:l.length<=400)(u:aT W h (tP d l.length c1) (l.map gw))(v:aT W q (tP f l.length c2) (l.map gw)):
  zP 41 #[tP d l.length c1,tP f l.length c2] W (tU tE):=by
 have:=vS W h q c1 c2 d f (l.map gw) (by rw[ei];omega) (by rw[ei];exact u) (by rw[ei];exact v);rw[ei] at this;exact this
end Go.Proofs.YtjomgckjhcfbgaaGreat
