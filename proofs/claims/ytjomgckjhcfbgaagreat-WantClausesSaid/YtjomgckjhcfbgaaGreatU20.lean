/- Walks. -/
import Derived.Test.YtjomgckjhcfbgaaGreatU19
set_option maxRecDepth 100000
set_option maxHeartbeats 64000000
set_option linter.all false
namespace Go.Proofs.YtjomgckjhcfbgaaGreat
open Go.RowKit
open Go.Proofs.Tryz renaming prog→am,underlying42→cD,underlying3→dl,underlying35→gb,underlying46→rn
open _root_.List renaming getElem?_eq_getElem→ap,getElem?_eq_some_iff→bl,length_append→bo,mem_of_getElem?→cd,take_length→cR,mem_append→cX,range→du,length_take→ee,append_nil→ej,append_assoc→eq,flatMap_cons→fW,mem_cons→gh,flatMap_append→gn,mem_filter→gC,mem_cons_of_mem→ie,cons_append→ij,take_add_one→ju,foldl_append→jx,take_append_drop→ke,filter_cons→ks,range_succ→lp,filter_append→mj,getElem?_eq_none→mw,getElem?_append_left→mB,take_of_length_le→m5,mem_range→oc,nodup_append→pn,prefix_rfl→pN,getElem?_append→rh,range'_succ→sE,length_filter_le→td,mem_iff_getElem?→te
open Go.RowKit.Below renaming refl→aq,heap_alloc→cJ
open _root_ renaming Int→aw,Nat→bh,List→bj,if_neg→bx,decide_eq_false→cv,Option→cG,if_pos→cI,decide_eq_true→cV,Array→eA,absurd→fL,False→me,Bool→mm,of_decide_eq_true→m7,decide_eq_true_eq→oE,and_true→pf,beq_iff_eq→tt
open Go.RowKit renaming Below→aE,Hid→cj,intOf→de
open Go renaming heap_setCell_same→bk,cell_of_row→bw,Value→cA,frozen_of_row→ei,maxLen→eC,Addr→fS,Calls→ge,heap_setCell_same→gj,TypeId→gt,run_underlying→j9,info_parts→kB,wpList_append_lies→n5
open _root_.Array renaming getElem?_eq_some_iff→br,getElem?_eq_none→em,replicate→eI,getElem?_setIfInBounds→gd,ext_getElem?→gS,getElem?_eq_getElem→mx
open _root_.Nat renaming le_refl→cg,zero_add→cL,zero_le→cN,le_trans→eJ,min_eq_left→gR,le_succ→i5,not_lt_zero→oR
open Go.Value renaming slice→ci,oneCell'→ct,ownBlock→et,int→eS,string→tS,slice→tU,pointer→tW,bool→ua,agg→ub,int→Z
open _root_.Option.some renaming inj→cE,injEq→dd
open Go.Lib renaming hid→cP
open Go.Addr renaming add_lit→cY
open Go.IntKind renaming i64→dT,signed→ep,wrap→eK,bits→eL,i64→U
open Go.Addr.mk renaming injEq→eR
open _root_.Bool renaming and_eq_true→fj,eq_iff_iff→tf,true→tP,false→tR
open Go.Value.slice renaming injEq→fm
open Go.Sem renaming run_bind→fX
open Go.Op renaming equalIn→gE
open _root_.Std.Legacy.Range renaming forIn_eq_forIn_range'→j8,size→n6
open Go.Result renaming andThen_ok→mu
open _root_.Option renaming some→tG,none→tM
open Go.Obj renaming cells→uc
open Go.Ending renaming returned→ud
open Tryz
def encZ (x:aw×aw):bj cA:=[Z U x.1,Z U x.2]
theorem um:(am.info? 67).map (λi=>(i.zero,i.size,i.bytes))=tG (tG (ub #[Z U 0,Z U 0]),2,16):=by kernel_rfl
theorem Di {w wA w5:World}{v:cA}(d:Ext (λ_=>me) w wA)(e:wA.grownBy w5 v.ownBlock):Ext (λk=>v.ownBlock=tG k) w w5:=
 (d.mono (λ_ h=>h.elim)).trans (Ext.of_grown (M:=λk=>v.ownBlock=tG k) e (λ_ f=> .inl f)) (λ_ g=> .inl g)
structure I5 (B:bh)(W1:World)(o:cA)(l:bj (aw×aw))(wr:World):Prop where
 own:wr.ownsRow B 67 2 o l.length (l.flatMap encZ)
 low:aE B W1 wr
theorem I5.app {B:bh}{W1 wr d w5:World}{o:cA}{l:bj (aw×aw)}{x:aw×aw}{g cap:bh}(h:I5 B W1 o l wr)(u:B<=W1.heap.size)(e:Ext (λ_=>me) wr d)
  (f:w5.ownsRow B 67 2 (tU (tG ⟨g,0,tM⟩) (l.length+1) cap) (l.length+1) (l.flatMap encZ++encZ x))(j:d.grownBy w5 o.ownBlock):I5 B W1 (tU (tG ⟨g,0,tM⟩) (l++[x]).length cap) (l++[x]) w5:=by
 refine⟨?_, ?_⟩
 ·rw[gn,bo]
  simpa using f
 ·have q:Ext (λk=>o.ownBlock=tG k) wr w5:=Di e j
  exact h.low.trans (q.below (by have:=h.low.size;omega) (λk t=>(h.own.lt k t).1))
theorem xk {f:aw}:∀(l d:bj Vr)(v:bh),(bK f v l).length<=(bK f v (l++d)).length
 |[],d,v=>by simp[bK]
 |x::r,d,v=>by
  rw[ij];unfold bK;rw[bo,bo];have:=xk (f:=f) r d (v+1);omega
theorem vR (m:Mo)(w:World)(hm:m.inn w)(hp:m.ptrs.length<=1000000):
  ge am 22 #[ub m.cells] w λe w'=>∃ao cap,e= ud (tU ao m.ptrs.length cap)/\w'.ownsRow (w.heap.size+1) 67 2 (tU ao m.ptrs.length cap) m.ptrs.length (m.ptrs.flatMap encZ)/\aE w.heap.size w w':=by
 obtain⟨N,hN⟩:=zE w.heap.size;obtain⟨W1,v⟩:=zE (w.alloc (uc m.cells 25));have ue:=il v;have wg:W1.heap.size=N+1:=by rw[<-v];simp[hN]
 have q1:W1.heap[N]?=tG (uc m.cells 25 (0,0)):=by rw[<-v,<-hN];exact alloc_at _ _
 have wj:=zH (hm.below ue);have yb:=zH ue;have wk:=zH v;have t:=zH wg;have J:=zH q1;have HP:=zH hp;have yr:m.fs.length<=9223372036854775807:=hm.nf;unfold Mo.cells at wk;clear hm hp ue v wg q1;unfold Mo.cells;go_enter func22,ntmps22
 go_upto_region 1 with(fail)
 rw[wk.out]
 go_upto_region 3 with(fail)
 go_loopw [3,4] (λo c wr=>∃(k:bh) (ao:cG fS) (cap:bh),k<=m.fs.length/\c= Z U (k:aw)/\o= tU ao (bY 0 (m.fs.take k)).length cap/\I5 (N+1) W1 (tU ao (bY 0 (m.fs.take k)).length cap) (bY 0 (m.fs.take k)) wr) (λ_ c _=>m.fs.length-(de c).toNat)
 case atStart=>exact⟨0,tM,0,cN _,rfl,rfl,⟨⟨rfl,.inl ⟨rfl,rfl⟩⟩,aq _ _⟩⟩
 case round=>
  obtain⟨k,ao,cap,hk,rfl,rfl,d⟩:=hrel;have up:wr.cell? ⟨N,1,tM⟩=tG (tU m.fA m.fs.length m.fC):=(rowAt ((d.low.block N (by omega)).trans J.out) 1 rfl).1;have wl:=aa ((d.low.block N (by omega)).trans J.out)
  by_cases ur:k<m.fs.length
  ·have yv:(k:aw)<(m.fs.length:aw):=by omega
   obtain⟨f,y⟩:∃f,m.fs[k]?=tG f:=⟨_,ap ur⟩
   obtain⟨b,uv,ws,hb,ux⟩:=wj.out.frow (by intro e;rw[e] at ur;simp at ur);have vc:=wj.out.fin f (cd y);have xf:b<N+1:=by have:=t.out;omega
   have xj:∀(q:World),aE (N+1) W1 q->q.cell? ⟨b,uv+k*8+2,tM⟩=tG (tU f.c.varsA f.c.nvars f.c.varsC)/\q.cell? ⟨b,uv+k*8+3,tM⟩=tG (ua f.c.rp):=λq hq=>⟨by rw[hq.cell (p:=⟨b,_,tM⟩) xf];exact ux k f y 2 _ rfl,by rw[hq.cell (p:=⟨b,_,tM⟩) xf];exact ux k f y 3 _ rfl⟩
   have xo:=zH xj;have vd:=zH vc;have HF:=zH y;have u:=zH d;obtain⟨nv,vf⟩:=zE f.c.nvars;have yd:nv=f.vs.length:=by rw[<-vf];exact vc.nvars
   rw[vf] at xo;subst yd;rw[ws] at up⊢;clear xj ux vc y d vf;obtain⟨P,hP⟩:=zE (bY 0 (m.fs.take k));have xp:=zH hP;rw[hP] at u⊢;clear hP;have yy:cj (P.length+(f.vs.length+1)<=2000000->True):=λ_=>trivial;have xt:P.length+(dD (k:aw) f).length<=1000000:=by
    have z:=mf (fs:=m.fs) (k+1);rw[aH HF.out,kS,bo,xp.out,cL,ee,gR (by omega)] at z;have:=HP.out;unfold Mo.ptrs at this;omega
   have yW:(f.vs.length:aw)<=9223372036854775807:=by have:=vd.out.code.nvars;rw[vd.out.nvars] at this;unfold eC at this;omega
   have xF:=zH xt;clear xt
   go_wp2_with fail
   clear up wl
   go_loopw [3,5] (λo c wi=>∃(j:bh) (ao:cG fS) (cap:bh),j<=f.vs.length/\c= Z U (j:aw)/\o= tU ao (P++bK (k:aw) 0 (f.vs.take j)).length cap/\I5 (N+1) W1 (tU ao (P++bK (k:aw) 0 (f.vs.take j)).length cap) (P++bK (k:aw) 0 (f.vs.take j)) wi) (λ_ c _=>f.vs.length-(de c).toNat)
   case atStart=>exact⟨0,ao,cap,cN _,rfl,by simp[bK],by simpa[bK] using u.out⟩
   case round=>
    obtain⟨j,K,R,hj,rfl,rfl,d⟩:=hrel;obtain⟨q2,q3⟩:=xo.out _ d.low;have up:wr.cell? ⟨N,1,tM⟩=tG (tU (tG ⟨b,uv,tM⟩) m.fs.length m.fC):=by rw[<-ws];exact(rowAt ((d.low.block N (by omega)).trans J.out) 1 rfl).1
    have wl:=aa ((d.low.block N (by omega)).trans J.out)
    by_cases vh:j<f.vs.length
    ·have zc:(j:aw)<(f.vs.length:aw):=by omega
     obtain⟨x,hx⟩:∃x,f.vs[j]?=tG x:=⟨_,ap vh⟩
     obtain⟨b2,ye,yi,zj,xT⟩:=vd.out.vars (by intro e;rw[e] at vh;simp at vh);have hv:wr.cell? ⟨b2,ye+j*3,tM⟩=tG (ua x.ptr):=by rw[d.low.cell (p:=⟨b2,_,tM⟩) (by have:=t.out;show b2<N+1;omega)];exact xT j x hx 0 _ rfl
     rw[yi] at q2;have HX:=zH hx;have h:=zH d;have g:cj (P++bK (k:aw) 0 (f.vs.take (j+1))=(P++bK (k:aw) 0 (f.vs.take j))++(if x.ptr=tP then[((k:aw),(j:aw))] else[])):=by
      unfold cj;rw[aH hx,oo,cL,ee,gR (by omega),eq]
     obtain⟨px,vm⟩:=zE x.ptr;rw[vm] at hv g;clear hx xT d;cases px with
     |false=>
      go_wp2;go_roundw
      case rel=>exact⟨j+1,K,R,by omega,by go_num,by rw[g.out];simp,by rw[g.out];simpa using h.out⟩
      case measure=>simp[de];omega
     |true=>
      have hL:(P++bK (k:aw) 0 (f.vs.take j)).length+1<=1000001:=by
       have z:=xF.out;have h2:(bK (k:aw) 0 (f.vs.take j)).length<=(dD (k:aw) f).length:=by
        unfold dD;rw[<-ke j f.vs,ke,bo];exact eJ (xk (f.vs.take j) (f.vs.drop j) 0) (by rw[ke];omega)
       rw[bo];omega
      obtain⟨Q,A⟩:=zE (P++bK (k:aw) 0 (f.vs.take j));rw[A] at h g hL⊢;obtain⟨i0,vp,vq,vr,vt⟩:=kB um;have yk:N+1<=wr.heap.size:=by have:=h.out.low.size;have:=t.out;omega
      clear A
      go_upto_region 9 with(fail)
      go_wp2_with (at_builtin;refine n5 _ rfl _ _ 62 rfl (N+1) 67 i0 (ub #[Z U 0,Z U 0]) 2 16 underlying62 vp vq vr vt rfl (by decide) (tU K Q.length R) Q.length (Q.flatMap encZ) rfl (ownsRow_below h.out.own ((aq wr.heap.size wr).alloc (cg _) _)) ⟨wr.heap.size,0,tM⟩ 1 1 [Z U (k:aw),Z U (j:aw)] rfl rfl (gD _ _ _) (by simp[ct]) (by decide) (by unfold eC;omega) (by omega) (by rw[World.size_alloc];omega) _ rfl ?_;intro g5 vu w5 E G vx vy;have we:=zH (h.out.app (x:=((k:aw),(j:aw))) (by have:=t.out;omega) ((Ext.refl _ _).alloc _) E G);clear E G vx vy)
      go_roundw
      case rel=>exact⟨j+1,tG ⟨g5,0,tM⟩,vu,by omega,by go_num,by rw[g.out,cI rfl,bo];rfl,by rw[g.out];simpa using we.out⟩
      case measure=>simp[de];omega
    ·have yp:j=f.vs.length:=by omega
     subst yp;rw[cR] at d⊢;have g:cj (bY 0 (m.fs.take (k+1))=(P++bK (k:aw) 0 f.vs)++(if f.c.rp=tP then[((k:aw),(-1:aw))] else[])):=by
      unfold cj;rw[aH HF.out,kS,xp.out,cL,ee,gR (by omega),eq];rfl
     have hL:(P++bK (k:aw) 0 f.vs).length<=1000000:=by
      have z:=xF.out;unfold dD at z;rw[bo] at z;rw[bo];omega
     obtain⟨Q,A⟩:=zE (P++bK (k:aw) 0 f.vs);rw[A] at d g hL⊢;have h:=zH d;obtain⟨px,vm⟩:=zE f.c.rp;rw[vm] at q3 g;clear A d;cases px with
     |false=>
      go_wp2;go_roundw
      case rel=>exact⟨k+1,K,R,by omega,by go_num,by rw[g.out];simp,by rw[g.out];simpa using h.out⟩
      case measure=>simp[de];omega
     |true=>
      obtain⟨i0,vp,vq,vr,vt⟩:=kB um;have yk:N+1<=wr.heap.size:=by have:=h.out.low.size;have:=t.out;omega
      go_wp2_with (at_builtin;refine n5 _ rfl _ _ 62 rfl (N+1) 67 i0 (ub #[Z U 0,Z U 0]) 2 16 underlying62 vp vq vr vt rfl (by decide) (tU K Q.length R) Q.length (Q.flatMap encZ) rfl (ownsRow_below h.out.own ((aq wr.heap.size wr).alloc (cg _) _)) ⟨wr.heap.size,0,tM⟩ 1 1 [Z U (k:aw),Z U (-1)] rfl rfl (gD _ _ _) (by simp[ct]) (by decide) (by unfold eC;omega) (by omega) (by rw[World.size_alloc];omega) _ rfl ?_;intro g5 vu w5 E G vx vy;have we:=zH (h.out.app (x:=((k:aw),(-1:aw))) (by have:=t.out;omega) ((Ext.refl _ _).alloc _) E G);clear E G vx vy)
      go_roundw
      case rel=>exact⟨k+1,tG ⟨g5,0,tM⟩,vu,by omega,by go_num,by rw[g.out,cI rfl,bo];rfl,by rw[g.out];simpa using we.out⟩
      case measure=>simp[de];omega
  ·have yq:k=m.fs.length:=by omega
   subst yq;rw[cR] at d⊢;have u:=zH d;clear d;go_wp2;go_ret;exact⟨ao,cap,rfl,(by first|exact u.out.own|(rw[hN];exact u.out.own)),yb.out.trans (u.out.low.mono (by have:=t.out;omega))⟩
theorem Gm (d:bh)(p q r s:aw)(W:World):(gE (d+1+1) 67 (ub #[Z U p,Z U q]) (ub #[Z U r,Z U s])).run am W= .ok (p==r&&q==s) W:=by
 have e:∀w,(Go.sizeOf 3).run am w= .ok 1 w:=Tryz.sizeOf3;have o:∀w,(isAgg 3).run am w= .ok tR w:=Tryz.isAgg3;have f:∀(a b:aw)(w:World),(gE (d+1) 3 (Z U a) (Z U b)).run am w= .ok (a==b) w:=λa b w=>run_equalIn_int w d 3 .i64 .i64 a b dl;have g:∀(a b:aw)(w:World),(part 3 #[Z U a,Z U b] 0).run am w= .ok (Z U a) w:=λa b w=>by simp[part,fX,e,o]
 have h:∀(a b:aw)(w:World),(part 3 #[Z U a,Z U b] 1).run am w= .ok (Z U b) w:=λa b w=>by simp[part,fX,e,o]
 rw[Op.equalIn.eq_def];simp only[fX,j9 underlying67,mu,e]
 by_cases j:p=r
 ·by_cases t:q=s
  ·subst j t;simp[j8,n6,sE,fX,g,h,f]
  ·simp[j8,n6,sE,fX,g,h,f,j,t]
 ·simp[j8,n6,sE,fX,g,h,f,j]
theorem Gn (p q r s:aw)(W:World):(binOp .eql 67 (ub #[Z U p,Z U q]) (ub #[Z U r,Z U s])).run am W= .ok (ua (p==r&&q==s)) W:=by
 rw[run_eql_struct,show(10000:bh)=9998+1+1 from rfl,Gm];rfl
theorem Bo {l:bj (aw×aw)}{k:bh}{x:aw×aw}(h:l[k]?=tG x):(l.flatMap encZ)[k*2]?=tG (Z U x.1)/\(l.flatMap encZ)[k*2+1]?=tG (Z U x.2):=by
 have:=De l k x h;exact this
theorem mM {w:World}{B:bh}{e:gt}{o n cap:bh}{ao:cG fS}{l:bj cA}{j:bh}{u:cA}(h:w.ownsRow B e o (tU ao n cap) n l)(f:l[j]?=tG u):∃g,ao=tG ⟨g,0,tM⟩/\g<w.heap.size/\w.cell? ⟨g,j,tM⟩=tG u:=by
 rcases h.2 with⟨t,d⟩|⟨g,cap,v,d,_,q,_⟩
 ·have:=h.1
  subst d;have:=(bl.1 f).1;omega
 ·simp only[fm] at d
  refine⟨g,d.1,aa q, ?_⟩;have:=h.cells (g:=g) (by rw[d.1];rfl) _ _ f
  rwa [cY,cL] at this
theorem qQ {x:aw×aw}:∀{P:bj (aw×aw)}{k j:bh},P[j]?=tG x->(∀q,q<j->P[q]? ≠tG x)->aG k P x=2*((k+j:bh):aw)+1
 |[],k,j,h,_=>by simp at h
 |p::r,k,j,h,d=>by
  unfold aG;cases j with
  |zero=>
   obtain rfl:p=x:=by simpa using h
   rw[cI rfl];simp
  |succ j=>
   rw[bx (λe=>d 0 (by omega) (by simp[e]))];have:=qQ (P:=r) (k:=k+1) (j:=j) (by simpa using h) (λq f=>by have:=d (q+1) (by omega);simpa using this);rw[this];congr 3;omega
theorem ES:(am.info? 35).map (λi=>(i.zero,i.size,i.bytes))=tG (tG (tU tM 0 0),1,24):=by kernel_rfl
theorem ET:(am.info? 61).map (λi=>(i.zero,i.size,i.bytes))=tG (tG (ub #[Z U 0,Z U 0]),2,16):=by kernel_rfl
structure Gu where
 fA:cG fS
 fC:bh
 yA:cG fS
 yC:bh
 vals:bj cA
def I7 (m:Mo)(lv:cG fS×bh)(d:bh)(N:aw)(s:Gu)(e f:bh):eA cA:=
 #[tU m.sA m.ss.length m.sC,tU m.fA m.fs.length m.fC,tU lv.1 d lv.2,Z U N,tU s.fA e s.fC,tU s.yA f s.yC]
def lg (T d e:bh)(s:Gu)(k:bh):Prop:=k=T\/(ci s.fA d s.fC).ownBlock=tG k\/(ci s.yA e s.yC).ownBlock=tG k
structure Rb (T:bh)(m:Mo)(lv:cG fS×bh)(N:aw)(C:bj (bj aw))(Y:bj (aw×aw))(B:bh)(s:Gu)(w:World):Prop where
 row:w.heap[T]?=tG (uc (I7 m lv m.ptrs.length N s C.length Y.length) 134 (0,0))
 prow:w.ownsRow B 67 2 (tU lv.1 m.ptrs.length lv.2) m.ptrs.length (m.ptrs.flatMap encZ)
 frow:w.ownsRow B 35 1 (tU s.fA C.length s.fC) C.length s.vals
 yrow:w.ownsRow B 61 2 (tU s.yA Y.length s.yC) Y.length (Y.flatMap qh)
 cls:s.vals.length=C.length/\∀(k:bh)(c:bj aw),C[k]?=tG c->∃ao cap,s.vals[k]?=tG (tU ao c.length cap)/\dH w ao c/\(c≠[]->∀a,ao=tG a->B<=a.block/\¬lg T C.length Y.length s a.block)
 d1:∀k,(ci s.fA C.length s.fC).ownBlock=tG k->k≠T
 d2:∀k,(ci s.yA Y.length s.yC).ownBlock=tG k->k≠T
 d3:∀k,(ci s.fA C.length s.fC).ownBlock=tG k->(ci s.yA Y.length s.yC).ownBlock≠tG k
 d4:∀k,(ci lv.1 m.ptrs.length lv.2).ownBlock=tG k->¬lg T C.length Y.length s k
 lo:B<=T
 lC:C.length<=1000000
 lY:Y.length<=1000000
section
variable {T:bh}{m:Mo}{lv:cG fS×bh}{N:aw}{C:bj (bj aw)}{Y:bj (aw×aw)}{B:bh}{s:Gu}{w w' W w2 w9:World}
theorem Rb.lt (h:Rb T m lv N C Y B s w){k:bh}(e:lg T C.length Y.length s k):B<=k/\k<w.heap.size:=by
 rcases e with rfl|d|d
 ·exact⟨h.lo,aa h.row⟩
 ·exact h.frow.lt k d
 ·exact h.yrow.lt k d
theorem Rb.grow (h:Rb T m lv N C Y B s w)(d:aE w.heap.size w w'):Rb T m lv N C Y B s w':=
 ⟨(d.block T (aa h.row)).trans h.row,ownsRow_below h.prow d,ownsRow_below h.frow d,ownsRow_below h.yrow d,
  ⟨h.cls.1,λk c e=>by obtain⟨ao,cap,f,g,j⟩:=h.cls.2 k c e;exact⟨ao,cap,f,aJ.grow g d,j⟩⟩,h.d1,h.d2,h.d3,h.d4,h.lo,h.lC,h.lY⟩
def fD (T:bh)(m:Mo)(lv:cG fS×bh)(N:aw)(C:bj (bj aw))(Y:bj (aw×aw))(B:bh)(S:bh->Prop)(w w':World):Prop:=
 ∃d,Rb T m lv N C Y B d w'/\Ext S w w'/\∀k,lg T C.length Y.length d k->S k\/w.heap.size<=k
theorem fD.trans {C2:bj (bj aw)}{Y2:bj (aw×aw)}{S:bh->Prop}{e:World}(h:fD T m lv N C Y B S w e)(j:∀d,Rb T m lv N C Y B d e->fD T m lv N C2 Y2 B (lg T C.length Y.length d) e w'):fD T m lv N C2 Y2 B S w w':=by
 obtain⟨d,o,f,g⟩:=h;obtain⟨t,u,v,x⟩:=j d o;refine⟨t,u,f.trans v (λq y=>g q y),λk z=> ?_⟩;rcases x k z with h|h
 ·exact g k h
 ·exact .inr (eJ f.size h)
theorem Rb.same (h:Rb T m lv N C Y B s w)(d:aE w.heap.size w w'):fD T m lv N C Y B (lg T C.length Y.length s) w w':=
 ⟨s,h.grow d,Ext.of_below_size d,λk e=> .inl e⟩
theorem fD.below {S:bh->Prop}{d:World}(e:aE w.heap.size w d)(h:fD T m lv N C Y B S d w'):fD T m lv N C Y B S w w':=by
 obtain⟨f,g,j,o⟩:=h;exact⟨f,g,(Ext.of_below_size e).trans j (λq t=> .inl t),λk u=>(o k u).imp id (λh=>eJ e.size h)⟩
theorem EU {xs:bj aw}{ao a9:cG fS}{cp c9:bh}(h:Rb T m lv N C Y B s w)(hx:dH w ao xs)(E:xs≠[]->∀a,ao=tG a->B<=a.block/\¬lg T C.length Y.length s a.block)
  (uv:w9.ownsRow B 35 1 (tU a9 (C.length+1) c9) (C.length+1) (s.vals++[tU ao xs.length cp]))(ue:Ext (λq=>(ci s.fA C.length s.fC).ownBlock=tG q) w w9)
  (x:∀k,(ci a9 (C.length+1) c9).ownBlock=tG k->(ci s.fA C.length s.fC).ownBlock=tG k\/w.heap.size<=k)(hl:C.length+1<=1000000):
  fD T m lv N (C++[xs]) Y B (lg T C.length Y.length s) w (w9.setCell ⟨T,4,tM⟩ (tU a9 (C.length+1) c9)):=by
 obtain⟨WF,G⟩:=zE (w9.setCell ⟨T,4,tM⟩ (tU a9 (C.length+1) c9));rw[G];have up:Ext (·=T) w9 WF:=by rw[<-G];exact Ext.set1 w9 T 4 _
 have t:Ext (λq=>q=T\/(ci s.fA C.length s.fC).ownBlock=tG q) w WF:=(ue.mono (λq h=> .inr h)).trans up (λq h=> .inl (.inl h));have y:∀q,(q=T\/(ci s.fA C.length s.fC).ownBlock=tG q)->lg T C.length Y.length s q:=λq z=>z.imp id .inl;have j:(C++[xs]).length=C.length+1:=by simp
 have vm:=aa h.row;have ux:WF.heap[T]?=tG (uc (I7 m lv m.ptrs.length N {s with fA:=a9,fC:=c9,vals:=s.vals++[tU ao xs.length cp]} (C.length+1) Y.length) 134 (0,0)):=by
  rw[<-G];exact bk w9 T 4 _ _ _ (ue.heap h.row (λe=>h.d1 _ e rfl))
 have ur:∀k,lg T (C.length+1) Y.length {s with fA:=a9,fC:=c9,vals:=s.vals++[tU ao xs.length cp]} k->lg T C.length Y.length s k\/w.heap.size<=k:=λk d=>by
  rcases d with f|f|f
  ·exact .inl (.inl f)
  ·exact(x k f).imp (λe=> .inr (.inl e)) id
  ·exact .inl (.inr (.inr f))
 have J:∀k,k<w.heap.size->¬lg T C.length Y.length s k->¬lg T (C.length+1) Y.length {s with fA:=a9,fC:=c9,vals:=s.vals++[tU ao xs.length cp]} k:=λk f A u=>by
  rcases ur k u with h|h
  ·exact A h
  ·omega
 refine⟨{s with fA:=a9,fC:=c9,vals:=s.vals++[tU ao xs.length cp]},⟨?_, ?_, ?_, ?_,⟨?_, ?_⟩, ?_, ?_, ?_, ?_,h.lo,by rw[j];exact hl,h.lY⟩,t.mono y, ?_⟩
 ·rw[j];exact ux
 ·exact ah h.prow t (λk d e=>h.d4 k d (y k e))
 ·rw[j];exact ah uv up (λk d e=>by
   subst e;rcases x _ d with f|f
   ·exact h.d1 _ f rfl
   ·omega)
 ·exact ah h.yrow t (λk d e=>by
   rcases e with e|e
   ·exact h.d2 k d e
   ·exact h.d3 k e d)
 ·simp[h.cls.1]
 ·intro k c o
  rw[j];rw[rh] at o
  by_cases d:k<C.length
  ·rw[cI d] at o
   obtain⟨vc,vd,f,A,u⟩:=h.cls.2 k c o;refine⟨vc,vd,by rw[mB (by have:=(bl.1 f).1;omega)];exact f,cu A t (λa g e K=>(u g a e).2 (y _ K)),λg a e=>⟨(u g a e).1,J _ ?_ (u g a e).2⟩⟩;obtain⟨b,vf,v,R,_⟩:=A g;rw[e] at v;obtain rfl:=cE v;exact R
  ·rw[bx d] at o
   obtain⟨vp,rfl⟩:k-C.length=0/\xs=c:=by
    cases z:k-C.length with
    |zero=>rw[z] at o;exact⟨rfl,by simpa using o⟩
    |succ q=>rw[z] at o;simp at o
   have vh:k=s.vals.length:=by rw[h.cls.1];omega
   refine⟨ao,cp,by rw[vh];simp,cu hx t (λa g e K=>(E g a e).2 (y _ K)),λg a e=>⟨(E g a e).1,J _ ?_ (E g a e).2⟩⟩;obtain⟨b,vf,v,R,_⟩:=hx g;rw[e] at v;obtain rfl:=cE v;exact R
 ·intro k d e
  rw[j] at d;rcases x k d with f|f
  ·exact h.d1 k f e
  ·omega
 ·exact h.d2
 ·intro k d e
  rw[j] at d;rcases x k d with f|f
  ·exact h.d3 k f e
  ·have:=(h.yrow.lt k e).2;omega
 ·intro k d
  rw[j];exact J k (h.prow.lt k d).2 (h.d4 k d)
 ·intro k d
  rw[j] at d;exact ur k d
theorem II {y:aw×aw}{a9:cG fS}{c9:bh}(h:Rb T m lv N C Y B s w)
  (R:w9.ownsRow B 61 2 (tU a9 (Y.length+1) c9) (Y.length+1) (Y.flatMap qh++qh y))(A:Ext (λq=>(ci s.yA Y.length s.yC).ownBlock=tG q) w w9)
  (t:∀k,(ci a9 (Y.length+1) c9).ownBlock=tG k->(ci s.yA Y.length s.yC).ownBlock=tG k\/w.heap.size<=k)(hl:Y.length+1<=1000000):
  fD T m lv N C (Y++[y]) B (lg T C.length Y.length s) w (w9.setCell ⟨T,5,tM⟩ (tU a9 (Y.length+1) c9)):=by
 obtain⟨WF,x⟩:=zE (w9.setCell ⟨T,5,tM⟩ (tU a9 (Y.length+1) c9));rw[x];have E:Ext (·=T) w9 WF:=by rw[<-x];exact Ext.set1 w9 T 5 _
 have u:Ext (λq=>q=T\/(ci s.yA Y.length s.yC).ownBlock=tG q) w WF:=(A.mono (λq h=> .inr h)).trans E (λq h=> .inl (.inl h));have z:∀q,(q=T\/(ci s.yA Y.length s.yC).ownBlock=tG q)->lg T C.length Y.length s q:=λq hq=>hq.imp id .inr;have g:(Y++[y]).length=Y.length+1:=by simp
 have uv:=aa h.row;have ue:WF.heap[T]?=tG (uc (I7 m lv m.ptrs.length N {s with yA:=a9,yC:=c9} C.length (Y.length+1)) 134 (0,0)):=by
  rw[<-x];exact bk w9 T 5 _ _ _ (A.heap h.row (λe=>h.d2 _ e rfl))
 have G:∀k,lg T C.length (Y.length+1) {s with yA:=a9,yC:=c9} k->lg T C.length Y.length s k\/w.heap.size<=k:=λk d=>by
  rcases d with f|f|f
  ·exact .inl (.inl f)
  ·exact .inl (.inr (.inl f))
  ·exact(t k f).imp (λe=> .inr (.inr e)) id
 have J:∀k,k<w.heap.size->¬lg T C.length Y.length s k->¬lg T C.length (Y.length+1) {s with yA:=a9,yC:=c9} k:=λk f v j=>by
  rcases G k j with h|h
  ·exact v h
  ·omega
 refine⟨{s with yA:=a9,yC:=c9},⟨?_, ?_, ?_, ?_,⟨h.cls.1, ?_⟩,h.d1, ?_, ?_, ?_,h.lo,h.lC,by rw[g];exact hl⟩,u.mono z, ?_⟩
 ·rw[g];exact ue
 ·exact ah h.prow u (λk d e=>h.d4 k d (z k e))
 ·exact ah h.frow u (λk d e=>by
   rcases e with e|e
   ·exact h.d1 k d e
   ·exact h.d3 k d e)
 ·rw[g,gn]
  simp only[fW,List.flatMap_nil,ej];exact ah R E (λk d e=>by
   subst e;rcases t _ d with f|f
   ·exact h.d2 _ f rfl
   ·omega)
 ·intro k c hc
  rw[g];obtain⟨up,ur,f,v,j⟩:=h.cls.2 k c hc;refine⟨up,ur,f,cu v u (λa o e he=>(j o a e).2 (z _ he)),λo a e=>⟨(j o a e).1,J _ ?_ (j o a e).2⟩⟩;obtain⟨b,ux,K,e2,_⟩:=v o;rw[e] at K;obtain rfl:=cE K;exact e2
 ·intro k d e
  rw[g] at d;rcases t k d with f|f
  ·exact h.d2 k f e
  ·omega
 ·intro k d e
  rw[g] at e;rcases t k e with f|f
  ·exact h.d3 k d f
  ·have:=(h.frow.lt k d).2;omega
 ·intro k d
  rw[g];exact J k (h.prow.lt k d).2 (h.d4 k d)
 ·intro k d
  rw[g] at d;exact G k d
end
section
variable {T:bh}{m:Mo}{lv:cG fS×bh}{N:aw}{C:bj (bj aw)}{Y:bj (aw×aw)}{B:bh}{s:Gu}{w w' W w2 w9:World}
theorem Dj (w:World)(h:Rb T m lv N C Y B s w)(xs:bj aw)(ao:cG fS)(cp:bh)(G:dH w ao xs)(J:xs≠[]->∀a,ao=tG a->B<=a.block/\¬lg T C.length Y.length s a.block)(f v:aw)(hl:C.length+1<=1000000)(ux:Y.length+1<=1000000):
  ge am 61 #[tW (tG ⟨T,0,tM⟩),Z U f,Z U v,tU ao xs.length cp] w λe w'=>e= ud (.tuple #[])/\fD T m lv N (C++[xs]) (Y++[(f,v)]) B (lg T C.length Y.length s) w w':=by
 have A:=h.row;have vu:=aa A;have K:B<=w.heap.size:=by have:=h.lo;omega
 have c4:w.cell? ⟨T,4,tM⟩=tG (tU s.fA C.length s.fC):=(rowAt A 4 rfl).1;obtain⟨i0,vc,vd,vf,vh⟩:=kB ES;obtain⟨j0,vm,vp,vq,vr⟩:=kB ET;have H:=zH h;have R:=zH G;have ue:=zH J;clear h G J A;go_enter func61,ntmps61
 go_upto_region 1 with(at_builtin;refine gF rfl (.tmp 13) (.tmp 15) 46 rfl B 35 i0 _ 1 24 rn vc vd vf vh rfl (by decide) _ C.length s.vals rfl H.out.frow w.heap.size #[tU ao xs.length cp] rfl rfl rfl (by simp[ct]) (by unfold eC;omega) (by omega) K ?_;intro v9 w9 g j o;obtain⟨a9,c9,rfl⟩:=aC g;have d:=j.heap H.out.row (λe=>H.out.d1 _ e rfl);have up:=(rowAt d 4 rfl).2;have ur:=(rowAt d 4 rfl).1;have uv:=aa d;have t:=zH (EU H.out R.out ue.out g j o hl);clear g j o d c4)
 obtain⟨s1,u,x,n1⟩:=t.out;obtain⟨W1,E⟩:=zE (w9.setCell ⟨T,4,tM⟩ (tU a9 (C.length+1) c9));rw[E] at u x;rw[E];have vt:B<=W1.heap.size:=eJ K x.size;have c5:W1.cell? ⟨T,5,tM⟩=tG (tU s1.yA Y.length s1.yC):=(rowAt u.row 5 rfl).1;have z:=zH u;have E1:=zH x;have N1:=zH n1;clear u x n1 E uv ur up t H R ue
 go_wp2_with (at_builtin;refine gF rfl (.tmp 24) (.tmp 28) 53 rfl B 61 j0 _ 2 16 underlying53 vm vp vq vr rfl (by decide) _ Y.length (Y.flatMap qh) rfl z.out.yrow W1.heap.size #[Z U f,Z U v] rfl rfl rfl (by simp[ct]) (by unfold eC;omega) (by omega) vt ?_;intro v9 w9 g j o;obtain⟨a9,c9,rfl⟩:=aC g;have d:=j.heap z.out.row (λe=>z.out.d2 _ e rfl);have up:=(rowAt d 5 rfl).2;have ur:=(rowAt d 5 rfl).1;have uv:=aa d;have t:=zH (II (y:=(f,v)) z.out g j o ux);clear g j o d c5)
 go_end0
 refine⟨rfl, ?_⟩;obtain⟨s2,q1,q2,q3⟩:=t.out;refine⟨s2,q1,E1.out.trans q2 (λq hq=>N1.out q hq),λk hk=> ?_⟩;rcases q3 k hk with h|h
 ·exact N1.out k h
 ·exact .inr (eJ E1.out.size h)
theorem Gp (w:World)(h:Rb T m lv N C Y B s w)(f v:aw)(hp:m.ptrs.length<=1000000):
  zS 113 #[tW (tG ⟨T,0,tM⟩),Z U f,Z U v] w (Z U (aG 0 m.ptrs (f,v))):=by
 obtain⟨P,R⟩:=zE m.ptrs;have vd:=aa h.row;have c2:w.cell? ⟨T,2,tM⟩=tG (tU lv.1 m.ptrs.length lv.2):=(rowAt h.row 2 rfl).1;have u:=h.prow;rw[R] at c2 u hp⊢;obtain⟨z,y⟩:=zE (aG 0 P (f,v));rw[y];have HZ:=zH y;have A:=zH u;obtain⟨ao,cap⟩:=lv;clear h y R u;simp only at c2 A;have vf:am.eqGuardType am.depth 67=tR:=by kernel_rfl
 go_enter func113,ntmps113
 go_wp2_with fail
 go_loopw [7] (λc wr=>∃j:bh,j<=P.length/\c= Z U (j:aw)/\wr=w/\∀q,q<j->P[q]? ≠tG (f,v)) (λc _=>P.length-(de c).toNat)
 case atStart=>exact⟨0,cN _,rfl,rfl,λq h=>fL h (oR _)⟩
 case round=>
  obtain⟨j,hj,rfl,rfl,d⟩:=hrel
  by_cases ur:j<P.length
  ·have vh:(j:aw)<(P.length:aw):=by omega
   obtain⟨x,o⟩:∃x,P[j]?=tG x:=⟨_,ap ur⟩
   obtain⟨E,G⟩:=Bo o;obtain⟨g1,rfl,_,d1⟩:=mM A.out E;obtain⟨g2,x2,_,d2⟩:=mM A.out G;simp only[dd,eR,pf] at x2;subst x2;have ue:=Gn x.1 x.2 f v
   by_cases g:x=(f,v)
   ·have t:(x.1==f&&x.2==v)=tP:=by rw[g];simp
    obtain rfl:2*(j:aw)+1=z:=by rw[<-HZ.out,qQ (by rw[o,g]) d,cL]
    rw[t] at ue;have vm:dT.wrap (2*(j:aw))=2*(j:aw):=by simp[eK,eL,ep];omega
    have vp:dT.wrap (2*(j:aw)+1)=2*(j:aw)+1:=by simp[eK,eL,ep];omega
    clear o d E G t g;go_wp2;go_ret;exact⟨rfl,rfl⟩
   ·have t:(x.1==f&&x.2==v)=tR:=by
     rw[Bool.eq_false_iff];intro h;simp only[fj,tt] at h;exact g (Prod.ext h.1 h.2)
    rw[t] at ue;have HX:=zH o;have uv:=zH d;have ux:=zH g;clear o d E G t g;go_wp2;go_roundw
    case rel=>
     refine⟨j+1,by omega,by go_num,trivial,λq J K=> ?_⟩
     by_cases e:q=j
     ·rw[e,HX.out] at K;exact ux.out (cE K)
     ·exact uv.out q (by omega) K
    case measure=>simp[de];omega
  ·have vc:j=P.length:=by omega
   subst vc;have up:(f,v)∉P:=λh=>by
    obtain⟨q,J⟩:=te.1 h;exact d q (bl.1 J).1 J
   obtain rfl:0=z:=by rw[<-HZ.out,kD up]
   clear d up;go_wp2;go_ret;exact⟨rfl,rfl⟩
end
theorem ze {succ:bh->bj bh}{Pd:bh->Prop}{n:bh}(d:bj bh):∀(t:bj bh),t.Nodup->(∀x∈t,x<n)->(∀x∈t,Pd x)->(∀y∈d,y<n/\Pd y)->t.length+qx n t<=n->
  (aK t d).Nodup/\(∀x∈aK t d,x<n)/\(∀x∈aK t d,Pd x)/\(∀y∈d,y∈aK t d)/\t<+:aK t d/\(aK t d).length+qx n (aK t d)<=n:=by
 induction d with
 |nil=>intro t o q v _ A;exact⟨o,q,v,by simp,pN,A⟩
 |cons y d ih=>
  intro t o q v E A;have e:aK t (y::d)=aK (if y∈t then t else t++[y]) d:=rfl;rw[e]
  by_cases h:y∈t
  ·rw[cI h]
   obtain⟨G,J,K,R,j,q6⟩:=ih t o q v (λz f=>E z (ie _ f)) A;refine⟨G,J,K,λz f=> ?_,j,q6⟩;rcases gh.1 f with rfl|f
   ·exact j.subset h
   ·exact R z f
  ·rw[bx h]
   have ue:=E y (by simp);have hu:=BL ue.1 h;obtain⟨G,J,K,R,j,q6⟩:=ih (t++[y]) (by
     rw[pn];exact⟨o,by simp,by intro z f u hu;simp at hu;subst hu;intro e;subst e;exact h f⟩)
    (by intro x g;rcases cX.1 g with g|g;exact q x g;simp at g;subst g;exact ue.1)
    (by intro x g;rcases cX.1 g with g|g;exact v x g;simp at g;subst g;exact ue.2)
    (λz f=>E z (ie _ f)) (by simp;omega)
   refine⟨G,J,K,λz f=> ?_,(List.prefix_append t [y]).trans j,q6⟩;rcases gh.1 f with rfl|f
   ·exact j.subset (by simp)
   ·exact R z f
theorem DV {succ:bh->bj bh}{Pd:bh->Prop}{n:bh}(q:∀x y,Pd x->y∈succ x->y<n/\Pd y):∀(k:bh)(t:bj bh)(i:bh),n<=k+i->i<=t.length->t.Nodup->(∀x∈t,x<n)->(∀x∈t,Pd x)->t.length+qx n t<=n->
  (∀x∈t.take i,∀y∈succ x,y∈t)->∃T,zm succ (k+1) t i=tG T/\(∀x∈T,x<n)/\(∀x∈T,Pd x)/\(∀x∈T,∀y∈succ x,y∈T)/\t<+:T/\T.length<=n
 |k,t,i,hk,hi,A,u,g,E,j=>by
  by_cases h:i<t.length
  ·have d:t[i]?=tG t[i]:=ap h
   have G:t[i]∈t:=List.getElem_mem h;cases k with
   |zero=>omega
   |succ k=>
    obtain⟨J,K,R,q4,o,q6⟩:=ze (succ:=succ) (Pd:=Pd) (n:=n) (succ t[i]) t A u g (λy e=>q _ _ (g _ G) e) E;have ue:=o.length_le;obtain⟨T,r1,r2,r3,r4,r5,r6⟩:=DV q k (aK t (succ t[i])) (i+1) (by omega) (by omega) J K R q6 (by
     intro x v y e;obtain⟨s,z⟩:=o;rw[<-z,List.take_append_of_le_length (by omega),ju,d] at v;rcases cX.1 v with f|f
     ·rw[<-z];exact cX.2 (.inl (j x f y e))
     ·simp at f;subst f;exact q4 y e)
    exact⟨T,by rw[zm,d];exact r1,r2,r3,r4,o.trans r5,r6⟩
  ·have d:t[i]?=tM:=mw (by omega)
   have ht:t.take i=t:=m5 (by omega);rw[ht] at j;exact⟨t,by rw[zm,d],u,g,j,pN,by omega⟩
def keeps (d:bj Ins)(v y:bh):mm:=match d[y]? with
 |none=>tR
 |some i=> !((az i).2&&((az i).1==(v:aw)))
def mO (d:bj Ins)(v y:bh):mm:=match d[y]? with
 |none=>tR
 |some i=>decide ((v:aw)∈readsOf i)
def jW (d:bj Ins)(v x:bh):bj bh:=(aB d x).filter (keeps d v)
def dG (d:bj Ins)(v j:bh):bj bh:=(du j).filter (mO d v)
theorem Bp {n:bh}(p:bh->mm):((du n).filter p).length+qx n ((du n).filter p)<=n:=by
 unfold qx;have h:∀(l:bj bh)(q r:bh->mm),(∀x∈l,r x=tP->q x=tR)->(l.filter q).length+(l.filter r).length<=l.length:=by
  intro l q r
  induction l with
  |nil=>simp
  |cons x l ih=>
   intro d;have:=ih (λy g=>d y (ie _ g));have e:=d x (by simp);rw[ks,ks];cases t:q x<;>cases f:r x<;>simp_all<;>omega
 have:=h (du n) p (λx=>decide (x∉(du n).filter p)) (by
  intro x e f;have j:=m7 f;cases o:p x with
  |false=>rfl
  |true=>exact fL (gC.2 ⟨e,o⟩) j)
 simpa using this
theorem DW (d:bj Ins)(v:bh):∃T,zm (jW d v) (d.length+1) (dG d v d.length) 0=tG T/\(∀x,x∈T↔nG d v x)/\T.length<=d.length/\∀x∈T,x<d.length:=by
 obtain⟨T,h,f,o,q,u,z⟩:=DV (succ:=jW d v) (Pd:=nG d v) (n:=d.length) (by
   intro x y g A;obtain⟨j,f⟩:=gC.1 A;obtain⟨o,q⟩:=(di d y x).1 j;refine⟨o, ?_⟩;obtain⟨i,hi⟩:∃i,d[y]?=tG i:=⟨_,ap o⟩
   refine .pass hi (λ⟨a,b⟩=> ?_) q g;unfold keeps at f;rw[hi] at f;simp[a,b] at f) d.length (dG d v d.length) 0 (by omega) (cN _) (List.nodup_range.filter _) (by intro x g;have:=(gC.1 g).1;simpa using this) (by
   intro x g;have:=(gC.1 g).2;unfold mO at this
   split at this
   ·simp at this
   ·rename_i i hi;exact .read hi (m7 this)) (Bp _) (by simp)
 refine⟨T,h,λx=>⟨o x,λg=> ?_⟩,z,f⟩
 induction g with
 |@read x i j f=>
  refine u.subset (gC.2 ⟨by simpa using(bl.1 j).1, ?_⟩);unfold mO;rw[j];exact cV f
 |@pass x y i j f o _ ih=>
  refine q _ ih x (gC.2 ⟨(di d x y).2 ⟨(bl.1 j).1,o⟩, ?_⟩);unfold keeps;rw[j];cases t:(az i).2 with
  |false=>simp[t]
  |true=>simp[t];exact λe=>f ⟨t,e⟩
theorem gK.read {w:World}{R n:bh}{d:bh->bj bh}(h:gK w R n (R+1) (λ_=>me) d):R<w.heap.size/\∀y,y<n->∃ao cap,w.cell? ⟨R,y,tM⟩=tG (tU ao (d y).length cap)/\∀(q z:bh),(d y)[q]?=tG z->∃g,ao=tG ⟨g,0,tM⟩/\R<g/\g<w.heap.size/\w.cell? ⟨g,q,tM⟩=tG (Z U (z:aw)):=by
 obtain⟨vals,_,G,f,_,x,_⟩:=h;refine⟨(br.1 f).1,λy J=> ?_⟩;obtain⟨v,j⟩:∃v,vals[y]?=tG v:=⟨_,mx (by omega)⟩
 have o:=x y v j;obtain⟨ao,cap,rfl⟩:=o.isSlice;have t:(ints (d y)).length=(d y).length:=by simp[ints]
 refine⟨ao,cap,by rw[bw _ _ _ _ _ _ f,j,t],λq z u=> ?_⟩;obtain⟨g,e,K,A,E⟩:=o.shape (by rw[t];have:=(bl.1 u).1;omega);exact⟨g,e,by omega,A,E q z (by simp[ints,u])⟩
theorem uo (w:World)(c:bh)(ao:cG fS)(xs:bj aw)(z:aw)(G:xs.length<=90000)(h:ak w ao xs):
  ge am 196 #[Z U z,tU ao xs.length c] w λe w'=>e= ud (ua (decide (z∈xs)))/\w=w':=by
 have H:=cP h;clear h;go_enter func196,ntmps196
 go_wp2_with fail
 go_loop [5] (λk=>∃j:bh,j<=xs.length/\k= Z U (j:aw)/\z∉xs.take j) (λk=>xs.length-(de k).toNat)
 case atStart=>exact⟨0,cN _,rfl,by simp⟩
 case round=>
  obtain⟨j,J,rfl,d⟩:=hrel
  by_cases o:j<xs.length
  ·obtain⟨y,g⟩:∃y,xs[j]?=tG y:=⟨_,ap o⟩
   obtain⟨u,v,rfl,K,q⟩:=H.out (by intro e;rw[e] at o;simp at o);have d1:w.cell? ⟨u,v+j,tM⟩=tG (Z U y):=q j y g;have R:(j:aw)<(xs.length:aw):=by omega
   by_cases f:y=z
   ·have x:(y==z)=tP:=by simp[f]
    have t:cj (decide (z∈xs)=tP):=cV (by rw[<-f];exact cd g);clear g q d f;go_wp2;go_ret;exact⟨by rw[t.out];rfl,rfl⟩
   ·have x:(y==z)=tR:=by simp[f]
    have A:cj (z∉xs.take (j+1)):=by
     unfold cj;rw[ju,g];simp[d];exact λe=>f e.symm
    clear g q d f;go_wp2
    go_round
    case rel=>exact⟨j+1,by omega,by go_num,A.out⟩
    case measure=>simp[de];omega
  ·have E:j=xs.length:=by omega
   subst E;rw[cR] at d;have t:cj (decide (z∈xs)=tR):=cv d;clear d;go_wp2;go_ret;exact⟨by rw[t.out];rfl,rfl⟩
theorem qR (c:dx)(x:bh)(w:World)(d:cZ w w.heap.size c.insA c.ins)(e:x<c.ins.length)(f:c.ins.length<=90000):
  ge am 151 #[ub c.cells,Z U (x:aw)] w (fK w (ints (aU c.ins x))):=by
 have h:c.ins[x]?=tG c.ins[x]:=ap e;rw[rW h];exact CV c x _ w d h (by omega)
theorem vS (c:dx)(w:World)(ws:cZ w w.heap.size c.insA c.ins)(hn:c.ins.length<=90000):
  ge am 197 #[ub c.cells] w (tJ w c.ins.length (aB c.ins)):=by
 obtain⟨nm,G,J,K,R,rp,ue,up,ur,uv,ux,insA,t,ins⟩:=c;simp only at hn ws;simp only[dx.cells];obtain⟨i0,hi,yq,yr,yv⟩:=kB wO;have yy:=cP ws;clear ws;go_enter func197,ntmps197
 go_wp2_with (at_make;refine d9 rfl (.tmp 9) (.tmp 9) 46 rfl 35 i0 (tU tM 0 0) rn hi yq yr rfl .i64 .i64 _ _ ins.length rfl rfl rfl rfl (by rw[yv];omega) (by unfold eC;omega) ?_)
 obtain⟨N,hN⟩:∃N,w.heap.size=N:=⟨_,rfl⟩
 obtain⟨o,vf⟩:∃o,(w.alloc (uc #[tS nm,Z U G,tU J K R,ua rp,tS ue,Z U up,tU ur uv ux,tU insA ins.length t] 38)).alloc (uc (eI ins.length (ci tM 0 0)) 35)=o:=⟨_,rfl⟩
 have yW:Ext (λ_=>me) w o:=by rw[<-vf];exact((Ext.refl _ w).alloc _).alloc _
 have zc:o.heap[N]?=tG (uc #[tS nm,Z U G,tU J K R,ua rp,tS ue,Z U up,tU ur uv ux,tU insA ins.length t] 38 (0,0)):=by
  rw[<-vf,<-hN,cJ _ _ _ (by simp)];exact alloc_at _ _
 have zj:o.heap[N+1]?=tG (uc (eI ins.length (ci tM 0 0)) 35 (0,0)):=by
  rw[<-vf,<-hN];have:=alloc_at (w.alloc (uc #[tS nm,Z U G,tU J K R,ua rp,tS ue,Z U up,tU ur uv ux,tU insA ins.length t] 38)) (uc (eI ins.length (ci tM 0 0)) 35)
  rwa [World.size_alloc] at this
 have zp:o.heap.size=N+2:=by rw[<-vf];simp[hN]
 have zs:gK o (N+1) ins.length (N+2) (λ_=>me) (λ_=>[]):=by
  have q:∀(i:bh)(v:cA),(eI ins.length (ci tM 0 0))[i]?=tG v->v=ci tM 0 0:=by
   intro i v h;rw[Array.getElem?_replicate] at h
   split at h
   ·exact(cE h).symm
   ·simp at h
  refine⟨_,λ_ _ _ _ _ h=>h,by simp,zj,by omega,λi v h=>by rw[q i v h];exact aL.nil _ _,λi j k f vj _ h1 _ h3=>by rw[q i f h1] at h3;simp[et] at h3⟩
 rw[vf,hN];have vr:=cP yW;have HC:=cP zc;have A0:=cP zs;have HS:=cP zp;clear vf yW zc zj zp zs hi yq yr yv
 go_loopw [4] (λc wr=>He ins (N+1) o c wr) (λc _=>ins.length-(de c).toNat)
 case atStart=>exact⟨0,cN _,rfl,A0.out,λ_=>by simp,Ext.refl _ _⟩
 case round=>
  obtain⟨j,hj,rfl,E,xf,hx⟩:=hrel
  by_cases A1:j<ins.length
  ·have vh:=hx.heap HC.out (by omega)
   have d:∀q v,((⟨nm,G,J,K,R,rp,ue,up,ur,uv,ux,insA,t,ins⟩:dx).cells)[q]?=tG v->wr.cell? ⟨N,q,tM⟩=tG v:=λq v h=>by rw[bw _ _ _ _ _ _ vh];exact h
   have k0:wr.cell? ⟨N,0,tM⟩=tG (tS nm):=d 0 _ rfl;have k1:wr.cell? ⟨N,1,tM⟩=tG (Z U G):=d 1 _ rfl;have k2:wr.cell? ⟨N,2,tM⟩=tG (tU J K R):=d 2 _ rfl;have k3:wr.cell? ⟨N,3,tM⟩=tG (ua rp):=d 3 _ rfl;have k4:wr.cell? ⟨N,4,tM⟩=tG (tS ue):=d 4 _ rfl;have k5:wr.cell? ⟨N,5,tM⟩=tG (Z U up):=d 5 _ rfl;have k6:wr.cell? ⟨N,6,tM⟩=tG (tU ur uv ux):=d 6 _ rfl;have k7:wr.cell? ⟨N,7,tM⟩=tG (tU insA ins.length t):=d 7 _ rfl;have zv:cZ wr wr.heap.size insA ins:=((yy.out.ext vr.out (cg _) (λ_ _ _ h=>h)).ext hx (by have:=vr.out.size;omega) (λa vq ha h=>by
    obtain⟨b,CN,e,CT,_⟩:=yy.out vq;rw[ha] at e;obtain rfl:=cE e;simp only at h;omega)).mono (by have:=hx.size;have:=vr.out.size;omega)
   have An:=cP (qR ⟨nm,G,J,K,R,rp,ue,up,ur,uv,ux,insA,t,ins⟩ j wr zv A1 hn);have At:=cP hx;have A2:=cP E;have Ax:=cP xf;have C4:(j:aw)<(ins.length:aw):=by omega
   clear hx E xf vh d zv
   go_wp2_with (go_at_call 151;refine An.out.mono ?_;rintro e w2 ⟨A3,vt,rfl,vu,AD⟩)
   obtain⟨u,xj⟩:∃u,u=(du j).foldl (gu ins) (λ_=>[]):=⟨_,rfl⟩
   obtain⟨A,hA⟩:∃A:bh->Prop,A=λk=>(ci A3 (ints (aU ins j)).length vt).ownBlock=tG k:=⟨_,rfl⟩
   have xo:Ext (λ_=>me) wr w2:=Ext.of_below_size AD;have A4:cj (AU ins (N+1) o w2 j u A (Z U 0) w2):=by
    refine⟨0,cN _,rfl, ?_,λi=>by simp,At.out.trans xo (λ_ h=>h.elim),λk d=> ?_⟩
    ·rw[xj]
     exact(A2.out.fresh (A':=A) (λk d=>by rw[hA] at d;exact(vu.lt k d).1)).ext xo (λ_ _ _ h=>h)
    ·rw[hA] at d;exact⟨(vu.lt k d).2,rfl⟩
   have AE:=cP vu;have HA:=cP hA;have xp:=cP xj;clear vu AD xo hA xj k0 k1 k2 k3 k4 k5 k6 k7 An
   go_loopw [6] (λc A5=>AU ins (N+1) o w2 j u A c A5) (λc _=>(aU ins j).length-(de c).toNat)
   case atStart=>exact A4.out
   case round=>
    obtain⟨q,hq,rfl,E,vd,vx,vy⟩:=hrel;have AF:(ints (aU ins j)).length=(aU ins j).length:=by simp[ints]
    by_cases A6:q<(aU ins j).length
    ·obtain⟨y,hy⟩:∃y,(aU ins j)[q]?=tG y:=⟨_,ap A6⟩
     have C5:y<ins.length:=lh (cd hy);obtain⟨z,rfl,C6,C7,AH⟩:=AE.out.shape (by omega);have hA2:A z:=by rw[HA.out];rfl
     have xt:=vy z hA2;have Bk:wr.cell? ⟨z,q,tM⟩=tG (Z U (y:aw)):=by rw[World.cell?_of_block (w:=w2) xt.2];exact AH q y (by simp[ints,hy])
     obtain⟨vals,AI,AK,we,Dd,wg,AM⟩:=E;obtain⟨f,wj⟩:∃f,vals[y]?=tG f:=⟨_,mx (by omega)⟩
     have vh:wr.cell? ⟨N+1,y,tM⟩=tG f:=by rw[bw _ _ _ _ _ _ we];exact wj
     have Dg:(y:aw)<(ins.length:aw):=by omega
     have Do:(q:aw)<((aU ins j).length:aw):=by omega
     have Ds:q<2:=by have:=fF ins j;omega
     obtain⟨rs,xF⟩:∃rs,rs=((aU ins j).take q).foldl (dU j) u:=⟨_,rfl⟩
     rw[<-xF] at wg vd;have AN:((aU ins j).take (q+1)).foldl (dU j) u=dU j rs y:=by rw[ju,hy,xF,jx];rfl
     have AS:=wg y f wj;have Bm:(ints (rs y)).length=(rs y).length:=by simp[ints]
     have DA:(rs y).length<=180002:=by have h1:=vd y;have h2:=Ax.out y;rw[<-xp.out] at h2;omega
     obtain⟨j0,Bs,By,BE,BT⟩:=kB fe;rw[AF];have xT:=cP AI;have yb:=cP we;have BY:=cP wg;have B5:=cP AM;have wk:=cP wj;have wl:=cP AS;have AT:=cP AN;have B6:=cP vd;have B7:=cP vx;have AW:=cP vy;have B8:=cP AK;have DB:N+1<wr.heap.size:=(br.1 we).1;have B9:z<wr.heap.size:=xt.1;clear AI we wg AM wj AS AN vd vx vy AH xt xF AK;have HG:cj (∀g:World,(wr.drew.alloc (uc #[Z U (j:aw)] 3)).grownBy g f.ownBlock->g.cell? ⟨N+1,y,tM⟩=tG f/\g.frozen? ⟨N+1,y,tM⟩=tR/\g.cell? ⟨z,q,tM⟩=tG (Z U (y:aw))):=by
      intro g vm;have vq:f.ownBlock≠tG (N+1):=λe=>by have:=(wl.out.lt _ e).1;omega
      have vc:Ext (λk=>f.ownBlock=tG k) wr g:=((Ext.refl _ wr).drew.alloc _).trans (Ext.of_grown (M:=λk=>f.ownBlock=tG k) vm (λk d=> .inl d)) (λj hj=> .inl hj);have yd:=vc.heap yb.out vq;exact⟨by rw[bw _ _ _ _ _ _ yd];exact wk.out,ei _ _ _ _ _ yd,by rw[World.cell?_of_block (w:=wr) (vc.block z B9 (λh=>xT.out y f z wk.out h hA2))];exact Bk⟩
     have HF:cj (∀(g3 vp:bh)(g:World),g.ownsRow (N+2) 3 1 (tU (tG ⟨g3,0,tM⟩) ((ints (rs y)).length+1) vp) ((ints (rs y)).length+1) ((ints (rs y)).map (eS .i64)++[Z U (j:aw)])->(wr.drew.alloc (uc #[Z U (j:aw)] 3)).grownBy g f.ownBlock->
       (f.ownBlock=tG g3\/g3=(wr.drew.alloc (uc #[Z U (j:aw)] 3)).heap.size)->AU ins (N+1) o w2 j u A (Z U ((q:aw)+1)) (g.setCell ⟨N+1,y,tM⟩ (tU (tG ⟨g3,0,tM⟩) ((rs y).length+1) vp))):=by
      intro g3 vp g ye vm yi;have vq:f.ownBlock≠tG (N+1):=λe=>by have:=(wl.out.lt _ e).1;omega
      have vc:Ext (λk=>f.ownBlock=tG k) wr g:=((Ext.refl _ wr).drew.alloc _).trans (Ext.of_grown (M:=λk=>f.ownBlock=tG k) vm (λk d=> .inl d)) (λj hj=> .inl hj);have yd:=vc.heap yb.out vq;have Cd:aL g (N+2) (tU (tG ⟨g3,0,tM⟩) ((rs y).length+1) vp) (ints (rs y++[j])):=by
       have e:ints (rs y++[j])=ints (rs y)++[(j:aw)]:=by simp[ints]
       rw[e];refine aL.app ?_;simpa[Bm] using ye
      have Cl:=gK.app (x:=j) (i:=y) (λk d=>(AW.out k d).1) xT.out B8.out yb.out (by omega) BY.out B5.out wk.out vc Cd (yi.imp id (λh=>by rw[h,World.size_alloc];exact i5 _));have Cp:∀k,f.ownBlock=tG k->N+2<=k:=λk h=>(wl.out.lt k h).1;have HR:cj (AU ins (N+1) o w2 j u A (Z U ((q:aw)+1)) (g.setCell ⟨N+1,y,tM⟩ (tU (tG ⟨g3,0,tM⟩) ((rs y).length+1) vp))):=by
       refine⟨q+1,by omega,by simp,by rw[AT.out];exact Cl,λi=> ?_, ?_,λk d=> ?_⟩
       ·rw[AT.out]
        have h1:=B6.out i;unfold dU
        by_cases e:i=y
        ·subst e;rw[cI rfl];simp;omega
        ·rw[bx e];omega
       ·exact(B7.out.trans vc (λk d=> .inl (by have:=Cp k d;omega))).trans (Ext.set1 _ _ _ _) (λk d=> .inl (by omega))
       ·have h1:=AW.out k d
        have h2:¬f.ownBlock=tG k:=λh=>xT.out y f k wk.out h d;have h3:=vc.size;refine⟨by rw[World.size_setCell];omega, ?_⟩;have h4:k≠N+1:=by
         intro e;subst e;have:=(AE.out.lt (N+1) (by have h5:=d;rw[HA.out] at h5;exact h5)).1;have:=At.out.size;have:=HS.out;omega
        rw[heap_setCell_other _ _ _ _ (by exact h4),vc.block k h1.1 h2];exact h1.2
      exact HR.out
     have CA:cj ((wr.drew.alloc (uc #[Z U (j:aw)] 3)).ownsRow (N+2) 3 1 f (ints (rs y)).length ((ints (rs y)).map (eS .i64))):=ownsRow_below wl.out ((aq wr.heap.size wr).drew.alloc (cg _) _);obtain⟨yk,yp⟩:∃yk:World->Prop,yk=AU ins (N+1) o w2 j u A (Z U ((q:aw)+1)):=⟨_,rfl⟩
     rw[<-yp] at HF;have CC:=cP yp;clear yp
     go_upto_region 9 with(fail)
     refine DZ (λa w'=>∃v27 v28 v29 v30 v31 v32 v33 v34 v35 v36 v37 v38 v39 v40 v41 v42:cA,a={tmps:=#[ub #[tS nm,Z U G,tU J K R,ua rp,tS ue,Z U up,tU ur uv ux,tU insA ins.length t],tW (tG ⟨N,0,tM⟩),tU tM 0 0,tU (tG ⟨N+1,0,tM⟩) ins.length ins.length,Z U (j:aw),tU (tG ⟨z,0,tM⟩) (aU ins j).length vt,Z U (q:aw),tW (tG ⟨N,7,tM⟩),tU insA ins.length t,Z U (ins.length:aw),tU (tG ⟨N+1,0,tM⟩) ins.length ins.length,Z U (j:aw),tW (tG ⟨N,7,tM⟩),tU insA ins.length t,Z U (ins.length:aw),ua tP,u16,u17,ub #[tS nm,Z U G,tU J K R,ua rp,tS ue,Z U up,tU ur uv ux,tU insA ins.length t],Z U (j:aw),tU (tG ⟨z,0,tM⟩) (aU ins j).length vt,Z U (q:aw),tU (tG ⟨z,0,tM⟩) (aU ins j).length vt,Z U ((aU ins j).length:aw),ua tP,u25,u26,v27,v28,v29,v30,v31,v32,v33,v34,v35,v36,v37,v38,v39,v40,v41,v42,undef],defers:=[]}/\yk w') ?_ ?_
     ·rintro a w' ⟨v27,v28,v29,v30,v31,v32,v33,v34,v35,v36,v37,v38,v39,v40,v41,v42,rfl,hm⟩
      rw[CC.out] at hm;have CD:=cP hm;clear hm;dsimp only;go_wp2;exact⟨CD.out,by simp[de];omega⟩
     ·go_region_law
       (refine step_append_lies _ (by rfl) (.tmp 38) (.tmp 40) 35 (by rfl) (N+2) 3 j0 (Z U 0) 1 8 gb Bs By BE BT rfl (by decide) f (ints (rs y)).length _ (by rfl) CA.out ⟨wr.heap.size,0,tM⟩ 1 1 [Z U (j:aw)] (by rfl) rfl (gD _ _ _) (by simp[ct]) (by decide) (by unfold eC;omega) (by omega) (by simp;omega) _ rfl ?_
        intro g3 vp g ye vm yi DE;obtain⟨DG,DH,DM⟩:=HG.out g vm)
      all_goals exact⟨_,_,_,_,_,_,_,_,_,_,_,_,_,_,_,_,rfl,HF.out _ _ _ ye vm yi⟩
    ·have CH:q=(aU ins j).length:=by omega
     subst CH;rw[cR] at E vd;rw[AF];have hst:(du (j+1)).foldl (gu ins) (λ_=>[])=(aU ins j).foldl (dU j) u:=by rw[lp,jx,<-xp.out];rfl
     have hR:He ins (N+1) o (Z U ((j:aw)+1)) wr:=by
      refine⟨j+1,by omega,by simp,by rw[hst];exact E.weaken (λ_ h=>h.elim),λi=> ?_,vx⟩;rw[hst];have h1:=vd i;have h2:=Ax.out i;rw[<-xp.out] at h2;have:=fF ins j;omega
     have HR:=cP hR;clear hR E vd vx vy hst;go_wp2;exact⟨HR.out,by simp[de];omega⟩
  ·have CM:j=ins.length:=by omega
   subst CM;have HP:cj (tJ w ins.length (aB ins) (ud (tU (tG ⟨N+1,0,tM⟩) ins.length ins.length)) wr):=
    ⟨N+1,rfl,by omega,E,((vr.out.mono (M':=λk=>w.heap.size<=k) (λ_ h=>h.elim)).trans hx (λk d=> .inl (by omega))).below (cg _) (λ_ h=>h)⟩
   have vh:=hx.heap HC.out (by omega);have k7:wr.cell? ⟨N,7,tM⟩=tG (tU insA ins.length t):=by rw[bw _ _ _ _ _ _ vh];rfl
   clear E xf hx vh;go_wp2;go_ret;exact HP.out
theorem zf (d:bj Ins)(v j:bh):dG d v (j+1)=if mO d v j=tP then dG d v j++[j] else dG d v j:=by
 unfold dG;rw[lp,mj,ks]
 split<;>simp
theorem Bq (d:bj Ins)(v j:bh):(dG d v j).length<=j:=by
 unfold dG;exact eJ (td _ _) (by simp)
def Jh (d:bj Ins)(v N:bh)(e:World)(f c:cA)(wr:World):Prop:=
 ∃j:bh,j<=d.length/\c= Z U (j:aw)/\aL wr (N+2) f (ints (dG d v j))/\wr.heap[N+1]?=tG (uc (seenCells d.length (dG d v j)) 4 (0,0))/\Ext (λk=>N+1<=k) e wr
def Ji (d:bj Ins)(v N R:bh)(e:World)(T:bj bh)(k:bh)(f c:cA)(wr:World):Prop:=
 ∃(t:bj bh) (i:bh),zm (jW d v) k t i=tG T/\c= Z U (i:aw)/\i<=t.length/\t.length<=90000/\aL wr (N+2) f (ints t)/\wr.heap[N+1]?=tG (uc (seenCells d.length t) 4 (0,0))/\Ext (λk=>N+1<=k/\k<R) e wr/\(∀x∈t,x<d.length)/\(∀g,f.ownBlock=tG g->g<R\/e.heap.size<=g)
def I8 (d:bj Ins)(v N R:bh)(f:World)(t e:bj bh)(h c:cA)(wr:World):Prop:=
 ∃q:bh,q<=e.length/\c= Z U (q:aw)/\aL wr (N+2) h (ints (aK t ((e.take q).filter (keeps d v))))/\wr.heap[N+1]?=tG (uc (seenCells d.length (aK t ((e.take q).filter (keeps d v)))) 4 (0,0))/\Ext (λk=>N+1<=k/\k<R) f wr/\
  (∀g,h.ownBlock=tG g->g<R\/f.heap.size<=g)/\(aK t ((e.take q).filter (keeps d v))).length<=t.length+q
theorem vT (c:dx)(w:World)(v:bh)(T:bj bh)(CD:c.inn w)(CH:∀i∈c.ins,i.args.length<=40)(hn:c.ins.length<=400)(hT:zm (jW c.ins v) (c.ins.length+1) (dG c.ins v c.ins.length) 0=tG T)(JI:T.length<=90000):
  ge am 150 #[ub c.cells,Z U (v:aw)] w (kH w c.ins.length T):=by
 have F0:=cP CD;have F1:=cP CH;have HT:=cP hT;obtain⟨C,hC⟩:∃C,c=C:=⟨_,rfl⟩
 have HC:=cP hC;clear CD CH hT;obtain⟨nm,vy,we,wg,wj,rp,wk,wl,ws,xf,xj,xo,vr,ins⟩:=c;simp only at hn;simp only[dx.cells];obtain⟨n,zj⟩:∃n,ins.length=n:=⟨_,rfl⟩
 have K:=cP zj;obtain⟨i0,CM,CN,CT,C4⟩:=kB vW;obtain⟨N,hN⟩:∃N,w.heap.size=N:=⟨_,rfl⟩
 obtain⟨W0,xp⟩:∃W0,(w.alloc (uc #[tS nm,Z U vy,tU we wg wj,ua rp,tS wk,Z U wl,tU ws xf xj,tU xo n vr] 38)).alloc (uc (eI n (ua tR)) 4)=W0:=⟨_,rfl⟩
 have C5:Ext (λ_=>me) w W0:=by rw[<-xp];exact((Ext.refl _ w).alloc _).alloc _
 have C6:W0.heap[N]?=tG (uc #[tS nm,Z U vy,tU we wg wj,ua rp,tS wk,Z U wl,tU ws xf xj,tU xo n vr] 38 (0,0)):=by
  rw[<-xp,<-hN,cJ _ _ _ (by simp)];exact alloc_at _ _
 have C7:W0.heap[N+1]?=tG (uc (seenCells n []) 4 (0,0)):=by
  rw[<-xp,<-hN,uB,List.toArray_replicate];have:=alloc_at (w.alloc (uc #[tS nm,Z U vy,tU we wg wj,ua rp,tS wk,Z U wl,tU ws xf xj,tU xo n vr] 38)) (uc (eI n (ua tR)) 4)
  rwa [World.size_alloc] at this
 have Dd:W0.heap.size=N+2:=by rw[<-xp];simp[hN]
 have Ge:=cP C5;have Gk:=cP C7;have JJ:=cP Dd;have HK:cj (∀W,Ext (λk=>N+1<=k) W0 W->(W.cell? ⟨N,0,tM⟩=tG (tS nm)/\W.cell? ⟨N,1,tM⟩=tG (Z U vy)/\W.cell? ⟨N,2,tM⟩=tG (tU we wg wj)/\W.cell? ⟨N,3,tM⟩=tG (ua rp)/\W.cell? ⟨N,4,tM⟩=tG (tS wk)/\W.cell? ⟨N,5,tM⟩=tG (Z U wl)/\W.cell? ⟨N,6,tM⟩=tG (tU ws xf xj)/\W.cell? ⟨N,7,tM⟩=tG (tU xo n vr))/\
   dx.inn W ⟨nm,vy,we,wg,wj,rp,wk,wl,ws,xf,xj,xo,vr,ins⟩/\aE N w W/\N+2<=W.heap.size):=by
  intro W J;have h4:=J.heap C6 (by omega);have hb:aE N w W:=by
   have:Ext (λk=>N<=k) w W:=(Ge.out.mono (M':=λk=>N<=k) (λ_ h=>h.elim)).trans J (λk hk=> .inl (by omega));exact this.below (by omega) (λ_ h=>h)
  refine⟨⟨?_, ?_, ?_, ?_, ?_, ?_, ?_, ?_⟩,F0.out.below (by rw[hN];exact hb),hb,by have:=J.size;omega⟩<;>(rw[bw _ _ _ _ _ _ h4];rfl)
 have GB:=cP xp;rw[zj];rw[zj] at hn;clear C5 C6 C7 Dd xp zj hC;go_enter func150,ntmps150
 go_wp2_with (at_make;refine d9 rfl (.tmp 18) (.tmp 18) 50 rfl 4 i0 (ua tR) underlying50 CM CN CT rfl .i64 .i64 _ _ n rfl rfl rfl rfl (by rw[C4];omega) (by unfold eC;omega) ?_)
 rw[GB.out];clear CM CN CT C4
 go_loopw [7,8] (λva c wr=>Jh ins v N W0 va c wr) (λ_ c _=>n-(de c).toNat)
 case atStart=>exact⟨0,cN _,rfl,aL.nil _ _,by rw[K.out];exact Gk.out,Ext.refl _ _⟩
 case round=>
  obtain⟨j,hj,rfl,ue,ur,J⟩:=hrel;rw[K.out] at hj ur;obtain⟨ao,cap,rfl⟩:=ue.isSlice;have yi:(ints (dG ins v j)).length=(dG ins v j).length:=by simp[ints]
  have GC:=Bq ins v j;obtain⟨⟨k0,k1,k2,k3,k4,k5,k6,k7⟩,xt,GE,JK⟩:=HK.out wr J;rw[yi] at ue⊢;have HX:=cP J;have yk:=cP ue;have zp:=cP ur;have AI:=cP xt;clear J ue ur xt GE
  by_cases GF:j<n
  ·obtain⟨i,hi⟩:∃i,ins[j]?=tG i:=⟨_,ap (by have:=K.out;omega)⟩
   have yp:=AI.out.args i (cd hi);have Dg:=F1.out i (cd hi);obtain⟨o,A,rfl,uv,yq⟩:=AI.out.row (by intro e;simp only at e;rw[e] at hi;simp at hi);have Do:cj (∀q u,i.cells.toList[q]?=tG u->wr.cell? ((⟨o,A+j*13,tM⟩:fS).add q)=tG u):=λq u hu=>by
    rw[cY];exact yq j i hi q u hu
   have HR:=cP (lQ i wr yp Dg);have JL:(j:aw)<(n:aw):=by omega
   have JM:(readsOf i).length<=42:=lL i Dg;have Ds:mO ins v j=decide ((v:aw)∈readsOf i):=by unfold mO;rw[hi]
   have hst:=zf ins v j;rw[Ds] at hst;clear hi yp yq Ds;obtain⟨st,DA⟩:∃st,dG ins v j=st:=⟨_,rfl⟩
   rw[DA] at hst yi GC yk zp⊢;clear DA
   by_cases hm:(v:aw)∈readsOf i
   ·have hd:decide ((v:aw)∈readsOf i)=tP:=cV hm
    rw[hd,cI rfl] at hst;have yr:=cP hst;have HD:=cP hd;clear hst hm hd
    go_upto_if 32 with(first|(refine au rfl 42 _ rfl ⟨o,A+j*13,tM⟩ rfl i.cells _ Do.out cD rfl (by kernel_rfl) ?_)|(go_at_call 88;refine HR.out.mono ?_;rintro e w3 ⟨vd,vf,rfl,vp,vc⟩)|(go_at_call 196;refine(uo _ vf vd (readsOf i) (v:aw) (by omega) vp.at_).mono ?_;rintro e w4 ⟨rfl,rfl⟩;rw[HD.out]))
    have vh:Ext (λ_=>me) wr w3:=Ext.of_below_size vc;have yv:=vh.heap zp.out (λh=>h);have c1:w3.cell? ⟨N+1,j,tM⟩=tG (ua (decide (j∈st))):=by rw[bw _ _ _ _ _ _ yv];exact dm _ GF
    have c2:w3.frozen? ⟨N+1,j,tM⟩=tR:=ei _ _ _ _ _ yv;have GO:=vc.size;obtain⟨W4,yy⟩:∃W4,w3.setCell ⟨N+1,j,tM⟩ (ua tP)=W4:=⟨_,rfl⟩
    have GP:W4.heap.size=w3.heap.size:=by rw[<-yy];exact World.size_setCell _ _ _
    have AK:Ext (·=N+1) w3 W4:=by rw[<-yy];exact Ext.set1 _ _ _ _
    have AM:aL W4 (N+2) (tU ao st.length cap) (ints st):=by
     have h3:=ownsRow_below yk.out vc;refine⟨h3.1, ?_⟩;rcases h3.2 with h'|⟨g,AN,AS,e1,e2,e3,e4⟩
     ·exact .inl h'
     ·exact .inr ⟨g,AN,AS,e1,e2,AK.heap e3 (by omega),e4⟩
    have DB:W4.heap[N+1]?=tG (uc (seenCells n (st++[j])) 4 (0,0)):=by
     rw[<-yy,<-mX];exact gj _ _ _ _ _ _ yv
    have GS:cj (W4.ownsRow (N+2) 3 1 (tU ao st.length cap) st.length ((ints st).map (eS .i64))):=by have h:=AM;unfold aL at h;rw[yi] at h;exact h
    have DE:=cP AM;have GT:=cP DB;have zs:cj (Ext (λk=>N+1<=k) W0 W4):=(HX.out.trans vh (λ_ h=>h.elim)).trans AK (λk hk=> .inl (by omega));have GW:=cP yy;have JN:N+1<w3.heap.size:=(br.1 yv).1;obtain⟨j0,AT,AW,A0,A1⟩:=kB fe;have G4:(ints st).length<=400:=by rw[yi];omega
    clear vh yv AK AM DB yy vc vp k0 k1 k2 k3 k4 k5 k6 k7
    go_wp2_with (at_builtin;rw[GW.out];refine n5 _ rfl _ _ 35 rfl (N+2) 3 j0 (Z U 0) 1 8 gb AT AW A0 A1 rfl (by decide) _ st.length _ rfl (ownsRow_below GS.out ((aq W4.heap.size W4).alloc (cg _) _)) ⟨w3.heap.size,0,tM⟩ 1 1 [Z U (j:aw)] rfl rfl (by rw[<-GP];exact gD _ _ _) (by simp[ct]) (by decide) ?c1 ?c2 ?c3 _ rfl ?_)
    case c1=>unfold eC;omega
    case c2=>omega
    case c3=>rw[World.size_alloc];omega
    intro g5 A2 w5 DG DH Hb Hc;have A3:Ext (λk=>(ci ao st.length cap).ownBlock=tG k) W4 w5:=((Ext.refl _ W4).alloc _).trans (Ext.of_grown (M:=λk=>(ci ao st.length cap).ownBlock=tG k) DH (λk hk=> .inl hk)) (λj hj=> .inl hj);have A4:cj (Jh ins v N W0 (tU (tG ⟨g5,0,tM⟩) (st.length+1) A2) (Z U ((j:aw)+1)) w5):=by
     refine⟨j+1,by rw[K.out];omega,by simp, ?_, ?_, ?_⟩
     ·rw[yr.out]
      have e:ints (st++[j])=ints st++[(j:aw)]:=by simp[ints]
      rw[e];refine aL.app ?_;rw[yi];exact DG
     ·rw[yr.out,K.out]
      exact A3.heap GT.out (λh=>by have:=(DE.out.lt _ h).1;omega)
     ·exact zs.out.trans A3 (λk hk=> .inl (by have:=(DE.out.lt _ hk).1;omega))
    clear DG DH Hb Hc A3;go_wp2;exact⟨A4.out,by simp[de];omega⟩
   ·have hd:decide ((v:aw)∈readsOf i)=tR:=cv hm
    rw[hd,bx (by decide)] at hst;have yr:=cP hst;have HD:=cP hd;clear hst hm hd
    go_upto_if 32 with(first|(refine au rfl 42 _ rfl ⟨o,A+j*13,tM⟩ rfl i.cells _ Do.out cD rfl (by kernel_rfl) ?_)|(go_at_call 88;refine HR.out.mono ?_;rintro e w3 ⟨vd,vf,rfl,vp,vc⟩)|(go_at_call 196;refine(uo _ vf vd (readsOf i) (v:aw) (by omega) vp.at_).mono ?_;rintro e w4 ⟨rfl,rfl⟩;rw[HD.out]))
    have vh:Ext (λ_=>me) wr w3:=Ext.of_below_size vc;have A4:cj (Jh ins v N W0 (tU ao st.length cap) (Z U ((j:aw)+1)) w3):=
     ⟨j+1,by rw[K.out];omega,by simp,by rw[yr.out];exact ownsRow_below yk.out vc,by rw[yr.out,K.out];exact vh.heap zp.out (λh=>h),HX.out.trans vh (λ_ h=>h.elim)⟩
    clear vh vc vp;go_wp2;exact⟨A4.out,by simp[de];omega⟩
  ·have Hh:j=n:=by omega
   subst Hh;have A5:=vS ⟨nm,vy,we,wg,wj,rp,wk,wl,ws,xf,xj,xo,vr,ins⟩ wr AI.out.row (by have:=K.out;show ins.length<=90000;omega);simp only[dx.cells,K.out] at A5;have Hi:=cP A5;clear A5
   go_wp2_with (go_at_call 197;refine Hi.out.mono ?_;rintro e W3 ⟨R,rfl,hR,DM,vc⟩)
   obtain⟨Hj,DO⟩:=DM.read;have vh:Ext (λ_=>me) wr W3:=Ext.of_below_size vc;have GO:=vc.size;have Hk:=cP DO;have DP:cj (Ext (λk=>N+1<=k) W0 W3):=HX.out.trans vh (λ_ h=>h.elim);have Hn:cj (Ji ins v N R W3 T (j+1) (tU ao (dG ins v j).length cap) (Z U 0) W3):=by
    have h:=HT.out;rw[K.out] at h;refine⟨dG ins v j,0,h,rfl,cN _,by omega,ownsRow_below yk.out vc,by rw[K.out];exact vh.heap zp.out (λh=>h),Ext.refl _ _,λx J=> ?_,λg hg=> .inl ?_⟩
    ·have:=(gC.1 J).1
     rw[K.out];simpa using this
    ·have:=(yk.out.lt g hg).2;omega
   clear DM vc vh DO
   go_loopg [7,10] (j+1) (λk va c Hp=>Ji ins v N R W3 T k va c Hp)
   case atStart=>exact Hn.out
   case round=>
    rename_i JO _
    obtain⟨t,i,vq,rfl,JP,JQ,ue,ur,J,zv,vm⟩:=hrel;rw[K.out] at ur;obtain⟨JR,Hs,rfl⟩:=ue.isSlice;have DQ:(ints t).length=t.length:=by simp[ints]
    rw[DQ] at ue vm⊢
    by_cases Hv:i<t.length
    ·obtain⟨x,An⟩:∃x,t[i]?=tG x:=⟨_,ap Hv⟩
     have Hx:x<j:=by have:=zv x (cd An);have:=K.out;omega
     obtain⟨k,rfl,xF⟩:∃k,gk=k+1/\zm (jW ins v) k (aK t (jW ins v x)) (i+1)=tG T:=by
      cases gk with
      |zero=>simp[zm] at vq
      |succ k=>exact⟨k,rfl,by rw[zm,An] at vq;exact vq⟩
     obtain⟨g,rfl,JS,JT,DS⟩:=ue.shape (by rw[DQ];omega);have HU:wr.cell? ⟨g,i,tM⟩=tG (Z U (x:aw)):=DS i x (by simp[ints,An]);obtain⟨If,In,D0,D1⟩:=Hk.out x Hx;have Is:wr.cell? ⟨R,x,tM⟩=tG (tU If (aB ins x).length In):=by
      rw[J.cell (a:=⟨R,x,tM⟩) Hj (by show¬(N+1<=R/\R<R);omega)];exact D0
     have JU:(aB ins x).length<=800:=by have:=pF ins x;have:=K.out;omega
     have JV:(i:aw)<(t.length:aw):=by omega
     have JW:(x:aw)<(j:aw):=by omega
     have It:=cP D1;have Iv:=cP xF;have ID:=cP zv;have IF:cj (I8 ins v N R W3 t (aB ins x) (tU (tG ⟨g,0,tM⟩) t.length Hs) (Z U 0) wr):=
      ⟨0,cN _,rfl,by simpa[aK] using ue,by rw[K.out];simpa[aK] using ur,J,vm,by simp[aK]⟩
     clear vq xF D1 D0 DS ue ur J vm An zv
     go_wp2_with fail
     go_loopw [7,12] (λva c IH=>I8 ins v N R W3 t (aB ins x) va c IH) (λ_ c _=>(aB ins x).length-(de c).toNat)
     case atStart=>exact IF.out
     case round=>
      obtain⟨q,hq,rfl,ue,ur,J,vm,D2⟩:=hrel;rw[K.out] at ur;obtain⟨vd,vf,rfl⟩:=ue.isSlice;obtain⟨G,vt⟩:∃G,aK t (((aB ins x).take q).filter (keeps ins v))=G:=⟨_,rfl⟩
      rw[vt] at ue ur vm D2⊢;have A6:(ints G).length=G.length:=by simp[ints]
      rw[A6] at ue vm⊢
      by_cases IN:q<(aB ins x).length
      ·obtain⟨y,hy⟩:∃y,(aB ins x)[q]?=tG y:=⟨_,ap IN⟩
       have IS:y<j:=by have:=((di ins y x).1 (cd hy)).1;have:=K.out;omega
       obtain⟨g2,rfl,JX,IT,D3⟩:=It.out q y hy;have At:wr.cell? ⟨g2,q,tM⟩=tG (Z U (y:aw)):=by
        rw[J.cell (a:=⟨g2,q,tM⟩) IT (by show¬(N+1<=g2/\g2<R);omega)];exact D3
       obtain⟨iy,xT⟩:∃iy,ins[y]?=tG iy:=⟨_,ap (by have:=K.out;omega)⟩
       have D4:Ext (λk=>N+1<=k) W0 wr:=DP.out.trans J (λk hk=> .inl hk.1);obtain⟨⟨_,_,_,_,_,_,_,k7⟩,xt,_,JY⟩:=HK.out wr D4;obtain⟨o,A,rfl,uv,yq⟩:=xt.row (by intro e;simp only at e;rw[e] at xT;simp at xT);have yp:=xt.args iy (cd xT);have yW:cj (∀W,ge am 86 #[ub iy.cells] W λe w'=>e= ud (.tuple #[Z U (az iy).1,ua (az iy).2])/\aE W.heap.size W w'):=λW=>kW iy W yp.1;have Ax:keeps ins v y= !((az iy).2&&((az iy).1==(v:aw))):=by unfold keeps;rw[xT]
       obtain⟨⟨⟨Bk,Bm,e9⟩,Bs,n8,By,e8⟩,_⟩:=yp;have ux:=yq y iy xT;obtain⟨op,d,ia,ib,f,nn,BE,JZ,J0,BT,BY,ln,cl,args⟩:=iy;simp only at e8 e9;subst e8 e9;simp only[Ins.cells] at yW;have r0:wr.cell? ⟨o,A+y*13,tM⟩=tG (Z U op):=ux 0 _ rfl;have r1:wr.cell? ⟨o,A+y*13+1,tM⟩=tG (Z U d):=ux 1 _ rfl;have r2:wr.cell? ⟨o,A+y*13+2,tM⟩=tG (Z U ia):=ux 2 _ rfl;have r3:wr.cell? ⟨o,A+y*13+3,tM⟩=tG (Z U ib):=ux 3 _ rfl;have r4:wr.cell? ⟨o,A+y*13+4,tM⟩=tG (Z U f):=ux 4 _ rfl;have r5:wr.cell? ⟨o,A+y*13+5,tM⟩=tG (Z U nn):=ux 5 _ rfl;have r6:wr.cell? ⟨o,A+y*13+6,tM⟩=tG (tS BE):=ux 6 _ rfl;have r7:wr.cell? ⟨o,A+y*13+7,tM⟩=tG (tU Bk args.length Bm):=ux 7 _ rfl;have r8:wr.cell? ⟨o,A+y*13+8,tM⟩=tG (tU Bs n8 By):=ux 8 _ rfl;have r9:wr.cell? ⟨o,A+y*13+9,tM⟩=tG (Z U BT):=ux 9 _ rfl;have B5:wr.cell? ⟨o,A+y*13+10,tM⟩=tG (Z U BY):=ux 10 _ rfl;have B6:wr.cell? ⟨o,A+y*13+11,tM⟩=tG (Z U ln):=ux 11 _ rfl;have B7:wr.cell? ⟨o,A+y*13+12,tM⟩=tG (Z U cl):=ux 12 _ rfl;have J1:(y:aw)<(j:aw):=by omega
       have J2:(q:aw)<((aB ins x).length:aw):=by omega
       obtain⟨wd,Ek⟩:∃wd,az (⟨op,d,ia,ib,f,nn,BE,tU Bk args.length Bm,tU Bs n8 By,BT,BY,ln,cl,args⟩:Ins)=wd:=⟨_,rfl⟩
       rw[Ek] at yW Ax;obtain⟨dv,wb⟩:=wd;simp only at yW Ax;have yb:aK t (((aB ins x).take (q+1)).filter (keeps ins v))=if keeps ins v y=tP then(if y∈G then G else G++[y]) else G:=by
        rw[ju,hy,Option.toList_some,mj,ks]
        by_cases hk:keeps ins v y=tP
        ·rw[cI hk,cI hk,List.filter_nil,uC,vt]
        ·rw[bx hk,bx hk,List.filter_nil,ej,vt]
       have EV:=cP ue;have E0:=cP ur;have zs:=cP J;have B8:=cP vm;have yd:=cP yb;have AD:=cP Ax;have E2:g2<wr.heap.size:=by have:=J.size;omega
       have I0:N<wr.heap.size:=by omega
       clear ue ur J vm yb Ax Ek ux yq xt D4 xT D3 vt HU Is
       go_wp2_with fail
       go_region_held3 (λw'=>w'.cell? ⟨N,7,tM⟩=tG (tU (tG ⟨o,A,tM⟩) j vr)/\w'.cell? ⟨g2,q,tM⟩=tG (Z U (y:aw))/\w'.cell? ⟨o,A+y*13,tM⟩=tG (Z U op)/\w'.cell? ⟨o,A+y*13+1,tM⟩=tG (Z U d)/\w'.cell? ⟨o,A+y*13+2,tM⟩=tG (Z U ia)/\w'.cell? ⟨o,A+y*13+3,tM⟩=tG (Z U ib)/\w'.cell? ⟨o,A+y*13+4,tM⟩=tG (Z U f)/\w'.cell? ⟨o,A+y*13+5,tM⟩=tG (Z U nn)/\w'.cell? ⟨o,A+y*13+6,tM⟩=tG (tS BE)/\w'.cell? ⟨o,A+y*13+7,tM⟩=tG (tU Bk args.length Bm)/\w'.cell? ⟨o,A+y*13+8,tM⟩=tG (tU Bs n8 By)/\w'.cell? ⟨o,A+y*13+9,tM⟩=tG (Z U BT)/\w'.cell? ⟨o,A+y*13+10,tM⟩=tG (Z U BY)/\w'.cell? ⟨o,A+y*13+11,tM⟩=tG (Z U ln)/\w'.cell? ⟨o,A+y*13+12,tM⟩=tG (Z U cl))
        (first|(exact hS)|(exact⟨k7,At,r0,r1,r2,r3,r4,r5,r6,r7,r8,r9,B5,B6,B7⟩))
        (first|(go_at_call 86;refine(yW.out _).mono ?_;rintro e w6 ⟨rfl,up⟩;have hS:=(And.intro ((up.cell (p:=⟨N,7,tM⟩) I0).trans k7) (And.intro ((up.cell (p:=⟨g2,q,tM⟩) E2).trans At) (And.intro ((up.cell (p:=⟨o,_,tM⟩) uv).trans r0) (And.intro ((up.cell (p:=⟨o,_,tM⟩) uv).trans r1) (And.intro ((up.cell (p:=⟨o,_,tM⟩) uv).trans r2) (And.intro ((up.cell (p:=⟨o,_,tM⟩) uv).trans r3) (And.intro ((up.cell (p:=⟨o,_,tM⟩) uv).trans r4) (And.intro ((up.cell (p:=⟨o,_,tM⟩) uv).trans r5) (And.intro ((up.cell (p:=⟨o,_,tM⟩) uv).trans r6) (And.intro ((up.cell (p:=⟨o,_,tM⟩) uv).trans r7) (And.intro ((up.cell (p:=⟨o,_,tM⟩) uv).trans r8) (And.intro ((up.cell (p:=⟨o,_,tM⟩) uv).trans r9) (And.intro ((up.cell (p:=⟨o,_,tM⟩) uv).trans B5) (And.intro ((up.cell (p:=⟨o,_,tM⟩) uv).trans B6) ((up.cell (p:=⟨o,_,tM⟩) uv).trans B7)))))))))))))))))
       clear hS r0 r1 r2 r3 r4 r5 r6 r7 r8 r9 B5 B6 B7 yW;have AE:Ext (λ_=>me) wr w6:=((Ext.refl (λ_=>me) wr).drew).trans (Ext.of_below_size up:Ext (λ_=>me) wr.drew w6) (λ_ h=>h.elim);have E3:aE wr.heap.size wr w6:=(aq wr.heap.size wr).drew.trans (show aE wr.heap.size wr.drew w6 from up);have zc:=AE.heap E0.out (λh=>h);have Ju:w6.cell? ⟨g2,q,tM⟩=tG (Z U (y:aw)):=(up.cell (p:=⟨g2,q,tM⟩) E2).trans At;have E4:aL w6 (N+2) (tU vd G.length vf) (ints G):=ownsRow_below EV.out E3;have E6:Ext (λk=>N+1<=k/\k<R) W3 w6:=zs.out.trans AE (λ_ h=>h.elim);have J3:=AE.size;obtain⟨kb,E7⟩:∃kb,keeps ins v y=kb:=⟨_,rfl⟩
       rw[E7] at yd AD;obtain⟨mb,B9⟩:∃mb,decide (y∈G)=mb:=⟨_,rfl⟩
       have c1:w6.cell? ⟨N+1,y,tM⟩=tG (ua mb):=by rw[bw _ _ _ _ _ _ zc,dm _ IS,B9]
       have c2:w6.frozen? ⟨N+1,y,tM⟩=tR:=ei _ _ _ _ _ zc;have J4:N+1<w6.heap.size:=(br.1 zc).1;have Fc:=cP E4;have Fi:=cP zc;have Fk:=cP E6;have Fl:=cP B9;clear E7 up E3 AE zc E4 E6 B9 EV E0 zs At k7
       go_upto_region 19 with(fail)
       go_cut [89] (λJv wc=>Jv= ua (!mb&&kb)/\wc=w6)
       case first=>
        obtain⟨E,hE⟩:∃E,(dv==(v:aw))=E:=⟨_,rfl⟩
        have Fm:=AD.out;rw[hE] at Fm;clear AD yd;subst Fm;cases mb<;>cases wb<;>cases E<;>(
         go_wp2
         go_meet
         case rel=>exact⟨rfl,rfl⟩)
       case rest=>
        obtain⟨rfl,rfl⟩:=hcut;clear AD;have Fo:(kb=tP->y∈G)->I8 ins v N R W3 t (aB ins x) (tU vd G.length vf) (Z U ((q:aw)+1)) wc:=by
         intro hh;have e:aK t (((aB ins x).take (q+1)).filter (keeps ins v))=G:=by
          rw[yd.out]
          split
          ·rename_i h;rw[cI (hh h)]
          ·rfl
         exact⟨q+1,by omega,by simp,by rw[e];exact Fc.out,by rw[e,K.out];exact Fi.out,Fk.out,B8.out,by rw[e];omega⟩
        have AF:=cP Fo;clear Fo;cases mb with
        |true=>
         have HR:=cP (AF.out (λ_=>m7 Fl.out));clear AF yd;cases kb<;>(
          go_wp2;exact⟨HR.out,by simp[de];omega⟩)
        |false=>
         have Cd:=of_decide_eq_false Fl.out;cases kb with
         |false=>
          have HR:=cP (AF.out (λh=>by cases h));clear Cd;go_wp2;exact⟨HR.out,by simp[de];omega⟩
         |true=>
          have yb:=yd.out;rw[cI rfl,bx Cd] at yb;have Cl:=cP yb;clear AF yd Cd yb;obtain⟨W7,vu⟩:∃W7,wc.setCell ⟨N+1,y,tM⟩ (ua tP)=W7:=⟨_,rfl⟩
          have Jw:W7.heap.size=wc.heap.size:=by rw[<-vu];exact World.size_setCell _ _ _
          have AH:Ext (·=N+1) wc W7:=by rw[<-vu];exact Ext.set1 _ _ _ _
          have Cp:aL W7 (N+2) (tU vd G.length vf) (ints G):=by
           have h3:=Fc.out;refine⟨h3.1, ?_⟩;rcases h3.2 with h'|⟨g,AN,AS,e1,e2,e3,e4⟩
           ·exact .inl h'
           ·exact .inr ⟨g,AN,AS,e1,e2,AH.heap e3 (by omega),e4⟩
          have Fr:W7.heap[N+1]?=tG (uc (seenCells j (G++[y])) 4 (0,0)):=by
           rw[<-vu,<-mX];exact gj _ _ _ _ _ _ Fi.out
          have Jy:cj (W7.ownsRow (N+2) 3 1 (tU vd G.length vf) G.length ((ints G).map (eS .i64))):=by have h:=Cp;unfold aL at h;rw[A6] at h;exact h
          have Jz:=cP Cp;have JA:=cP Fr;have ye:cj (Ext (λk=>N+1<=k/\k<R) W3 W7):=Fk.out.trans AH (λk hk=> .inl (by omega));have Ft:W7.cell? ⟨g2,q,tM⟩=tG (Z U (y:aw)):=by rw[AH.cell (a:=⟨g2,q,tM⟩) (by show g2<wc.heap.size;omega) (by show¬g2=N+1;omega)];exact Ju
          have JB:=cP vu;have JC:W7=wc.setCell ⟨N+1,y,tM⟩ (ua tP):=vu.symm;have J5:(wc.setCell ⟨N+1,y,tM⟩ (ua tP)).cell? ⟨g2,q,tM⟩=tG (Z U (y:aw)):=by rw[vu];exact Ft
          obtain⟨j0,AT,AW,A0,A1⟩:=kB fe;have G4:G.length<=91000:=by omega
          clear AH Cp Fr vu JC Ft
          go_wp2_with (at_builtin;rw[JB.out];refine n5 _ rfl _ _ 35 rfl (N+2) 3 j0 (Z U 0) 1 8 gb AT AW A0 A1 rfl (by decide) _ G.length _ rfl (ownsRow_below Jy.out ((aq W7.heap.size W7).alloc (cg _) _)) ⟨wc.heap.size,0,tM⟩ 1 1 [Z U (y:aw)] rfl rfl (by rw[<-Jw];exact gD _ _ _) (by simp[ct]) (by decide) ?c1 ?c2 ?c3 _ rfl ?_)
          case c1=>unfold eC;omega
          case c2=>omega
          case c3=>rw[World.size_alloc];omega
          intro g5 A2 w8 FA FF FG JD;have vx:Ext (λk=>(ci vd G.length vf).ownBlock=tG k) W7 w8:=((Ext.refl _ W7).alloc _).trans (Ext.of_grown (M:=λk=>(ci vd G.length vf).ownBlock=tG k) FF (λk hk=> .inl hk)) (λj hj=> .inl hj);have J6:=ye.out.size;have JE:cj (I8 ins v N R W3 t (aB ins x) (tU (tG ⟨g5,0,tM⟩) (G.length+1) A2) (Z U ((q:aw)+1)) w8):=by
           have vp:∀k,(ci vd G.length vf).ownBlock=tG k->N+2<=k:=λk h=>(Jz.out.lt k h).1;refine⟨q+1,by omega,by simp, ?_, ?_, ?_,λg hg=> ?_, ?_⟩
           ·rw[Cl.out]
            have e:ints (G++[y])=ints G++[(y:aw)]:=by simp[ints]
            rw[e];refine aL.app ?_;rw[A6];exact FA
           ·rw[Cl.out,K.out]
            exact vx.heap JA.out (λh=>by have:=vp _ h;omega)
           ·refine⟨vx.os.trans ye.out.os,vx.tape.trans ye.out.tape,vx.output.trans ye.out.output,eJ ye.out.size vx.size,λk hk hn=> ?_⟩
            rw[vx.block k (by omega) (λh=>by
             have h1:=vp k h;rcases B8.out k h with h2|h2
             ·exact hn ⟨by omega,h2⟩
             ·omega)]
            exact ye.out.block k hk hn
           ·have JF:g5=g:=by simpa[et] using hg
            subst JF;rcases FG with h4|h4
            ·exact B8.out _ h4
            ·right;first|omega|(rw[World.size_alloc] at h4;omega)
           ·rw[Cl.out];simp;omega
          clear FA FF FG JD vx;go_wp2;exact⟨JE.out,by simp[de];omega⟩
      ·have JG:q=(aB ins x).length:=by omega
       subst JG;rw[cR] at vt;have CA:=kT (jW ins v x) t;have CC:aK t (jW ins v x)=G:=vt;have hR:Ji ins v N R W3 T k (tU vd G.length vf) (Z U ((i:aw)+1)) wr:=by
        have xF:=Iv.out;rw[CC] at xF CA;refine⟨G,i+1,xF,by simp,by have:=CA.length_le;omega, ?_,ue,by rw[K.out];exact ur,J,λz hz=> ?_,vm⟩
        ·have:=(rX _ _ _ xF).length_le;omega
        ·rw[<-CC] at hz
         rcases xm _ _ z hz with h|h
         ·exact ID.out z h
         ·exact((di ins z x).1 (gC.1 h).1).1
       have HR:=cP hR;clear hR ue ur J vm D2 vt CC CA;go_wp2
       go_roundg k
       case measure=>omega
       case rel=>exact HR.out
    ·have JH:T=t:=by
      cases gk with
      |zero=>simp[zm] at vq
      |succ k=>rw[zm,mw (by omega)] at vq;exact(cE vq).symm
     have HP:cj (kH w j T (ud (tU (tG ⟨N+1,0,tM⟩) j j)) wr):=by
      rw[JH];refine⟨N+1,rfl,by omega,ur, ?_⟩;rw[hN];exact(HK.out wr (DP.out.trans J (λk hk=> .inl hk.1))).2.2.1
     clear vq ue ur J vm zv;go_wp2;go_ret;exact HP.out
def iW (T:bj bh)(d:bj bh):mm:=d.any λy=>decide (y∈T)
def zg (d:bj Ins)(T:bj bh)(j:bh):bj bh:=(du j).filter λx=>iW T (aU d x)
theorem Gq {d:bj Ins}{T:bj bh}{j x:bh}:x∈zg d T j↔x<j/\iW T (aU d x)=tP:=by
 unfold zg;rw[gC,oc]
def fE (n:bh)(d:bj Ins)(T:bj bh)(j:bh)(b:mm):eA cA:=((du n).map λx=>ua (if x<j then iW T (aU d x) else if x=j then b else tR)).toArray
theorem jH {n:bh}(d:bj Ins)(T:bj bh)(j:bh)(b:mm){x:bh}(h:x<n):(fE n d T j b)[x]?=tG (ua (if x<j then iW T (aU d x) else if x=j then b else tR)):=by
 simp[fE,h]
theorem iP (n:bh)(d:bj Ins)(T:bj bh)(j:bh)(b:mm):(fE n d T j b).size=n:=by simp[fE]
theorem Dk {n:bh}(f:bj Ins)(T:bj bh)(j:bh)(b g:mm)(h:j<n):(fE n f T j b).setIfInBounds j (ua g)=fE n f T j g:=by
 apply gS;intro x;rw[gd]
 by_cases o:x<n
 ·rw[jH _ _ _ _ o,jH _ _ _ _ o]
  by_cases e:j=x
  ·subst e;rw[cI rfl,cI (by rw[iP];exact h)];simp
  ·rw[bx e]
   by_cases d:x<j
   ·rw[cI d,cI d]
   ·rw[bx d,bx d,bx (λh=>e h.symm),bx (λh=>e h.symm)]
 ·rw[em (by rw[iP];omega),em (by rw[iP];omega),bx (by omega)]
theorem Br (n:bh)(d:bj Ins)(T:bj bh)(j:bh):fE n d T j (iW T (aU d j))=fE n d T (j+1) tR:=by
 unfold fE;congr 1;apply List.map_congr_left;intro x _;congr 1
 by_cases h:x<j
 ·rw[cI h,cI (by omega)]
 ·rw[bx h]
  by_cases e:x=j
  ·rw[cI e,cI (by omega),e]
  ·rw[bx e,bx (by omega)];simp
theorem Bt (n:bh)(e:bj Ins)(T:bj bh):eI n (ua tR)=fE n e T 0 tR:=by
 apply gS;intro x
 by_cases d:x<n
 ·rw[jH _ _ _ _ d];simp[d]
 ·rw[em (by simp;omega),em (by rw[iP];omega)]
theorem Dl (n:bh)(e:bj Ins)(T:bj bh):fE n e T n tR=seenCells n (zg e T n):=by
 apply gS;intro x
 by_cases d:x<n
 ·rw[jH _ _ _ _ d,dm _ d,cI d]
  congr 2;rw[tf,oE,Gq];simp[d]
 ·rw[em (by rw[iP];omega),em (by simp[seenCells];omega)]
theorem Dm (T d:bj bh){q y:bh}(h:d[q]?=tG y):iW T (d.take (q+1))=(iW T (d.take q)||decide (y∈T)):=by
 unfold iW;exact zo d _ h
theorem uq (c:dx)(w:World)(v:bh)(T:bj bh)(xj:c.inn w)(xo:∀i∈c.ins,i.args.length<=40)(hn:c.ins.length<=400)(hT:zm (jW c.ins v) (c.ins.length+1) (dG c.ins v c.ins.length) 0=tG T)(Ax:T.length<=90000):
  ge am 112 #[ub c.cells,Z U (v:aw)] w (kH w c.ins.length (zg c.ins T c.ins.length)):=by
 have xp:=cP xj;obtain⟨C,hC⟩:∃C,c=C:=⟨_,rfl⟩
 have HC:=cP hC;have vt:cj (∀W,C.inn W->ge am 150 #[ub C.cells,Z U (v:aw)] W (kH W C.ins.length T)):=by
  intro W h;rw[<-hC] at h⊢;exact vT c W v T h xo hn hT Ax
 clear xj xo hT;obtain⟨nm,z,A,E,G,J,K,R,ue,up,ur,uv,ux,ins⟩:=c;simp only at hn;simp only[dx.cells];obtain⟨n,vc⟩:∃n,ins.length=n:=⟨_,rfl⟩
 have AD:=cP vc;have vu:C.cells=#[tS nm,Z U z,tU A E G,ua J,tS K,Z U R,tU ue up ur,tU uv n ux]:=by rw[<-hC,<-vc];rfl
 rw[vu,show C.ins=ins by rw[<-hC],vc] at vt;obtain⟨i0,xt,xF,xT,yb⟩:=kB vW;obtain⟨N,hN⟩:∃N,w.heap.size=N:=⟨_,rfl⟩
 obtain⟨g,vf⟩:∃g,w.alloc (uc #[tS nm,Z U z,tU A E G,ua J,tS K,Z U R,tU ue up ur,tU uv n ux] 38)=g:=⟨_,rfl⟩
 have yd:aE N w g:=by rw[<-vf,<-hN];exact(aq _ _).alloc (cg _) _
 have ye:g.heap[N]?=tG (uc #[tS nm,Z U z,tU A E G,ua J,tS K,Z U R,tU ue up ur,tU uv n ux] 38 (0,0)):=by
  rw[<-vf,<-hN];exact alloc_at _ _
 have yi:g.heap.size=N+1:=by rw[<-vf];simp[hN]
 have HK:cj (∀W,aE (N+1) g W->(W.cell? ⟨N,0,tM⟩=tG (tS nm)/\W.cell? ⟨N,1,tM⟩=tG (Z U z)/\W.cell? ⟨N,2,tM⟩=tG (tU A E G)/\W.cell? ⟨N,3,tM⟩=tG (ua J)/\W.cell? ⟨N,4,tM⟩=tG (tS K)/\W.cell? ⟨N,5,tM⟩=tG (Z U R)/\W.cell? ⟨N,6,tM⟩=tG (tU ue up ur)/\W.cell? ⟨N,7,tM⟩=tG (tU uv n ux))/\
   C.inn W/\aE N w W/\N+1<=W.heap.size):=by
  intro W d;have h4:=(d.block N (by omega)).trans ye;have hb:aE N w W:=yd.trans (d.mono (by omega));refine⟨⟨?_, ?_, ?_, ?_, ?_, ?_, ?_, ?_⟩,by rw[<-hC];exact xp.out.below (by rw[hN];exact hb),hb,by have:=d.size;omega⟩<;>(rw[bw _ _ _ _ _ _ h4];rfl)
 have AE:cj (∀W x,aE (N+1) g W->x<n->ge am 151 #[ub #[tS nm,Z U z,tU A E G,ua J,tS K,Z U R,tU ue up ur,tU uv n ux],Z U (x:aw)] W (fK W (ints (aU ins x)))):=by
  intro W x hb d;have h1:=(HK.out W hb).2.1.row;have h2:=qR C x W h1 (by rw[<-hC];show x<ins.length;omega) (by rw[<-hC];show ins.length<=90000;omega);rw[vu,show C.ins=ins by rw[<-hC]] at h2;exact h2
 have AF:=cP vf;have yk:=cP yi;have By:N+1<=g.heap.size:=by omega
 obtain⟨⟨k0,k1,k2,k3,k4,k5,k6,k7⟩,yp,_,_⟩:=HK.out g (aq _ _);have AH:=cP (vt.out g yp);rw[vc];rw[vc] at hn;clear ye yi vf vc yd vu hC yp xp vt;go_enter func112,ntmps112
 go_upto_region 2 with(go_at_call 150;rw[AF.out];refine AH.out.mono ?_;rintro e w2 ⟨ba,rfl,AI,f,vx⟩)
 have vy:aE (N+1) g w2:=by rw[yk.out] at vx;exact vx
 obtain⟨⟨k0,k1,k2,k3,k4,k5,k6,k7⟩,_,_,yq⟩:=HK.out w2 vy;have AK:ba<w2.heap.size:=(br.1 f).1;rw[yk.out] at AI;have vh:=cP f;have yr:=cP vy;clear vx f vy
 go_wp2_with (at_make;refine d9 rfl (.tmp 15) (.tmp 15) 50 rfl 4 i0 (ua tR) underlying50 xt xF xT rfl .i64 .i64 _ _ n rfl rfl rfl rfl (by rw[yb];omega) (by unfold eC;omega) ?_)
 obtain⟨O,hO⟩:∃O,w2.heap.size=O:=⟨_,rfl⟩
 obtain⟨o,vm⟩:∃o,w2.alloc (uc (eI n (ua tR)) 4)=o:=⟨_,rfl⟩
 have we:Ext (λ_=>me) w2 o:=by rw[<-vm];exact(Ext.refl _ _).alloc _
 have yv:o.heap[O]?=tG (uc (fE n ins T 0 tR) 4 (0,0)):=by rw[<-vm,<-hO,<-Bt];exact alloc_at _ _
 have yy:o.heap[ba]?=tG (uc (seenCells n T) 4 (0,0)):=we.heap vh.out (λh=>h);have yW:aE (N+1) g o:=yr.out.trans ((we.below (cg _) (λ_ h=>h.elim)).mono yq);have BE:o.heap.size=O+1:=by rw[<-vm];simp[hO]
 rw[vm,hO];have AM:=cP yv;have AN:=cP yy;have AS:=cP yW;clear vm we yv yy yW k0 k1 k2 k3 k4 k5 k6 k7 vh yr xt xF xT yb;rw[hO] at AK yq
 go_loopw [7] (λc wr=>∃j:bh,j<=n/\c= Z U (j:aw)/\wr.heap[O]?=tG (uc (fE n ins T j tR) 4 (0,0))/\Ext (·=O) o wr) (λc _=>n-(de c).toNat)
 case atStart=>exact⟨0,cN _,rfl,AM.out,Ext.refl _ _⟩
 case round=>
  obtain⟨j,hj,rfl,f,d⟩:=hrel;have vq:aE (N+1) g wr:=AS.out.trans (d.below (B:=N+1) (by omega) (λk hk=>by omega));obtain⟨⟨k0,k1,k2,k3,k4,k5,k6,k7⟩,_,wg,_⟩:=HK.out wr vq
  by_cases wj:j<n
  ·have vp:=AE.out wr j vq wj
   obtain⟨L,hL⟩:∃L,aU ins j=L:=⟨_,rfl⟩
   have HL:=cP hL;rw[hL] at vp;have vd:(ints L).length=L.length:=by simp[ints]
   have AT:cj (ge am 151 #[ub #[tS nm,Z U z,tU A E G,ua J,tS K,Z U R,tU ue up ur,tU uv n ux],Z U (j:aw)] wr λe w'=>∃ao cap,e= ud (tU ao L.length cap)/\aL w' wr.heap.size (tU ao L.length cap) (ints L)/\aE wr.heap.size wr w'):=by
    unfold fK at vp;rw[vd] at vp;exact vp
   have zc:∀y∈L,y<n:=λy u=>by rw[<-HL.out] at u;have:=lh u;have:=AD.out;omega
   have AW:=cP zc;have BT:L.length<=2:=by rw[<-HL.out];exact fF ins j
   have vh:=cP f;have HX:=cP d;have BY:(j:aw)<(n:aw):=by omega
   have B5:=d.size;clear vp hL zc f d vq wg vd
   go_wp2_with (go_at_call 151;refine AT.out.mono ?_;rintro e w4 ⟨A0,A1,rfl,wk,wl⟩)
   have ws:Ext (λ_=>me) wr w4:=Ext.of_below_size wl;obtain⟨B4,A2⟩:∃B4,wr.heap.size=B4:=⟨_,rfl⟩
   rw[A2] at wk;have A3:=cP wk;have A4:cj (w4.heap[O]?=tG (uc (fE n ins T j (iW T (L.take 0))) 4 (0,0))):=by
    have:=ws.heap vh.out (λh=>h);unfold cj;simpa[iW] using this
   have zj:cj (Ext (·=O) o w4):=HX.out.trans ws (λ_ h=>h.elim);have B6:=wl.size;clear wk wl ws vh HX k0 k1 k2 k3 k4 k5 k6 k7
   go_loopw [9] (λc zp=>∃q:bh,q<=L.length/\c= Z U (q:aw)/\zp.heap[O]?=tG (uc (fE n ins T j (iW T (L.take q))) 4 (0,0))/\Ext (·=O) w4 zp) (λc _=>L.length-(de c).toNat)
   case atStart=>exact⟨0,cN _,rfl,A4.out,Ext.refl _ _⟩
   case round=>
    obtain⟨q,hq,rfl,f,d⟩:=hrel
    by_cases A5:q<L.length
    ·obtain⟨y,u⟩:∃y,L[q]?=tG y:=⟨_,ap A5⟩
     have A6:=AW.out y (cd u);have vd:(ints L).length=L.length:=by simp[ints]
     have zs:aL w4 B4 (tU A0 (ints L).length A1) (ints L):=by rw[vd];exact A3.out
     obtain⟨g2,rfl,B7,Bk,zv⟩:=zs.shape (by rw[vd];omega);have B8:wr.cell? ⟨g2,q,tM⟩=tG (Z U (y:aw)):=by rw[d.cell (a:=⟨g2,q,tM⟩) Bk (by show¬g2=O;omega)];exact zv q y (by simp[ints,u])
     have An:Ext (·=O) o wr:=zj.out.trans d (λ_ h=> .inl h);have ca:wr.cell? ⟨ba,y,tM⟩=tG (ua (decide (y∈T))):=by rw[bw _ _ _ _ _ _ (An.heap AN.out (by omega)),dm _ A6]
     have c1:wr.cell? ⟨O,j,tM⟩=tG (ua (iW T (L.take q))):=by rw[bw _ _ _ _ _ _ f,jH _ _ _ _ wj];simp
     have c2:wr.frozen? ⟨O,j,tM⟩=tR:=ei _ _ _ _ _ f;have B9:(y:aw)<(n:aw):=by omega
     have Cd:(q:aw)<(L.length:aw):=by omega
     have vr:cj (∀b,b=iW T (L.take (q+1))->(wr.setCell ⟨O,j,tM⟩ (ua b)).heap[O]?=tG (uc (fE n ins T j (iW T (L.take (q+1)))) 4 (0,0))/\Ext (·=O) w4 (wr.setCell ⟨O,j,tM⟩ (ua b))):=by
      rintro b rfl;exact⟨by rw[gj _ _ _ _ _ _ f,Dk _ _ _ _ _ wj],d.trans (Ext.set1 _ _ _ _) (λ_ h=> .inl h)⟩
     have xf:=Dm T L u;clear f d zv zs vd u An;obtain⟨s,hs⟩:∃s,iW T (L.take q)=s:=⟨_,rfl⟩
     rw[hs] at xf c1;have At:=cP xf;clear xf hs;cases s with
     |true=>
      have t:=cP (vr.out tP (by rw[At.out];rfl));clear vr;go_wp2;exact⟨⟨q+1,by omega,by simp,t.out.1,t.out.2⟩,by simp[de];omega⟩
     |false=>
      have t:=cP (vr.out (decide (y∈T)) (by rw[At.out];simp));clear vr;go_wp2;exact⟨⟨q+1,by omega,by simp,t.out.1,t.out.2⟩,by simp[de];omega⟩
    ·have Bm:q=L.length:=by omega
     subst Bm;rw[cR,<-HL.out,Br] at f;have t:cj (wr.heap[O]?=tG (uc (fE n ins T (j+1) tR) 4 (0,0))/\Ext (·=O) o wr):=⟨f,zj.out.trans d (λ_ h=> .inl h)⟩
     clear f d;go_wp2;exact⟨⟨j+1,by omega,by simp,t.out.1,t.out.2⟩,by simp[de];omega⟩
  ·have Bs:j=n:=by omega
   subst Bs;rw[Dl] at f;have HP:cj (kH w j (zg ins T j) (ud (tU (tG ⟨O,0,tM⟩) j j)) wr):=⟨O,rfl,by omega,f,by rw[hN];exact wg⟩
   clear f d vq wg;go_wp2;go_ret;exact HP.out
end Go.Proofs.YtjomgckjhcfbgaaGreat
