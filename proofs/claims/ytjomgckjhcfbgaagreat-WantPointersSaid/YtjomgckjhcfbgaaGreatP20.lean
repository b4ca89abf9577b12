/- Walks. -/
import Derived.RangeFuncCalls
import Derived.Sort.CutIn
import Derived.Test.YtjomgckjhcfbgaaGreatRows
import Derived.ProofKit
import Derived.ChangeSame
import Derived.Test.YtjomgckjhcfbgaaGreatP13
import Derived.Test.YtjomgckjhcfbgaaGreatP19
set_option maxRecDepth 100000
set_option maxHeartbeats 64000000
set_option linter.all false
namespace Go.Proofs.YtjomgckjhcfbgaaGreat
open Go.RowKit
open Go.Proofs.Tryz renaming prog→am,underlying42→cA,underlying38→cJ,underlying3→cX,underlying32→dT,underlying25→fh,underlying88→gR,underlying9→gS,underlying40→ms,underlying4→mu,underlying90→nx,underlying119→oX,underlying48→rm
open _root_.List renaming getElem?_eq_getElem→ap,setIfInBounds_toArray→bh,length_append→bm,getElem?_eq_some_iff→bo,set_cons_zero→bx,set_cons_succ→ca,mem_of_getElem?→ci,take_length→cL,eq_nil_of_length_eq_zero→cV,mem_append→dg,length_take→ee,length_cons→eh,append_assoc→ei,nil_append→eK,flatMap_append→fS,mem_cons→fW,cons_append→gh,mem_flatMap→iv,take_append_drop→jx,length_nil→ks,take_add_one→kA,exists_cons_of_length_eq_add_one→pl,not_mem_nil→pP,append_toArray→rb,range'_succ→rN,mem_iff_getElem?→sr
open Go.RowKit.Below renaming refl→aq
open _root_ renaming Int→aw,Nat→bj,List→bp,if_neg→bw,decide_eq_false→cm,Option→cC,if_pos→cH,decide_eq_true→cR,Array→dl,absurd→fz,False→lj,Bool→ml,of_decide_eq_true→mw,bne_iff_ne→oe,decide_eq_true_eq→oY,of_decide_eq_false→qu,beq_iff_eq→sR
open Go.RowKit renaming Below→aE,Hid→cg,intOf→dp
open _root_.Array renaming getElem?_eq_some_iff→br
open Go renaming cell_of_row→bt,run_storeCells_new→cr,Value→cw,storeCells→dd,frozen_of_row→de,bodyPost_ret→dk,maxLen→du,results_cell_row→er,Addr→fg,Calls→fj,TypeId→fX,results_none→ge,heap_setCell_same→gi,below_drewN→hU,run_underlying→i5,Program→km,wpListIn_nil→kt,MemPlace→m5,info_parts→m6,bodyPost_end→n4,wpIn_region_lit→pw,results→rr,wpIn_wide→rv,wpList_append_lies→sn,heap_setCell_other→sq
open _root_.Nat renaming le_refl→cd,zero_add→cI,zero_le→cM,le_trans→eN,le_succ→iu,min_eq_left→ix,add_zero→i7,not_lt_zero→nB
open Go.Value renaming oneCell'→cn,slice→cv,slice→tn,pointer→tr,bool→tt,agg→tv,int→Z
open _root_.Option.some renaming inj→cy,injEq→dj
open Go.Exit renaming inBlock→cQ,noGoto_ret→ie
open Go.Addr renaming add_lit→cU
open Go.Act renaming put→cY
open Go.IntKind renaming i64→dt,signed→ef,wrap→eC,bits→eE,wrap_i64→lx,i64→U
open Go.DataW renaming trod_int→dy,trod_struct→eI,trod→jp,trod_string→kp
open _root_.Bool renaming and_eq_true→ej,true→ti,false→tj
open Go.Addr.mk renaming injEq→eV
open Go.Sem renaming run_bind→ft
open Go.Value.slice renaming injEq→fy
open Go.Op renaming equalIn→gt
open Go.Fence renaming wide→gx
open _root_.Std.Legacy.Range renaming forIn_eq_forIn_range'→iS,size→mT
open Go.Result renaming andThen_ok→kB
open Go.Instr renaming field→m7
open Go.Lib renaming run_eql_slice_nil→te
open _root_.Option renaming some→tf,none→th
open Go.Obj renaming cells→tA
open Go.Ending renaming returned→tB
open Go.Proofs.Tryz
def encZ (x:aw×aw):bp cw:=[Z U x.1,Z U x.2]
theorem tN:(am.info? 67).map (λi=>(i.zero,i.size,i.bytes))=tf (tf (tv #[Z U 0,Z U 0]),2,16):=by kernel_rfl
theorem BQ {w wA w5:World}{v:cw}(d:Ext (λ_=>lj) w wA)(e:wA.grownBy w5 v.ownBlock):Ext (λk=>v.ownBlock=tf k) w w5:=
 (d.mono (λ_ h=>h.elim)).trans (Ext.of_grown (M:=λk=>v.ownBlock=tf k) e (λ_ f=> .inl f)) (λ_ g=> .inl g)
structure GQ (B:bj)(W1:World)(o:cw)(l:bp (aw×aw))(wr:World):Prop where
 own:wr.ownsRow B 67 2 o l.length (l.flatMap encZ)
 low:aE B W1 wr
theorem GQ.app {B:bj}{W1 wr d w5:World}{o:cw}{l:bp (aw×aw)}{x:aw×aw}{g cap:bj}(h:GQ B W1 o l wr)(u:B<=W1.heap.size)(e:Ext (λ_=>lj) wr d)
  (f:w5.ownsRow B 67 2 (tn (tf ⟨g,0,th⟩) (l.length+1) cap) (l.length+1) (l.flatMap encZ++encZ x))(j:d.grownBy w5 o.ownBlock):GQ B W1 (tn (tf ⟨g,0,th⟩) (l++[x]).length cap) (l++[x]) w5:=by
 refine⟨?_, ?_⟩
 ·rw[fS,bm]
  simpa using f
 ·have q:Ext (λk=>o.ownBlock=tf k) wr w5:=BQ e j
  exact h.low.trans (q.below (by have:=h.low.size;omega) (λk t=>(h.own.lt k t).1))
theorem vY {f:aw}:∀(l d:bp Vr)(v:bj),(bF f v l).length<=(bF f v (l++d)).length
 |[],d,v=>by simp[bF]
 |x::r,d,v=>by
  rw[gh];unfold bF;rw[bm,bm];have:=vY (f:=f) r d (v+1);omega
theorem mO (m:Mo)(w:World)(W:m.inn w)(hp:m.ptrs.length<=1000000):
  fj am 22 #[tv m.cells] w λe w'=>∃ao cap,e= tB (tn ao m.ptrs.length cap)/\w'.ownsRow (w.heap.size+1) 67 2 (tn ao m.ptrs.length cap) m.ptrs.length (m.ptrs.flatMap encZ)/\aE w.heap.size w w':=by
 obtain⟨N,hN⟩:=zE w.heap.size;obtain⟨W1,v⟩:=zE (w.alloc (tA m.cells 25));have tD:=gy v;have vc:W1.heap.size=N+1:=by rw[<-v];simp[hN]
 have q1:W1.heap[N]?=tf (tA m.cells 25 (0,0)):=by rw[<-v,<-hN];exact alloc_at _ _
 have vd:=zH (W.below tD);have we:=zH tD;have vf:=zH v;have t:=zH vc;have G:=zH q1;have HP:=zH hp;have xj:m.fs.length<=9223372036854775807:=W.nf;unfold Mo.cells at vf;clear W hp tD v vc q1;unfold Mo.cells;go_enter func22,ntmps22
 go_upto_region 1 with(fail)
 rw[vf.out]
 go_upto_region 3 with(fail)
 go_loopw [3,4] (λo c wr=>∃(k:bj) (ao:cC fg) (cap:bj),k<=m.fs.length/\c= Z U (k:aw)/\o= tn ao (bU 0 (m.fs.take k)).length cap/\GQ (N+1) W1 (tn ao (bU 0 (m.fs.take k)).length cap) (bU 0 (m.fs.take k)) wr) (λ_ c _=>m.fs.length-(dp c).toNat)
 case atStart=>exact⟨0,th,0,cM _,rfl,rfl,⟨⟨rfl,.inl ⟨rfl,rfl⟩⟩,aq _ _⟩⟩
 case round=>
  obtain⟨k,ao,cap,hk,rfl,rfl,d⟩:=hrel;have tE:wr.cell? ⟨N,1,th⟩=tf (tn m.fA m.fs.length m.fC):=(rowAt ((d.low.block N (by omega)).trans G.out) 1 rfl).1;have vh:=ae ((d.low.block N (by omega)).trans G.out)
  by_cases tG:k<m.fs.length
  ·have xl:(k:aw)<(m.fs.length:aw):=by omega
   obtain⟨f,hf⟩:∃f,m.fs[k]?=tf f:=⟨_,ap tG⟩
   obtain⟨b,tM,vm,hb,tP⟩:=vd.out.frow (by intro e;rw[e] at tG;simp at tG);have tR:=vd.out.fin f (ci hf);have vp:b<N+1:=by have:=t.out;omega
   have vq:∀(q:World),aE (N+1) W1 q->q.cell? ⟨b,tM+k*8+2,th⟩=tf (tn f.c.varsA f.c.nvars f.c.varsC)/\q.cell? ⟨b,tM+k*8+3,th⟩=tf (tt f.c.rp):=λq hq=>⟨by rw[hq.cell (p:=⟨b,_,th⟩) vp];exact tP k f hf 2 _ rfl,by rw[hq.cell (p:=⟨b,_,th⟩) vp];exact tP k f hf 3 _ rfl⟩
   have vr:=zH vq;have tS:=zH tR;have HF:=zH hf;have u:=zH d;obtain⟨nv,tU⟩:=zE f.c.nvars;have wg:nv=f.vs.length:=by rw[<-tU];exact tR.nvars
   rw[tU] at vr;subst wg;rw[vm] at tE⊢;clear vq tP tR hf d tU;obtain⟨P,hP⟩:=zE (bU 0 (m.fs.take k));have vt:=zH hP;rw[hP] at u⊢;clear hP;have xo:cg (P.length+(f.vs.length+1)<=2000000->True):=λ_=>trivial;have vu:P.length+(cK (k:aw) f).length<=1000000:=by
    have y:=lw (fs:=m.fs) (k+1);rw[aS HF.out,kG,bm,vt.out,cI,ee,ix (by omega)] at y;have:=HP.out;unfold Mo.ptrs at this;omega
   have xp:(f.vs.length:aw)<=9223372036854775807:=by have:=tS.out.code.nvars;rw[tS.out.nvars] at this;unfold du at this;omega
   have vx:=zH vu;clear vu
   go_wp2_with fail
   clear tE vh
   go_loopw [3,5] (λo c wi=>∃(j:bj) (ao:cC fg) (cap:bj),j<=f.vs.length/\c= Z U (j:aw)/\o= tn ao (P++bF (k:aw) 0 (f.vs.take j)).length cap/\GQ (N+1) W1 (tn ao (P++bF (k:aw) 0 (f.vs.take j)).length cap) (P++bF (k:aw) 0 (f.vs.take j)) wi) (λ_ c _=>f.vs.length-(dp c).toNat)
   case atStart=>exact⟨0,ao,cap,cM _,rfl,by simp[bF],by simpa[bF] using u.out⟩
   case round=>
    obtain⟨j,J,K,hj,rfl,rfl,d⟩:=hrel;obtain⟨q2,q3⟩:=vr.out _ d.low;have tE:wr.cell? ⟨N,1,th⟩=tf (tn (tf ⟨b,tM,th⟩) m.fs.length m.fC):=by rw[<-vm];exact(rowAt ((d.low.block N (by omega)).trans G.out) 1 rfl).1
    have vh:=ae ((d.low.block N (by omega)).trans G.out)
    by_cases tW:j<f.vs.length
    ·have xr:(j:aw)<(f.vs.length:aw):=by omega
     obtain⟨x,R⟩:∃x,f.vs[j]?=tf x:=⟨_,ap tW⟩
     obtain⟨b2,wj,wk,xt,vy⟩:=tS.out.vars (by intro e;rw[e] at tW;simp at tW);have hv:wr.cell? ⟨b2,wj+j*3,th⟩=tf (tt x.ptr):=by rw[d.low.cell (p:=⟨b2,_,th⟩) (by have:=t.out;show b2<N+1;omega)];exact vy j x R 0 _ rfl
     rw[wk] at q2;have HX:=zH R;have h:=zH d;have g:cg (P++bF (k:aw) 0 (f.vs.take (j+1))=(P++bF (k:aw) 0 (f.vs.take j))++(if x.ptr=ti then[((k:aw),(j:aw))] else[])):=by
      unfold cg;rw[aS R,ng,cI,ee,ix (by omega),ei]
     obtain⟨px,ua⟩:=zE x.ptr;rw[ua] at hv g;clear R vy d;cases px with
     |false=>
      go_wp2;go_roundw
      case rel=>exact⟨j+1,J,K,by omega,by go_num,by rw[g.out];simp,by rw[g.out];simpa using h.out⟩
      case measure=>simp[dp];omega
     |true=>
      have hL:(P++bF (k:aw) 0 (f.vs.take j)).length+1<=1000001:=by
       have y:=vx.out;have h2:(bF (k:aw) 0 (f.vs.take j)).length<=(cK (k:aw) f).length:=by
        unfold cK;rw[<-jx j f.vs,jx,bm];exact eN (vY (f.vs.take j) (f.vs.drop j) 0) (by rw[jx];omega)
       rw[bm];omega
      obtain⟨Q,z⟩:=zE (P++bF (k:aw) 0 (f.vs.take j));rw[z] at h g hL⊢;obtain⟨i0,ub,uc,ud,ue⟩:=m6 tN;have wl:N+1<=wr.heap.size:=by have:=h.out.low.size;have:=t.out;omega
      clear z
      go_upto_region 9 with(fail)
      go_wp2_with (at_builtin;refine sn _ rfl _ _ 62 rfl (N+1) 67 i0 (tv #[Z U 0,Z U 0]) 2 16 underlying62 ub uc ud ue rfl (by decide) (tn J Q.length K) Q.length (Q.flatMap encZ) rfl (ownsRow_below h.out.own ((aq wr.heap.size wr).alloc (cd _) _)) ⟨wr.heap.size,0,th⟩ 1 1 [Z U (k:aw),Z U (j:aw)] rfl rfl (lF _ _ _) (by simp[cn]) (by decide) (by unfold du;omega) (by omega) (by rw[World.size_alloc];omega) _ rfl ?_;intro g5 up w5 A E ur uv;have ux:=zH (h.out.app (x:=((k:aw),(j:aw))) (by have:=t.out;omega) ((Ext.refl _ _).alloc _) A E);clear A E ur uv)
      go_roundw
      case rel=>exact⟨j+1,tf ⟨g5,0,th⟩,up,by omega,by go_num,by rw[g.out,cH rfl,bm];rfl,by rw[g.out];simpa using ux.out⟩
      case measure=>simp[dp];omega
    ·have ws:j=f.vs.length:=by omega
     subst ws;rw[cL] at d⊢;have g:cg (bU 0 (m.fs.take (k+1))=(P++bF (k:aw) 0 f.vs)++(if f.c.rp=ti then[((k:aw),(-1:aw))] else[])):=by
      unfold cg;rw[aS HF.out,kG,vt.out,cI,ee,ix (by omega),ei];rfl
     have hL:(P++bF (k:aw) 0 f.vs).length<=1000000:=by
      have y:=vx.out;unfold cK at y;rw[bm] at y;rw[bm];omega
     obtain⟨Q,z⟩:=zE (P++bF (k:aw) 0 f.vs);rw[z] at d g hL⊢;have h:=zH d;obtain⟨px,ua⟩:=zE f.c.rp;rw[ua] at q3 g;clear z d;cases px with
     |false=>
      go_wp2;go_roundw
      case rel=>exact⟨k+1,J,K,by omega,by go_num,by rw[g.out];simp,by rw[g.out];simpa using h.out⟩
      case measure=>simp[dp];omega
     |true=>
      obtain⟨i0,ub,uc,ud,ue⟩:=m6 tN;have wl:N+1<=wr.heap.size:=by have:=h.out.low.size;have:=t.out;omega
      go_wp2_with (at_builtin;refine sn _ rfl _ _ 62 rfl (N+1) 67 i0 (tv #[Z U 0,Z U 0]) 2 16 underlying62 ub uc ud ue rfl (by decide) (tn J Q.length K) Q.length (Q.flatMap encZ) rfl (ownsRow_below h.out.own ((aq wr.heap.size wr).alloc (cd _) _)) ⟨wr.heap.size,0,th⟩ 1 1 [Z U (k:aw),Z U (-1)] rfl rfl (lF _ _ _) (by simp[cn]) (by decide) (by unfold du;omega) (by omega) (by rw[World.size_alloc];omega) _ rfl ?_;intro g5 up w5 A E ur uv;have ux:=zH (h.out.app (x:=((k:aw),(-1:aw))) (by have:=t.out;omega) ((Ext.refl _ _).alloc _) A E);clear A E ur uv)
      go_roundw
      case rel=>exact⟨k+1,tf ⟨g5,0,th⟩,up,by omega,by go_num,by rw[g.out,cH rfl,bm];rfl,by rw[g.out];simpa using ux.out⟩
      case measure=>simp[dp];omega
  ·have xf:k=m.fs.length:=by omega
   subst xf;rw[cL] at d⊢;have u:=zH d;clear d;go_wp2;go_ret;exact⟨ao,cap,rfl,(by first|exact u.out.own|(rw[hN];exact u.out.own)),we.out.trans (u.out.low.mono (by have:=t.out;omega))⟩
theorem tO (w:World)(f v:aw):zS 24 #[tr th,Z U f,Z U v] w (Z U 0):=by
 go_enter func24,ntmps24;go_wp2;go_ret;exact⟨rfl,rfl⟩
theorem BR (w:World)(f v:aw):zS 25 #[tr th,Z U f,Z U v] w (Z U 0):=by
 have d:=zH (tO w f v);go_enter func25,ntmps25
 go_wp2_with (go_at_call 24;refine d.out.mono ?_;rintro e w ⟨rfl,rfl⟩)
 go_ret;exact⟨rfl,rfl⟩
theorem BS (w:World)(k:aw):zS 21 #[tr th,Z U k] w (.tuple #[Z U 0,Z U 0,tt tj]):=by
 go_enter func21,ntmps21;go_wp2
 go_ret3
 exact⟨rfl,rfl⟩
theorem lD (w:World):zP 16 #[tr th] w (tv #[Z U 0,tn th 0 0]):=by
 obtain⟨D,f⟩:=zE w.heap.size;obtain⟨W1,d⟩:=zE (w.alloc (tA #[Z U 0,tn th 0 0] 48));have g:=gy d;have h:W1.heap[D]?=tf (tA #[Z U 0,tn th 0 0] 48 (0,0)):=by rw[<-d,<-f];exact alloc_at _ _
 have j:=zH g;have t:=zH d;have e:=zH h;have o:=zH f;clear d g h;go_enter func16,ntmps16
 go_upto_region 1 with(fail)
 rw[t.out];(try rw[o.out]);obtain⟨v,x⟩:=rowAt e.out 0 rfl;obtain⟨y,z⟩:=rowAt e.out 1 rfl;have A:=ae e.out;go_wp2;(try simp only[cQ,Exit.then]);have u:Ext (·=D) W1 ((W1.setCell ⟨D,0,th⟩ (Z U 0)).setCell ⟨D,1,th⟩ (tn th 0 0)):=aa (aa (Ext.refl _ _) _) _;refine dk (er (P:=am) rfl _ _ D 48 _ (0,0) _ rfl (aW e.out) rm rfl (by kernel_rfl)) rfl ?_;exact⟨rfl,j.out.trans (u.below j.out.size (λq E=>by have:=o.out;omega))⟩
theorem qB (w:World)(p:cC fg):fj am 23 #[.pointer p] w λe w'=>
  e= tB (.func (.func 68) #[] #[tr (tf ⟨w.heap.size,0,th⟩)])/\w'=w.alloc (tA #[.pointer p] 43):=by
 go_enter func23,ntmps23;go_wp2;go_ret;exact⟨rfl,rfl⟩
def Cv (x:aw×aw):dl cw:=#[Z U x.1,Z U x.2]
theorem ym (w:World)(B:bj)(d:w.heap[B]?=tf (tA #[tr th] 43 (0,0))):Iter am 68 #[tr (tf ⟨B,0,th⟩)] Cv ([]:bp (aw×aw)) (λk=>k=B) w:=by
 intro l J o C W f hst g hstx h e;have j:=zH e;have c0:W.cell? ⟨B,0,th⟩=tf (tr th):=by rw[bt _ _ _ _ _ _ ((f.block B (br.1 d).1).trans d)];rfl
 clear hst g hstx h e;simp only[rb,gh,eK];go_enter func68,ntmps68;go_wp2
 ((try simp only[cQ,Exit.then]);(try rw[ie]);(first|refine dk (ge rfl _ _ _) rfl ?_|refine n4 (ge rfl _ _ _) rfl ?_));exact⟨_,rfl,.inl ⟨C,j.out⟩⟩
theorem Ak (d:bj)(p q r s:aw)(W:World):(gt (d+1+1) 67 (tv #[Z U p,Z U q]) (tv #[Z U r,Z U s])).run am W= .ok (p==r&&q==s) W:=by
 have e:∀w,(Go.sizeOf 3).run am w= .ok 1 w:=Tryz.sizeOf3;have o:∀w,(isAgg 3).run am w= .ok tj w:=Tryz.isAgg3;have f:∀(a b:aw)(w:World),(gt (d+1) 3 (Z U a) (Z U b)).run am w= .ok (a==b) w:=λa b w=>run_equalIn_int w d 3 .i64 .i64 a b cX;have g:∀(a b:aw)(w:World),(part 3 #[Z U a,Z U b] 0).run am w= .ok (Z U a) w:=λa b w=>by simp[part,ft,e,o]
 have h:∀(a b:aw)(w:World),(part 3 #[Z U a,Z U b] 1).run am w= .ok (Z U b) w:=λa b w=>by simp[part,ft,e,o]
 rw[Op.equalIn.eq_def];simp only[ft,i5 underlying67,kB,e]
 by_cases j:p=r
 ·by_cases t:q=s
  ·subst j t;simp[iS,mT,rN,ft,g,h,f]
  ·simp[iS,mT,rN,ft,g,h,f,j,t]
 ·simp[iS,mT,rN,ft,g,h,f,j]
theorem EQ (p q r s:aw)(W:World):(binOp .eql 67 (tv #[Z U p,Z U q]) (tv #[Z U r,Z U s])).run am W= .ok (tt (p==r&&q==s)) W:=by
 rw[run_eql_struct,show(10000:bj)=9998+1+1 from rfl,Ak];rfl
theorem ER (p q r s:aw)(W:World):(binOp .neq 67 (tv #[Z U p,Z U q]) (tv #[Z U r,Z U s])).run am W= .ok (tt (!(p==r&&q==s))) W:=by
 rw[run_neq_struct,show(10000:bj)=9998+1+1 from rfl,Ak];rfl
theorem Al {l:bp (aw×aw)}{k:bj}{x:aw×aw}(h:l[k]?=tf x):(l.flatMap encZ)[k*2]?=tf (Z U x.1)/\(l.flatMap encZ)[k*2+1]?=tf (Z U x.2):=by
 have:=EO l k x h;exact this
theorem kH {w:World}{B:bj}{e:fX}{o n cap:bj}{ao:cC fg}{l:bp cw}{j:bj}{u:cw}(h:w.ownsRow B e o (tn ao n cap) n l)(f:l[j]?=tf u):∃g,ao=tf ⟨g,0,th⟩/\g<w.heap.size/\w.cell? ⟨g,j,th⟩=tf u:=by
 rcases h.2 with⟨t,d⟩|⟨g,cap,v,d,_,q,_⟩
 ·have:=h.1
  subst d;have:=(bo.1 f).1;omega
 ·simp only[fy] at d
  refine⟨g,d.1,ae q, ?_⟩;have:=h.cells (g:=g) (by rw[d.1];rfl) _ _ f
  rwa [cU,cI] at this
theorem qD {x:aw×aw}:∀{P:bp (aw×aw)}{k j:bj},P[j]?=tf x->(∀q,q<j->P[q]? ≠tf x)->aJ k P x=2*((k+j:bj):aw)+1
 |[],k,j,h,_=>by simp at h
 |p::r,k,j,h,d=>by
  unfold aJ;cases j with
  |zero=>
   obtain rfl:p=x:=by simpa using h
   rw[cH rfl];simp
  |succ j=>
   rw[bw (λe=>d 0 (by omega) (by simp[e]))];have:=qD (P:=r) (k:=k+1) (j:=j) (by simpa using h) (λq f=>by have:=d (q+1) (by omega);simpa using this);rw[this];congr 3;omega
theorem yn (m:Mo)(w:World)(f v:aw)(hm:m.inn w)(hp:m.ptrs.length<=1000000):
  zP 26 #[tv m.cells,Z U f,Z U v] w (Z U (aJ 0 m.ptrs (f,v))):=by
 obtain⟨N,g⟩:=zE w.heap.size;obtain⟨W1,E⟩:=zE (w.alloc (tA m.cells 25));have G:=ik E g;have J:W1.heap[N]?=tf (tA m.cells 25 (0,0)):=by rw[<-E,<-g];exact alloc_at _ _
 have c0:=zR J 0 (tn m.sA m.ss.length m.sC);have c1:=zR J 1 (tn m.fA m.fs.length m.fC);obtain⟨P,hP⟩:=zE m.ptrs;have y:=zH (mO m W1 (hm.below (by rw[g];exact G)) hp);rw[hP] at y hp⊢;obtain⟨z,K⟩:=zE (aJ 0 P (f,v));rw[K];have HZ:=zH K;have R:=E;simp only[Mo.cells] at R y;have tD:=zH R;have tE:=zH G;have tG:cg (N<=W1.heap.size):=by have:=G.size;unfold cg;omega
 unfold zP;rw[g];simp only[Mo.cells];obtain⟨B0,tM⟩:=zE (W1.heap.size+1);rw[tM] at y;have ua:=zH g;clear hm G J E R hP tM K;go_enter func26,ntmps26
 go_upto_region 1 with(fail)
 rw[tD.out];clear g
 go_upto_region 2 with(go_at_call 22;refine y.out.mono ?_;rintro e w2 ⟨ao,cap,rfl,d,tP⟩;have ub:=zH d;have tR:cg (aE N w w2):=zH (tE.out.trans (tP.mono tG.out));clear d tP)
 clear c0 c1 y tD tE tG;have uv:am.eqGuardType am.depth 67=tj:=by kernel_rfl
 go_wp2_with fail
 go_loopw [8] (λc wr=>∃j:bj,j<=P.length/\c= Z U (j:aw)/\aE w2.heap.size w2 wr/\∀q,q<j->P[q]? ≠tf (f,v)) (λc _=>P.length-(dp c).toNat)
 case atStart=>exact⟨0,cM _,rfl,aq _ _,λq h=>fz h (nB _)⟩
 case round=>
  rename World=>wr;obtain⟨j,hj,rfl,o,t⟩:=hrel;have tS:cg (aE N w wr):=zH (tR.out.trans (o.mono (by have:=tR.out.size;exact eN (Nat.le_of_eq ua.out.symm) this)))
  by_cases uc:j<P.length
  ·have ux:(j:aw)<(P.length:aw):=by omega
   obtain⟨x,A⟩:∃x,P[j]?=tf x:=⟨_,ap uc⟩
   obtain⟨W,e2⟩:=Al A;have d:=ownsRow_below ub.out o;obtain⟨g1,rfl,_,d1⟩:=kH d W;obtain⟨g2,x2,_,d2⟩:=kH d e2;simp only[dj,eV,and_true] at x2;subst x2;have tU:=EQ x.1 x.2 f v;have ud:=zH o
   by_cases u:x=(f,v)
   ·have hb:(x.1==f&&x.2==v)=ti:=by rw[u];simp
    obtain rfl:2*(j:aw)+1=z:=by rw[<-HZ.out,qD (by rw[A,u]) t,cI]
    rw[hb] at tU;have vc:dt.wrap (2*(j:aw))=2*(j:aw):=by simp[eC,eE,ef];omega
    have vd:dt.wrap (2*(j:aw)+1)=2*(j:aw)+1:=by simp[eC,eE,ef];omega
    clear A t W e2 d o hb u;go_wp2;go_ret;exact⟨rfl,tS.out⟩
   ·have hb:(x.1==f&&x.2==v)=tj:=by
     rw[Bool.eq_false_iff];intro h;simp only[ej,sR] at h;exact u (Prod.ext h.1 h.2)
    rw[hb] at tU;have HX:=zH A;have ue:=zH t;have up:=zH u;clear A t W e2 d o hb u;go_wp2;go_roundw
    case rel=>
     refine⟨j+1,by omega,by go_num,ud.out,λq hq hy=> ?_⟩
     by_cases e:q=j
     ·rw[e,HX.out] at hy;exact up.out (cy hy)
     ·exact ue.out q (by omega) hy
    case measure=>simp[dp];omega
  ·have ur:j=P.length:=by omega
   subst ur;have tW:(f,v)∉P:=λh=>by
    obtain⟨q,hq⟩:=sr.1 h;exact t q (bo.1 hq).1 hq
   obtain rfl:0=z:=by rw[<-HZ.out,jS tW]
   clear t tW o;go_wp2;go_ret;exact⟨rfl,tS.out⟩
theorem ve (w:World)(ao:cC fg)(n cap:bj)(xs:bp cw)(f:xs.length=n*2)(g:ao=th->n=0)(o:∀d,ao=tf d->∀j u,xs[j]?=tf u->w.cell? (d.add j)=tf u)(q:∀u∈xs,u.oneCell'=ti)(hn:n<=90000):
  fj am 69 #[tn ao n cap] w λe w'=>∃y,e= tB y/\w'.ownsRow w.heap.size 121 2 y n xs/\aE w.heap.size w w':=by
 have tU:∀(w:World)(a:cC fg)(n c t v:bj),(binOp .eql 119 (tn a n c) (tn th t v)).run am w= .ok (tt a.isNone) w:=λw a n c t v=>te w _ _ a n c t v oX;cases ao with
 |none=>
  obtain rfl:=g rfl;have G:xs=[]:=cV (by omega);subst G;clear f g o q;go_enter func69,ntmps69;go_wp2;go_ret;exact⟨_,rfl,World.ownsRow_nil _ _ _ _,aq _ _⟩
 |some d=>
  have J:cg (xs.length=n*2):=f;have K:=zH q;have R:cg (∀x,tf d=tf x->∀j u,xs[j]?=tf u->(w.alloc (tA #[] 121)).cell? (x.add j)=tf u):=by
   intro x e j u W;obtain rfl:=cy e;have z:=o d rfl j u W;rw[World.cell?_alloc_lt _ _ _ (nC z).2];exact z
  have HE:cg ((w.alloc (tA #[] 121)).ownsRow w.heap.size 121 2 (tn (tf ⟨w.heap.size,0,th⟩) 0 0) 0 []):=gK _ _ _ _ (cd _);obtain⟨i0,tD,tE,tG,tM⟩:=m6 oZ;clear f g o q;go_enter func69,ntmps69
  go_wp2_with (at_builtin;refine jv rfl _ _ 119 rfl w.heap.size 121 i0 _ 2 16 oX tD tE tG tM rfl (by decide) _ 0 [] rfl HE.out (tf d) n cap xs rfl J.out (λh=>by cases h) R.out K.out (by unfold du;omega) (by omega) (by rw[World.size_alloc];omega) ?_;intro v7 w7 A E tP;have tR:=zH A;have tS:=zH E;clear A E tP)
  go_ret;refine⟨_,rfl, ?_, ?_⟩
  ·have:=tR.out
   simpa using this
  ·exact((aq _ _).alloc (cd _) _).grown tS.out (by rw[World.size_alloc];omega) (λk hk=>by have h9:tf w.heap.size=tf k:=hk;have:=cy h9;omega)
theorem DC {w:World}{p:aw×aw}:∀(c:dl cw),c.size=2->(dd ⟨w.heap.size,0,th⟩ [Z U p.1,Z U p.2] 0).run am (w.alloc (tA c 121))= .ok () (w.alloc (tA #[Z U p.1,Z U p.2] 121)):=λc d=>
 cr (P:=am) w 121 c #[Z U p.1,Z U p.2] (by show _=tf 2;kernel_rfl) d (by simp[cn])
section
variable {T Bb MB:bj}{lv:cC fg×bj}{P:bp (aw×aw)}{N:aw}{F:aw×aw->aw}{C0:bp (bp aw)}{Y:bp (aw×aw)}{at_:aw×aw}{B:bj}{tg:bj->bj}{s:nz}
def GR (D T:bj)(lv:cC fg×bj)(n:bj)(k:bj):Prop:=k=D\/k=T\/(cv lv.1 n lv.2).ownBlock=tf k
theorem DD (w:World)(D:bj)(h1:w.heap[D]?=tf (tA #[tr (tf ⟨T,0,th⟩)] 43 (0,0)))(h:Wn T Bb MB lv P N F C0 Y at_ B tg s w)(hl:P.length<=90000):
  Iter am 68 #[tr (tf ⟨D,0,th⟩)] Cv P (GR D T lv P.length) w:=by
 intro l J Jx C W tM hst tW hstx ua hJ;have vh:=zH tW;have vm:=zH hst;have HM:=zH ua;have HJ:=zH hJ;have y:=h.grow tM;have c0:W.cell? ⟨D,0,th⟩=tf (tr (tf ⟨T,0,th⟩)):=by rw[bt _ _ _ _ _ _ ((tM.block D (ae h1)).trans h1)];rfl
 have c1:W.cell? ⟨T,1,th⟩=tf (tn lv.1 P.length lv.2):=(rowAt y.row 1 rfl).1;have vp:=ae y.row;have ub:cg (fj am 69 #[tn lv.1 P.length lv.2] W λe w'=>∃ao cap,e= tB (tn ao P.length cap)/\w'.ownsRow W.heap.size 121 2 (tn ao P.length cap) P.length (P.flatMap oJ)/\aE W.heap.size W w'):=by
  refine(ve W lv.1 P.length lv.2 (P.flatMap oJ) y.lrow.1 (λe=> ?_) (λad e j u hu=> ?_) (λu hu=> ?_) hl).mono ?_
  ·rcases y.lrow.2 with h'|⟨g,_,_,o,_⟩
   ·exact h'.2
   ·simp only[fy] at o;rw[e] at o;exact fz o.1 (by simp)
  ·have hr:=y.lrow
   rw[e] at hr;obtain⟨g,o,_,e3⟩:=kH hr hu;obtain rfl:=cy o;rw[cU,cI];exact e3
  ·obtain⟨x,_,z⟩:=iv.1 hu
   simp only[oJ,fW,pP,or_false] at z;rcases z with rfl|rfl<;>rfl
  ·rintro e w' ⟨v',rfl,ho,hb⟩
   obtain⟨ao,cap,rfl⟩:=aC ho;exact⟨ao,cap,rfl,ho,hb⟩
 clear hst tW hstx ua hJ h y h1 tM;simp only[rb,gh,eK];go_enter func68,ntmps68
 go_upto_region 2 with(go_at_call 69;refine ub.out.mono ?_;rintro e w2 ⟨ao,cap,rfl,q,uc⟩;have tP:=zH q;have ud:=zH uc;clear q uc)
 clear c0 c1 vp ub;obtain⟨S0,tR⟩:=zE W.heap.size;rw[tR] at tP;have vq:=zH tR;have wj:cg (Ext (λk=>W.heap.size<=k) W w2):=Ext.of_below_size ud.out;have ue:cg (∀t d W1 W2,J t d W1->aE W1.heap.size W1 W2->J t d W2):=λt d W1 W2 hj hb=>vm.out t d W1 W2 hj (Ext.of_below_size hb);have vr:cg (J [] C w2):=ue.out _ _ _ _ HJ.out ud.out;have vt:cg (∀k,C k->k<S0):=λk A=>by rw[<-vq.out];exact(vh.out _ _ _ HJ.out k A).1
 clear tR
 go_wp2_with fail
 go_loopw [13] (λi wr=>∃(a:bj) (d:bj->Prop),a<=P.length/\i= Z U (a:aw)/\J (P.take a) d wr/\wr.ownsRow S0 121 2 (tn ao P.length cap) P.length (P.flatMap oJ)/\∀k,(cv ao P.length cap).ownBlock=tf k->¬d k) (λi _=>P.length-(dp i).toNat)
 case atStart=>
  refine⟨0,C,cM _,rfl,vr.out,tP.out,λk A hc=> ?_⟩;have:=vt.out k hc;have:=(tP.out.lt k A).1;omega
 case round=>
  rename World=>wr;obtain⟨a,d,ha,rfl,K,q,tS⟩:=hrel
  by_cases vu:a<P.length
  ·have wk:(a:aw)<(P.length:aw):=by omega
   obtain⟨x,z⟩:∃x,P[a]?=tf x:=⟨_,ap vu⟩
   obtain⟨o,e2⟩:=EO P a x z;obtain⟨E,rfl,_,d1⟩:=kH q o;obtain⟨g2,x2,_,d2⟩:=kH q e2;simp only[dj,eV,and_true] at x2;subst x2;rw[i7] at d1;have hst:=DC (w:=wr) (p:=x);obtain⟨G,hG⟩:=zE wr.heap.size;obtain⟨f,tE⟩:=zE (wr.alloc (tA #[Z U x.1,Z U x.2] 121));have tU:=gy tE;have tG:f.heap[G]?=tf (tA #[Z U x.1,Z U x.2] 121 (0,0)):=by rw[<-tE,<-hG];exact alloc_at _ _
   have k0:=zR tG 0 (Z U x.1);have k1:=zR tG 1 (Z U x.2);have up:=ae tG;have vx:cg (J (P.take a) d f):=ue.out _ _ _ _ K tU;have ur:cg (f.ownsRow S0 121 2 (tn (tf ⟨E,0,th⟩) P.length cap) P.length (P.flatMap oJ)):=ownsRow_below q tU;have uv:=zH tS;have hs:P.take (a+1)=P.take a++[x]:=by rw[kA,z];rfl
   have HS:=zH hs;have ux:cg (P.take (a+1)<+:P):=List.take_prefix _ _;have vc:=zH (HM.out _ x d f vx.out (by rw[<-hs];exact ux.out));unfold Cv at vc;have vy:cg (E<f.heap.size):=(ur.out.lt E rfl).2;have we:=zH tE;clear z o e2 q tS K tE tU tG hs
   go_upto_region 4 with(fail)
   rw[we.out];refine(rv (n:=0)).1 ?_;refine pw (aD rfl (by simp) (.func (.yield l) #[] #[]) (w':=f) (by simp[go_sem]) ?_);simp only[cY,bh,bx,ca];refine aD rfl (by simp) (tr (tf ⟨G,0,th⟩)) (w':=f) (by go_simp) ?_;simp only[cY,bh,bx,ca];refine aD rfl (by simp) (Z U x.1) (w':=f) (by go_simp) ?_;simp only[cY,bh,bx,ca];refine aD rfl (by simp) (tr (tf ⟨G,1,th⟩)) (w':=f) (by go_simp) ?_;simp only[cY,bh,bx,ca];refine aD rfl (by simp) (Z U x.2) (w':=f) (by go_simp) ?_;simp only[cY,bh,bx,ca];refine fK (fv:= .func (.yield l) #[] #[]) (args:=#[Z U x.1,Z U x.2]) rfl (.tmp 17) #[.tmp 19,.tmp 21] _ rfl rfl (by simp[Act.eval]) vc.out ?_;intro v R hv;simp only[cY,bh,bx,ca];rcases hv with⟨rfl,C',vd,tD,vf⟩|⟨rfl,tD⟩
   ·refine aD rfl (by simp) (tt tj) (w':=R) (by simp[go_sem]) ?_
    simp only[cY,bh,bx,ca];refine kt ?_;have HN:cg (J (P.take (a+1)) C' R/\R.ownsRow S0 121 2 (tn (tf ⟨E,0,th⟩) P.length cap) P.length (P.flatMap oJ)/\∀k,(cv (tf ⟨E,0,th⟩) P.length cap).ownBlock=tf k->¬C' k):=by
     refine⟨by rw[HS.out];exact tD,ah ur.out vf uv.out,λk A hc=> ?_⟩;rcases vd k hc with h|h
     ·exact uv.out k A h
     ·have e9:tf E=tf k:=A
      obtain rfl:=cy e9;have:=vy.out;omega
    clear tD vf vd d1 d2 k0 k1 up hst;go_wp2;go_roundw
    case rel=>exact⟨a+1,C',by omega,by go_num,HN.out.1,HN.out.2.1,HN.out.2.2⟩
    case measure=>simp[dp];omega
   ·refine aD rfl (by simp) (tt ti) (w':=R) (by simp[go_sem]) ?_
    simp only[cY,bh,bx,ca];refine kt ?_;have HF:cg (∃t,t<+:P/\Jx t R):=⟨P.take (a+1),ux.out,by rw[HS.out];exact tD⟩
    clear tD d1 d2 k0 k1 up hst;go_wp2
    ((try simp only[cQ,Exit.then]);(try rw[ie]);(first|refine dk (ge rfl _ _ _) rfl ?_|refine n4 (ge rfl _ _ _) rfl ?_));exact⟨_,rfl,.inr HF.out⟩
  ·have wg:a=P.length:=by omega
   subst wg;have HF:cg (J P d wr):=by
    rw[cL] at K;exact K
   clear K q tS;go_wp2
   ((try simp only[cQ,Exit.then]);(try rw[ie]);(first|refine dk (ge rfl _ _ _) rfl ?_|refine n4 (ge rfl _ _ _) rfl ?_));exact⟨_,rfl,.inl ⟨d,HF.out⟩⟩
end
section
open Go.RowKit Go.ChangeShapes Go.WideShapes Go.Deep
section
variable {H:Type}{enc:fX×cw->H}{w:World}{base:bj}{spare:bj->ml}{held:ml}
def Ins.mode_in (w:World)(i:Ins):Prop:=∃(l:bp aw) (ao:cC fg) (cap:bj),i.modeV= tn ao l.length cap/\dX w ao l
theorem DF {n:bj}{d:bp cw}{x:DataW H×bp m5}(h:jp enc am w base spare held n 42 d=tf x):∃i:Ins,i.cells.toList=d/\i.args_in w/\i.mode_in w:=by
 obtain⟨i,e,g⟩:=DR h;refine⟨i,e,g, ?_⟩;obtain⟨xs,m,_,_,t,j,hf⟩:=eI cA h;have u:xs.length=12:=j;have o:=(hf 8 _ rfl).trans (ap (show 8<xs.length by omega));obtain⟨A,L,C,f,_,q,_⟩:=jq o;refine⟨L,A,C, ?_,q⟩;rw[<-e] at f;simpa[Ins.cells,show am.cellsOf 35=1 from by kernel_rfl] using f
theorem FW {n:bj}{g:bp cw}{x:DataW H×bp m5}(h:jp enc am w base spare held n 92 g=tf x):∃f:Fd,f.cells.toList=g/\f.nm.size<=du:=by
 obtain⟨xs,m,_,_,j,J,hf⟩:=eI underlying92 h;have K:am.cellsOf 92=5:=by kernel_rfl
 have tU:xs.length=3:=J;rw[K] at j;obtain⟨c0,tW,R,W⟩:=zU j;obtain⟨c1,ua,e1,tD⟩:=zU W;obtain⟨c2,ub,e2,tE⟩:=zU tD;obtain⟨c3,uc,e3,tG⟩:=zU tE;obtain⟨c4,ud,e4,tM⟩:=zU tG;obtain rfl:=cV tM;subst e4 e3 e2 e1 R;have z1:am.cellsOf 4=1:=by kernel_rfl
 have o:am.cellsOf 9=1:=by kernel_rfl
 have q:am.cellsOf 3=1:=by kernel_rfl
 have t:am.cellsOf 32=2:=by kernel_rfl
 have u:am.cellsOf 40=2:=by kernel_rfl
 have g0:=(hf 0 _ rfl).trans (ap (show 0<xs.length by omega));obtain⟨nm,r0,_,tP⟩:=kp gS g0;obtain rfl:c0= .string nm:=by simpa[o] using r0
 have g1:=(hf 1 _ rfl).trans (ap (show 1<xs.length by omega));obtain⟨d,m',_,_,_,tR,v⟩:=eI dT g1;have ue:d.length=2:=tR;have p0:=(v 0 _ rfl).trans (ap (show 0<d.length by omega));have p1:=(v 1 _ rfl).trans (ap (show 1<d.length by omega));obtain⟨y,s0,_⟩:=DataW.trod_bool mu p0;obtain⟨z,s1,_,_⟩:=kp gS p1;obtain rfl:c1= .bool y:=by simpa[z1,t] using s0
 obtain rfl:c2= .string z:=by simpa[o,t] using s1
 have g2:=(hf 2 _ rfl).trans (ap (show 2<xs.length by omega));obtain⟨e,up,_,_,_,tS,A⟩:=eI ms g2;have ur:e.length=2:=tS;have u0:=(A 0 _ rfl).trans (ap (show 0<e.length by omega));have u1:=(A 1 _ rfl).trans (ap (show 1<e.length by omega));obtain⟨E,v0,_,_⟩:=dy cX u0;obtain⟨G,v1,_,_⟩:=dy cX u1;obtain rfl:c3= .int .i64 E:=by simpa[q,u] using v0
 obtain rfl:c4= .int .i64 G:=by simpa[q,u] using v1
 exact⟨⟨nm,y,z,E,G⟩,rfl,tP⟩
theorem FX {n:bj}{d:bp cw}{x:DataW H×bp m5}(h:jp enc am w base spare held n 90 d=tf x):∃s:St,s.cells.toList=d/\s.inn w:=by
 obtain⟨xs,m,_,_,g,v,hf⟩:=eI nx h;have y:am.cellsOf 90=4:=by kernel_rfl
 have tR:xs.length=3:=v;rw[y] at g;obtain⟨c0,tS,z,A⟩:=zU g;obtain⟨c1,tU,E,G⟩:=zU A;obtain⟨c2,tW,J,K⟩:=zU G;obtain⟨c3,ua,R,W⟩:=zU K;obtain rfl:=cV W;subst R J E z;have z2:am.cellsOf 9=1:=by kernel_rfl
 have j:am.cellsOf 3=1:=by kernel_rfl
 have o:am.cellsOf 40=2:=by kernel_rfl
 have z6:am.cellsOf 88=1:=by kernel_rfl
 have g0:=(hf 0 _ rfl).trans (ap (show 0<xs.length by omega));obtain⟨nm,r0,_,tD⟩:=kp gS g0;obtain rfl:c0= .string nm:=by simpa[z2] using r0
 have g1:=(hf 1 _ rfl).trans (ap (show 1<xs.length by omega));obtain⟨fA,fs,fC,r1,tE,tG,tM⟩:=open_row Fd.cells (λf:Fd=>f.nm.size<=du) 5 (by decide) gR (by kernel_rfl) (λn d x hx=>FW hx) g1;obtain rfl:c1= .slice fA fs.length fC:=by simpa[z6] using r1
 have g2:=(hf 2 _ rfl).trans (ap (show 2<xs.length by omega));obtain⟨e,ub,_,_,_,tP,q⟩:=eI ms g2;have uc:e.length=2:=tP;have u0:=(q 0 _ rfl).trans (ap (show 0<e.length by omega));have u1:=(q 1 _ rfl).trans (ap (show 1<e.length by omega));obtain⟨t,v0,_,_⟩:=dy cX u0;obtain⟨u,v1,_,_⟩:=dy cX u1;obtain rfl:c2= .int .i64 t:=by simpa[j,o] using v0
 obtain rfl:c3= .int .i64 u:=by simpa[j,o] using v1
 exact⟨⟨⟨nm,fA,fs.length,fC,t,u⟩,fs⟩,rfl,rfl,tG,tE,tD,tM⟩
end
end
section
open Go.RowKit Go.ChangeShapes Go.WideShapes Go.Deep
theorem wfI_of {x:aw}(h:(Lit.int .i64 x).wf=ti):bu x:=by
 simp only[Lit.wf,ej,oY] at h;exact h
def Ins.wfs (i:Ins):Prop:=bu i.d/\bu i.a/\bu i.b/\bu i.f
section
variable {H:Type}{enc:fX×cw->H}{w:World}{base:bj}{spare:bj->ml}{held:ml}
theorem DI {n:bj}{e:bp cw}{x:DataW H×bp m5}(h:jp enc am w base spare held n 42 e=tf x):∃i:Ins,i.cells.toList=e/\(i.args_in w/\i.wfs)/\i.mode_in w:=by
 obtain⟨i,g,j,o⟩:=DF h;refine⟨i,g,⟨j, ?_⟩,o⟩;obtain⟨xs,m,_,_,tD,q,hf⟩:=eI cA h;have tE:xs.length=12:=q;have z:am.cellsOf 3=1:=by kernel_rfl
 have t:=(hf 1 _ rfl).trans (ap (show 1<xs.length by omega));have u:=(hf 2 _ rfl).trans (ap (show 2<xs.length by omega));have v:=(hf 3 _ rfl).trans (ap (show 3<xs.length by omega));have y:=(hf 4 _ rfl).trans (ap (show 4<xs.length by omega));obtain⟨d,r1,_,A⟩:=dy cX t;obtain⟨a,r2,_,w2⟩:=dy cX u;obtain⟨b,r3,_,E⟩:=dy cX v;obtain⟨f,r4,_,G⟩:=dy cX y;rw[<-g] at r1 r2 r3 r4;have J:i.d=d:=by simpa[Ins.cells,z] using r1
 have K:i.a=a:=by simpa[Ins.cells,z] using r2
 have R:i.b=b:=by simpa[Ins.cells,z] using r3
 have W:i.f=f:=by simpa[Ins.cells,z] using r4
 unfold Ins.wfs;rw[J,K,R,W];exact⟨wfI_of A,wfI_of w2,wfI_of E,wfI_of G⟩
theorem ES {n:bj}{e:bp cw}{x:DataW H×bp m5}(h:jp enc am w base spare held n 38 e=tf x):∃f:Fn,f.cells.toList=e/\f.inn w/\∀i∈f.c.ins,i.wfs:=by
 obtain⟨xs,m,_,_,y,tG,hf⟩:=eI cJ h;have hc:am.cellsOf 38=8:=by kernel_rfl
 have vd:xs.length=6:=tG;rw[hc] at y;obtain⟨c0,vf,e0,tM⟩:=zU y;obtain⟨c1,vh,e1,tP⟩:=zU tM;obtain⟨c2,vm,e2,tR⟩:=zU tP;obtain⟨c3,vp,e3,tS⟩:=zU tR;obtain⟨c4,vq,e4,tU⟩:=zU tS;obtain⟨c5,vr,e5,tW⟩:=zU tU;obtain⟨c6,vt,e6,ua⟩:=zU tW;obtain⟨c7,vu,e7,ub⟩:=zU ua;obtain rfl:=cV ub;subst e7 e6 e5 e4 e3 e2 e1 e0;have g0:=(hf 0 _ rfl).trans (ap (show 0<xs.length by omega));obtain⟨nm,r0,_,uc⟩:=kp gS g0;obtain rfl:c0= .string nm:=by simpa[show am.cellsOf 9=1 from by kernel_rfl] using r0
 have g1:=(hf 1 _ rfl).trans (ap (show 1<xs.length by omega));obtain⟨z,r1,_,_⟩:=dy cX g1;obtain rfl:c1= .int .i64 z:=by simpa[show am.cellsOf 3=1 from by kernel_rfl] using r1
 have g2:=(hf 2 _ rfl).trans (ap (show 2<xs.length by omega));obtain⟨A,g,E,r2,ud,G,_⟩:=open_row Vr.cells (λ_=>True) 3 (by decide) underlying30 (by kernel_rfl) (λn e x d=>BV d) g2;obtain rfl:c2= .slice A g.length E:=by simpa[show am.cellsOf 30=1 from by kernel_rfl] using r2
 have g3:=(hf 3 _ rfl).trans (ap (show 3<xs.length by omega));obtain⟨v,J,_⟩:=BV g3;have z4:am.cellsOf 34=3:=by kernel_rfl
 simp[Vr.cells,z4] at J;obtain⟨rfl,rfl,rfl⟩:=J;have g4:=(hf 4 _ rfl).trans (ap (show 4<xs.length by omega));obtain⟨K,o,R,r4,ue,W,_⟩:=jq g4;obtain rfl:c6= .slice K o.length R:=by simpa[show am.cellsOf 35=1 from by kernel_rfl] using r4
 have g5:=(hf 5 _ rfl).trans (ap (show 5<xs.length by omega));obtain⟨tD,ins,tE,r5,up,ur,q⟩:=open_row Ins.cells (λi=>(i.args_in w/\i.wfs)/\i.mode_in w) 13 (by decide) underlying36 (by kernel_rfl) (λn e x d=>DI d) g5;obtain rfl:c7= .slice tD ins.length tE:=by simpa[show am.cellsOf 36=1 from by kernel_rfl] using r5
 obtain⟨uv,ux,vc⟩:=kM (λk (l:bp aw)=>∀i,ins[k]?=tf i->∃ao cap,i.modeV= .slice ao l.length cap/\dX w ao l) ins.length (λk hk=>by
  obtain⟨i,hi⟩:∃i,ins[k]?=tf i:=⟨_,ap hk⟩
  obtain⟨l,ao,cap,t,u⟩:=(q i (ci hi)).2;exact⟨l,λj hj=>by rw[hi] at hj;obtain rfl:=cy hj;exact⟨ao,cap,t,u⟩⟩)
 exact⟨⟨⟨nm,z,A,g.length,E,v.ptr,v.tgt,v.cls,K,o.length,R,tD,tE,ins⟩,g,o,uv⟩,rfl,⟨⟨ur,λx d=>(q x d).1.1,up,⟨g,rfl,G⟩,ud,ue,⟨o,rfl,W⟩⟩,uc,rfl,G,rfl,W,ux,λk i l t u=>vc k l u i t⟩,λx d=>(q x d).1.2⟩
theorem open_moW {r:Reach}{A:bj}{v:cw}{d:DataW H}{p:bp m5}(E:Value.okWide am w r A 25 v)(h:DataW.Trod enc am w base spare held 25 v d p):
  ∃m:Mo,v= .agg m.cells/\m.inn w/\∀g∈m.fs,∀i∈g.c.ins,i.wfs:=by
 obtain⟨j,fuel,G,J⟩:=Ga fh E h;obtain⟨xs,m,_,_,o,K,hf⟩:=eI fh J;have R:am.cellsOf 25=2:=by kernel_rfl
 have tU:xs.length=2:=K;rw[R] at o;obtain⟨c0,W,q⟩:=pl (show j.toList.length=1+1 from by rw[o]);have tD:W.length=1:=by rw[q] at o;simpa using o
 obtain⟨c1,tW,e1,tE⟩:=zU tD;obtain rfl:=cV tE;subst e1;have g0:=(hf 0 _ rfl).trans (ap (show 0<xs.length by omega));have g1:=(hf 1 _ rfl).trans (ap (show 1<xs.length by omega));obtain⟨sA,t,sC,y,tG,tM,tP⟩:=open_row St.cells (λs=>s.inn w) 4 (by decide) underlying22 (by kernel_rfl) (λn j x u=>FX u) g0;obtain⟨fA,fs,fC,r1,tR,tS,z⟩:=open_row Fn.cells (λf=>f.inn w/\∀i∈f.c.ins,i.wfs) 8 (by decide) underlying23 (by kernel_rfl) (λn j x u=>ES u) g1;rw[q] at y r1;obtain rfl:c0= .slice sA t.length sC:=by simpa[show am.cellsOf 22=1 from by kernel_rfl] using y
 obtain rfl:c1= .slice fA fs.length fC:=by simpa[show am.cellsOf 22=1 from by kernel_rfl,show am.cellsOf 23=1 from by kernel_rfl] using r1
 have e:j=(⟨sA,sC,fA,fC,t,fs⟩:Mo).cells:=Array.ext' q;exact⟨⟨sA,sC,fA,fC,t,fs⟩,by rw[G,e],⟨tM,tS,tP,λf hf=>(z f hf).1,tG,tR⟩,λf hf=>(z f hf).2⟩
end
end
section
attribute [local go_sem] Oper.semAt_some
theorem ny (tmps:dl cw)(w:World)(d:fg)(v:cw)(e:tmps[8]?=tf (tr (tf d)))(f:w.cell? d=tf v):(rr Tryz.f6 tmps).run am w= .ok v w:=by
 simp[rr,go_sem,e,f]
theorem ET:∀(W:World),(m7 48 (tv #[Z U 0,tn th 0 0]) 0).run am W= .ok (Z U 0) W:=λW=>by kernel_rfl
theorem EU:∀(W:World),(m7 48 (tv #[Z U 0,tn th 0 0]) 1).run am W= .ok (tn th 0 0) W:=λW=>by kernel_rfl
theorem EW (p q:Tmp)(v u:cw)(t:dl cw):((#[p,q]:dl Tmp).zip #[v,u]).foldl (λt (p,v)=>t.setIfInBounds p v) t=(t.setIfInBounds p v).setIfInBounds q u:=by simp
theorem wantPointers_calls (m:Mo)(w:World)(f v stop:aw)(hm:m.inn w)(zv:∀g∈m.fs,∀i∈g.c.ins,i.wfs)(hf:bu f)(hv:bu v):
  zP 6 #[tv m.cells,Z U f,Z U v,Z U stop] w (tt ti):=by
 obtain⟨N,hN⟩:=zE w.heap.size;obtain⟨W1,we⟩:=zE (((w.alloc (tA m.cells 25)).alloc (tA #[Z U stop] 3)).alloc (tA #[tt tj] 4));obtain⟨tS,wg,q0,q1,q2⟩:=Br we;rw[hN] at tS wg q0 q1 q2;have HS:cg (∀W,aE (N+3) W1 W->W.cell? ⟨N,0,th⟩=tf (tn m.sA m.ss.length m.sC)/\W.cell? ⟨N,1,th⟩=tf (tn m.fA m.fs.length m.fC)/\W.cell? ⟨N+1,0,th⟩=tf (Z U stop)/\W.cell? ⟨N+2,0,th⟩=tf (tt tj)/\W.frozen? ⟨N+2,0,th⟩=tj/\m.inn W/\N+3<=W.heap.size):=λW z=>by
  have h0:=(z.block N (by omega)).trans q0;have u:=(z.block (N+1) (by omega)).trans q1;have y:=(z.block (N+2) (by omega)).trans q2;exact⟨zR h0 0 _,zR h0 1 _,zR u 0 _,zR y 0 _,de _ _ _ _ _ y,hm.below (by rw[hN];exact tS.trans (z.mono (by omega))),by have:=z.size;omega⟩
 have HY:cg (∀Wx w' (M:bj->Prop),(∀k,M k->N+3<=k)->aE (N+3) W1 Wx->Ext M (Wx.setCell ⟨N+2,0,th⟩ (tt ti)) w'->w'.cell? ⟨N+2,0,th⟩=tf (tt ti)/\aE N w w'):=by
  intro Wx w' M hM hb J;have GF:N+3<=Wx.heap.size:=by have:=hb.size;omega
  have h0:Ext (λk=>N<=k) w W1:=Ext.of_below tS;have u:Ext (λk=>N<=k) w (Wx.setCell ⟨N+2,0,th⟩ (tt ti)):=(h0.trans (Ext.of_below hb) (λk G=> .inl (by omega))).trans (Ext.set1 _ _ _ _) (λk G=> .inl (by omega));have y:Ext (λk=>N<=k) w w':=u.trans J (λk G=> .inl (by have:=hM k G;omega));obtain⟨_,_,_,k8,_,_,_⟩:=HS.out Wx hb;refine⟨?_,y.below (by omega) (λ_ h=>h)⟩;rw[J.cell (a:=⟨N+2,0,th⟩) (by rw[World.size_setCell];show N+2<_;omega) (λh=>by have:=hM _ h;simp only at this;omega)]
  first|exact World.cell?_setCell_same _ k8|exact World.cell?_setCell_same _ _ k8|exact World.cell?_setCell_same _ _ _ k8
 have wj:cg (∀W,aE (N+3) W1 W->fj am 14 #[] W λe w'=>e= tB (tt ti)/\aE (N+3) W1 w'):=λW z=>(mM W).mono λe w' ⟨u,y⟩=>⟨u,z.trans (y.mono (by have:=z.size;omega))⟩
 have C7:cg (∀W,aE (N+3) W1 W->fj am 12 #[tv #[tn m.sA m.ss.length m.sC,tn m.fA m.fs.length m.fC]] W λe w'=>∃b:ml,e= tB (tt b)/\(b=ti->m.shortW)/\aE (N+3) W1 w'):=λW z=>by
  have h:=uZ W m (HS.out W z).2.2.2.2.2.1;exact h.mono λe w' ⟨b,u,y,K⟩=>⟨b,u,y,z.trans (K.mono (by have:=z.size;omega))⟩
 have Dd:=zH zv;have wk:=we;simp only[Mo.cells] at wk;have An:=zH wk;have tM:=zH wg;have At:cg (m.shortW->∀W,aE (N+3) W1 W->pF W m):=λhs W z=>Dz (HS.out W z).2.2.2.2.2.1 hs Dd.out;unfold zP;rw[hN];simp only[Mo.cells];clear hm tS q0 q1 q2 we wk zv wg
 (refine jo func6 rfl ?_
  simp only[ntmps6,List.size_toArray,eh,ks,Nat.reduceAdd,Nat.reduceSub,Array.replicate_succ,
   Array.replicate_zero,List.push_toArray,rb,eK,gh])
 go_upto_region 1 with(fail)
 rw[An.out];clear hN An
 go_upto_region 3 with(go_at_call 14;refine(wj.out W1 (aq _ _)).mono ?_;rintro e w2 ⟨rfl,wl⟩)
 obtain⟨k0,k1,k2,k3,k4,_,k6⟩:=HS.out w2 wl;have Dg:=zH (C7.out w2 wl);clear wl
 go_wp2_with fail
 go_at_call 12;refine Dg.out.mono ?_;rintro e w3 ⟨b,rfl,Ax,AD⟩;have AE:=zH Ax;have tP:=zH AD;clear k0 k1 k2 k3 k4 k6 Ax AD;cases b with
 |false=>
  go_wp2_with fail
  go_at_call 14;refine(wj.out w3 tP.out).mono ?_;rintro e w5 ⟨rfl,tE⟩;obtain⟨_,_,_,k3,k4,_,_⟩:=HS.out w5 tE;have ub:=zH tE;clear tE;go_wp2;refine⟨[],rfl,by simp,by simp,tt ti,λw' J=> ?_⟩;obtain⟨u,y⟩:=HY.out w5 w' _ (λk G=>by simp at G) ub.out J;exact⟨ny _ _ _ _ rfl u,rfl,y⟩
 |true=>
 have up:cg (∀W,aE (N+3) W1 W->pF W m):=At.out (AE.out rfl);have tU:cg (m.ptrs.length<=20000):=(up.out w3 tP.out).np;obtain⟨k0,k1,k2,k3,k4,_,k6⟩:=HS.out w3 tP.out;have ur:=zH (su m w3 (up.out w3 tP.out).ri);obtain⟨E,hE⟩:=zE (gZ m);rw[hE] at ur;simp only[Mo.cells] at ur;clear At AE;have ws:cg (∀W,aE w3.heap.size w3 W->aE (N+3) W1 W):=λW z=>tP.out.trans (z.mono (by have:=tP.out.size;have:=tM.out;omega))
 by_cases AF:E=0
 rotate_left
 ·have e0:(E != 0)=ti:=by rw[oe];exact AF
  clear hE
  go_wp2_with fail
  go_at_call 13;refine ur.out.mono ?_;rintro e w4 ⟨rfl,uv⟩;have uc:=zH (ws.out w4 uv);clear uv k0 k1 k2 k3 k4 k6
  go_wp2_with fail
  go_at_call 14;refine(wj.out w4 uc.out).mono ?_;rintro e w5 ⟨rfl,tE⟩;obtain⟨_,_,_,k3,k4,_,_⟩:=HS.out w5 tE;have ub:=zH tE;clear tE;go_wp2;refine⟨[],rfl,by simp,by simp,tt ti,λw' J=> ?_⟩;obtain⟨u,y⟩:=HY.out w5 w' _ (λk G=>by simp at G) ub.out J;exact⟨ny _ _ _ _ rfl u,rfl,y⟩
 subst AF;have e0:((0:aw) != 0)=tj:=rfl;have AH:cg (∀W,aE (N+3) W1 W->fj am 15 #[tv #[tn m.sA m.ss.length m.sC,tn m.fA m.fs.length m.fC]] W λe w'=>∃T Bb MB lv at_ tg s C Y,e= tB (.tuple #[tr (tf ⟨T,0,th⟩),Z U 0])/\Wn T Bb MB lv m.ptrs (2*(m.ptrs.length:aw)) (aJ 0 m.ptrs) C Y at_ (W.heap.size+1) tg s w'/\aE W.heap.size W w'):=λW z=>by
  refine(oH m W (up.out W z) hE).mono ?_;rintro e w' ⟨T,Bb,MB,lv,at_,he,tg,s,tW,hb⟩;refine⟨T,Bb,MB,lv,at_,tg,s,_,_,he,tW, ?_⟩;have Do:aE W.heap.size W (W.alloc (tA m.cells 25)):=(aq _ _).alloc (cd _) _;exact Do.trans (hb.mono (iu _))
 clear hE
 go_upto_region 5 with(go_at_call 13;refine ur.out.mono ?_;rintro e w4 ⟨rfl,uv⟩;have uc:=zH (ws.out w4 uv);clear uv)
 clear k0 k1 k2 k3 k4 k6 e0;obtain⟨k0,k1,k2,k3,k4,_,k6⟩:=HS.out w4 uc.out;have AI:=zH (AH.out w4 uc.out);clear ur AH ws
 go_wp2_with fail
 go_at_call 15;refine AI.out.mono ?_;rintro e w5 ⟨T,Bb,MB,lv,at_,tg,s,C0,Y,rfl,tW,tE⟩;have ub:cg (aE (N+3) W1 w5):=uc.out.trans (tE.mono (by have:=uc.out.size;have:=tM.out;omega));have Ds:cg (T<w5.heap.size/\w4.heap.size+1<=T):=⟨ae tW.row,(tW.lo T (by rw[tW.t1];decide)).1⟩
 obtain⟨A0,hA0⟩:=zE w5.heap.size;obtain⟨A,ux⟩:=zE (w5.alloc (tA #[tr (tf ⟨T,0,th⟩)] 43));have xf:=gy ux;have AK:A.heap[A0]?=tf (tA #[tr (tf ⟨T,0,th⟩)] 43 (0,0)):=by rw[<-ux,<-hA0];exact alloc_at _ _
 have GO:A.heap.size=A0+1:=by rw[<-ux];simp[hA0]
 have ua:cg (Wn T Bb MB lv m.ptrs (2*(m.ptrs.length:aw)) (aJ 0 m.ptrs) C0 Y at_ (w4.heap.size+1) tg s A):=tW.grow xf;have tG:cg (aE (N+3) W1 A):=ub.out.trans (xf.mono (by have:=ub.out.size;have:=tM.out;omega));have xj:=zH AK;have DA:=zH ux;have DB:=zH hA0;clear AI k0 k1 k2 k3 k4 k6 tW tE xf AK ux
 go_upto_region 6 with(fail)
 rw[DA.out];obtain⟨k0,k1,k2,k3,k4,AM,k6⟩:=HS.out A tG.out;have xl:=zH (mO m A AM (by have:=tU.out;omega));simp only[Mo.cells] at xl;clear AM
 go_wp2_with fail
 go_at_call 22;refine xl.out.mono ?_;rintro e w7 ⟨ao,cap,rfl,AN,AS⟩;have xo:cg (w7.ownsRow (A.heap.size+1) 67 2 (tn ao m.ptrs.length cap) m.ptrs.length (m.ptrs.flatMap encZ)):=AN;have xp:=zH AS;obtain⟨Q,hQ⟩:=zE w7.heap.size;obtain⟨P,hP⟩:=zE m.ptrs;rw[hP] at xo ua tU⊢;have HP:=zH hP;obtain⟨W8,ud⟩:=zE ((w7.alloc (tA #[tn ao P.length cap] 62)).alloc (tA #[Z U 0] 3));have xr:=EX ud;have AT:=vZ ud hQ;have AW:=yo ud hQ;have xt:W8.heap.size=Q+2:=by rw[<-ud];simp[hQ]
 have vm:cg (aE A.heap.size A W8):=xp.out.trans (xr.mono xp.out.size);have DE:=zH xr;have GP:cg (aE (N+3) W1 W8):=tG.out.trans (vm.out.mono k6);have xF:cg (A0+1<=Q):=by have:=xp.out.size;unfold cg;omega
 have A1:=zH AT;have DG:=zH AW;have DH:=zH ud;have DM:∀(c:dl cw),c.size=1->True:=λ_ _=>trivial;clear xl k0 k1 k2 k3 k4 k6 AN AS hP xr AT AW ud DM
 go_upto_region 8 with(fail)
 rw[DH.out];obtain⟨W9,vc⟩:=zE (W8.alloc (tA #[tr (tf ⟨T,0,th⟩)] 43));have xT:=gy vc;have A2:W9.heap[Q+2]?=tf (tA #[tr (tf ⟨T,0,th⟩)] 43 (0,0)):=by rw[<-vc,<-xt];exact alloc_at _ _
 have ya:W9.heap.size=Q+3:=by rw[<-vc];simp[xt]
 have yb:cg (aE A.heap.size A W9):=vm.out.trans (xT.mono vm.out.size);have DO:cg (W8.cell? ⟨A0,0,th⟩=tf (tr (tf ⟨T,0,th⟩))):=zR ((vm.out.block A0 (by omega)).trans xj.out) 0 _;have DP:=DO.out;have DQ:=zH (DD W9 (Q+2) A2 (ua.out.grow yb.out) (by have:=tU.out;omega));have DS:=zH vc;have vp:=zH ya;have vq:=zH xT;clear vc xT A2
 go_wp2_with fail
 go_at_call 23;refine(qB W8 (tf ⟨T,0,th⟩)).mono ?_;rintro e w9 ⟨rfl,rfl⟩;rw[xt,DS.out];clear DP
 go_wp2_with fail
 have D0:cg (P.Nodup):=by unfold cg;rw[<-HP.out];exact Mo.ptrs_nodup m
 have D1:cg (∀x∈P,bu x.1/\bu x.2):=λx J=>by
  rw[<-HP.out] at J;obtain⟨k,g,u,y,K⟩:=oz (f:=x.1) (v:=x.2) J;have G:=(bo.1 u).1;have GS:=(up.out w3 tP.out).nv g (ci u);have GT:=(up.out w3 tP.out).nf;unfold bu;rcases K with⟨K,_⟩|⟨K,_⟩
  ·omega
  ·have:=bJ.1 K;omega
 have D3:cg (∀W,aE A.heap.size A W->∀(k:bj)(x:aw×aw),P[k]?=tf x->zS 24 #[tr (tf ⟨T,0,th⟩),Z U x.1,Z U x.2] W (Z U (2*(k:aw)+1))/\zS 25 #[tr (tf ⟨T,0,th⟩),Z U x.1,Z U x.2] W (Z U (2*(k:aw)+2))):=λW z k x J=>by
  have GW:=(bo.1 J).1;have hn:=tU.out;obtain⟨u,y⟩:=D1.out x (ci J);have e:aJ 0 P (x.1,x.2)=2*(k:aw)+1:=by rw[sO D0.out J,cI]
  have ho:=lZ W (ua.out.grow z) x.1 x.2 u y;have hu:=pG W (ua.out.grow z) x.1 x.2 u y (by rw[e];omega);rw[e] at ho hu;rw[bw (by omega),show 2*(k:aw)+1+1=2*(k:aw)+2 by omega] at hu;exact⟨ho,hu⟩
 have A3:cg (∀k,GR (Q+2) T lv P.length k->k<W9.heap.size/\k≠Q+1):=λk G=>by
  have u:=vp.out;have y:=Ds.out.1;have K:=DB.out;have h4:=xF.out;rcases G with rfl|rfl|G
  ·omega
  ·omega
  ·have:=(ua.out.lrow.lt k G).2
   omega
 refine pK (α:=aw×aw) (gf:=68) (hf:=func68) (hname:=by rfl) (hb:=rfl) (hit:=DQ.out) rfl ?hbel ?hRd (λ_=>rfl)
  (λd C W=>C=(λk=>k=Q+1)/\W.heap[Q+1]?=tf (tA #[Z U (d.length:aw)] 3 (0,0))/\Ext (λk=>k=Q+1) W9 W/\∀q:bj,1<=q->q<=d.length->(q:aw)≠stop)
  (λd C W=>C=(λk=>k=Q+1)/\W.heap[Q+1]?=tf (tA #[Z U (d.length:aw)] 3 (0,0))/\Ext (λk=>k=Q+1) W9 W/\1<=d.length/\(d.length:aw)=stop) ?hI ?hIC ?hIx (λk=>k=Q+1) ?h0 ?hround ?hout
 case hbel=>exact aq _ _
 case hRd=>exact λk h=>(A3.out k h).1
 case hI=>
  rintro d C W W' ⟨rfl,u,y,K⟩ J;exact⟨rfl,J.heap u (λh=>h.2 rfl),y.trans J (λj hj=> .inr hj.1),K⟩
 case hIx=>
  rintro d C W W' ⟨rfl,u,y,K⟩ J;exact⟨rfl,J.heap u (λh=>h.2 rfl),y.trans J (λj hj=> .inr hj.1),K⟩
 case hIC=>
  rintro d C W ⟨rfl,u,y,K⟩ k rfl;exact⟨ae u,λh=>(A3.out _ h).2 rfl⟩
 case h0=>exact⟨rfl,(vq.out.block (Q+1) (by have:=vp.out;omega)).trans DG.out,Ext.refl _ _,λq u y=>fz (eN u y) (by simp)⟩
 case hround=>
  rintro l d x C W hl ⟨rfl,u,y,K⟩ tR;have G4:d.length<P.length:=by have:=tR.length_le;simp at this;omega
  have vr:P[d.length]?=tf x:=by
   obtain⟨t,ht⟩:=tR;rw[<-ht];simp
  unfold Cv;rw[EW];simp only[bh,bx,ca];have HI:=zH (And.intro u (And.intro y K));clear u y K tR;obtain⟨F,hF⟩:∃F,F=gx.inRound l:=⟨_,rfl⟩
  have A4:cg (∀(n f:bj)(args:dl cw)(w:World)(R:Ending->World->Prop),fj am f args w R->CallsIn F n am f args w R):=by
   intro n f args w R h;rw[hF];exact CallsIn.inRound l (callsIn_wide.2 h)
  have Hb:F.round=tf l:=by rw[hF];rfl
  have Hc:∀f,F.fn f:=λf=>by rw[hF];trivial
  have Hh:F.depth=th:=by rw[hF];rfl
  rw[<-hF];clear hF
  gi_wp2
  refine⟨_,λk G=> .inl G,⟨rfl,HI.out.1,HI.out.2.1,HI.out.2.2⟩,Ext.refl _ _, ?_⟩;rintro W₂ ⟨_,g1,g2,g3⟩ D4;have ya:=vp.out;have hA7:=xF.out;have yd:cg (∀W,aE W₂.heap.size W₂ W->aE A.heap.size A W):=by
   have u:aE A.heap.size A W₂:=yb.out.trans (g2.below (by omega) (λk G=>by omega));exact λW z=>u.trans (z.mono u.size)
  have tD:=yd.out W₂ (aq _ _);have A5:=zH λW z=>D3.out W (yd.out W z) _ _ vr;have Ek:W₂.cell? ⟨Q+1,0,th⟩=tf (Z U (d.length:aw)):=by rw[bt _ _ _ _ _ _ g1];rfl
  have f12:W₂.frozen? ⟨Q+1,0,th⟩=tj:=de _ _ _ _ _ g1;have vd:W₂.heap[Q]?=tf (tA #[tn ao P.length cap] 62 (0,0)):=g2.heap ((vq.out.block Q (by omega)).trans A1.out) (by omega);have EV:=zR vd 0 (tn ao P.length cap);have hA2:W₂.heap[A0]?=tf (tA #[tr (tf ⟨T,0,th⟩)] 43 (0,0)):=(tD.block A0 (by omega)).trans xj.out;have c9:=zR hA2 0 (tr (tf ⟨T,0,th⟩));have h7:(cv ao P.length cap).ownBlock≠tf (Q+1):=λe=>by have:=(xo.out.lt _ e).2;omega
  have ye:W₂.ownsRow (A.heap.size+1) 67 2 (tn ao P.length cap) P.length (P.flatMap encZ):=by
   have h9:W9.ownsRow (A.heap.size+1) 67 2 (tn ao P.length cap) P.length (P.flatMap encZ):=ownsRow_below (ownsRow_below xo.out DE.out) vq.out;exact ah h9 g2 (λk G e=>h7 (by rw[G,e]))
  obtain⟨e1,e2⟩:=Al vr;obtain⟨gr,rfl,_,d1⟩:=kH ye e1;obtain⟨Hi,x2,_,d2⟩:=kH ye e2;simp only[dj,eV,and_true] at x2;subst x2;have yi:W₂.cell? ⟨N+1,0,th⟩=tf (Z U stop):=(HS.out W₂ (tG.out.trans (tD.mono (by have:=tG.out.size;have:=tM.out;omega)))).2.2.1;have E0:am.eqGuardType am.depth 67=tj:=by kernel_rfl
  have E1:∀W,(binOp .neq 67 (tv #[Z U x.1,Z U x.2]) (tv #[Z U x.1,Z U x.2])).run am W= .ok (tt tj) W:=λW=>by rw[ER];simp
  have Hj:=tU.out;have t0:decide ((P.length:aw)<=(d.length:aw))=tj:=cm (by omega);have t1:decide (P.length<=d.length)=tj:=cm (by omega);have t2:(d.length:aw)<(P.length:aw):=by omega
  have r1:dt.wrap (2*(d.length:aw))=2*(d.length:aw):=by rw[lx];omega
  have r2:dt.wrap (2*(d.length:aw)+1)=2*(d.length:aw)+1:=by rw[lx];omega
  have r3:dt.wrap (2*(d.length:aw)+2)=2*(d.length:aw)+2:=by rw[lx];omega
  have E2:=zH g2;have E3:=zH g1;have E4:=zH g3;have Hk:=zH vr;have E6:Q+1<W₂.heap.size:=ae g1;clear g1 g2 g3 D4 tD vd hA2 h7 ye e1 e2 vr yi
  gi_upto_region 11 with(fail)
  refine nu (by kernel_rfl) (by kernel_rfl) (by kernel_rfl) ?_
  repeat (gi_big_quiet_step ((first
   |(gi_at_call 24;refine(A4.out _ _ _ _ _ (A5.out _ (hU (aq _ _) _)).1).mono ?_;rintro e w' ⟨rfl,rfl⟩;exact⟨rfl,_,rfl⟩)
   |(gi_at_call 25;refine(A4.out _ _ _ _ _ (A5.out _ (hU (aq _ _) _)).2).mono ?_;rintro e w' ⟨rfl,rfl⟩;exact⟨rfl,_,rfl⟩))))
  refine wpQuietIn_nil ?_;rintro W₃ ⟨nq,A6⟩;have hE:Ext (λ_=>lj) W₂ W₃:=by rw[A6];exact(Ext.refl _ _).drewN nq
  have g1:=hE.heap E3.out (λh=>h);have g2:Ext (λk=>k=Q+1) W9 W₃:=E2.out.trans hE (λ_ h=>h.elim);have tD:aE A.heap.size A W₃:=yd.out W₃ (hE.below (cd _) (λ_ h=>h.elim));have yi:W₃.cell? ⟨N+1,0,th⟩=tf (Z U stop):=(HS.out W₃ (tG.out.trans (tD.mono (by have:=tG.out.size;have:=tM.out;omega)))).2.2.1;have E7:N+1<W₃.heap.size:=by have:=tG.out.size;have:=tM.out;have:=tD.size;omega
  have Hn:=ae g1;have Fc:Q+1≠N+1:=by have:=tG.out.size;have:=tM.out;omega
  have Hp:=zR g1 0 (Z U (d.length:aw));have Hs:W₃.frozen? ⟨Q+1,0,th⟩=tj:=de _ _ _ _ _ g1;have vt:Ext (·=Q+1) W₃ (W₃.setCell ⟨Q+1,0,th⟩ (Z U ((d.length:aw)+1))):=Ext.set1 _ _ _ _;have yk:(W₃.setCell ⟨Q+1,0,th⟩ (Z U ((d.length:aw)+1))).heap[Q+1]?=tf (tA #[Z U ((d.length:aw)+1)] 3 (0,0)):=by
   rw[gi _ _ _ _ _ _ g1];rfl
  have Hu:(W₃.setCell ⟨Q+1,0,th⟩ (Z U ((d.length:aw)+1))).cell? ⟨N+1,0,th⟩=tf (Z U stop):=by
   rw[vt.cell (a:=⟨N+1,0,th⟩) E7 (λe=>Fc e.symm)];exact yi
  have Hv:(W₃.setCell ⟨Q+1,0,th⟩ (Z U ((d.length:aw)+1))).cell? ⟨Q+1,0,th⟩=tf (Z U ((d.length:aw)+1)):=zR yk 0 _;have Hw:dt.wrap ((d.length:aw)+1)=(d.length:aw)+1:=by rw[lx];omega
  have Bk:Ext (λk=>k=Q+1) W₂ (W₃.setCell ⟨Q+1,0,th⟩ (Z U ((d.length:aw)+1))):=(hE.mono (λ_ h=>h.elim)).trans vt (λj hj=> .inl hj);have HG:=zH (And.intro yk (And.intro (g2.trans vt (λj hj=> .inl hj)) Bk));have yp:((d++[x]).length:aw)=(d.length:aw)+1:=by simp
  clear hE g1 g2 tD A6 yk vt Bk c9 EV Ek f12 d1 d2 E1 E0 E6;obtain⟨sb,Bm⟩:=zE ((d.length:aw)+1==stop);cases sb with
  |true=>
   have yq:cg ((d.length:aw)+1=stop):=by unfold cg;simpa using Bm
   gi_wp2
   refine⟨_,λk G=> .inl G,⟨rfl,rfl, ?_,HG.out.2.1,by simp,by rw[yp];exact yq.out⟩,HG.out.2.2⟩;rw[yp];exact HG.out.1
  |false=>
   have yq:cg ((d.length:aw)+1≠stop):=by unfold cg;simpa using Bm
   gi_wp2
   refine⟨_,λk G=> .inl G,⟨rfl, ?_,HG.out.2.1,λq u y=> ?_⟩,HG.out.2.2⟩
   ·rw[yp];exact HG.out.1
   ·rw[bm] at y
    simp at y;rcases Nat.lt_or_ge d.length q with K|K
    ·have:q=d.length+1:=by omega
     subst this;push_cast;exact yq.out
    ·exact E4.out q u K
 case hout=>
  rintro D d C2 W hD Hx tR Bs yr;have hG:W.heap[Q+1]?=tf (tA #[Z U (d.length:aw)] 3 (0,0))/\Ext (λk=>k=Q+1) W9 W/\((if 0<stop/\stop<(P.length:aw) then stop else(P.length:aw))=(d.length:aw)):=by
   rcases Bs with⟨rfl,rfl,u,y,K⟩|⟨rfl,u,y,K,h4⟩
   ·refine⟨u,y, ?_⟩
    rw[bw];rintro⟨q1,q2⟩;exact K stop.toNat (by omega) (by omega) (by omega)
   ·refine⟨u,y, ?_⟩
    have:=tR.length_le
    split<;>omega
  clear Bs;obtain⟨u,y,K⟩:=hG;have ya:=vp.out;have hA7:=xF.out;have yv:aE A.heap.size A W:=yb.out.trans (y.below (by omega) (λk G=>by omega));have Fi:=ae yr;have vd:W.heap[Q]?=tf (tA #[tn ao P.length cap] 62 (0,0)):=y.heap ((vq.out.block Q (by omega)).trans A1.out) (by omega);have Hy:=ae u;have By:=zH yv;have yy:cg (N+3<=A.heap.size/\N+3<=W.heap.size):=by have:=tG.out.size;have:=tM.out;have:=yv.size;unfold cg;omega
  have vu:cg (∀W',aE W.heap.size W W'->W'.cell? ⟨N,0,th⟩=tf (tn m.sA m.ss.length m.sC)/\W'.cell? ⟨N,1,th⟩=tf (tn m.fA m.fs.length m.fC)/\W'.cell? ⟨N+1,0,th⟩=tf (Z U stop)/\W'.cell? ⟨Q,0,th⟩=tf (tn ao P.length cap)/\W'.cell? ⟨Q+1,0,th⟩=tf (Z U (d.length:aw))/\W'.cell? ⟨A0,0,th⟩=tf (tr (tf ⟨T,0,th⟩))/\W'.cell? ⟨N+2,0,th⟩=tf (tt tj)/\W'.frozen? ⟨N+2,0,th⟩=tj/\aE A.heap.size A W'/\aE (N+3) W1 W'/\(W'.setCell ⟨N+2,0,th⟩ (tt ti)).heap[D]?=tf (.deferred (tf []))/\m.inn W'):=by
   intro W' hb;have tD:=By.out.trans (hb.mono By.out.size);have tS:aE (N+3) W1 W':=tG.out.trans (tD.mono yy.out.1);obtain⟨k0,k1,k2,k3,k4,k5,_⟩:=HS.out W' tS;refine⟨k0,k1,k2,zR ((hb.block Q (by omega)).trans vd) 0 _,zR ((hb.block (Q+1) (by omega)).trans u) 0 _,zR ((tD.block A0 (by omega)).trans xj.out) 0 _,k3,k4,tD,tS, ?_,k5⟩;have:=yy.out.1;have:=hD;rw[sq _ _ _ _ (by show D≠N+2;omega),hb.block D Fi];exact yr
  have yW:=zH K;clear u y K yv vd yr tR;obtain⟨k0,k1,k2,k3,k4,k5,k6,k7,_,_,_,BE⟩:=vu.out W (aq _ _);have vf:=zH (yn m W f v BE (by rw[HP.out];have:=tU.out;omega));rw[HP.out] at vf;simp only[Mo.cells] at vf;clear BE;have BT:cg (0<stop->stop<(P.length:aw)->stop=(d.length:aw)):=λc1 c2=>by have:=yW.out;rwa [cH ⟨c1,c2⟩] at this
  have BY:cg (¬(0<stop/\stop<(P.length:aw))->(P.length:aw)=(d.length:aw)):=λc1=>by have:=yW.out;rwa [bw c1] at this
  go_upto_region 16 with(fail)
  obtain⟨qq,B4⟩:=zE (decide (0<stop/\stop<(P.length:aw)));have ue:=zH B4;clear B4
  go_cut [91] from 85 to 92 (λFk wc=>Fk= tt qq/\wc=W)
  case first=>
   by_cases c1:0<stop
   ·by_cases c2:stop<(P.length:aw)
    ·have HC:cg (0<stop/\stop<(P.length:aw)):=⟨c1,c2⟩
     go_wp2
     go_meet
     case rel=>exact⟨by rw[<-ue.out,cR HC.out],rfl⟩
    ·have HC:cg (¬(0<stop/\stop<(P.length:aw))):=λh=>c2 h.2
     have c3:decide (stop<(P.length:aw))=tj:=cm c2;go_wp2
     go_meet
     case rel=>exact⟨by rw[<-ue.out,cm HC.out],rfl⟩
   ·have HC:cg (¬(0<stop/\stop<(P.length:aw))):=λh=>c1 h.1
    have c3:decide (0<stop)=tj:=cm c1;go_wp2
    go_meet
    case rel=>exact⟨by rw[<-ue.out,cm HC.out],rfl⟩
  case rest=>
  obtain⟨rfl,rfl⟩:=hcut
  go_upto_if 91 with(fail)
  go_cut [15] from 92 to 93 (λFl wx=>Fl= Z U (d.length:aw)/\wx=wc)
  case first=>
   cases qq with
   |true=>
    have HC:cg (0<stop/\stop<(P.length:aw)):=zH (mw (p:=0<stop/\stop<(P.length:aw)) ue.out);go_wp2
    go_meet
    case rel=>exact⟨by rw[BT.out HC.out.1 HC.out.2],rfl⟩
   |false=>
    have HC:cg (¬(0<stop/\stop<(P.length:aw))):=zH (qu (p:=0<stop/\stop<(P.length:aw)) ue.out);go_wp2
    go_meet
    case rel=>exact⟨by rw[BY.out HC.out],rfl⟩
  case rest=>
  obtain⟨rfl,rfl⟩:=hcut;obtain⟨o,ho⟩:=zE (aJ 0 P (f,v));rw[ho] at vf;have HO:=zH ho;clear ho BT BY ue yW
  go_upto_region 19 with(go_at_call 26;refine vf.out.mono ?_;rintro e B5 ⟨rfl,B6⟩;have vh:=zH B6;clear B6)
  have B7:cg (0<=o/\o<=50000):=by
   unfold cg;rw[<-HO.out];have hn:=tU.out
   by_cases B8:(f,v)∈P
   ·have:=lU (k:=0) B8;omega
   ·rw[jS B8];omega
  have B9:cg (∀W,aE A.heap.size A W->zS 24 #[tr (tf ⟨T,0,th⟩),Z U f,Z U v] W (Z U o)/\zS 25 #[tr (tf ⟨T,0,th⟩),Z U f,Z U v] W (Z U (if o=0 then 0 else o+1))):=λW z=>by
   have u:=lZ W (ua.out.grow z) f v hf hv;have y:=pG W (ua.out.grow z) f v hf hv (by rw[HO.out];have:=B7.out;omega);rw[HO.out] at u y;exact⟨u,y⟩
  obtain⟨mo,zc⟩:=zE (if o=0 then(0:aw) else o+1);rw[zc] at B9;have Cd:=zH zc;have Fm:=zH (vu.out B5 vh.out);clear zc k0 k1 k2 k3 k4 k5 k6 k7 vf
  go_upto_region 20 with(fail)
  obtain⟨qo,Cl⟩:=zE (decide (0<o));have vx:=zH Cl;clear Cl
  go_cut [98] from 97 to 99 (λFo wd=>Fo= tt qo/\wd=B5)
  case first=>
   by_cases c1:0<o
   ·go_wp2
    go_meet
    case rel=>exact⟨by rw[<-vx.out,cR c1],rfl⟩
   ·go_wp2
    go_meet
    case rel=>exact⟨by rw[<-vx.out,cm (by omega)],rfl⟩
  case rest=>
  obtain⟨rfl,rfl⟩:=hcut
  go_upto_if 98 with(fail)
  go_cut [17] from 99 to 101 (λFr wx=>Fr= Z U mo/\wx=wc)
  case first=>
   have Hz:=B7.out;cases qo with
   |true=>
    have HC:cg (0<o):=zH (mw vx.out);have zd:cg (o+1=mo):=by have:=Cd.out;rw[bw (by have:=HC.out;omega)] at this;exact this
    go_wp2
    go_meet
    case rel=>exact⟨by rw[<-zd.out]<;>go_num,rfl⟩
   |false=>
    have HC:cg (¬0<o):=zH (qu vx.out);have zd:cg (0=mo):=by have:=Cd.out;rw[cH (by have:=HC.out;omega)] at this;exact this
    go_wp2
    go_meet
    case rel=>exact⟨by rw[zd.out],rfl⟩
  case rest=>
  obtain⟨rfl,rfl⟩:=hcut;obtain⟨wy,Cp⟩:∃wy,wc=wy:=⟨_,rfl⟩
  rw[Cp] at vh Fm⊢;clear Cp;obtain⟨B2,CA⟩:=zE wy.heap.size;obtain⟨WN,vy⟩:=zE (wy.alloc (tA #[tr th] 43));have zj:WN.heap[B2]?=tf (tA #[tr th] 43 (0,0)):=by rw[<-vy,<-CA];exact alloc_at _ _
  have CC:=gy vy;have Ft:=zH (ym WN B2 zj);have FA:=ae zj;have FF:=zH vy;have zp:=zH CC;clear zj vy CC
  go_wp2_with fail
  go_at_call 23;refine(qB wy th).mono ?_;rintro e HU ⟨rfl,rfl⟩;rw[CA,FF.out]
  go_wp2_with fail
  refine gD (α:=aw×aw) (gf:=68) (hf:=func68) (hname:=by rfl) (hb:=rfl) (hit:=Ft.out) rfl ?hbel ?hRd (λ_=>rfl)
   (λd C W=>C=(λ_=>lj)/\Ext (λ_=>lj) WN W) (λ_ _ _ _=>lj) ?hI ?hIC ?hIx (λ_=>lj) ?h0 ?hround ?hdone ?hstop
  case hbel=>exact aq _ _
  case hRd=>rintro k rfl;exact FA
  case hI=>
   rintro d C W W' ⟨rfl,u⟩ J;exact⟨rfl,u.trans J (λj hj=> .inr hj.1)⟩
  case hIx=>exact λ_ _ _ _ _ h=>h.elim
  case hIC=>rintro d C W ⟨rfl,_⟩ k G;exact G.elim
  case h0=>exact⟨rfl,Ext.refl _ _⟩
  case hround=>
   rintro l d x C W hl _ tR;have:=tR.length_le;simp at this
  case hstop=>exact λ_ _ _ _ _ _ _ _ h=>h.elim
  case hdone=>
   rintro D2 C V FG F0 ⟨rfl,J⟩ zr;have CD:aE WN.heap.size WN V:=J.below (cd _) (λ_ h=>h.elim);have zs:=zH (vh.out.trans ((zp.out.trans (CD.mono zp.out.size)).mono vh.out.size));have H5:=ae zr;have H2:cg (D<D2/\N+3<=D2/\N+3<=D):=by
    have:=vh.out.size;have:=zp.out.size;have:=yy.out;unfold cg;omega
   have CH:=zH zr;obtain⟨_,_,k2,_,k4,k5,_,_,k8,_,_,_⟩:=vu.out V zs.out;have CM:=zH (B9.out V k8);have F1:cg (∀V2,aE V.heap.size V V2->fj am 14 #[] V2 λe w'=>e= tB (tt ti)/\aE V.heap.size V w'):=λV2 hb=>(mM V2).mono λe w' ⟨u,y⟩=>⟨u,hb.trans (y.mono hb.size)⟩
   have Ge:cg (∀V2,aE V.heap.size V V2->V2.cell? ⟨N+2,0,th⟩=tf (tt tj)/\V2.frozen? ⟨N+2,0,th⟩=tj/\aE (N+3) W1 V2/\(V2.setCell ⟨N+2,0,th⟩ (tt ti)).heap[D]?=tf (.deferred (tf []))/\(V2.setCell ⟨N+2,0,th⟩ (tt ti)).heap[D2]?=tf (.deferred (tf []))):=by
    intro V2 hb;obtain⟨_,_,_,_,_,_,p6,p7,_,p9,Gk,_⟩:=vu.out V2 (zs.out.trans (hb.mono zs.out.size));refine⟨p6,p7,p9,Gk, ?_⟩;have:=H2.out;rw[sq _ _ _ _ (by show D2≠N+2;omega),hb.block D2 (ae CH.out)];exact CH.out
   clear J zr CD k8 F0 FG
   go_wp2_with fail
   go_at_call 21;refine(BS V 0).mono ?_;rintro e w8 ⟨rfl,rfl⟩
   go_wp2_with fail
   go_at_call 24;refine CM.out.1.mono ?_;rintro e w8 ⟨rfl,rfl⟩
   go_wp2_with fail
   go_at_call 25;refine CM.out.2.mono ?_;rintro e w8 ⟨rfl,rfl⟩
   go_wp2_with fail
   go_at_call 24;refine(tO _ f v).mono ?_;rintro e w8 ⟨rfl,rfl⟩
   go_wp2_with fail
   go_at_call 25;refine(BR _ f v).mono ?_;rintro e w8 ⟨rfl,rfl⟩
   go_wp2_with fail
   refine(lD V).mono ?_;rintro e GB ⟨rfl,CN⟩;have CT:=zH CN;have H9:=ET;have Ia:=EU;clear CN k2 k4 k5
   go_wp2_with fail
   go_at_call 16;refine(lD GB).mono ?_;rintro e GC ⟨rfl,C4⟩;have GE:=zH (CT.out.trans (C4.mono CT.out.size));clear C4
   go_wp2_with fail
   go_at_call 14;refine(F1.out GC GE.out).mono ?_;rintro e C5 ⟨rfl,C6⟩;obtain⟨r1,r2,r3,r4,r5⟩:=Ge.out C5 C6;have HR:=zH (And.intro r3 (And.intro r4 r5));clear C6 r3 r4 r5;go_wp2;refine⟨[D2,D],rfl,by have:=H2.out;simp;omega,by intro b hb;simp at hb;rcases hb with rfl|rfl;exact HR.out.2.2;exact HR.out.2.1,tt ti,λw' J=> ?_⟩;obtain⟨K,h4⟩:=HY.out C5 w' (λk=>k=D2\/k=D) (λk G=>by have:=H2.out;omega) HR.out.1 (J.mono (λk G=>by simpa using G));exact⟨ny _ _ _ _ rfl K,rfl,h4⟩
end
section
open Go.ChangeShapes Go.WideShapes Go.ChangeAt Go.RowKit
theorem own_:ownKnob am.godebug=th:=by kernel_rfl
theorem laidOut_:laidOutB am=ti:=by kernel_rfl
theorem law_post {H:Type}{enc:fX×cw->H}{P:km}{f:Func}{s:ChangeSpec}{W d:World}{args:dl cw}{v:cw}{e g:bp (DataW H)}{j pa pv:bp m5}
  (q:DataW.Whole enc P f.params.toList s.vars tj W args.toList e g j)
  (t:∀(b:bj)(u:bj->ml)(x:ml),DataW.TrodAll enc P d b u x f.resultTypes.toList (v.resultList f.resultTypes.size) (s.fn H (e++g)).results [])
  (y:DataW.TrodAll enc P d 0 (λb=>decide (b<W.heap.size)) ti f.params.toList args.toList (s.fn H (e++g)).args pa)
  (z:DataW.TrodVars enc P d (λb=>decide (b<W.heap.size)) s.vars (s.fn H (e++g)).vars pv)
  (A:j=pa++pv)(hb:aE W.heap.size W d):
  s.post enc P f tj ti tj tj W args v d:=by
 refine⟨e,g,j,[],pa,pv,q,t _ _ _,y,z,World.keptBut_mono (λp o=>⟨o, ?_⟩) (hb.frame (·∈j)),λh=> ?_⟩
 ·rw[A,dg] at o
  exact Or.inr o
 ·exact fz h (by decide)
theorem shut_true {H:Type}{enc:fX×cw->H}{W:World}{base:bj}{d:bj->ml}{held:ml}(b:ml):DataW.Trod enc am W base d held 4 (.bool b) (.lit (.bool b)) []:=⟨1,by simp[jp,Value.cells,mu]⟩
end
theorem bq {a b:ml}(h:a=ti)(k:b=ti):(a&&b)=ti:=by rw[h,k];rfl
theorem qO:(laidOutB Tryz.pinned.checked.prog)=ti:=by kernel_rfl
theorem qP:(mapsRowed Tryz.pinned.checked.prog)=ti:=by kernel_rfl
theorem qQ:((Rows.wantPointersRow.inPlace==Tryz.pinned.checked.prog.inPlace 6))=ti:=by kernel_rfl
theorem pM:((Rows.wantPointersRow.unfollowed==Tryz.pinned.checked.prog.unfollowed 6))=ti:=by kernel_rfl
theorem pO:((Rows.wantPointersRow.recurses==Tryz.pinned.checked.prog.recurses 6))=ti:=by kernel_rfl
theorem pQ:((Rows.wantPointersRow.named==Tryz.pinned.checked.prog.varsNamed 6))=ti:=by kernel_rfl
theorem pR:((Rows.wantPointersRow.loops==(Tryz.f6.params.toList++Rows.wantPointersSpec.plain.varTypes Tryz.pinned.checked.prog).any (Tryz.pinned.checked.prog.loopsFrom ·)))=ti:=by kernel_rfl
theorem pU:(Tryz.pinned.checked.prog.stopsHeard)=ti:=by kernel_rfl
theorem pV:(Tryz.pinned.checked.prog.mayEnter)=ti:=by kernel_rfl
theorem pW:((Rows.wantPointersRow.lifted==Tryz.pinned.checked.prog.liftsFinal))=ti:=by kernel_rfl
theorem pX:((Tryz.pinned.checked.prog.make==tf Rows.wantPointersRow.make))=ti:=by kernel_rfl
theorem wantPointers_closed:joinedFacts Tryz.pinned.checked.prog 6 Tryz.f6 Rows.wantPointersSpec Rows.wantPointersRow=ti:=by
 unfold joinedFacts;exact bq (bq (bq (bq (bq (bq (bq (bq (bq (bq (bq (bq (bq (bq (bq (bq (bq (bq (bq (bq (bq (bq (bq (bq (bq (bq (bq (bq (bq (bq (bq (by kernel_rfl) qO) qP) (by kernel_rfl)) (by kernel_rfl)) (by kernel_rfl)) (by kernel_rfl)) (by kernel_rfl)) (by kernel_rfl)) qQ) pM) pO) pQ) (by kernel_rfl)) (by kernel_rfl)) (by kernel_rfl)) pR) (by kernel_rfl)) (by kernel_rfl)) (by kernel_rfl)) (by kernel_rfl)) (by kernel_rfl)) (by kernel_rfl)) (by kernel_rfl)) pU) pV) pW) pX) (by kernel_rfl)) (by kernel_rfl)) (by kernel_rfl)) (by kernel_rfl)
end Go.Proofs.YtjomgckjhcfbgaaGreat
