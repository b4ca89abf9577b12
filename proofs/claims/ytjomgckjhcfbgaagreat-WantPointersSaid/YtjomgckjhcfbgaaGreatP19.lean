/- Walks. -/
import Derived.Sort.QuietIn
import Derived.Test.YtjomgckjhcfbgaaGreatP6
import Derived.Test.YtjomgckjhcfbgaaGreatP18
set_option maxRecDepth 100000
set_option maxHeartbeats 64000000
set_option linter.all false
namespace Go.Proofs.YtjomgckjhcfbgaaGreat
open Go.RowKit
open Go.Proofs.Tryz renaming prog→am,underlying48→rm
open _root_.List renaming getElem?_eq_getElem→ap,length_append→bm,getElem?_eq_some_iff→bo,mem_of_getElem?→ci,take_length→cL,mem_singleton→cP,length_take→ee,append_assoc→ei,length_map→eq,map_append→et,append_nil→eA,flatMap_cons→fm,mem_map→fL,mem_cons→fW,cons_append→gh,all_eq_true→gn,getElem?_append_right→gA,any_eq_true→js,take_append_drop→jx,any_eq_false→j8,length_pos_iff→kq,map_cons→li,all_eq_false→lR,mem_of_mem_take→mj,getElem?_append_left→mz,getD_eq_getElem?_getD→nj,take_zero→oS,map_nil→oT,not_mem_nil→pP,getElem?_map→qs,sum_append→qv,getElem?_append→sX
open Go.RowKit.Below renaming refl→aq,heap_alloc→cE
open _root_ renaming Int→aw,Nat→bj,List→bp,if_neg→bw,decide_eq_false→cm,Option→cC,if_pos→cH,decide_eq_true→cR,Array→dl,beq_false_of_ne→eR,absurd→fz,beq_self_eq_true→kO,False→lj,if_true→lk,Bool→ml,decide_eq_true_eq→oY
open Go.RowKit renaming Below→aE,Hid→cg,intOf→dp
open Go renaming heap_setCell_same→bk,cell_of_row→bt,run_storeCells_new→cr,Value→cw,storeCells→dd,bodyPost_ret→dk,maxLen→du,results_cell_row→er,Addr→fg,Calls→fj,TypeId→fX,heap_alloc2_old→i8,Oper→kj,Program→km,info_parts→m6
open _root_.Array renaming getElem?_eq_some_iff→br,replicate→fk
open _root_.Nat renaming le_refl→cd,lt_of_lt_of_le→cD,zero_add→cI,zero_le→cM,le_trans→eN,le_succ→iu,min_eq_left→ix,add_zero→i7,not_lt_zero→nB
open Go.Value renaming oneCell'→cn,slice→cv,ownBlock→eL,string→tm,slice→tn,pointer→tr,bool→tt,agg→tv,int→Z
open _root_.Option.some renaming inj→cy
open Go.Exit renaming inBlock→cQ,noGoto_ret→ie
open Go.Addr renaming add_lit→cU
open Go.IntKind renaming i64→dt,signed→ef,wrap→eC,bits→eE,i64→U
open _root_.Bool renaming and_eq_true→ej,true→ti,false→tj
open Go.Value.slice renaming injEq→fy
open Go.Fence renaming wide→gx
open _root_.Option renaming map_eq_some_iff→gE,some→tf,none→th
open Go.Region renaming Mode→ii,lexB→rx
open Go.Instr renaming lookup→mx
open _root_.Prod renaming fst→m8,snd→nd
open _root_.Prod.mk renaming injEq→pp
open Go.Ending renaming returned→py,returned→tB
open Go.Obj renaming cells→tA
open Tryz
structure pF (w:World)(m:Mo):Prop where
 ri:iJ w m
 wf:∀g∈m.fs,∀i∈g.c.ins,bu i.d/\bu i.a/\bu i.b/\bu i.f
 nv:∀g∈m.fs,g.vs.length<=400
 ni:∀g∈m.fs,g.c.ins.length<=400
 nf:m.fs.length<=60
 np:m.ptrs.length<=20000
 nt:m.ptrs.length*m.fs.length+124*bK m.fs+1000<=1000000
theorem Ai {g:Fn}{w:World}:∀(c:dl cw),c.size=8->(dd ⟨w.heap.size,0,th⟩ g.c.cells.toList 0).run am (w.alloc (tA c 38))= .ok () (w.alloc (tA g.c.cells 38)):=λc d=>
 cr (P:=am) w 38 c g.c.cells (by show _=tf 8;kernel_rfl) d (by simp[dP.cells,cn])
theorem vX:∀(l d:bp Fn)(f:bj),(bU f l).length<=(bU f (l++d)).length
 |[],d,f=>by simp[bU]
 |x::r,d,f=>by
  rw[gh];unfold bU;rw[bm,bm];have:=vX r d (f+1);omega
theorem lw {fs:bp Fn}(j:bj):(bU 0 (fs.take j)).length<=(bU 0 fs).length:=by
 have h:=vX (fs.take j) (fs.drop j) 0;rw[jx] at h;exact h
theorem tC {fs:bp Fn}{j:bj}{x:aw×aw}(h:x∈bU 0 (fs.take j)):x.1<(j:aw):=by
 obtain⟨k,g,d,e⟩:=iO.1 h;rw[mZ e];have:=(bo.1 d).1;rw[ee] at this;omega
theorem iJ.below {w w':World}{m:Mo}(h:iJ w m)(hb:aE w.heap.size w w'):iJ w' m:=⟨h.mo.below hb,h.sl,h.fl,h.fd,h.vl,h.al⟩
theorem EM {w g:World}{D B:bj}(e:w.heap.size=D)(z:B<=D)(f:((w.alloc (tA #[Z U 0,tn th 0 0] 191)).alloc (.map #[] 0)).alloc (tA #[tr (tf ⟨D,0,th⟩),tn th 0 0,.map (tf (D+1)),tn th 0 0,Z U 0,Z U 0] 123)=g):
  Wn (D+2) D (D+1) (th,0) [] (2*(([]:bp (aw×aw)).length:aw)) (aJ 0 []) [] [] (0,0) B (λk=>if k=D+2 then 1 else if k=D then 2 else if k=D+1 then 3 else 0) ⟨th,0,th,0,[]⟩ g:=by
 have j:g.heap.size=D+3:=by rw[<-f];simp[e]
 have hb:aE w.heap.size w g:=by rw[<-f];exact(((aq _ _).alloc (cd _) _).alloc (by simp) _).alloc (by simp;omega) _
 have A:=e;have o:ma ((w.alloc (tA #[Z U 0,tn th 0 0] 191)).alloc (.map #[] 0)) (D+1) 0 (λ_=>0):=by
  have:=ma.made (w.alloc (tA #[Z U 0,tn th 0 0] 191));rw[show(w.alloc (tA #[Z U 0,tn th 0 0] 191)).heap.size=D+1 by simp[e]] at this;exact this
 refine⟨?_, ?_, ?_,World.ownsRow_nil _ _ _ _,World.ownsRow_nil _ _ _ _,World.ownsRow_nil _ _ _ _,⟨rfl,λk c q=>by simp at q⟩,by simp,by simp,by simp,λk d=>by simp[eL] at d,λk d=>by simp[eL] at d,λk d=>by simp[eL] at d,λk d=> ?_,by simp,by simp,by simp⟩
 ·rw[<-f]
  have:=alloc_at ((w.alloc (tA #[Z U 0,tn th 0 0] 191)).alloc (.map #[] 0)) (tA #[tr (tf ⟨D,0,th⟩),tn th 0 0,.map (tf (D+1)),tn th 0 0,Z U 0,Z U 0] 123);have t:((w.alloc (tA #[Z U 0,tn th 0 0] 191)).alloc (.map #[] 0)).heap.size=D+2:=by simp[e]
  rw[t] at this;exact this
 ·rw[<-f]
  refine(cE _ _ D (by simp;omega)).trans ((cE _ _ D (by simp;omega)).trans ?_);rw[<-e];exact alloc_at _ _
 ·have:(aJ 0 ([]:bp (aw×aw)))=λ_=>0:=by funext x;rfl
  rw[this,<-f];exact o.ext (Ext.of_below_size (M:=λ_=>lj) ((aq _ _).alloc (cd _) _)) (λh=>h)
 ·rw[j]
  by_cases u:k=D+2
  ·omega
  by_cases v:k=D
  ·omega
  by_cases y:k=D+1
  ·omega
  simp[u,v,y] at d
def Ht (T Bb MB B:bj)(w0:World)(m:Mo)(k:cw)(wr:World):Prop:=
 ∃j:bj,j<=m.fs.length/\k= Z U (j:aw)/\∃lv,Wo T Bb MB lv (bU 0 (m.fs.take j)) (2*((bU 0 (m.fs.take j)).length:aw)) (aJ 0 (bU 0 (m.fs.take j))) B w0 [] [] (0,0) wr
theorem oH (m:Mo)(w:World)(h:pF w m)(hr:gZ m=0):
  fj am 15 #[tv m.cells] w λe w'=>∃T Bb MB lv at_,e= tB (.tuple #[tr (tf ⟨T,0,th⟩),Z U 0])/\Wo T Bb MB lv m.ptrs (2*(m.ptrs.length:aw)) (aJ 0 m.ptrs) (w.heap.size+1) (w.alloc (tA m.cells 25)) ((m.wants (jm m)).map m8) ((m.wants (jm m)).map nd) at_ w':=by
 obtain⟨N0,Ax⟩:=zE w.heap.size;obtain⟨y,vy⟩:=zE (w.alloc (tA m.cells 25));have AD:=gy vy;have Cd:y.heap.size=N0+1:=by rw[<-vy];simp[Ax]
 have yi:y.heap[N0]?=tf (tA m.cells 25 (0,0)):=by rw[<-vy,<-Ax];exact alloc_at _ _
 rw[Ax,vy];have AE:m.inn y:=h.ri.mo.below AD;have Ik:=h.nf;have yk:=zH (zl m y (h.ri.below AD));rw[hr] at yk;have Cl:=zH AE;have HW:=zH h;have HR:=zH hr;have ub:=zH Cd;have Il:=zH yi;have Fo:m.fs≠[]:=by
  intro e;have:=(gX hr).2.2.2.2.2;unfold Mo.fnIx fV at this;rw[e] at this;simp at this
 obtain⟨fb,fo,yp,AF,tD⟩:=AE.frow Fo;have yq:cg (∀W,aE y.heap.size y W->W.cell? ⟨N0,0,th⟩=tf (tn m.sA m.ss.length m.sC)/\W.cell? ⟨N0,1,th⟩=tf (tn (tf ⟨fb,fo,th⟩) m.fs.length m.fC)/\N0<W.heap.size):=λW hW=>by
  have r:=(hW.block N0 (ae yi)).trans yi;rw[<-yp];exact⟨(rowAt r 0 rfl).1,(rowAt r 1 rfl).1,ae r⟩
 have Cp:cg (∀W,aE y.heap.size y W->(∀(j:bj)(g:Fn),m.fs[j]?=tf g->∀(q:bj)(u:cw),g.c.cells.toList[q]?=tf u->W.cell? ⟨fb,fo+j*8+q,th⟩=tf u)/\fb<W.heap.size):=λW hW=>⟨λj g hj q u hu=>by rw[hW.cell (p:=⟨fb,_,th⟩) AF];exact tD j g hj q u hu,cD AF hW.size⟩
 have Fr:cg (w.alloc (tA #[tn m.sA m.ss.length m.sC,tn (tf ⟨fb,fo,th⟩) m.fs.length m.fC] 25)=y):=by rw[<-yp];exact vy
 obtain⟨k0,k1,k2⟩:=yq.out y (aq _ _);unfold Mo.cells at yk⊢;rw[yp] at yk⊢;clear h hr AD Cd yi AE vy yp AF tD;go_enter func15,ntmps15
 go_upto_region 1 with(fail)
 rw[Fr.out]
 go_upto_region 2 with(go_at_call 53;refine yk.out.mono ?_;rintro e w1 ⟨rfl,CA⟩;have Ft:=zH CA;clear CA)
 clear k0 k1 k2;have CC:=zH (yc w1);have yr:aE y.heap.size y w1:=Ft.out;obtain⟨W4,ws⟩:=zE (((w1.alloc (tA #[Z U 0,tn th 0 0] 191)).alloc (.map #[] 0)).alloc (tA #[tr (tf ⟨w1.heap.size,0,th⟩),tn th 0 0,.map (tf (w1.heap.size+1)),tn th 0 0,Z U 0,Z U 0] 123));have CD:aE w1.heap.size w1 W4:=by rw[<-ws];exact(((aq _ _).alloc (cd _) _).alloc (by simp) _).alloc (by simp;omega) _
 have AH:aE y.heap.size y W4:=yr.trans (CD.mono yr.size);have vf:=EM rfl (B:=N0+1) (by have:=yr.size;have:=ub.out;omega) ws;obtain⟨D,hD⟩:=zE w1.heap.size;rw[hD] at vf ws;have FA:cg (Wo (D+2) D (D+1) (th,0) [] (2*(([]:bp (aw×aw)).length:aw)) (aJ 0 []) (N0+1) y [] [] (0,0) W4):=⟨_,_,vf,by rw[<-ub.out];exact AH⟩
 have FF:=zH ws;have FG:=zH AH;have HD:=zH hD;clear yr ws CD AH vf hD;have F0:=@run_makeMap am
 go_upto_region 5 with(go_at_call 54;refine CC.out.mono ?_;rintro e w2 ⟨rfl,rfl⟩)
 (try rw[HD.out]);(try rw[FF.out]);(try simp only[HD.out]);simp only[show D+1+1=D+2 from rfl];clear F0 CC;obtain⟨k0,k1,k2⟩:=yq.out W4 FG.out
 go_upto_region 6 with(fail)
 clear k0 k1 k2
 go_loopw [27] (λkk wr=>Ht (D+2) D (D+1) (N0+1) y m kk wr) (λkk _=>m.fs.length-(dp kk).toNat)
 case atStart=>exact⟨0,cM _,rfl,(th,0),FA.out⟩
 case round=>
  obtain⟨j,hj,rfl,lv,tG⟩:=hrel;have tM:aE y.heap.size y wr:=by obtain⟨_,_,_,h2⟩:=tG;rw[ub.out];exact h2
  by_cases xf:j<m.fs.length
  ·obtain⟨g,J⟩:∃g,m.fs[j]?=tf g:=⟨_,ap xf⟩
   have F1:(j:aw)<(m.fs.length:aw):=by omega
   have tS:=ci J;obtain⟨tD,Ge⟩:=Cp.out wr tM;have x0:=tD j g J 0 _ rfl;have x1:=tD j g J 1 _ rfl;have x2:=tD j g J 2 _ rfl;have x3:=tD j g J 3 _ rfl;have x4:=tD j g J 4 _ rfl;have x5:=tD j g J 5 _ rfl;have x6:=tD j g J 6 _ rfl;have x7:=tD j g J 7 _ rfl;rw[i7] at x0;have hst:=Ai (g:=g) (w:=wr);have ue:=Cl.out.fin g tS;obtain⟨tg,s,vf,CH⟩:=tG;obtain⟨G,hG⟩:=zE wr.heap.size;obtain⟨W2,tW⟩:=zE (wr.alloc (tA g.c.cells 38));have vh:=gy tW;have we:W2.heap[G]?=tf (tA g.c.cells 38 (0,0)):=by rw[<-tW,<-hG];exact alloc_at _ _
   have AI:aE (N0+1) y W2:=CH.trans (vh.mono (by rw[<-ub.out];exact tM.size));have Im:(bU 0 (m.fs.take j)).length<=m.ptrs.length:=lw j;have yv:=Af (w0:=y) W2 g j (vf.grow vh) AI ub.out ue.nvars ue.vars (HW.out.nv g tS) (by have:=HW.out.nf;omega) (λx hx=>tC hx) (by have:=HW.out.np;omega);have AK:cg (bU 0 (m.fs.take (j+1))=bU 0 (m.fs.take j)++cK (j:aw) g):=by
    unfold cg;rw[aS J,kG,cI,ee,ix (by omega)]
   unfold dP.cells at yv hst we tW;have yv:=zH yv;have xj:=zH tW;have up:=zH we;have Gk:=zH (vf.grow vh);have GB:=zH AI;clear tD ue vf CH vh we tW AI J
   go_upto_region 8 with(fail)
   (try rw[xj.out]);(try rw[hG]);have y0:=(rowAt up.out 0 rfl).1;have y1:=(rowAt up.out 1 rfl).1;have y2:=(rowAt up.out 2 rfl).1;have y3:=(rowAt up.out 3 rfl).1;have y4:=(rowAt up.out 4 rfl).1;have y5:=(rowAt up.out 5 rfl).1;have y6:=(rowAt up.out 6 rfl).1;have y7:=(rowAt up.out 7 rfl).1;have CM:=ae up.out;clear x0 x1 x2 x3 x4 x5 x6 x7 hst hG xj
   go_wp2_with (go_at_call 55;refine yv.out.mono ?_;rintro e w3 ⟨rfl,GC,CN⟩;have GE:=zH CN;clear CN)
   go_roundw
   case rel=>exact⟨j+1,xf,by go_num,GC,by rw[AK.out];exact Wo.of GB.out Gk.out GE.out⟩
   case measure=>simp[dp];omega
  ·have CT:j=m.fs.length:=by omega
   have C4:Wo (D+2) D (D+1) lv m.ptrs (2*(m.ptrs.length:aw)) (aJ 0 m.ptrs) (N0+1) y [] [] (0,0) wr:=by rw[CT,cL] at tG;exact tG
   have AM:=zH C4;have C5:=zH tM;obtain⟨k0,k1,k2⟩:=yq.out wr tM;clear tG C4 CT tM;obtain⟨wo,tG⟩:=zE wr;rw[tG] at AM C5 k0 k1 k2⊢;clear tG wr
   go_upto_region 11 with(fail)
   clear k0 k1 k2;obtain⟨lA,lC⟩:=lv;obtain⟨t,AN⟩:=zE m.ptrs;obtain⟨Cf,C6⟩:=zE ((λj=>jU m.ptrs (jm m) 0 (m.fs.take j)):bj->bp (bp aw×(aw×aw)));have xl:cg (∀j,Cf j=jU m.ptrs (jm m) 0 (m.fs.take j)):=λj=>by rw[<-C6]
   have ux:=zH AN;rw[AN] at AM;have GF:cg (Wo (D+2) D (D+1) (lA,lC) t (2*(t.length:aw)) (aJ 0 t) (N0+1) y ((Cf 0).map m8) ((Cf 0).map nd) (0,0) wo):=by
    unfold cg;rw[xl.out,oS];exact AM.out
   clear C6 AN
   go_loopw [40] (λkk wr=>∃j:bj,j<=m.fs.length/\kk= Z U (j:aw)/\∃at_,Wo (D+2) D (D+1) (lA,lC) t (2*(t.length:aw)) (aJ 0 t) (N0+1) y ((Cf j).map m8) ((Cf j).map nd) at_ wr) (λkk _=>m.fs.length-(dp kk).toNat)
   case atStart=>exact⟨0,cM _,rfl,(0,0),GF.out⟩
   case round=>
    obtain⟨j,hj,rfl,GO,tG⟩:=hrel;have tM:aE y.heap.size y wr:=by obtain⟨_,_,_,h2⟩:=tG;rw[ub.out];exact h2
    obtain⟨wx,C7⟩:=zE wr;rw[C7] at tG tM⊢;clear C7 wr
    by_cases xf:j<m.fs.length
    ·obtain⟨g,J⟩:∃g,m.fs[j]?=tf g:=⟨_,ap xf⟩
     have F1:(j:aw)<(m.fs.length:aw):=by omega
     have tS:=ci J;obtain⟨tD,Ge⟩:=Cp.out wx tM;have x0:=tD j g J 0 _ rfl;have x1:=tD j g J 1 _ rfl;have x2:=tD j g J 2 _ rfl;have x3:=tD j g J 3 _ rfl;have x4:=tD j g J 4 _ rfl;have x5:=tD j g J 5 _ rfl;have x6:=tD j g J 6 _ rfl;have x7:=tD j g J 7 _ rfl;rw[i7] at x0;have hst:=Ai (g:=g) (w:=wx);obtain⟨G,hG⟩:=zE wx.heap.size;obtain⟨W2,tW⟩:=zE (wx.alloc (tA g.c.cells 38));have vh:=gy tW;have we:W2.heap[G]?=tf (tA g.c.cells 38 (0,0)):=by rw[<-tW,<-hG];exact alloc_at _ _
     have Dd:=tG.kept vh (by rw[hG];exact cd _) we;have AK:cg (Cf (j+1)=Cf j++(d9 (j:aw) 0 t++gB t (j:aw) (jm m j) 0 g.c.ins)):=by
      unfold cg;rw[xl.out,xl.out,aS J,tq,cI,ee,ix (by omega),ux.out]
     have HG:=zH J;unfold dP.cells at hst tW;have xj:=zH tW;have Dg:=zH Dd;clear tD vh we tW J tG tM Dd
     go_upto_region 13 with(fail)
     (try rw[xj.out]);(try rw[hG]);clear x0 x1 x2 x3 x4 x5 x6 x7 hst hG xj;obtain⟨⟨t4,f4⟩,⟨t5,f5⟩,tl,t1,t2⟩:=Dg.out.row
     go_upto_region 14 with(fail)
     have AS:=Dg.out.setAt (j:aw) (-1);obtain⟨W3,AT⟩:=zE ((W2.setCell ⟨D+2,4,th⟩ (Z U (j:aw))).setCell ⟨D+2,5,th⟩ (Z U (-1)));rw[AT] at AS;(try rw[AT]);have AW:=zH AS;clear t4 f4 t5 f5 tl t1 t2 AS AT;obtain⟨_,_,tl,t1,t2⟩:=AW.out.row
     go_upto_region 15 with(fail)
     clear tl t1 t2;have In:cg (∃cc,(#[tm g.c.nm,Z U g.c.par,tn g.c.varsA g.c.nvars g.c.varsC,tt g.c.rp,tm g.c.rto,Z U g.c.rcl,tn g.c.fromA g.c.nfrom g.c.fromC,tn g.c.insA g.c.ins.length g.c.insC]:dl cw)=cc):=⟨_,rfl⟩
     obtain⟨o,ho⟩:=zE ((tA g.c.cells 38 (0,0)):Obj);rw[ho] at AW;have HO:=zH ho;have Io:t.length<=20000:=by rw[<-ux.out];exact HW.out.np
     have Ip:(Cf j).length+(t.length+124*g.c.ins.length)+900<=1000000:=by
      have h1:=vW (P:=m.ptrs) (beh:=jm m) (m.fs.take j) 0 (λg J i hi=>HW.out.ri.al g (mj J) i hi);rw[xl.out];have h2:=HW.out.nt;have GP:=HG.out;have h3:bK (m.fs.take (j+1))<=bK m.fs:=by
       have e:bK m.fs=bK (m.fs.take (j+1))+bK (m.fs.drop (j+1)):=by
        unfold bK;rw[<-qv,<-et,jx]
       omega
      have h5:bK (m.fs.take (j+1))=bK (m.fs.take j)+g.c.ins.length:=by
       unfold bK;rw[aS GP,et,qv];simp
      have h4:m.ptrs.length*((m.fs.take j).length+1)<=m.ptrs.length*m.fs.length:=Nat.mul_le_mul_left _ (by rw[ee];omega);rw[Nat.mul_succ] at h4;rw[<-ux.out];omega
     have GS:cg (t.Nodup):=by unfold cg;rw[<-ux.out];exact m.ptrs_nodup
     have GT:cg (∀p∈t,bu p.1/\bu p.2):=λp hp=>by
      rw[<-ux.out] at hp;obtain⟨p1,p2⟩:=p;obtain⟨k,gg,h1,h2,h3⟩:=oz hp;have hk:=(bo.1 h1).1;have:=HW.out.nf;have hv:=HW.out.nv gg (ci h1);refine⟨by unfold bu;show _<=p1/\p1<=_;omega, ?_⟩;rcases h3 with⟨h3,_⟩|⟨h3,_⟩
      ·unfold bu;show _<=p2/\p2<=_;omega
      ·have:=bJ.1 h3;unfold bu;show _<=p2/\p2<=_;omega
     clear ho
     go_loopw [55] (λkk wr=>∃i:bj,i<=t.length/\kk= Z U (i:aw)/\mJ (D+2) D (D+1) (lA,lC) t (2*(t.length:aw)) (aJ 0 t) (N0+1) y [(G,o)] ((Cf j++d9 (j:aw) 0 (t.take i)).map m8) ((Cf j++d9 (j:aw) 0 (t.take i)).map nd) ((j:aw),-1) wr) (λkk _=>t.length-(dp kk).toNat)
     case atStart=>exact⟨0,cM _,rfl,by rw[oS];show mJ _ _ _ _ _ _ _ _ _ _ ((Cf j++[]).map _) ((Cf j++[]).map _) _ _;rw[eA];exact AW.out⟩
     case round=>
      obtain⟨i,hi,rfl,uc⟩:=hrel;obtain⟨E,Do⟩:=zE wr;rw[Do] at uc⊢;clear Do wr
      by_cases xo:i<t.length
      ·obtain⟨p,hp⟩:∃p,t[i]?=tf p:=⟨_,ap xo⟩
       have Iq:(i:aw)<(t.length:aw):=by omega
       obtain⟨gl,A1⟩:=uc.lrow (by intro e;rw[e] at xo;simp at xo);simp only at A1;obtain⟨c0,c1,Ir⟩:=uc.lcell (g:=gl) (i:=i) (by simpa using A1) hp;rw[i7] at c0;subst A1;have Ds:=ci hp;obtain⟨GW,G4⟩:=GT.out p Ds;have hst:=EL (f:=p.1) (v:=p.2) (w:=E);obtain⟨H,hH⟩:=zE E.heap.size;obtain⟨W5,ua⟩:=zE (E.alloc (tA #[Z U p.1,Z U p.2] 121));have xp:=gy ua;have vm:W5.heap[H]?=tf (tA #[Z U p.1,Z U p.2] 121 (0,0)):=by rw[<-ua,<-hH];exact alloc_at _ _
       have DA:=uc.grow xp;have Hb:=lX (f:=(j:aw)) (t.take i) 0;rw[ee] at Hb;have DB:aJ 0 t p=2*(i:aw)+1:=by rw[sO GS.out hp];omega
       have DE:d9 (j:aw) 0 (t.take (i+1))=d9 (j:aw) 0 (t.take i)++(if p.1=(j:aw) then[([-(2*(i:aw)+1),-(2*(i:aw)+2)],((j:aw),(-1:aw)))] else[]):=by
        rw[aS hp,sZ,cI,ee,ix (by omega)]
       have yy:=zH DE;have Hc:=zH DB;have A2:=zH DA;have xr:=zH ua;have wg:=zH vm;clear uc hp Ds xp vm DA ua DE DB
       go_upto_region 17 with(fail)
       (try rw[xr.out]);(try rw[hH]);clear c0 c1 hst hH xr;have d0:=(rowAt wg.out 0 rfl).1;have Is:=ae wg.out
       by_cases wj:p.1=(j:aw)
       ·have Hh:(p.1==(j:aw))=ti:=by rw[wj];exact kO _
        have vp:=yy.out;rw[cH wj] at vp;have A3:=zH vp;clear vp yy wj
        go_upto_region 18 with(fail)
        clear d0;obtain⟨z,hz⟩:=zE (2*(i:aw)+1);have It:0<=z/\z<=40001:=by omega
        obtain⟨S1,ur⟩:=zE ((λw'=>aE W5.heap.size W5 w'):World->Prop);have DG:S1 W5.drew:=by rw[<-ur];exact(aq _ _).drew
        have vq:cg (∀W,aE W5.heap.size W5 W->S1 W):=λW hW=>by rw[<-ur];exact hW
        have K:cg (∀w,S1 w->w.cell? ⟨H,0,th⟩=tf (Z U p.1)/\w.cell? ⟨H,1,th⟩=tf (Z U p.2)/\(D+2<w.heap.size/\H<w.heap.size)/\w.cell? ⟨D+2,2,th⟩=tf (.map (tf (D+1)))/\(mx 118 (.map (tf (D+1))) (tv #[Z U p.1,Z U p.2]) tj).run am w= .ok (Z U z) w):=λw hw=>by
         rw[<-ur] at hw;have J:=A2.out.grow hw;have r:=(hw.block H (ae wg.out)).trans wg.out;obtain⟨_,_,e1,_,e2⟩:=J.row;refine⟨(rowAt r 0 rfl).1,(rowAt r 1 rfl).1,⟨e1,ae r⟩,e2, ?_⟩;have:=J.look GW G4;rw[show(p.1,p.2)=p from rfl,Hc.out,hz] at this;exact this
        clear ur;have w1:dt.wrap (-z)= -z:=by simp[eC,eE,ef];omega
        have w2:dt.wrap (z+1)=z+1:=by simp[eC,eE,ef];omega
        have w3:dt.wrap (-(z+1))= -(z+1):=by simp[eC,eE,ef];omega
        refine aj 17 S1 (by kernel_rfl) ?_;refine zT 0 rfl K.out ?_;(try go_simp);refine zT 1 rfl K.out ?_;(try go_simp);refine zT 2 rfl K.out ?_;(try go_simp);refine zT 3 rfl K.out ?_;(try go_simp);refine zT 4 rfl K.out ?_;(try go_simp);refine zT 5 rfl K.out ?_;(try go_simp);refine zT 6 rfl K.out ?_;(try go_simp);refine zT 7 rfl K.out ?_;(try go_simp);refine zT 8 rfl K.out ?_;(try go_simp);refine zT 9 rfl K.out ?_;(try go_simp);refine zT 10 rfl K.out ?_;(try go_simp);refine zT 11 rfl K.out ?_;(try go_simp);refine zT 12 rfl K.out ?_;(try go_simp);refine zT 13 rfl K.out ?_;(try go_simp);refine zT 14 rfl K.out ?_;(try go_simp);refine zT 15 rfl K.out ?_;(try go_simp);refine zO 16 rfl λK' R=> ?_;go_simp;(try simp only[w1,w2,w3]);obtain⟨G8,A4⟩:=zE W5.heap.size;obtain⟨W8,yW⟩:=zE ((W5.alloc (tA #[Z U (-z),Z U (-(z+1))] 3)).drew);(try rw[A4]);(try rw[yW]);have A5:aE W5.heap.size W5 W8:=by rw[<-yW];exact((aq _ _).alloc (cd _) _).drew
        have tU:W8.heap[G8]?=tf (tA #[Z U (-z),Z U (-(z+1))] 3 (0,0)):=by rw[<-yW,<-A4];exact alloc_at _ _
        have DH:S1 W8:=vq.out _ A5;refine R _ _ DH ?_;clear R;(try go_simp);refine zK rfl λK' R=> ?_;go_simp;have DM:=zH ((A2.out.grow A5).put (by omega) (tf ⟨G8,0,th⟩) [-z,-(z+1)] 2 (ak.lit2 W8 _ _ tU) (Ah (N:=2*(t.length:aw)) (jT (by unfold gY;omega) (by unfold gY;omega))) (by simp) (by rw[eq,bm];omega) (by rw[eq,bm];omega));go_at_call 56;refine DM.out.mono ?_;rintro e w9 ⟨rfl,DO⟩;refine R _ _ ?_;clear R;refine⟨by kernel_rfl, ?_⟩;have Hi:=zH DO;clear DO A5 tU yW A4 DH DG DM K vq;go_wp2;go_roundw
        case rel=>
         refine⟨i+1,xo,by go_num, ?_⟩;rw[A3.out,<-ei,et,et (f:=nd)];have:=Hi.out;rw[show-(z+1)= -(2*(i:aw)+2) by omega,<-hz] at this;exact this
        case measure=>simp[dp];omega
       ·have Hh:(p.1==(j:aw))=tj:=eR wj
        have vp:=yy.out;rw[bw wj,eA] at vp;have A3:=zH vp;clear vp yy wj;go_wp2;go_roundw
        case rel=>exact⟨i+1,xo,by go_num,by rw[A3.out];exact A2.out⟩
        case measure=>simp[dp];omega
      ·have DP:i=t.length:=by omega
       rw[DP,cL] at uc;clear DP;have tU:=uc.keeps (cP.2 rfl);rw[<-HO.out] at tU;have tM:aE y.heap.size y E:=by obtain⟨_,_,_,h2,_⟩:=uc;rw[ub.out];exact h2
       obtain⟨S1,ur⟩:=zE ((λw'=>aE E.heap.size E w'):World->Prop);have DG:S1 E.drew:=by rw[<-ur];exact(aq _ _).drew
       have vq:cg (∀W,aE E.heap.size E W->S1 W):=λW hW=>by rw[<-ur];exact hW
       have K:cg (∀w,S1 w->(w.cell? ⟨N0,0,th⟩=tf (tn m.sA m.ss.length m.sC)/\w.cell? ⟨N0,1,th⟩=tf (tn (tf ⟨fb,fo,th⟩) m.fs.length m.fC)/\N0<w.heap.size)/\(w.cell? ⟨G,0,th⟩=tf (tm g.c.nm)/\w.cell? ⟨G,1,th⟩=tf (Z U g.c.par)/\w.cell? ⟨G,2,th⟩=tf (tn g.c.varsA g.c.nvars g.c.varsC)/\w.cell? ⟨G,3,th⟩=tf (tt g.c.rp)/\w.cell? ⟨G,4,th⟩=tf (tm g.c.rto)/\w.cell? ⟨G,5,th⟩=tf (Z U g.c.rcl)/\w.cell? ⟨G,6,th⟩=tf (tn g.c.fromA g.c.nfrom g.c.fromC)/\w.cell? ⟨G,7,th⟩=tf (tn g.c.insA g.c.ins.length g.c.insC))/\G<w.heap.size):=λw hw=>by
        rw[<-ur] at hw;have r:=(hw.block G (ae tU)).trans tU;exact⟨yq.out w (tM.trans (hw.mono tM.size)),⟨(rowAt r 0 rfl).1,(rowAt r 1 rfl).1,(rowAt r 2 rfl).1,(rowAt r 3 rfl).1,(rowAt r 4 rfl).1,(rowAt r 5 rfl).1,(rowAt r 6 rfl).1,(rowAt r 7 rfl).1⟩,ae r⟩
       have ue:=Cl.out.fin g tS;have Hj:=HW.out.ni g tS;have Hk:=HW.out.nv g tS;have xt:=λ(W:World) (hW:aE E.heap.size E W)=>uO g.c W ((ue.code.below tM).below hW) Hj (by rw[ue.nvars];exact Hk) (HW.out.ri.al g tS) (by rw[ue.nvars];exact BN HR.out tS);unfold dP.cells at xt;have xt:=zH xt;have DQ:=zH uc;have C5:=zH tM;have A6:=zH ue;have zc:=zH tU;clear ur uc tM tU ue
       go_upto_region 20 with(fail)
       go_cut [12] (λHn wc=>∃(A TT RB:bj) (tb:bj->bj->bj) (hi:bj),Hn= tr (tf ⟨A,0,th⟩)/\Ap (D+2) D (D+1) (lA,lC) t (2*(t.length:aw)) (aJ 0 t) (N0+1) y TT RB g.c tb hi [(A,tA #[tr (tf ⟨D+2,0,th⟩),Z U (j:aw),tn m.sA m.ss.length m.sC,tn (tf ⟨fb,fo,th⟩) m.fs.length m.fC,tr (tf ⟨TT,0,th⟩)] 129 (0,0))] ((Cf j++d9 (j:aw) 0 t).map m8) ((Cf j++d9 (j:aw) 0 t).map nd) ((j:aw),-1) wc/\wc.heap[G]?=tf (tA g.c.cells 38 (0,0)))
       case first=>
        refine aj 7 S1 (by kernel_rfl) ?_;refine zT 0 rfl K.out ?_;(try go_simp);refine zT 1 rfl K.out ?_;(try go_simp);refine zT 2 rfl K.out ?_;(try go_simp);refine zT 3 rfl K.out ?_;(try go_simp);refine kT (i:=4) (j:=6) (by kernel_rfl) (by decide) (by decide) rfl rfl (λK' R=> ?_) (λK' R=> ?_)
        ·rw[cH (by rfl)]
         go_simp;go_at_call 57;refine(xt.out E.drew (aq _ _).drew).mono ?_;rintro e w6 ⟨TT,RA,RB,ta,tb,rfl,Bk,Bm,wk,zd⟩;have vc:aE E.heap.size E w6:=(aq _ _).drew.trans zd;have Bs:S1 w6:=vq.out _ vc;refine R _ _ Bs ?_;clear R;(try go_simp);refine zT 5 rfl K.out ?_;(try go_simp);refine zO 6 rfl λK' R=> ?_;go_simp;obtain⟨A,hA⟩:=zE w6.heap.size;obtain⟨W7,vr⟩:=zE (w6.alloc (tA #[tr th,Z U 0,tn th 0 0,tn th 0 0,tr th] 129));(try rw[hA]);(try rw[vr]);have DS:=gy vr;have ud:aE E.heap.size E W7:=vc.trans (DS.mono vc.size);have tE:W7.heap[A]?=tf (tA #[tr th,Z U 0,tn th 0 0,tn th 0 0,tr th] 129 (0,0)):=by rw[<-vr,<-hA];exact alloc_at _ _
         have Hp:=ae tE;obtain⟨e0,f0⟩:=rowAt tE 0 rfl;obtain⟨e1,f1⟩:=rowAt tE 1 rfl;obtain⟨e2,f2⟩:=rowAt tE 2 rfl;obtain⟨e3,f3⟩:=rowAt tE 3 rfl;obtain⟨e4,f4⟩:=rowAt tE 4 rfl;have By:S1 W7:=vq.out _ ud;refine R _ _ By ?_;clear R;(try go_simp);refine zK rfl λK' R=> ?_;go_simp;have xF:=tE;have Iu:=ae wk.tab.tab;have Iv:RB+g.c.ins.length<w6.heap.size:=by
          by_cases h0:g.c.ins.length=0
          ·rw[h0,i7];exact ae wk.tab.behind
          ·obtain⟨Iw,h3,_⟩:=wk.tab.words (g.c.ins.length-1) (by omega)
           have:=ae h3;omega
         have Iy:=vc.size;refine R _ _ ?_;clear R;refine⟨by kernel_rfl, ?_⟩;obtain⟨WZ,uv⟩:=zE (((((W7.setCell ⟨A,0,th⟩ (tr (tf ⟨D+2,0,th⟩))).setCell ⟨A,1,th⟩ (Z U (j:aw))).setCell ⟨A,2,th⟩ (tn m.sA m.ss.length m.sC)).setCell ⟨A,3,th⟩ (tn (tf ⟨fb,fo,th⟩) m.fs.length m.fC)).setCell ⟨A,4,th⟩ (tr (tf ⟨TT,0,th⟩)));(try rw[uv]);have vt:Ext (·=A) W7 WZ:=by rw[<-uv];exact aa (aa (aa (aa (aa (Ext.refl _ _) _) _) _) _) _
         have xT:WZ.heap[A]?=tf (tA #[tr (tf ⟨D+2,0,th⟩),Z U (j:aw),tn m.sA m.ss.length m.sC,tn (tf ⟨fb,fo,th⟩) m.fs.length m.fC,tr (tf ⟨TT,0,th⟩)] 129 (0,0)):=by rw[<-uv];exact bk _ A 4 _ _ _ (bk _ A 3 _ _ _ (bk _ A 2 _ _ _ (bk _ A 1 _ _ _ (bk _ A 0 _ _ _ xF))))
         have vu:aE E.heap.size E WZ:=ud.trans (vt.below ud.size (λq hq=>by omega));have ya:mf WZ TT RB g.c tb:=((mf.of wk).below DS).ext vt (λe=>by omega) (λk hk _ e=>by omega);have vd:=mJ.table2 DQ.out ub.out vu (by have:=(show E.heap.size<=TT/\E.heap.size<=RB from And.intro Bk Bm);omega) (by have:=(show E.heap.size<=TT/\E.heap.size<=RB from And.intro Bk Bm);omega) ya (A:=A) (by omega) xT;have yb:=zH vd;have BE:=zH ((vu.block G (ae zc.out)).trans zc.out);clear vd vt xT vu ya uv xF;go_wp2
         go_meet
         case rel=>exact⟨A,TT,RB,tb,_,rfl,yb.out,BE.out⟩
        ·rw[cH (by rfl)]
         go_simp;obtain⟨A,hA⟩:=zE E.heap.size;obtain⟨W7,vr⟩:=zE ((E.alloc (tA #[tr th,Z U 0,tn th 0 0,tn th 0 0,tr th] 129)).drew);(try rw[hA]);(try rw[vr]);have ud:aE E.heap.size E W7:=by rw[<-vr];exact((aq _ _).alloc (cd _) _).drew
         have tE:W7.heap[A]?=tf (tA #[tr th,Z U 0,tn th 0 0,tn th 0 0,tr th] 129 (0,0)):=by rw[<-vr,<-hA];exact alloc_at _ _
         have By:S1 W7:=vq.out _ ud;refine R _ _ By ?_;clear R;(try go_simp);refine zO 4 rfl λK' R=> ?_;go_simp;go_at_call 57;refine(xt.out W7 ud).mono ?_;rintro e w6 ⟨TT,RA,RB,ta,tb,rfl,Bk,Bm,wk,zd⟩;have vc:aE E.heap.size E w6:=ud.trans (zd.mono ud.size);have Bs:S1 w6:=vq.out _ vc;have vx:=(zd.block A (ae tE)).trans tE;have Hp:=ae vx;obtain⟨e0,f0⟩:=rowAt vx 0 rfl;obtain⟨e1,f1⟩:=rowAt vx 1 rfl;obtain⟨e2,f2⟩:=rowAt vx 2 rfl;obtain⟨e3,f3⟩:=rowAt vx 3 rfl;obtain⟨e4,f4⟩:=rowAt vx 4 rfl;refine R _ _ Bs ?_;clear R;(try go_simp);refine zT 5 rfl K.out ?_;(try go_simp);refine zK rfl λK' R=> ?_;go_simp;have xF:=vx;have Iz:=ae tE;refine R _ _ ?_;clear R;refine⟨by kernel_rfl, ?_⟩;obtain⟨WZ,uv⟩:=zE (((((w6.setCell ⟨A,0,th⟩ (tr (tf ⟨D+2,0,th⟩))).setCell ⟨A,1,th⟩ (Z U (j:aw))).setCell ⟨A,2,th⟩ (tn m.sA m.ss.length m.sC)).setCell ⟨A,3,th⟩ (tn (tf ⟨fb,fo,th⟩) m.fs.length m.fC)).setCell ⟨A,4,th⟩ (tr (tf ⟨TT,0,th⟩)));(try rw[uv]);have vt:Ext (·=A) w6 WZ:=by rw[<-uv];exact aa (aa (aa (aa (aa (Ext.refl _ _) _) _) _) _) _
         have xT:WZ.heap[A]?=tf (tA #[tr (tf ⟨D+2,0,th⟩),Z U (j:aw),tn m.sA m.ss.length m.sC,tn (tf ⟨fb,fo,th⟩) m.fs.length m.fC,tr (tf ⟨TT,0,th⟩)] 129 (0,0)):=by rw[<-uv];exact bk _ A 4 _ _ _ (bk _ A 3 _ _ _ (bk _ A 2 _ _ _ (bk _ A 1 _ _ _ (bk _ A 0 _ _ _ xF))))
         have vu:aE E.heap.size E WZ:=vc.trans (vt.below vc.size (λq hq=>by omega));have ya:mf WZ TT RB g.c tb:=(mf.of wk).ext vt (λe=>by omega) (λk hk _ e=>by omega);have vd:=mJ.table2 DQ.out ub.out vu (by have:=ud.size;omega) (by have:=ud.size;omega) ya (A:=A) (by omega) xT;have yb:=zH vd;have BE:=zH ((vu.block G (ae zc.out)).trans zc.out);clear vd vt xT vu ya uv xF;go_wp2
         go_meet
         case rel=>exact⟨A,TT,RB,tb,_,rfl,yb.out,BE.out⟩
       case rest=>
        obtain⟨A,TT,RB,tb,hi,rfl,vd,tU⟩:=hcut;have D0:=kE ((gX HR.out).2.2.2.2.1 g tS);have D1:g.c.ins≠[]:=by intro e;have:=D0.2.1;rw[e] at this;simp at this
        obtain⟨ib,io,Hs,D3,D4⟩:=A6.out.code.row D1;have g7:wc.cell? ⟨G,7,th⟩=tf (tn g.c.insA g.c.ins.length g.c.insC):=(rowAt tU 7 rfl).1;have CM:=ae tU;rw[Hs] at g7;have Hu:cg (∀(k:bj)(i:Ins),g.c.ins[k]?=tf i->∀(q:bj)(u:cw),i.cells.toList[q]?=tf u->y.cell? ⟨ib,io+k*13+q,th⟩=tf u):=D4;have yb:cg (∃at_,Ap (D+2) D (D+1) (lA,lC) t (2*(t.length:aw)) (aJ 0 t) (N0+1) y TT RB g.c tb hi [(A,tA #[tr (tf ⟨D+2,0,th⟩),Z U (j:aw),tn m.sA m.ss.length m.sC,tn (tf ⟨fb,fo,th⟩) m.fs.length m.fC,tr (tf ⟨TT,0,th⟩)] 129 (0,0))] ((Cf j++(d9 (j:aw) 0 t++gB t (j:aw) (jm m j) 0 (g.c.ins.take 0))).map m8) ((Cf j++(d9 (j:aw) 0 t++gB t (j:aw) (jm m j) 0 (g.c.ins.take 0))).map nd) at_ wc):=⟨_,by
         rw[oS]
         show Ap _ _ _ _ _ _ _ _ _ _ _ _ _ _ _ ((Cf j++(d9 (j:aw) 0 t++[])).map _) ((Cf j++(d9 (j:aw) 0 t++[])).map _) _ _
         rw[eA];exact vd⟩
        clear vd tU D0 D1 D4
        go_upto_region 22 with(fail)
        clear g7 CM
        go_loopw [91] (λkk wr=>∃k:bj,k<=g.c.ins.length/\kk= Z U (k:aw)/\∃at_,Ap (D+2) D (D+1) (lA,lC) t (2*(t.length:aw)) (aJ 0 t) (N0+1) y TT RB g.c tb hi [(A,tA #[tr (tf ⟨D+2,0,th⟩),Z U (j:aw),tn m.sA m.ss.length m.sC,tn (tf ⟨fb,fo,th⟩) m.fs.length m.fC,tr (tf ⟨TT,0,th⟩)] 129 (0,0))] ((Cf j++(d9 (j:aw) 0 t++gB t (j:aw) (jm m j) 0 (g.c.ins.take k))).map m8) ((Cf j++(d9 (j:aw) 0 t++gB t (j:aw) (jm m j) 0 (g.c.ins.take k))).map nd) at_ wr) (λkk _=>g.c.ins.length-(dp kk).toNat)
        case atStart=>exact⟨0,cM _,rfl,yb.out⟩
        case round=>
         obtain⟨k,hk,rfl,Hv,has⟩:=hrel;obtain⟨wv,Ek⟩:=zE wr;rw[Ek] at has⊢;clear Ek wr
         by_cases zj:k<g.c.ins.length
         ·obtain⟨i,zp⟩:∃i,g.c.ins[k]?=tf i:=⟨_,ap zj⟩
          have zr:=ci zp;have IA:(k:aw)<(g.c.ins.length:aw):=by omega
          obtain⟨Hw,ga,gc,yd,EV⟩:=A6.out.code.args i zr;obtain⟨_,mo,mn,mc,ye⟩:=Hw;have BT:aE y.heap.size y wv:=by obtain⟨_,_,h1,_⟩:=has;rw[ub.out];exact h1.lo
          have tR:∀(q:bj)(u:cw),i.cells.toList[q]?=tf u->wv.cell? ⟨ib,io+k*13+q,th⟩=tf u:=λq u hu=>by rw[BT.cell (p:=⟨ib,_,th⟩) D3];exact Hu.out k i zp q u hu
          have IB:ib<wv.heap.size:=cD D3 BT.size;have x0:=tR 0 _ rfl;have x1:=tR 1 _ rfl;have x2:=tR 2 _ rfl;have x3:=tR 3 _ rfl;have x4:=tR 4 _ rfl;have x5:=tR 5 _ rfl;have x6:=tR 6 _ rfl;have x7:=tR 7 _ rfl;have x8:=tR 8 _ rfl;have x9:=tR 9 _ rfl;have Hx:=tR 10 _ rfl;have Hy:=tR 11 _ rfl;have Hz:=tR 12 _ rfl;rw[i7] at x0;rw[yd] at x7;rw[ye] at x8;have hst:=EK (i:=i) ⟨⟨ga,gc,yd⟩,mo,mn,mc,ye⟩ (w:=wv);obtain⟨Q,hQ⟩:=zE wv.heap.size;obtain⟨W5,ua⟩:=zE (wv.alloc (tA i.cells 42));have xp:=gy ua;have vm:W5.heap[Q]?=tf (tA i.cells 42 (0,0)):=by rw[<-ua,<-hQ];exact alloc_at _ _
          have E0:=has.grow xp;have IC:D+2<Q:=by obtain⟨_,_,e1,_⟩:=has.woL.row;rw[<-hQ];exact e1
          unfold Ins.cells at hst ua vm;rw[yd,ye] at hst ua vm;have E1:=jC ((kE ((gX HR.out).2.2.2.2.1 g tS)).2.2.2.2.2 i zr);have E2:=zH yd;have E3:=zH ye;have HU:=zH EV;have H5:=zH zp;have xr:=zH ua;have wg:=zH vm;have E4:=zH E0;have H9:=zH E1;have BY:=zH zr;clear has BT tR xp vm E0 ua yd ye EV zp E1 zr
          go_upto_region 24 with(fail)
          (try rw[xr.out]);(try rw[hQ]);clear x0 x1 x2 x3 x4 x5 x6 x7 x8 x9 Hx Hy Hz hst hQ xr;obtain⟨⟨t4,f4⟩,⟨t5,f5⟩,tl,_,_⟩:=E4.out.woL.row
          go_upto_region 25 with(fail)
          have E6:=E4.out.setAt (j:aw) (k:aw);obtain⟨W6,zs⟩:=zE ((W5.setCell ⟨D+2,4,th⟩ (Z U (j:aw))).setCell ⟨D+2,5,th⟩ (Z U (k:aw)));have E7:Ext (·=D+2) W5 W6:=by rw[<-zs];exact aa (aa (Ext.refl _ _) _) _
          rw[zs] at E6;(try rw[zs]);have tP:=E7.heap wg.out (by omega);obtain⟨ID,s6,zv,B4⟩:=E6;have tE:=(B4 _ (cP.2 rfl)).1;simp only at tE;clear t4 f4 t5 f5 tl zs E7;obtain⟨⟨b0,b1,b2,b3,b4⟩,⟨z0,z1,z2,z3,z4,z5,z6,z7,z8,z9,IE,IF,IG⟩,y2⟩:(W6.cell? ⟨A,0,th⟩=tf (tr (tf ⟨D+2,0,th⟩))/\W6.cell? ⟨A,1,th⟩=tf (Z U (j:aw))/\W6.cell? ⟨A,2,th⟩=tf (tn m.sA m.ss.length m.sC)/\W6.cell? ⟨A,3,th⟩=tf (tn (tf ⟨fb,fo,th⟩) m.fs.length m.fC)/\W6.cell? ⟨A,4,th⟩=tf (tr (tf ⟨TT,0,th⟩)))/\(W6.cell? ⟨Q,0,th⟩=tf (Z U i.op)/\W6.cell? ⟨Q,1,th⟩=tf (Z U i.d)/\W6.cell? ⟨Q,2,th⟩=tf (Z U i.a)/\W6.cell? ⟨Q,3,th⟩=tf (Z U i.b)/\W6.cell? ⟨Q,4,th⟩=tf (Z U i.f)/\W6.cell? ⟨Q,5,th⟩=tf (Z U i.n)/\W6.cell? ⟨Q,6,th⟩=tf (tm i.sign)/\W6.cell? ⟨Q,7,th⟩=tf (tn ga i.args.length gc)/\W6.cell? ⟨Q,8,th⟩=tf (tn mo mn mc)/\W6.cell? ⟨Q,9,th⟩=tf (Z U i.tI)/\W6.cell? ⟨Q,10,th⟩=tf (Z U i.els)/\W6.cell? ⟨Q,11,th⟩=tf (Z U i.ln)/\W6.cell? ⟨Q,12,th⟩=tf (Z U i.cl))/\(A<W6.heap.size/\Q<W6.heap.size):=
           ⟨⟨(rowAt tE 0 rfl).1,(rowAt tE 1 rfl).1,(rowAt tE 2 rfl).1,(rowAt tE 3 rfl).1,(rowAt tE 4 rfl).1⟩,⟨(rowAt tP 0 rfl).1,(rowAt tP 1 rfl).1,(rowAt tP 2 rfl).1,(rowAt tP 3 rfl).1,(rowAt tP 4 rfl).1,(rowAt tP 5 rfl).1,(rowAt tP 6 rfl).1,(rowAt tP 7 rfl).1,(rowAt tP 8 rfl).1,(rowAt tP 9 rfl).1,(rowAt tP 10 rfl).1,(rowAt tP 11 rfl).1,(rowAt tP 12 rfl).1⟩,ae tE,ae tP⟩
          obtain⟨y2,y3⟩:=y2;obtain⟨Ia,Ib,Ic,Ie⟩:=HW.out.wf g tS i BY.out;obtain⟨_,_,q3,q4,q5⟩:=H9.out;have An:=A6.out.nvars;have h9:i.op=9->isVar g.c.nvars i.a=ti:=λe=>by rw[An];exact q3 i.a (by unfold readsOf;rw[e];simp[uy])
          have B5:i.op=11->isVar g.c.nvars i.b=ti:=λe=>by rw[An];exact q3 i.b (by unfold readsOf;rw[e];simp[uy,rT])
          have B6:i.op=15->∀v∈i.args,isVar g.c.nvars v=ti:=λe v hv=>by rw[An];exact q3 v (by unfold readsOf;rw[cH e];simp[hv])
          have At:∀v:aw,isVar g.c.nvars v=ti->aX tb k v=jm m j k v:=λv hv=>by
           have IH:=bJ.1 hv;have:=zv.tz.tab.says k v.toNat zj (by omega);unfold aX jm;rw[HG.out];rw[Bool.eq_iff_iff,this,EI]
          have B7:aA (aJ 0 t) (j:aw) (aX tb k) i=gJ t (j:aw) (jm m j k) i:=by
           rw[BK];exact xX (λe=>At _ (h9 e)) (λe=>At _ (B5 e)) (λe v hv=>At v (B6 e v hv))
          have Fc:(g.c.ins.take k).length=k:=by rw[ee];omega
          have If:=pu (P:=t) (f:=(j:aw)) (beh:=jm m j) (g.c.ins.take k) 0 (λx hx=>HW.out.ri.al g tS x (mj hx));rw[Fc] at If;have II:=lX (f:=(j:aw)) t 0;have Fi:gB t (j:aw) (jm m j) 0 (g.c.ins.take (k+1))=gB t (j:aw) (jm m j) 0 (g.c.ins.take k)++(gJ t (j:aw) (jm m j k) i).map (λc=>(c,((j:aw),(k:aw)))):=by
           rw[aS H5.out,sW,cI,Fc]
          have wl:=xZ W6 zv (by omega) (λx=>by
           by_cases hx:x∈t
           ·have:=lU (k:=0) hx;omega
           ·rw[jS hx];omega) (j:aw) (by unfold bu;omega) m.sA (tf ⟨fb,fo,th⟩) m.ss.length m.fs.length m.sC m.fC i ga gc E2.out ⟨mo,mn,mc,E3.out⟩ HU.out.at_ (HW.out.ri.al g tS i BY.out) Ia Ib Ic Ie k zj (by omega) (by rw[An];omega) (by simp only[eq,bm];omega) (by simp only[eq,bm];omega) h9 B5 B6 (λx hx=>by
            rw[B7] at hx;have:=Dn HR.out HG.out BY.out (beh:=jm m j k) x (by rw[ux.out];exact hx);rw[ux.out] at this;exact Ah this)
          rw[B7] at wl;unfold Ins.cells at wl;rw[E2.out,E3.out] at wl;have wl:=zH wl;have Ig:=zH zv;have Ih:=zH B4;have Ii:=zH Fi;clear zv B4 Fi B7 At h9 B5 B6 q3 q4 q5 tP tE
          go_wp2_with (go_at_call 58;refine wl.out.mono ?_;rintro e w7 ⟨rfl,Fk⟩;have Ij:=zH (Ap.of Ig.out Ih.out Fk);clear Fk)
          go_roundw
          case rel=>
           refine⟨k+1,zj,by go_num,((j:aw),(k:aw)), ?_⟩;have:=Ij.out;rw[Ii.out];simp only[et,List.map_map,ei] at this⊢;simpa[Function.comp_def] using this
          case measure=>simp[dp];omega
         ·have Fl:k=g.c.ins.length:=by omega
          rw[Fl,cL] at has;have B8:=has.woL.wo;rw[<-AK.out] at B8;have B9:=zH B8;clear has B8 Fl;go_wp2;go_roundw
          case rel=>exact⟨j+1,xf,by go_num,Hv,B9.out⟩
          case measure=>simp[dp];omega
    ·have Fm:j=m.fs.length:=by omega
     rw[Fm] at tG;have B9:=zH tG;clear tG tM Fm;go_wp2
     go_ret2
     refine⟨D+2,D,D+1,(lA,lC),GO,rfl, ?_⟩;have:=B9.out;rw[xl.out,cL] at this;rw[ux.out]
     show Wo _ _ _ _ _ _ _ _ _ ((jU m.ptrs (jm m) 0 m.fs).map _) ((jU m.ptrs (jm m) 0 m.fs).map _) _ _
     exact this
def iy (B:bj)(w:World)(d:cC fg)(C:bp (bp aw)):Prop:=
 ∀(k:bj)(c:bp aw),C[k]?=tf c->∃g ao cap,d=tf ⟨g,0,th⟩/\(B<=g/\g<w.heap.size)/\w.cell? ⟨g,k,th⟩=tf (tn ao c.length cap)/\dX w ao c/\∀a,c≠[]->ao=tf a->B<=a.block
theorem iy.ext {B:bj}{w w':World}{j:cC fg}{C:bp (bp aw)}{M:bj->Prop}(h:iy B w j C)(f:Ext M w w')(o:∀k,B<=k->k<w.heap.size->¬M k):iy B w' j C:=λk c x=>by
 obtain⟨g,ao,cap,y,d,z,q,t⟩:=h k c x;refine⟨g,ao,cap,y,⟨d.1,cD d.2 f.size⟩,(f.cell (a:=⟨g,k,th⟩) d.2 (o g d.1 d.2)).trans z,dS q f (λa u e=> ?_),t⟩;obtain⟨b,E,v,A,_⟩:=q u;have:=t a u e;rw[e] at v;obtain rfl:=cy v;exact o _ this A
theorem iy.below {B:bj}{w w':World}{d:cC fg}{C:bp (bp aw)}(h:iy B w d C)(hb:aE w.heap.size w w'):iy B w' d C:=h.ext (Ext.of_below_size (M:=λ_=>lj) hb) (λ_ _ _ h=>h)
theorem iy.mono {B d:bj}{w:World}{f:cC fg}{C:bp (bp aw)}(h:iy B w f C)(j:d<=B):iy d w f C:=λk c q=>by
 obtain⟨g,ao,cap,t,o,u,v,x⟩:=h k c q;exact⟨g,ao,cap,t,⟨eN j o.1,o.2⟩,u,v,λa y e=>eN j (x a y e)⟩
structure F8 (D:bj)(N:aw)(w:World)(C:bp (bp aw))(fa:cC fg)(fc:bj)(vals:bp cw)(wr:World):Prop where
 row:wr.heap[D]?=tf (tA #[Z U N,tn fa C.length fc] 48 (0,0))
 own:wr.ownsRow (D+1) 35 1 (tn fa C.length fc) C.length vals
 len:vals.length=C.length
 cls:∀(k:bj)(c:bp aw),C[k]?=tf c->∃ao cap,vals[k]?=tf (tn ao c.length cap)/\dX wr ao c/\(c≠[]->∀a,ao=tf a->D+1<=a.block/\¬(cv fa C.length fc).ownBlock=tf a.block)
 low:aE D w wr
 hD:w.heap.size<=D
theorem F8.clsIn {D:bj}{N:aw}{w wr:World}{C:bp (bp aw)}{f:cC fg}{q:bj}{vals:bp cw}(h:F8 D N w C f q vals wr):iy (D+1) wr f C:=λk c j=>by
 obtain⟨ao,cap,t,u,v⟩:=h.cls k c j;have A:=(bo.1 j).1;rcases h.own.2 with⟨_,d⟩|⟨g,cp,E,d,x,y,_⟩
 ·omega
 ·simp only[fy] at d
  refine⟨g,ao,cap,d.1,⟨x,ae y⟩, ?_,u,λa z e=>(v z a e).1⟩;have o:=h.own;rw[d.1] at o;have:=o.cells (g:=g) rfl k _ t;rw[cU] at this;simpa using this
theorem FU {D:bj}{N:aw}{w wr w5 W8 w9:World}{C:bp (bp aw)}{o a9 ao:cC fg}{t c9 cp:bj}{vals:bp cw}{xs:bp aw}(h:F8 D N w C o t vals wr)(tE:aE wr.heap.size wr w5)(tG:aU w5 wr.heap.size (tn ao xs.length cp) xs)(J:aE w5.heap.size w5 W8)
  (tM:w9.ownsRow (D+1) 35 1 (tn a9 (C.length+1) c9) (C.length+1) (vals++[tn ao xs.length cp]))(ua:W8.grownBy w9 (cv o C.length t).ownBlock)
  (tP:∀k,(cv a9 (C.length+1) c9).ownBlock=tf k->(cv o C.length t).ownBlock=tf k\/W8.heap.size<=k):
  F8 D N w (C++[xs]) a9 c9 (vals++[tn ao xs.length cp]) (w9.setCell ⟨D,1,th⟩ (tn a9 (C.length+1) c9)):=by
 obtain⟨WF,K⟩:=zE (w9.setCell ⟨D,1,th⟩ (tn a9 (C.length+1) c9));rw[K];have A:aE wr.heap.size wr W8:=tE.trans (J.mono tE.size);have tR:Ext (λq=>(cv o C.length t).ownBlock=tf q) W8 w9:=Ext.of_grown ua (λq d=> .inl d);have tS:Ext (·=D) w9 WF:=by rw[<-K];exact Ext.set1 w9 D 1 _
 have tU:Ext (λq=>q=D\/(cv o C.length t).ownBlock=tf q) W8 WF:=(tR.mono (λq h=> .inr h)).trans tS (λq h=> .inl (.inl h));have tW:Ext (λq=>q=D\/(cv o C.length t).ownBlock=tf q) wr WF:=(Ext.of_below_size A).trans tU (λq h=> .inl h);have E:(C++[xs]).length=C.length+1:=by simp
 have G:∀k,(cv o C.length t).ownBlock=tf k->D+1<=k/\k<wr.heap.size:=λk u=>ai h.own u;have up:D<W8.heap.size:=by have:=ae h.row;have:=A.size;omega
 have ub:=ae h.row;refine⟨?_, ?_,by simp[h.len], ?_,h.low.trans (tW.below (by omega) (λq d=>by rcases d with rfl|d;exact cd _;have:=(G q d).1;omega)),h.hD⟩
 ·rw[E,<-K]
  exact bk w9 D 1 _ _ _ (tR.heap ((A.block D ub).trans h.row) (λe=>by have:=(G _ e).1;omega))
 ·rw[E];exact ah tM tS (λk u e=>by have:=(ai tM u).1;omega)
 ·intro k c j
  rw[sX] at j
  by_cases u:k<C.length
  ·rw[cH u] at j
   obtain⟨uc,ud,R,h2,W⟩:=h.cls k c j;refine⟨uc,ud,by rw[mz (by have:=(bo.1 R).1;omega)];exact R,dS h2 tW (λa f e d=>by
    obtain⟨v,y⟩:=W f a e;rcases d with d|d
    ·omega
    ·exact y d),λf a e=>⟨(W f a e).1,λz=> ?_⟩⟩
   rw[E] at z;rcases tP _ z with x|x
   ·exact(W f a e).2 x
   ·obtain⟨b,ur,v,y,_⟩:=h2 f
    rw[e] at v;obtain rfl:=cy v;have:=A.size;simp only at y x;omega
  ·rw[bw u] at j
   obtain⟨uv,rfl⟩:k-C.length=0/\xs=c:=by
    cases d:k-C.length with
    |zero=>rw[d] at j;exact⟨rfl,by simpa using j⟩
    |succ q=>rw[d] at j;simp at j
   have ue:k=vals.length:=by rw[h.len];omega
   have tD:∀a,xs≠[]->ao=tf a->wr.heap.size<=a.block/\a.block<w5.heap.size:=λa f e=>by
    obtain⟨g,v,y,e3,_⟩:=tG.shape (kq.2 f);rw[e] at v;obtain rfl:=cy v;exact⟨y,e3⟩
   have ux:=J.size;refine⟨ao,cp,by rw[ue];simp,dS (aH.grow (sS tG rfl) J) tU (λa f e d=> ?_),λf a e=>⟨?_,λz=> ?_⟩⟩
   ·have:=tD a f e
    rcases d with d|d
    ·omega
    ·have:=(G _ d).2;omega
   ·have:=tD a f e;omega
   ·have R:=tD a f e
    rw[E] at z;rcases tP _ z with x|x
    ·have:=(G _ x).2;omega
    ·omega
section
variable {T Bb MB:bj}{lv:cC fg×bj}{P:bp (aw×aw)}{N:aw}{F:aw×aw->aw}{C:bp (bp aw)}{Y:bp (aw×aw)}{at_:aw×aw}{B:bj}{tg:bj->bj}{s:nz}
def EN (w:World)(N:aw)(C:bp (bp aw))(e:Ending)(w':World):Prop:=
 ∃d f,e= tB (tv #[Z U N,tn d C.length f])/\iy (w.heap.size+1) w' d C/\aE w.heap.size w w'
theorem tF (w:World)(h:Wn T Bb MB lv P N F C Y at_ B tg s w)(xt:∀c∈C,c.length<=80000):
  fj am 59 #[tr (tf ⟨Bb,0,th⟩)] w (EN w N C):=by
 obtain⟨D,hD⟩:=zE w.heap.size;obtain⟨W1,tG⟩:=zE (w.alloc (tA #[Z U 0,tn th 0 0] 48));have ur:=gy tG;have tM:W1.heap[D]?=tf (tA #[Z U 0,tn th 0 0] 48 (0,0)):=by rw[<-tG,<-hD];exact alloc_at _ _
 have h1:=h.grow ur;obtain⟨b0,b1⟩:W1.cell? ⟨Bb,0,th⟩=tf (Z U N)/\W1.cell? ⟨Bb,1,th⟩=tf (tn s.fA C.length s.fC):=⟨(rowAt h1.bld 0 rfl).1,(rowAt h1.bld 1 rfl).1⟩
 have uv:=ae h1.bld;have xF:Bb≠D:=by have:=(h.lo Bb (by rw[h.t2];decide)).2;omega
 have xT:=ae tM;obtain⟨d0,f0⟩:=rowAt tM 0 rfl;have AE:=h.lC;have H:=zH h;have vr:=zH ur;have ya:=zH tG;have yb:=zH tM;have z:=zH hD;obtain⟨i0,yd,ye,yi,yk⟩:=m6 vS;clear h tG ur tM h1;go_enter func59,ntmps59
 go_upto_region 1 with(fail)
 rw[ya.out];(try rw[z.out])
 go_upto_region 4 with(fail)
 obtain⟨E,tP⟩:=zE (W1.setCell ⟨D,0,th⟩ (Z U N));rw[tP];have tR:Ext (·=D) W1 E:=by rw[<-tP];exact Ext.set1 _ _ _ _
 have vt:E.heap[D]?=tf (tA #[Z U N,tn th 0 0] 48 (0,0)):=by rw[<-tP];exact bk W1 D 0 _ _ _ yb.out
 have vu:aE D w E:=by
  have:=vr.out;rw[z.out] at this;exact this.trans (tR.below (by have:=vr.out.size;have:=z.out;omega) (λq hq=>by omega))
 have vx:F8 D N w [] th 0 [] E:=⟨vt,World.ownsRow_nil _ _ _ _,rfl,λk c hc=>by simp at hc,vu,by have:=z.out;omega⟩
 have c1:E.cell? ⟨Bb,1,th⟩=tf (tn s.fA C.length s.fC):=(tR.cell (a:=⟨Bb,1,th⟩) uv xF).trans b1;have yp:Bb<E.heap.size:=cD uv tR.size;have yq:=zH vx;clear b0 b1 d0 f0 tP tR vt vu vx uv xT
 go_upto_region 5 with(fail)
 clear c1 yp;obtain⟨fA,ux⟩:=zE s.fA;have yr:=zH ux;rw[ux];clear ux
 go_loopw [20] (λkk wr=>∃j:bj,j<=C.length/\kk= Z U (j:aw)/\∃o t vals,F8 D N w (C.take j) o t vals wr) (λkk _=>C.length-(dp kk).toNat)
 case atStart=>exact⟨0,cM _,rfl,th,0,[],yq.out⟩
 case round=>
  obtain⟨j,hj,rfl,o,t,vals,u⟩:=hrel;obtain⟨v,vy⟩:=zE wr;rw[vy] at u⊢;clear vy wr
  by_cases we:j<C.length
  ·obtain⟨x,A⟩:∃x,C[j]?=tf x:=⟨_,ap we⟩
   have AF:(j:aw)<(C.length:aw):=by omega
   obtain⟨ao,cap,hv,wg,_⟩:=H.out.cls.2 j x A;have tS:aE w.heap.size w v:=by rw[z.out];exact u.low
   obtain⟨g,hg,yv,yy⟩:∃g,fA=tf ⟨g,0,th⟩/\v.cell? ⟨g,j,th⟩=tf (tn ao x.length cap)/\g<v.heap.size:=by
    rcases H.out.frow.2 with⟨_,h3⟩|⟨g,cp,AH,h3,h4,h5,_⟩
    ·omega
    ·simp only[fy] at h3
     have J:=H.out.frow;rw[h3.1] at J;have:=J.cells (g:=g) rfl j _ hv;rw[cU,cI] at this;exact⟨g,by rw[<-yr.out];exact h3.1,by rw[tS.cell (p:=⟨g,j,th⟩) (ae h5)];exact this,cD (ae h5) tS.size⟩
   subst hg;have yW:=xt x (ci A);have y:(C.take j).length=j:=by rw[ee];omega
   have d:=u.row;have J:=u.own;have vc:=u.len;rw[y] at d J vc;have wj:=ae d;obtain⟨K,tU⟩:=zE ((λw'=>w'.heap[D]?=tf (tA #[Z U N,tn o j t] 48 (0,0))):World->Prop);have zc:K v.drew:=by rw[<-tU];exact d
   have vd:cg (∀W,W.heap[D]?=tf (tA #[Z U N,tn o j t] 48 (0,0))->K W):=λW hW=>by rw[<-tU];exact hW
   have tW:cg (∀w,K w->w.cell? ⟨D,1,th⟩=tf (tn o j t)/\D<w.heap.size):=λw hw=>by rw[<-tU] at hw;exact⟨(rowAt hw 1 rfl).1,ae hw⟩
   have zd:=zH (oF v.drew ao x cap ((dX.at_ (aH.grow wg tS)).below (aq _ _).drew) yW);have zj:=zH u;have HX:=zH A;have vf:=zH d;have zp:=zH J;have AI:=zH vc;have zr:=zH y;clear u A hv wg tS d J vc y tU
   go_upto_region 7 with(fail)
   clear yv yy;refine aj 7 K (by kernel_rfl) ?_;refine zT 0 rfl tW.out ?_;(try go_simp);refine zT 1 rfl tW.out ?_;(try go_simp);refine zT 2 rfl tW.out ?_;(try go_simp);refine zO 3 rfl λK' f=> ?_;go_simp;go_at_call 111;refine zd.out.mono ?_;rintro e w5 ⟨R,tD,rfl,wk,wl⟩;have ua:aE v.heap.size v w5:=(aq _ _).drew.trans wl;have ub:=(ua.block D wj).trans vf.out;refine f _ _ (vd.out _ ub) ?_;clear f;(try go_simp);refine zO 4 rfl λK' f=> ?_;go_simp;obtain⟨G,hG⟩:=zE w5.heap.size;obtain⟨W8,uc⟩:=zE (w5.alloc (tA #[tn R x.length tD] 35));(try rw[hG]);(try rw[uc]);have ud:=gy uc;have ws:W8.heap[G]?=tf (tA #[tn R x.length tD] 35 (0,0)):=by rw[<-uc,<-hG];exact alloc_at _ _
   have ue:=(ud.block D (ae ub)).trans ub;have vh:=ownsRow_below (ownsRow_below zp.out ua) ud;refine f _ _ (vd.out _ ue) ?_;clear f;(try go_simp);refine zO 5 rfl λK' f=> ?_;have zs:D+1<=W8.heap.size:=ae ue;refine aG (.tmp 25) (.tmp 28) 46 rfl (D+1) 35 i0 _ 1 24 underlying46 yd ye yi yk rfl (by decide) (tn o j t) j vals rfl vh (tf ⟨G,0,th⟩) 1 1 [tn R x.length tD] rfl rfl (λh=>by cases h) (λad zv jj uu hu=>by
    obtain rfl:(⟨G,0,th⟩:fg)=ad:=by simpa using zv
    rw[cU,cI,bt _ _ _ _ _ _ ws];simpa using hu) (by simp[cn]) (by unfold du;omega) (by omega) zs ?_
   intro v9 w9 vm vp xf;obtain⟨up,c9,An⟩:=aC vm;subst An;have xj:Ext (λq=>(cv o j t).ownBlock=tf q) W8 w9:=Ext.of_grown vp (λq hq=> .inl hq);have tE:=xj.heap ue (λe=>by have:=(ai vh e).1;omega);have xl:K w9:=vd.out _ tE;have At:=(rowAt tE 1 rfl).2;have Ax:=(rowAt tE 1 rfl).1;have AK:=ae tE;refine f _ _ xl ?_;clear f;(try go_simp);refine zT 6 rfl tW.out ?_;(try go_simp);refine zK rfl λK' f=> ?_;go_simp;refine f _ _ ?_;clear f;refine⟨by kernel_rfl, ?_⟩;have xo:F8 D N w (C.take j++[x]) up c9 (vals++[tn R x.length tD]) (w9.setCell ⟨D,1,th⟩ (tn up (j+1) c9)):=by
    have y:=zr.out;have:=FU (xs:=x) (ao:=R) (cp:=tD) (a9:=up) (c9:=c9) zj.out ua wk ud (by rw[y];exact vm) (by rw[y];exact vp) (by rw[y];exact xf);rw[y] at this;exact this
   have AD:=zH xo;clear xo vm vp xf xj tE xl vh ue ub ws uc ud ua wk wl hG zc Ax At;go_wp2;go_roundw
   case rel=>exact⟨j+1,we,by go_num,up,c9,_,by rw[aS HX.out];exact AD.out⟩
   case measure=>simp[dp];omega
  ·have xp:j=C.length:=by omega
   have vq:F8 D N w C o t vals v:=by rw[xp,cL] at u;exact u
   have d:=vq.row;obtain⟨k0,g0⟩:=rowAt d 0 rfl;obtain⟨k1,g1⟩:=rowAt d 1 rfl;have wj:=ae d;have xr:=zH vq;have vf:=zH d;clear u vq d xp;go_wp2;(try simp only[cQ,Exit.then]);have A:Ext (·=D) v ((v.setCell ⟨D,0,th⟩ (Z U N)).setCell ⟨D,1,th⟩ (tn o C.length t)):=aa (aa (Ext.refl _ _) _) _;refine dk (er (P:=am) rfl _ _ D 48 _ (0,0) _ rfl (aW vf.out) rm rfl (by kernel_rfl)) rfl ?_;refine⟨o,t,rfl, ?_,by rw[z.out];exact xr.out.low.trans (A.below (by omega) (λq hq=>by omega))⟩;rw[z.out];exact xr.out.clsIn.ext A (λk hk _ e=>by omega)
theorem uW (w:World)(h:Wn T Bb MB lv P N F C Y at_ B tg s w)(R:∀c∈C,c.length<=80000):
  fj am 16 #[tr (tf ⟨T,0,th⟩)] w (EN w N C):=by
 obtain⟨D,v⟩:=zE w.heap.size;obtain⟨W1,f⟩:=zE (w.alloc (tA #[Z U 0,tn th 0 0] 48));have o:=gy f;have x:W1.heap[D]?=tf (tA #[Z U 0,tn th 0 0] 48 (0,0)):=by rw[<-f,<-v];exact alloc_at _ _
 have g:=h.grow o;have c0:=(rowAt g.row 0 rfl).1;have tG:=ae g.row;have W:=zH (tF W1 g R);have j:=zH o;have y:=zH f;have z:=zH x;have t:=zH v;clear h f o x g;go_enter func16,ntmps16
 go_upto_region 1 with(fail)
 rw[y.out];(try rw[t.out])
 go_wp2_with (go_at_call 59;refine W.out.mono ?_;rintro e w2 ⟨A,E,rfl,G,u⟩;have tD:=zH G;have J:=zH u;have d:=(u.block D (ae z.out)).trans z.out;have tE:=zH d;obtain⟨k0,g0⟩:=rowAt d 0 rfl;obtain⟨k1,g1⟩:=rowAt d 1 rfl;have tM:=ae d;clear G u d)
 (try simp only[cQ,Exit.then]);have K:Ext (·=D) w2 ((w2.setCell ⟨D,0,th⟩ (Z U N)).setCell ⟨D,1,th⟩ (tn A C.length E)):=aa (aa (Ext.refl _ _) _) _;refine dk (er (P:=am) rfl _ _ D 48 _ (0,0) _ rfl (aW tE.out) rm rfl (by kernel_rfl)) rfl ?_;refine⟨A,E,rfl, ?_,(j.out.trans (J.out.mono j.out.size)).trans (K.below (eN j.out.size J.out.size) (λq hq=>by have:=t.out;omega))⟩;refine iy.mono (tD.out.ext K (λk hk _ e=> ?_)) ?_
 ·have:=t.out;have:=y.out;have h9:W1.heap.size=w.heap.size+1:=by rw[<-this];simp
  omega
 ·have:=j.out.size;omega
theorem lZ (w:World)(h:Wn T Bb MB lv P N F C Y at_ B tg s w)(f v:aw)(hf:bu f)(d:bu v):
  zS 24 #[tr (tf ⟨T,0,th⟩),Z U f,Z U v] w (Z U (F (f,v))):=by
 have c2:w.cell? ⟨T,2,th⟩=tf (.map (tf MB)):=(rowAt h.row 2 rfl).1;have e:=ae h.row;have g:=h.map.look hf d;clear h;go_enter func24,ntmps24;go_wp2;go_ret;exact⟨rfl,rfl⟩
theorem pG (w:World)(h:Wn T Bb MB lv P N F C Y at_ B tg s w)(f v:aw)(hf:bu f)(o:bu v)(hF:0<=F (f,v)/\F (f,v)<=9000000):
  zS 25 #[tr (tf ⟨T,0,th⟩),Z U f,Z U v] w (Z U (if F (f,v)=0 then 0 else F (f,v)+1)):=by
 have g:=zH (lZ w h f v hf o);obtain⟨z,j⟩:=zE (F (f,v));rw[j] at g hF⊢;obtain⟨h0,t⟩:=hF;clear h j
 by_cases d:z=0
 ·have q:(z==0)=ti:=by rw[d];rfl
  rw[cH d];clear d;go_enter func25,ntmps25
  go_wp2_with (go_at_call 24;refine g.out.mono ?_;rintro e w ⟨rfl,rfl⟩)
  go_ret;exact⟨rfl,rfl⟩
 ·have q:(z==0)=tj:=eR d
  rw[bw d];clear d;go_enter func25,ntmps25
  go_wp2_with (go_at_call 24;refine g.out.mono ?_;rintro e w ⟨rfl,rfl⟩)
  go_ret;exact⟨by go_num,rfl⟩
theorem EO:∀(l:bp (aw×aw))(i:bj)(p:aw×aw),l[i]?=tf p->(l.flatMap oJ)[i*2+0]?=tf (Z U p.1)/\(l.flatMap oJ)[i*2+1]?=tf (Z U p.2):=by
 intro l
 induction l with
 |nil=>intro i p hi;simp at hi
 |cons x r ih=>
  intro i p hi;cases i with
  |zero=>
   obtain rfl:x=p:=by simpa using hi
   exact⟨rfl,rfl⟩
  |succ i=>
   obtain⟨d,e⟩:=ih i p (by simpa using hi);rw[fm];refine⟨?_, ?_⟩
   ·rw[gA (by simp[oJ];omega),show(i+1)*2+0-(oJ x).length=i*2+0 by simp[oJ];omega];exact d
   ·rw[gA (by simp[oJ];omega),show(i+1)*2+1-(oJ x).length=i*2+1 by simp[oJ];omega];exact e
end
theorem tH (N:aw)(D:bj)(ao:cC fg)(xs:bp aw)(cap:bj)(w:World)(q:0<=N/\N<=100000)(t:w.cell? ⟨D,0,th⟩=tf (Z U N))(j:xs.length<=du)(d:ak w ao xs)(f:xs.all (bH N)=ti):
  zP 66 #[tn ao xs.length cap,tr (tf ⟨D,0,th⟩)] w (tt tj):=by
 have g:=zH (vT N (by omega) ao xs cap w j d);rw[f] at g;clear d f;go_enter func66,ntmps66
 go_wp2_with (go_at_call 67;refine g.out.mono ?_;rintro e w2 ⟨rfl,h⟩;have o:=zH h;clear h)
 go_ret;exact⟨rfl,o.out⟩
theorem uX (N:aw)(D:bj)(B:bj)(h:cC fg)(C:bp (bp aw))(A:bj)(w:World)(E:0<=N/\N<=100000)(o:w.cell? ⟨D,0,th⟩=tf (Z U N))(q:D<w.heap.size)(hC:iy B w h C)(t:∀c∈C,c.all (bH N)=ti/\c.length<=80000)(hl:C.length<=1000000):
  zP 115 #[tn h C.length A,.func (.func 66) #[] #[tr (tf ⟨D,0,th⟩)]] w (Z U (-1)):=by
 have G:=zH hC;have J:=zH t;have K:=zH o;have R:=zH q;clear hC t o q;go_enter func115,ntmps115
 go_wp2_with fail
 go_loopw [8] (λk wr=>∃j:bj,j<=C.length/\k= Z U (j:aw)/\aE w.heap.size w wr) (λk _=>C.length-(dp k).toNat)
 case atStart=>exact⟨0,cM _,rfl,aq _ _⟩
 case round=>
  obtain⟨j,hj,rfl,hb⟩:=hrel
  by_cases W:j<C.length
  ·obtain⟨x,f⟩:∃x,C[j]?=tf x:=⟨_,ap W⟩
   have tE:(j:aw)<(C.length:aw):=by omega
   obtain⟨g,ao,cap,rfl,u,hg,v,_⟩:=(G.out.below hb) j x f;have tG:=u.2;obtain⟨y,h2⟩:=J.out x (ci f);have HR:=zH (tH N D ao x cap wr E (by rw[hb.cell (p:=⟨D,0,th⟩) R.out];exact K.out) (by unfold du;omega) (dX.at_ v) y);have d:=zH hb;clear hb f v y h2 u
   go_wp2_with (go_at_call 66;refine HR.out.mono ?_;rintro e w2 ⟨rfl,z⟩;have tD:=zH z;clear z)
   go_roundw
   case rel=>exact⟨j+1,by omega,by go_num,d.out.trans (tD.out.mono d.out.size)⟩
   case measure=>simp[dp];omega
  ·have d:=zH hb
   clear hb;go_wp2;go_ret;exact⟨rfl,d.out⟩
theorem mg (N:aw)(D:bj)(B:bj)(d:cC fg)(C:bp (bp aw))(f:bj)(w:World)(o:0<=N/\N<=100000)(g:w.cell? ⟨D,0,th⟩=tf (Z U N))(q:D<w.heap.size)(hC:iy B w d C)(h:∀c∈C,c.all (bH N)=ti/\c.length<=80000)(t:C.length<=1000000):
  zP 65 #[tn d C.length f,.func (.func 66) #[] #[tr (tf ⟨D,0,th⟩)]] w (tt tj):=by
 have u:=zH (uX N D B d C f w o g q hC h t);clear hC h g;go_enter func65,ntmps65
 go_wp2_with (go_at_call 115;refine u.out.mono ?_;rintro e w2 ⟨rfl,j⟩;have v:=zH j;clear j)
 go_ret;exact⟨rfl,v.out⟩
theorem tJ (N:aw)(B:bj)(d:cC fg)(C:bp (bp aw))(f:bj)(w:World)(o:0<=N/\N<=100000)(hC:iy B w d C)(q:∀c∈C,c.all (bH N)=ti/\c.length<=80000)(G:C.length<=200000):
  zP 20 #[tv #[Z U N,tn d C.length f]] w (tt ti):=by
 obtain⟨D,v⟩:=zE w.heap.size;obtain⟨W1,g⟩:=zE (w.alloc (tA #[Z U N,tn d C.length f] 48));have j:=gy g;have h:W1.heap[D]?=tf (tA #[Z U N,tn d C.length f] 48 (0,0)):=by rw[<-g,<-v];exact alloc_at _ _
 have x:=(rowAt h 0 rfl).1;have J:=(rowAt h 1 rfl).1;have y:=ae h;have z:=zH (mg N D B d C f W1 o x y (hC.below j) q (by omega));have d1:decide (N<0)=tj:=cm (by omega);have d2:decide (100000<N)=tj:=cm (by omega);have d3:decide ((200000:aw)<(C.length:aw))=tj:=cm (by omega);obtain⟨K,R⟩:=o;have W:(C.length:aw)<=200000:=by omega
 have t:=zH j;have A:=zH g;clear hC q g j h;go_enter func20,ntmps20
 go_upto_region 1 with(fail)
 rw[A.out]
 go_wp2_with (go_at_call 65;refine z.out.mono ?_;rintro e w2 ⟨rfl,u⟩;have E:=zH u;clear u)
 go_ret;exact⟨rfl,t.out.trans (E.out.mono t.out.size)⟩
def oI (w:World)(ao:cC fg)(M:bp ml):Prop:=∀(k:bj)(x:ml),M[k]?=tf x->∃g d,ao=tf ⟨g,d,th⟩/\g<w.heap.size/\w.cell? ⟨g,d+k,th⟩=tf (tt x)
theorem oI.below {w w':World}{ao:cC fg}{M:bp ml}(h:oI w ao M)(hb:aE w.heap.size w w'):oI w' ao M:=λk x f=>by
 obtain⟨g,d,j,e,o⟩:=h k x f;exact⟨g,d,j,cD e hb.size,by rw[hb.cell (p:=⟨g,d+k,th⟩) e];exact o⟩
def yg (M:bp ml)(x:aw):ml:=M.getD (max x (-x)-1).toNat tj==decide (0<x)
theorem Aj (M:bp ml)(D:bj)(ao:cC fg)(cap:bj)(x:aw)(w:World)(K:w.cell? ⟨D,0,th⟩=tf (tn ao M.length cap))(R:D<w.heap.size)(h:oI w ao M)(o:bH (M.length:aw) x=ti)(W:M.length<=100000):
  zP 60 #[Z U x,tr (tf ⟨D,0,th⟩)] w (tt (yg M x)):=by
 unfold bH at o;rw[ej,ej,oY,oY] at o;obtain⟨⟨h0,h1⟩,h2⟩:=o;have tD:x≠0:=by simpa using h0
 by_cases j:0<x
 ·obtain⟨q,rfl⟩:∃q:bj,x=((q+1:bj):aw):=⟨(x-1).toNat,by omega⟩
  have t:q<M.length:=by omega
  obtain⟨y,d⟩:∃y,M[q]?=tf y:=⟨_,ap t⟩
  obtain⟨g,v,rfl,z,A⟩:=h q y d;have u:cg (yg M ((q+1:bj):aw)=(y==ti)):=by
   unfold cg yg;rw[show(max ((q+1:bj):aw) (-((q+1:bj):aw))-1).toNat=q by omega,nj,d,cR j];rfl
  have E:decide (0<((q+1:bj):aw))=ti:=cR j;have G:¬(((q+1:bj):aw)< -((q+1:bj):aw)):=by omega
  have J:max ((q:aw)+1) (-((q:aw)+1))=(q:aw)+1:=by omega
  clear h d h0;go_enter func60,ntmps60;go_wp2;go_ret;have f:=u.out;rw[show((q+1:bj):aw)=(q:aw)+1 by omega] at f;exact⟨by rw[f];cases y<;>rfl,aq _ _⟩
 ·obtain⟨q,rfl⟩:∃q:bj,x= -((q+1:bj):aw):=⟨(-x-1).toNat,by omega⟩
  have t:q<M.length:=by omega
  obtain⟨y,d⟩:∃y,M[q]?=tf y:=⟨_,ap t⟩
  obtain⟨g,v,rfl,z,A⟩:=h q y d;have u:cg (yg M (-((q+1:bj):aw))=(y==tj)):=by
   unfold cg yg;rw[show(max (-((q+1:bj):aw)) (-(-((q+1:bj):aw)))-1).toNat=q by omega,nj,d,cm j];rfl
  have E:decide (0< -((q+1:bj):aw))=tj:=cm j;have G: -((q+1:bj):aw)< -(-((q+1:bj):aw)):=by omega
  have J:max (-((q:aw)+1)) ((q:aw)+1)=(q:aw)+1:=by omega
  have tE:max (-((q:aw)+1)) (-(-((q:aw)+1)))=(q:aw)+1:=by omega
  clear h d h0;go_enter func60,ntmps60;go_wp2;go_ret;have f:=u.out;rw[show((q+1:bj):aw)=(q:aw)+1 by omega] at f;have e:decide ((q:aw)+1<0)=tj:=cm (by omega);exact⟨by rw[f];show py (tt (y==decide ((q:aw)+1<0)))=_;rw[e],aq _ _⟩
def mK (M:bp ml)(C:bp (bp aw)):ml:=C.all λc=>c.any (yg M)
theorem BO (M:bp ml)(B:bj)(G ao:cC fg)(C:bp (bp aw))(fc cap:bj)(w:World)(hC:iy B w G C)(hM:oI w ao M)(hl:M.length<=100000)(tS:∀c∈C,c.all (bH (M.length:aw))=ti/\c.length<=80000)(tW:C.length<=200000):
  zP 17 #[tv #[Z U (M.length:aw),tn G C.length fc],tn ao M.length cap] w (tt (mK M C)):=by
 obtain⟨D,hD⟩:=zE w.heap.size;obtain⟨W1,J⟩:=zE ((w.alloc (tA #[Z U (M.length:aw),tn G C.length fc] 48)).alloc (tA #[tn ao M.length cap] 50));have K:=EX J;have d:=vZ J hD;have u:=yo J hD;have hn:(0:aw)<=(M.length:aw)/\(M.length:aw)<=100000:=by omega
 have k0:=(rowAt d 0 rfl).1;have k1:=(rowAt d 1 rfl).1;have k2:=(rowAt u 0 rfl).1;have ua:=ae u;have HR:=zH (tJ (M.length:aw) B G C fc W1 hn (hC.below K) tS tW);have tE:=zH K;have vf:=zH J;have xj:=zH d;have xl:=zH u;have ub:=zH (hC.below K);have uc:=zH (hM.below K);have vh:=zH tS;have vm:=zH hl;have xo:=zH tW;have vp:((M.length:aw) != (M.length:aw))=tj:=by simp
 have tU:cg (∀{w2:World},aE W1.heap.size W1 w2->w2.cell? ⟨D,0,th⟩=tf (Z U (M.length:aw))/\w2.cell? ⟨D,1,th⟩=tf (tn G C.length fc)/\w2.cell? ⟨D+1,0,th⟩=tf (tn ao M.length cap)):=zH λh=>⟨(rowAt ((h.block D (ae d)).trans d) 0 rfl).1,(rowAt ((h.block D (ae d)).trans d) 1 rfl).1,(rowAt ((h.block (D+1) (ae u)).trans u) 0 rfl).1⟩
 clear hC hM tS J K d u;go_enter func17,ntmps17
 go_upto_region 1 with(fail)
 rw[vf.out]
 go_step3
 go_upto_region 3 with(go_at_call 20;refine HR.out.mono ?_;rintro e w2 ⟨rfl,R⟩;have vq:=(tU.out R).1;have vr:=(tU.out R).2.1;have ud:=(tU.out R).2.2;have f:=zH R;clear R k0 k1 k2)
 have ue:D+1<w2.heap.size:=cD ua f.out.size;have vt:=zH (ub.out.below f.out);have vu:=zH (uc.out.below f.out);have vx:=zH ud;have up:=zH ue;clear vq ud ub uc
 go_wp2_with fail
 go_step3
 go_wp2_with fail
 clear vr ua ue vp
 go_loopg [24] C.length (λm c wr=>∃k:bj,k<=C.length/\c= Z U (k:aw)/\m=C.length-k/\(∀j x,j<k->C[j]?=tf x->x.any (yg M)=ti)/\aE w2.heap.size w2 wr)
 case atStart=>exact⟨0,cM _,rfl,rfl,λ_ _ h=>fz h (nB _),aq _ _⟩
 case round=>
  obtain⟨k,hk,rfl,rfl,tG,hb⟩:=hrel
  by_cases vy:k<C.length
  ·obtain⟨x,A⟩:∃x,C[k]?=tf x:=⟨_,ap vy⟩
   have xp:(k:aw)<(C.length:aw):=by omega
   obtain⟨g,we,xr,rfl,ur,hg,o,_⟩:=(vt.out.below hb) k x A;have xt:=ur.2;obtain⟨h1,h2⟩:=vh.out x (ci A);have HX:=zH A;have wg:=zH tG;have HB:=zH hb;have wj:=zH o;have H1:=zH h1;clear A tG hb o h1 ur
   go_wp2_with fail
   go_loopw [30] (λc uv=>∃i:bj,i<=x.length/\c= Z U (i:aw)/\(∀j y,j<i->x[j]?=tf y->yg M y=tj)/\aE w2.heap.size w2 uv/\dX uv we x) (λc _=>x.length-(dp c).toNat)
   case atStart=>exact⟨0,cM _,rfl,λ_ _ h=>fz h (nB _),HB.out,wj.out⟩
   case round=>
    obtain⟨i,hi,rfl,tM,hb,o⟩:=hrel
    by_cases ux:i<x.length
    ·obtain⟨y,E⟩:∃y,x[i]?=tf y:=⟨_,ap ux⟩
     have xF:(i:aw)<(x.length:aw):=by omega
     obtain⟨b,xT,rfl,ya,vc⟩:=o.at_ (by intro e;subst e;simp at ux);have yb:=vc i y E;have vd:bH (M.length:aw) y=ti:=gn.1 H1.out y (ci E);have HL:=zH (Aj M (D+1) ao cap y wr (by rw[hb.cell (p:=⟨D+1,0,th⟩) up.out];exact vx.out) (cD up.out hb.size) (vu.out.below hb) vd vm.out);obtain⟨v,hv⟩:=zE (yg M y);rw[hv] at HL;have HV:=zH hv;have HY:=zH E;have wk:=zH tM;have tP:=zH hb;have wl:=zH o;clear hv E tM hb o vc vd;cases v with
     |true=>
      go_wp2_with (go_at_call 60;refine HL.out.mono ?_;rintro e w4 ⟨rfl,W⟩;have tR:=zH W;clear W)
      go_roundg (C.length-(k+1))
      case measure=>omega
      case rel=>
       refine⟨k+1,by omega,by go_num,rfl,λj z q t=> ?_,tP.out.trans (tR.out.mono tP.out.size)⟩
       by_cases e:j=k
       ·subst e
        rw[HX.out] at t;obtain rfl:=cy t;exact js.2 ⟨y,ci HY.out,HV.out⟩
       ·exact wg.out j z (by omega) t
     |false=>
      go_wp2_with (go_at_call 60;refine HL.out.mono ?_;rintro e w4 ⟨rfl,W⟩;have tR:=zH W;clear W)
      go_roundw
      case rel=>
       refine⟨i+1,by omega,by go_num,λj z q t=> ?_,tP.out.trans (tR.out.mono tP.out.size),wl.out.grow tR.out⟩
       by_cases e:j=i
       ·subst e
        rw[HY.out] at t;obtain rfl:=cy t;exact HV.out
       ·exact wk.out j z (by omega) t
      case measure=>simp[dp];omega
    ·have ws:i=x.length:=by omega
     subst ws;have tD:mK M C=tj:=by
      unfold mK;rw[lR];refine⟨x,ci HX.out, ?_⟩;rw[Bool.not_eq_true,j8];intro y E;obtain⟨j,q⟩:=List.getElem?_of_mem E;rw[tM j y (bo.1 q).1 q];exact Bool.false_ne_true
     have HE:cg (mK M C=tj/\aE w.heap.size w wr):=⟨tD,tE.out.trans ((f.out.trans (hb.mono f.out.size)).mono tE.out.size)⟩
     clear tD tM hb o;go_wp2
     try rw[ie]
     go_ret;exact⟨by rw[HE.out.1];rfl,HE.out.2⟩
  ·have xf:k=C.length:=by omega
   subst xf;have tD:mK M C=ti:=by
    unfold mK;rw[gn];intro x A;obtain⟨j,q⟩:=List.getElem?_of_mem A;exact tG j x (bo.1 q).1 q
   have HE:cg (mK M C=ti/\aE w.heap.size w wr):=⟨tD,tE.out.trans ((f.out.trans (hb.mono f.out.size)).mono tE.out.size)⟩
   clear tD tG hb;go_wp2
   try rw[ie]
   go_ret;exact⟨by rw[HE.out.1];rfl,HE.out.2⟩
theorem EP {p:Pg}{V:bp Ty}{I:bp fU}{s:Sl}{fA fC:bj}(h:KA p V I):
  gZ (ji p V I s fA fC)=0/\(ji p V I s fA fC).ptrs=[(0,0)]/\((ji p V I s fA fC).wants (jm (ji p V I s fA fC))).map m8=[[-1,-2],[1],[1]]:=by
 obtain⟨d,e,f,j,rfl,v,c0,x,c1,y,c2,z,c3,rfl⟩:=h;obtain⟨o,g,q,t⟩:=xe j;cases p;simp only at d e f g;subst d e f g;obtain⟨nm,u,tg,A,E⟩:=o;obtain⟨rfl,rfl⟩:u=ti/\tg=bS:=pp ..▸q;subst t;refine⟨by kernel_rfl,by kernel_rfl,by kernel_rfl⟩
theorem FV {w:World}{p:Pg}{V:bp Ty}{I:bp fU}{s:Sl}{fA fC:bj}(h:KA p V I)(u:(ji p V I s fA fC).inn w):pF w (ji p V I s fA fC):=by
 have t:=(EP (s:=s) (fA:=fA) (fC:=fC) h).2.1;obtain⟨z,A,E,v,rfl,f,c0,g,c1,o,c2,q,c3,rfl⟩:=h;obtain⟨G,y,J,K⟩:=xe v;have R:p.fs.length=1:=by rw[y];rfl
 refine⟨⟨u,by simp[ji],by simp[ji],λx d=> ?_,λx d=> ?_,λx d i hi=> ?_⟩,λx d i hi=> ?_,λx d=> ?_,λx d=> ?_,by simp[ji],by rw[t];decide,by rw[t];simp[ji,bK,mQ]⟩
 ·obtain rfl:x=Fg p:=by simpa[ji] using d
  show p.fs.length<=90000
  omega
 all_goals obtain rfl:x=mQ p _ _ s:=by simpa[ji] using d
 ·show([(ti,bS),bG].map CO).length<=90000
  decide
 ·have e:i∈([⟨12,0,0,0,0,f,c0⟩,⟨13,0,0,0,0,g,c1⟩,⟨1,1,0,0,0,o,c2⟩,⟨18,0,1,0,0,q,c3⟩]:bp fU).map fU.ins:=hi
  obtain⟨j,_,rfl⟩:=fL.1 e;exact cM _
 ·have e:i∈([⟨12,0,0,0,0,f,c0⟩,⟨13,0,0,0,0,g,c1⟩,⟨1,1,0,0,0,o,c2⟩,⟨18,0,1,0,0,q,c3⟩]:bp fU).map fU.ins:=hi
  simp only[li,oT,fW,pP,or_false] at e;rcases e with rfl|rfl|rfl|rfl<;>refine⟨?_, ?_, ?_, ?_⟩<;>(unfold bu fU.ins;dsimp only;omega)
 ·show([(ti,bS),bG].map CO).length<=400
  decide
 ·show(([⟨12,0,0,0,0,f,c0⟩,⟨13,0,0,0,0,g,c1⟩,⟨1,1,0,0,0,o,c2⟩,⟨18,0,1,0,0,q,c3⟩]:bp fU).map fU.ins).length<=400
  simp
theorem pI (w:World)(c d:dl cw)(t:fX)(o:Obj):((w.alloc (tA c t)).alloc o).setRow w.heap.size d=(w.alloc (tA d t)).alloc o:=by
 have h:=congrArg World.heap (World.setRow_alloc_new w c d t);unfold World.setRow World.alloc at*;simp only at h⊢;congr 1;rw[<-h];apply Array.ext
 ·simp
 ·intro i f j
  simp only[Array.getElem_modify,Array.getElem_push];simp at f
  by_cases e:w.heap.size=i
  ·subst e
   simp
  ·rw[bw e]
   by_cases g:i<w.heap.size
   ·simp[g,show i<w.heap.size+1 by omega,e]
   ·simp[show¬i<w.heap.size+1 by omega]
theorem nk {P:km}(w:World)(t:fX)(c d:dl cw)(o:Obj)(e:c.size=d.size)(f:∀v∈d.toList,v.oneCell'=ti):
  (dd ⟨w.heap.size,0,th⟩ d.toList 0).run P ((w.alloc (tA c t)).alloc o)= .ok () ((w.alloc (tA d t)).alloc o):=by
 rw[run_storeCells_from w.heap.size t d.toList 0 c _ (i8 _ _ _) (by simp[e]) f];simp[pI]
def G9 (m:Mo):Prop:=gZ m=0/\m.ptrs=[(0,0)]/\(m.wants (jm m)).map m8=[[-1,-2],[1],[1]]
theorem BP (w:World):fj am 52 #[tm CU] w λe w'=>∃m:Mo,G9 m/\pF w' m/\e= tB (.tuple #[tv #[tn m.sA m.ss.length m.sC,tn m.fA m.fs.length m.fC],tv #[Z U 0,Z U 0,Z U 0,Z U 0]])/\aE w.heap.size w w':=
 (yR w).mono λ_ _ ⟨_,_,_,_,_,_,h1,h2,h3,h4⟩=>⟨_,EP h1,FV h1 h3,h2,h4⟩
theorem Dw {w:World}{a b:cC fg}{n1 n2 c1 c2:bj}{o:Obj}:∀(c:dl cw),c.size=2->(dd ⟨w.heap.size,0,th⟩ [tn a n1 c1,tn b n2 c2] 0).run am ((w.alloc (tA c 25)).alloc o)= .ok () ((w.alloc (tA #[tn a n1 c1,tn b n2 c2] 25)).alloc o):=λc d=>
 nk w _ c #[tn a n1 c1,tn b n2 c2] o (by rw[d];rfl) (by simp[cn])
theorem Dx {w:World}{o:Obj}:∀(c:dl cw),c.size=4->(dd ⟨w.heap.size+1,0,th⟩ [Z U 0,Z U 0,Z U 0,Z U 0] 0).run am ((w.alloc o).alloc (tA c 113))= .ok () ((w.alloc o).alloc (tA #[Z U 0,Z U 0,Z U 0,Z U 0] 113)):=λc d=>by
 have:=mR (w:=w.alloc o) c d
 rwa [World.size_alloc] at this
theorem Dy {w:World}{N:aw}{a:cC fg}{n k:bj}:∀(c:dl cw),c.size=2->(dd ⟨w.heap.size,0,th⟩ [Z U N,tn a n k] 0).run am (w.alloc (tA c 48))= .ok () (w.alloc (tA #[Z U N,tn a n k] 48)):=λc d=>
 cr (P:=am) w 48 c #[Z U N,tn a n k] (by show _=tf 2;kernel_rfl) d (by simp[cn])
theorem mM (w:World):zP 14 #[] w (tt ti):=by
 have HT:=zH (BP w);go_enter func14,ntmps14
 go_upto_region 2 with(go_at_call 52;refine HT.out.mono ?_;rintro e w2 ⟨m,hA,hW,rfl,tU⟩;have vh:=Dw (w:=w2) (a:=m.sA) (b:=m.fA) (n1:=m.ss.length) (n2:=m.fs.length) (c1:=m.sC) (c2:=m.fC) (o:= tA #[Z U 0,Z U 0,Z U 0,Z U 0] 113);have vm:=Dx (w:=w2) (o:= tA #[tn m.sA m.ss.length m.sC,tn m.fA m.fs.length m.fC] 25);have tW:=zH tU;have HA:=zH hA;have g:=zH hW;clear tU hA hW)
 obtain⟨D,hD⟩:=zE w2.heap.size;obtain⟨f,v⟩:=zE ((w2.alloc (tA #[tn m.sA m.ss.length m.sC,tn m.fA m.fs.length m.fC] 25)).alloc (tA #[Z U 0,Z U 0,Z U 0,Z U 0] 113));have tE:=EX v;have A:=vZ v hD;rw[v,hD];have vp:cg (fj am 15 #[tv #[tn m.sA m.ss.length m.sC,tn m.fA m.fs.length m.fC]] f λe w'=>∃T Bb MB lv at_ tg s Y,e= tB (.tuple #[tr (tf ⟨T,0,th⟩),Z U 0])/\Wn T Bb MB lv [(0,0)] 2 (aJ 0 [(0,0)]) [[-1,-2],[1],[1]] Y at_ (f.heap.size+1) tg s w'/\aE f.heap.size f w'):=by
  obtain⟨h1,h2,h3⟩:=HA.out;refine(oH m f ⟨iJ.below g.out.ri tE,g.out.wf,g.out.nv,g.out.ni,g.out.nf,g.out.np,g.out.nt⟩ h1).mono ?_;rintro e w' ⟨T,Bb,MB,lv,at_,he,tg,s,t,hb⟩;rw[h2,h3] at t;refine⟨T,Bb,MB,lv,at_,tg,s,_,he,t, ?_⟩;have vq:aE f.heap.size f (f.alloc (tA m.cells 25)):=(aq _ _).alloc (cd _) _;exact vq.trans (hb.mono (iu _))
 obtain⟨c0,c1⟩:f.cell? ⟨D,0,th⟩=tf (tn m.sA m.ss.length m.sC)/\f.cell? ⟨D,1,th⟩=tf (tn m.fA m.fs.length m.fC):=⟨(rowAt A 0 rfl).1,(rowAt A 1 rfl).1⟩
 have vr:=ae A;have ua:cg (aE w.heap.size w f):=tW.out.trans (tE.mono tW.out.size);clear vh vm tE A hD v
 go_upto_region 3 with(go_at_call 15;refine vp.out.mono ?_;rintro e w4 ⟨T,Bb,MB,lv,at_,tg,s,Y,rfl,t,ub⟩;have vt:=zH t;have vu:=zH (uW w4 t (by decide));have uc:=zH ub;clear t ub)
 clear c0 c1 vr
 go_upto_region 4 with(go_at_call 16;refine vu.out.mono ?_;rintro e w5 ⟨h,j,rfl,ud,ue⟩;have vx:=Dy (w:=w5) (N:=2) (a:=h) (n:=3) (k:=j);have tG:=zH ue;have vy:=zH ud;clear ue ud)
 obtain⟨E,hE⟩:=zE w5.heap.size;obtain⟨d,G⟩:=zE (w5.alloc (tA #[Z U 2,tn h 3 j] 48));have J:=gy G;have u:d.heap[E]?=tf (tA #[Z U 2,tn h 3 j] 48 (0,0)):=by rw[<-G,<-hE];exact alloc_at _ _
 rw[G,hE];have tM:=(vt.out.grow tG.out).grow J;have hF:aJ 0 [((0:aw),(0:aw))] (0,0)=1:=by kernel_rfl
 have up:=zH (lZ d tM 0 0 (by unfold bu;omega) (by unfold bu;omega));have tP:=zH (pG d tM 0 0 (by unfold bu;omega) (by unfold bu;omega) (by rw[hF];decide));rw[hF] at up tP;rw[bw (by decide),show(1:aw)+1=2 from rfl] at tP;have we:=zH (vy.out.below J);have ur:=zH u;have uv:cg (aE w.heap.size w d):=ua.out.trans ((uc.out.trans ((tG.out.trans (J.mono tG.out.size)).mono uc.out.size)).mono ua.out.size);obtain⟨e0,e1⟩:d.cell? ⟨E,0,th⟩=tf (Z U 2)/\d.cell? ⟨E,1,th⟩=tf (tn h 3 j):=⟨(rowAt u 0 rfl).1,(rowAt u 1 rfl).1⟩
 have tR:=ae u;have ux:cg (∀(x y:ml)(W:World),aE d.heap.size d W->zP 17 #[tv #[Z U 2,tn h 3 j],tn (tf ⟨W.heap.size,0,th⟩) 2 2] (W.alloc (tA #[tt x,tt y] 4)) (tt (mK [x,y] [[-1,-2],[1],[1]]))):=by
  intro x y W hb;have wg:aE W.heap.size W (W.alloc (tA #[tt x,tt y] 4)):=(aq _ _).alloc (cd _) _;have vc:(W.alloc (tA #[tt x,tt y] 4)).heap[W.heap.size]?=tf (tA #[tt x,tt y] 4 (0,0)):=alloc_at _ _;refine BO [x,y] _ h _ [[-1,-2],[1],[1]] j 2 _ ((we.out.below hb).below wg) (λk z q=>⟨W.heap.size,0,rfl,by simp, ?_⟩) (by simp) (show∀c∈([[-1,-2],[1],[1]]:bp (bp aw)),c.all (bH ((2:bj):aw))=ti/\c.length<=80000 by decide) (by decide)
  match k,q with
  |0,q=>
   obtain rfl:x=z:=by simpa using q
   exact(rowAt vc 0 rfl).1
  |1,q=>
   obtain rfl:y=z:=by simpa using q
   exact(rowAt vc 1 rfl).1
  |k+2,q=>simp at q
 clear vx J u tM hE G hF
 go_wp2_with (first|(go_at_call 24;refine up.out.mono ?_;rintro e w7 ⟨rfl,rfl⟩)|(go_at_call 25;refine tP.out.mono ?_;rintro e w7 ⟨rfl,rfl⟩))
 refine(ux.out ti tj d (aq _ _)).mono ?_;rintro e K ⟨rfl,vd⟩;have tS:aE d.heap.size d K:=((aq _ _).alloc (cd _) _).trans (vd.mono (by simp));have R:=zH tS;have tD:=(tS.block E (ae ur.out)).trans ur.out;clear e0 e1 tR vd;obtain⟨e0,e1⟩:K.cell? ⟨E,0,th⟩=tf (Z U 2)/\K.cell? ⟨E,1,th⟩=tf (tn h 3 j):=⟨(rowAt tD 0 rfl).1,(rowAt tD 1 rfl).1⟩
 have tR:=ae tD;clear tD tS;rw[show mK [ti,tj] [[-1,-2],[1],[1]]=ti by kernel_rfl]
 go_wp2_with fail
 refine(ux.out tj tj K R.out).mono ?_;rintro e w9 ⟨rfl,vf⟩;have wj:cg (aE d.heap.size d w9):=(R.out.alloc R.out.size _).trans (vf.mono (by have:=R.out.size;simp;omega));rw[show mK [tj,tj] [[-1,-2],[1],[1]]=tj by kernel_rfl];clear vf e0 e1 tR;go_wp2;go_ret;exact⟨rfl,uv.out.trans (wj.out.mono uv.out.size)⟩
section
variable {F:Fence}{n:bj}{P:km}{ops:dl kj}{md:ii}{C:World->Prop}
theorem tK {o:kj}{a:Act}{K:Act->Prop}{z:Act->World->Prop}{A:Exit->Act->World->Prop}{w:World}(q:∀c,o.op≠ .defer c)(j:C w)(h:∀a w',C w'->K a->z a w')
  (E:o.askedIn F P a C)(G:o.quietIn F n P a C K):o.wpIn F n P a w z A:=by
 obtain⟨v,J,t⟩:=G;have d:=J w j;unfold Oper.quietAtIn at d;unfold Oper.wpIn;refine⟨E w j, ?_⟩;rw[Oper.semAt_eq _ _ _ q];generalize (execOp a.eval o).run P w=r at*;cases r with
 |ok x w'=>
  cases x<;>simp only[Oper.quietUponIn] at d<;>simp only[Oper.uponIn]
  case value u=>
   obtain⟨g,y⟩:=d;rw[g,y];exact h _ _ j t
  case skip=>
   obtain⟨g,y⟩:=d;rw[g,<-y];exact h _ _ j t
  case enter f args=>
   obtain⟨g,q,R⟩:=d;rw[g];exact⟨q,R.mono λe w'' ⟨W,hw''⟩=>by subst W;exact h _ _ hw'' t⟩
 |halt x w'=>simp only[Oper.quietUponIn] at d
theorem pJ {i:bj}{a:Act}{K:Act->Prop}{g:Act->World->Prop}{t:Exit->Act->World->Prop}{w:World}(u:∀(j:bj)(o:kj),ops[j]?=tf o->∀c,o.op≠ .defer c)(hC:C w)(h:∀a w',C w'->K a->g a w')
  (d:qOpIn F n P ops C i K a):wpOpIn F n P ops t i g a w:=by
 unfold qOpIn at d;unfold wpOpIn
 split
 ·rename_i e;simp only[e] at d;exact h _ _ hC d
 ·rename_i o e
  simp only[e] at d;obtain⟨q,d⟩:=d
  split
  ·rename_i f;simp only[f,lk] at d;exact tK (u _ _ e) hC h q d
  ·rename_i f;simp only[f] at d;exact⟨q w hC,h _ _ hC d⟩
theorem jD {Q:Act->Prop}{f:Exit->Act->World->Prop}(g:∀(j:bj)(o:kj),ops[j]?=tf o->∀c,o.op≠ .defer c)(e:∀a w,C w->Q a->f .normal a w):∀(fuel:bj)(listed:dl ml)(a:Act)(w:World),C w->
  wpAnyQIn F n P md ops C Q fuel listed a->wpAnyIn F n P md ops f fuel listed a w
 |0,_,_,_,d,h=>⟨h.1,e _ _ d h.2⟩
 |fuel+1,_,_,_,d,h=>⟨λh0=>e _ _ d (h.1 h0),λi hi=>pJ g d (λq w' t=>jD g e fuel _ q w' t) (h.2 i hi)⟩
def yh (ops:dl kj):ml:=ops.all λo=>match o.op with| .defer _=>tj|_=>ti
theorem yj (h:yh ops=ti):∀(j:bj)(o:kj),ops[j]?=tf o->∀c,o.op≠ .defer c:=λj o d c e=>by
 unfold yh at h;rw[Array.all_eq_true] at h;obtain⟨f,rfl⟩:=br.1 d;have:=h j f;rw[e] at this;simp at this
theorem nu {id:bj}{Q:Exit->Act->World->Prop}{a:Act}{w:World}{l:bp kj}(f:yh l.toArray=ti)(g:P.follows .mixedOrders=ti)(e:rx .any l.toArray=ti)
  (h:wpQuietIn F n P l.toArray (λw'=>∃n,w'=w.drewN n) (λd=>∀w',(∃n,w'=w.drewN n)->Q .normal d w') l a):(Code.region id l.toArray ti).wpIn F n P Q a w:=by
 simp only[rx,ej] at e;refine wpIn_region_any g (jD (C:=λw'=>∃n,w'=w.drewN n) (Q:=λd=>∀w',(∃n,w'=w.drewN n)->Q .normal d w') (yj f) (λ_ w' j h=>h w' j) _ _ _ _ ⟨1,rfl⟩ ?_);have:=wpAnyQIn_lex (F:=F) (n:=n) (P:=P) (C:=λw'=>∃n,w'=w.drewN n) (Q:=λd=>∀w',(∃n,w'=w.drewN n)->Q .normal d w') (md:= .any) e.1 l 0 (fk l.toArray.size tj) a (by simp) (by simpa using e.2) h;simpa using this
end
theorem pK {P:km}{α:Type}{g:Operand}{q:dl Tmp}{assign body:Code}{R:Exit->Act->World->Prop}{id:bj}{a:Act}{w:World}{gf:bj}{lb:dl cw}{fn:Func}{G:Code}
  (J:a.eval g= .func (.func gf) #[] lb)(hf:P.funcs[gf]?=tf fn)(hname:(fn.name=="runtime.NumGoroutine")=tj)(hb:fn.body=tf G)
  {u:α->dl cw}{xs:bp α}{Rd:bj->Prop}{w0:World}(hit:Iter P gf lb u xs Rd w0)(K:aE w0.heap.size w0 w)(hRd:∀k,Rd k->k<w.heap.size)(tD:∀x,(u x).size=q.size)
  (I:bp α->(bj->Prop)->World->Prop)(f:bp α->(bj->Prop)->World->Prop)
  (hI:∀d C W e,I d C W->Ext (λk=>w.heap.size<=k/\¬C k) W e->I d C e)
  (hIC:∀d C W,I d C W->∀k,C k->k<W.heap.size/\¬Rd k)
  (hIx:∀d C W e,f d C W->Ext (λk=>w.heap.size<=k/\¬C k) W e->f d C e)
  (C0:bj->Prop)(h0:I [] C0 w)
  (hround:∀(l:bj)(d:bp α)(x:α)(C:bj->Prop)(W:World),w.heap.size<=l->I d C W->(d++[x])<+:xs->
   assign.wpIn (gx.inRound l) 0 P (Exit.then (λa₁ y=>∃j:bj->Prop,(∀k,j k->C k\/W.heap.size<=k)/\I d j y/\Ext C W y/\
    ∀o,I d j o->Ext (·=l) y o->body.wpIn (gx.inRound l) 0 P (BU I (λc d C W=>c= .exit id/\f d C W) j o (d++[x])) a₁ o) (λ_ _ _=>lj))
    {tmps:=(q.zip (u x)).foldl (λt (p,v)=>t.setIfInBounds p v) a.tmps,defers:=[]} W)
  (hout:∀(D:bj)(d:bp α)(C:bj->Prop)(W:World),w.heap.size<=D->¬C D->d<+:xs->((d=xs/\I d C W)\/f d C W)->W.heap[D]?=tf (.deferred (tf []))->R .normal {a with defers:=mark D::a.defers} W):
  (Code.rangeFunc g q assign body).wp P (cQ id R) a w:=by
 refine gD J hf hname hb hit K hRd tD I (λc d C W=>c= .exit id/\f d C W) hI hIC (λc d C W e h z=>⟨h.1,hIx d C W e h.2 z⟩) C0 h0 hround ?_ ?_
 ·intro D C W A hC hi E
  exact hout D xs C W A hC List.prefix_rfl (.inl ⟨rfl,hi⟩) E
 ·rintro D c d C W A hC hp ⟨rfl,z⟩ E
  refine wp_exit ?_
  show(if id=id then R .normal _ _ else _)
  rw[cH rfl];exact hout D d C W A hC hp (.inr z) E
theorem Cu {α β:Type}{f:α->β}{cells:β->dl cw}{d:bj}{w:World}{B:bj}{ao:cC fg}{xs:bp α}(h:aH (λa=>cells (f a)) d w B ao xs):aH cells d w B ao (xs.map f):=by
 intro j;obtain⟨b,o,q,t,v⟩:=h (λe=>j (by rw[e];rfl));refine⟨b,o,q,t,λi y g k u z=> ?_⟩;rw[qs] at g;obtain⟨x,A,rfl⟩:=gE.1 g;exact v i x A k u z
def Mo.lightW (m:Mo):Prop:=Au (m.ss.map St.s) (m.fs.map Fn.c)
def Mo.shortW (m:Mo):Prop:=m.fs.length<=12/\m.lightW
theorem yl (w:World)(m:Mo)(d:m.inn w):fj am 70 #[tv m.cells] w (ru w w.heap.size m.lightW):=by
 have h:=wh w m.sA m.fA m.sC m.fC (m.ss.map St.s) (m.fs.map Fn.c) (Cu d.srow) (Cu d.frow) (by
  intro c e;obtain⟨f,hf,rfl⟩:=fL.1 e;exact(d.fin f hf).code.row) (by
  intro c e x g;obtain⟨f,hf,rfl⟩:=fL.1 e;exact((d.fin f hf).code.args x g).1) (by have:=d.ns;unfold du at this;simpa using this) (by have:=d.nf;unfold du at this;simpa using this)
 simp only[eq] at h;exact h
theorem uY (w:World)(m:Mo)(q:m.inn w):fj am 27 #[tv m.cells] w (ru w w.heap.size m.shortW):=by
 obtain⟨M,K⟩:=zE m;have R:=zH K;have tP:=zH q;have W:=q.nf;have tD:=zH q.frow;clear q K;obtain⟨sA,sC,fA,fC,t,fs⟩:=m;simp only at W tD;simp only[Mo.cells];obtain⟨N,g⟩:=zE w.heap.size;obtain⟨W1,u⟩:=zE (w.alloc (tA #[tn sA t.length sC,tn fA fs.length fC] 25));have v:W1.heap[N]?=tf (tA #[tn sA t.length sC,tn fA fs.length fC] 25 (0,0)):=by rw[<-u,<-g];exact alloc_at _ _
 have c1:W1.cell? ⟨N,0,th⟩=tf (tn sA t.length sC):=(bt _ _ _ _ _ _ v).trans rfl;have c2:W1.cell? ⟨N,1,th⟩=tf (tn fA fs.length fC):=(bt _ _ _ _ _ _ v).trans rfl;have y:=gy u;have A:=zH (yl W1 M (by rw[<-R.out];exact tP.out.below y));rw[<-R.out] at A;simp only[Mo.cells] at A;have d:=zH y;have tR:=zH u;have ua:=ae v;clear v y u;unfold du at W;go_enter func27,ntmps27
 go_upto_region 1 with(fail)
 rw[tR.out]
 go_upto_region 3 with(fail)
 go_loopw [3,4] (λz c wr=>wr=W1/\∃(j:bj) (x:aw),j<=fs.length/\j<=20/\c= Z U (j:aw)/\z= Z U x) (λ_ c _=>20-(dp c).toNat)
 case atStart=>exact⟨rfl,0,0,cM _,by omega,rfl,rfl⟩
 case round=>
  obtain⟨rfl,j,x,hj,ub,rfl,rfl⟩:=hrel;have o:12<fs.length->∀b:ml,b=tj->ru w w.heap.size (Mo.shortW ⟨sA,sC,fA,fC,t,fs⟩) (tB (tt b)) wr:=λ_ b hb=>⟨b,rfl,λh=>by rw[hb] at h;exact fz h (by decide),d.out⟩
  by_cases E:j<fs.length
  ·have tS:(j:aw)<(fs.length:aw):=by omega
   by_cases uc:j<20
   ·have ud:(j:aw)<20:=by omega
    obtain⟨f,hf⟩:∃f,fs[j]?=tf f:=⟨_,ap E⟩
    obtain⟨b,tU,rfl,hb,tE⟩:=tD.out (by intro e;rw[e] at E;simp at E);have q7:wr.cell? ⟨b,tU+j*8+7,th⟩=tf (tn f.c.insA f.c.ins.length f.c.insC):=by rw[d.out.cell (p:=⟨b,_,th⟩) hb];exact tE j f hf 7 _ rfl
    clear tE hf o;go_wp2;go_roundw
    case rel=>exact⟨trivial,j+1,_,by omega,by omega,by go_num,rfl⟩
    case measure=>simp[dp];omega
   ·have G:decide (fs.length<=12)=tj:=cm (by omega)
    have ue:decide ((j:aw)<20)=tj:=cm (by omega);have J:decide ((fs.length:aw)<=12)=tj:=cm (by omega);go_wp2;go_ret;have:=o (by omega) _ rfl
    first|exact this|(rw[<-g];exact this)
  ·have tS:decide ((j:aw)<(fs.length:aw))=tj:=cm (by omega)
   by_cases G:fs.length<=12
   ·by_cases h4:x<=400
    ·clear o
     have J:(fs.length:aw)<=12:=by omega
     go_wp2_with (go_at_call 70;refine A.out.mono ?_;rintro e w2 ⟨b,rfl,hb,tG⟩;have tW:=zH hb;have tM:=zH tG;clear hb tG)
     go_ret;exact⟨b,by cases b<;>rfl,λhb=>⟨G,tW.out hb⟩,by first|exact d.out.trans (tM.out.mono d.out.size)|rw[<-g];exact d.out.trans (tM.out.mono d.out.size)⟩
    ·have up:decide (x<=400)=tj:=cm h4
     have J:(fs.length:aw)<=12:=by omega
     clear o;go_wp2;go_ret;exact⟨tj,rfl,λh=>fz h (by decide),by first|exact d.out|rw[<-g];exact d.out⟩
   ·have ur:decide (fs.length<=12)=tj:=cm G
    have J:decide ((fs.length:aw)<=12)=tj:=cm (by omega);go_wp2;go_ret;have:=o (by omega) _ rfl
    first|exact this|(rw[<-g];exact this)
theorem uZ (w:World)(m:Mo)(t:m.inn w):fj am 12 #[tv m.cells] w (ru w w.heap.size m.shortW):=by
 obtain⟨M,R⟩:=zE m;have W:=zH R;have tP:=zH t;have tD:=t.nf;have tE:=zH t.frow;clear t R;obtain⟨sA,sC,fA,fC,A,fs⟩:=m;simp only at tD tE;simp only[Mo.cells];obtain⟨N,g⟩:=zE w.heap.size;obtain⟨W1,u⟩:=zE (w.alloc (tA #[tn sA A.length sC,tn fA fs.length fC] 25));have v:W1.heap[N]?=tf (tA #[tn sA A.length sC,tn fA fs.length fC] 25 (0,0)):=by rw[<-u,<-g];exact alloc_at _ _
 have c1:W1.cell? ⟨N,0,th⟩=tf (tn sA A.length sC):=(bt _ _ _ _ _ _ v).trans rfl;have c2:W1.cell? ⟨N,1,th⟩=tf (tn fA fs.length fC):=(bt _ _ _ _ _ _ v).trans rfl;have E:=gy u;have y:=zH (uY W1 M (by rw[<-W.out];exact tP.out.below E));rw[<-W.out] at y;simp only[Mo.cells] at y;have d:=zH E;have tR:=zH u;have tW:=ae v;clear v E u;unfold du at tD;go_enter func12,ntmps12
 go_upto_region 1 with(fail)
 rw[tR.out]
 go_upto_region 3 with(fail)
 go_loopw [3,4] (λz c wr=>wr=W1/\∃(j:bj) (x:aw),j<=fs.length/\j<=20/\c= Z U (j:aw)/\z= Z U x) (λ_ c _=>20-(dp c).toNat)
 case atStart=>exact⟨rfl,0,0,cM _,by omega,rfl,rfl⟩
 case round=>
  obtain⟨rfl,j,x,hj,ua,rfl,rfl⟩:=hrel
  by_cases G:j<fs.length/\j<20
  ·have tG:(j:aw)<(fs.length:aw):=by omega
   have ub:(j:aw)<20:=by omega
   obtain⟨f,hf⟩:∃f,fs[j]?=tf f:=⟨_,ap G.1⟩
   obtain⟨b,tS,rfl,hb,tM⟩:=tE.out (by intro e;rw[e] at G;simp at G);have q2:wr.cell? ⟨b,tS+j*8+2,th⟩=tf (tn f.c.varsA f.c.nvars f.c.varsC):=by rw[d.out.cell (p:=⟨b,_,th⟩) hb];exact tM j f hf 2 _ rfl
   clear tM hf;go_wp2;go_roundw
   case rel=>exact⟨trivial,j+1,_,by omega,by omega,by go_num,rfl⟩
   case measure=>simp[dp];omega
  ·by_cases uc:j<fs.length
   ·have tG:(j:aw)<(fs.length:aw):=by omega
    have ud:decide ((j:aw)<20)=tj:=cm (by omega)
    by_cases J:x<=200
    ·go_wp2_with (go_at_call 27;refine y.out.mono ?_;rintro e w2 ⟨b,rfl,hb,o⟩;have K:=zH hb;have q:=zH o;clear hb o)
     go_ret;exact⟨b,by cases b<;>rfl,K.out,by first|exact d.out.trans (q.out.mono d.out.size)|rw[<-g];exact d.out.trans (q.out.mono d.out.size)⟩
    ·have tU:decide (x<=200)=tj:=cm J
     go_wp2;go_ret;exact⟨tj,rfl,λh=>fz h (by decide),by first|exact d.out|rw[<-g];exact d.out⟩
   ·have tG:decide ((j:aw)<(fs.length:aw))=tj:=cm (by omega)
    by_cases J:x<=200
    ·go_wp2_with (go_at_call 27;refine y.out.mono ?_;rintro e w2 ⟨b,rfl,hb,o⟩;have K:=zH hb;have q:=zH o;clear hb o)
     go_ret;exact⟨b,by cases b<;>rfl,K.out,by first|exact d.out.trans (q.out.mono d.out.size)|rw[<-g];exact d.out.trans (q.out.mono d.out.size)⟩
    ·have tU:decide (x<=200)=tj:=cm J
     go_wp2;go_ret;exact⟨tj,rfl,λh=>fz h (by decide),by first|exact d.out|rw[<-g];exact d.out⟩
theorem tL {w:World}:∀(fs:bp Fn)(k:bj),(∀f∈fs,f.inn w)->(bU k fs).length+bK fs<=dH (fs.map Fn.c)+fs.length
 |[],_,_=>by simp[bU,bK]
 |x::r,k,h=>by
  have d:=tL r (k+1) (λf hf=>h f (by simp[hf]));have e:(cK (k:aw) x).length<=x.vs.length+1:=BM;have g:=(h x (by simp)).nvars
  show(cK (k:aw) x++bU (k+1) r).length+(x.c.ins.length+bK r)<=x.c.ins.length+x.c.nvars+dH (r.map Fn.c)+(r.length+1)
  rw[bm];omega
theorem Dz {w:World}{m:Mo}(h:m.inn w)(j:m.shortW)(q:∀g∈m.fs,∀i∈g.c.ins,bu i.d/\bu i.a/\bu i.b/\bu i.f):pF w m:=by
 obtain⟨t,u,v,x,y,z⟩:=j;rw[eq] at u v;have A:=tL m.fs 0 h.fin;have o:∀f∈m.fs,f.c.light:=λf hf=>y f.c (fL.2 ⟨f,hf,rfl⟩);have E:m.ptrs.length+bK m.fs<=1212:=by
  show(bU 0 m.fs).length+_<=_
  omega
 refine⟨⟨h,by omega,by omega,λs j=> ?_,λf hf=> ?_,λf hf i hi=> ?_⟩,q,λf hf=> ?_,λf hf=>(o f hf).1,by omega,by omega, ?_⟩
 ·have e:=(x s.s (fL.2 ⟨s,j,rfl⟩)).1
  rw[(h.sin s j).nf] at e;omega
 ·have e:=(o f hf).2.1
  rw[(h.fin f hf).nvars] at e;omega
 ·exact((o f hf).2.2.2.2 i hi).1
 ·have e:=(o f hf).2.1
  rw[(h.fin f hf).nvars] at e;exact e
 ·have e:m.ptrs.length*m.fs.length<=1212*12:=Nat.mul_le_mul (by omega) t
  omega
end Go.Proofs.YtjomgckjhcfbgaaGreat
