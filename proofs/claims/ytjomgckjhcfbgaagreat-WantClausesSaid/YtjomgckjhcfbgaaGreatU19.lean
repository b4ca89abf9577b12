/- Walks. -/
import Derived.Test.YtjomgckjhcfbgaaGreatU6
import Derived.Test.YtjomgckjhcfbgaaGreatU18
set_option maxRecDepth 100000
set_option maxHeartbeats 64000000
set_option linter.all false
namespace Go.Proofs.YtjomgckjhcfbgaaGreat
open Go.RowKit
open Go.Proofs.Tryz renaming prog→am,underlying46→rn
open _root_.List renaming getElem?_eq_getElem→ap,getElem?_eq_some_iff→bl,length_append→bo,mem_of_getElem?→cd,take_length→cR,mem_singleton→cU,map_append→dp,length_map→dy,length_take→ee,append_nil→ej,append_assoc→eq,flatMap_cons→fW,mem_cons→gh,mem_map→gi,all_eq_true→gA,getElem?_append_right→hZ,cons_append→ij,take_append_drop→ke,any_eq_true→kh,mem_of_mem_take→kA,any_eq_false→lx,take_zero→lz,length_pos_iff→ms,map_cons→mA,getElem?_append_left→mB,all_eq_false→m6,sum_append→oe,getD_eq_getElem?_getD→ox,map_nil→pm,getElem?_append→rh,getElem?_map→rm,not_mem_nil→sB
open Go.RowKit.Below renaming refl→aq,heap_alloc→cJ
open _root_ renaming Int→aw,Nat→bh,List→bj,if_neg→bx,decide_eq_false→cv,Option→cG,if_pos→cI,decide_eq_true→cV,beq_false_of_ne→ef,Array→eA,absurd→fL,beq_self_eq_true→iS,False→me,Bool→mm,decide_eq_true_eq→oE
open Go.RowKit renaming Below→aE,Hid→cj,intOf→de
open Go renaming heap_setCell_same→bk,cell_of_row→bw,run_storeCells_new→cx,Value→cA,storeCells→dt,bodyPost_ret→er,maxLen→eC,results_cell_row→fk,Addr→fS,Calls→ge,TypeId→gt,below_drewN→hU,heap_alloc2_old→kp,info_parts→kB,Program→lr
open _root_.Nat renaming le_refl→cg,lt_of_lt_of_le→cH,zero_add→cL,zero_le→cN,le_trans→eJ,min_eq_left→gR,le_succ→i5,add_zero→ki,not_lt_zero→oR
open Go.Value renaming slice→ci,oneCell'→ct,ownBlock→et,string→tS,slice→tU,pointer→tW,bool→ua,agg→ub,int→Z
open _root_.Option.some renaming inj→cE
open Go.Addr renaming add_lit→cY
open Go.Exit renaming inBlock→dk,noGoto_ret→ml
open Go.IntKind renaming i64→dT,signed→ep,wrap→eK,bits→eL,i64→U
open _root_.Prod renaming fst→eN,snd→fh
open _root_.Bool renaming and_eq_true→fj,eq_iff_iff→tf,true→tP,false→tR
open Go.Value.slice renaming injEq→fm
open _root_.Option renaming map_eq_some_iff→ip,some→tG,none→tM
open Go.Instr renaming lookup→nr
open _root_.Prod.mk renaming injEq→qs
open Go.Ending renaming returned→qt,returned→ud
open Go.Obj renaming cells→uc
open Tryz
structure qp (w:World)(m:Mo):Prop where
 ri:iG w m
 wf:∀g∈m.fs,∀i∈g.c.ins,bN i.d/\bN i.a/\bN i.b/\bN i.f
 nv:∀g∈m.fs,g.vs.length<=400
 ni:∀g∈m.fs,g.c.ins.length<=400
 nf:m.fs.length<=60
 np:m.ptrs.length<=20000
 nt:m.ptrs.length*m.fs.length+124*aO m.fs+1000<=1000000
theorem Bl {g:Fn}{w:World}:∀(c:eA cA),c.size=8->(dt ⟨w.heap.size,0,tM⟩ g.c.cells.toList 0).run am (w.alloc (uc c 38))= .ok () (w.alloc (uc g.c.cells 38)):=λc d=>
 cx (P:=am) w 38 c g.c.cells (by show _=tG 8;kernel_rfl) d (by simp[dx.cells,ct])
theorem xg:∀(l d:bj Fn)(f:bh),(bY f l).length<=(bY f (l++d)).length
 |[],d,f=>by simp[bY]
 |x::r,d,f=>by
  rw[ij];unfold bY;rw[bo,bo];have:=xg r d (f+1);omega
theorem mf {fs:bj Fn}(j:bh):(bY 0 (fs.take j)).length<=(bY 0 fs).length:=by
 have h:=xg (fs.take j) (fs.drop j) 0;rw[ke] at h;exact h
theorem uj {fs:bj Fn}{j:bh}{x:aw×aw}(h:x∈bY 0 (fs.take j)):x.1<(j:aw):=by
 obtain⟨k,g,d,e⟩:=jl.1 h;rw[om e];have:=(bl.1 d).1;rw[ee] at this;omega
theorem iG.below {w w':World}{m:Mo}(h:iG w m)(d:aE w.heap.size w w'):iG w' m:=⟨h.mo.below d,h.sl,h.fl,h.fd,h.vl,h.al⟩
theorem Gi {w g:World}{D B:bh}(e:w.heap.size=D)(z:B<=D)(f:((w.alloc (uc #[Z U 0,tU tM 0 0] 191)).alloc (.map #[] 0)).alloc (uc #[tW (tG ⟨D,0,tM⟩),tU tM 0 0,.map (tG (D+1)),tU tM 0 0,Z U 0,Z U 0] 123)=g):
  Wn (D+2) D (D+1) (tM,0) [] (2*(([]:bj (aw×aw)).length:aw)) (aG 0 []) [] [] (0,0) B (λk=>if k=D+2 then 1 else if k=D then 2 else if k=D+1 then 3 else 0) ⟨tM,0,tM,0,[]⟩ g:=by
 have j:g.heap.size=D+3:=by rw[<-f];simp[e]
 have A:aE w.heap.size w g:=by rw[<-f];exact(((aq _ _).alloc (cg _) _).alloc (by simp) _).alloc (by simp;omega) _
 have E:=e;have o:mR ((w.alloc (uc #[Z U 0,tU tM 0 0] 191)).alloc (.map #[] 0)) (D+1) 0 (λ_=>0):=by
  have:=mR.made (w.alloc (uc #[Z U 0,tU tM 0 0] 191));rw[show(w.alloc (uc #[Z U 0,tU tM 0 0] 191)).heap.size=D+1 by simp[e]] at this;exact this
 refine⟨?_, ?_, ?_,World.ownsRow_nil _ _ _ _,World.ownsRow_nil _ _ _ _,World.ownsRow_nil _ _ _ _,⟨rfl,λk c q=>by simp at q⟩,by simp,by simp,by simp,λk d=>by simp[et] at d,λk d=>by simp[et] at d,λk d=>by simp[et] at d,λk d=> ?_,by simp,by simp,by simp⟩
 ·rw[<-f]
  have:=alloc_at ((w.alloc (uc #[Z U 0,tU tM 0 0] 191)).alloc (.map #[] 0)) (uc #[tW (tG ⟨D,0,tM⟩),tU tM 0 0,.map (tG (D+1)),tU tM 0 0,Z U 0,Z U 0] 123);have t:((w.alloc (uc #[Z U 0,tU tM 0 0] 191)).alloc (.map #[] 0)).heap.size=D+2:=by simp[e]
  rw[t] at this;exact this
 ·rw[<-f]
  refine(cJ _ _ D (by simp;omega)).trans ((cJ _ _ D (by simp;omega)).trans ?_);rw[<-e];exact alloc_at _ _
 ·have:(aG 0 ([]:bj (aw×aw)))=λ_=>0:=by funext x;rfl
  rw[this,<-f];exact o.ext (Ext.of_below_size (M:=λ_=>me) ((aq _ _).alloc (cg _) _)) (λh=>h)
 ·rw[j]
  by_cases u:k=D+2
  ·omega
  by_cases v:k=D
  ·omega
  by_cases y:k=D+1
  ·omega
  simp[u,v,y] at d
def Jt (T Bb MB B:bh)(w0:World)(m:Mo)(k:cA)(wr:World):Prop:=
 ∃j:bh,j<=m.fs.length/\k= Z U (j:aw)/\∃lv,Wo T Bb MB lv (bY 0 (m.fs.take j)) (2*((bY 0 (m.fs.take j)).length:aw)) (aG 0 (bY 0 (m.fs.take j))) B w0 [] [] (0,0) wr
theorem pQ (m:Mo)(w:World)(h:qp w m)(hr:eU m=0):
  ge am 15 #[ub m.cells] w λe w'=>∃T Bb MB lv at_,e= ud (.tuple #[tW (tG ⟨T,0,tM⟩),Z U 0])/\Wo T Bb MB lv m.ptrs (2*(m.ptrs.length:aw)) (aG 0 m.ptrs) (w.heap.size+1) (w.alloc (uc m.cells 25)) ((m.wants (bq m)).map eN) ((m.wants (bq m)).map fh) at_ w':=by
 obtain⟨N0,A6⟩:=zE w.heap.size;obtain⟨y,xT⟩:=zE (w.alloc (uc m.cells 25));have Bk:=il xT;have DA:y.heap.size=N0+1:=by rw[<-xT];simp[A6]
 have AD:y.heap[N0]?=tG (uc m.cells 25 (0,0)):=by rw[<-xT,<-A6];exact alloc_at _ _
 rw[A6,xT];have Bm:m.inn y:=h.ri.mo.below Bk;have JQ:=h.nf;have AE:=zH (qL m y (h.ri.below Bk));rw[hr] at AE;have DB:=zH Bm;have HW:=zH h;have HR:=zH hr;have vp:=zH DA;have JR:=zH AD;have GW:m.fs≠[]:=by
  intro e;have:=(gL hr).2.2.2.2.2;unfold Mo.fnIx gW at this;rw[e] at this;simp at this
 obtain⟨fb,fo,AF,Bs,ue⟩:=Bm.frow GW;have AH:cj (∀W,aE y.heap.size y W->W.cell? ⟨N0,0,tM⟩=tG (tU m.sA m.ss.length m.sC)/\W.cell? ⟨N0,1,tM⟩=tG (tU (tG ⟨fb,fo,tM⟩) m.fs.length m.fC)/\N0<W.heap.size):=λW hW=>by
  have r:=(hW.block N0 (aa AD)).trans AD;rw[<-AF];exact⟨(rowAt r 0 rfl).1,(rowAt r 1 rfl).1,aa r⟩
 have DE:cj (∀W,aE y.heap.size y W->(∀(j:bh)(g:Fn),m.fs[j]?=tG g->∀(q:bh)(u:cA),g.c.cells.toList[q]?=tG u->W.cell? ⟨fb,fo+j*8+q,tM⟩=tG u)/\fb<W.heap.size):=λW hW=>⟨λj g hj q u hu=>by rw[hW.cell (p:=⟨fb,_,tM⟩) Bs];exact ue j g hj q u hu,cH Bs hW.size⟩
 have G4:cj (w.alloc (uc #[tU m.sA m.ss.length m.sC,tU (tG ⟨fb,fo,tM⟩) m.fs.length m.fC] 25)=y):=by rw[<-AF];exact xT
 obtain⟨k0,k1,k2⟩:=AH.out y (aq _ _);unfold Mo.cells at AE⊢;rw[AF] at AE⊢;clear h hr Bk DA AD Bm xT AF Bs ue;go_enter func15,ntmps15
 go_upto_region 1 with(fail)
 rw[G4.out]
 go_upto_region 2 with(go_at_call 53;refine AE.out.mono ?_;rintro e w1 ⟨rfl,DG⟩;have Hb:=zH DG;clear DG)
 clear k0 k1 k2;have DH:=zH (yY w1);have AI:aE y.heap.size y w1:=Hb.out;obtain⟨W4,yp⟩:=zE (((w1.alloc (uc #[Z U 0,tU tM 0 0] 191)).alloc (.map #[] 0)).alloc (uc #[tW (tG ⟨w1.heap.size,0,tM⟩),tU tM 0 0,.map (tG (w1.heap.size+1)),tU tM 0 0,Z U 0,Z U 0] 123));have DM:aE w1.heap.size w1 W4:=by rw[<-yp];exact(((aq _ _).alloc (cg _) _).alloc (by simp) _).alloc (by simp;omega) _
 have By:aE y.heap.size y W4:=AI.trans (DM.mono AI.size);have wk:=Gi rfl (B:=N0+1) (by have:=AI.size;have:=vp.out;omega) yp;obtain⟨D,hD⟩:=zE w1.heap.size;rw[hD] at wk yp;have Hc:cj (Wo (D+2) D (D+1) (tM,0) [] (2*(([]:bj (aw×aw)).length:aw)) (aG 0 []) (N0+1) y [] [] (0,0) W4):=⟨_,_,wk,by rw[<-vp.out];exact By⟩
 have Hh:=zH yp;have Hi:=zH By;have HD:=zH hD;clear AI yp DM By wk hD;have Hj:=@run_makeMap am
 go_upto_region 5 with(go_at_call 54;refine DH.out.mono ?_;rintro e w2 ⟨rfl,rfl⟩)
 (try rw[HD.out]);(try rw[Hh.out]);(try simp only[HD.out]);simp only[show D+1+1=D+2 from rfl];clear Hj DH;obtain⟨k0,k1,k2⟩:=AH.out W4 Hi.out
 go_upto_region 6 with(fail)
 clear k0 k1 k2
 go_loopw [27] (λkk wr=>Jt (D+2) D (D+1) (N0+1) y m kk wr) (λkk _=>m.fs.length-(de kk).toNat)
 case atStart=>exact⟨0,cN _,rfl,(tM,0),Hc.out⟩
 case round=>
  obtain⟨j,hj,rfl,lv,ur⟩:=hrel;have uv:aE y.heap.size y wr:=by obtain⟨_,_,_,h2⟩:=ur;rw[vp.out];exact h2
  by_cases yq:j<m.fs.length
  ·obtain⟨g,J⟩:∃g,m.fs[j]?=tG g:=⟨_,ap yq⟩
   have Hk:(j:aw)<(m.fs.length:aw):=by omega
   have vd:=cd J;obtain⟨ue,Hn⟩:=DE.out wr uv;have x0:=ue j g J 0 _ rfl;have x1:=ue j g J 1 _ rfl;have x2:=ue j g J 2 _ rfl;have x3:=ue j g J 3 _ rfl;have x4:=ue j g J 4 _ rfl;have x5:=ue j g J 5 _ rfl;have x6:=ue j g J 6 _ rfl;have x7:=ue j g J 7 _ rfl;rw[ki] at x0;have hst:=Bl (g:=g) (w:=wr);have vt:=DB.out.fin g vd;obtain⟨tg,s,wk,DO⟩:=ur;obtain⟨G,hG⟩:=zE wr.heap.size;obtain⟨W2,vh⟩:=zE (wr.alloc (uc g.c.cells 38));have wl:=il vh;have yb:W2.heap[G]?=tG (uc g.c.cells 38 (0,0)):=by rw[<-vh,<-hG];exact alloc_at _ _
   have BE:aE (N0+1) y W2:=DO.trans (wl.mono (by rw[<-vp.out];exact uv.size));have JS:(bY 0 (m.fs.take j)).length<=m.ptrs.length:=mf j;have AK:=Bj (w0:=y) W2 g j (wk.grow wl) BE vp.out vt.nvars vt.vars (HW.out.nv g vd) (by have:=HW.out.nf;omega) (λx hx=>uj hx) (by have:=HW.out.np;omega);have BT:cj (bY 0 (m.fs.take (j+1))=bY 0 (m.fs.take j)++dD (j:aw) g):=by
    unfold cj;rw[aH J,kS,cL,ee,gR (by omega)]
   unfold dx.cells at AK hst yb vh;have AK:=zH AK;have yr:=zH vh;have vu:=zH yb;have Hp:=zH (wk.grow wl);have Hs:=zH BE;clear ue vt wk DO wl yb vh BE J
   go_upto_region 8 with(fail)
   (try rw[yr.out]);(try rw[hG]);have y0:=(rowAt vu.out 0 rfl).1;have y1:=(rowAt vu.out 1 rfl).1;have y2:=(rowAt vu.out 2 rfl).1;have y3:=(rowAt vu.out 3 rfl).1;have y4:=(rowAt vu.out 4 rfl).1;have y5:=(rowAt vu.out 5 rfl).1;have y6:=(rowAt vu.out 6 rfl).1;have y7:=(rowAt vu.out 7 rfl).1;have DP:=aa vu.out;clear x0 x1 x2 x3 x4 x5 x6 x7 hst hG yr
   go_wp2_with (go_at_call 55;refine AK.out.mono ?_;rintro e w3 ⟨rfl,Hv,DQ⟩;have Hx:=zH DQ;clear DQ)
   go_roundw
   case rel=>exact⟨j+1,yq,by go_num,Hv,by rw[BT.out];exact Wo.of Hs.out Hp.out Hx.out⟩
   case measure=>simp[de];omega
  ·have DS:j=m.fs.length:=by omega
   have D0:Wo (D+2) D (D+1) lv m.ptrs (2*(m.ptrs.length:aw)) (aG 0 m.ptrs) (N0+1) y [] [] (0,0) wr:=by rw[DS,cR] at ur;exact ur
   have BY:=zH D0;have D1:=zH uv;obtain⟨k0,k1,k2⟩:=AH.out wr uv;clear ur D0 DS uv;obtain⟨wo,ur⟩:=zE wr;rw[ur] at BY D1 k0 k1 k2⊢;clear ur wr
   go_upto_region 11 with(fail)
   clear k0 k1 k2;obtain⟨lA,lC⟩:=lv;obtain⟨t,B5⟩:=zE m.ptrs;obtain⟨Cf,D2⟩:=zE ((λj=>iq m.ptrs (bq m) 0 (m.fs.take j)):bh->bj (bj aw×(aw×aw)));have yv:cj (∀j,Cf j=iq m.ptrs (bq m) 0 (m.fs.take j)):=λj=>by rw[<-D2]
   have we:=zH B5;rw[B5] at BY;have HU:cj (Wo (D+2) D (D+1) (lA,lC) t (2*(t.length:aw)) (aG 0 t) (N0+1) y ((Cf 0).map eN) ((Cf 0).map fh) (0,0) wo):=by
    unfold cj;rw[yv.out,lz];exact BY.out
   clear D2 B5
   go_loopw [40] (λkk wr=>∃j:bh,j<=m.fs.length/\kk= Z U (j:aw)/\∃at_,Wo (D+2) D (D+1) (lA,lC) t (2*(t.length:aw)) (aG 0 t) (N0+1) y ((Cf j).map eN) ((Cf j).map fh) at_ wr) (λkk _=>m.fs.length-(de kk).toNat)
   case atStart=>exact⟨0,cN _,rfl,(0,0),HU.out⟩
   case round=>
    obtain⟨j,hj,rfl,If,ur⟩:=hrel;have uv:aE y.heap.size y wr:=by obtain⟨_,_,_,h2⟩:=ur;rw[vp.out];exact h2
    obtain⟨wx,D3⟩:=zE wr;rw[D3] at ur uv⊢;clear D3 wr
    by_cases yq:j<m.fs.length
    ·obtain⟨g,J⟩:∃g,m.fs[j]?=tG g:=⟨_,ap yq⟩
     have Hk:(j:aw)<(m.fs.length:aw):=by omega
     have vd:=cd J;obtain⟨ue,Hn⟩:=DE.out wx uv;have x0:=ue j g J 0 _ rfl;have x1:=ue j g J 1 _ rfl;have x2:=ue j g J 2 _ rfl;have x3:=ue j g J 3 _ rfl;have x4:=ue j g J 4 _ rfl;have x5:=ue j g J 5 _ rfl;have x6:=ue j g J 6 _ rfl;have x7:=ue j g J 7 _ rfl;rw[ki] at x0;have hst:=Bl (g:=g) (w:=wx);obtain⟨G,hG⟩:=zE wx.heap.size;obtain⟨W2,vh⟩:=zE (wx.alloc (uc g.c.cells 38));have wl:=il vh;have yb:W2.heap[G]?=tG (uc g.c.cells 38 (0,0)):=by rw[<-vh,<-hG];exact alloc_at _ _
     have D4:=ur.kept wl (by rw[hG];exact cg _) yb;have BT:cj (Cf (j+1)=Cf j++(bB (j:aw) 0 t++bZ t (j:aw) (bq m j) 0 g.c.ins)):=by
      unfold cj;rw[yv.out,yv.out,aH J,oh,cL,ee,gR (by omega),we.out]
     have HG:=zH J;unfold dx.cells at hst vh;have yr:=zH vh;have Ek:=zH D4;clear ue wl yb vh J ur uv D4
     go_upto_region 13 with(fail)
     (try rw[yr.out]);(try rw[hG]);clear x0 x1 x2 x3 x4 x5 x6 x7 hst hG yr;obtain⟨⟨t4,f4⟩,⟨t5,f5⟩,tl,t1,t2⟩:=Ek.out.row
     go_upto_region 14 with(fail)
     have B6:=Ek.out.setAt (j:aw) (-1);obtain⟨W3,B7⟩:=zE ((W2.setCell ⟨D+2,4,tM⟩ (Z U (j:aw))).setCell ⟨D+2,5,tM⟩ (Z U (-1)));rw[B7] at B6;(try rw[B7]);have B8:=zH B6;clear t4 f4 t5 f5 tl t1 t2 B6 B7;obtain⟨_,_,tl,t1,t2⟩:=B8.out.row
     go_upto_region 15 with(fail)
     clear tl t1 t2;have JT:cj (∃cc,(#[tS g.c.nm,Z U g.c.par,tU g.c.varsA g.c.nvars g.c.varsC,ua g.c.rp,tS g.c.rto,Z U g.c.rcl,tU g.c.fromA g.c.nfrom g.c.fromC,tU g.c.insA g.c.ins.length g.c.insC]:eA cA)=cc):=⟨_,rfl⟩
     obtain⟨o,ho⟩:=zE ((uc g.c.cells 38 (0,0)):Obj);rw[ho] at B8;have HO:=zH ho;have JU:t.length<=20000:=by rw[<-we.out];exact HW.out.np
     have JV:(Cf j).length+(t.length+124*g.c.ins.length)+900<=1000000:=by
      have h1:=mK (P:=m.ptrs) (beh:=bq m) (m.fs.take j) 0 (λg J i hi=>HW.out.ri.al g (kA J) i hi);rw[yv.out];have h2:=HW.out.nt;have In:=HG.out;have h3:aO (m.fs.take (j+1))<=aO m.fs:=by
       have e:aO m.fs=aO (m.fs.take (j+1))+aO (m.fs.drop (j+1)):=by
        unfold aO;rw[<-oe,<-dp,ke]
       omega
      have h5:aO (m.fs.take (j+1))=aO (m.fs.take j)+g.c.ins.length:=by
       unfold aO;rw[aH In,dp,oe];simp
      have h4:m.ptrs.length*((m.fs.take j).length+1)<=m.ptrs.length*m.fs.length:=Nat.mul_le_mul_left _ (by rw[ee];omega);rw[Nat.mul_succ] at h4;rw[<-we.out];omega
     have Is:cj (t.Nodup):=by unfold cj;rw[<-we.out];exact m.ptrs_nodup
     have It:cj (∀p∈t,bN p.1/\bN p.2):=λp hp=>by
      rw[<-we.out] at hp;obtain⟨p1,p2⟩:=p;obtain⟨k,gg,h1,h2,h3⟩:=rT hp;have hk:=(bl.1 h1).1;have:=HW.out.nf;have hv:=HW.out.nv gg (cd h1);refine⟨by unfold bN;show _<=p1/\p1<=_;omega, ?_⟩;rcases h3 with⟨h3,_⟩|⟨h3,_⟩
      ·unfold bN;show _<=p2/\p2<=_;omega
      ·have:=bP.1 h3;unfold bN;show _<=p2/\p2<=_;omega
     clear ho
     go_loopw [55] (λkk wr=>∃i:bh,i<=t.length/\kk= Z U (i:aw)/\nJ (D+2) D (D+1) (lA,lC) t (2*(t.length:aw)) (aG 0 t) (N0+1) y [(G,o)] ((Cf j++bB (j:aw) 0 (t.take i)).map eN) ((Cf j++bB (j:aw) 0 (t.take i)).map fh) ((j:aw),-1) wr) (λkk _=>t.length-(de kk).toNat)
     case atStart=>exact⟨0,cN _,rfl,by rw[lz];show nJ _ _ _ _ _ _ _ _ _ _ ((Cf j++[]).map _) ((Cf j++[]).map _) _ _;rw[ej];exact B8.out⟩
     case round=>
      obtain⟨i,hi,rfl,vq⟩:=hrel;obtain⟨E,EV⟩:=zE wr;rw[EV] at vq⊢;clear EV wr
      by_cases yy:i<t.length
      ·obtain⟨p,hp⟩:∃p,t[i]?=tG p:=⟨_,ap yy⟩
       have JW:(i:aw)<(t.length:aw):=by omega
       obtain⟨gl,B9⟩:=vq.lrow (by intro e;rw[e] at yy;simp at yy);simp only at B9;obtain⟨c0,c1,JX⟩:=vq.lcell (g:=gl) (i:=i) (by simpa using B9) hp;rw[ki] at c0;subst B9;have E0:=cd hp;obtain⟨Iv,ID⟩:=It.out p E0;have hst:=Gh (f:=p.1) (v:=p.2) (w:=E);obtain⟨H,hH⟩:=zE E.heap.size;obtain⟨W5,vm⟩:=zE (E.alloc (uc #[Z U p.1,Z U p.2] 121));have yW:=il vm;have ws:W5.heap[H]?=tG (uc #[Z U p.1,Z U p.2] 121 (0,0)):=by rw[<-vm,<-hH];exact alloc_at _ _
       have E2:=vq.grow yW;have IF:=jo (f:=(j:aw)) (t.take i) 0;rw[ee] at IF;have E3:aG 0 t p=2*(i:aw)+1:=by rw[A9 Is.out hp];omega
       have E4:bB (j:aw) 0 (t.take (i+1))=bB (j:aw) 0 (t.take i)++(if p.1=(j:aw) then[([-(2*(i:aw)+1),-(2*(i:aw)+2)],((j:aw),(-1:aw)))] else[]):=by
        rw[aH hp,og,cL,ee,gR (by omega)]
       have AM:=zH E4;have IH:=zH E3;have Cd:=zH E2;have zc:=zH vm;have yd:=zH ws;clear vq hp E0 yW ws E2 vm E4 E3
       go_upto_region 17 with(fail)
       (try rw[zc.out]);(try rw[hH]);clear c0 c1 hst hH zc;have d0:=(rowAt yd.out 0 rfl).1;have JY:=aa yd.out
       by_cases ye:p.1=(j:aw)
       ·have IN:(p.1==(j:aw))=tP:=by rw[ye];exact iS _
        have xf:=AM.out;rw[cI ye] at xf;have Cl:=zH xf;clear xf AM ye
        go_upto_region 18 with(fail)
        clear d0;obtain⟨z,hz⟩:=zE (2*(i:aw)+1);have JZ:0<=z/\z<=40001:=by omega
        obtain⟨S1,vx⟩:=zE ((λw'=>aE W5.heap.size W5 w'):World->Prop);have E6:S1 W5.drew:=by rw[<-vx];exact(aq _ _).drew
        have xj:cj (∀W,aE W5.heap.size W5 W->S1 W):=λW hW=>by rw[<-vx];exact hW
        have K:cj (∀w,S1 w->w.cell? ⟨H,0,tM⟩=tG (Z U p.1)/\w.cell? ⟨H,1,tM⟩=tG (Z U p.2)/\(D+2<w.heap.size/\H<w.heap.size)/\w.cell? ⟨D+2,2,tM⟩=tG (.map (tG (D+1)))/\(nr 118 (.map (tG (D+1))) (ub #[Z U p.1,Z U p.2]) tR).run am w= .ok (Z U z) w):=λw hw=>by
         rw[<-vx] at hw;have J:=Cd.out.grow hw;have r:=(hw.block H (aa yd.out)).trans yd.out;obtain⟨_,_,e1,_,e2⟩:=J.row;refine⟨(rowAt r 0 rfl).1,(rowAt r 1 rfl).1,⟨e1,aa r⟩,e2, ?_⟩;have:=J.look Iv ID;rw[show(p.1,p.2)=p from rfl,IH.out,hz] at this;exact this
        clear vx;have w1:dT.wrap (-z)= -z:=by simp[eK,eL,ep];omega
        have w2:dT.wrap (z+1)=z+1:=by simp[eK,eL,ep];omega
        have w3:dT.wrap (-(z+1))= -(z+1):=by simp[eK,eL,ep];omega
        refine aj 17 S1 (by kernel_rfl) ?_;refine zT 0 rfl K.out ?_;(try go_simp);refine zT 1 rfl K.out ?_;(try go_simp);refine zT 2 rfl K.out ?_;(try go_simp);refine zT 3 rfl K.out ?_;(try go_simp);refine zT 4 rfl K.out ?_;(try go_simp);refine zT 5 rfl K.out ?_;(try go_simp);refine zT 6 rfl K.out ?_;(try go_simp);refine zT 7 rfl K.out ?_;(try go_simp);refine zT 8 rfl K.out ?_;(try go_simp);refine zT 9 rfl K.out ?_;(try go_simp);refine zT 10 rfl K.out ?_;(try go_simp);refine zT 11 rfl K.out ?_;(try go_simp);refine zT 12 rfl K.out ?_;(try go_simp);refine zT 13 rfl K.out ?_;(try go_simp);refine zT 14 rfl K.out ?_;(try go_simp);refine zT 15 rfl K.out ?_;(try go_simp);refine zO 16 rfl λK' R=> ?_;go_simp;(try simp only[w1,w2,w3]);obtain⟨G8,Cp⟩:=zE W5.heap.size;obtain⟨W8,AN⟩:=zE ((W5.alloc (uc #[Z U (-z),Z U (-(z+1))] 3)).drew);(try rw[Cp]);(try rw[AN]);have CA:aE W5.heap.size W5 W8:=by rw[<-AN];exact((aq _ _).alloc (cg _) _).drew
        have vf:W8.heap[G8]?=tG (uc #[Z U (-z),Z U (-(z+1))] 3 (0,0)):=by rw[<-AN,<-Cp];exact alloc_at _ _
        have E7:S1 W8:=xj.out _ CA;refine R _ _ E7 ?_;clear R;(try go_simp);refine zK rfl λK' R=> ?_;go_simp;have Fc:=zH ((Cd.out.grow CA).put (by omega) (tG ⟨G8,0,tM⟩) [-z,-(z+1)] 2 (ak.lit2 W8 _ _ vf) (ui (N:=2*(t.length:aw)) (jQ (by unfold ik;omega) (by unfold ik;omega))) (by simp) (by rw[dy,bo];omega) (by rw[dy,bo];omega));go_at_call 56;refine Fc.out.mono ?_;rintro e w9 ⟨rfl,Fi⟩;refine R _ _ ?_;clear R;refine⟨by kernel_rfl, ?_⟩;have IS:=zH Fi;clear Fi CA vf AN Cp E7 E6 Fc K xj;go_wp2;go_roundw
        case rel=>
         refine⟨i+1,yy,by go_num, ?_⟩;rw[Cl.out,<-eq,dp,dp (f:=fh)];have:=IS.out;rw[show-(z+1)= -(2*(i:aw)+2) by omega,<-hz] at this;exact this
        case measure=>simp[de];omega
       ·have IN:(p.1==(j:aw))=tR:=ef ye
        have xf:=AM.out;rw[bx ye,ej] at xf;have Cl:=zH xf;clear xf AM ye;go_wp2;go_roundw
        case rel=>exact⟨i+1,yy,by go_num,by rw[Cl.out];exact Cd.out⟩
        case measure=>simp[de];omega
      ·have Fk:i=t.length:=by omega
       rw[Fk,cR] at vq;clear Fk;have vf:=vq.keeps (cU.2 rfl);rw[<-HO.out] at vf;have uv:aE y.heap.size y E:=by obtain⟨_,_,_,h2,_⟩:=vq;rw[vp.out];exact h2
       obtain⟨S1,vx⟩:=zE ((λw'=>aE E.heap.size E w'):World->Prop);have E6:S1 E.drew:=by rw[<-vx];exact(aq _ _).drew
       have xj:cj (∀W,aE E.heap.size E W->S1 W):=λW hW=>by rw[<-vx];exact hW
       have K:cj (∀w,S1 w->(w.cell? ⟨N0,0,tM⟩=tG (tU m.sA m.ss.length m.sC)/\w.cell? ⟨N0,1,tM⟩=tG (tU (tG ⟨fb,fo,tM⟩) m.fs.length m.fC)/\N0<w.heap.size)/\(w.cell? ⟨G,0,tM⟩=tG (tS g.c.nm)/\w.cell? ⟨G,1,tM⟩=tG (Z U g.c.par)/\w.cell? ⟨G,2,tM⟩=tG (tU g.c.varsA g.c.nvars g.c.varsC)/\w.cell? ⟨G,3,tM⟩=tG (ua g.c.rp)/\w.cell? ⟨G,4,tM⟩=tG (tS g.c.rto)/\w.cell? ⟨G,5,tM⟩=tG (Z U g.c.rcl)/\w.cell? ⟨G,6,tM⟩=tG (tU g.c.fromA g.c.nfrom g.c.fromC)/\w.cell? ⟨G,7,tM⟩=tG (tU g.c.insA g.c.ins.length g.c.insC))/\G<w.heap.size):=λw hw=>by
        rw[<-vx] at hw;have r:=(hw.block G (aa vf)).trans vf;exact⟨AH.out w (uv.trans (hw.mono uv.size)),⟨(rowAt r 0 rfl).1,(rowAt r 1 rfl).1,(rowAt r 2 rfl).1,(rowAt r 3 rfl).1,(rowAt r 4 rfl).1,(rowAt r 5 rfl).1,(rowAt r 6 rfl).1,(rowAt r 7 rfl).1⟩,aa r⟩
       have vt:=DB.out.fin g vd;have IT:=HW.out.ni g vd;have I0:=HW.out.nv g vd;have zj:=λ(W:World) (hW:aE E.heap.size E W)=>vF g.c W ((vt.code.below uv).below hW) IT (by rw[vt.nvars];exact I0) (HW.out.ri.al g vd) (by rw[vt.nvars];exact Dc HR.out vd);unfold dx.cells at zj;have zj:=zH zj;have Fl:=zH vq;have D1:=zH uv;have CC:=zH vt;have AS:=zH vf;clear vx vq uv vf vt
       go_upto_region 20 with(fail)
       go_cut [12] (λJu wc=>∃(A TT RB:bh) (tb:bh->bh->bh) (hi:bh),Ju= tW (tG ⟨A,0,tM⟩)/\BG (D+2) D (D+1) (lA,lC) t (2*(t.length:aw)) (aG 0 t) (N0+1) y TT RB g.c tb hi [(A,uc #[tW (tG ⟨D+2,0,tM⟩),Z U (j:aw),tU m.sA m.ss.length m.sC,tU (tG ⟨fb,fo,tM⟩) m.fs.length m.fC,tW (tG ⟨TT,0,tM⟩)] 129 (0,0))] ((Cf j++bB (j:aw) 0 t).map eN) ((Cf j++bB (j:aw) 0 t).map fh) ((j:aw),-1) wc/\wc.heap[G]?=tG (uc g.c.cells 38 (0,0)))
       case first=>
        refine aj 7 S1 (by kernel_rfl) ?_;refine zT 0 rfl K.out ?_;(try go_simp);refine zT 1 rfl K.out ?_;(try go_simp);refine zT 2 rfl K.out ?_;(try go_simp);refine zT 3 rfl K.out ?_;(try go_simp);refine lF (i:=4) (j:=6) (by kernel_rfl) (by decide) (by decide) rfl rfl (λK' R=> ?_) (λK' R=> ?_)
        ·rw[cI (by rfl)]
         go_simp;go_at_call 57;refine(zj.out E.drew (aq _ _).drew).mono ?_;rintro e w6 ⟨TT,RA,RB,ta,tb,rfl,CD,CH,yi,AT⟩;have wg:aE E.heap.size E w6:=(aq _ _).drew.trans AT;have CM:S1 w6:=xj.out _ wg;refine R _ _ CM ?_;clear R;(try go_simp);refine zT 5 rfl K.out ?_;(try go_simp);refine zO 6 rfl λK' R=> ?_;go_simp;obtain⟨A,hA⟩:=zE w6.heap.size;obtain⟨W7,xo⟩:=zE (w6.alloc (uc #[tW tM,Z U 0,tU tM 0 0,tU tM 0 0,tW tM] 129));(try rw[hA]);(try rw[xo]);have Fm:=il xo;have vr:aE E.heap.size E W7:=wg.trans (Fm.mono wg.size);have up:W7.heap[A]?=tG (uc #[tW tM,Z U 0,tU tM 0 0,tU tM 0 0,tW tM] 129 (0,0)):=by rw[<-xo,<-hA];exact alloc_at _ _
         have Jv:=aa up;obtain⟨e0,f0⟩:=rowAt up 0 rfl;obtain⟨e1,f1⟩:=rowAt up 1 rfl;obtain⟨e2,f2⟩:=rowAt up 2 rfl;obtain⟨e3,f3⟩:=rowAt up 3 rfl;obtain⟨e4,f4⟩:=rowAt up 4 rfl;have CN:S1 W7:=xj.out _ vr;refine R _ _ CN ?_;clear R;(try go_simp);refine zK rfl λK' R=> ?_;go_simp;have zp:=up;have J0:=aa yi.tab.tab;have J1:RB+g.c.ins.length<w6.heap.size:=by
          by_cases h0:g.c.ins.length=0
          ·rw[h0,ki];exact aa yi.tab.behind
          ·obtain⟨J2,h3,_⟩:=yi.tab.words (g.c.ins.length-1) (by omega)
           have:=aa h3;omega
         have J3:=wg.size;refine R _ _ ?_;clear R;refine⟨by kernel_rfl, ?_⟩;obtain⟨WZ,vy⟩:=zE (((((W7.setCell ⟨A,0,tM⟩ (tW (tG ⟨D+2,0,tM⟩))).setCell ⟨A,1,tM⟩ (Z U (j:aw))).setCell ⟨A,2,tM⟩ (tU m.sA m.ss.length m.sC)).setCell ⟨A,3,tM⟩ (tU (tG ⟨fb,fo,tM⟩) m.fs.length m.fC)).setCell ⟨A,4,tM⟩ (tW (tG ⟨TT,0,tM⟩)));(try rw[vy]);have xp:Ext (·=A) W7 WZ:=by rw[<-vy];exact ae (ae (ae (ae (ae (Ext.refl _ _) _) _) _) _) _
         have zs:WZ.heap[A]?=tG (uc #[tW (tG ⟨D+2,0,tM⟩),Z U (j:aw),tU m.sA m.ss.length m.sC,tU (tG ⟨fb,fo,tM⟩) m.fs.length m.fC,tW (tG ⟨TT,0,tM⟩)] 129 (0,0)):=by rw[<-vy];exact bk _ A 4 _ _ _ (bk _ A 3 _ _ _ (bk _ A 2 _ _ _ (bk _ A 1 _ _ _ (bk _ A 0 _ _ _ zp))))
         have xt:aE E.heap.size E WZ:=vr.trans (xp.below vr.size (λq hq=>by omega));have zv:mU WZ TT RB g.c tb:=((mU.of yi).below Fm).ext xp (λe=>by omega) (λk hk _ e=>by omega);have wj:=nJ.table2 Fl.out vp.out xt (by have:=(show E.heap.size<=TT/\E.heap.size<=RB from And.intro CD CH);omega) (by have:=(show E.heap.size<=TT/\E.heap.size<=RB from And.intro CD CH);omega) zv (A:=A) (by omega) zs;have An:=zH wj;have CT:=zH ((xt.block G (aa AS.out)).trans AS.out);clear wj xp zs xt zv vy zp;go_wp2
         go_meet
         case rel=>exact⟨A,TT,RB,tb,_,rfl,An.out,CT.out⟩
        ·rw[cI (by rfl)]
         go_simp;obtain⟨A,hA⟩:=zE E.heap.size;obtain⟨W7,xo⟩:=zE ((E.alloc (uc #[tW tM,Z U 0,tU tM 0 0,tU tM 0 0,tW tM] 129)).drew);(try rw[hA]);(try rw[xo]);have vr:aE E.heap.size E W7:=by rw[<-xo];exact((aq _ _).alloc (cg _) _).drew
         have up:W7.heap[A]?=tG (uc #[tW tM,Z U 0,tU tM 0 0,tU tM 0 0,tW tM] 129 (0,0)):=by rw[<-xo,<-hA];exact alloc_at _ _
         have CN:S1 W7:=xj.out _ vr;refine R _ _ CN ?_;clear R;(try go_simp);refine zO 4 rfl λK' R=> ?_;go_simp;go_at_call 57;refine(zj.out W7 vr).mono ?_;rintro e w6 ⟨TT,RA,RB,ta,tb,rfl,CD,CH,yi,AT⟩;have wg:aE E.heap.size E w6:=vr.trans (AT.mono vr.size);have CM:S1 w6:=xj.out _ wg;have xF:=(AT.block A (aa up)).trans up;have Jv:=aa xF;obtain⟨e0,f0⟩:=rowAt xF 0 rfl;obtain⟨e1,f1⟩:=rowAt xF 1 rfl;obtain⟨e2,f2⟩:=rowAt xF 2 rfl;obtain⟨e3,f3⟩:=rowAt xF 3 rfl;obtain⟨e4,f4⟩:=rowAt xF 4 rfl;refine R _ _ CM ?_;clear R;(try go_simp);refine zT 5 rfl K.out ?_;(try go_simp);refine zK rfl λK' R=> ?_;go_simp;have zp:=xF;have J4:=aa up;refine R _ _ ?_;clear R;refine⟨by kernel_rfl, ?_⟩;obtain⟨WZ,vy⟩:=zE (((((w6.setCell ⟨A,0,tM⟩ (tW (tG ⟨D+2,0,tM⟩))).setCell ⟨A,1,tM⟩ (Z U (j:aw))).setCell ⟨A,2,tM⟩ (tU m.sA m.ss.length m.sC)).setCell ⟨A,3,tM⟩ (tU (tG ⟨fb,fo,tM⟩) m.fs.length m.fC)).setCell ⟨A,4,tM⟩ (tW (tG ⟨TT,0,tM⟩)));(try rw[vy]);have xp:Ext (·=A) w6 WZ:=by rw[<-vy];exact ae (ae (ae (ae (ae (Ext.refl _ _) _) _) _) _) _
         have zs:WZ.heap[A]?=tG (uc #[tW (tG ⟨D+2,0,tM⟩),Z U (j:aw),tU m.sA m.ss.length m.sC,tU (tG ⟨fb,fo,tM⟩) m.fs.length m.fC,tW (tG ⟨TT,0,tM⟩)] 129 (0,0)):=by rw[<-vy];exact bk _ A 4 _ _ _ (bk _ A 3 _ _ _ (bk _ A 2 _ _ _ (bk _ A 1 _ _ _ (bk _ A 0 _ _ _ zp))))
         have xt:aE E.heap.size E WZ:=wg.trans (xp.below wg.size (λq hq=>by omega));have zv:mU WZ TT RB g.c tb:=(mU.of yi).ext xp (λe=>by omega) (λk hk _ e=>by omega);have wj:=nJ.table2 Fl.out vp.out xt (by have:=vr.size;omega) (by have:=vr.size;omega) zv (A:=A) (by omega) zs;have An:=zH wj;have CT:=zH ((xt.block G (aa AS.out)).trans AS.out);clear wj xp zs xt zv vy zp;go_wp2
         go_meet
         case rel=>exact⟨A,TT,RB,tb,_,rfl,An.out,CT.out⟩
       case rest=>
        obtain⟨A,TT,RB,tb,hi,rfl,wj,vf⟩:=hcut;have Fo:=jG ((gL HR.out).2.2.2.2.1 g vd);have Fr:g.c.ins≠[]:=by intro e;have:=Fo.2.1;rw[e] at this;simp at this
        obtain⟨ib,io,Jw,Ft,FA⟩:=CC.out.code.row Fr;have g7:wc.cell? ⟨G,7,tM⟩=tG (tU g.c.insA g.c.ins.length g.c.insC):=(rowAt vf 7 rfl).1;have DP:=aa vf;rw[Jw] at g7;have Jy:cj (∀(k:bh)(i:Ins),g.c.ins[k]?=tG i->∀(q:bh)(u:cA),i.cells.toList[q]?=tG u->y.cell? ⟨ib,io+k*13+q,tM⟩=tG u):=FA;have An:cj (∃at_,BG (D+2) D (D+1) (lA,lC) t (2*(t.length:aw)) (aG 0 t) (N0+1) y TT RB g.c tb hi [(A,uc #[tW (tG ⟨D+2,0,tM⟩),Z U (j:aw),tU m.sA m.ss.length m.sC,tU (tG ⟨fb,fo,tM⟩) m.fs.length m.fC,tW (tG ⟨TT,0,tM⟩)] 129 (0,0))] ((Cf j++(bB (j:aw) 0 t++bZ t (j:aw) (bq m j) 0 (g.c.ins.take 0))).map eN) ((Cf j++(bB (j:aw) 0 t++bZ t (j:aw) (bq m j) 0 (g.c.ins.take 0))).map fh) at_ wc):=⟨_,by
         rw[lz]
         show BG _ _ _ _ _ _ _ _ _ _ _ _ _ _ _ ((Cf j++(bB (j:aw) 0 t++[])).map _) ((Cf j++(bB (j:aw) 0 t++[])).map _) _ _
         rw[ej];exact wj⟩
        clear wj vf Fo Fr FA
        go_upto_region 22 with(fail)
        clear g7 DP
        go_loopw [91] (λkk wr=>∃k:bh,k<=g.c.ins.length/\kk= Z U (k:aw)/\∃at_,BG (D+2) D (D+1) (lA,lC) t (2*(t.length:aw)) (aG 0 t) (N0+1) y TT RB g.c tb hi [(A,uc #[tW (tG ⟨D+2,0,tM⟩),Z U (j:aw),tU m.sA m.ss.length m.sC,tU (tG ⟨fb,fo,tM⟩) m.fs.length m.fC,tW (tG ⟨TT,0,tM⟩)] 129 (0,0))] ((Cf j++(bB (j:aw) 0 t++bZ t (j:aw) (bq m j) 0 (g.c.ins.take k))).map eN) ((Cf j++(bB (j:aw) 0 t++bZ t (j:aw) (bq m j) 0 (g.c.ins.take k))).map fh) at_ wr) (λkk _=>g.c.ins.length-(de kk).toNat)
        case atStart=>exact⟨0,cN _,rfl,An.out⟩
        case round=>
         obtain⟨k,hk,rfl,Jz,has⟩:=hrel;obtain⟨wv,FF⟩:=zE wr;rw[FF] at has⊢;clear FF wr
         by_cases AW:k<g.c.ins.length
         ·obtain⟨i,A0⟩:∃i,g.c.ins[k]?=tG i:=⟨_,ap AW⟩
          have A1:=cd A0;have J5:(k:aw)<(g.c.ins.length:aw):=by omega
          obtain⟨JA,ga,gc,At,FG⟩:=CC.out.code.args i A1;obtain⟨_,mo,mn,mc,Ax⟩:=JA;have C4:aE y.heap.size y wv:=by obtain⟨_,_,h1,_⟩:=has;rw[vp.out];exact h1.lo
          have vc:∀(q:bh)(u:cA),i.cells.toList[q]?=tG u->wv.cell? ⟨ib,io+k*13+q,tM⟩=tG u:=λq u hu=>by rw[C4.cell (p:=⟨ib,_,tM⟩) Ft];exact Jy.out k i A0 q u hu
          have J6:ib<wv.heap.size:=cH Ft C4.size;have x0:=vc 0 _ rfl;have x1:=vc 1 _ rfl;have x2:=vc 2 _ rfl;have x3:=vc 3 _ rfl;have x4:=vc 4 _ rfl;have x5:=vc 5 _ rfl;have x6:=vc 6 _ rfl;have x7:=vc 7 _ rfl;have x8:=vc 8 _ rfl;have x9:=vc 9 _ rfl;have JB:=vc 10 _ rfl;have JC:=vc 11 _ rfl;have JD:=vc 12 _ rfl;rw[ki] at x0;rw[At] at x7;rw[Ax] at x8;have hst:=Gg (i:=i) ⟨⟨ga,gc,At⟩,mo,mn,mc,Ax⟩ (w:=wv);obtain⟨Q,hQ⟩:=zE wv.heap.size;obtain⟨W5,vm⟩:=zE (wv.alloc (uc i.cells 42));have yW:=il vm;have ws:W5.heap[Q]?=tG (uc i.cells 42 (0,0)):=by rw[<-vm,<-hQ];exact alloc_at _ _
          have F0:=has.grow yW;have J7:D+2<Q:=by obtain⟨_,_,e1,_⟩:=has.woL.row;rw[<-hQ];exact e1
          unfold Ins.cells at hst vm ws;rw[At,Ax] at hst vm ws;have F1:=iO ((jG ((gL HR.out).2.2.2.2.1 g vd)).2.2.2.2.2 i A1);have Ge:=zH At;have Gk:=zH Ax;have JE:=zH FG;have JF:=zH A0;have zc:=zH vm;have yd:=zH ws;have GB:=zH F0;have JG:=zH F1;have C5:=zH A1;clear has C4 vc yW ws F0 vm At Ax FG A0 F1 A1
          go_upto_region 24 with(fail)
          (try rw[zc.out]);(try rw[hQ]);clear x0 x1 x2 x3 x4 x5 x6 x7 x8 x9 JB JC JD hst hQ zc;obtain⟨⟨t4,f4⟩,⟨t5,f5⟩,tl,_,_⟩:=GB.out.woL.row
          go_upto_region 25 with(fail)
          have GC:=GB.out.setAt (j:aw) (k:aw);obtain⟨W6,A2⟩:=zE ((W5.setCell ⟨D+2,4,tM⟩ (Z U (j:aw))).setCell ⟨D+2,5,tM⟩ (Z U (k:aw)));have GE:Ext (·=D+2) W5 W6:=by rw[<-A2];exact ae (ae (Ext.refl _ _) _) _
          rw[A2] at GC;(try rw[A2]);have ux:=GE.heap yd.out (by omega);obtain⟨J8,s6,A3,C6⟩:=GC;have up:=(C6 _ (cU.2 rfl)).1;simp only at up;clear t4 f4 t5 f5 tl A2 GE;obtain⟨⟨b0,b1,b2,b3,b4⟩,⟨z0,z1,z2,z3,z4,z5,z6,z7,z8,z9,J9,Ka,Kb⟩,y2⟩:(W6.cell? ⟨A,0,tM⟩=tG (tW (tG ⟨D+2,0,tM⟩))/\W6.cell? ⟨A,1,tM⟩=tG (Z U (j:aw))/\W6.cell? ⟨A,2,tM⟩=tG (tU m.sA m.ss.length m.sC)/\W6.cell? ⟨A,3,tM⟩=tG (tU (tG ⟨fb,fo,tM⟩) m.fs.length m.fC)/\W6.cell? ⟨A,4,tM⟩=tG (tW (tG ⟨TT,0,tM⟩)))/\(W6.cell? ⟨Q,0,tM⟩=tG (Z U i.op)/\W6.cell? ⟨Q,1,tM⟩=tG (Z U i.d)/\W6.cell? ⟨Q,2,tM⟩=tG (Z U i.a)/\W6.cell? ⟨Q,3,tM⟩=tG (Z U i.b)/\W6.cell? ⟨Q,4,tM⟩=tG (Z U i.f)/\W6.cell? ⟨Q,5,tM⟩=tG (Z U i.n)/\W6.cell? ⟨Q,6,tM⟩=tG (tS i.sign)/\W6.cell? ⟨Q,7,tM⟩=tG (tU ga i.args.length gc)/\W6.cell? ⟨Q,8,tM⟩=tG (tU mo mn mc)/\W6.cell? ⟨Q,9,tM⟩=tG (Z U i.tI)/\W6.cell? ⟨Q,10,tM⟩=tG (Z U i.els)/\W6.cell? ⟨Q,11,tM⟩=tG (Z U i.ln)/\W6.cell? ⟨Q,12,tM⟩=tG (Z U i.cl))/\(A<W6.heap.size/\Q<W6.heap.size):=
           ⟨⟨(rowAt up 0 rfl).1,(rowAt up 1 rfl).1,(rowAt up 2 rfl).1,(rowAt up 3 rfl).1,(rowAt up 4 rfl).1⟩,⟨(rowAt ux 0 rfl).1,(rowAt ux 1 rfl).1,(rowAt ux 2 rfl).1,(rowAt ux 3 rfl).1,(rowAt ux 4 rfl).1,(rowAt ux 5 rfl).1,(rowAt ux 6 rfl).1,(rowAt ux 7 rfl).1,(rowAt ux 8 rfl).1,(rowAt ux 9 rfl).1,(rowAt ux 10 rfl).1,(rowAt ux 11 rfl).1,(rowAt ux 12 rfl).1⟩,aa up,aa ux⟩
          obtain⟨y2,y3⟩:=y2;obtain⟨JH,JI,JJ,JK⟩:=HW.out.wf g vd i C5.out;obtain⟨_,_,q3,q4,q5⟩:=JG.out;have A4:=CC.out.nvars;have h9:i.op=9->isVar g.c.nvars i.a=tP:=λe=>by rw[A4];exact q3 i.a (by unfold readsOf;rw[e];simp[sP])
          have C7:i.op=11->isVar g.c.nvars i.b=tP:=λe=>by rw[A4];exact q3 i.b (by unfold readsOf;rw[e];simp[sP,rM])
          have Dd:i.op=15->∀v∈i.args,isVar g.c.nvars v=tP:=λe v hv=>by rw[A4];exact q3 v (by unfold readsOf;rw[cI e];simp[hv])
          have A5:∀v:aw,isVar g.c.nvars v=tP->bg tb k v=bq m j k v:=λv hv=>by
           have Kc:=bP.1 hv;have:=A3.tz.tab.says k v.toNat AW (by omega);unfold bg bq;rw[HG.out];rw[tf,this,Bh]
          have Dg:aA (aG 0 t) (j:aw) (bg tb k) i=fT t (j:aw) (bq m j k) i:=by
           rw[ug];exact yU (λe=>A5 _ (h9 e)) (λe=>A5 _ (C7 e)) (λe v hv=>A5 v (Dd e v hv))
          have GF:(g.c.ins.take k).length=k:=by rw[ee];omega
          have JL:=mJ (P:=t) (f:=(j:aw)) (beh:=bq m j) (g.c.ins.take k) 0 (λx hx=>HW.out.ri.al g vd x (kA hx));rw[GF] at JL;have Kd:=jo (f:=(j:aw)) t 0;have GO:bZ t (j:aw) (bq m j) 0 (g.c.ins.take (k+1))=bZ t (j:aw) (bq m j) 0 (g.c.ins.take k)++(fT t (j:aw) (bq m j k) i).map (λc=>(c,((j:aw),(k:aw)))):=by
           rw[aH JF.out,nZ,cL,GF]
          have yk:=yX W6 A3 (by omega) (λx=>by
           by_cases hx:x∈t
           ·have:=mG (k:=0) hx;omega
           ·rw[kD hx];omega) (j:aw) (by unfold bN;omega) m.sA (tG ⟨fb,fo,tM⟩) m.ss.length m.fs.length m.sC m.fC i ga gc Ge.out ⟨mo,mn,mc,Gk.out⟩ JE.out.at_ (HW.out.ri.al g vd i C5.out) JH JI JJ JK k AW (by omega) (by rw[A4];omega) (by simp only[dy,bo];omega) (by simp only[dy,bo];omega) h9 C7 Dd (λx hx=>by
            rw[Dg] at hx;have:=wT HR.out HG.out C5.out (beh:=bq m j k) x (by rw[we.out];exact hx);rw[we.out] at this;exact ui this)
          rw[Dg] at yk;unfold Ins.cells at yk;rw[Ge.out,Gk.out] at yk;have yk:=zH yk;have JM:=zH A3;have JN:=zH C6;have JO:=zH GO;clear A3 C6 GO Dg A5 h9 C7 Dd q3 q4 q5 ux up
          go_wp2_with (go_at_call 58;refine yk.out.mono ?_;rintro e w7 ⟨rfl,GP⟩;have JP:=zH (BG.of JM.out JN.out GP);clear GP)
          go_roundw
          case rel=>
           refine⟨k+1,AW,by go_num,((j:aw),(k:aw)), ?_⟩;have:=JP.out;rw[JO.out];simp only[dp,List.map_map,eq] at this⊢;simpa[Function.comp_def] using this
          case measure=>simp[de];omega
         ·have GS:k=g.c.ins.length:=by omega
          rw[GS,cR] at has;have Do:=has.woL.wo;rw[<-BT.out] at Do;have Ds:=zH Do;clear has Do GS;go_wp2;go_roundw
          case rel=>exact⟨j+1,yq,by go_num,Jz,Ds.out⟩
          case measure=>simp[de];omega
    ·have GT:j=m.fs.length:=by omega
     rw[GT] at ur;have Ds:=zH ur;clear ur uv GT;go_wp2
     go_ret2
     refine⟨D+2,D,D+1,(lA,lC),If,rfl, ?_⟩;have:=Ds.out;rw[yv.out,cR] at this;rw[we.out]
     show Wo _ _ _ _ _ _ _ _ _ ((iq m.ptrs (bq m) 0 m.fs).map _) ((iq m.ptrs (bq m) 0 m.fs).map _) _ _
     exact this
def eH (B:bh)(w:World)(d:cG fS)(C:bj (bj aw)):Prop:=
 ∀(k:bh)(c:bj aw),C[k]?=tG c->∃g ao cap,d=tG ⟨g,0,tM⟩/\(B<=g/\g<w.heap.size)/\w.cell? ⟨g,k,tM⟩=tG (tU ao c.length cap)/\dH w ao c/\∀a,c≠[]->ao=tG a->B<=a.block
theorem eH.ext {B:bh}{w w':World}{j:cG fS}{C:bj (bj aw)}{M:bh->Prop}(h:eH B w j C)(f:Ext M w w')(o:∀k,B<=k->k<w.heap.size->¬M k):eH B w' j C:=λk c x=>by
 obtain⟨g,ao,cap,y,d,z,q,t⟩:=h k c x;refine⟨g,ao,cap,y,⟨d.1,cH d.2 f.size⟩,(f.cell (a:=⟨g,k,tM⟩) d.2 (o g d.1 d.2)).trans z,cu q f (λa u e=> ?_),t⟩;obtain⟨b,E,v,A,_⟩:=q u;have:=t a u e;rw[e] at v;obtain rfl:=cE v;exact o _ this A
theorem eH.below {B:bh}{w w':World}{d:cG fS}{C:bj (bj aw)}(h:eH B w d C)(e:aE w.heap.size w w'):eH B w' d C:=h.ext (Ext.of_below_size (M:=λ_=>me) e) (λ_ _ _ h=>h)
theorem eH.mono {B B':bh}{w:World}{d:cG fS}{C:bj (bj aw)}(h:eH B w d C)(f:B'<=B):eH B' w d C:=λk c o=>by
 obtain⟨g,ao,cap,q,j,t,u,v⟩:=h k c o;exact⟨g,ao,cap,q,⟨eJ f j.1,j.2⟩,t,u,λa x e=>eJ f (v a x e)⟩
structure Ig (D:bh)(N:aw)(w:World)(C:bj (bj aw))(fa:cG fS)(fc:bh)(vals:bj cA)(wr:World):Prop where
 row:wr.heap[D]?=tG (uc #[Z U N,tU fa C.length fc] 48 (0,0))
 own:wr.ownsRow (D+1) 35 1 (tU fa C.length fc) C.length vals
 len:vals.length=C.length
 cls:∀(k:bh)(c:bj aw),C[k]?=tG c->∃ao cap,vals[k]?=tG (tU ao c.length cap)/\dH wr ao c/\(c≠[]->∀a,ao=tG a->D+1<=a.block/\¬(ci fa C.length fc).ownBlock=tG a.block)
 low:aE D w wr
 hD:w.heap.size<=D
theorem Ig.clsIn {D:bh}{N:aw}{w wr:World}{C:bj (bj aw)}{f:cG fS}{q:bh}{vals:bj cA}(h:Ig D N w C f q vals wr):eH (D+1) wr f C:=λk c j=>by
 obtain⟨ao,cap,t,u,v⟩:=h.cls k c j;have A:=(bl.1 j).1;rcases h.own.2 with⟨_,d⟩|⟨g,cp,E,d,x,y,_⟩
 ·omega
 ·simp only[fm] at d
  refine⟨g,ao,cap,d.1,⟨x,aa y⟩, ?_,u,λa z e=>(v z a e).1⟩;have o:=h.own;rw[d.1] at o;have:=o.cells (g:=g) rfl k _ t;rw[cY] at this;simpa using this
theorem Hr {D:bh}{N:aw}{w wr w5 W8 w9:World}{C:bj (bj aw)}{o a9 ao:cG fS}{t c9 cp:bh}{vals:bj cA}{xs:bj aw}(h:Ig D N w C o t vals wr)(up:aE wr.heap.size wr w5)(ur:aL w5 wr.heap.size (tU ao xs.length cp) xs)(J:aE w5.heap.size w5 W8)
  (uv:w9.ownsRow (D+1) 35 1 (tU a9 (C.length+1) c9) (C.length+1) (vals++[tU ao xs.length cp]))(vm:W8.grownBy w9 (ci o C.length t).ownBlock)
  (ux:∀k,(ci a9 (C.length+1) c9).ownBlock=tG k->(ci o C.length t).ownBlock=tG k\/W8.heap.size<=k):
  Ig D N w (C++[xs]) a9 c9 (vals++[tU ao xs.length cp]) (w9.setCell ⟨D,1,tM⟩ (tU a9 (C.length+1) c9)):=by
 obtain⟨WF,K⟩:=zE (w9.setCell ⟨D,1,tM⟩ (tU a9 (C.length+1) c9));rw[K];have A:aE wr.heap.size wr W8:=up.trans (J.mono up.size);have vc:Ext (λq=>(ci o C.length t).ownBlock=tG q) W8 w9:=Ext.of_grown vm (λq d=> .inl d);have vd:Ext (·=D) w9 WF:=by rw[<-K];exact Ext.set1 w9 D 1 _
 have vf:Ext (λq=>q=D\/(ci o C.length t).ownBlock=tG q) W8 WF:=(vc.mono (λq h=> .inr h)).trans vd (λq h=> .inl (.inl h));have vh:Ext (λq=>q=D\/(ci o C.length t).ownBlock=tG q) wr WF:=(Ext.of_below_size A).trans vf (λq h=> .inl h);have E:(C++[xs]).length=C.length+1:=by simp
 have G:∀k,(ci o C.length t).ownBlock=tG k->D+1<=k/\k<wr.heap.size:=λk u=>ai h.own u;have vu:D<W8.heap.size:=by have:=aa h.row;have:=A.size;omega
 have vp:=aa h.row;refine⟨?_, ?_,by simp[h.len], ?_,h.low.trans (vh.below (by omega) (λq d=>by rcases d with rfl|d;exact cg _;have:=(G q d).1;omega)),h.hD⟩
 ·rw[E,<-K]
  exact bk w9 D 1 _ _ _ (vc.heap ((A.block D vp).trans h.row) (λe=>by have:=(G _ e).1;omega))
 ·rw[E];exact ah uv vd (λk u e=>by have:=(ai uv u).1;omega)
 ·intro k c j
  rw[rh] at j
  by_cases u:k<C.length
  ·rw[cI u] at j
   obtain⟨vq,vr,R,h2,h3⟩:=h.cls k c j;refine⟨vq,vr,by rw[mB (by have:=(bl.1 R).1;omega)];exact R,cu h2 vh (λa f e d=>by
    obtain⟨v,y⟩:=h3 f a e;rcases d with d|d
    ·omega
    ·exact y d),λf a e=>⟨(h3 f a e).1,λz=> ?_⟩⟩
   rw[E] at z;rcases ux _ z with x|x
   ·exact(h3 f a e).2 x
   ·obtain⟨b,vx,v,y,_⟩:=h2 f
    rw[e] at v;obtain rfl:=cE v;have:=A.size;simp only at y x;omega
  ·rw[bx u] at j
   obtain⟨vy,rfl⟩:k-C.length=0/\xs=c:=by
    cases d:k-C.length with
    |zero=>rw[d] at j;exact⟨rfl,by simpa using j⟩
    |succ q=>rw[d] at j;simp at j
   have vt:k=vals.length:=by rw[h.len];omega
   have ue:∀a,xs≠[]->ao=tG a->wr.heap.size<=a.block/\a.block<w5.heap.size:=λa f e=>by
    obtain⟨g,v,y,e3,_⟩:=ur.shape (ms.2 f);rw[e] at v;obtain rfl:=cE v;exact⟨y,e3⟩
   have we:=J.size;refine⟨ao,cp,by rw[vt];simp,cu (aJ.grow (tZ ur rfl) J) vf (λa f e d=> ?_),λf a e=>⟨?_,λz=> ?_⟩⟩
   ·have:=ue a f e
    rcases d with d|d
    ·omega
    ·have:=(G _ d).2;omega
   ·have:=ue a f e;omega
   ·have R:=ue a f e
    rw[E] at z;rcases ux _ z with x|x
    ·have:=(G _ x).2;omega
    ·omega
section
variable {T Bb MB:bh}{lv:cG fS×bh}{P:bj (aw×aw)}{N:aw}{F:aw×aw->aw}{C:bj (bj aw)}{Y:bj (aw×aw)}{at_:aw×aw}{B:bh}{tg:bh->bh}{s:ow}
def Gj (w:World)(N:aw)(C:bj (bj aw))(e:Ending)(w':World):Prop:=
 ∃d f,e= ud (ub #[Z U N,tU d C.length f])/\eH (w.heap.size+1) w' d C/\aE w.heap.size w w'
theorem uk (w:World)(h:Wn T Bb MB lv P N F C Y at_ B tg s w)(zj:∀c∈C,c.length<=80000):
  ge am 59 #[tW (tG ⟨Bb,0,tM⟩)] w (Gj w N C):=by
 obtain⟨D,hD⟩:=zE w.heap.size;obtain⟨W1,ur⟩:=zE (w.alloc (uc #[Z U 0,tU tM 0 0] 48));have vx:=il ur;have uv:W1.heap[D]?=tG (uc #[Z U 0,tU tM 0 0] 48 (0,0)):=by rw[<-ur,<-hD];exact alloc_at _ _
 have h1:=h.grow vx;obtain⟨b0,b1⟩:W1.cell? ⟨Bb,0,tM⟩=tG (Z U N)/\W1.cell? ⟨Bb,1,tM⟩=tG (tU s.fA C.length s.fC):=⟨(rowAt h1.bld 0 rfl).1,(rowAt h1.bld 1 rfl).1⟩
 have vy:=aa h1.bld;have zp:Bb≠D:=by have:=(h.lo Bb (by rw[h.t2];decide)).2;omega
 have zs:=aa uv;obtain⟨d0,f0⟩:=rowAt uv 0 rfl;have Bm:=h.lC;have H:=zH h;have xo:=zH vx;have zv:=zH ur;have An:=zH uv;have z:=zH hD;obtain⟨i0,At,Ax,AD,AE⟩:=kB wY;clear h ur vx uv h1;go_enter func59,ntmps59
 go_upto_region 1 with(fail)
 rw[zv.out];(try rw[z.out])
 go_upto_region 4 with(fail)
 obtain⟨E,ux⟩:=zE (W1.setCell ⟨D,0,tM⟩ (Z U N));rw[ux];have vc:Ext (·=D) W1 E:=by rw[<-ux];exact Ext.set1 _ _ _ _
 have xp:E.heap[D]?=tG (uc #[Z U N,tU tM 0 0] 48 (0,0)):=by rw[<-ux];exact bk W1 D 0 _ _ _ An.out
 have xt:aE D w E:=by
  have:=xo.out;rw[z.out] at this;exact this.trans (vc.below (by have:=xo.out.size;have:=z.out;omega) (λq hq=>by omega))
 have xF:Ig D N w [] tM 0 [] E:=⟨xp,World.ownsRow_nil _ _ _ _,rfl,λk c hc=>by simp at hc,xt,by have:=z.out;omega⟩
 have c1:E.cell? ⟨Bb,1,tM⟩=tG (tU s.fA C.length s.fC):=(vc.cell (a:=⟨Bb,1,tM⟩) vy zp).trans b1;have AF:Bb<E.heap.size:=cH vy vc.size;have AH:=zH xF;clear b0 b1 d0 f0 ux vc xp xt xF vy zs
 go_upto_region 5 with(fail)
 clear c1 AF;obtain⟨fA,we⟩:=zE s.fA;have AI:=zH we;rw[we];clear we
 go_loopw [20] (λkk wr=>∃j:bh,j<=C.length/\kk= Z U (j:aw)/\∃o t vals,Ig D N w (C.take j) o t vals wr) (λkk _=>C.length-(de kk).toNat)
 case atStart=>exact⟨0,cN _,rfl,tM,0,[],AH.out⟩
 case round=>
  obtain⟨j,hj,rfl,o,t,vals,u⟩:=hrel;obtain⟨v,xT⟩:=zE wr;rw[xT] at u⊢;clear xT wr
  by_cases yb:j<C.length
  ·obtain⟨x,A⟩:∃x,C[j]?=tG x:=⟨_,ap yb⟩
   have Bs:(j:aw)<(C.length:aw):=by omega
   obtain⟨ao,cap,hv,yd,_⟩:=H.out.cls.2 j x A;have vd:aE w.heap.size w v:=by rw[z.out];exact u.low
   obtain⟨g,hg,AK,AM⟩:∃g,fA=tG ⟨g,0,tM⟩/\v.cell? ⟨g,j,tM⟩=tG (tU ao x.length cap)/\g<v.heap.size:=by
    rcases H.out.frow.2 with⟨_,h3⟩|⟨g,cp,By,h3,h4,h5,_⟩
    ·omega
    ·simp only[fm] at h3
     have J:=H.out.frow;rw[h3.1] at J;have:=J.cells (g:=g) rfl j _ hv;rw[cY,cL] at this;exact⟨g,by rw[<-AI.out];exact h3.1,by rw[vd.cell (p:=⟨g,j,tM⟩) (aa h5)];exact this,cH (aa h5) vd.size⟩
   subst hg;have AN:=zj x (cd A);have y:(C.take j).length=j:=by rw[ee];omega
   have d:=u.row;have J:=u.own;have wg:=u.len;rw[y] at d J wg;have ye:=aa d;obtain⟨K,vf⟩:=zE ((λw'=>w'.heap[D]?=tG (uc #[Z U N,tU o j t] 48 (0,0))):World->Prop);have AS:K v.drew:=by rw[<-vf];exact d
   have wj:cj (∀W,W.heap[D]?=tG (uc #[Z U N,tU o j t] 48 (0,0))->K W):=λW hW=>by rw[<-vf];exact hW
   have vh:cj (∀w,K w->w.cell? ⟨D,1,tM⟩=tG (tU o j t)/\D<w.heap.size):=λw hw=>by rw[<-vf] at hw;exact⟨(rowAt hw 1 rfl).1,aa hw⟩
   have AT:=zH (pM v.drew ao x cap ((dH.at_ (aJ.grow yd vd)).below (aq _ _).drew) AN);have AW:=zH u;have HX:=zH A;have wk:=zH d;have A0:=zH J;have BE:=zH wg;have A1:=zH y;clear u A hv yd vd d J wg y vf
   go_upto_region 7 with(fail)
   clear AK AM;refine aj 7 K (by kernel_rfl) ?_;refine zT 0 rfl vh.out ?_;(try go_simp);refine zT 1 rfl vh.out ?_;(try go_simp);refine zT 2 rfl vh.out ?_;(try go_simp);refine zO 3 rfl λK' f=> ?_;go_simp;go_at_call 111;refine AT.out.mono ?_;rintro e w5 ⟨R,ue,rfl,yi,yk⟩;have vm:aE v.heap.size v w5:=(aq _ _).drew.trans yk;have vp:=(vm.block D ye).trans wk.out;refine f _ _ (wj.out _ vp) ?_;clear f;(try go_simp);refine zO 4 rfl λK' f=> ?_;go_simp;obtain⟨G,hG⟩:=zE w5.heap.size;obtain⟨W8,vq⟩:=zE (w5.alloc (uc #[tU R x.length ue] 35));(try rw[hG]);(try rw[vq]);have vr:=il vq;have yp:W8.heap[G]?=tG (uc #[tU R x.length ue] 35 (0,0)):=by rw[<-vq,<-hG];exact alloc_at _ _
   have vt:=(vr.block D (aa vp)).trans vp;have wl:=ownsRow_below (ownsRow_below A0.out vm) vr;refine f _ _ (wj.out _ vt) ?_;clear f;(try go_simp);refine zO 5 rfl λK' f=> ?_;have A2:D+1<=W8.heap.size:=aa vt;refine aI (.tmp 25) (.tmp 28) 46 rfl (D+1) 35 i0 _ 1 24 rn At Ax AD AE rfl (by decide) (tU o j t) j vals rfl wl (tG ⟨G,0,tM⟩) 1 1 [tU R x.length ue] rfl rfl (λh=>by cases h) (λad A3 jj uu hu=>by
    obtain rfl:(⟨G,0,tM⟩:fS)=ad:=by simpa using A3
    rw[cY,cL,bw _ _ _ _ _ _ yp];simpa using hu) (by simp[ct]) (by unfold eC;omega) (by omega) A2 ?_
   intro v9 w9 ws xf yq;obtain⟨vu,c9,A4⟩:=aC ws;subst A4;have yr:Ext (λq=>(ci o j t).ownBlock=tG q) W8 w9:=Ext.of_grown xf (λq hq=> .inl hq);have up:=yr.heap vt (λe=>by have:=(ai wl e).1;omega);have yv:K w9:=wj.out _ up;have A5:=(rowAt up 1 rfl).2;have A6:=(rowAt up 1 rfl).1;have BT:=aa up;refine f _ _ yv ?_;clear f;(try go_simp);refine zT 6 rfl vh.out ?_;(try go_simp);refine zK rfl λK' f=> ?_;go_simp;refine f _ _ ?_;clear f;refine⟨by kernel_rfl, ?_⟩;have yy:Ig D N w (C.take j++[x]) vu c9 (vals++[tU R x.length ue]) (w9.setCell ⟨D,1,tM⟩ (tU vu (j+1) c9)):=by
    have y:=A1.out;have:=Hr (xs:=x) (ao:=R) (cp:=ue) (a9:=vu) (c9:=c9) AW.out vm yi vr (by rw[y];exact ws) (by rw[y];exact xf) (by rw[y];exact yq);rw[y] at this;exact this
   have Bk:=zH yy;clear yy ws xf yq yr up yv wl vt vp yp vq vr vm yi yk hG AS A6 A5;go_wp2;go_roundw
   case rel=>exact⟨j+1,yb,by go_num,vu,c9,_,by rw[aH HX.out];exact Bk.out⟩
   case measure=>simp[de];omega
  ·have yW:j=C.length:=by omega
   have xj:Ig D N w C o t vals v:=by rw[yW,cR] at u;exact u
   have d:=xj.row;obtain⟨k0,g0⟩:=rowAt d 0 rfl;obtain⟨k1,g1⟩:=rowAt d 1 rfl;have ye:=aa d;have zc:=zH xj;have wk:=zH d;clear u xj d yW;go_wp2;(try simp only[dk,Exit.then]);have A:Ext (·=D) v ((v.setCell ⟨D,0,tM⟩ (Z U N)).setCell ⟨D,1,tM⟩ (tU o C.length t)):=ae (ae (Ext.refl _ _) _) _;refine er (fk (P:=am) rfl _ _ D 48 _ (0,0) _ rfl (bf wk.out) underlying48 rfl (by kernel_rfl)) rfl ?_;refine⟨o,t,rfl, ?_,by rw[z.out];exact zc.out.low.trans (A.below (by omega) (λq hq=>by omega))⟩;rw[z.out];exact zc.out.clsIn.ext A (λk hk _ e=>by omega)
theorem nK (w:World)(h:Wn T Bb MB lv P N F C Y at_ B tg s w)(R:∀c∈C,c.length<=80000):
  ge am 16 #[tW (tG ⟨T,0,tM⟩)] w (Gj w N C):=by
 obtain⟨D,v⟩:=zE w.heap.size;obtain⟨W1,f⟩:=zE (w.alloc (uc #[Z U 0,tU tM 0 0] 48));have o:=il f;have x:W1.heap[D]?=tG (uc #[Z U 0,tU tM 0 0] 48 (0,0)):=by rw[<-f,<-v];exact alloc_at _ _
 have g:=h.grow o;have c0:=(rowAt g.row 0 rfl).1;have uv:=aa g.row;have ue:=zH (uk W1 g R);have j:=zH o;have y:=zH f;have z:=zH x;have t:=zH v;clear h f o x g;go_enter func16,ntmps16
 go_upto_region 1 with(fail)
 rw[y.out];(try rw[t.out])
 go_wp2_with (go_at_call 59;refine ue.out.mono ?_;rintro e w2 ⟨A,E,rfl,G,u⟩;have up:=zH G;have J:=zH u;have d:=(u.block D (aa z.out)).trans z.out;have ur:=zH d;obtain⟨k0,g0⟩:=rowAt d 0 rfl;obtain⟨k1,g1⟩:=rowAt d 1 rfl;have ux:=aa d;clear G u d)
 (try simp only[dk,Exit.then]);have K:Ext (·=D) w2 ((w2.setCell ⟨D,0,tM⟩ (Z U N)).setCell ⟨D,1,tM⟩ (tU A C.length E)):=ae (ae (Ext.refl _ _) _) _;refine er (fk (P:=am) rfl _ _ D 48 _ (0,0) _ rfl (bf ur.out) underlying48 rfl (by kernel_rfl)) rfl ?_;refine⟨A,E,rfl, ?_,(j.out.trans (J.out.mono j.out.size)).trans (K.below (eJ j.out.size J.out.size) (λq hq=>by have:=t.out;omega))⟩;refine eH.mono (up.out.ext K (λk hk _ e=> ?_)) ?_
 ·have:=t.out;have:=y.out;have h9:W1.heap.size=w.heap.size+1:=by rw[<-this];simp
  omega
 ·have:=j.out.size;omega
theorem xh (w:World)(h:Wn T Bb MB lv P N F C Y at_ B tg s w)(f v:aw)(d:bN f)(e:bN v):
  zS 24 #[tW (tG ⟨T,0,tM⟩),Z U f,Z U v] w (Z U (F (f,v))):=by
 have c2:w.cell? ⟨T,2,tM⟩=tG (.map (tG MB)):=(rowAt h.row 2 rfl).1;have g:=aa h.row;have j:=h.map.look d e;clear h;go_enter func24,ntmps24;go_wp2;go_ret;exact⟨rfl,rfl⟩
theorem EM (w:World)(h:Wn T Bb MB lv P N F C Y at_ B tg s w)(f v:aw)(o:bN f)(q:bN v)(hF:0<=F (f,v)/\F (f,v)<=9000000):
  zS 25 #[tW (tG ⟨T,0,tM⟩),Z U f,Z U v] w (Z U (if F (f,v)=0 then 0 else F (f,v)+1)):=by
 have g:=zH (xh w h f v o q);obtain⟨z,j⟩:=zE (F (f,v));rw[j] at g hF⊢;obtain⟨h0,u⟩:=hF;clear h j
 by_cases d:z=0
 ·have t:(z==0)=tP:=by rw[d];rfl
  rw[cI d];clear d;go_enter func25,ntmps25
  go_wp2_with (go_at_call 24;refine g.out.mono ?_;rintro e w ⟨rfl,rfl⟩)
  go_ret;exact⟨rfl,rfl⟩
 ·have t:(z==0)=tR:=ef d
  rw[bx d];clear d;go_enter func25,ntmps25
  go_wp2_with (go_at_call 24;refine g.out.mono ?_;rintro e w ⟨rfl,rfl⟩)
  go_ret;exact⟨by go_num,rfl⟩
theorem De:∀(l:bj (aw×aw))(i:bh)(p:aw×aw),l[i]?=tG p->(l.flatMap qh)[i*2+0]?=tG (Z U p.1)/\(l.flatMap qh)[i*2+1]?=tG (Z U p.2):=by
 intro l
 induction l with
 |nil=>intro i p hi;simp at hi
 |cons x r ih=>
  intro i p hi;cases i with
  |zero=>
   obtain rfl:x=p:=by simpa using hi
   exact⟨rfl,rfl⟩
  |succ i=>
   obtain⟨d,e⟩:=ih i p (by simpa using hi);rw[fW];refine⟨?_, ?_⟩
   ·rw[hZ (by simp[qh];omega),show(i+1)*2+0-(qh x).length=i*2+0 by simp[qh];omega];exact d
   ·rw[hZ (by simp[qh];omega),show(i+1)*2+1-(qh x).length=i*2+1 by simp[qh];omega];exact e
theorem EN (w:World)(h:Wn T Bb MB lv P N F C Y at_ B tg s w)(k:bh)(y:aw×aw)(e:Y[k]?=tG y):
  zP 21 #[tW (tG ⟨T,0,tM⟩),Z U (k:aw)] w (.tuple #[Z U y.1,Z U y.2,ua tP]):=by
 have x:=aa h.row;have z:=(bl.1 e).1;have A:(k:aw)<(Y.length:aw):=by omega
 have E:=h.lY;obtain⟨j,o⟩:=De Y k y e;have d:=h.yrow;have c3:w.cell? ⟨T,3,tM⟩=tG (tU s.yA Y.length s.yC):=(rowAt h.row 3 rfl).1;obtain⟨g,q,G⟩:∃g,s.yA=tG ⟨g,0,tM⟩/\g<w.heap.size:=by
  rcases d.2 with⟨_,f⟩|⟨g,cap,J,f,_,t,_⟩
  ·omega
  ·simp only[fm] at f
   exact⟨g,f.1,aa t⟩
 rw[q] at d c3;have u:=d.cells (g:=g) rfl _ _ j;have v:=d.cells (g:=g) rfl _ _ o;rw[cY,cL,ki] at u;rw[cY,cL] at v;clear h d j o e;go_enter func21,ntmps21
 go_upto_region 3 with(fail)
 go_quiet (fail)
 go_wp2
 go_ret3
 exact⟨rfl,hU (aq _ _) _⟩
end
theorem ul (N:aw)(D:bh)(ao:cG fS)(xs:bj aw)(cap:bh)(w:World)(q:0<=N/\N<=100000)(t:w.cell? ⟨D,0,tM⟩=tG (Z U N))(j:xs.length<=eC)(d:ak w ao xs)(f:xs.all (bL N)=tP):
  zP 66 #[tU ao xs.length cap,tW (tG ⟨D,0,tM⟩)] w (ua tR):=by
 have g:=zH (wZ N (by omega) ao xs cap w j d);rw[f] at g;clear d f;go_enter func66,ntmps66
 go_wp2_with (go_at_call 67;refine g.out.mono ?_;rintro e w2 ⟨rfl,h⟩;have o:=zH h;clear h)
 go_ret;exact⟨rfl,o.out⟩
theorem vN (N:aw)(D:bh)(B:bh)(o:cG fS)(C:bj (bj aw))(E:bh)(w:World)(G:0<=N/\N<=100000)(q:w.cell? ⟨D,0,tM⟩=tG (Z U N))(t:D<w.heap.size)(hC:eH B w o C)(u:∀c∈C,c.all (bL N)=tP/\c.length<=80000)(hl:C.length<=1000000):
  zP 115 #[tU o C.length E,.func (.func 66) #[] #[tW (tG ⟨D,0,tM⟩)]] w (Z U (-1)):=by
 have J:=zH hC;have K:=zH u;have R:=zH q;have ue:=zH t;clear hC u q t;go_enter func115,ntmps115
 go_wp2_with fail
 go_loopw [8] (λk wr=>∃j:bh,j<=C.length/\k= Z U (j:aw)/\aE w.heap.size w wr) (λk _=>C.length-(de k).toNat)
 case atStart=>exact⟨0,cN _,rfl,aq _ _⟩
 case round=>
  obtain⟨j,hj,rfl,d⟩:=hrel
  by_cases up:j<C.length
  ·obtain⟨x,h⟩:∃x,C[j]?=tG x:=⟨_,ap up⟩
   have uv:(j:aw)<(C.length:aw):=by omega
   obtain⟨g,ao,cap,rfl,v,hg,y,_⟩:=(J.out.below d) j x h;have ux:=v.2;obtain⟨z,h2⟩:=K.out x (cd h);have HR:=zH (ul N D ao x cap wr G (by rw[d.cell (p:=⟨D,0,tM⟩) ue.out];exact R.out) (by unfold eC;omega) (dH.at_ y) z);have f:=zH d;clear d h y z h2 v
   go_wp2_with (go_at_call 66;refine HR.out.mono ?_;rintro e w2 ⟨rfl,A⟩;have ur:=zH A;clear A)
   go_roundw
   case rel=>exact⟨j+1,by omega,by go_num,f.out.trans (ur.out.mono f.out.size)⟩
   case measure=>simp[de];omega
  ·have f:=zH d
   clear d;go_wp2;go_ret;exact⟨rfl,f.out⟩
theorem mV (N:aw)(D:bh)(B:bh)(d:cG fS)(C:bj (bj aw))(f:bh)(w:World)(o:0<=N/\N<=100000)(g:w.cell? ⟨D,0,tM⟩=tG (Z U N))(q:D<w.heap.size)(hC:eH B w d C)(h:∀c∈C,c.all (bL N)=tP/\c.length<=80000)(t:C.length<=1000000):
  zP 65 #[tU d C.length f,.func (.func 66) #[] #[tW (tG ⟨D,0,tM⟩)]] w (ua tR):=by
 have u:=zH (vN N D B d C f w o g q hC h t);clear hC h g;go_enter func65,ntmps65
 go_wp2_with (go_at_call 115;refine u.out.mono ?_;rintro e w2 ⟨rfl,j⟩;have v:=zH j;clear j)
 go_ret;exact⟨rfl,v.out⟩
theorem mg (N:aw)(B:bh)(d:cG fS)(C:bj (bj aw))(f:bh)(w:World)(o:0<=N/\N<=100000)(hC:eH B w d C)(q:∀c∈C,c.all (bL N)=tP/\c.length<=80000)(G:C.length<=200000):
  zP 20 #[ub #[Z U N,tU d C.length f]] w (ua tP):=by
 obtain⟨D,v⟩:=zE w.heap.size;obtain⟨W1,g⟩:=zE (w.alloc (uc #[Z U N,tU d C.length f] 48));have j:=il g;have h:W1.heap[D]?=tG (uc #[Z U N,tU d C.length f] 48 (0,0)):=by rw[<-g,<-v];exact alloc_at _ _
 have x:=(rowAt h 0 rfl).1;have J:=(rowAt h 1 rfl).1;have y:=aa h;have z:=zH (mV N D B d C f W1 o x y (hC.below j) q (by omega));have d1:decide (N<0)=tR:=cv (by omega);have d2:decide (100000<N)=tR:=cv (by omega);have d3:decide ((200000:aw)<(C.length:aw))=tR:=cv (by omega);obtain⟨K,R⟩:=o;have ue:(C.length:aw)<=200000:=by omega
 have t:=zH j;have A:=zH g;clear hC q g j h;go_enter func20,ntmps20
 go_upto_region 1 with(fail)
 rw[A.out]
 go_wp2_with (go_at_call 65;refine z.out.mono ?_;rintro e w2 ⟨rfl,u⟩;have E:=zH u;clear u)
 go_ret;exact⟨rfl,t.out.trans (E.out.mono t.out.size)⟩
def pR (w:World)(ao:cG fS)(M:bj mm):Prop:=∀(k:bh)(x:mm),M[k]?=tG x->∃g d,ao=tG ⟨g,d,tM⟩/\g<w.heap.size/\w.cell? ⟨g,d+k,tM⟩=tG (ua x)
theorem pR.below {w w':World}{ao:cG fS}{M:bj mm}(h:pR w ao M)(d:aE w.heap.size w w'):pR w' ao M:=λk x j=>by
 obtain⟨g,e,o,f,q⟩:=h k x j;exact⟨g,e,o,cH f d.size,by rw[d.cell (p:=⟨g,e+k,tM⟩) f];exact q⟩
def za (M:bj mm)(x:aw):mm:=M.getD (max x (-x)-1).toNat tR==decide (0<x)
theorem Bn (M:bj mm)(D:bh)(ao:cG fS)(cap:bh)(x:aw)(w:World)(K:w.cell? ⟨D,0,tM⟩=tG (tU ao M.length cap))(R:D<w.heap.size)(h:pR w ao M)(o:bL (M.length:aw) x=tP)(hl:M.length<=100000):
  zP 60 #[Z U x,tW (tG ⟨D,0,tM⟩)] w (ua (za M x)):=by
 unfold bL at o;rw[fj,fj,oE,oE] at o;obtain⟨⟨h0,h1⟩,h2⟩:=o;have ue:x≠0:=by simpa using h0
 by_cases j:0<x
 ·obtain⟨q,rfl⟩:∃q:bh,x=((q+1:bh):aw):=⟨(x-1).toNat,by omega⟩
  have t:q<M.length:=by omega
  obtain⟨y,d⟩:∃y,M[q]?=tG y:=⟨_,ap t⟩
  obtain⟨g,v,rfl,z,A⟩:=h q y d;have u:cj (za M ((q+1:bh):aw)=(y==tP)):=by
   unfold cj za;rw[show(max ((q+1:bh):aw) (-((q+1:bh):aw))-1).toNat=q by omega,ox,d,cV j];rfl
  have E:decide (0<((q+1:bh):aw))=tP:=cV j;have G:¬(((q+1:bh):aw)< -((q+1:bh):aw)):=by omega
  have J:max ((q:aw)+1) (-((q:aw)+1))=(q:aw)+1:=by omega
  clear h d h0;go_enter func60,ntmps60;go_wp2;go_ret;have f:=u.out;rw[show((q+1:bh):aw)=(q:aw)+1 by omega] at f;exact⟨by rw[f];cases y<;>rfl,aq _ _⟩
 ·obtain⟨q,rfl⟩:∃q:bh,x= -((q+1:bh):aw):=⟨(-x-1).toNat,by omega⟩
  have t:q<M.length:=by omega
  obtain⟨y,d⟩:∃y,M[q]?=tG y:=⟨_,ap t⟩
  obtain⟨g,v,rfl,z,A⟩:=h q y d;have u:cj (za M (-((q+1:bh):aw))=(y==tR)):=by
   unfold cj za;rw[show(max (-((q+1:bh):aw)) (-(-((q+1:bh):aw)))-1).toNat=q by omega,ox,d,cv j];rfl
  have E:decide (0< -((q+1:bh):aw))=tR:=cv j;have G: -((q+1:bh):aw)< -(-((q+1:bh):aw)):=by omega
  have J:max (-((q:aw)+1)) ((q:aw)+1)=(q:aw)+1:=by omega
  have up:max (-((q:aw)+1)) (-(-((q:aw)+1)))=(q:aw)+1:=by omega
  clear h d h0;go_enter func60,ntmps60;go_wp2;go_ret;have f:=u.out;rw[show((q+1:bh):aw)=(q:aw)+1 by omega] at f;have e:decide ((q:aw)+1<0)=tR:=cv (by omega);exact⟨by rw[f];show qt (ua (y==decide ((q:aw)+1<0)))=_;rw[e],aq _ _⟩
def nL (M:bj mm)(C:bj (bj aw)):mm:=C.all λc=>c.any (za M)
theorem Df (M:bj mm)(B:bh)(J ao:cG fS)(C:bj (bj aw))(fc cap:bh)(w:World)(hC:eH B w J C)(hM:pR w ao M)(hl:M.length<=100000)(vh:∀c∈C,c.all (bL (M.length:aw))=tP/\c.length<=80000)(vp:C.length<=200000):
  zP 17 #[ub #[Z U (M.length:aw),tU J C.length fc],tU ao M.length cap] w (ua (nL M C)):=by
 obtain⟨D,hD⟩:=zE w.heap.size;obtain⟨W1,K⟩:=zE ((w.alloc (uc #[Z U (M.length:aw),tU J C.length fc] 48)).alloc (uc #[tU ao M.length cap] 50));have R:=E8 K;have f:=vY K hD;have A:=zl K hD;have hn:(0:aw)<=(M.length:aw)/\(M.length:aw)<=100000:=by omega
 have k0:=(rowAt f 0 rfl).1;have k1:=(rowAt f 1 rfl).1;have k2:=(rowAt A 0 rfl).1;have vq:=aa A;have HR:=zH (mg (M.length:aw) B J C fc W1 hn (hC.below R) vh vp);have uv:=zH R;have ws:=zH K;have yy:=zH f;have yW:=zH A;have vr:=zH (hC.below R);have vt:=zH (hM.below R);have xf:=zH vh;have xj:=zH hl;have zc:=zH vp;have xo:((M.length:aw) != (M.length:aw))=tR:=by simp
 have vm:cj (∀{w2:World},aE W1.heap.size W1 w2->w2.cell? ⟨D,0,tM⟩=tG (Z U (M.length:aw))/\w2.cell? ⟨D,1,tM⟩=tG (tU J C.length fc)/\w2.cell? ⟨D+1,0,tM⟩=tG (tU ao M.length cap)):=zH λh=>⟨(rowAt ((h.block D (aa f)).trans f) 0 rfl).1,(rowAt ((h.block D (aa f)).trans f) 1 rfl).1,(rowAt ((h.block (D+1) (aa A)).trans A) 0 rfl).1⟩
 clear hC hM vh K R f A;go_enter func17,ntmps17
 go_upto_region 1 with(fail)
 rw[ws.out]
 go_step3
 go_upto_region 3 with(go_at_call 20;refine HR.out.mono ?_;rintro e w2 ⟨rfl,ue⟩;have xp:=(vm.out ue).1;have xt:=(vm.out ue).2.1;have vu:=(vm.out ue).2.2;have o:=zH ue;clear ue k0 k1 k2)
 have vx:D+1<w2.heap.size:=cH vq o.out.size;have xF:=zH (vr.out.below o.out);have xT:=zH (vt.out.below o.out);have yb:=zH vu;have vy:=zH vx;clear xp vu vr vt
 go_wp2_with fail
 go_step3
 go_wp2_with fail
 clear xt vq vx xo
 go_loopg [24] C.length (λm c wr=>∃k:bh,k<=C.length/\c= Z U (k:aw)/\m=C.length-k/\(∀j x,j<k->C[j]?=tG x->x.any (za M)=tP)/\aE w2.heap.size w2 wr)
 case atStart=>exact⟨0,cN _,rfl,rfl,λ_ _ h=>fL h (oR _),aq _ _⟩
 case round=>
  obtain⟨k,hk,rfl,rfl,ux,d⟩:=hrel
  by_cases yd:k<C.length
  ·obtain⟨x,E⟩:∃x,C[k]?=tG x:=⟨_,ap yd⟩
   have zj:(k:aw)<(C.length:aw):=by omega
   obtain⟨g,ye,zp,rfl,we,hg,q,_⟩:=(xF.out.below d) k x E;have zs:=we.2;obtain⟨h1,h2⟩:=xf.out x (cd E);have HX:=zH E;have yi:=zH ux;have HB:=zH d;have yk:=zH q;have H1:=zH h1;clear E ux d q h1 we
   go_wp2_with fail
   go_loopw [30] (λc wg=>∃i:bh,i<=x.length/\c= Z U (i:aw)/\(∀j y,j<i->x[j]?=tG y->za M y=tR)/\aE w2.heap.size w2 wg/\dH wg ye x) (λc _=>x.length-(de c).toNat)
   case atStart=>exact⟨0,cN _,rfl,λ_ _ h=>fL h (oR _),HB.out,yk.out⟩
   case round=>
    obtain⟨i,hi,rfl,vc,d,q⟩:=hrel
    by_cases wj:i<x.length
    ·obtain⟨y,G⟩:∃y,x[i]?=tG y:=⟨_,ap wj⟩
     have zv:(i:aw)<(x.length:aw):=by omega
     obtain⟨b,An,rfl,At,wk⟩:=q.at_ (by intro e;subst e;simp at wj);have Ax:=wk i y G;have wl:bL (M.length:aw) y=tP:=gA.1 H1.out y (cd G);have HL:=zH (Bn M (D+1) ao cap y wr (by rw[d.cell (p:=⟨D+1,0,tM⟩) vy.out];exact yb.out) (cH vy.out d.size) (xT.out.below d) wl xj.out);obtain⟨v,hv⟩:=zE (za M y);rw[hv] at HL;have HV:=zH hv;have HY:=zH G;have yp:=zH vc;have vd:=zH d;have yq:=zH q;clear hv G vc d q wk wl;cases v with
     |true=>
      go_wp2_with (go_at_call 60;refine HL.out.mono ?_;rintro e w4 ⟨rfl,up⟩;have vf:=zH up;clear up)
      go_roundg (C.length-(k+1))
      case measure=>omega
      case rel=>
       refine⟨k+1,by omega,by go_num,rfl,λj z t u=> ?_,vd.out.trans (vf.out.mono vd.out.size)⟩
       by_cases e:j=k
       ·subst e
        rw[HX.out] at u;obtain rfl:=cE u;exact kh.2 ⟨y,cd HY.out,HV.out⟩
       ·exact yi.out j z (by omega) u
     |false=>
      go_wp2_with (go_at_call 60;refine HL.out.mono ?_;rintro e w4 ⟨rfl,up⟩;have vf:=zH up;clear up)
      go_roundw
      case rel=>
       refine⟨i+1,by omega,by go_num,λj z t u=> ?_,vd.out.trans (vf.out.mono vd.out.size),yq.out.grow vf.out⟩
       by_cases e:j=i
       ·subst e
        rw[HY.out] at u;obtain rfl:=cE u;exact HV.out
       ·exact yp.out j z (by omega) u
      case measure=>simp[de];omega
    ·have yr:i=x.length:=by omega
     subst yr;have ur:nL M C=tR:=by
      unfold nL;rw[m6];refine⟨x,cd HX.out, ?_⟩;rw[Bool.not_eq_true,lx];intro y G;obtain⟨j,t⟩:=List.getElem?_of_mem G;rw[vc j y (bl.1 t).1 t];exact Bool.false_ne_true
     have HE:cj (nL M C=tR/\aE w.heap.size w wr):=⟨ur,uv.out.trans ((o.out.trans (d.mono o.out.size)).mono uv.out.size)⟩
     clear ur vc d q;go_wp2
     try rw[ml]
     go_ret;exact⟨by rw[HE.out.1];rfl,HE.out.2⟩
  ·have yv:k=C.length:=by omega
   subst yv;have ur:nL M C=tP:=by
    unfold nL;rw[gA];intro x E;obtain⟨j,t⟩:=List.getElem?_of_mem E;exact ux j x (bl.1 t).1 t
   have HE:cj (nL M C=tP/\aE w.heap.size w wr):=⟨ur,uv.out.trans ((o.out.trans (d.mono o.out.size)).mono uv.out.size)⟩
   clear ur ux d;go_wp2
   try rw[ml]
   go_ret;exact⟨by rw[HE.out.1];rfl,HE.out.2⟩
theorem Gl {p:Pg}{V:bj Ty}{I:bj gV}{s:Sl}{fA fC:bh}(h:KA p V I):
  eU (jJ p V I s fA fC)=0/\(jJ p V I s fA fC).ptrs=[(0,0)]/\((jJ p V I s fA fC).wants (bq (jJ p V I s fA fC))).map eN=[[-1,-2],[1],[1]]:=by
 obtain⟨d,e,f,j,rfl,v,c0,x,c1,y,c2,z,c3,rfl⟩:=h;obtain⟨o,g,q,t⟩:=xZ j;cases p;simp only at d e f g;subst d e f g;obtain⟨nm,u,tg,A,E⟩:=o;obtain⟨rfl,rfl⟩:u=tP/\tg=bS:=qs ..▸q;subst t;refine⟨by kernel_rfl,by kernel_rfl,by kernel_rfl⟩
theorem Ht {w:World}{p:Pg}{V:bj Ty}{I:bj gV}{s:Sl}{fA fC:bh}(h:KA p V I)(u:(jJ p V I s fA fC).inn w):qp w (jJ p V I s fA fC):=by
 have t:=(Gl (s:=s) (fA:=fA) (fC:=fC) h).2.1;obtain⟨z,A,E,v,rfl,f,c0,g,c1,o,c2,q,c3,rfl⟩:=h;obtain⟨G,y,J,K⟩:=xZ v;have R:p.fs.length=1:=by rw[y];rfl
 refine⟨⟨u,by simp[jJ],by simp[jJ],λx d=> ?_,λx d=> ?_,λx d i hi=> ?_⟩,λx d i hi=> ?_,λx d=> ?_,λx d=> ?_,by simp[jJ],by rw[t];decide,by rw[t];simp[jJ,aO,nN]⟩
 ·obtain rfl:x=GH p:=by simpa[jJ] using d
  show p.fs.length<=90000
  omega
 all_goals obtain rfl:x=nN p _ _ s:=by simpa[jJ] using d
 ·show([(tP,bS),bM].map Ef).length<=90000
  decide
 ·have e:i∈([⟨12,0,0,0,0,f,c0⟩,⟨13,0,0,0,0,g,c1⟩,⟨1,1,0,0,0,o,c2⟩,⟨18,0,1,0,0,q,c3⟩]:bj gV).map gV.ins:=hi
  obtain⟨j,_,rfl⟩:=gi.1 e;exact cN _
 ·have e:i∈([⟨12,0,0,0,0,f,c0⟩,⟨13,0,0,0,0,g,c1⟩,⟨1,1,0,0,0,o,c2⟩,⟨18,0,1,0,0,q,c3⟩]:bj gV).map gV.ins:=hi
  simp only[mA,pm,gh,sB,or_false] at e;rcases e with rfl|rfl|rfl|rfl<;>refine⟨?_, ?_, ?_, ?_⟩<;>(unfold bN gV.ins;dsimp only;omega)
 ·show([(tP,bS),bM].map Ef).length<=400
  decide
 ·show(([⟨12,0,0,0,0,f,c0⟩,⟨13,0,0,0,0,g,c1⟩,⟨1,1,0,0,0,o,c2⟩,⟨18,0,1,0,0,q,c3⟩]:bj gV).map gV.ins).length<=400
  simp
theorem qw (w:World)(c d:eA cA)(t:gt)(o:Obj):((w.alloc (uc c t)).alloc o).setRow w.heap.size d=(w.alloc (uc d t)).alloc o:=by
 have h:=congrArg World.heap (World.setRow_alloc_new w c d t);unfold World.setRow World.alloc at*;simp only at h⊢;congr 1;rw[<-h];apply Array.ext
 ·simp
 ·intro i f j
  simp only[Array.getElem_modify,Array.getElem_push];simp at f
  by_cases e:w.heap.size=i
  ·subst e
   simp
  ·rw[bx e]
   by_cases g:i<w.heap.size
   ·simp[g,show i<w.heap.size+1 by omega,e]
   ·simp[show¬i<w.heap.size+1 by omega]
theorem oq {P:lr}(w:World)(t:gt)(c d:eA cA)(o:Obj)(e:c.size=d.size)(f:∀v∈d.toList,v.oneCell'=tP):
  (dt ⟨w.heap.size,0,tM⟩ d.toList 0).run P ((w.alloc (uc c t)).alloc o)= .ok () ((w.alloc (uc d t)).alloc o):=by
 rw[run_storeCells_from w.heap.size t d.toList 0 c _ (kp _ _ _) (by simp[e]) f];simp[qw]
def Jg (m:Mo):Prop:=eU m=0/\m.ptrs=[(0,0)]/\(m.wants (bq m)).map eN=[[-1,-2],[1],[1]]
theorem Dh (w:World):ge am 52 #[tS El] w λe w'=>∃m:Mo,Jg m/\qp w' m/\e= ud (.tuple #[ub #[tU m.sA m.ss.length m.sC,tU m.fA m.fs.length m.fC],ub #[Z U 0,Z U 0,Z U 0,Z U 0]])/\aE w.heap.size w w':=
 (Ac w).mono λ_ _ ⟨_,_,_,_,_,_,h1,h2,h3,h4⟩=>⟨_,Gl h1,Ht h1 h3,h2,h4⟩
theorem EO {w:World}{a b:cG fS}{n1 n2 c1 c2:bh}{o:Obj}:∀(c:eA cA),c.size=2->(dt ⟨w.heap.size,0,tM⟩ [tU a n1 c1,tU b n2 c2] 0).run am ((w.alloc (uc c 25)).alloc o)= .ok () ((w.alloc (uc #[tU a n1 c1,tU b n2 c2] 25)).alloc o):=λc d=>
 oq w _ c #[tU a n1 c1,tU b n2 c2] o (by rw[d];rfl) (by simp[ct])
theorem EP {w:World}{o:Obj}:∀(c:eA cA),c.size=4->(dt ⟨w.heap.size+1,0,tM⟩ [Z U 0,Z U 0,Z U 0,Z U 0] 0).run am ((w.alloc o).alloc (uc c 113))= .ok () ((w.alloc o).alloc (uc #[Z U 0,Z U 0,Z U 0,Z U 0] 113)):=λc d=>by
 have:=nO (w:=w.alloc o) c d
 rwa [World.size_alloc] at this
theorem EQ {w:World}{N:aw}{a:cG fS}{n k:bh}:∀(c:eA cA),c.size=2->(dt ⟨w.heap.size,0,tM⟩ [Z U N,tU a n k] 0).run am (w.alloc (uc c 48))= .ok () (w.alloc (uc #[Z U N,tU a n k] 48)):=λc d=>
 cx (P:=am) w 48 c #[Z U N,tU a n k] (by show _=tG 2;kernel_rfl) d (by simp[ct])
theorem vO (w:World):zP 14 #[] w (ua tP):=by
 have HT:=zH (Dh w);go_enter func14,ntmps14
 go_upto_region 2 with(go_at_call 52;refine HT.out.mono ?_;rintro e w2 ⟨m,hA,hW,rfl,vf⟩;have wl:=EO (w:=w2) (a:=m.sA) (b:=m.fA) (n1:=m.ss.length) (n2:=m.fs.length) (c1:=m.sC) (c2:=m.fC) (o:= uc #[Z U 0,Z U 0,Z U 0,Z U 0] 113);have ws:=EP (w:=w2) (o:= uc #[tU m.sA m.ss.length m.sC,tU m.fA m.fs.length m.fC] 25);have vh:=zH vf;have HA:=zH hA;have g:=zH hW;clear vf hA hW)
 obtain⟨D,hD⟩:=zE w2.heap.size;obtain⟨f,v⟩:=zE ((w2.alloc (uc #[tU m.sA m.ss.length m.sC,tU m.fA m.fs.length m.fC] 25)).alloc (uc #[Z U 0,Z U 0,Z U 0,Z U 0] 113));have up:=E8 v;have A:=vY v hD;rw[v,hD];have xf:cj (ge am 15 #[ub #[tU m.sA m.ss.length m.sC,tU m.fA m.fs.length m.fC]] f λe w'=>∃T Bb MB lv at_ tg s Y,e= ud (.tuple #[tW (tG ⟨T,0,tM⟩),Z U 0])/\Wn T Bb MB lv [(0,0)] 2 (aG 0 [(0,0)]) [[-1,-2],[1],[1]] Y at_ (f.heap.size+1) tg s w'/\aE f.heap.size f w'):=by
  obtain⟨h1,h2,h3⟩:=HA.out;refine(pQ m f ⟨iG.below g.out.ri up,g.out.wf,g.out.nv,g.out.ni,g.out.nf,g.out.np,g.out.nt⟩ h1).mono ?_;rintro e w' ⟨T,Bb,MB,lv,at_,he,tg,s,t,hb⟩;rw[h2,h3] at t;refine⟨T,Bb,MB,lv,at_,tg,s,_,he,t, ?_⟩;have xj:aE f.heap.size f (f.alloc (uc m.cells 25)):=(aq _ _).alloc (cg _) _;exact xj.trans (hb.mono (i5 _))
 obtain⟨c0,c1⟩:f.cell? ⟨D,0,tM⟩=tG (tU m.sA m.ss.length m.sC)/\f.cell? ⟨D,1,tM⟩=tG (tU m.fA m.fs.length m.fC):=⟨(rowAt A 0 rfl).1,(rowAt A 1 rfl).1⟩
 have xo:=aa A;have vm:cj (aE w.heap.size w f):=vh.out.trans (up.mono vh.out.size);clear wl ws up A hD v
 go_upto_region 3 with(go_at_call 15;refine xf.out.mono ?_;rintro e w4 ⟨T,Bb,MB,lv,at_,tg,s,Y,rfl,t,vp⟩;have xp:=zH t;have xt:=zH (nK w4 t (by decide));have vq:=zH vp;clear t vp)
 clear c0 c1 xo
 go_upto_region 4 with(go_at_call 16;refine xt.out.mono ?_;rintro e w5 ⟨h,j,rfl,vr,vt⟩;have xF:=EQ (w:=w5) (N:=2) (a:=h) (n:=3) (k:=j);have ur:=zH vt;have xT:=zH vr;clear vt vr)
 obtain⟨E,hE⟩:=zE w5.heap.size;obtain⟨d,G⟩:=zE (w5.alloc (uc #[Z U 2,tU h 3 j] 48));have J:=il G;have u:d.heap[E]?=tG (uc #[Z U 2,tU h 3 j] 48 (0,0)):=by rw[<-G,<-hE];exact alloc_at _ _
 rw[G,hE];have uv:=(xp.out.grow ur.out).grow J;have hF:aG 0 [((0:aw),(0:aw))] (0,0)=1:=by kernel_rfl
 have vu:=zH (xh d uv 0 0 (by unfold bN;omega) (by unfold bN;omega));have ux:=zH (EM d uv 0 0 (by unfold bN;omega) (by unfold bN;omega) (by rw[hF];decide));rw[hF] at vu ux;rw[bx (by decide),show(1:aw)+1=2 from rfl] at ux;have yb:=zH (xT.out.below J);have vx:=zH u;have vy:cj (aE w.heap.size w d):=vm.out.trans ((vq.out.trans ((ur.out.trans (J.mono ur.out.size)).mono vq.out.size)).mono vm.out.size);obtain⟨e0,e1⟩:d.cell? ⟨E,0,tM⟩=tG (Z U 2)/\d.cell? ⟨E,1,tM⟩=tG (tU h 3 j):=⟨(rowAt u 0 rfl).1,(rowAt u 1 rfl).1⟩
 have vc:=aa u;have we:cj (∀(x y:mm)(W:World),aE d.heap.size d W->zP 17 #[ub #[Z U 2,tU h 3 j],tU (tG ⟨W.heap.size,0,tM⟩) 2 2] (W.alloc (uc #[ua x,ua y] 4)) (ua (nL [x,y] [[-1,-2],[1],[1]]))):=by
  intro x y W hb;have yd:aE W.heap.size W (W.alloc (uc #[ua x,ua y] 4)):=(aq _ _).alloc (cg _) _;have wg:(W.alloc (uc #[ua x,ua y] 4)).heap[W.heap.size]?=tG (uc #[ua x,ua y] 4 (0,0)):=alloc_at _ _;refine Df [x,y] _ h _ [[-1,-2],[1],[1]] j 2 _ ((yb.out.below hb).below yd) (λk z q=>⟨W.heap.size,0,rfl,by simp, ?_⟩) (by simp) (show∀c∈([[-1,-2],[1],[1]]:bj (bj aw)),c.all (bL ((2:bh):aw))=tP/\c.length<=80000 by decide) (by decide)
  match k,q with
  |0,q=>
   obtain rfl:x=z:=by simpa using q
   exact(rowAt wg 0 rfl).1
  |1,q=>
   obtain rfl:y=z:=by simpa using q
   exact(rowAt wg 1 rfl).1
  |k+2,q=>simp at q
 clear xF J u uv hE G hF
 go_wp2_with (first|(go_at_call 24;refine vu.out.mono ?_;rintro e w7 ⟨rfl,rfl⟩)|(go_at_call 25;refine ux.out.mono ?_;rintro e w7 ⟨rfl,rfl⟩))
 refine(we.out tP tR d (aq _ _)).mono ?_;rintro e K ⟨rfl,wj⟩;have vd:aE d.heap.size d K:=((aq _ _).alloc (cg _) _).trans (wj.mono (by simp));have R:=zH vd;have ue:=(vd.block E (aa vx.out)).trans vx.out;clear e0 e1 vc wj;obtain⟨e0,e1⟩:K.cell? ⟨E,0,tM⟩=tG (Z U 2)/\K.cell? ⟨E,1,tM⟩=tG (tU h 3 j):=⟨(rowAt ue 0 rfl).1,(rowAt ue 1 rfl).1⟩
 have vc:=aa ue;clear ue vd;rw[show nL [tP,tR] [[-1,-2],[1],[1]]=tP by kernel_rfl]
 go_wp2_with fail
 refine(we.out tR tR K R.out).mono ?_;rintro e w9 ⟨rfl,wk⟩;have ye:cj (aE d.heap.size d w9):=(R.out.alloc R.out.size _).trans (wk.mono (by have:=R.out.size;simp;omega));rw[show nL [tR,tR] [[-1,-2],[1],[1]]=tR by kernel_rfl];clear wk e0 e1 vc;go_wp2;go_ret;exact⟨rfl,vy.out.trans (ye.out.mono vy.out.size)⟩
theorem DU {α β:Type}{f:α->β}{cells:β->eA cA}{d:bh}{w:World}{B:bh}{ao:cG fS}{xs:bj α}(h:aJ (λa=>cells (f a)) d w B ao xs):aJ cells d w B ao (xs.map f):=by
 intro j;obtain⟨b,o,q,t,v⟩:=h (λe=>j (by rw[e];rfl));refine⟨b,o,q,t,λi y g k u z=> ?_⟩;rw[rm] at g;obtain⟨x,A,rfl⟩:=ip.1 g;exact v i x A k u z
def Mo.lightW (m:Mo):Prop:=BM (m.ss.map St.s) (m.fs.map Fn.c)
def Mo.shortW (m:Mo):Prop:=m.fs.length<=12/\m.lightW
theorem zb (w:World)(m:Mo)(d:m.inn w):ge am 70 #[ub m.cells] w (rZ w w.heap.size m.lightW):=by
 have h:=xn w m.sA m.fA m.sC m.fC (m.ss.map St.s) (m.fs.map Fn.c) (DU d.srow) (DU d.frow) (by
  intro c e;obtain⟨f,g,rfl⟩:=gi.1 e;exact(d.fin f g).code.row) (by
  intro c e x j;obtain⟨f,g,rfl⟩:=gi.1 e;exact((d.fin f g).code.args x j).1) (by have:=d.ns;unfold eC at this;simpa using this) (by have:=d.nf;unfold eC at this;simpa using this)
 simp only[dy] at h;exact h
theorem vP (w:World)(m:Mo)(t:m.inn w):ge am 27 #[ub m.cells] w (rZ w w.heap.size m.shortW):=by
 obtain⟨M,R⟩:=zE m;have HM:=zH R;have vc:=zH t;have ue:=t.nf;have up:=zH t.frow;clear t R;obtain⟨sA,sC,fA,fC,u,fs⟩:=m;simp only at ue up;simp only[Mo.cells];obtain⟨N,o⟩:=zE w.heap.size;obtain⟨W1,v⟩:=zE (w.alloc (uc #[tU sA u.length sC,tU fA fs.length fC] 25));have y:W1.heap[N]?=tG (uc #[tU sA u.length sC,tU fA fs.length fC] 25 (0,0)):=by rw[<-v,<-o];exact alloc_at _ _
 have c1:W1.cell? ⟨N,0,tM⟩=tG (tU sA u.length sC):=(bw _ _ _ _ _ _ y).trans rfl;have c2:W1.cell? ⟨N,1,tM⟩=tG (tU fA fs.length fC):=(bw _ _ _ _ _ _ y).trans rfl;have A:=il v;have E:=zH (zb W1 M (by rw[<-HM.out];exact vc.out.below A));rw[<-HM.out] at E;simp only[Mo.cells] at E;have d:=zH A;have vd:=zH v;have vp:=aa y;clear y A v;unfold eC at ue;go_enter func27,ntmps27
 go_upto_region 1 with(fail)
 rw[vd.out]
 go_upto_region 3 with(fail)
 go_loopw [3,4] (λz c wr=>wr=W1/\∃(j:bh) (x:aw),j<=fs.length/\j<=20/\c= Z U (j:aw)/\z= Z U x) (λ_ c _=>20-(de c).toNat)
 case atStart=>exact⟨rfl,0,0,cN _,by omega,rfl,rfl⟩
 case round=>
  obtain⟨rfl,j,x,hj,vq,rfl,rfl⟩:=hrel;have q:12<fs.length->∀b:mm,b=tR->rZ w w.heap.size (Mo.shortW ⟨sA,sC,fA,fC,u,fs⟩) (ud (ua b)) wr:=λ_ b g=>⟨b,rfl,λh=>by rw[g] at h;exact fL h (by decide),d.out⟩
  by_cases G:j<fs.length
  ·have vf:(j:aw)<(fs.length:aw):=by omega
   by_cases vr:j<20
   ·have vt:(j:aw)<20:=by omega
    obtain⟨f,hf⟩:∃f,fs[j]?=tG f:=⟨_,ap G⟩
    obtain⟨b,vh,rfl,g,ur⟩:=up.out (by intro e;rw[e] at G;simp at G);have q7:wr.cell? ⟨b,vh+j*8+7,tM⟩=tG (tU f.c.insA f.c.ins.length f.c.insC):=by rw[d.out.cell (p:=⟨b,_,tM⟩) g];exact ur j f hf 7 _ rfl
    clear ur hf q;go_wp2;go_roundw
    case rel=>exact⟨trivial,j+1,_,by omega,by omega,by go_num,rfl⟩
    case measure=>simp[de];omega
   ·have J:decide (fs.length<=12)=tR:=cv (by omega)
    have vu:decide ((j:aw)<20)=tR:=cv (by omega);have K:decide ((fs.length:aw)<=12)=tR:=cv (by omega);go_wp2;go_ret;have:=q (by omega) _ rfl
    first|exact this|(rw[<-o];exact this)
  ·have vf:decide ((j:aw)<(fs.length:aw))=tR:=cv (by omega)
   by_cases J:fs.length<=12
   ·by_cases h4:x<=400
    ·clear q
     have K:(fs.length:aw)<=12:=by omega
     go_wp2_with (go_at_call 70;refine E.out.mono ?_;rintro e w2 ⟨b,rfl,g,uv⟩;have vm:=zH g;have ux:=zH uv;clear g uv)
     go_ret;exact⟨b,by cases b<;>rfl,λg=>⟨J,vm.out g⟩,by first|exact d.out.trans (ux.out.mono d.out.size)|rw[<-o];exact d.out.trans (ux.out.mono d.out.size)⟩
    ·have vx:decide (x<=400)=tR:=cv h4
     have K:(fs.length:aw)<=12:=by omega
     clear q;go_wp2;go_ret;exact⟨tR,rfl,λh=>fL h (by decide),by first|exact d.out|rw[<-o];exact d.out⟩
   ·have vy:decide (fs.length<=12)=tR:=cv J
    have K:decide ((fs.length:aw)<=12)=tR:=cv (by omega);go_wp2;go_ret;have:=q (by omega) _ rfl
    first|exact this|(rw[<-o];exact this)
theorem vQ (w:World)(m:Mo)(u:m.inn w):ge am 12 #[ub m.cells] w (rZ w w.heap.size m.shortW):=by
 obtain⟨M,hM⟩:=zE m;have HM:=zH hM;have ux:=zH u;have ue:=u.nf;have up:=zH u.frow;clear u hM;obtain⟨sA,sC,fA,fC,E,fs⟩:=m;simp only at ue up;simp only[Mo.cells];obtain⟨N,o⟩:=zE w.heap.size;obtain⟨W1,v⟩:=zE (w.alloc (uc #[tU sA E.length sC,tU fA fs.length fC] 25));have y:W1.heap[N]?=tG (uc #[tU sA E.length sC,tU fA fs.length fC] 25 (0,0)):=by rw[<-v,<-o];exact alloc_at _ _
 have c1:W1.cell? ⟨N,0,tM⟩=tG (tU sA E.length sC):=(bw _ _ _ _ _ _ y).trans rfl;have c2:W1.cell? ⟨N,1,tM⟩=tG (tU fA fs.length fC):=(bw _ _ _ _ _ _ y).trans rfl;have G:=il v;have A:=zH (vP W1 M (by rw[<-HM.out];exact ux.out.below G));rw[<-HM.out] at A;simp only[Mo.cells] at A;have d:=zH G;have vc:=zH v;have vh:=aa y;clear y G v;unfold eC at ue;go_enter func12,ntmps12
 go_upto_region 1 with(fail)
 rw[vc.out]
 go_upto_region 3 with(fail)
 go_loopw [3,4] (λz c wr=>wr=W1/\∃(j:bh) (x:aw),j<=fs.length/\j<=20/\c= Z U (j:aw)/\z= Z U x) (λ_ c _=>20-(de c).toNat)
 case atStart=>exact⟨rfl,0,0,cN _,by omega,rfl,rfl⟩
 case round=>
  obtain⟨rfl,j,x,hj,vm,rfl,rfl⟩:=hrel
  by_cases J:j<fs.length/\j<20
  ·have ur:(j:aw)<(fs.length:aw):=by omega
   have vp:(j:aw)<20:=by omega
   obtain⟨f,hf⟩:∃f,fs[j]?=tG f:=⟨_,ap J.1⟩
   obtain⟨b,vd,rfl,g,uv⟩:=up.out (by intro e;rw[e] at J;simp at J);have q2:wr.cell? ⟨b,vd+j*8+2,tM⟩=tG (tU f.c.varsA f.c.nvars f.c.varsC):=by rw[d.out.cell (p:=⟨b,_,tM⟩) g];exact uv j f hf 2 _ rfl
   clear uv hf;go_wp2;go_roundw
   case rel=>exact⟨trivial,j+1,_,by omega,by omega,by go_num,rfl⟩
   case measure=>simp[de];omega
  ·by_cases vq:j<fs.length
   ·have ur:(j:aw)<(fs.length:aw):=by omega
    have vr:decide ((j:aw)<20)=tR:=cv (by omega)
    by_cases K:x<=200
    ·go_wp2_with (go_at_call 27;refine A.out.mono ?_;rintro e w2 ⟨b,rfl,g,q⟩;have R:=zH g;have t:=zH q;clear g q)
     go_ret;exact⟨b,by cases b<;>rfl,R.out,by first|exact d.out.trans (t.out.mono d.out.size)|rw[<-o];exact d.out.trans (t.out.mono d.out.size)⟩
    ·have vf:decide (x<=200)=tR:=cv K
     go_wp2;go_ret;exact⟨tR,rfl,λh=>fL h (by decide),by first|exact d.out|rw[<-o];exact d.out⟩
   ·have ur:decide ((j:aw)<(fs.length:aw))=tR:=cv (by omega)
    by_cases K:x<=200
    ·go_wp2_with (go_at_call 27;refine A.out.mono ?_;rintro e w2 ⟨b,rfl,g,q⟩;have R:=zH g;have t:=zH q;clear g q)
     go_ret;exact⟨b,by cases b<;>rfl,R.out,by first|exact d.out.trans (t.out.mono d.out.size)|rw[<-o];exact d.out.trans (t.out.mono d.out.size)⟩
    ·have vf:decide (x<=200)=tR:=cv K
     go_wp2;go_ret;exact⟨tR,rfl,λh=>fL h (by decide),by first|exact d.out|rw[<-o];exact d.out⟩
theorem ou {w:World}:∀(fs:bj Fn)(k:bh),(∀f∈fs,f.inn w)->(bY k fs).length+aO fs<=dW (fs.map Fn.c)+fs.length
 |[],_,_=>by simp[bY,aO]
 |x::r,k,h=>by
  have e:=ou r (k+1) (λf d=>h f (by simp[d]));have g:(dD (k:aw) x).length<=x.vs.length+1:=Db;have j:=(h x (by simp)).nvars
  show(dD (k:aw) x++bY (k+1) r).length+(x.c.ins.length+aO r)<=x.c.ins.length+x.c.nvars+dW (r.map Fn.c)+(r.length+1)
  rw[bo];omega
theorem ER {w:World}{m:Mo}(j:m.inn w)(o:m.shortW)(t:∀g∈m.fs,∀i∈g.c.ins,bN i.d/\bN i.a/\bN i.b/\bN i.f):qp w m:=by
 obtain⟨u,v,x,y,z,A⟩:=o;rw[dy] at v x;have E:=ou m.fs 0 j.fin;have q:∀f∈m.fs,f.c.light:=λf e=>z f.c (gi.2 ⟨f,e,rfl⟩);have G:m.ptrs.length+aO m.fs<=1212:=by
  show(bY 0 m.fs).length+_<=_
  omega
 refine⟨⟨j,by omega,by omega,λs o=> ?_,λf e=> ?_,λf e i hi=> ?_⟩,t,λf e=> ?_,λf e=>(q f e).1,by omega,by omega, ?_⟩
 ·have h:=(y s.s (gi.2 ⟨s,o,rfl⟩)).1
  rw[(j.sin s o).nf] at h;omega
 ·have h:=(q f e).2.1
  rw[(j.fin f e).nvars] at h;omega
 ·exact((q f e).2.2.2.2 i hi).1
 ·have h:=(q f e).2.1
  rw[(j.fin f e).nvars] at h;exact h
 ·have h:m.ptrs.length*m.fs.length<=1212*12:=Nat.mul_le_mul (by omega) u
  omega
end Go.Proofs.YtjomgckjhcfbgaaGreat
