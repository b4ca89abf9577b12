/- Walks. -/
import Derived.Deep.WholeRow
import Derived.Test.YtjomgckjhcfbgaaGreatX5
set_option maxRecDepth 100000
set_option maxHeartbeats 64000000
set_option linter.all false
namespace Go.Proofs.YtjomgckjhcfbgaaGreat
open Go.RowKit
open Go.Proofs.Tryz renaming prog→ac,underlying25→ey,underlying35→gt,underlying113→mL,underlying223→oe
open _root_.List renaming getElem?_eq_getElem→am,mem_of_getElem?→ce,length_append→co,mem_map→dd,length_map→dj,flatMap_cons→dp,drop_eq_getElem_cons→dT,map_append→eS,length_singleton→fR,all_eq_true→gC,getElem?_map→jz,map_cons→kc,append_nil→kh,getElem?_drop→od
open Go.RowKit.Below renaming refl→an,heap_alloc→bt
open Go.RowKit renaming Below→aq,Hid→ca
open _root_ renaming ByteArray→aw,List→bm,Nat→cd,Int→cj,decide_eq_false→cv,if_neg→cw,Array→cG,if_pos→cI,Option→du,absurd→fL,False→jp
open Go renaming heap_setCell_same→aE,cell_of_row→bh,Value→bw,run_storeCells_new→cf,storeCells→cU,bodyPost_ret→da,maxLen→dl,Calls→ft,heap_alloc2_old→fN,TypeId→ge,heap_alloc2_new→jn,info_parts→ld,Addr→oA
open _root_.Nat renaming le_refl→bp,lt_of_lt_of_le→cn,le_trans→cE,zero_add→cH,zero_le→cJ,add_zero→kO
open Go.Value renaming oneCell'→br,string→em,int→eC,ownBlock→eN,string→qT,slice→ra,pointer→rb,bool→re,agg→rh,int→Z
open Go.Exit renaming inBlock→cL
open Go.Addr renaming add_lit→cM
open _root_.Option.some renaming inj→cX,injEq→dc
open Go.Addr.mk renaming injEq→eW
open Go.Value.slice renaming injEq→fz
open _root_.Option renaming map_eq_some_iff→gw,some→qt,none→qu
open _root_.Prod.mk renaming injEq→lz
open _root_.List.cons renaming injEq→qk
open _root_.Bool renaming true→qv,false→qS
open Go.Obj renaming cells→rj
open Go.Ending renaming returned→rk
open Go.IntKind renaming i64→U
open Tryz
theorem Ag:(ac.info? 9).map (λi=>(i.zero,i.size,i.bytes))=qt (qt (qT ⟨#[]⟩),1,16):=by kernel_rfl
theorem jf {α:Type}(f:α->bw)(S:bm α):(S.map f).length=S.length*1:=by simp
theorem gV {α:Type}{f:α->bw}{w:World}{B:cd}{o:du oA}{S:bm α}(h:aH (λx=>#[f x]) 1 w B o S):∀b,o=qt b->∀j u,(S.map f)[j]?=qt u->w.cell? (b.add j)=qt u:=by
 intro b y j u q;rw[jz] at q;obtain⟨x,d,rfl⟩:=gw.1 q;obtain⟨D,G,v,_,A⟩:=h (by intro e;rw[e] at d;simp at d);rw[y] at v;obtain rfl:=cX v;have:=A j x d 0 _ rfl;rw[kO,Nat.mul_one] at this;rw[cM];exact this
theorem sP {α:Type}{f:α->bw}{w:World}{base n:cd}{e:ge}{v:bw}{S:bm α}(h:w.ownsRow base e 1 v n (S.map f))(o:n=S.length){d:du oA}{c:cd}(q:v= ra d n c):aH (λx=>#[f x]) 1 w w.heap.size d S:=by
 subst q;refine dI (cells:=λx=>#[f x]) (m:=1) (λ_=>rfl) (base:=base) (e:=e) (n:=n) (c:=c) ?_ o;have:∀S:bm α,(S.flatMap λx=>(#[f x]:cG bw).toList)=S.map f:=λS=>by
  induction S with
  |nil=>rfl
  |cons a S ih=>rw[dp,ih];rfl
 rw[this];exact h
def EB (p:Pg)(X:Fx)(s:Sl)(d f:cd)(h o:bw):cG bw:=
 #[ra (qt ⟨p.pA,0,qu⟩) 1 p.pC,ra (qt ⟨p.qA,0,qu⟩) 1 p.qC,re X.rt.1,qT X.rt.2,qT X.nm,X.pr,ra s.vA d s.vC,X.r7,X.r8,X.r9,X.fr,ra s.iA f s.iC,h,o,Z U 0,Z U 0,Z U 0,Z U 0,X.hs,X.os]
theorem mi {m:cd}{p:Pg}{L:cd}{X:Fx}{V2:bm Ty}{I2:bm eX}{S:bm (aw×cd)}{O O5:cd->Prop}{y:Sl}{w W1 D o w8 u:World}{nm:aw}{v:cd}{G A:du oA}{c9 J:cd}
  (rr:aq w.heap.size w W1)(rL:Ext (λq=>q=m\/O q) W1 D)(rN:∀k,O5 k->O k\/W1.heap.size<=k)(d:Mk m p L X V2 I2 S O5 y D)(rv:Ext (·=m) D o)
  (rx:o.heap[m]?=qt (rj (EB p X y V2.length I2.length (ra G (S.length+1) c9) (ra y.wA S.length y.wC)) 236 (0,0)))
  (rl:o.ownsRow D.heap.size 9 1 (ra G (S.length+1) c9) (S.length+1) ((S++[(nm,v)]).map λx:aw×cd=>em x.1))
  (rB:aq o.heap.size o u)(h8:o.heap.size<=w8.heap.size)
  (rm:u.ownsRow w8.heap.size 3 1 (ra A (S.length+1) J) (S.length+1) ((S++[(nm,v)]).map λx:aw×cd=>eC .i64 (x.2:cj)))(sq:S.length+1<=1000):
  bT m p L X V2 I2 (S++[(nm,v)]) O w (u.setCell ⟨m,13,qu⟩ (ra A (S.length+1) J)):=by
 obtain⟨WG,rn⟩:=zE (u.setCell ⟨m,13,qu⟩ (ra A (S.length+1) J));rw[rn];have sr:=aa d.row;have rS:=aa rx;have sx:=rv.size;have se:=(rB.block m rS).trans rx;have rI:Ext (·=m) u WG:=by rw[<-rn];exact Ext.set1 u m 13 _
 have sf:WG.heap[m]?=qt (rj (CK p X {y with sA:=G,sC:=c9,wA:=A,wC:=J} V2.length I2.length (S.length+1)) 236 (0,0)):=by rw[<-rn];exact aE u m 13 _ _ _ se
 have rK:Ext (·=m) o WG:=(Ext.of_below_size (M:=(·=m)) rB).trans rI (λq h=> .inl h);have K:Ext (·=m) D WG:=rv.trans rK (λq h=> .inl h);have R:(S++[(nm,v)]).length=S.length+1:=by simp
 have sk:=ae rl rK (λk f e=>by have:=(ai rl f).1;omega);have sn:=ae rm rI (λk f e=>by have:=(ai rm f).1;omega);refine⟨O5,{y with sA:=G,sC:=c9,wA:=A,wC:=J},⟨by rw[R];exact sf,d.pg.ext K (λk f e=>by have:=d.hm;omega),d.hm,ae d.vars K (λk f e=>by have:=(ai d.vars f).1;omega),ae d.ins K (λk f e=>by have:=(ai d.ins f).1;omega),d.dis,d.ov,d.oi,λk f=>⟨(d.ol k f).1,cn (d.ol k f).2 K.size⟩,sP sk R.symm rfl,sP sn R.symm rfl,λa _ e=> ?_,d.lV,d.lI,by rw[R];omega,by rw[R];exact⟨uF rl,uF rm⟩⟩, ?_,λk f=> ?_⟩
 ·rcases e with e|e
  ·have h1:=(ai rl (k:=a.block) (by rw[show G=qt a from e];rfl)).1
   exact⟨by omega,λh=>by have:=(d.ol _ h).2;omega⟩
  ·have h1:=(ai rm (k:=a.block) (by rw[show A=qt a from e];rfl)).1
   exact⟨by omega,λh=>by have:=(d.ol _ h).2;omega⟩
 ·exact((Ext.of_below_size (M:=λq=>q=m\/O q) rr).trans rL (λq h=> .inl h)).trans K (λq h=> .inl (.inl h))
 ·rcases rN k f with h|h
  ·exact .inl h
  ·have:=rr.size;exact .inr (by omega)
theorem wy {m:cd}{p:Pg}{L:cd}{X:Fx}{V:bm Ty}{I:bm eX}{S:bm (aw×cd)}{O:cd->Prop}{s:Sl}(vp:X.os= ra qu 0 0)(y:Ty)(nm:aw)(g cp:cd)(ex:Ex)(hg:g<L/\∀(j:cd)(u:bw),ex.cells.toList[j]?=qt u->∀W,iG p L W->W.cell? ⟨g,j,qu⟩=qt u)(d:cj)(V2:bm Ty)(I2:bm eX)(wk:V.length+1<=1000)(tW:S.length+1<=1000)
  (vq:∀W O s,Mk m p L X (V++[y]) I S O s W->ft ac 217 #[rb (qt ⟨m,0,qu⟩),rh ex.cells,rh #[re y.1,qT y.2],Z U (V.length:cj)] W λe w'=>e= rk (Z U d)/\bT m p L X V2 I2 S O W w')(ln cl:cj)(w:World)(h:Mk m p L X V I S O s w):
  ft ac 180 #[rb (qt ⟨m,0,qu⟩),rh #[Z U 1,re y.1,qT y.2,qT nm,ra (qt ⟨g,0,qu⟩) 1 cp,ra qu 0 0,ra qu 0 0,Z U ln,Z U cl]] w λe w'=>e= rk (.tuple #[])/\bT m p L X V2 I2 (S++[(nm,V.length)]) O w w':=by
 obtain⟨N,hN⟩:=zE w.heap.size;obtain⟨W1,ua⟩:=zE (w.alloc (rj #[Z U 1,re y.1,qT y.2,qT nm,ra (qt ⟨g,0,qu⟩) 1 cp,ra qu 0 0,ra qu 0 0,Z U ln,Z U cl] 282));have vc:=gQ ua hN;have ub:W1.heap[N]?=qt (rj #[Z U 1,re y.1,qT y.2,qT nm,ra (qt ⟨g,0,qu⟩) 1 cp,ra qu 0 0,ra qu 0 0,Z U ln,Z U cl] 282 (0,0)):=by rw[<-ua,<-hN];exact alloc_at _ _
 have xt:=aa ub;have h1:Mk m p L X V I S O s W1:=h.grow (by rw[hN];exact vc);have vr:aq w.heap.size w W1:=by rw[hN];exact vc
 have xF:=aa h1.row;have xT:m<N:=by have:=aa h.row;omega
 have vt:¬(N=m\/O N):=by rintro(h1|h1);omega;have:=(h.ol N h1).2;omega
 have wl:W1.cell? ⟨m,15,qu⟩=qt (Z U 0):=(rowAt h1.row 15 rfl).1;have wn:W1.cell? ⟨m,19,qu⟩=qt (ra qu 0 0):=by rw[<-vp];exact(rowAt h1.row 19 rfl).1
 obtain⟨⟨a0,a1,a2,a3,a4,a5,a6,a7,a8⟩,_,_⟩:=eH ub;have ws:=zH ua;have uc:=zH vr;have vu:=zH ub;have vx:=zH vt;have ya:=zH hN;have wx:=zH (kX y W1 h1 wk);have xf:=zH vq;have HG:=zH hg;clear h h1 ua vc ub vr vt vp vq hg;go_enter func180,ntmps180
 go_upto_region 1 with(fail)
 rw[ws.out]
 go_upto_region 6 with(go_at_call 131;refine wx.out.mono ?_;rintro e w4 ⟨rfl,ud⟩;have xj:=zH ud;clear ud)
 obtain⟨O4,s4,k4,x4,o4⟩:=xj.out;have vd:=x4.heap vu.out vx.out;have vy:=aa vd;have ud:=aa k4.row;clear a0 a1 a2 a3 a4 a5 a6 a7 a8 wl wn;obtain⟨S1,vf⟩:=zE ((λw'=>aq w4.heap.size w4 w'):World->Prop);have ue:S1 w4.drew:=by rw[<-vf];exact(an _ _).drew
 have wa:∀W,S1 W->W.cell? ⟨N,1,qu⟩=qt (re y.1)/\W.cell? ⟨N,2,qu⟩=qt (qT y.2)/\W.cell? ⟨N,4,qu⟩=qt (ra (qt ⟨g,0,qu⟩) 1 cp)/\W.cell? ⟨g,0,qu⟩=qt (Z U ex.kind)/\W.cell? ⟨g,1,qu⟩=qt (Z U ex.n)/\W.cell? ⟨g,2,qu⟩=qt (qT ex.nm)/\W.cell? ⟨g,3,qu⟩=qt (qT ⟨#[]⟩)/\W.cell? ⟨g,4,qu⟩=qt (ra qu 0 0)/\W.cell? ⟨g,5,qu⟩=qt (Z U ex.ln)/\W.cell? ⟨g,6,qu⟩=qt (Z U ex.cl):=λW R=>by
  rw[<-vf] at R;have r1:=(R.block N vy).trans vd;have kk:=(k4.grow R).pg;exact⟨(rowAt r1 1 rfl).1,(rowAt r1 2 rfl).1,(rowAt r1 4 rfl).1,HG.out.2 0 _ rfl W kk,HG.out.2 1 _ rfl W kk,HG.out.2 2 _ rfl W kk,HG.out.2 3 _ rfl W kk,HG.out.2 4 _ rfl W kk,HG.out.2 5 _ rfl W kk,HG.out.2 6 _ rfl W kk⟩
 have sY:=zH wa;have wb:Mk m p L X (V++[y]) I S O4 s4 w4.drew:=k4.grow (an _ _).drew;have hV:=xf.out w4.drew O4 s4 wb;unfold Ex.cells at hV;have HV:=zH hV;clear vf wa hV;refine ah 8 S1 (by kernel_rfl) ?_;refine zT 0 rfl sY.out ?_;(try go_simp);refine zT 1 rfl sY.out ?_;(try go_simp);refine zT 2 rfl sY.out ?_;(try go_simp);refine zT 3 rfl sY.out ?_;(try go_simp);refine zT 4 rfl sY.out ?_;(try go_simp);refine zT 5 rfl sY.out ?_;(try go_simp);refine zT 6 rfl sY.out ?_;(try go_simp);refine zT 7 rfl sY.out ?_;(try go_simp);refine zK rfl λK' v=> ?_;go_simp;go_at_call 217;refine HV.out.mono ?_;rintro e w5 ⟨rfl,O5,s5,k5,x5,o5⟩;refine v _ _ ?_;clear v;refine⟨by kernel_rfl, ?_⟩;have vh:Ext (λq=>q=m\/O q) W1 w5:=x4.trans (((Ext.refl _ _).drew).trans x5 (λq h=> .inl h)) (λq hq=>by
  rcases hq with h|h
  ·exact .inl (.inl h)
  ·rcases o4 q h with h|h
   ·exact .inl (.inr h)
   ·exact .inr h)
 have tB:=vh.heap vu.out vx.out;have ur:=aa tB;have we:=aa k5.row;have wg:∀k,O5 k->O k\/W1.heap.size<=k:=λk hk=>by
  rcases o5 k hk with h|h
  ·exact o4 k h
  ·have:=x4.size;exact .inr (cE this h)
 obtain⟨i0,sx,sy,sB,sE⟩:=ld Ag;have wi:=k5.cS.1;have wj:(S.length:cj)<=(s5.sC:cj):=by omega
 have rI:=zH k5;have yb:=zH tB;have uv:=zH vh;have ux:=zH wg;clear k4 x4 o4 vd vy ud ue wb x5 o5 vh wg
 go_upto_region 7 with(fail)
 obtain⟨S7,tD⟩:=zE ((λw'=>aq w5.heap.size w5 w'):World->Prop);have ue:S7 w5.drew:=by rw[<-tD];exact(an _ _).drew
 have te:∀W,S7 W->aq w5.heap.size w5 W:=λW R=>by rw[<-tD] at R;exact R
 have va:∀W,aq w5.heap.size w5 W->S7 W:=λW R=>by rw[<-tD];exact R
 rcases hA:s5.sA with _|⟨b,vi,fp⟩
 ·have tE:∀W,S7 W->W.cell? ⟨m,12,qu⟩=qt (ra qu S.length s5.sC)/\W.cell? ⟨N,3,qu⟩=qt (qT nm):=λW R=>by
   have r1:=((te W R).block N ur).trans tB;have r2:=(k5.grow (te W R)).row;exact⟨by rw[<-hA];exact(rowAt r2 12 rfl).1,(rowAt r1 3 rfl).1⟩
  have D:=zH tE;have xl:=zH te;have tG:=zH va;clear tE te va tD tB k5;refine ah 22 S7 (by kernel_rfl) ?_;refine zT 0 rfl D.out ?_;(try go_simp);refine zT 1 rfl D.out ?_;(try go_simp);refine zT 2 rfl D.out ?_;(try go_simp);refine zT 3 rfl D.out ?_;(try go_simp);refine zT 4 rfl D.out ?_;(try go_simp);refine zT 5 rfl D.out ?_;(try go_simp);refine zT 6 rfl D.out ?_;(try go_simp);refine zT 7 rfl D.out ?_;(try go_simp);refine zT 8 rfl D.out ?_;(try go_simp);refine zT 9 rfl D.out ?_;(try go_simp);refine zT 10 rfl D.out ?_;(try go_simp);refine zT 11 rfl D.out ?_;(try go_simp);refine zT 12 rfl D.out ?_;(try go_simp);refine zT 13 rfl D.out ?_;(try go_simp);refine zT 14 rfl D.out ?_;(try go_simp);refine zT 15 rfl D.out ?_;(try go_simp);refine zT 16 rfl D.out ?_;(try go_simp);refine zT 17 rfl D.out ?_;(try go_simp);refine zO 18 rfl λK' v=> ?_;go_simp;obtain⟨G,hG⟩:=zE w5.heap.size;obtain⟨J,rl⟩:=zE ((w5.alloc (rj #[qT nm] 9)).drew);(try rw[hG]);(try rw[rl]);have K:aq w5.heap.size w5 J:=by rw[<-rl];exact((an _ _).alloc (bp _) _).drew
  have rK:J.heap[G]?=qt (rj #[qT nm] 9 (0,0)):=by rw[<-rl,<-hG];exact alloc_at _ _
  have rx:S7 J:=tG.out _ K;refine v _ _ rx ?_;clear v;(try go_simp);refine zO 19 rfl λK' v=> ?_;have rB:aH (λx:aw×cd=>#[qT x.1]) 1 J J.heap.size qu S:=by rw[<-hA];exact(rI.out.grow K).seen
  have tf:ca (S.length=0):=by
   by_cases h:S=[]
   ·unfold ca;rw[h];rfl
   ·obtain⟨_,_,h1,_⟩:=rB h;cases h1
  have rL:=gV (f:=λx:aw×cd=>em x.1) rB;refine bH (.tmp 54) (.tmp 57) 223 rfl 9 i0 _ 1 16 oe sx sy sB sE rfl (by decide) qu S.length S.length (S.map λx:aw×cd=>em x.1) rfl (λ_=>⟨tf.out,tf.out⟩) (jf _ _) rL ⟨G,0,qu⟩ 1 1 [qT nm] rfl rfl (λjj uu hu=>by rw[cM,cH,bh _ _ _ _ _ _ rK];simpa using hu) (by simp[br]) (by omega) (by unfold dl;omega) (by omega) ?_;intro v9 w9 rr rN;have rS:Ext (λ_=>jp) J w9:=Ext.of_grown rN (λq hq=>by cases hq);have rm:aq w5.heap.size w5 w9:=K.trans (rS.below K.size (λq h=>h.elim));have rv:S7 w9:=tG.out _ rm;obtain⟨th,c9,sk⟩:=av rr;subst sk;refine v _ _ rv ?_;clear v;(try go_simp);refine zT 20 rfl D.out ?_;(try go_simp);refine zT 21 rfl D.out ?_;(try go_simp);have ti:=rI.out.grow rm;have tj:=(rowAt ti.row 12 rfl).2;obtain⟨x0,x1⟩:=D.out w9 rv;refine zK rfl λK' v=> ?_;go_simp;refine v _ _ ?_;clear v;refine⟨by kernel_rfl, ?_⟩;obtain⟨A,sL⟩:=zE (w9.setCell ⟨m,12,qu⟩ (ra th (S.length+1) c9));(try rw[sL]);have tl:Ext (·=m) w9 A:=by rw[<-sL];exact Ext.set1 w9 m 12 _
  have tm:A.heap[m]?=qt (rj (EB p X s5 V2.length I2.length (ra th (S.length+1) c9) (ra s5.wA S.length s5.wC)) 236 (0,0)):=by rw[<-sL];exact aE w9 m 12 _ _ _ ti.row
  have vj:m<J.heap.size:=by have:=K.size;omega
  have tM:A.ownsRow w5.heap.size 9 1 (ra th (S.length+1) c9) (S.length+1) ((S++[(nm,V.length)]).map λx:aw×cd=>em x.1):=by
   rw[eS];exact aP (ae rr tl (λk hk e=>by have:=(ai rr hk).1;omega)) K.size
  have tn:Ext (·=m) w5 A:=(Ext.of_below_size (M:=(·=m)) rm).trans tl (λq h=> .inl h);have tP:aH (λx:aw×cd=>#[Z U (x.2:cj)]) 1 A A.heap.size s5.wA S:=rI.out.whic.stay tn (λa vm e=>(rI.out.ns a vm (.inr e)).1);have sR:=aa tm;have tR:=zH tn;have se:=zH tm;have tS:=zH tM;have tU:=zH tP;have xo:=rI.out.cS.2;have xp:(S.length:cj)<=(s5.wC:cj):=by omega
  clear tl tm vj tM tn tP sL ti tj x0 x1 rr rN rS rm rv rL rB rK K rl rx hG we ur ue i0 sx sy sB sE wi wj;obtain⟨i0,sx,sy,sB,sE⟩:=ld lU
  go_upto_region 8 with(fail)
  obtain⟨S8,rx⟩:=zE ((λw'=>aq A.heap.size A w'):World->Prop);have xr:S8 A.drew:=by rw[<-rx];exact(an _ _).drew
  have sf:∀W,S8 W->aq A.heap.size A W:=λW R=>by rw[<-rx] at R;exact R
  have sT:∀W,aq A.heap.size A W->S8 W:=λW R=>by rw[<-rx];exact R
  rcases sX:s5.wA with _|⟨b2,tp,tr⟩
  ·have sn:∀W,S8 W->W.cell? ⟨m,13,qu⟩=qt (ra qu S.length s5.wC):=λW R=>by
    rw[<-sX];exact(rowAt (((sf W R).block m sR).trans se.out) 13 rfl).1
   have o:=zH sn;have sq:=zH sT;have vn:=zH sf;clear sn sT sf rx;refine ah 21 S8 (by kernel_rfl) ?_;refine zT 0 rfl o.out ?_;(try go_simp);refine zT 1 rfl o.out ?_;(try go_simp);refine zT 2 rfl o.out ?_;(try go_simp);refine zT 3 rfl o.out ?_;(try go_simp);refine zT 4 rfl o.out ?_;(try go_simp);refine zT 5 rfl o.out ?_;(try go_simp);refine zT 6 rfl o.out ?_;(try go_simp);refine zT 7 rfl o.out ?_;(try go_simp);refine zT 8 rfl o.out ?_;(try go_simp);refine zT 9 rfl o.out ?_;(try go_simp);refine zT 10 rfl o.out ?_;(try go_simp);refine zT 11 rfl o.out ?_;(try go_simp);refine zT 12 rfl o.out ?_;(try go_simp);refine zT 13 rfl o.out ?_;(try go_simp);refine zT 14 rfl o.out ?_;(try go_simp);refine zT 15 rfl o.out ?_;(try go_simp);refine zT 16 rfl o.out ?_;(try go_simp);refine zO 17 rfl λK' v=> ?_;go_simp;obtain⟨G,hG⟩:=zE A.heap.size;obtain⟨J,rl⟩:=zE ((A.alloc (rj #[Z U (V.length:cj)] 3)).drew);(try rw[hG]);(try rw[rl]);have K:aq A.heap.size A J:=by rw[<-rl];exact((an _ _).alloc (bp _) _).drew
   have rK:J.heap[G]?=qt (rj #[Z U (V.length:cj)] 3 (0,0)):=by rw[<-rl,<-hG];exact alloc_at _ _
   have tt:S8 J:=sq.out _ K;refine v _ _ tt ?_;clear v;(try go_simp);refine zO 18 rfl λK' v=> ?_;have rB:aH (λx:aw×cd=>#[Z U (x.2:cj)]) 1 J J.heap.size qu S:=by rw[<-sX];exact tU.out.stay (Ext.of_below_size (M:=λ_=>jp) K) (λ_ _ _ h=>h)
   have tf:ca (S.length=0):=by
    by_cases h:S=[]
    ·unfold ca;rw[h];rfl
    ·obtain⟨_,_,h1,_⟩:=rB h;cases h1
   have rL:=gV (f:=λx:aw×cd=>eC .i64 (x.2:cj)) rB;refine bH (.tmp 76) (.tmp 78) 35 rfl 3 i0 _ 1 8 gt sx sy sB sE rfl (by decide) qu S.length S.length (S.map λx:aw×cd=>eC .i64 (x.2:cj)) rfl (λ_=>⟨tf.out,tf.out⟩) (jf _ _) rL ⟨G,0,qu⟩ 1 1 [Z U (V.length:cj)] rfl rfl (λjj uu hu=>by rw[cM,cH,bh _ _ _ _ _ _ rK];simpa using hu) (by simp[br]) (by omega) (by unfold dl;omega) (by omega) ?_;intro v9 rn rr rN;have rS:Ext (λ_=>jp) J rn:=Ext.of_grown rN (λq hq=>by cases hq);have rm:aq A.heap.size A rn:=K.trans (rS.below K.size (λq h=>h.elim));have rv:S8 rn:=sq.out _ rm;obtain⟨tv,cW,sk⟩:=av rr;subst sk;refine v _ _ rv ?_;clear v;(try go_simp);refine zT 19 rfl o.out ?_;(try go_simp);refine zT 20 rfl o.out ?_;(try go_simp);have tz:=(rm.block m sR).trans se.out;have tj:=(rowAt tz 13 rfl).2;have x0:=o.out rn rv;refine zK rfl λK' v=> ?_;go_simp;refine v _ _ ?_;clear v;refine⟨by kernel_rfl, ?_⟩;have sr:bT m p L X V2 I2 (S++[(nm,V.length)]) O w (rn.setCell ⟨m,13,qu⟩ (ra tv (S.length+1) cW)):=mi uc.out uv.out ux.out rI.out tR.out se.out tS.out rm (by have:=K.size;exact K.size) (by rw[eS];exact rr) tW;have tA:=zH sr;clear sr;go_wp2
   go_end0
   exact⟨rfl,tA.out⟩
  ·have sn:∀W,S8 W->W.cell? ⟨m,13,qu⟩=qt (ra (qt ⟨b2,tp,tr⟩) S.length s5.wC):=λW R=>by
    rw[<-sX];exact(rowAt (((sf W R).block m sR).trans se.out) 13 rfl).1
   have o:=zH sn;have sq:=zH sT;have vn:=zH sf;clear sn sT sf rx;refine ah 21 S8 (by kernel_rfl) ?_;refine zT 0 rfl o.out ?_;(try go_simp);refine zT 1 rfl o.out ?_;(try go_simp);refine zT 2 rfl o.out ?_;(try go_simp);refine zT 3 rfl o.out ?_;(try go_simp);refine zT 4 rfl o.out ?_;(try go_simp);refine zT 5 rfl o.out ?_;(try go_simp);refine zT 6 rfl o.out ?_;(try go_simp);refine zT 7 rfl o.out ?_;(try go_simp);refine zT 8 rfl o.out ?_;(try go_simp);refine zT 9 rfl o.out ?_;(try go_simp);refine zT 10 rfl o.out ?_;(try go_simp);refine zT 11 rfl o.out ?_;(try go_simp);refine zT 12 rfl o.out ?_;(try go_simp);refine zT 13 rfl o.out ?_;(try go_simp);refine zT 14 rfl o.out ?_;(try go_simp);refine zT 15 rfl o.out ?_;(try go_simp);refine zT 16 rfl o.out ?_;(try go_simp);refine zO 17 rfl λK' v=> ?_;go_simp;obtain⟨G,hG⟩:=zE A.heap.size;obtain⟨J,rl⟩:=zE ((A.alloc (rj #[Z U (V.length:cj)] 3)).drew);(try rw[hG]);(try rw[rl]);have K:aq A.heap.size A J:=by rw[<-rl];exact((an _ _).alloc (bp _) _).drew
   have rK:J.heap[G]?=qt (rj #[Z U (V.length:cj)] 3 (0,0)):=by rw[<-rl,<-hG];exact alloc_at _ _
   have tt:S8 J:=sq.out _ K;refine v _ _ tt ?_;clear v;(try go_simp);refine zO 18 rfl λK' v=> ?_;have rB:aH (λx:aw×cd=>#[Z U (x.2:cj)]) 1 J J.heap.size (qt ⟨b2,tp,tr⟩) S:=by rw[<-sX];exact tU.out.stay (Ext.of_below_size (M:=λ_=>jp) K) (λ_ _ _ h=>h)
   have rL:=gV (f:=λx:aw×cd=>eC .i64 (x.2:cj)) rB;refine bH (.tmp 76) (.tmp 78) 35 rfl 3 i0 _ 1 8 gt sx sy sB sE rfl (by decide) (qt ⟨b2,tp,tr⟩) S.length S.length (S.map λx:aw×cd=>eC .i64 (x.2:cj)) rfl (λh=>by cases h) (jf _ _) rL ⟨G,0,qu⟩ 1 1 [Z U (V.length:cj)] rfl rfl (λjj uu hu=>by rw[cM,cH,bh _ _ _ _ _ _ rK];simpa using hu) (by simp[br]) (by omega) (by unfold dl;omega) (by omega) ?_;intro v9 rn rr rN;have rS:Ext (λ_=>jp) J rn:=Ext.of_grown rN (λq hq=>by cases hq);have rm:aq A.heap.size A rn:=K.trans (rS.below K.size (λq h=>h.elim));have rv:S8 rn:=sq.out _ rm;obtain⟨tv,cW,sk⟩:=av rr;subst sk;refine v _ _ rv ?_;clear v;(try go_simp);refine zT 19 rfl o.out ?_;(try go_simp);refine zT 20 rfl o.out ?_;(try go_simp);have tz:=(rm.block m sR).trans se.out;have tj:=(rowAt tz 13 rfl).2;have x0:=o.out rn rv;refine zK rfl λK' v=> ?_;go_simp;refine v _ _ ?_;clear v;refine⟨by kernel_rfl, ?_⟩;have sr:bT m p L X V2 I2 (S++[(nm,V.length)]) O w (rn.setCell ⟨m,13,qu⟩ (ra tv (S.length+1) cW)):=mi uc.out uv.out ux.out rI.out tR.out se.out tS.out rm (by have:=K.size;exact K.size) (by rw[eS];exact rr) tW;have tA:=zH sr;clear sr;go_wp2
   go_end0
   exact⟨rfl,tA.out⟩
 ·have tE:∀W,S7 W->W.cell? ⟨m,12,qu⟩=qt (ra (qt ⟨b,vi,fp⟩) S.length s5.sC)/\W.cell? ⟨N,3,qu⟩=qt (qT nm):=λW R=>by
   have r1:=((te W R).block N ur).trans tB;have r2:=(k5.grow (te W R)).row;exact⟨by rw[<-hA];exact(rowAt r2 12 rfl).1,(rowAt r1 3 rfl).1⟩
  have D:=zH tE;have xl:=zH te;have tG:=zH va;clear tE te va tD tB k5;refine ah 22 S7 (by kernel_rfl) ?_;refine zT 0 rfl D.out ?_;(try go_simp);refine zT 1 rfl D.out ?_;(try go_simp);refine zT 2 rfl D.out ?_;(try go_simp);refine zT 3 rfl D.out ?_;(try go_simp);refine zT 4 rfl D.out ?_;(try go_simp);refine zT 5 rfl D.out ?_;(try go_simp);refine zT 6 rfl D.out ?_;(try go_simp);refine zT 7 rfl D.out ?_;(try go_simp);refine zT 8 rfl D.out ?_;(try go_simp);refine zT 9 rfl D.out ?_;(try go_simp);refine zT 10 rfl D.out ?_;(try go_simp);refine zT 11 rfl D.out ?_;(try go_simp);refine zT 12 rfl D.out ?_;(try go_simp);refine zT 13 rfl D.out ?_;(try go_simp);refine zT 14 rfl D.out ?_;(try go_simp);refine zT 15 rfl D.out ?_;(try go_simp);refine zT 16 rfl D.out ?_;(try go_simp);refine zT 17 rfl D.out ?_;(try go_simp);refine zO 18 rfl λK' v=> ?_;go_simp;obtain⟨G,hG⟩:=zE w5.heap.size;obtain⟨J,rl⟩:=zE ((w5.alloc (rj #[qT nm] 9)).drew);(try rw[hG]);(try rw[rl]);have K:aq w5.heap.size w5 J:=by rw[<-rl];exact((an _ _).alloc (bp _) _).drew
  have rK:J.heap[G]?=qt (rj #[qT nm] 9 (0,0)):=by rw[<-rl,<-hG];exact alloc_at _ _
  have rx:S7 J:=tG.out _ K;refine v _ _ rx ?_;clear v;(try go_simp);refine zO 19 rfl λK' v=> ?_;have rB:aH (λx:aw×cd=>#[qT x.1]) 1 J J.heap.size (qt ⟨b,vi,fp⟩) S:=by rw[<-hA];exact(rI.out.grow K).seen
  have rL:=gV (f:=λx:aw×cd=>em x.1) rB;refine bH (.tmp 54) (.tmp 57) 223 rfl 9 i0 _ 1 16 oe sx sy sB sE rfl (by decide) (qt ⟨b,vi,fp⟩) S.length S.length (S.map λx:aw×cd=>em x.1) rfl (λh=>by cases h) (jf _ _) rL ⟨G,0,qu⟩ 1 1 [qT nm] rfl rfl (λjj uu hu=>by rw[cM,cH,bh _ _ _ _ _ _ rK];simpa using hu) (by simp[br]) (by omega) (by unfold dl;omega) (by omega) ?_;intro v9 w9 rr rN;have rS:Ext (λ_=>jp) J w9:=Ext.of_grown rN (λq hq=>by cases hq);have rm:aq w5.heap.size w5 w9:=K.trans (rS.below K.size (λq h=>h.elim));have rv:S7 w9:=tG.out _ rm;obtain⟨th,c9,sk⟩:=av rr;subst sk;refine v _ _ rv ?_;clear v;(try go_simp);refine zT 20 rfl D.out ?_;(try go_simp);refine zT 21 rfl D.out ?_;(try go_simp);have ti:=rI.out.grow rm;have tj:=(rowAt ti.row 12 rfl).2;obtain⟨x0,x1⟩:=D.out w9 rv;refine zK rfl λK' v=> ?_;go_simp;refine v _ _ ?_;clear v;refine⟨by kernel_rfl, ?_⟩;obtain⟨A,sL⟩:=zE (w9.setCell ⟨m,12,qu⟩ (ra th (S.length+1) c9));(try rw[sL]);have tl:Ext (·=m) w9 A:=by rw[<-sL];exact Ext.set1 w9 m 12 _
  have tm:A.heap[m]?=qt (rj (EB p X s5 V2.length I2.length (ra th (S.length+1) c9) (ra s5.wA S.length s5.wC)) 236 (0,0)):=by rw[<-sL];exact aE w9 m 12 _ _ _ ti.row
  have vj:m<J.heap.size:=by have:=K.size;omega
  have tM:A.ownsRow w5.heap.size 9 1 (ra th (S.length+1) c9) (S.length+1) ((S++[(nm,V.length)]).map λx:aw×cd=>em x.1):=by
   rw[eS];exact aP (ae rr tl (λk hk e=>by have:=(ai rr hk).1;omega)) K.size
  have tn:Ext (·=m) w5 A:=(Ext.of_below_size (M:=(·=m)) rm).trans tl (λq h=> .inl h);have tP:aH (λx:aw×cd=>#[Z U (x.2:cj)]) 1 A A.heap.size s5.wA S:=rI.out.whic.stay tn (λa vm e=>(rI.out.ns a vm (.inr e)).1);have sR:=aa tm;have tR:=zH tn;have se:=zH tm;have tS:=zH tM;have tU:=zH tP;have xo:=rI.out.cS.2;have xp:(S.length:cj)<=(s5.wC:cj):=by omega
  clear tl tm vj tM tn tP sL ti tj x0 x1 rr rN rS rm rv rL rB rK K rl rx hG we ur ue i0 sx sy sB sE wi wj;obtain⟨i0,sx,sy,sB,sE⟩:=ld lU
  go_upto_region 8 with(fail)
  obtain⟨S8,rx⟩:=zE ((λw'=>aq A.heap.size A w'):World->Prop);have xr:S8 A.drew:=by rw[<-rx];exact(an _ _).drew
  have sf:∀W,S8 W->aq A.heap.size A W:=λW R=>by rw[<-rx] at R;exact R
  have sT:∀W,aq A.heap.size A W->S8 W:=λW R=>by rw[<-rx];exact R
  rcases sX:s5.wA with _|⟨b2,tp,tr⟩
  ·have sn:∀W,S8 W->W.cell? ⟨m,13,qu⟩=qt (ra qu S.length s5.wC):=λW R=>by
    rw[<-sX];exact(rowAt (((sf W R).block m sR).trans se.out) 13 rfl).1
   have o:=zH sn;have sq:=zH sT;have vn:=zH sf;clear sn sT sf rx;refine ah 21 S8 (by kernel_rfl) ?_;refine zT 0 rfl o.out ?_;(try go_simp);refine zT 1 rfl o.out ?_;(try go_simp);refine zT 2 rfl o.out ?_;(try go_simp);refine zT 3 rfl o.out ?_;(try go_simp);refine zT 4 rfl o.out ?_;(try go_simp);refine zT 5 rfl o.out ?_;(try go_simp);refine zT 6 rfl o.out ?_;(try go_simp);refine zT 7 rfl o.out ?_;(try go_simp);refine zT 8 rfl o.out ?_;(try go_simp);refine zT 9 rfl o.out ?_;(try go_simp);refine zT 10 rfl o.out ?_;(try go_simp);refine zT 11 rfl o.out ?_;(try go_simp);refine zT 12 rfl o.out ?_;(try go_simp);refine zT 13 rfl o.out ?_;(try go_simp);refine zT 14 rfl o.out ?_;(try go_simp);refine zT 15 rfl o.out ?_;(try go_simp);refine zT 16 rfl o.out ?_;(try go_simp);refine zO 17 rfl λK' v=> ?_;go_simp;obtain⟨G,hG⟩:=zE A.heap.size;obtain⟨J,rl⟩:=zE ((A.alloc (rj #[Z U (V.length:cj)] 3)).drew);(try rw[hG]);(try rw[rl]);have K:aq A.heap.size A J:=by rw[<-rl];exact((an _ _).alloc (bp _) _).drew
   have rK:J.heap[G]?=qt (rj #[Z U (V.length:cj)] 3 (0,0)):=by rw[<-rl,<-hG];exact alloc_at _ _
   have tt:S8 J:=sq.out _ K;refine v _ _ tt ?_;clear v;(try go_simp);refine zO 18 rfl λK' v=> ?_;have rB:aH (λx:aw×cd=>#[Z U (x.2:cj)]) 1 J J.heap.size qu S:=by rw[<-sX];exact tU.out.stay (Ext.of_below_size (M:=λ_=>jp) K) (λ_ _ _ h=>h)
   have tf:ca (S.length=0):=by
    by_cases h:S=[]
    ·unfold ca;rw[h];rfl
    ·obtain⟨_,_,h1,_⟩:=rB h;cases h1
   have rL:=gV (f:=λx:aw×cd=>eC .i64 (x.2:cj)) rB;refine bH (.tmp 76) (.tmp 78) 35 rfl 3 i0 _ 1 8 gt sx sy sB sE rfl (by decide) qu S.length S.length (S.map λx:aw×cd=>eC .i64 (x.2:cj)) rfl (λ_=>⟨tf.out,tf.out⟩) (jf _ _) rL ⟨G,0,qu⟩ 1 1 [Z U (V.length:cj)] rfl rfl (λjj uu hu=>by rw[cM,cH,bh _ _ _ _ _ _ rK];simpa using hu) (by simp[br]) (by omega) (by unfold dl;omega) (by omega) ?_;intro v9 rn rr rN;have rS:Ext (λ_=>jp) J rn:=Ext.of_grown rN (λq hq=>by cases hq);have rm:aq A.heap.size A rn:=K.trans (rS.below K.size (λq h=>h.elim));have rv:S8 rn:=sq.out _ rm;obtain⟨tv,cW,sk⟩:=av rr;subst sk;refine v _ _ rv ?_;clear v;(try go_simp);refine zT 19 rfl o.out ?_;(try go_simp);refine zT 20 rfl o.out ?_;(try go_simp);have tz:=(rm.block m sR).trans se.out;have tj:=(rowAt tz 13 rfl).2;have x0:=o.out rn rv;refine zK rfl λK' v=> ?_;go_simp;refine v _ _ ?_;clear v;refine⟨by kernel_rfl, ?_⟩;have sr:bT m p L X V2 I2 (S++[(nm,V.length)]) O w (rn.setCell ⟨m,13,qu⟩ (ra tv (S.length+1) cW)):=mi uc.out uv.out ux.out rI.out tR.out se.out tS.out rm (by have:=K.size;exact K.size) (by rw[eS];exact rr) tW;have tA:=zH sr;clear sr;go_wp2
   go_end0
   exact⟨rfl,tA.out⟩
  ·have sn:∀W,S8 W->W.cell? ⟨m,13,qu⟩=qt (ra (qt ⟨b2,tp,tr⟩) S.length s5.wC):=λW R=>by
    rw[<-sX];exact(rowAt (((sf W R).block m sR).trans se.out) 13 rfl).1
   have o:=zH sn;have sq:=zH sT;have vn:=zH sf;clear sn sT sf rx;refine ah 21 S8 (by kernel_rfl) ?_;refine zT 0 rfl o.out ?_;(try go_simp);refine zT 1 rfl o.out ?_;(try go_simp);refine zT 2 rfl o.out ?_;(try go_simp);refine zT 3 rfl o.out ?_;(try go_simp);refine zT 4 rfl o.out ?_;(try go_simp);refine zT 5 rfl o.out ?_;(try go_simp);refine zT 6 rfl o.out ?_;(try go_simp);refine zT 7 rfl o.out ?_;(try go_simp);refine zT 8 rfl o.out ?_;(try go_simp);refine zT 9 rfl o.out ?_;(try go_simp);refine zT 10 rfl o.out ?_;(try go_simp);refine zT 11 rfl o.out ?_;(try go_simp);refine zT 12 rfl o.out ?_;(try go_simp);refine zT 13 rfl o.out ?_;(try go_simp);refine zT 14 rfl o.out ?_;(try go_simp);refine zT 15 rfl o.out ?_;(try go_simp);refine zT 16 rfl o.out ?_;(try go_simp);refine zO 17 rfl λK' v=> ?_;go_simp;obtain⟨G,hG⟩:=zE A.heap.size;obtain⟨J,rl⟩:=zE ((A.alloc (rj #[Z U (V.length:cj)] 3)).drew);(try rw[hG]);(try rw[rl]);have K:aq A.heap.size A J:=by rw[<-rl];exact((an _ _).alloc (bp _) _).drew
   have rK:J.heap[G]?=qt (rj #[Z U (V.length:cj)] 3 (0,0)):=by rw[<-rl,<-hG];exact alloc_at _ _
   have tt:S8 J:=sq.out _ K;refine v _ _ tt ?_;clear v;(try go_simp);refine zO 18 rfl λK' v=> ?_;have rB:aH (λx:aw×cd=>#[Z U (x.2:cj)]) 1 J J.heap.size (qt ⟨b2,tp,tr⟩) S:=by rw[<-sX];exact tU.out.stay (Ext.of_below_size (M:=λ_=>jp) K) (λ_ _ _ h=>h)
   have rL:=gV (f:=λx:aw×cd=>eC .i64 (x.2:cj)) rB;refine bH (.tmp 76) (.tmp 78) 35 rfl 3 i0 _ 1 8 gt sx sy sB sE rfl (by decide) (qt ⟨b2,tp,tr⟩) S.length S.length (S.map λx:aw×cd=>eC .i64 (x.2:cj)) rfl (λh=>by cases h) (jf _ _) rL ⟨G,0,qu⟩ 1 1 [Z U (V.length:cj)] rfl rfl (λjj uu hu=>by rw[cM,cH,bh _ _ _ _ _ _ rK];simpa using hu) (by simp[br]) (by omega) (by unfold dl;omega) (by omega) ?_;intro v9 rn rr rN;have rS:Ext (λ_=>jp) J rn:=Ext.of_grown rN (λq hq=>by cases hq);have rm:aq A.heap.size A rn:=K.trans (rS.below K.size (λq h=>h.elim));have rv:S8 rn:=sq.out _ rm;obtain⟨tv,cW,sk⟩:=av rr;subst sk;refine v _ _ rv ?_;clear v;(try go_simp);refine zT 19 rfl o.out ?_;(try go_simp);refine zT 20 rfl o.out ?_;(try go_simp);have tz:=(rm.block m sR).trans se.out;have tj:=(rowAt tz 13 rfl).2;have x0:=o.out rn rv;refine zK rfl λK' v=> ?_;go_simp;refine v _ _ ?_;clear v;refine⟨by kernel_rfl, ?_⟩;have sr:bT m p L X V2 I2 (S++[(nm,V.length)]) O w (rn.setCell ⟨m,13,qu⟩ (ra tv (S.length+1) cW)):=mi uc.out uv.out ux.out rI.out tR.out se.out tS.out rm (by have:=K.size;exact K.size) (by rw[eS];exact rr) tW;have tA:=zH sr;clear sr;go_wp2
   go_end0
   exact⟨rfl,tA.out⟩
def BB (m:cd)(p:Pg)(L:cd)(X:Fx)(V:bm Ty)(I:bm eX)(S:bm (aw×cd))(s:Sm)(V2:bm Ty)(I2:bm eX)(d:bm (aw×cd)):Prop:=
 ∀(W:World)(O:cd->Prop)(f:Sl),Mk m p L X V I S O f W->ft ac 180 #[rb (qt ⟨m,0,qu⟩),rh s.cells] W λe w'=>e= rk (.tuple #[])/\bT m p L X V2 I2 d O W w'
inductive jA (m:cd) (p:Pg) (L:cd) (X:Fx):bm Ty->bm eX->bm (aw×cd)->bm Sm->bm Ty->bm eX->Prop
 |nil (V:bm Ty) (I:bm eX) (S:bm (aw×cd)):jA m p L X V I S [] V I
 |cons (V V1 V2:bm Ty) (I I1 I2:bm eX) (S S1:bm (aw×cd)) (s:Sm) (l:bm Sm):BB m p L X V I S s V1 I1 S1->jA m p L X V1 I1 S1 l V2 I2->jA m p L X V I S (s::l) V2 I2
def EC (m:cd)(p:Pg)(L:cd)(X:Fx)(V2:bm Ty)(I2:bm eX)(O:cd->Prop)(w:World)(k:bw)(wr:World):Prop:=
 ∃(j:cd) (V:bm Ty) (I:bm eX) (S:bm (aw×cd)) (d:cd->Prop) (s:Sl),k= Z U (j:cj)/\j<=p.ss.length/\jA m p L X V I S (p.ss.drop j) V2 I2/\Mk m p L X V I S d s wr/\Ext (λq=>q=m\/O q) w wr/\∀k,d k->O k\/w.heap.size<=k
theorem rH {m:cd}{p:Pg}{L:cd}{X:Fx}{V V2:bm Ty}{I I2:bm eX}{O:cd->Prop}{s:Sl}(w:World)(h:Mk m p L X V I [] O s w)(v:jA m p L X V I [] p.ss V2 I2)(sr:p.ss.length<=1000)(rl:p.ss≠[]):
  ft ac 132 #[rb (qt ⟨m,0,qu⟩),ra p.bA p.ss.length p.bC] w λe w'=>e= rk (.tuple #[])/\bT m p L X V2 I2 [] O w w':=by
 obtain⟨b,sx,hA,sy,_⟩:=h.pg.st rl;have sB:=aa h.row;have rm:w.cell? ⟨m,12,qu⟩=qt (ra s.sA 0 s.sC):=(rowAt h.row 12 rfl).1;have H:=zH h;have HA:=zH hA;have HK:=zH v;have HL:=h.hm;rw[hA];clear h hA v rl;go_enter func132,ntmps132
 go_upto_region 2 with(fail)
 clear rm
 go_loopw [5] (λk wr=>EC m p L X V2 I2 O w k wr) (λk _=>p.ss.length-(intOf k).toNat)
 case atStart=>exact⟨0,V,I,[],O,s,rfl,cJ _,HK.out,H.out,Ext.refl _ _,λk v=> .inl v⟩
 case round=>
  obtain⟨j,V1,I1,S1,O1,s1,rfl,hj,G,f,hx,ho⟩:=hrel;have se:=zH f;have J:=zH hx;have K:=zH ho
  by_cases y:j<p.ss.length
  ·have sE:(j:cj)<(p.ss.length:cj):=by omega
   obtain⟨x,d⟩:∃x,p.ss[j]?=qt x:=⟨_,am y⟩
   have rn:p.ss.drop j=x::p.ss.drop (j+1):=by
    rw[dT y];have:p.ss[j]=x:=by rw[am y] at d;exact cX d
    rw[this]
   rw[rn] at G;cases G with
   |cons _ V3 _ _ I3 _ _ S3 _ _ hst rr=>
    have rv:=ce d;obtain⟨⟨ao,n,cp,hE⟩,_⟩:=f.pg.sm rv;obtain⟨b',sL,h1,h2,o⟩:=f.pg.st (by intro e;rw[e] at y;simp at y);rw[HA.out] at h1;simp only[dc,eW,and_true] at h1;obtain⟨rfl,rfl⟩:=h1;have k0:=o j x d 0 _ rfl;have k1:=o j x d 1 _ rfl;have k2:=o j x d 2 _ rfl;have k3:=o j x d 3 _ rfl;have k4:=o j x d 4 _ rfl;have k5:=o j x d 5 _ rfl;have k6:=o j x d 6 _ rfl;have k7:=o j x d 7 _ rfl;have k8:=o j x d 8 _ rfl;rw[kO] at k0;rw[hE] at k4;have sR:b<wr.heap.size:=cn h2 f.pg.lo;have sT:j<=p.bC:=by have:=f.pg.cb;omega
    have R:=hst wr O1 s1 f;unfold Sm.cells at R;rw[hE] at R;have sf:=zH R;have sk:=zH rr;clear f hx ho d rn hst rr rv hE o R
    go_wp2_with (go_at_call 180;refine sf.out.mono ?_;rintro en w5 ⟨rfl,O5,s5,rx,rB,rI⟩;have rK:=zH rx;have rL:=zH rB;have rN:=zH rI;clear rx rB rI)
    go_roundw
    case rel=>
     have sX:bT m p L X V3 I3 S3 O w w5:=bT.trans J.out K.out ⟨O5,s5,rK.out,rL.out,rN.out⟩;refine⟨j+1,V3,I3,S3,O5,s5,by go_num,y,sk.out,rK.out,J.out.trans rL.out (λq u=> ?_),λk v=> ?_⟩
     ·rcases u with h|h
      ·exact .inl (.inl h)
      ·rcases K.out q h with h|h
       ·exact .inl (.inr h)
       ·exact .inr h
     ·rcases rN.out k v with h|h
      ·exact K.out k h
      ·exact .inr (cE J.out.size h)
    case measure=>simp[intOf];omega
  ·have sn:j=p.ss.length:=by omega
   have sq:p.ss.drop j=[]:=by rw[sn];simp
   rw[sq] at G;cases G;have A:=f.row;have sY:=aa A;have f12:wr.frozen? ⟨m,12,qu⟩=qS:=(rowAt A 12 rfl).2;have rm:wr.cell? ⟨m,12,qu⟩=qt (ra s1.sA S1.length s1.sC):=(rowAt A 12 rfl).1;have f13:wr.frozen? ⟨m,13,qu⟩=qS:=(rowAt A 13 rfl).2;have te:wr.cell? ⟨m,13,qu⟩=qt (ra s1.wA S1.length s1.wC):=(rowAt A 13 rfl).1;have tf:=f.cS;clear f hx A ho;go_wp2
   go_end0
   have D:Ext (·=m) wr ((wr.setCell ⟨m,12,qu⟩ (ra s1.sA 0 s1.sC)).setCell ⟨m,13,qu⟩ (ra s1.wA 0 s1.wC)):=(Ext.set1 wr m 12 _).trans (Ext.set1 _ m 13 _) (λq h=> .inl h);have k:=se.out;have rS:∀q,O1 q->q≠m:=λq h=>by have:=(k.ol q h).1;omega
   refine⟨rfl,O1,s1,⟨?_,k.pg.ext D (λq u e=>by omega),k.hm,ae k.vars D (λq u e=>rS q (k.ov q u) e),ae k.ins D (λq u e=>rS q (k.oi q u) e),k.dis,k.ov,k.oi,λq u=>⟨(k.ol q u).1,cn (k.ol q u).2 D.size⟩,λh=>fL rfl h,λh=>fL rfl h,λa h=>fL rfl h,k.lV,k.lI,by simp,⟨cJ _,cJ _⟩⟩,J.out.trans D (λq h=> .inl (.inl h)),K.out⟩;exact aE _ m 13 _ _ _ (aE wr m 12 _ _ _ k.row)
def eX.ins (i:eX):Ins:=⟨i.op,i.d,i.a,0,i.f,i.n,⟨#[]⟩,ra qu 0 0,ra qu 0 0,0,0,i.ln,i.cl,[]⟩
def BC (y:Ty):Vr:=⟨y.1,y.2,0⟩
def lu (p:Pg)(V:bm Ty)(I:bm eX)(s:Sl):Fn:=
 ⟨⟨p.nm,0,s.vA,V.length,s.vC,p.ret.1,p.ret.2,0,qu,0,0,s.iA,s.iC,I.map eX.ins⟩,V.map BC,[],I.map λ_=>[]⟩
def CL (p:Pg):St:=⟨⟨p.snm,p.fA,p.fs.length,p.fC,p.sl,p.sc⟩,p.fs⟩
def iH (p:Pg)(V:bm Ty)(I:bm eX)(s:Sl)(d:cd)(f:cd):Mo:=⟨qt ⟨p.pA,0,qu⟩,p.pC,qt ⟨d,0,qu⟩,f,[CL p],[lu p V I s]⟩
def X0 (p:Pg):Fx:=⟨p.ret,p.nm,Z U 0,re p.ret.1,qT p.ret.2,Z U 0,ra qu 0 0,ra qu 0 0,ra qu 0 0⟩
def Dv (p:Pg)(d f:cd)(s:Sl):bm bw:=[qT p.nm,Z U 0,ra s.vA d s.vC,re p.ret.1,qT p.ret.2,Z U 0,ra qu 0 0,ra s.iA f s.iC]
theorem Ah (I:bm eX):I.flatMap Ee=(I.map eX.ins).flatMap λx=>x.cells.toList:=by
 induction I with
 |nil=>rfl
 |cons a I ih=>rw[dp,kc,dp,ih];rfl
theorem Ai (V:bm Ty):V.flatMap Ef=(V.map BC).flatMap λx=>x.cells.toList:=by
 induction V with
 |nil=>rfl
 |cons a V ih=>rw[dp,kc,dp,ih];rfl
theorem BD {p:Pg}{L:cd}{V:bm Ty}{I:bm eX}{s:Sl}{w:World}{D A K R G:cd}(o:iG p L w)(hn:p.nm.size<=dl)(rl:p.snm.size<=dl)(rm:∀f∈p.fs,f.nm.size<=dl)
  (hv:w.ownsRow K 34 3 (ra s.vA V.length s.vC) V.length (V.flatMap Ef))(hi:w.ownsRow R 42 13 (ra s.iA I.length s.iC) I.length (I.flatMap Ee))
  (hf:w.ownsRow G 38 8 (ra (qt ⟨D,0,qu⟩) 1 A) 1 (Dv p V.length I.length s))(lV:V.length<=1000)(lI:I.length<=1000):(iH p V I s D A).inn w:=by
 have J:aH Vr.cells 3 w w.heap.size s.vA (V.map BC):=dI (cells:=Vr.cells) (m:=3) (λ_=>rfl) (by rw[<-Ai];exact hv) (by simp);have rn:iU w w.heap.size s.iA (I.map eX.ins):=dI (cells:=Ins.cells) (m:=13) (λ_=>rfl) (by rw[<-Ah];exact hi) (by simp);have rx:dl=9223372036854775807:=rfl;refine⟨λ_=>⟨p.pA,0,rfl,cn o.pA o.lo,λi x d k u hu=> ?_⟩,dI (cells:=Fn.cells) (m:=8) (λ_=>rfl) (l:=[lu p V I s]) (n:=1) (c:=A) (base:=G) (e:=38) ?_ rfl,λx d=> ?_,λx d=> ?_,by simp[iH,dl],by simp[iH,dl]⟩
 ·cases i with
  |succ i=>simp[iH] at d
  |zero=>
   obtain rfl:CL p=x:=by simpa[iH] using d
   have:=o.s k u hu;simpa using this
 ·simp only[dp,List.flatMap_nil,kh]
  have he:(lu p V I s).cells.toList=Dv p V.length I.length s:=by simp[lu,Fn.cells,nJ.cells,Dv]
  rw[he];exact hf
 ·obtain rfl:x=CL p:=by simpa[iH] using d
  exact⟨rfl,λrr=>(let ⟨b,rv,q,v,h3⟩:=o.fd rr;⟨b,rv,q,cn v o.lo,h3⟩),by have:=o.lfs;show p.fs.length<=_;omega,rl,rm⟩
 ·obtain rfl:x=lu p V I s:=by simpa[iH] using d
  refine⟨⟨rn,λx d=> ?_,by simp only[lu,dj];omega,⟨V.map BC,by simp[lu],J⟩,by simp only[lu];omega,by simp[lu,dl],⟨[],rfl,λh=>fL rfl h⟩⟩,hn,by simp[lu],J,rfl,λh=>fL rfl h,by simp[lu],λk i l q v=> ?_⟩
  ·simp only[lu,dd] at d
   obtain⟨y,_,rfl⟩:=d;exact⟨⟨⟨qu,0,rfl⟩,qu,0,0,rfl⟩,qu,0,rfl,λh=>fL rfl h⟩
  ·simp only[lu,jz,gw] at q v
   obtain⟨y,_,rfl⟩:=q;obtain⟨_,_,rfl⟩:=v;exact⟨qu,0,rfl,λh=>fL rfl h⟩
def zx (w:World)(p:Pg)(V:bm Ty)(I:bm eX)(e:Ending)(w':World):Prop:=
 ∃s d f,e= rk (.tuple #[rh (iH p V I s d f).cells,rh #[Z U 0,Z U 0,Z U 0,Z U 0]])/\w'.ownsRow w.heap.size 34 3 (ra s.vA V.length s.vC) V.length (V.flatMap Ef)/\w'.ownsRow w.heap.size 42 13 (ra s.iA I.length s.iC) I.length (I.flatMap Ee)/\w'.ownsRow w.heap.size 38 8 (ra (qt ⟨d,0,qu⟩) 1 f) 1 (Dv p V.length I.length s)/\aq w.heap.size w w'
theorem yh:(ac.info? 38).map (λi=>(i.zero,i.size,i.bytes))=qt (qt (rh #[qT ⟨#[]⟩,Z U 0,ra qu 0 0,re qS,qT ⟨#[]⟩,Z U 0,ra qu 0 0,ra qu 0 0]),8,128):=by kernel_rfl
theorem lw {w:World}:∀(c:cG bw),c.size=4->(cU ⟨w.heap.size,0,qu⟩ [Z U 0,Z U 0,Z U 0,Z U 0] 0).run ac (w.alloc (rj c 113))= .ok () (w.alloc (rj #[Z U 0,Z U 0,Z U 0,Z U 0] 113)):=λc d=>
 cf (P:=ac) w 113 c #[Z U 0,Z U 0,Z U 0,Z U 0] (by show _=qt 4;kernel_rfl) d (by simp[br])
theorem BF {p:Pg}{w:World}:∀(c:cG bw),c.size=7->(cU ⟨w.heap.size,0,qu⟩ [qT p.nm,ra qu 0 0,re p.ret.1,qT p.ret.2,ra p.bA p.ss.length p.bC,Z U p.gl,Z U p.gc] 0).run ac (w.alloc (rj c 233))= .ok () (w.alloc (rj #[qT p.nm,ra qu 0 0,re p.ret.1,qT p.ret.2,ra p.bA p.ss.length p.bC,Z U p.gl,Z U p.gc] 233)):=λc d=>
 cf (P:=ac) w 233 c #[qT p.nm,ra qu 0 0,re p.ret.1,qT p.ret.2,ra p.bA p.ss.length p.bC,Z U p.gl,Z U p.gc] (by show _=qt 7;kernel_rfl) d (by simp[br])
theorem BG {a:du oA}{c1:cd}{w:World}:∀(c:cG bw),c.size=2->(cU ⟨w.heap.size,0,qu⟩ [ra a 1 c1,ra qu 0 0] 0).run ac (w.alloc (rj c 25))= .ok () (w.alloc (rj #[ra a 1 c1,ra qu 0 0] 25)):=λc d=>
 cf (P:=ac) w 25 c #[ra a 1 c1,ra qu 0 0] (by show _=qt 2;kernel_rfl) d (by simp[br])
structure Ev (N E:cd)(p:Pg)(L:cd)(w W:World)(out:bw):Prop where
 pg:iG p L W
 lN:L<=N
 r0:W.heap[N]?=qt (rj p.cells 179 (0,0))
 r1:W.heap[N+1]?=qt (rj #[ra qu 0 0,ra qu 0 0] 25 (0,0))
 r2:W.heap[N+2]?=qt (rj #[Z U 0,Z U 0,Z U 0,Z U 0] 113 (0,0))
 rE:W.heap[E]?=qt (rj #[ra (qt ⟨p.pA,0,qu⟩) 1 p.pC,out] 25 (0,0))
 hE:N+2<E
 low:aq N w W
def EJ (N E:cd)(p:Pg)(L:cd)(V:bm Ty)(I:bm eX)(w:World)(k:bw)(W:World):Prop:=
 (k= Z U 0/\Ev N E p L w W (ra qu 0 0))\/(k= Z U 1/\∃s d f,Ev N E p L w W (ra (qt ⟨d,0,qu⟩) 1 f)/\W.ownsRow (E+1) 34 3 (ra s.vA V.length s.vC) V.length (V.flatMap Ef)/\W.ownsRow (E+1) 42 13 (ra s.iA I.length s.iC) I.length (I.flatMap Ee)/\W.ownsRow (E+1) 38 8 (ra (qt ⟨d,0,qu⟩) 1 f) 1 (Dv p V.length I.length s))
theorem rJ {p:Pg}{L:cd}{V:bm Ty}{I:bm eX}(w:World)(h:iG p L w)(ho:CJ p)(hst:∀m,jA m p L (X0 p) [] [] [] p.ss V I)(lV:V.length<=300)(lI:I.length<=1000):
  ft ac 93 #[rh p.cells] w (zx w p V I):=by
 obtain⟨N,R⟩:=zE w.heap.size;have wk:L<=N:=by have:=h.lo;omega
 obtain⟨v,rl⟩:=zE (((w.alloc (rj #[ra (qt ⟨p.pA,0,qu⟩) 1 p.pC,ra (qt ⟨p.qA,0,qu⟩) 1 p.qC] 179)).alloc (rj #[ra qu 0 0,ra qu 0 0] 25)).alloc (rj #[Z U 0,Z U 0,Z U 0,Z U 0] 113));have te:aq N w v:=by rw[<-rl,<-R];exact(((an _ _).alloc (bp _) _).alloc (by simp) _).alloc (by simp;omega) _
 have tG:v.heap.size=N+3:=by rw[<-rl];simp[R]
 have tf:v.heap[N]?=qt (rj #[ra (qt ⟨p.pA,0,qu⟩) 1 p.pC,ra (qt ⟨p.qA,0,qu⟩) 1 p.qC] 179 (0,0)):=by
  rw[<-rl];refine(bt _ _ N (by simp;omega)).trans ?_;rw[<-R];exact fN _ _ _
 have rB:v.heap[N+1]?=qt (rj #[ra qu 0 0,ra qu 0 0] 25 (0,0)):=by
  rw[<-rl];refine(bt _ _ (N+1) (by simp;omega)).trans ?_;rw[<-R];exact jn _ _ _
 have rI:v.heap[N+2]?=qt (rj #[Z U 0,Z U 0,Z U 0,Z U 0] 113 (0,0)):=by
  rw[<-rl];have:=alloc_at ((w.alloc (rj #[ra (qt ⟨p.pA,0,qu⟩) 1 p.pC,ra (qt ⟨p.qA,0,qu⟩) 1 p.qC] 179)).alloc (rj #[ra qu 0 0,ra qu 0 0] 25)) (rj #[Z U 0,Z U 0,Z U 0,Z U 0] 113);simpa[R] using this
 have th:=h.grow (show aq w.heap.size w v by rw[R];exact te);have wl:ca (zP 130 #[rh #[ra (qt ⟨p.pA,0,qu⟩) 1 p.pC,ra (qt ⟨p.qA,0,qu⟩) 1 p.qC]] v (rh #[Z U 0,Z U 0,Z U 0,Z U 0])):=rG v th ho;have wn:=zH th;have HO:=zH ho;have ws:=zH hst;have wx:=zH rl;have xf:=zH te;have rr:=zH tG;have tM:=zH tf;have ti:=zH rB;have tj:=zH rI;obtain⟨⟨a0,a1⟩,_,tP⟩:=bL tf;unfold Pg.cells;clear h ho hst rl te tf rB rI th tG;go_enter func93,ntmps93
 go_upto_region 1 with(fail)
 rw[wx.out]
 go_upto_region 2 with(go_at_call 130;refine wl.out.mono ?_;rintro en w4 ⟨rfl,tR⟩;have xj:=lw (w:=w4);have sk:=zH tR;clear tR)
 obtain⟨D,hD⟩:=zE w4.heap.size;obtain⟨W5,rK⟩:=zE (w4.alloc (rj #[Z U 0,Z U 0,Z U 0,Z U 0] 113));rw[hD,rK];have tS:=iF rK;have tU:W5.heap[D]?=qt (rj #[Z U 0,Z U 0,Z U 0,Z U 0] 113 (0,0)):=by rw[<-rK,<-hD];exact alloc_at _ _
 have tl:aq v.heap.size v W5:=sk.out.trans (tS.mono sk.out.size);have tW:D+1=W5.heap.size:=by rw[<-rK];simp[hD]
 have xl:N+2<D:=by have:=sk.out.size;have:=rr.out;omega
 clear xj a0 a1 hD rK tS tP;have ua:=(tl.block N (by rw[rr.out];omega)).trans tM.out;obtain⟨⟨a0,a1⟩,_,xo⟩:=bL ua;obtain⟨⟨e0,e1,e2,e3⟩,_,xp⟩:=kK tU;have xr:=BG (a:=qt ⟨p.pA,0,qu⟩) (c1:=p.pC) (w:=W5);obtain⟨E,hE⟩:=zE W5.heap.size;have tm:=zH tl;have ub:=zH tW;clear tl tU ua tW
 go_upto_region 6 with(fail)
 clear xr;obtain⟨W6,sn⟩:=zE (W5.alloc (rj #[ra (qt ⟨p.pA,0,qu⟩) 1 p.pC,ra qu 0 0] 25));rw[sn];(try rw[hE]);have uc:=iF sn;have ud:W6.heap[E]?=qt (rj #[ra (qt ⟨p.pA,0,qu⟩) 1 p.pC,ra qu 0 0] 25 (0,0)):=by rw[<-sn,<-hE];exact alloc_at _ _
 have rv:aq v.heap.size v W6:=tm.out.trans (uc.mono tm.out.size);have xt:ca (Ev N E p L w W6 (ra qu 0 0)):=⟨wn.out.grow rv,wk,(rv.block N (by rw[rr.out];omega)).trans tM.out,(rv.block (N+1) (by rw[rr.out];omega)).trans ti.out,(rv.block (N+2) (by rw[rr.out];omega)).trans tj.out,ud,by have:=ub.out;omega,xf.out.trans (rv.mono (by rw[rr.out];omega))⟩
 clear uc ud rv sn e0 e1 e2 e3 a0 a1 xp xo xl ub tm hE sk
 go_loopw [6] (λk wr=>EJ N E p L V I w k wr) (λk _=>1-(intOf k).toNat)
 case atStart=>exact .inl ⟨rfl,xt.out⟩
 case round=>
  obtain⟨wo,ue⟩:=zE wr;rw[ue] at hrel⊢;clear ue wr;rcases hrel with⟨rfl,u⟩|⟨rfl,s,fA,fC,u,hv,hi,A⟩
  ·have sq:=u.pg
   obtain⟨⟨a0,a1⟩,_,ur⟩:=bL u.r0;have A:=sq.f;have q0:=A 0 _ rfl;have q1:=A 1 _ rfl;have q2:=A 2 _ rfl;have q3:=A 3 _ rfl;have q4:=A 4 _ rfl;have q5:=A 5 _ rfl;have q6:=A 6 _ rfl;have AD:p.qA<wo.heap.size:=cn sq.qA sq.lo;have xF:=BF (p:=p) (w:=wo);have d:=zH u;clear u sq A
   go_upto_region 9 with(fail)
   clear xF a0 a1 q0 q1 q2 q3 q4 q5 q6;obtain⟨FB,rL⟩:=zE wo.heap.size;obtain⟨W7,rN⟩:=zE (wo.alloc (rj #[qT p.nm,ra qu 0 0,re p.ret.1,qT p.ret.2,ra p.bA p.ss.length p.bC,Z U p.gl,Z U p.gc] 233));rw[rL,rN];have tn:=iF rN;have tp:W7.heap[FB]?=qt (rj #[qT p.nm,ra qu 0 0,re p.ret.1,qT p.ret.2,ra p.bA p.ss.length p.bC,Z U p.gl,Z U p.gc] 233 (0,0)):=by rw[<-rN,<-rL];exact alloc_at _ _
   have uv:=(tn.block N ur).trans d.out.r0;have ux:W7.heap.size=FB+1:=by rw[<-rN];simp[rL]
   obtain⟨⟨a0,a1⟩,_,xT⟩:=bL uv;obtain⟨⟨g0,g1,g2,g3,g4,g5,g6⟩,_,ya⟩:=dC tp;obtain⟨M,hM⟩:=zE W7.heap.size;have va:=zH tn;have vc:=zH tp;have yb:=zH ux;have tr:=zH rL;clear rN tn tp uv ux rL
   go_upto_region 11 with(fail)
   obtain⟨W8,sr⟩:=zE (W7.alloc (rj (CK p (X0 p) ⟨qu,0,qu,0,qu,0,qu,0⟩ 0 0 0) 236));have sx:=sr;unfold CK X0 at sx;simp only at sx;rw[sx];(try rw[hM]);have sy:=iF sr;have vd:W8.heap[M]?=qt (rj (CK p (X0 p) ⟨qu,0,qu,0,qu,0,qu,0⟩ 0 0 0) 236 (0,0)):=by rw[<-sr,<-hM];exact alloc_at _ _
   have tt:aq wo.heap.size wo W8:=va.out.trans (sy.mono va.out.size);have AE:FB+1=M:=by have:=yb.out;omega
   have yd:L<=M:=by have:=d.out.pg.lo;have:=tr.out;omega
   have vf:Mk M p L (X0 p) [] [] [] (λ_=>jp) ⟨qu,0,qu,0,qu,0,qu,0⟩ W8:=⟨vd,d.out.pg.grow tt,yd,World.ownsRow_nil _ _ _ _,World.ownsRow_nil _ _ _ _,λk h=>by simp[eN] at h,λk h=>by simp[eN] at h,λk h=>by simp[eN] at h,λk h=>h.elim,λh=>fL rfl h,λh=>fL rfl h,λa h=>fL rfl h,by simp,by simp,by simp,by simp⟩
   have ye:=zH (rH W8 vf (ws.out M) HO.out.ss HO.out.ne);have vh:=zH tt;have AF:=zH ((sy.block FB (by omega)).trans vc.out);have vi:=(sy.block FB (by omega)).trans vc.out;clear a0 a1 g0 g1 g2 g3 g4 g5 g6 ya xT;obtain⟨⟨g0,g1,g2,g3,g4,g5,g6⟩,_,yi⟩:=dC vi;clear sr sx sy vd tt vf vi
   go_loopw [9] (λk wr=>k= Z U 0/\wr=W8) (λ_ _=>0)
   case atStart=>exact⟨rfl,rfl⟩
   case round=>
    obtain⟨rfl,hq⟩:=hrel;rw[hq];clear hq wr
    go_upto_region 16 with(go_at_call 132;refine ye.out.mono ?_;rintro en w9 ⟨rfl,O9,o,tv,vj,vm⟩;have rS:=zH tv;have vn:=zH vj;have AG:=zH vm;have J:=tv.row;clear tv vj vm)
    have yk:w9.cell? ⟨M,15,qu⟩=qt (Z U 0):=(rowAt J 15 rfl).1;have c4:w9.cell? ⟨M,4,qu⟩=qt (qT p.nm):=(rowAt J 4 rfl).1;have c5:w9.cell? ⟨M,5,qu⟩=qt (Z U 0):=(rowAt J 5 rfl).1;have c6:w9.cell? ⟨M,6,qu⟩=qt (ra o.vA V.length o.vC):=(rowAt J 6 rfl).1;have c7:w9.cell? ⟨M,7,qu⟩=qt (re p.ret.1):=(rowAt J 7 rfl).1;have c8:w9.cell? ⟨M,8,qu⟩=qt (qT p.ret.2):=(rowAt J 8 rfl).1;have c9:w9.cell? ⟨M,9,qu⟩=qt (Z U 0):=(rowAt J 9 rfl).1;have yp:w9.cell? ⟨M,10,qu⟩=qt (ra qu 0 0):=(rowAt J 10 rfl).1;have rx:w9.cell? ⟨M,11,qu⟩=qt (ra o.iA I.length o.iC):=(rowAt J 11 rfl).1;have yq:=aa J;clear J g0 g1 g2 g3 g4 g5 g6 yi;have AH:decide ((300:cj)<(V.length:cj))=qS:=cv (by omega);have AI:decide ((3000:cj)<(I.length:cj))=qS:=cv (by omega);have AK:(V.length:cj)<=300:=by omega
    have AM:(I.length:cj)<=3000:=by omega
    go_upto_region 20 with(fail)
    have sB:w9.heap[E]?=qt (rj #[ra (qt ⟨p.pA,0,qu⟩) 1 p.pC,ra qu 0 0] 25 (0,0)):=vn.out.heap ((vh.out.block E (aa d.out.rE)).trans d.out.rE) (by have:=aa d.out.rE;have:=tr.out;rintro(h|h);omega;exact h);have vp:=aa sB;obtain⟨S1,tz⟩:=zE ((λW'=>aq w9.heap.size w9 W'):World->Prop);have vq:∀W,S1 W->aq w9.heap.size w9 W:=λW h=>by rw[<-tz] at h;exact h
    have tA:∀W,aq w9.heap.size w9 W->S1 W:=λW h=>by rw[<-tz];exact h
    have AN:S1 w9.drew:=tA _ (an _ _).drew;have vr:∀W,S1 W->W.cell? ⟨E,1,qu⟩=qt (ra qu 0 0)/\W.cell? ⟨M,4,qu⟩=qt (qT p.nm)/\W.cell? ⟨M,5,qu⟩=qt (Z U 0)/\W.cell? ⟨M,6,qu⟩=qt (ra o.vA V.length o.vC)/\W.cell? ⟨M,7,qu⟩=qt (re p.ret.1)/\W.cell? ⟨M,8,qu⟩=qt (qT p.ret.2)/\W.cell? ⟨M,9,qu⟩=qt (Z U 0)/\W.cell? ⟨M,10,qu⟩=qt (ra qu 0 0)/\W.cell? ⟨M,11,qu⟩=qt (ra o.iA I.length o.iC)/\M<W.heap.size/\E<W.heap.size:=λW hW=>by
     have hb:=vq W hW;have r1:=(hb.block M yq).trans rS.out.row;have r2:=(hb.block E vp).trans sB;exact⟨(rowAt r2 1 rfl).1,(rowAt r1 4 rfl).1,(rowAt r1 5 rfl).1,(rowAt r1 6 rfl).1,(rowAt r1 7 rfl).1,(rowAt r1 8 rfl).1,(rowAt r1 9 rfl).1,(rowAt r1 10 rfl).1,(rowAt r1 11 rfl).1,aa r1,aa r2⟩
    have rm:=zH vr;have vt:=zH tA;have yr:=zH sB;obtain⟨i0,yv,yy,yW,zc⟩:=ld yh;clear tz vq tA vr sB yk c4 c5 c6 c7 c8 c9 yp rx;refine ah 9 S1 (by kernel_rfl) ?_;refine zT 0 rfl rm.out ?_;(try go_simp);refine zT 1 rfl rm.out ?_;(try go_simp);refine zT 2 rfl rm.out ?_;(try go_simp);refine zT 3 rfl rm.out ?_;(try go_simp);refine zT 4 rfl rm.out ?_;(try go_simp);refine zT 5 rfl rm.out ?_;(try go_simp);refine zO 6 rfl λK' hK=> ?_;go_simp;obtain⟨G,hG⟩:=zE w9.heap.size;obtain⟨tB,sE⟩:=zE ((w9.alloc (rj #[qT p.nm,Z U 0,ra o.vA V.length o.vC,re p.ret.1,qT p.ret.2,Z U 0,ra qu 0 0,ra o.iA I.length o.iC] 38)).drew);(try rw[hG]);(try rw[sE]);have se:aq w9.heap.size w9 tB:=by rw[<-sE];exact((an _ _).alloc (bp _) _).drew
    have vu:tB.heap[G]?=qt (rj #[qT p.nm,Z U 0,ra o.vA V.length o.vC,re p.ret.1,qT p.ret.2,Z U 0,ra qu 0 0,ra o.iA I.length o.iC] 38 (0,0)):=by rw[<-sE,<-hG];exact alloc_at _ _
    have zd:=se.size;refine hK _ _ (vt.out _ se) ?_;clear hK;(try go_simp);refine zO 7 rfl λK' hK=> ?_;refine aB (.tmp 121) (.tmp 126) 23 rfl (E+1) 38 i0 _ 8 128 underlying23 yv yy yW zc rfl (by decide) (ra qu 0 0) 0 [] rfl (World.ownsRow_nil _ _ _ _) (qt ⟨G,0,qu⟩) 1 1 (Dv p V.length I.length o) rfl rfl (λh=>by cases h) (λad zj jj uu hu=>by
     obtain rfl:(⟨G,0,qu⟩:oA)=ad:=by simpa using zj
     rw[cM,cH,bh _ _ _ _ _ _ vu];simpa[Dv] using hu) (by simp[Dv,br]) (by unfold dl;omega) (by omega) (by omega) ?_
    intro AS rn sL vx zp;have vy:Ext (λ_=>jp) tB rn:=Ext.of_grown vx (λq hq=>by cases hq);have sR:aq w9.heap.size w9 rn:=se.trans (vy.below se.size (λq h=>h.elim));have wa:S1 rn:=vt.out _ sR;obtain⟨sT,rx,zr,AT,AW⟩:=ed (n:=0) (by simpa using sL);subst zr;refine hK _ _ wa ?_;clear hK;(try go_simp);refine zT 8 rfl rm.out ?_;(try go_simp);have sX:=(sR.block E vp).trans yr.out;have zv:=(rowAt sX 1 rfl).2;have An:=(rowAt sX 1 rfl).1;refine zK rfl λK' hK=> ?_;go_simp;refine hK _ _ ?_;clear hK;refine⟨by kernel_rfl, ?_⟩;obtain⟨WF,sf⟩:=zE (rn.setCell ⟨E,1,qu⟩ (ra (qt ⟨sT,0,qu⟩) (0+1) rx));have tD:=sf;simp only[cH] at tD;(try rw[sf]);(try rw[tD]);have tE:Ext (·=E) rn WF:=by rw[<-sf];exact Ext.set1 rn E 1 _
    have wb:WF.heap[E]?=qt (rj #[ra (qt ⟨p.pA,0,qu⟩) 1 p.pC,ra (qt ⟨sT,0,qu⟩) 1 rx] 25 (0,0)):=by rw[<-sf];exact aE rn E 1 _ _ _ sX
    have sY:Ext (·=E) w9 WF:=(Ext.of_below_size sR).trans tE (λq h=> .inl h);have K:Ext (λq=>q=E\/q=M) wo WF:=((Ext.of_below_size vh.out).trans (vn.out.mono (λq h=>by rcases h with h|h;exact .inr h;exact h.elim)) (λq h=> .inl h)).trans (sY.mono (λq h=> .inl h)) (λq h=> .inl h);have A0:=aa d.out.rE;have A1:=tr.out;have As:=d.out.hE;have At:=d.out.lN;have we:=d.out.pg.ext K (λk y h=>by rcases h with h|h<;>omega);have wg:Ev N E p L w WF (ra (qt ⟨sT,0,qu⟩) 1 rx):=⟨we,At,K.heap d.out.r0 (by rintro(h|h)<;>omega),K.heap d.out.r1 (by rintro(h|h)<;>omega),K.heap d.out.r2 (by rintro(h|h)<;>omega),wb,As,d.out.low.trans (K.below (by omega) (λq h=>by rcases h with h|h<;>omega))⟩
    have Ax:ca (EJ N E p L V I w (Z U 1) WF):= .inr ⟨rfl,o,sT,rx,wg,aP (ae rS.out.vars sY (λk y e=>by have:=(ai rS.out.vars y).1;omega)) (by omega),aP (ae rS.out.ins sY (λk y e=>by have:=(ai rS.out.ins y).1;omega)) (by omega),ae (by simpa using sL) tE (λk y e=>by have:=(ai sL y).1;omega)⟩;clear sf tD tE wb sY K we wg sL vx zp vy sR wa zv An sX vu sE se hG zd;go_wp2;go_roundw
    case rel=>exact Ax.out
    case measure=>simp[intOf]
  ·obtain⟨⟨a0,a1⟩,_,ur⟩:=bL u.r0
   obtain⟨⟨m0,m1⟩,_,A2⟩:=bL u.rE;obtain⟨⟨e0,e1⟩,⟨f0,f1⟩,A3⟩:=bL u.r1;obtain⟨⟨d0,d1,d2,d3⟩,⟨g0,g1,g2,g3⟩,tP⟩:=kK u.r2;have rB:=u.r1;have rI:=u.r2;have q4:=u.pg.f 4 _ rfl;have d:=zH u;have HV:=zH hv;have HI:=zH hi;have HF:=zH A;have ti:=zH rB;have tj:=zH rI;clear u hv hi A rB rI;go_wp2;(try simp only[cL,Exit.then]);have wi:∀W u0 u1,Ext (·=N+1) W ((W.setCell ⟨N+1,0,qu⟩ u0).setCell ⟨N+1,1,qu⟩ u1):=λW u0 u1=>af (af (Ext.refl _ _) _) _;have wj:∀W u0 u1 u2 u3,Ext (·=N+1+1) W ((((W.setCell ⟨N+1+1,0,qu⟩ u0).setCell ⟨N+1+1,1,qu⟩ u1).setCell ⟨N+1+1,2,qu⟩ u2).setCell ⟨N+1+1,3,qu⟩ u3):=λW u0 u1 u2 u3=>af (af (af (af (Ext.refl _ _) _) _) _) _;refine da (bV rfl _ _ (N+1) (N+1+1) 25 113 _ _ (0,0) (0,0) _ _ rfl ((wj _ _ _ _ _).heap (bf ti.out) (show¬N+1=N+1+1 by omega)) rfl (gY ((wi _ _ _).heap tj.out (show¬N+1+1=N+1 by omega))) ey (by kernel_rfl) mL (by kernel_rfl)) rfl ?_;have K:=((wi wo (ra (qt ⟨p.pA,0,qu⟩) 1 p.pC) (ra (qt ⟨fA,0,qu⟩) 1 fC)).mono (λq h=>Or.inl h)).trans ((wj _ (Z U 0) (Z U 0) (Z U 0) (Z U 0)).mono (λq h=>Or.inr h)) (λq (h:q=N+1\/q=N+1+1)=> .inl h);have hE:=d.out.hE;have A4:=d.out.lN;have A5:=d.out.low.size;have A6:=R;refine⟨s,fA,fC,rfl,aP (ae HV.out K (λk y h=>by have:=(ai HV.out y).1;rcases h with h|h<;>omega)) (by omega),aP (ae HI.out K (λk y h=>by have:=(ai HI.out y).1;rcases h with h|h<;>omega)) (by omega),aP (ae HF.out K (λk y h=>by have:=(ai HF.out y).1;rcases h with h|h<;>omega)) (by omega), ?_⟩;rw[R];exact d.out.low.trans (K.below (by omega) (λq h=>by rcases h with h|h<;>omega))
theorem sm_at {p:Pg}{L:cd}{v:World}(h:iG p L v){s:Sm}{e:Ex}(q:s∈p.ss)(o:s.es=[e]):∃g y,s.E= ra (qt ⟨g,0,qu⟩) 1 y/\g<L/\∀(j:cd)(u:bw),e.cells.toList[j]?=qt u->∀W,iG p L W->W.cell? ⟨g,j,qu⟩=qt u:=by
 rcases h.ex s q with⟨f,_⟩|⟨g,cap,f,A,h3⟩
 ·rw[o] at f;cases f
 ·refine⟨g,cap,by rw[f,o];rfl,A,λj u D W G=> ?_⟩
  rcases G.ex s q with⟨d,_⟩|⟨J,rl,d,e2,K⟩
  ·rw[o] at d;cases d
  ·have R:g=J:=by
    rw[f] at d;simp only[fz,dc,eW] at d;exact d.1.1
   subst R;have:=K 0 e (by rw[o];rfl) j u D;simpa using this
section
variable {m:cd}{p:Pg}{L:cd}{X:Fx}{V V2:bm Ty}{I I2:bm eX}{S:bm (aw×cd)}
theorem Aj {s:Sm}{e:Ex}{d:cj}(o:X.os= ra qu 0 0)(q:s∈p.ss)(u:s.kind=8)(v:s.es=[e])(y:I2.length+1<=1000)
  (A:∀W O f,Mk m p L X V I S O f W->ft ac 217 #[rb (qt ⟨m,0,qu⟩),rh e.cells,rh #[re X.rt.1,qT X.rt.2],Z U (-1)] W λe w'=>e= rk (Z U d)/\bT m p L X V2 I2 S O W w'):
  BB m p L X V I S s V2 (I2++[⟨18,0,d,0,0,s.ln,s.cl⟩]) S:=λW O f h=>by
 obtain⟨g,D,G,J,K⟩:=sm_at h.pg q v;have:=yg o s.ty.1 s.ty.2 s.nm g D e ⟨J,K⟩ d V2 I2 y A s.ln s.cl W h;unfold Sm.cells;rw[u,G];exact this
theorem pz {s:Sm}{e:Ex}{d:cj}(o:X.os= ra qu 0 0)(q:s∈p.ss)(u:s.kind=1)(v:s.es=[e])(y:V.length+1<=1000)(A:S.length+1<=1000)
  (D:∀W O f,Mk m p L X (V++[s.ty]) I S O f W->ft ac 217 #[rb (qt ⟨m,0,qu⟩),rh e.cells,rh #[re s.ty.1,qT s.ty.2],Z U (V.length:cj)] W λe w'=>e= rk (Z U d)/\bT m p L X V2 I2 S O W w'):
  BB m p L X V I S s V2 I2 (S++[(s.nm,V.length)]):=λW O f h=>by
 obtain⟨g,G,J,K,R⟩:=sm_at h.pg q v;have:=wy o s.ty s.nm g G e ⟨K,R⟩ d V2 I2 y A D s.ln s.cl W h;unfold Sm.cells;rw[u,J];exact this
end
def wB (w:World)(K:Pg->bm Ty->bm eX->Prop)(e:Ending)(w':World):Prop:=
 ∃p V I s d f,K p V I/\e= rk (.tuple #[rh (iH p V I s d f).cells,rh #[Z U 0,Z U 0,Z U 0,Z U 0]])/\(iH p V I s d f).inn w'/\aq w.heap.size w w'
theorem uM (s:aw)(R:bm xG)(n0:cd)(Q:bm nP->Prop)(snm nm:aw)(l:bm (aw×Ty))(y:Ty)(K:Pg->bm Ty->bm eX->Prop)(w:World)(hs:s.size<=1000000)(tl:lW s)(h0:s.size≠0)(hR:jW s n0 (eP s s.size 0)=qt R)
  (hT:∀T:bm Tok,T.map Tok.sig=R++[(5,⟨#[]⟩,0)]->∃rx,Q rx/\o8 T snm l nm y rx)
  (hK:∀(p:Pg),Q (p.ss.map Sm.shp)->p.snm=snm->p.fs.map Fd.shp=l->p.nm=nm->p.ret=y->CJ p/\p.nm.size<=dl/\p.snm.size<=dl/\(∀f∈p.fs,f.nm.size<=dl)/\p.fs.length<=1000000/\∃V I,K p V I/\V.length<=300/\I.length<=1000/\∀m L,jA m p L (X0 p) [] [] [] p.ss V I):
  ft ac 52 #[qT s] w (wB w K):=by
 obtain⟨N,hN⟩:=zE w.heap.size;obtain⟨u,J⟩:=zE ((w.alloc (rj #[ra qu 0 0,ra qu 0 0] 25)).alloc (rj #[Z U 0,Z U 0,Z U 0,Z U 0] 113));have sf:=qQ J hN;have sk:u.heap.size=N+2:=by rw[<-J];simp[hN]
 have sn:=vN J hN;have sq:=xI J hN;have tm:=zH (uE s R n0 Q snm nm l y u hs tl h0 hR hT);have tn:ca (∀(w:World)(c:cG bw),c.size=4->(cU ⟨w.heap.size,0,qu⟩ [Z U 0,Z U 0,Z U 0,Z U 0] 0).run ac (w.alloc (rj c 113))= .ok () (w.alloc (rj #[Z U 0,Z U 0,Z U 0,Z U 0] 113))):=λw=>lw (w:=w);have sr:∀(w:World)(p:Pg)(c:cG bw),c.size=2->(cU ⟨w.heap.size,0,qu⟩ [ra (qt ⟨p.pA,0,qu⟩) 1 p.pC,ra (qt ⟨p.qA,0,qu⟩) 1 p.qC] 0).run ac (w.alloc (rj c 179))= .ok () (w.alloc (rj #[ra (qt ⟨p.pA,0,qu⟩) 1 p.pC,ra (qt ⟨p.qA,0,qu⟩) 1 p.qC] 179)):=λw p c hc=>
  cf (P:=ac) w 179 c #[ra (qt ⟨p.pA,0,qu⟩) 1 p.pC,ra (qt ⟨p.qA,0,qu⟩) 1 p.qC] (by show _=qt 2;kernel_rfl) hc (by simp[br])
 have tp:=zH sr;have HK:=zH hK;have tr:=zH J;have tt:=zH sf;have A:=zH sk;have tv:=zH sn;have tz:=zH sq;clear hR hT J sf sk sn sq sr hK;go_enter func52,ntmps52
 go_upto_region 1 with(fail)
 rw[tr.out]
 go_upto_region 2 with(go_at_call 92;refine tm.out.mono ?_;rintro e w3 ⟨rx,hQ,p,rfl,p1,p2,p3,p4,p5,sx,sy⟩;unfold Pg.cells;have tA:=zH p1;have tB:=zH p2;have tD:=zH p3;have tE:=zH p4;have tG:=zH p5;have HQ:=zH hQ;have G:=zH sx;have sB:=zH sy;clear p1 p2 p3 p4 p5 hQ sx sy)
 obtain⟨D,hD⟩:=zE w3.heap.size;obtain⟨d,rl⟩:=zE ((w3.alloc (rj #[ra (qt ⟨p.pA,0,qu⟩) 1 p.pC,ra (qt ⟨p.qA,0,qu⟩) 1 p.qC] 179)).alloc (rj #[Z U 0,Z U 0,Z U 0,Z U 0] 113));rw[hD,rl];have o:=Eu rl;have sE:aq u.heap.size u d:=sB.out.trans (o.mono sB.out.size);have sL:=vN rl hD;have sR:=xI rl hD;obtain⟨ho,hn,sT,sX,rB,V,I,sY,lV,lI,hst⟩:=HK.out p (by rw[tG.out];exact HQ.out) tA.out tB.out tD.out tE.out;have te:=zw G.out rB (by have:=ho.ss;omega);have tM:ca (ft ac 93 #[rh #[ra (qt ⟨p.pA,0,qu⟩) 1 p.pC,ra (qt ⟨p.qA,0,qu⟩) 1 p.qC]] d (zx d p V I)):=rJ d (te.grow o) ho (λm=>hst m _) lV lI;have HO:=zH ho;have rn:=zH (And.intro hn (And.intro sT (And.intro sX rB)));have tP:=zH sY;have rI:=zH sE;have rm:ca (p.inn u.heap.size d):=⟨ownsRow_below G.out.fields o,ownsRow_below G.out.strs o,ownsRow_below G.out.stmts o,λx hx=>(G.out.exprs x hx).ext (Ext.of_below_size (M:=λ_=>jp) o) (λ_ _ _ h=>h),ownsRow_below G.out.fns o⟩
 obtain⟨⟨a0,a1⟩,_,ua⟩:=bL sL;obtain⟨⟨e0,e1,e2,e3⟩,_,ub⟩:=kK sR;clear hD rl o sE sL sR ho hn sT sX rB sY hst te tp tn G
 go_upto_region 4 with(fail)
 clear e0 e1 e2 e3
 go_wp2_with (go_at_call 93;refine tM.out.mono ?_;rintro e w6 ⟨s6,fA,fC,rfl,hv,hi,hf,rK⟩;unfold Mo.cells;have HV:=zH hv;have HI:=zH hi;have HF:=zH hf;have tR:=zH rK;have rr:=rI.out.trans (rK.mono rI.out.size);have tf:=zH rr;have rL:=(rr.block N (by rw[A.out];omega)).trans tv.out;have rN:=(rr.block (N+1) (by rw[A.out];omega)).trans tz.out;have tS:=zH rL;have tU:=zH rN;obtain⟨⟨b0,b1⟩,⟨d0,d1⟩,uc⟩:=bL rL;obtain⟨⟨g0,g1,g2,g3⟩,⟨f0,f1,f2,f3⟩,ud⟩:=kK rN;clear hv hi hf rK rr rL rN)
 (try simp only[cL,Exit.then]);have th:∀W u0 u1,Ext (·=N) W ((W.setCell ⟨N,0,qu⟩ u0).setCell ⟨N,1,qu⟩ u1):=λW u0 u1=>af (af (Ext.refl _ _) _) _;have ti:∀W u0 u1 u2 u3,Ext (·=N+1) W ((((W.setCell ⟨N+1,0,qu⟩ u0).setCell ⟨N+1,1,qu⟩ u1).setCell ⟨N+1,2,qu⟩ u2).setCell ⟨N+1,3,qu⟩ u3):=λW u0 u1 u2 u3=>af (af (af (af (Ext.refl _ _) _) _) _) _;refine da (bV rfl _ _ N (N+1) 25 113 _ _ (0,0) (0,0) _ _ rfl ((ti _ _ _ _ _).heap (bf tS.out) (show¬N=N+1 by omega)) rfl (gY ((th _ _ _).heap tU.out (show¬N+1=N by omega))) ey (by kernel_rfl) mL (by kernel_rfl)) rfl ?_;have rS:Ext (λq=>q=N\/q=N+1) w6 _:=((th w6 (ra (qt ⟨p.pA,0,qu⟩) 1 p.pC) (ra (qt ⟨fA,0,qu⟩) 1 fC)).mono (λq h=> .inl h)).trans (ti _ (Z U 0) (Z U 0) (Z U 0) (Z U 0)) (λq h=> .inl (.inr h));have ue:N+2<=d.heap.size:=by rw[<-A.out];exact rI.out.size
 have tj:Ext (λq=>q=N\/q=N+1) d _:=(Ext.of_below_size tR.out).trans rS (λq h=> .inl h);have rv:∀{e:ge}{size n:cd}{v:bw}{xs:bm bw},d.ownsRow u.heap.size e size v n xs->_:=λ{e size n v xs} h=>ae (e:=e) (size:=size) (n:=n) (v:=v) (xs:=xs) h tj (λq hq e=>by have:=(ai h hq).1;have:=A.out;omega);have se:∀{e:ge}{size n:cd}{v:bw}{xs:bm bw},w6.ownsRow d.heap.size e size v n xs->_:=λ{e size n v xs} h=>ae (e:=e) (size:=size) (n:=n) (v:=v) (xs:=xs) h rS (λq hq e=>by have:=(ai h hq).1;omega);have tW:p.inn u.heap.size _:=⟨rv rm.out.fields,rv rm.out.strs,rv rm.out.stmts,λs hs=>(rm.out.exprs s hs).ext tj (λq h1 _ e=>by have:=A.out;omega),rv rm.out.fns⟩
 refine⟨p,V,I,s6,fA,fC,tP.out,rfl,BD (zw tW rn.out.2.2.2 (by have:=HO.out.ss;omega)) rn.out.1 rn.out.2.1 rn.out.2.2.1 (se HV.out) (se HI.out) (se HF.out) (by omega) lI, ?_⟩;rw[hN];exact tt.out.trans ((tf.out.mono (by rw[A.out];omega)).trans (rS.below (cE (by rw[A.out];omega) tf.out.size) (λq h=>by omega)))
def pE (d f:cd->cj):cd->bm xG->bm Tok
 |_,[]=>[]
 |i,g::r=>⟨g.1,g.2.1,g.2.2,d i,f i⟩::pE d f (i+1) r
theorem sQ {ln cl:cd->cj}:∀(R:bm xG)(T:bm Tok)(i:cd),T.map Tok.sig=R->(∀(k:cd)(t:Tok),T[k]?=qt t->t.ln=ln (i+k)/\t.cl=cl (i+k))->T=pE ln cl i R
 |[],T,i,h,_=>by unfold pE;simpa using h
 |g::R,[],_,h,_=>by simp at h
 |g::R,t::T,i,h,f=>by
  rw[kc] at h;obtain⟨o,q⟩:=List.cons.inj h;unfold pE;obtain⟨a,b,c,d,e⟩:=t;have h0:=f 0 _ rfl;rw[kO] at h0;rw[<-sQ R T (i+1) q (λk t u=>by rw[show i+1+k=i+(k+1) by omega];exact f (k+1) t (by simpa using u)),<-o,<-h0.1,<-h0.2];rfl
theorem CO (R:bm xG)(T:bm Tok)(h:T.map Tok.sig=R):∃ln cl:cd->cj,T=pE ln cl 0 R:=
 ⟨λi=>(T[i]?.map Tok.ln).getD 0,λi=>(T[i]?.map Tok.cl).getD 0,sQ R T 0 h (λk t d=>by rw[cH,d];exact⟨rfl,rfl⟩)⟩
theorem Ak {A:bm Tok}{e:Tok}(h:(A.all λt=>t.kind != 5)=qv)(u:e.kind=5):xV (A++[e]):=by
 intro k t d;rw[co,fR];rw[List.getElem?_append] at d
 by_cases f:k<A.length
 ·rw[cI f] at d
  have:=gC.1 h t (ce d);have v:t.kind≠5:=by simpa using this
  constructor
  ·intro o;exact fL o v
  ·intro o;omega
 ·rw[cw f] at d
  have y:k-A.length=0:=by
   cases D:k-A.length with
   |zero=>rfl
   |succ q=>rw[D] at d;simp at d
  rw[y] at d;obtain rfl:e=t:=by simpa using d
  constructor
  ·intro _;omega
  ·intro _;exact u
theorem yj {s:aw}(h:(s.data.toList.all λb=>b != 47)=qv):lW s:=by
 intro i;unfold dP
 by_cases d:i<s.size
 ·rw[dif_pos d]
  have f:s[i]'d∈s.data.toList:=by
   have:s[i]'d=s.data[i]'d:=rfl;rw[this];simp
  have:=gC.1 h _ f;intro e;have o:(s[i]'d).toNat=47:=by omega
  have q:s[i]'d=47:=UInt8.toNat_inj.1 o;rw[q] at this;exact fL this (by decide)
 ·rw[dif_neg d];decide
def bS:aw:=⟨#[83]⟩
def Eg:aw:=⟨#[110]⟩
def BH:aw:=⟨#[97]⟩
def ED:aw:=⟨#[98]⟩
theorem BI {m:cd}{p:Pg}{L:cd}{X:Fx}{V:bm Ty}{I:bm eX}(ss:bm Sm)(h:p.ss=ss)(d:jA m p L X [] [] [] ss V I):jA m p L X [] [] [] p.ss V I:=by rw[h];exact d
theorem yl {m:cd}{p:Pg}{L:cd}{X:Fx}{V:bm Ty}{I:bm eX}{S:bm (aw×cd)}(y:Ty)(nm:aw)(d f:cj)(hst:l5 p nm=0)(A:V.length+2<=1000)(q:I.length+1<=1000):
  ∀W O o,Mk m p L X (V++[y]) I S O o W->ft ac 217 #[rb (qt ⟨m,0,qu⟩),rh (⟨7,0,nm,d,f⟩:Ex).cells,rh #[re y.1,qT y.2],Z U (V.length:cj)] W λe w'=>e= rk (Z U (V.length:cj))/\bT m p L X (V++[y]) (I++[⟨12,(V.length:cj),0,0,0,d,f⟩]) S O W w':=λW O o h=>by
 have:=ww 0 nm d f y (V.length:cj) W h (by simp;omega) q;have u:xH (V.length:cj) (V++[y])=(V.length:cj):=by unfold xH;rw[cI (by omega)]
 have v:BA (V.length:cj) (V++[y]) (qv,nm)=V++[y]:=by unfold BA;rw[cI (by omega)]
 rw[u,v,hst] at this;exact this
theorem wF {m:cd}{p:Pg}{L:cd}{X:Fx}{V:bm Ty}{I:bm eX}{S:bm (aw×cd)}(y:Ty)(nm:aw)(d f:cj)(j:cd)(z:aw×cd)(v:S[j]?=qt z)(A:(z.1==nm)=qv)(D:∀q y,j<q->S[q]?=qt y->(y.1==nm)=qS)(u:Ty)(G:(V++[y])[z.2]?=qt u)(J:u.1=qv)(R:V.length+2<=1000)(K:I.length+1<=1000):
  ∀W O o,Mk m p L X (V++[y]) I S O o W->ft ac 217 #[rb (qt ⟨m,0,qu⟩),rh (⟨2,0,nm,d,f⟩:Ex).cells,rh #[re y.1,qT y.2],Z U (V.length:cj)] W λe w'=>e= rk (Z U (V.length:cj))/\bT m p L X (V++[y]) (I++[⟨9,(V.length:cj),(z.2:cj),0,0,d,f⟩]) S O W w':=λW O o h=>
 uL 0 nm d f y (V.length:cj) j z v A D u G (by omega) J W h (by simp;omega) K
theorem ym {m:cd}{p:Pg}{L:cd}{X:Fx}{V:bm Ty}{I:bm eX}{S:bm (aw×cd)}(n:cj)(d f:cj)(q:V.length+1<=1000)(u:I.length+1<=1000):
  ∀W O o,Mk m p L X V I S O o W->ft ac 217 #[rb (qt ⟨m,0,qu⟩),rh (⟨1,n,⟨#[]⟩,d,f⟩:Ex).cells,rh #[re X.rt.1,qT X.rt.2],Z U (-1)] W λe w'=>e= rk (Z U (V.length:cj))/\bT m p L X (V++[bq]) (I++[⟨1,(V.length:cj),0,0,n,d,f⟩]) S O W w':=λW O o h=>by
 have:=wu n ⟨#[]⟩ d f X.rt (-1) W h q u;have v:xH (-1) V=(V.length:cj):=by unfold xH;rw[cw (by omega)]
 have y:BA (-1) V bq=V++[bq]:=by unfold BA;rw[cw (by omega)]
 rw[v,y] at this;exact this
theorem Eh (nm:aw)(S:bm (aw×cd))(h:(S.drop 1).all (λy=> !(y.1==nm))=qv):∀q y,0<q->S[q]?=qt y->(y.1==nm)=qS:=by
 intro q y o d;have f:y∈S.drop 1:=by
  obtain⟨k,rfl⟩:∃k,q=1+k:=⟨q-1,by omega⟩
  have:(S.drop 1)[k]?=qt y:=by rw[od];exact d
  exact ce this
 have:=gC.1 h y f;simpa using this
theorem uN {p:Pg}(h:p.fs.map Fd.shp=[(Eg,(qv,bS))]):∃d,p.fs=[d]/\d.ty=(qv,bS)/\d.nm=Eg:=by
 match hfs:p.fs,h with
 |[d],h=>
  simp only[kc,List.map_nil,qk,and_true,Fd.shp,lz] at h;exact⟨d,rfl,h.2,h.1⟩
 |[],h=>simp at h
 |_::_::_,h=>simp at h
end Go.Proofs.YtjomgckjhcfbgaaGreat
