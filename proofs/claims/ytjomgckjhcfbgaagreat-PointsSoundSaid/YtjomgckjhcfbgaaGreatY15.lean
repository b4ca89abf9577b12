/- Walks. -/
import Derived.Laws.StructEq
import Derived.Test.YtjomgckjhcfbgaaGreatY14
set_option maxRecDepth 100000
set_option maxHeartbeats 64000000
set_option linter.all false
namespace Go.Proofs.YtjomgckjhcfbgaaGreat
open Go.RowKit
open Go.Proofs.Tryz renaming prog→ac,underlying164→cX
open _root_.List renaming getElem?_eq_getElem→am,mem_of_getElem?→cf,length_append→cw,mem_singleton→cH,mem_append_left→cM,mem_append→cT,take_length→de,eq_nil_of_length_eq_zero→du,mem_map→dy,length_map→ei,range→ej,flatMap_cons→el,mem_append_right→ep,getElem?_append_right→et,flatMap_append→eK,getElem?_map→fj,mem_cons→fy,map_append→fL,length_cons→fS,length_singleton→ie,mem_range→jn,length_filter_le→ki,length_range→ml,take_add_one→mT,flatMap_singleton→oa,mem_mergeSort→ob,length_mergeSort→ox,length_take→pp,filter_append→ra
open Go.RowKit.Below renaming refl→aq
open Go.RowKit renaming Below→bh,Hid→cm
open Go renaming heap_setCell_same→bk,cell_of_row→cc,Value→cd,wpList_load_row→ci,bodyPost_ret→dv,maxLen→dT,results_none→fa,Calls→gd,TypeId→gx,info_parts→gA,Oper→ke,yielded→kj,Program→km,ready_mono→nl
open _root_.Nat renaming lt_of_lt_of_le→bl,le_refl→ce,zero_le→cN,zero_add→cV,le_trans→cY,le_succ→ip,min_eq_left→sx
open _root_ renaming List→bm,Int→bp,Nat→bx,if_neg→cE,decide_eq_false→cL,if_pos→cR,Array→da,decide_eq_true→ef,Option→eA,congrArg→eM,absurd→fW,False→mb,beq_iff_eq→mN,Bool→nj
open Go.Value renaming oneCell'→cj,slice→co,int→eE,slice→tP,pointer→tR,bool→tU,agg→tW,int→Z
open _root_.Prod.mk renaming injEq→cU
open Go.Exit renaming inBlock→db
open Go.Addr renaming add_lit→dc
open Go.Region renaming ready→dd,wanted→eC,noSelect→fi,binds→fz,Mode→gO,free→kB,noSelect_spec→lk,free_spec→mB
open _root_.Option.some renaming injEq→dt
open _root_.Classical renaming byContradiction→er
open _root_.Bool renaming and_eq_true→eN,true→tE,false→tG
open Go.Value.slice renaming injEq→gj
open _root_.Int renaming ofNat→gw,ofNat_inj→mu
open Go.Instr renaming lookup→gC
open _root_.Array renaming getElem?_setIfInBounds_ne→jz,replicate→mL,setIfInBounds_comm→oX
open _root_.Prod renaming fst→lE,snd→oA
open Go.Oper renaming wp→lR
open Go.Code renaming region→ti
open _root_.Option renaming some→tB,none→tD
open Go.Obj renaming cells→ua
open Go.Ending renaming returned→ub
open Go.IntKind renaming i64→U
open Tryz
section
open Go.RowKit Go.Maps
section
variable {T HM FM GM:bx}{m:Mo}{B:bx}{tg:bx->PT}{s:yx}{p:PS}{w W w' w2 w9:World}
theorem Pm.base (h:Pm T HM FM GM m B tg s p w):B<=w.heap.size:=by
 have:=h.lo T (by rw[h.t1];simp);omega
open Classical in
theorem Pm.newset {b c:bx}{n:Nd}(h:Pm T HM FM GM m B tg s p w)(h0:∀x,(n,x)∉p.H)(G:Ext (λ_=>mb) w W)(uc:jR W b 0 [])(hb:w.heap.size<=b)
  (J:Ext (·=HM) W w')(hm:eH gT kS (.map tD) w' HM c (Af s.hv n (.map (tB b)))):
  Pm T HM FM GM m B (λk=>if k=b then .set n else tg k) {s with hv:=Af s.hv n (.map (tB b))} p w'/\Ext (λk=>tg k≠ .no/\¬ZA (tg k)) w w'/\jR w' b 0 []:=by
 have ur:=uc.lt;have hB:=h.base;have uv:=(h.lo HM (by rw[h.t2];simp)).2;have f:∀k,tg k≠ .no->(λk=>if k=b then PT.set n else tg k) k=tg k:=λk u=>cE (by have:=(h.lo k u).2;omega);have d:Ext (·=HM) w w':=(G.mono (λ_ h=>h.elim)).trans J (λk e=> .inl e);have v:∀{k:bx}{t:PT},tg k=t->t≠ .mh->¬k=HM:=λh1 h2 e=>h2 (by rw[<-h1,e,h.t2]);have ud:jR w' b 0 []:=uc.ext J (by omega);refine⟨⟨d.heap h.row (v h.t1 (by simp)),⟨c,hm⟩,h.fm.imp λ_ q=>q.ext d (v h.t3 (by simp)),h.gm.imp λ_ q=>q.ext d (v h.t4 (by simp)),
  af h.srow d (λj hj e=>v (h.t5 j hj) (by simp) e),af h.trow d (λj hj e=>v (h.t6 j hj) (by simp) e),λA D=> ?_,
  λA D=>((h.fs A D).ext d (λk e q=>v q (by simp) e)).tag (by simp) f,λA D=>((h.gs A D).ext d (λk e q=>v q (by simp) e)).tag (by simp) f,
  (f T (by rw[h.t1];simp)).trans h.t1,(f HM (by rw[h.t2];simp)).trans h.t2,(f FM (by rw[h.t3];simp)).trans h.t3,(f GM (by rw[h.t4];simp)).trans h.t4,
  λk u=>(f k (by rw[h.t5 k u];simp)).trans (h.t5 k u),λk u=>(f k (by rw[h.t6 k u];simp)).trans (h.t6 k u),λk u=> ?_,h.lS,h.lH,h.lT⟩,d.mono (λk e=>by rw[e,h.t2];simp[ZA]),ud⟩
 ·by_cases e:A=n
  ·subst e
   refine .inr ⟨b,0,[],jq _ _,ud,cN _,λz=>⟨λhz=>by simp at hz,λ⟨x,_,G⟩=>fW G (h0 x)⟩,cR rfl⟩
  ·have:=((h.hs A D).ext d (λk e q=>v q (by simp) e)).tag f
   rw[<-mr (F:=s.hv) (a:=n) e (.map (tB b))] at this;exact this
 ·by_cases e:k=b
  ·subst e
   exact⟨by omega,bl ur J.size⟩
  ·have ue:tg k≠ .no:=λq=>u (by show(if k=b then PT.set n else tg k)=_;rw[cE e];exact q)
   exact⟨(h.lo k ue).1,bl (h.lo k ue).2 d.size⟩
theorem qg.more {H:bm (Nd×bx)}{v:cd}{n d:Nd}{x:bx}(h:qg w tg H v d)(G:¬d=n):qg w tg (H++[(n,x)]) v d:=by
 have u:∀y,(d,y)∈H++[(n,x)]↔(d,y)∈H:=λy=>by
  rw[cT,cH];exact⟨λq=>q.elim id (λe=>fW (eM lE e) G),.inl⟩
 rcases h with⟨A,D⟩|⟨b,c,S,A,D,J,h4,h5⟩
 ·exact .inl ⟨A,λy f=>D y ((u y).1 f)⟩
 ·refine .inr ⟨b,c,S,A,D,cY J (by simp),λz=> ?_,h5⟩
  rw[h4];exact⟨λ⟨y,e,f⟩=>⟨y,e,(u y).2 f⟩,λ⟨y,e,f⟩=>⟨y,e,(u y).1 f⟩⟩
open Classical in
theorem Pm.added {b c:bx}{S:bm bp}{n:Nd}{x:bx}{d:eA Addr}{f:bx}
  (h:Pm T HM FM GM m B tg s p w)(hv:s.hv n= .map (tB b))(hb:tg b= .set n)(hc:c<=p.H.length)(hS:∀z:bp,z∈S↔∃x:bx,z=(x:bp)/\(n,x)∈p.H)
  (h0:(n,x)∉p.H)(lH:p.H.length+1<=500000000)(lT:p.td.length+1<=500000000)
  (h2:jR w2 b (c+1) ((x:bp)::S))(uc:Ext (·=b) w w2)
  (h9:w9.ownsRow B 215 4 (tP d (p.td.length+1) f) (p.td.length+1) (p.td.flatMap EK++EK (n,x)))
  (ux:Ext (λq=>(co s.tdA p.td.length s.tdC).ownBlock=tB q) w2 w9)
  (ur:∀k,(co d (p.td.length+1) f).ownBlock=tB k->(co s.tdA p.td.length s.tdC).ownBlock=tB k\/w2.heap.size<=k):
  bF ZA T HM FM GM m B tg (p.add n x) w (w9.setCell ⟨T,6,tD⟩ (tP d (p.td.length+1) f)):=by
 have hp:p.add n x={p with H:=p.H++[(n,x)],td:=p.td++[(n,x)]}:=cE h0;rw[hp];obtain⟨G,uv⟩:=zE (w9.setCell ⟨T,6,tD⟩ (tP d (p.td.length+1) f));rw[uv];have hB:=h.base;have va:T≠b:=λe=>by have:=h.t1;rw[e,hb] at this;simp at this
 have vc:¬(co s.tdA p.td.length s.tdC).ownBlock=tB T:=λe=>by have:=h.t6 T e;rw[h.t1] at this;simp at this
 have vd:Ext (·=T) w9 G:=by rw[<-uv];exact Ext.set1 w9 T 6 _
 have vq:=uc.heap h.row va;have vr:=ux.heap vq vc;have vf:=bk w9 T 6 _ _ (tP d (p.td.length+1) f) vr;rw[uv] at vf;have vh:Ext (λq=>q=T\/(co s.tdA p.td.length s.tdC).ownBlock=tB q) w2 G:=(ux.mono (λq h=> .inr h)).trans vd (λq e=> .inl (.inl e));have A:Ext (λq=>q=b\/q=T\/(co s.tdA p.td.length s.tdC).ownBlock=tB q) w G:=(uc.mono (λq h=> .inl h)).trans vh (λq e=> .inl (.inr e));have v:∀k,tg k≠ .no->(λk=>if (co d (p.td.length+1) f).ownBlock=tB k then PT.td else tg k) k=tg k:=λk u=>by
  show(if (co d (p.td.length+1) f).ownBlock=tB k then PT.td else tg k)=tg k
  by_cases e:(co d (p.td.length+1) f).ownBlock=tB k
  ·rw[cR e]
   rcases ur k e with q|q
   ·exact(h.t6 k q).symm
   ·have:=(h.lo k u).2
    have:=uc.size;omega
  ·rw[cE e]
 have J:∀{k:bx}{t:PT},tg k=t->t≠ .set n->t≠ .top->t≠ .td->¬(k=b\/k=T\/(co s.tdA p.td.length s.tdC).ownBlock=tB k):=λh1 q1 q2 q3 e=>by
  rcases e with e|e|e
  ·exact q1 (by rw[<-h1,e,hb])
  ·exact q2 (by rw[<-h1,e,h.t1])
  ·exact q3 (by rw[<-h1];exact h.t6 _ e)
 have ue:(p.td++[(n,x)]).length=p.td.length+1:=by simp
 have vi:(p.H++[(n,x)]).length=p.H.length+1:=by simp
 have vj:G.ownsRow B 215 4 (tP d (p.td.length+1) f) (p.td.length+1) (p.td.flatMap EK++EK (n,x)):=af h9 vd (λk u e=>by
  subst e;rcases ur _ u with q|q
  ·exact vc q
  ·have:=(h.lo _ (show tg _≠ .no by rw[h.t1];simp)).2
   have:=uc.size;omega)
 refine⟨λk=>if (co d (p.td.length+1) f).ownBlock=tB k then .td else tg k,{s with tdA:=d,tdC:=f},⟨?_,h.hm.imp λ_ q=>q.ext A (J h.t2 (by simp) (by simp) (by simp)),h.fm.imp λ_ q=>q.ext A (J h.t3 (by simp) (by simp) (by simp)),h.gm.imp λ_ q=>q.ext A (J h.t4 (by simp) (by simp) (by simp)),
  af h.srow A (λj hj=>J (h.t5 j hj) (by simp) (by simp) (by simp)), ?_,λD ud=> ?_,
  λD ud=>((h.fs D ud).ext A (λk e q=>J q (by simp) (by simp) (by simp) e)).tag (by simp) v,λD ud=>((h.gs D ud).ext A (λk e q=>J q (by simp) (by simp) (by simp) e)).tag (by simp) v,
  (v T (by rw[h.t1];simp)).trans h.t1,(v HM (by rw[h.t2];simp)).trans h.t2,(v FM (by rw[h.t3];simp)).trans h.t3,(v GM (by rw[h.t4];simp)).trans h.t4,
  λk u=>(v k (by rw[h.t5 k u];simp)).trans (h.t5 k u),λk u=> ?_,λk u=> ?_,h.lS,by show(p.H++[(n,x)]).length<=_;rw[vi];omega,by show(p.td++[(n,x)]).length<=_;rw[ue];omega⟩,
  A.mono (λk e=> ?_),λk u=> ?_,v⟩
 ·show G.heap[T]?=tB (ua (Cx m HM FM GM {s with tdA:=d,tdC:=f} p.St.length (p.td++[(n,x)]).length) 148 (0,0))
  rw[ue];exact vf
 ·show G.ownsRow B 215 4 (tP d (p.td++[(n,x)]).length f) (p.td++[(n,x)]).length ((p.td++[(n,x)]).flatMap EK)
  rw[ue,eK,oa];exact vj
 ·show qg G (λk=>if (co d (p.td.length+1) f).ownBlock=tB k then .td else tg k) (p.H++[(n,x)]) (s.hv D) D
  by_cases e:D=n
  ·subst e
   have vu:¬(b=T\/(co s.tdA p.td.length s.tdC).ownBlock=tB b):=λe=>by
    rcases e with e|e
    ·exact va e.symm
    ·have:=h.t6 b e
     rw[hb] at this;simp at this
   refine .inr ⟨b,c+1,(x:bp)::S,hv,h2.ext vh vu,by rw[vi];omega,λz=> ?_,(v b (by rw[hb];simp)).trans hb⟩;rw[fy,hS];constructor
   ·rintro(e|⟨y,e,hy⟩)
    ·exact⟨x,e,ep _ (cH.2 rfl)⟩
    ·exact⟨y,e,cM _ hy⟩
   ·rintro⟨y,e,hy⟩
    rcases cT.1 hy with q|q
    ·exact .inr ⟨y,e,q⟩
    ·simp only[cH,cU,true_and] at q
     exact .inl (by rw[e,q])
  ·refine(((h.hs D ud).ext A (λk q q2=> ?_)).tag v).more e
   refine J q2 ?_ (by simp) (by simp) q;simpa using e
 ·have vm:(co d (p.td++[(n,x)]).length f).ownBlock=tB k:=u
  rw[ue] at vm;exact cR vm
 ·by_cases e:(co d (p.td.length+1) f).ownBlock=tB k
  ·exact vj.lt k e
  ·have vp:tg k≠ .no:=λq=>u (by show(if (co d (p.td.length+1) f).ownBlock=tB k then PT.td else tg k)=_;rw[cE e];exact q)
   exact⟨(h.lo k vp).1,bl (h.lo k vp).2 A.size⟩
 ·rcases e with e|e|e
  ·rw[e,hb];simp[ZA]
  ·rw[e,h.t1];simp[ZA]
  ·rw[h.t6 k e];simp[ZA]
 ·by_cases e:(co d (p.td.length+1) f).ownBlock=tB k
  ·rcases ur k e with q|q
   ·exact .inl (by rw[h.t6 k q];simp)
   ·exact .inr (cY uc.size q)
  ·exact .inl λq=>u (by show(if (co d (p.td.length+1) f).ownBlock=tB k then PT.td else tg k)=_;rw[cE e];exact q)
end
end
section
open Go.RowKit Go.Maps
theorem EL (w:World):(zeroValue 162).run ac w= .ok (.map tD) w:=by kernel_rfl
theorem Dt (b:bx)(w:World):(binOp .eql 162 (.map (tB b)) (.map tD)).run ac w= .ok (tU tG) w:=by kernel_rfl
theorem EM (w:World):(binOp .eql 162 (.map tD) (.map tD)).run ac w= .ok (tU tE) w:=by kernel_rfl
section
variable {T HM FM GM:bx}{m:Mo}{B:bx}{tg tg1:bx->PT}{s s1:yx}{p p1 p':PS}{w w1 w':World}
theorem Pm.look (h:Pm T HM FM GM m B tg s p w){n:Nd}(d:gT n):(gC 143 (.map (tB HM)) (kS n) tG).run ac w= .ok (s.hv n) w:=by
 obtain⟨c,q⟩:=h.hm;exact q.look kU underlying143 (EL w) d
theorem aS {W:World}{D:bx}{a b c:bp}(h:W.heap[D]?=tB (ua #[Z U a,Z U b,Z U c] 164 (0,0))):∀j u,(#[Z U a,Z U b,Z U c]:da cd).toList[j]?=tB u->W.cell? ((⟨D,0,tD⟩:Addr).add j)=tB u:=by
 intro j u d;rw[dc,cV,cc _ _ _ _ _ _ h];simpa using d
theorem mE (w:World)(h:Pm T HM FM GM m B tg s p w){n1 n2 n3:bp}(hn:gT (n1,n2,n3)){x:bx}(hx:x<=1000000)(lH:p.H.length+1<=500000000)(lT:p.td.length+1<=500000000):
  gd ac 120 #[tR (tB ⟨T,0,tD⟩),tW #[Z U n1,Z U n2,Z U n3],Z U (x:bp)] w λe w'=>e= ub (.tuple #[])/\bF ZA T HM FM GM m B tg (p.add (n1,n2,n3) x) w w':=by
 obtain⟨D,hD⟩:=zE w.heap.size;obtain⟨W1,yq⟩:=zE (w.alloc (ua #[Z U n1,Z U n2,Z U n3] 164));have A5:=iq yq;have A6:W1.heap[D]?=tB (ua #[Z U n1,Z U n2,Z U n3] 164 (0,0)):=by rw[<-yq,<-hD];exact alloc_at _ _
 have zj:bh w.heap.size w W1.drew:=A5.drew;have h1:=h.grow zj;have zp:W1.drew.heap[D]?=tB (ua #[Z U n1,Z U n2,Z U n3] 164 (0,0)):=A6;obtain⟨S1,yr⟩:=zE ((λw'=>w'=W1.drew):World->Prop);have Bk:S1 W1.drew:=by rw[<-yr]
 have zr:=h1.look hn;unfold kS at zr;have wg:cm (∀W,S1 W->W.cell? ⟨T,3,tD⟩=tB (.map (tB HM))/\T<W.heap.size/\(gC 143 (.map (tB HM)) (tW #[Z U n1,Z U n2,Z U n3]) tG).run ac W= .ok (s.hv (n1,n2,n3)) W):=λW A=>by
  rw[<-yr] at A;subst A;exact⟨(rowAt h1.row 3 rfl).1,ae h1.row,zr⟩
 have Bm:cm (∀W,S1 W->∀j u,(#[Z U n1,Z U n2,Z U n3]:da cd).toList[j]?=tB u->W.cell? ((⟨D,0,tD⟩:Addr).add j)=tB u):=λW A=>by
  rw[<-yr] at A;subst A;exact aS zp
 have By:cm (D=w.heap.size):=hD.symm;have H:=zH h;have H1:=zH h1;have ws:=zH zp;have wi:=zH zj;have CD:=zH yq;clear h A5 A6 zj h1 zp yr zr yq hD;go_enter func120,ntmps120
 go_upto_region 1 with(fail)
 rw[CD.out];refine ak 6 S1 (by kernel_rfl) ?_;refine zT 0 rfl wg.out ?_;(try go_simp);refine zT 1 rfl wg.out ?_;(try go_simp);refine zT 2 rfl wg.out ?_;(try go_simp);refine zT 3 rfl wg.out ?_;(try go_simp);(try rw[<-By.out]);refine zL 4 rfl 164 ⟨D,0,tD⟩ Bm.out cX ?_;(try go_simp);refine zT 5 rfl wg.out ?_;(try go_simp);refine zK rfl λK' d=> ?_;go_simp;refine d _ _ ?_;clear d;refine⟨by kernel_rfl, ?_⟩;have BE:tg D= .no:=er λe=>by have:=(H.out.lo D e).2;rw[By.out] at this;exact Nat.lt_irrefl _ this
 have zv:=zH BE;obtain⟨W2,BT⟩:=zE W1.drew;rw[BT] at H1 ws wi⊢;have BY:=zH Bk;clear Bk BT BE wg Bm;rcases H1.out.hs _ hn with⟨hv,h0⟩|⟨b,c,S,hv,An,hc,hS,B4⟩
 ·rw[hv]
  have CH:=EM;have CM:=@run_makeMap ac;obtain⟨b,hb⟩:=zE W2.heap.size;obtain⟨W3,yv⟩:=zE (W2.alloc (.map #[] 0));have B5:jR W3 b 0 []:=by rw[<-yv,<-hb];exact jR.made _
  have yy:bh W2.heap.size W2 W3.drew:=(iq yv).drew;have B6:jR W3.drew b 0 []:=B5.ext ((Ext.refl (λ_=>mb) W3).drew) (λh=>h);have h3:=H1.out.grow yy;have As:=(yy.block D (ae ws.out)).trans ws.out;obtain⟨c0,q3⟩:=h3.hm;obtain⟨W4,vd,B8,At⟩:=q3.put kU underlying143 hn (.map (tB b));unfold kS at vd;obtain⟨k1,k2,k3⟩:=H1.out.newset (n:=(n1,n2,n3)) h0 (Ext.of_below_size yy) B6 (Nat.le_of_eq hb) At B8;have vf:D≠b:=by have:=ae ws.out;omega
  have B9:¬D=HM:=λe=>by have:=zv.out;rw[e,H1.out.t2] at this;simp at this
  have Cd:=At.heap As B9;obtain⟨S3,yW⟩:=zE ((λw'=>w'=W3.drew):World->Prop);have CN:S3 W3.drew:=by rw[<-yW]
  have wj:cm (∀W,S3 W->W.cell? ⟨T,3,tD⟩=tB (.map (tB HM))/\T<W.heap.size):=λW A=>by
   rw[<-yW] at A;subst A;exact⟨(rowAt h3.row 3 rfl).1,ae h3.row⟩
  have Cl:cm (∀W,S3 W->∀j u,(#[Z U n1,Z U n2,Z U n3]:da cd).toList[j]?=tB u->W.cell? ((⟨D,0,tD⟩:Addr).add j)=tB u):=λW A=>by
   rw[<-yW] at A;subst A;exact aS As
  obtain⟨tg1,uc⟩:=zE (λk=>if k=b then PT.set (n1,n2,n3) else tg k);obtain⟨s1,vh⟩:=zE ({s with hv:=Af s.hv (n1,n2,n3) (.map (tB b))}:yx);have f:cm (Pm T HM FM GM m B tg1 s1 p W4):=by rw[<-uc,<-vh];exact k1
  have HX:cm (Ext (λk=>tg k≠ .no/\¬ZA (tg k)) w W4):=Ext.trans (Ext.of_below_size wi.out) k2 (λk h=> .inl h);have HT:cm ((∀k,tg1 k≠ .no->tg k≠ .no\/w.heap.size<=k)/\∀k,tg k≠ .no->tg1 k=tg k):=by
   refine⟨λk J=> ?_,λk J=>by rw[<-uc];exact cE (λe=>by have:=(H.out.lo k J).2;have:=wi.out.size;omega)⟩
   by_cases e:k=b
   ·exact .inr (by rw[e,<-hb];exact wi.out.size)
   ·refine .inl λq=>J ?_
    rw[<-uc]
    show(if k=b then PT.set (n1,n2,n3) else tg k)= .no
    rw[cE e];exact q
  have uv:cm (tg1 b= .set (n1,n2,n3)):=by rw[<-uc];exact cR rfl
  have vi:cm (tg1 D= .no):=by
   rw[<-uc]
   show(if D=b then PT.set (n1,n2,n3) else tg D)= .no
   rw[cE vf];exact zv.out
  have HV:cm (s1.hv (n1,n2,n3)= .map (tB b)):=by rw[<-vh];exact jq _ _
  have Ax:=zH Cd;have HC:cm (0<=p.H.length):=cN _;have zc:=zH k3;have wk:cm (∀z:bp,z∈([]:bm bp)↔∃x:bx,z=(x:bp)/\(((n1,n2,n3):Nd),x)∈p.H):=λz=>⟨λhz=>by simp at hz,λ⟨x,_,hx⟩=>fW hx (h0 x)⟩
  have AD:cm ((((n1,n2,n3):Nd),x)∉p.H):=h0 x;have zd:=k3.look (x:=(x:bp)) (by omega);rw[cL (λh=>by simp at h)] at zd;obtain⟨c,AE⟩:=zE 0;obtain⟨S,AF⟩:=zE ([]:bm bp);rw[AE,AF] at zc;rw[AF] at wk;have HC:cm (c<=p.H.length):=by rw[<-AE];exact cN _
  have Cp:=zH yv;have CA:=zH hb;have CC:=zH vd;clear hv h0 B5 B6 yy h3 As q3 B8 At vd k1 k2 k3 vf B9 Cd yW uc vh AE AF yv hb
  go_upto_region 4 with(fail)
  clear CM;(try rw[CA.out]);(try rw[Cp.out]);refine ak 6 S3 (by kernel_rfl) ?_;refine zT 0 rfl wj.out ?_;(try go_simp);refine zT 1 rfl wj.out ?_;(try go_simp);refine zT 2 rfl wj.out ?_;(try go_simp);refine zT 3 rfl wj.out ?_;(try go_simp);refine zL 4 rfl 164 ⟨D,0,tD⟩ Cl.out cX ?_;(try go_simp);refine zT 5 rfl wj.out ?_;(try go_simp);refine zK rfl λK' d=> ?_;have vd:=CC.out;go_simp;(try simp only[vd]);(try go_simp);refine d _ _ ?_;clear d vd;refine⟨by kernel_rfl, ?_⟩;clear CC CN wj Cl Cp CA;have vj:T≠b:=λe=>by have:=f.out.t1;rw[e,uv.out] at this;simp at this
  have vf:D≠b:=λe=>by have:=vi.out;rw[e,uv.out] at this;simp at this
  have wx:D≠T:=λe=>by have:=vi.out;rw[e,f.out.t1] at this;simp at this
  have vm:∀k,(co s1.tdA p.td.length s1.tdC).ownBlock=tB k->k≠D/\k≠T/\k≠b/\k<W4.heap.size:=λk J=>by
   have a:=f.out.t6 k J;have a0:=vi.out;have a1:=f.out.t1;have a2:=uv.out;exact⟨λe=>by rw[e] at a;rw[a0] at a;simp at a,λe=>by rw[e,a1] at a;simp at a,λe=>by rw[e,a2] at a;simp at a,(f.out.lo k (by rw[a];simp)).2⟩
  have xf:c<=1000000000:=by have:=f.out.lH;have:=HC.out;omega
  obtain⟨W5,vd,xj,ue⟩:=zc.out.add (x:=(x:bp)) (by omega) xf;have xl:=ue.heap f.out.row vj;have xo:=ue.heap Ax.out vf;have xp:=af f.out.trow ue (λk J e=>(vm k J).2.2.1 e);have vp:=zH xl;have vq:=zH xo;have AG:=zH xp;have AH:=zH xj;have xr:=zH ue;have xt:=zH vm;have CT:=zH vj;have C3:=zH wx;clear xl xo xp xj ue vm vj wx vf xf BY
  go_upto_region 7 with(fail)
  obtain⟨i0,AI,AK,AM,AN⟩:=gA tq;obtain⟨S2,ux⟩:=zE ((λw'=>w'.heap[T]?=tB (ua (Cx m HM FM GM s1 p.St.length p.td.length) 148 (0,0))/\w'.heap[D]?=tB (ua #[Z U n1,Z U n2,Z U n3] 164 (0,0))):World->Prop);have vr:cm (∀W,W.heap[T]?=tB (ua (Cx m HM FM GM s1 p.St.length p.td.length) 148 (0,0))->W.heap[D]?=tB (ua #[Z U n1,Z U n2,Z U n3] 164 (0,0))->S2 W):=λW a b=>by rw[<-ux];exact⟨a,b⟩
  have v:cm (∀w,S2 w->w.cell? ⟨T,6,tD⟩=tB (tP s1.tdA p.td.length s1.tdC)/\T<w.heap.size):=λw hw=>by rw[<-ux] at hw;exact⟨(rowAt hw.1 6 rfl).1,ae hw.1⟩
  have AS:cm (∀W,S2 W->∀j u,(#[Z U n1,Z U n2,Z U n3]:da cd).toList[j]?=tB u->W.cell? ((⟨D,0,tD⟩:Addr).add j)=tB u):=λW A=>by
   rw[<-ux] at A;exact aS A.2
  have C4:S2 W5.drew:=vr.out _ vp.out vq.out;clear ux;refine ak 12 S2 (by kernel_rfl) ?_;refine zT 0 rfl v.out ?_;(try go_simp);refine zT 1 rfl v.out ?_;(try go_simp);refine zT 2 rfl v.out ?_;(try go_simp);refine zT 3 rfl v.out ?_;(try go_simp);refine zT 4 rfl v.out ?_;(try go_simp);refine zL 5 rfl 164 ⟨D,0,tD⟩ AS.out cX ?_;(try go_simp);refine zT 6 rfl v.out ?_;(try go_simp);refine zT 7 rfl v.out ?_;(try go_simp);refine zO 8 rfl λK' d=> ?_;go_simp;obtain⟨G,hG⟩:=zE W5.heap.size;obtain⟨W8,va⟩:=zE ((W5.alloc (ua #[Z U n1,Z U n2,Z U n3,Z U (x:bp)] 215)).drew);(try rw[hG]);(try rw[va]);have ud:bh W5.heap.size W5 W8:=by rw[<-va];exact((aq _ _).alloc (ce _) _).drew
  have xF:W8.heap[G]?=tB (ua #[Z U n1,Z U n2,Z U n3,Z U (x:bp)] 215 (0,0)):=by rw[<-va,<-hG];exact alloc_at _ _
  have vu:=(ud.block T (ae vp.out)).trans vp.out;have vx:=(ud.block D (ae vq.out)).trans vq.out;have vy:Ext (λ_=>mb) W5 W8:=Ext.of_below_size ud;have xT:=af AG.out vy (λ_ _ h=>h);refine d _ _ (vr.out _ vu vx) ?_;clear d;(try go_simp);refine zO 9 rfl λK' d=> ?_;have ya:B<=W8.heap.size:=cY f.out.base (cY xr.out.size ud.size);have yb:p.td.length+1<=dT:=by unfold dT;omega
  refine aH (.tmp 32) (.tmp 36) 146 rfl B 215 i0 _ 4 32 underlying146 AI AK AM AN rfl (by decide) (tP s1.tdA p.td.length s1.tdC) p.td.length (p.td.flatMap EK) rfl xT (tB ⟨G,0,tD⟩) 1 1 [Z U n1,Z U n2,Z U n3,Z U (x:bp)] rfl rfl (λh=>by cases h) (λad AT j u hu=>by
   obtain rfl:(⟨G,0,tD⟩:Addr)=ad:=by simpa using AT
   rw[dc,cV,cc _ _ _ _ _ _ xF];simpa using hu) (by simp[cj]) yb (by omega) ya ?_
  intro v9 w9 we yd ye;obtain⟨C5,c9,AW⟩:=ai we;subst AW;have vc:Ext (λq=>(co s1.tdA p.td.length s1.tdC).ownBlock=tB q) W8 w9:=Ext.of_grown yd (λq hq=> .inl hq);have ur:=vc.heap vu (λe=>(xt.out _ e).2.1 rfl);have yi:=vc.heap vx (λe=>(xt.out _ e).1 rfl);have yk:S2 w9:=vr.out _ ur yi;have A0:=(rowAt ur 6 rfl).2;have A2:=(rowAt ur 6 rfl).1;have C6:=ae ur;refine d _ _ yk ?_;clear d;(try go_simp);refine zT 10 rfl v.out ?_;(try go_simp);refine zT 11 rfl v.out ?_;(try go_simp);refine zK rfl λK' d=> ?_;go_simp;refine d _ _ ?_;clear d;refine⟨by kernel_rfl, ?_⟩;have yp:Ext (λq=>(co s1.tdA p.td.length s1.tdC).ownBlock=tB q) W5 w9:=(vy.mono (λ_ h=>h.elim)).trans vc (λq h=> .inl h);have A4:=zH (f.out.added (n:=(n1,n2,n3)) (x:=x) HV.out uv.out HC.out wk.out AD.out lH lT AH.out xr.out we yp (λk J=>by
   rcases ye k J with q|q
   ·exact .inl q
   ·exact .inr (cY ud.size q)))
  clear ur yi yk A0 A2 vc yp vu vx vy xT we yd ye va ud xF hG ya yb;go_wp2
  go_end0
  exact⟨rfl,bF.step HX.out HT.out A4.out⟩
 ·rw[hv]
  obtain⟨tg1,uc⟩:=zE tg;obtain⟨s1,vh⟩:=zE s;have f:cm (Pm T HM FM GM m B tg1 s1 p W2):=by rw[<-uc,<-vh];exact H1.out
  have HX:cm (Ext (λk=>tg k≠ .no/\¬ZA (tg k)) w W2):=Ext.of_below_size wi.out;have HT:cm ((∀k,tg1 k≠ .no->tg k≠ .no\/w.heap.size<=k)/\∀k,tg k≠ .no->tg1 k=tg k):=⟨λk J=> .inl (by rw[uc];exact J),λk _=>by rw[<-uc]⟩
  have uv:cm (tg1 b= .set (n1,n2,n3)):=by rw[<-uc];exact B4
  have vi:cm (tg1 D= .no):=by rw[<-uc];exact zv.out
  have HV:cm (s1.hv (n1,n2,n3)= .map (tB b)):=by rw[<-vh];exact hv
  have Ax:=ws;have HC:=zH hc;have zc:=zH An;have wk:=zH hS;have zd:=An.look (x:=(x:bp)) (by omega);have CH:=Dt b;clear hv An hc hS B4 uc vh
  by_cases wl:(x:bp)∈S
  ·have C7:cm ((((n1,n2,n3):Nd),x)∈p.H):=by
    obtain⟨y,e,hy⟩:=(wk.out _).1 wl;rw[mu.1 e];exact hy
   rw[ef wl] at zd;clear wl;go_wp2
   go_end0
   refine⟨rfl, ?_⟩;unfold PS.add;rw[cR C7.out];exact H.out.same wi.out
  ·have AD:cm ((((n1,n2,n3):Nd),x)∉p.H):=λq=>wl ((wk.out _).2 ⟨x,rfl,q⟩)
   rw[cL wl] at zd;clear wl;have vj:T≠b:=λe=>by have:=f.out.t1;rw[e,uv.out] at this;simp at this
   have vf:D≠b:=λe=>by have:=vi.out;rw[e,uv.out] at this;simp at this
   have wx:D≠T:=λe=>by have:=vi.out;rw[e,f.out.t1] at this;simp at this
   have vm:∀k,(co s1.tdA p.td.length s1.tdC).ownBlock=tB k->k≠D/\k≠T/\k≠b/\k<W2.heap.size:=λk J=>by
    have a:=f.out.t6 k J;have a0:=vi.out;have a1:=f.out.t1;have a2:=uv.out;exact⟨λe=>by rw[e] at a;rw[a0] at a;simp at a,λe=>by rw[e,a1] at a;simp at a,λe=>by rw[e,a2] at a;simp at a,(f.out.lo k (by rw[a];simp)).2⟩
   have xf:c<=1000000000:=by have:=f.out.lH;have:=HC.out;omega
   obtain⟨W5,vd,xj,ue⟩:=zc.out.add (x:=(x:bp)) (by omega) xf;have xl:=ue.heap f.out.row vj;have xo:=ue.heap Ax.out vf;have xp:=af f.out.trow ue (λk J e=>(vm k J).2.2.1 e);have vp:=zH xl;have vq:=zH xo;have AG:=zH xp;have AH:=zH xj;have xr:=zH ue;have xt:=zH vm;have CT:=zH vj;have C3:=zH wx;clear xl xo xp xj ue vm vj wx vf xf BY
   go_upto_region 7 with(fail)
   obtain⟨i0,AI,AK,AM,AN⟩:=gA tq;obtain⟨S2,ux⟩:=zE ((λw'=>w'.heap[T]?=tB (ua (Cx m HM FM GM s1 p.St.length p.td.length) 148 (0,0))/\w'.heap[D]?=tB (ua #[Z U n1,Z U n2,Z U n3] 164 (0,0))):World->Prop);have vr:cm (∀W,W.heap[T]?=tB (ua (Cx m HM FM GM s1 p.St.length p.td.length) 148 (0,0))->W.heap[D]?=tB (ua #[Z U n1,Z U n2,Z U n3] 164 (0,0))->S2 W):=λW a b=>by rw[<-ux];exact⟨a,b⟩
   have v:cm (∀w,S2 w->w.cell? ⟨T,6,tD⟩=tB (tP s1.tdA p.td.length s1.tdC)/\T<w.heap.size):=λw hw=>by rw[<-ux] at hw;exact⟨(rowAt hw.1 6 rfl).1,ae hw.1⟩
   have AS:cm (∀W,S2 W->∀j u,(#[Z U n1,Z U n2,Z U n3]:da cd).toList[j]?=tB u->W.cell? ((⟨D,0,tD⟩:Addr).add j)=tB u):=λW A=>by
    rw[<-ux] at A;exact aS A.2
   have C4:S2 W5.drew:=vr.out _ vp.out vq.out;clear ux;refine ak 12 S2 (by kernel_rfl) ?_;refine zT 0 rfl v.out ?_;(try go_simp);refine zT 1 rfl v.out ?_;(try go_simp);refine zT 2 rfl v.out ?_;(try go_simp);refine zT 3 rfl v.out ?_;(try go_simp);refine zT 4 rfl v.out ?_;(try go_simp);refine zL 5 rfl 164 ⟨D,0,tD⟩ AS.out cX ?_;(try go_simp);refine zT 6 rfl v.out ?_;(try go_simp);refine zT 7 rfl v.out ?_;(try go_simp);refine zO 8 rfl λK' d=> ?_;go_simp;obtain⟨G,hG⟩:=zE W5.heap.size;obtain⟨W8,va⟩:=zE ((W5.alloc (ua #[Z U n1,Z U n2,Z U n3,Z U (x:bp)] 215)).drew);(try rw[hG]);(try rw[va]);have ud:bh W5.heap.size W5 W8:=by rw[<-va];exact((aq _ _).alloc (ce _) _).drew
   have xF:W8.heap[G]?=tB (ua #[Z U n1,Z U n2,Z U n3,Z U (x:bp)] 215 (0,0)):=by rw[<-va,<-hG];exact alloc_at _ _
   have vu:=(ud.block T (ae vp.out)).trans vp.out;have vx:=(ud.block D (ae vq.out)).trans vq.out;have vy:Ext (λ_=>mb) W5 W8:=Ext.of_below_size ud;have xT:=af AG.out vy (λ_ _ h=>h);refine d _ _ (vr.out _ vu vx) ?_;clear d;(try go_simp);refine zO 9 rfl λK' d=> ?_;have ya:B<=W8.heap.size:=cY f.out.base (cY xr.out.size ud.size);have yb:p.td.length+1<=dT:=by unfold dT;omega
   refine aH (.tmp 32) (.tmp 36) 146 rfl B 215 i0 _ 4 32 underlying146 AI AK AM AN rfl (by decide) (tP s1.tdA p.td.length s1.tdC) p.td.length (p.td.flatMap EK) rfl xT (tB ⟨G,0,tD⟩) 1 1 [Z U n1,Z U n2,Z U n3,Z U (x:bp)] rfl rfl (λh=>by cases h) (λad AT j u hu=>by
    obtain rfl:(⟨G,0,tD⟩:Addr)=ad:=by simpa using AT
    rw[dc,cV,cc _ _ _ _ _ _ xF];simpa using hu) (by simp[cj]) yb (by omega) ya ?_
   intro v9 w9 we yd ye;obtain⟨C5,c9,AW⟩:=ai we;subst AW;have vc:Ext (λq=>(co s1.tdA p.td.length s1.tdC).ownBlock=tB q) W8 w9:=Ext.of_grown yd (λq hq=> .inl hq);have ur:=vc.heap vu (λe=>(xt.out _ e).2.1 rfl);have yi:=vc.heap vx (λe=>(xt.out _ e).1 rfl);have yk:S2 w9:=vr.out _ ur yi;have A0:=(rowAt ur 6 rfl).2;have A2:=(rowAt ur 6 rfl).1;have C6:=ae ur;refine d _ _ yk ?_;clear d;(try go_simp);refine zT 10 rfl v.out ?_;(try go_simp);refine zT 11 rfl v.out ?_;(try go_simp);refine zK rfl λK' d=> ?_;go_simp;refine d _ _ ?_;clear d;refine⟨by kernel_rfl, ?_⟩;have yp:Ext (λq=>(co s1.tdA p.td.length s1.tdC).ownBlock=tB q) W5 w9:=(vy.mono (λ_ h=>h.elim)).trans vc (λq h=> .inl h);have A4:=zH (f.out.added (n:=(n1,n2,n3)) (x:=x) HV.out uv.out HC.out wk.out AD.out lH lT AH.out xr.out we yp (λk J=>by
    rcases ye k J with q|q
    ·exact .inl q
    ·exact .inr (cY ud.size q)))
   clear ur yi yk A0 A2 vc yp vu vx vy xT we yd ye va ud xF hG ya yb;go_wp2
   go_end0
   exact⟨rfl,bF.step HX.out HT.out A4.out⟩
end
end
theorem GY:∀(l:bm Nd)(i:bx)(p:Nd),l[i]?=tB p->(l.flatMap og)[i*3+0]?=tB (Z U p.1)/\(l.flatMap og)[i*3+1]?=tB (Z U p.2.1)/\(l.flatMap og)[i*3+2]?=tB (Z U p.2.2):=by
 intro l
 induction l with
 |nil=>intro i p d;simp at d
 |cons x r ih=>
  intro i p d;cases i with
  |zero=>
   obtain rfl:x=p:=by simpa using d
   exact⟨rfl,rfl,rfl⟩
  |succ i=>
   obtain⟨f,h,q⟩:=ih i p (by simpa using d);rw[el];refine⟨?_, ?_, ?_⟩
   ·rw[et (by simp[og];omega),show(i+1)*3+0-(og x).length=i*3+0 by simp[og];omega];exact f
   ·rw[et (by simp[og];omega),show(i+1)*3+1-(og x).length=i*3+1 by simp[og];omega];exact h
   ·rw[et (by simp[og];omega),show(i+1)*3+2-(og x).length=i*3+2 by simp[og];omega];exact q
theorem tC {w:World}{B:bx}{e:gx}{q n cap:bx}{f:eA Addr}{l:bm cd}(h:w.ownsRow B e q (tP f n cap) n l):(n=0/\l=[])\/∃g,f=tB ⟨g,0,tD⟩/\g<w.heap.size/\∀j u,l[j]?=tB u->w.cell? ⟨g,j,tD⟩=tB u:=by
 rcases h.2 with⟨D,d⟩|⟨g,cap,cur,d,_,v,_⟩
 ·have h0:=h.1
  subst d;rw[Nat.zero_mul] at h0;exact .inl ⟨rfl,du h0⟩
 ·simp only[gj] at d
  refine .inr ⟨g,d.1,ae v,λj u A=> ?_⟩;have:=h.cells (g:=g) (by rw[d.1];rfl) _ _ A;rw[dc,cV] at this;exact this
theorem EN (p q r a b c:bp)(W:World):(binOp .eql 164 (tW #[Z U p,Z U q,Z U r]) (tW #[Z U a,Z U b,Z U c])).run ac W= .ok (tU (p==a&&(q==b&&r==c))) W:=by
 rw[run_eql_struct,show(10000:bx)=9998+1+1 from rfl];rw[run_equalIn_struct W _ _ _ _ (by kernel_rfl) (by kernel_rfl)];go_simp
 by_cases d:p=a<;>by_cases f:q=b<;>by_cases h:r=c<;>simp[d,f,h]
theorem rf (w:World){B:bx}(c:bx)(ao:eA Addr)(xs:bm Nd)(n1 n2 n3:bp)(hn:xs.length<=500000000)(h:w.ownsRow B 164 3 (tP ao xs.length c) xs.length (xs.flatMap og)):
  gd ac 199 #[tP ao xs.length c,tW #[Z U n1,Z U n2,Z U n3]] w λe w'=>∃k:bp,e= ub (Z U k)/\(0<=k↔(n1,n2,n3)∈xs)/\bh w.heap.size w w':=by
 obtain⟨D,hD⟩:=zE w.heap.size;obtain⟨v,uc⟩:=zE (w.alloc (ua #[Z U n1,Z U n2,Z U n3] 164));have uv:=iq uc;have ux:v.heap[D]?=tB (ua #[Z U n1,Z U n2,Z U n3] 164 (0,0)):=by rw[<-uc,<-hD];exact alloc_at _ _
 have h1:=af h (Ext.of_below_size (M:=λ_=>mb) uv) (λ_ _ h=>h);have va:=zH ux;have H1:=zH h1;have ud:=zH uv;have vj:=zH uc;have HD:=zH hD;clear h uv ux h1 uc hD;go_enter func199,ntmps199
 go_wp2_with fail
 rw[vj.out,HD.out]
 go_loopw [8] (λk wr=>∃j:bx,j<=xs.length/\k= Z U (j:bp)/\(n1,n2,n3)∉xs.take j/\bh v.heap.size v wr) (λk _=>xs.length-(intOf k).toNat)
 case atStart=>exact⟨0,cN _,rfl,by simp,aq _ _⟩
 case round=>
  obtain⟨j,hj,rfl,A,f⟩:=hrel
  by_cases vm:j<xs.length
  ·obtain⟨⟨y1,y2,y3⟩,hy⟩:∃y,xs[j]?=tB y:=⟨_,am vm⟩
   have vy:(j:bp)<(xs.length:bp):=by omega
   have vc:=(f.block D (ae va.out)).trans va.out;have h2:=af H1.out (Ext.of_below_size (M:=λ_=>mb) f) (λ_ _ h=>h);obtain⟨a1,a2,a3⟩:=GY xs j _ hy;obtain⟨g,rfl,hg,ue⟩:∃g,ao=tB ⟨g,0,tD⟩/\g<wr.heap.size/\∀j u,(xs.flatMap og)[j]?=tB u->wr.cell? ⟨g,j,tD⟩=tB u:=by
    rcases tC h2 with⟨e,_⟩|q
    ·omega
    ·exact q
   obtain⟨S,G⟩:=zE ((λw'=>w'=wr.drew):World->Prop);have vp:S wr.drew:=by rw[<-G]
   have vd:cm (∀W,S W->∀j u,(#[Z U n1,Z U n2,Z U n3]:da cd).toList[j]?=tB u->W.cell? ((⟨D,0,tD⟩:Addr).add j)=tB u):=λW d=>by
    rw[<-G] at d;subst d;exact aS (W:=wr.drew) vc
   have vf:cm (∀W,S W->∀k u,(#[Z U y1,Z U y2,Z U y3]:da cd).toList[k]?=tB u->W.cell? ((⟨g,j*3,tD⟩:Addr).add k)=tB u):=λW d k u hu=>by
    rw[<-G] at d;subst d;rw[dc]
    show wr.cell? _=_
    rcases k with _|_|_|k
    ·rw[<-(show _=tB u from hu)];exact ue _ _ a1
    ·rw[<-(show _=tB u from hu)];exact ue _ _ a2
    ·rw[<-(show _=tB u from hu)];exact ue _ _ a3
    ·simp at hu
   have ur:cm (∀W,S W->g<W.heap.size):=λW d=>by
    rw[<-G] at d;subst d;exact hg
   have vh:bh v.heap.size v wr.drew:=f.drew;have vi:=zH vh;have HY:=zH hy;have HZ:=zH A;clear vc h2 a1 a2 a3 hg ue G hy A f vh;obtain⟨q,hq⟩:=zE (n1==y1&&(n2==y2&&n3==y3));have J:=EN n1 n2 n3 y1 y2 y3;rw[hq] at J;have vq:=zH J;have HQ:=zH hq;clear J hq;have vr:ac.eqGuardType ac.depth 164=tG:=by kernel_rfl
   go_upto_region 4 with(fail)
   refine ak 5 S (by kernel_rfl) ?_;refine zL 0 rfl 164 ⟨D,0,tD⟩ vd.out cX ?_;(try go_simp);refine zT 1 rfl ur.out ?_;(try go_simp);refine zT 2 rfl ur.out ?_;(try go_simp);refine zT 3 rfl ur.out ?_;(try go_simp);refine zL 4 rfl 164 ⟨g,j*3,tD⟩ vf.out cX ?_;(try go_simp);refine zK rfl λK' hK=> ?_;have J:=vq.out;go_simp;refine hK _ _ ?_;clear hK J;refine⟨by kernel_rfl, ?_⟩;clear vd vf ur vp vr;cases q with
   |true=>
    have HM:cm ((n1,n2,n3)∈xs):=by
     have:=HQ.out;simp only[eN,mN] at this;have:=cf HY.out
     rename_i e
     rw[e.1,e.2.1,e.2.2];exact this
    go_wp2;go_ret;exact⟨_,rfl,⟨λ_=>HM.out,λ_=>by omega⟩,ud.out.trans (vi.out.mono ud.out.size)⟩
   |false=>
    have HN:cm ((n1,n2,n3)∉xs.take (j+1)):=by
     unfold cm;rw[mT,HY.out];intro h;rcases cT.1 h with h|h
     ·exact HZ.out h
     ·have e:((n1,n2,n3):Nd)=(y1,y2,y3):=by simpa using h
      have:=HQ.out;simp only[cU] at e;rw[e.1,e.2.1,e.2.2] at this;simp at this
    go_wp2;go_roundw
    case rel=>exact⟨j+1,by omega,by go_num,HN.out,vi.out⟩
    case measure=>simp[intOf];omega
  ·have vu:j=xs.length:=by omega
   subst vu;rw[de] at A;have HM:=zH A;have vx:=zH f;clear A f;go_wp2;go_ret;exact⟨_,rfl,⟨λh=>fW h (by omega),λh=>fW h HM.out⟩,ud.out.trans (vx.out.mono ud.out.size)⟩
theorem nX (w:World){B:bx}(c:bx)(f:eA Addr)(xs:bm Nd)(n1 n2 n3:bp)(hn:xs.length<=500000000)(h:w.ownsRow B 164 3 (tP f xs.length c) xs.length (xs.flatMap og)):
  zP 153 #[tP f xs.length c,tW #[Z U n1,Z U n2,Z U n3]] w (tU (decide ((n1,n2,n3)∈xs))):=by
 obtain⟨D,q⟩:=zE w.heap.size;obtain⟨v,d⟩:=zE (w.alloc (ua #[Z U n1,Z U n2,Z U n3] 164));have u:=iq d;have A:v.heap[D]?=tB (ua #[Z U n1,Z U n2,Z U n3] 164 (0,0)):=by rw[<-d,<-q];exact alloc_at _ _
 have G:=af h (Ext.of_below_size (M:=λ_=>mb) u) (λ_ _ h=>h);have HI:=zH (rf v c f xs n1 n2 n3 hn G);have ue:=zH A;have J:=zH u;have uc:=zH d;have HD:=zH q;clear h u A G d q;go_enter func153,ntmps153
 go_wp2_with (first
  |(refine ci rfl 164 _ rfl D rfl 164 #[Z U n1,Z U n2,Z U n3] (0,0) _ (by rw[uc.out];exact ue.out) cX rfl (by kernel_rfl) ?_)
  |(rw[uc.out];go_at_call 199;refine HI.out.mono ?_;rintro e w2 ⟨k,rfl,hk,ud⟩;have ur:=zH hk;have uv:=zH ud;clear hk ud))
 go_ret;have hd:decide (0<=k)=decide ((n1,n2,n3)∈xs):=decide_eq_decide.2 ur.out;rw[hd];exact⟨rfl,J.out.trans (uv.out.mono J.out.size)⟩
section
open Go.RowKit Go.Maps
section
variable {T HM FM GM:bx}{m:Mo}{B:bx}{tg:bx->PT}{s:yx}{p:PS}{w W':World}
theorem FY (s:PS)(n d:Nd)(b:Nd):({s with FL:=s.FL++[(n,b)]}:PS).fl d=if d=n then s.fl d++[b] else s.fl d:=by
 unfold PS.fl
 show((s.FL++[(n,b)]).filter λe=>decide (e.1=d)).map oA=_
 rw[ra,fL]
 by_cases e:d=n
 ·subst e
  rw[cR rfl];simp
 ·rw[cE e]
  have:¬n=d:=λq=>e q.symm;simp[this]
open Classical in
theorem Pm.flowed {n:Nd}{b:Nd}{G J:eA Addr}{cap c c9:bx}(h:Pm T HM FM GM m B tg s p w)(hn:gT n)(va:s.fv n= tP G (p.fl n).length cap)
  (u:Ext (λq=>q=FM\/(co G (p.fl n).length cap).ownBlock=tB q) w W')(ur:eH gT kS (tP tD 0 0) W' FM c (Af s.fv n (tP J ((p.fl n).length+1) c9)))
  (ud:W'.ownsRow B 164 3 (tP J ((p.fl n).length+1) c9) ((p.fl n).length+1) ((p.fl n).flatMap og++og b))
  (ue:∀q,(co J ((p.fl n).length+1) c9).ownBlock=tB q->(co G (p.fl n).length cap).ownBlock=tB q\/w.heap.size<=q):
  bF ZF T HM FM GM m B tg {p with FL:=p.FL++[(n,b)]} w W':=by
 have ho:∀q,(co G (p.fl n).length cap).ownBlock=tB q->tg q= .fl n:=λq hq=>by
  obtain⟨a,c,e,_,ht⟩:=h.fs n hn;rw[va] at ht;exact ht q hq
 obtain⟨d,uv⟩:=zE (co J ((p.fl n).length+1) c9);rw[uv] at ur ud ue;have v:∀k,tg k≠ .no->(λk=>if d.ownBlock=tB k then PT.fl n else tg k) k=tg k:=λk f=>by
  show(if d.ownBlock=tB k then PT.fl n else tg k)=tg k
  by_cases e:d.ownBlock=tB k
  ·rw[cR e]
   rcases ue k e with q|q
   ·exact(ho k q).symm
   ·have:=(h.lo k f).2
    omega
  ·rw[cE e]
 have A:∀{k:bx}{t:PT},tg k=t->t≠ .mf->t≠ .fl n->¬(k=FM\/(co G (p.fl n).length cap).ownBlock=tB k):=λh1 q1 q2 e=>by
  rcases e with e|e
  ·exact q1 (by rw[<-h1,e,h.t3])
  ·exact q2 (by rw[<-h1];exact ho _ e)
 have hB:=h.base;refine⟨λk=>if d.ownBlock=tB k then .fl n else tg k,{s with fv:=Af s.fv n d},⟨u.heap h.row (A h.t1 (by simp) (by simp)),h.hm.imp λ_ q=>q.ext u (A h.t2 (by simp) (by simp)),⟨c,ur⟩,h.gm.imp λ_ q=>q.ext u (A h.t4 (by simp) (by simp)),
  af h.srow u (λj hj=>A (h.t5 j hj) (by simp) (by simp)),af h.trow u (λj hj=>A (h.t6 j hj) (by simp) (by simp)),λD uc=>((h.hs D uc).ext u (λk e q=>A q (by simp) (by simp) e)).tag v,
  λD uc=> ?_,λD uc=>((h.gs D uc).ext u (λk e q=>A q (by simp) (by simp) e)).tag (by simp) v,
  (v T (by rw[h.t1];simp)).trans h.t1,(v HM (by rw[h.t2];simp)).trans h.t2,(v FM (by rw[h.t3];simp)).trans h.t3,(v GM (by rw[h.t4];simp)).trans h.t4,
  λk f=>(v k (by rw[h.t5 k f];simp)).trans (h.t5 k f),λk f=>(v k (by rw[h.t6 k f];simp)).trans (h.t6 k f),λk f=> ?_,h.lS,h.lH,h.lT⟩,
  u.mono (λk e=> ?_),λk f=> ?_,v⟩
 ·rw[FY]
  show tu W' B (λk=>if d.ownBlock=tB k then PT.fl n else tg k) 164 3 (Af s.fv n d D) _ _ (.fl D)
  by_cases e:D=n
  ·subst e
   rw[cR rfl,jq,eK,oa,cw,ie];exact⟨J,c9,uv.symm,ud,λj hj=>cR hj⟩
  ·rw[cE e,mr e]
   exact((h.fs D uc).ext u (λk q1 q=>A q (by simp) (by simpa using e) q1)).tag (by simp) v
 ·by_cases e:d.ownBlock=tB k
  ·exact ud.lt k e
  ·have ux:tg k≠ .no:=λq=>f (by show(if d.ownBlock=tB k then PT.fl n else tg k)=_;rw[cE e];exact q)
   exact⟨(h.lo k ux).1,bl (h.lo k ux).2 u.size⟩
 ·rcases e with e|e
  ·rw[e,h.t3];simp[ZF]
  ·rw[ho k e];simp[ZF]
 ·by_cases e:d.ownBlock=tB k
  ·rcases ue k e with q|q
   ·exact .inl (by rw[ho k q];simp)
   ·exact .inr q
  ·exact .inl λq=>f (by show(if d.ownBlock=tB k then PT.fl n else tg k)=_;rw[cE e];exact q)
theorem FZ (s:PS)(n d:Nd)(b:Th):({s with GL:=s.GL++[(n,b)]}:PS).gl d=if d=n then s.gl d++[b] else s.gl d:=by
 unfold PS.gl
 show((s.GL++[(n,b)]).filter λe=>decide (e.1=d)).map oA=_
 rw[ra,fL]
 by_cases e:d=n
 ·subst e
  rw[cR rfl];simp
 ·rw[cE e]
  have:¬n=d:=λq=>e q.symm;simp[this]
open Classical in
theorem Pm.gotten {n:Nd}{b:Th}{G J:eA Addr}{cap c c9:bx}(h:Pm T HM FM GM m B tg s p w)(hn:gT n)(va:s.gv n= tP G (p.gl n).length cap)
  (u:Ext (λq=>q=GM\/(co G (p.gl n).length cap).ownBlock=tB q) w W')(ur:eH gT kS (tP tD 0 0) W' GM c (Af s.gv n (tP J ((p.gl n).length+1) c9)))
  (ud:W'.ownsRow B 213 5 (tP J ((p.gl n).length+1) c9) ((p.gl n).length+1) ((p.gl n).flatMap GX++GX b))
  (ue:∀q,(co J ((p.gl n).length+1) c9).ownBlock=tB q->(co G (p.gl n).length cap).ownBlock=tB q\/w.heap.size<=q):
  bF Z0 T HM FM GM m B tg {p with GL:=p.GL++[(n,b)]} w W':=by
 have ho:∀q,(co G (p.gl n).length cap).ownBlock=tB q->tg q= .gl n:=λq hq=>by
  obtain⟨a,c,e,_,ht⟩:=h.gs n hn;rw[va] at ht;exact ht q hq
 obtain⟨d,uv⟩:=zE (co J ((p.gl n).length+1) c9);rw[uv] at ur ud ue;have v:∀k,tg k≠ .no->(λk=>if d.ownBlock=tB k then PT.gl n else tg k) k=tg k:=λk f=>by
  show(if d.ownBlock=tB k then PT.gl n else tg k)=tg k
  by_cases e:d.ownBlock=tB k
  ·rw[cR e]
   rcases ue k e with q|q
   ·exact(ho k q).symm
   ·have:=(h.lo k f).2
    omega
  ·rw[cE e]
 have A:∀{k:bx}{t:PT},tg k=t->t≠ .mg->t≠ .gl n->¬(k=GM\/(co G (p.gl n).length cap).ownBlock=tB k):=λh1 q1 q2 e=>by
  rcases e with e|e
  ·exact q1 (by rw[<-h1,e,h.t4])
  ·exact q2 (by rw[<-h1];exact ho _ e)
 have hB:=h.base;refine⟨λk=>if d.ownBlock=tB k then .gl n else tg k,{s with gv:=Af s.gv n d},⟨u.heap h.row (A h.t1 (by simp) (by simp)),h.hm.imp λ_ q=>q.ext u (A h.t2 (by simp) (by simp)),h.fm.imp λ_ q=>q.ext u (A h.t3 (by simp) (by simp)),⟨c,ur⟩,
  af h.srow u (λj hj=>A (h.t5 j hj) (by simp) (by simp)),af h.trow u (λj hj=>A (h.t6 j hj) (by simp) (by simp)),λD uc=>((h.hs D uc).ext u (λk e q=>A q (by simp) (by simp) e)).tag v,
  λD uc=>((h.fs D uc).ext u (λk e q=>A q (by simp) (by simp) e)).tag (by simp) v,λD uc=> ?_,
  (v T (by rw[h.t1];simp)).trans h.t1,(v HM (by rw[h.t2];simp)).trans h.t2,(v FM (by rw[h.t3];simp)).trans h.t3,(v GM (by rw[h.t4];simp)).trans h.t4,
  λk f=>(v k (by rw[h.t5 k f];simp)).trans (h.t5 k f),λk f=>(v k (by rw[h.t6 k f];simp)).trans (h.t6 k f),λk f=> ?_,h.lS,h.lH,h.lT⟩,
  u.mono (λk e=> ?_),λk f=> ?_,v⟩
 ·rw[FZ]
  show tu W' B (λk=>if d.ownBlock=tB k then PT.gl n else tg k) 213 5 (Af s.gv n d D) _ _ (.gl D)
  by_cases e:D=n
  ·subst e
   rw[cR rfl,jq,eK,oa,cw,ie];exact⟨J,c9,uv.symm,ud,λj hj=>cR hj⟩
  ·rw[cE e,mr e]
   exact((h.gs D uc).ext u (λk q1 q=>A q (by simp) (by simpa using e) q1)).tag (by simp) v
 ·by_cases e:d.ownBlock=tB k
  ·exact ud.lt k e
  ·have ux:tg k≠ .no:=λq=>f (by show(if d.ownBlock=tB k then PT.gl n else tg k)=_;rw[cE e];exact q)
   exact⟨(h.lo k ux).1,bl (h.lo k ux).2 u.size⟩
 ·rcases e with e|e
  ·rw[e,h.t4];simp[Z0]
  ·rw[ho k e];simp[Z0]
 ·by_cases e:d.ownBlock=tB k
  ·rcases ue k e with q|q
   ·exact .inl (by rw[ho k q];simp)
   ·exact .inr q
  ·exact .inl λq=>f (by show(if d.ownBlock=tB k then PT.gl n else tg k)=_;rw[cE e];exact q)
end
end
section
variable {P:km}{ops:da ke}{Q:Exit->Act->World->Prop}{md:gO}{S:World->Prop}
def jr (P:km)(md:gO)(ops:da ke)(Q:Exit->Act->World->Prop)(S:World->Prop):bx->da nj->Act->World->Prop
 |0,listed,a,w=>dd md ops listed=[]/\Q .normal a w
 |fuel+1,listed,a,w=>
  (dd md ops listed=[]->Q .normal a w)/\
  ∀i∈dd md ops listed,wpOp P ops Q i (λd w'=>S w'/\jr P md ops Q S fuel (listed.setIfInBounds i tE) d w') a w
theorem tF:∀(fuel:bx)(listed:da nj)(a:Act)(w:World),jr P md ops Q S fuel listed a w->wpAny P md ops Q fuel listed a w
 |0,_,_,_,h=>h
 |fuel+1,_,_,_,h=>⟨h.1,λi d=>wpOp_mono (λf w' q=>tF fuel _ f w' q.2) (h.2 i d)⟩
theorem oW {i:bx}{f:ke}{v:cd}(hi:ops[i]?=tB f)(ud:∀(j:bx)(o:ke) A b,ops[j]?=tB o->o.op≠ .select A b)
  (hQ:∀c a w,Q (.panic c) (a.put f.dst v) w->Q (.panic c) a w):
  ∀(fuel:bx)(listed:da nj)(a:Act)(w:World),
   (∀j q,ops[j]?=tB q->j≠i->listed.getD j tE=tG->(∀e∈q.after,fz md e=tE->e.on≠i)->f.apart ops q=tE)->
   i∈dd md ops listed->listed[i]?=tB tG->YieldsIf P ops S f v a->S w->
   jr P md ops Q S fuel (listed.setIfInBounds i tE) (a.put f.dst v) w->jr P md ops Q S (fuel+1) listed a w:=by
 intro fuel
 induction fuel with
 |zero=>
  intro listed a w _ u _ J D H;refine⟨λh=>(by rw[h] at u;cases u),λj G=> ?_⟩
  by_cases d:j=i
  ·subst d;exact J.wpOp hi D ⟨D,H⟩
  ·have:=nl G d
   rw[H.1] at this;cases this
 |succ fuel ih=>
  intro listed a w ue u ur J D H;refine⟨λh=>(by rw[h] at u;cases u),λj G=> ?_⟩
  by_cases d:j=i
  ·subst d;exact J.wpOp hi D ⟨D,H⟩
  ·have h1:=H.2 j (nl G d)
   obtain⟨uv,q,uc,vj⟩:=mem_ready.1 G;have vc:∀e∈q.after,fz md e=tE->e.on≠i:=λe he hb vd=>iW ur uc he hb vd G;have h2:=wpOp_putIf uc (ue j q uc d uv vc) (λA b=>ud i f A b hi) (λA b=>ud j q A b uc) hQ J h1;have vf:∀k ok,ops[k]?=tB ok->k≠i->(listed.setIfInBounds j tE).getD k tE=tG->
     (∀e∈ok.after,fz md e=tE->e.on≠i)->f.apart ops ok=tE:=λk ok hk vh ux vi=>by
    refine ue k ok hk vh ?_ vi
    by_cases va:j=k
    ·subst va;exact uv
    ·rw[getD_set_ne tE va] at ux;exact ux
   refine wpOp_mono (λa' w' h3=>⟨h3.2.1,ih (listed.setIfInBounds j tE) a' w' vf (nl u (Ne.symm d)) (by rw[jz d];exact ur) h3.1 h3.2.1 ?_⟩) h2;rw[oX _ _ d];exact h3.2.2
theorem yT {C:World->Prop}(i:bx){d:ke}{v:cd}{fuel:bx}{listed:da nj}{a:Act}{w:World}(f:ops[i]?=tB d)
  (hC:∀w,S w->C w)
  (h:jr P md ops Q S fuel (listed.setIfInBounds i tE) (a.put d.dst v) w)
  (u:∀w,C w->(execOp a.eval d).run P w= .ok (.value v) w:=by intro w q;go_simp;try rfl)
  (q:eC d (kj ops a.tmps)=tE:=by rfl)
  (A:fi ops=tE:=by kernel_rfl)(D:kB md ops listed i=tE:=by kernel_rfl)(G:(dd md ops listed).contains i=tE:=by kernel_rfl)(J:listed[i]?=tB tG:=by kernel_rfl)
  (hQ:∀c a w,Q (.panic c) (a.put d.dst v) w->Q (.panic c) a w:=by exact λ_ _ _ h=>h)(hS:S w:=by assumption):jr P md ops Q S (fuel+1) listed a w:=
 oW f (lk A) hQ fuel listed a w (mB f D) (by simpa using G) J (.inl ⟨q,λw h=>u w (hC w h)⟩) hS h
theorem yL (i:bx){f:ke}{fuel:bx}{listed:da nj}{a:Act}{w:World}(D:ops[i]?=tB f)(v:gx){x:Operand}(A:Addr){q:da cd}{d:TypeDesc}
  (G:∀w,S w->∀j u,q.toList[j]?=tB u->w.cell? (A.add j)=tB u)(J:P.underlying v=tB d)
  (h:jr P md ops Q S fuel (listed.setIfInBounds i tE) (a.put f.dst (tW q)) w)
  (ho:f.op= .load v x:=by rfl)(hx:a.eval x= tR (tB A):=by rfl)
  (hd:(match d with| .struct _| .array _ _=>tE|_=>tG)=tE:=by rfl)(hz:(P.info? v).map (·.size)=tB q.size:=by kernel_rfl)
  (hw:eC f (kj ops a.tmps)=tE:=by rfl)
  (hs:fi ops=tE:=by kernel_rfl)(hf:kB md ops listed i=tE:=by kernel_rfl)(hr:(dd md ops listed).contains i=tE:=by kernel_rfl)(hl:listed[i]?=tB tG:=by kernel_rfl)
  (hQ:∀c a w,Q (.panic c) (a.put f.dst (tW q)) w->Q (.panic c) a w:=by exact λ_ _ _ h=>h)(hS:S w:=by assumption):jr P md ops Q S (fuel+1) listed a w:=
 oW D (lk hs) hQ fuel listed a w (mB D hf) (by simpa using hr) hl (qx hw v x ho A hx q d G J hd hz) hS h
theorem yO (i:bx){o:ke}{fuel:bx}{listed:da nj}{a:Act}{w:World}(u:ops[i]?=tB o)
  (h:∀d:Act->World->Prop,(∀a w,S w->jr P md ops Q S fuel (listed.setIfInBounds i tE) a w->d a w)->lR P o a w d Q)
  (v:eC o (kj ops a.tmps)=tE:=by rfl)(f:dd md ops listed=[i]:=by kernel_rfl):
  jr P md ops Q S (fuel+1) listed a w:=by
 refine⟨λh0=>(by rw[f] at h0;cases h0),λj q=> ?_⟩;rw[f] at q;obtain rfl:=cH.1 q;exact wpOp_step u (λd A=>by rw[cR v];exact h d (λa w D G=>A a w ⟨D,G⟩))
theorem bL {id:bx}{a:Act}{w:World}(S:World->Prop)(d:P.follows .mixedOrders=tE)
  (h:jr P .any ops Q S ops.size (mL ops.size tG) a w.drew):(ti id ops tE).wp P Q a w:=
 wp_region_any d (tF _ _ _ _ h)
end
section
open Go.RowKit Go.Maps
theorem tH (w:World):(zeroValue 216).run ac w= .ok (tP tD 0 0) w:=by kernel_rfl
theorem tJ {S d:bm bp}(f:d.Nodup)(q:∀x∈d,x∈S)(h:∀z∈S,0<=z/\z<=900000):d.length<=1000000:=by
 have:=ja d ((ej 900001).map gw) f λx u=>by
  obtain⟨a,b⟩:=h x (q x u);exact dy.2 ⟨x.toNat,jn.2 (by omega),by simp;omega⟩
 rw[ei,ml] at this;omega
theorem kD (w:World)(D:bx)(v:cd)(S:bm bp)(f:w.heap[D]?=tB (ua #[v] 162 (0,0)))(u:Dp w v S)(h:∀z∈S,0<=z/\z<=900000):
  gd ac 122 #[.func (.func 163) #[] #[tR (tB ⟨D,0,tD⟩)]] w (EI (EG S) w):=
 yw w func163 (by rfl) rfl (BP w D v S f u) (aq _ _) (λk A=>by
  rcases A with e|e
  ·rw[e];exact ae f
  ·rcases u with⟨q,_⟩|⟨b,n,q,G⟩
   ·rw[q] at e;cases e
   ·rw[q] at e
    simp only[Value.map.injEq,dt] at e;rw[<-e];exact G.lt) (λxs d=>tJ d.1 d.2 h) (λxs d=>tJ d.1 (λx J=>(d.2 x).1 J) h)
theorem Aj (n:Nd):∀(l:bm bx)(s:PS),(s.addL n l).H.length<=s.H.length+l.length/\(s.addL n l).td.length<=s.td.length+l.length
 |[],s=>⟨ce _,ce _⟩
 |x::l,s=>by
  have ih:=Aj n l (s.add n x);have d:(s.add n x).H.length<=s.H.length+1/\(s.add n x).td.length<=s.td.length+1:=by
   unfold PS.add
   split
   ·exact⟨ip _,ip _⟩
   ·simp
  have e:s.addL n (x::l)=(s.add n x).addL n l:=rfl;rw[e,fS];omega
theorem Du (n:Nd)(s:PS){l:bm bx}{j x:bx}(h:l[j]?=tB x):s.addL n (l.take (j+1))=(s.addL n (l.take j)).add n x:=by
 unfold PS.addL;rw[mT,h,Option.toList_some,List.foldl_append];rfl
theorem qg.setV {tg:bx->PT}{w:World}{H:bm (Nd×bx)}{v:cd}{n:Nd}(h:qg w tg H v n)(q:∀n x,(n,x)∈H->x<=900000):∃S,Dp w v S/\(∀z:bp,z∈S↔∃x:bx,z=(x:bp)/\(n,x)∈H)/\(∀z∈S,0<=z/\z<=900000)/\∃r,v= .map r:=by
 rcases h with⟨d,u⟩|⟨b,c,S,d,u,G,A,J⟩
 ·exact⟨[],.inl ⟨d,rfl⟩,λz=>⟨λf=>by simp at f,λ⟨x,_,q⟩=>fW q (u x)⟩,λz f=>by simp at f,_,d⟩
 ·exact⟨S,.inr ⟨b,c,d,u⟩,A,λz f=>by
   obtain⟨x,e,D⟩:=(A z).1 f;have:=q n x D;omega,_,d⟩
section
variable {T HM FM GM:bx}{m:Mo}{B:bx}{tg tg1:bx->PT}{s s1:yx}{p p1 p':PS}{w w1 w':World}
theorem Pm.lookF (h:Pm T HM FM GM m B tg s p w){n:Nd}(d:gT n):(gC 144 (.map (tB FM)) (kS n) tG).run ac w= .ok (s.fv n) w:=by
 obtain⟨c,q⟩:=h.fm;exact q.look kU underlying144 (tH w) d
theorem fw (w:World)(h:Pm T HM FM GM m B tg s p w){n1 n2 n3 m1 m2 m3:bp}(hn:gT (n1,n2,n3))(hm:gT (m1,m2,m3))(ya:∀n x,(n,x)∈p.H->x<=900000)(lF:p.FL.length+1<=400000000)(lH:p.H.length+1000000<=400000000)(lT:p.td.length+1000000<=400000000):
  gd ac 119 #[tR (tB ⟨T,0,tD⟩),tW #[Z U n1,Z U n2,Z U n3],tW #[Z U m1,Z U m2,Z U m3]] w λe w'=>e= ub (.tuple #[])/\∃p',ED (n1,n2,n3) (m1,m2,m3) p p'/\bF ZF T HM FM GM m B tg p' w w':=by
 obtain⟨D,hD⟩:=zE w.heap.size;obtain⟨W1,vq⟩:=zE ((w.alloc (ua #[Z U n1,Z U n2,Z U n3] 164)).alloc (ua #[Z U m1,Z U m2,Z U m3] 164));have A6:=Ir vq;have Bk:=yP vq hD;have Bm:=AO vq hD;have yb:bh w.heap.size w W1.drew:=A6.drew;have h1:=h.grow yb;have yd:W1.drew.heap[D]?=tB (ua #[Z U n1,Z U n2,Z U n3] 164 (0,0)):=Bk;have ye:W1.drew.heap[D+1]?=tB (ua #[Z U m1,Z U m2,Z U m3] 164 (0,0)):=Bm;obtain⟨S1,vr⟩:=zE ((λw'=>w'=W1.drew):World->Prop);have Ft:S1 W1.drew:=by rw[<-vr]
 have ue:=h1.lookF hn;unfold kS at ue;obtain⟨ao,cap,yi,uv,vf⟩:=h1.fs _ hn;rw[yi] at ue uv vf;have ID:(p.fl (n1,n2,n3)).length<=400000000:=by
  unfold PS.fl;rw[ei];exact cY (ki _ _) (by omega)
 have vh:cm (∀W,S1 W->W.cell? ⟨T,4,tD⟩=tB (.map (tB FM))/\T<W.heap.size/\(gC 144 (.map (tB FM)) (tW #[Z U n1,Z U n2,Z U n3]) tG).run ac W= .ok (tP ao (p.fl (n1,n2,n3)).length cap) W):=λW d=>by
  rw[<-vr] at d;subst d;exact⟨(rowAt h1.row 4 rfl).1,ae h1.row,ue⟩
 have By:cm (∀W,S1 W->∀j u,(#[Z U n1,Z U n2,Z U n3]:da cd).toList[j]?=tB u->W.cell? ((⟨D,0,tD⟩:Addr).add j)=tB u):=λW d=>by
  rw[<-vr] at d;subst d;exact aS yd
 have BE:cm (∀W,S1 W->∀j u,(#[Z U m1,Z U m2,Z U m3]:da cd).toList[j]?=tB u->W.cell? ((⟨D+1,0,tD⟩:Addr).add j)=tB u):=λW d=>by
  rw[<-vr] at d;subst d;exact aS ye
 have BT:=zH (nX W1.drew cap ao (p.fl (n1,n2,n3)) m1 m2 m3 (by omega) uv);have ux:cm (D=w.heap.size):=hD.symm;have H:=zH h;have H1:=zH h1;have yk:=zH yd;have yp:=zH ye;have yq:=zH yb;have BY:=zH vq;have yr:=zH yi;clear h A6 Bk Bm yb h1 yd ye vr ue vq hD yi uv vf;go_enter func119,ntmps119
 go_upto_region 1 with(fail)
 (try rw[ux.symm.out]);(try rw[<-ux.out]);rw[BY.out];refine ak 7 S1 (by kernel_rfl) ?_;refine zT 0 rfl vh.out ?_;(try go_simp);refine zT 1 rfl vh.out ?_;(try go_simp);refine zT 2 rfl vh.out ?_;(try go_simp);refine zT 3 rfl vh.out ?_;(try go_simp);refine zL 4 rfl 164 ⟨D,0,tD⟩ By.out cX ?_;(try go_simp);refine zT 5 rfl vh.out ?_;(try go_simp);refine zL 6 rfl 164 ⟨D+1,0,tD⟩ BE.out cX ?_;(try go_simp);refine zK rfl λK' f=> ?_;go_simp;go_at_call 153;refine BT.out.mono ?_;rintro e A ⟨rfl,wl⟩;refine f _ _ ?_;clear f;refine⟨by kernel_rfl, ?_⟩;obtain⟨IF,FA⟩:=zE A;have yv:bh w.heap.size w A:=yq.out.trans (wl.mono yq.out.size);have h2:=H.out.grow yv;have B4:=(wl.block D (ae yk.out)).trans yk.out;have vu:=(wl.block (D+1) (ae yp.out)).trans yp.out;have vx:=zH yv;have H2:=zH h2;have yy:=zH B4;have ws:=zH vu;clear FA wl yv h2 B4 vu vh By BE BT Ft H1 yk yp yq BY
 by_cases vi:((m1,m2,m3):Nd)∈p.fl (n1,n2,n3)
 ·rw[ef vi]
  have FF:cm ((((n1,n2,n3):Nd),((m1,m2,m3):Nd))∈p.FL):=sQ.1 vi;clear vi;go_wp2;(try simp only[db,Exit.then]);refine dv (fa rfl _ _ _) rfl ?_;exact⟨rfl,p,.inl ⟨FF.out,rfl⟩,H.out.same vx.out⟩
 ·rw[cL vi]
  have FG:cm ((((n1,n2,n3):Nd),((m1,m2,m3):Nd))∉p.FL):=λq=>vi (sQ.2 q);clear vi
  go_upto_region 2 with(fail)
  obtain⟨i0,B5,B6,B8,B9⟩:=gA BR;obtain⟨wx,xf⟩:=zE (Cx m HM FM GM s p.St.length p.td.length);have yW:A.heap[T]?=tB (ua wx 148 (0,0)):=by rw[<-xf];exact H2.out.row
  have Cd:wx[4]?=tB (.map (tB FM)):=by rw[<-xf];rfl
  obtain⟨S2,vy⟩:=zE ((λw'=>w'.heap[T]?=tB (ua wx 148 (0,0))/\w'.heap[D]?=tB (ua #[Z U n1,Z U n2,Z U n3] 164 (0,0))/\w'.heap[D+1]?=tB (ua #[Z U m1,Z U m2,Z U m3] 164 (0,0))):World->Prop);have we:cm (∀W,W.heap[T]?=tB (ua wx 148 (0,0))->W.heap[D]?=tB (ua #[Z U n1,Z U n2,Z U n3] 164 (0,0))->W.heap[D+1]?=tB (ua #[Z U m1,Z U m2,Z U m3] 164 (0,0))->S2 W):=λW a b c=>by rw[<-vy];exact⟨a,b,c⟩
  have va:cm (∀w,S2 w->w.cell? ⟨T,4,tD⟩=tB (.map (tB FM))/\T<w.heap.size):=λw hw=>by rw[<-vy] at hw;exact⟨(rowAt hw.1 4 Cd).1,ae hw.1⟩
  have Cl:cm (∀W,S2 W->∀j u,(#[Z U n1,Z U n2,Z U n3]:da cd).toList[j]?=tB u->W.cell? ((⟨D,0,tD⟩:Addr).add j)=tB u):=λW d=>by
   rw[<-vy] at d;exact aS d.2.1
  have Cp:cm (∀W,S2 W->∀j u,(#[Z U m1,Z U m2,Z U m3]:da cd).toList[j]?=tB u->W.cell? ((⟨D+1,0,tD⟩:Addr).add j)=tB u):=λW d=>by
   rw[<-vy] at d;exact aS d.2.2
  have F0:S2 A.drew:=we.out _ yW yy.out ws.out;have zc:=zH yW;have F2:=zH xf;clear vy yW Cd xf;refine ak 11 S2 (by kernel_rfl) ?_;refine zT 0 rfl va.out ?_;(try go_simp);refine zT 1 rfl va.out ?_;(try go_simp);refine zT 2 rfl va.out ?_;(try go_simp);refine zT 3 rfl va.out ?_;(try go_simp);refine zL 4 rfl 164 ⟨D,0,tD⟩ Cl.out cX ?_;(try go_simp);refine zL 5 rfl 164 ⟨D+1,0,tD⟩ Cp.out cX ?_;(try go_simp);refine zO 6 rfl λK' f=> ?_;go_simp;obtain⟨G,hG⟩:=zE A.heap.size;obtain⟨W8,xj⟩:=zE ((A.alloc (ua #[Z U m1,Z U m2,Z U m3] 164)).drew);(try rw[hG]);(try rw[xj]);have vj:bh A.heap.size A W8:=by rw[<-xj];exact((aq _ _).alloc (ce _) _).drew
  have CA:W8.heap[G]?=tB (ua #[Z U m1,Z U m2,Z U m3] 164 (0,0)):=by rw[<-xj,<-hG];exact alloc_at _ _
  have zd:=(vj.block T (ae zc.out)).trans zc.out;have zj:=(vj.block D (ae yy.out)).trans yy.out;have zp:=(vj.block (D+1) (ae ws.out)).trans ws.out;have xl:bh w.heap.size w W8:=vx.out.trans (vj.mono vx.out.size);have h8:=H.out.grow xl;refine f _ _ (we.out _ zd zj zp) ?_;clear f;(try go_simp);refine zO 7 rfl λK' f=> ?_;obtain⟨c0,q0⟩:=h8.fm;obtain⟨W9,st,xo,ud,zr,CC⟩:=q0.entry kU underlying144 (tH W8) hn;unfold kS at xo;rw[yr.out] at xo;go_simp;(try simp only[xo]);(try go_simp);have Ge:FM<D:=by have:=(H.out.lo FM (by rw[H.out.t3];simp)).2;rw[ux.out];exact this
  have CD:¬T=FM:=λe=>by have:=H.out.t1;rw[e,H.out.t3] at this;simp at this
  obtain⟨Gk,GB,CH,uv,vf⟩:=H.out.fs _ hn;rw[yr.out] at CH uv vf;clear CH Gk GB;have vc:∀q,(co ao (p.fl (n1,n2,n3)).length cap).ownBlock=tB q->q≠T/\q≠FM/\q<D:=λq J=>by
   have a:=vf q J;refine⟨λe=> ?_,λe=> ?_, ?_⟩
   ·rw[e,H.out.t1] at a;simp at a
   ·rw[e,H.out.t3] at a;simp at a
   ·rw[ux.out];exact(H.out.lo q (by rw[a];simp)).2
  have zv:=ud.heap zd CD;have An:=ud.heap zj (λe=>by omega);have As:=ud.heap zp (λe=>by omega);have CM:=af uv (Ext.of_below_size (M:=λ_=>mb) xl) (λ_ _ h=>h);have CN:=af CM ud (λq J e=>(vc q J).2.1 e);have CT:=ud.heap CA (λe=>by have:=vx.out.size;have:=ux.out;omega);have C3:S2 W9:=we.out _ zv An As;refine f _ _ C3 ?_;clear f;(try go_simp);refine zT 8 rfl va.out ?_;(try go_simp);refine zT 10 rfl va.out ?_;(try go_simp);refine zO 9 rfl λK' f=> ?_;have C4:B<=W9.heap.size:=cY H.out.base (cY xl.size ud.size);have C5:(p.fl (n1,n2,n3)).length+1<=dT:=by unfold dT;omega
  refine aH (.tmp 21) (.tmp 23) 216 rfl B 164 i0 _ 3 24 underlying216 B5 B6 B8 B9 rfl (by decide) (tP ao (p.fl (n1,n2,n3)).length cap) (p.fl (n1,n2,n3)).length ((p.fl (n1,n2,n3)).flatMap og) rfl CN (tB ⟨G,0,tD⟩) 1 1 [Z U m1,Z U m2,Z U m3] rfl rfl (λh=>by cases h) (λad GC j u hu=>by
   obtain rfl:(⟨G,0,tD⟩:Addr)=ad:=by simpa using GC
   rw[dc,cV,cc _ _ _ _ _ _ CT];simpa using hu) (by simp[cj]) C5 (by omega) C4 ?_
  intro IH C6 At C7 Ax;obtain⟨Dd,c9,GE⟩:=ai At;subst GE;have vm:Ext (λq=>(co ao (p.fl (n1,n2,n3)).length cap).ownBlock=tB q) W9 C6:=Ext.of_grown C7 (λq J=> .inl J);have Dg:=vm.heap zv (λe=>(vc _ e).1 rfl);have AD:=vm.heap An (λe=>Nat.lt_irrefl _ (vc _ e).2.2);have AE:=vm.heap As (λe=>by have:=(vc _ e).2.2;omega);refine f _ _ (we.out _ Dg AD AE) ?_;clear f;(try go_simp);refine zK rfl λK' f=> ?_;obtain⟨uc,Do,Ds,wg⟩:=CC C6 (tP Dd ((p.fl (n1,n2,n3)).length+1) c9) (vm.block FM zr.lt (λe=>(vc _ e).2.1 rfl));go_simp;(try simp only[Do]);(try go_simp);refine f _ _ ?_;clear f Do xo CC;refine⟨by kernel_rfl, ?_⟩;have DA:=wg.heap AD (λe=>by omega);have DB:=wg.heap AE (λe=>by omega);have AF:Ext (λq=>q=FM\/(co ao (p.fl (n1,n2,n3)).length cap).ownBlock=tB q) A W9:=Ext.trans (Ext.of_below_size (M:=λq=>q=FM\/(co ao (p.fl (n1,n2,n3)).length cap).ownBlock=tB q) vj) (ud.mono (λq e=> .inl e)) (λq e=> .inl e);have AG:Ext (λq=>q=FM\/(co ao (p.fl (n1,n2,n3)).length cap).ownBlock=tB q) A uc:=(AF.trans (vm.mono (λq e=> .inr e)) (λq e=> .inl e)).trans (wg.mono (λq e=> .inl e)) (λq e=> .inl e);have DE:∀q,(co Dd ((p.fl (n1,n2,n3)).length+1) c9).ownBlock=tB q->(co ao (p.fl (n1,n2,n3)).length cap).ownBlock=tB q\/A.heap.size<=q:=λq J=>by
   rcases Ax q J with a|a
   ·exact .inl a
   ·exact .inr (cY AF.size a)
  have DG:=af At wg (λq J e=>by
   rcases Ax q J with a|a
   ·exact(vc q a).2.1 e
   ·have:=zr.lt
    omega)
  have DH:=zH (H2.out.flowed (b:=(m1,m2,m3)) hn yr.out AG Ds DG DE);have DM:=zH DA;have DO:=zH DB;have GF:=zH AG;clear C3 DA DB AG AF DE DG At wg Ds Dg AD AE vm C7 Ax C5 C4 CT CN CM zv An As vc uv vf ud zr q0 h8 xl zd zj zp CA vj xj hG F0 Cp Cl va we zc F2 i0 B5 B6 B8 B9;obtain⟨tg1,s1,wi,DP,t12⟩:=DH.out;have AH:D+1<A.heap.size:=ae ws.out;have AI:∀k,w.heap.size<=k->k<A.heap.size->tg1 k= .no:=λk IN IS=>er λe=>by
   rcases t12.1 k e with q|q
   ·have:=(H.out.lo k q).2
    omega
   ·omega
  have GO:tg1 D= .no:=AI D (by rw[ux.out];exact ce _) (by omega);have DQ:tg1 (D+1)= .no:=AI (D+1) (by have:=ux.out;omega) AH;obtain⟨S,AK,DS,D0,r0,AM⟩:=(wi.hs _ hn).setV ya;have ue:=wi.look hn;unfold kS at ue;obtain⟨v,hv⟩:=zE (s1.hv (n1,n2,n3));rw[hv] at ue AK AM;obtain⟨S3,xp⟩:=zE ((λw'=>bh uc.heap.size uc w'):World->Prop);have xr:cm (∀W,bh uc.heap.size uc W->S3 W):=λW h=>by rw[<-xp];exact h
  have GP:S3 uc.drew:=xr.out _ (aq _ _).drew;have ur:cm (∀W,S3 W->W.cell? ⟨T,3,tD⟩=tB (.map (tB HM))/\T<W.heap.size/\(gC 143 (.map (tB HM)) (tW #[Z U n1,Z U n2,Z U n3]) tG).run ac W= .ok v W):=λW d=>by
   rw[<-xp] at d;have hg:=wi.grow d;refine⟨(rowAt hg.row 3 rfl).1,ae hg.row, ?_⟩;have:=hg.look hn;rw[hv] at this;exact this
  have D1:cm (∀W,S3 W->∀j u,(#[Z U n1,Z U n2,Z U n3]:da cd).toList[j]?=tB u->W.cell? ((⟨D,0,tD⟩:Addr).add j)=tB u):=λW d=>by
   rw[<-xp] at d;exact aS ((d.block D (ae DM.out)).trans DM.out)
  have D2:=zH wi;have GS:=zH DP;have GT:=zH t12;have GW:=zH AK;have G0:=zH DS;have AN:=zH D0;have G1:=zH AM;have IT:=zH AH;have G2:=zH DQ;have D3:=hm;clear wi DP t12 AK DS D0 AM AH DQ AI GO xp ue hv hm CD Ge DH GF
  go_upto_region 3 with(fail)
  refine bL S3 (by kernel_rfl) ?_;refine yT 0 rfl ur.out ?_;(try go_simp);refine yT 1 rfl ur.out ?_;(try go_simp);refine yT 2 rfl ur.out ?_;(try go_simp);refine yT 3 rfl ur.out ?_;(try go_simp);refine yL 4 rfl 164 ⟨D,0,tD⟩ D1.out cX ?_;(try go_simp);refine yT 5 rfl ur.out ?_;(try go_simp);refine yT 9 rfl ur.out ?_;(try go_simp);refine yO 6 rfl λK' f=> ?_;go_simp;have D4:=zH (mD uc.drew v ⟨r0,G1.out⟩);go_at_call 123;refine D4.out.mono ?_;rintro e xt ⟨rfl,AS⟩;have vp:bh uc.heap.size uc xt:=by
   rw[<-AS];exact(aq _ _).drew.alloc (ce _) _
  have AT:xt.heap[uc.drew.heap.size]?=tB (ua #[v] 162 (0,0)):=by rw[<-AS];exact alloc_at _ _
  obtain⟨Q,hQ⟩:=zE uc.drew.heap.size;rw[hQ] at AT⊢;have Ek:=kD xt Q v S AT (GW.out.below vp) AN.out;refine f _ _ (xr.out _ vp) ?_;clear f;(try go_simp);refine yO 7 rfl λK' f=> ?_;go_simp;go_at_call 122;refine Ek.mono ?_;rintro e vd ⟨xs,ax,cx,EV,rfl,E0,E3⟩;have AW:bh uc.heap.size uc vd:=vp.trans (E3.mono vp.size);have E4:S3 vd:=xr.out _ AW;refine f _ _ E4 ?_;clear f Ek;(try go_simp);refine yT 8 rfl ur.out ?_;(try go_simp);refine⟨by kernel_rfl, ?_⟩;have wj:=zH EV;have wk:=zH E0;have A0:=zH AW;have G3:=vp.size;clear EV E0 E3 vp AT AS AW E4 D4 ur D1 xr GP hQ;have E6:(fI xs).length=xs.length:=by unfold fI;rw[ox]
  obtain⟨l,hl⟩:∃l:bm bx,fI xs=l.map gw:=⟨(fI xs).map Int.toNat,by
   rw[List.map_map]
   conv=>lhs;rw[<-List.map_id (fI xs)]
   refine List.map_congr_left λz hz=> ?_;have G4:z∈xs:=by unfold fI at hz;exact ob.1 hz
   have:=AN.out z ((wj.out.2 z).1 G4);simp;omega⟩
  have A2:l.length=xs.length:=by rw[<-E6,hl,ei]
  have E7:∀x,x∈l↔(((n1,n2,n3):Nd),x)∈p.H:=λx=>by
   have h1:x∈l↔(x:bp)∈fI xs:=by
    rw[hl,dy];exact⟨λh=>⟨x,h,rfl⟩,λ⟨y,hy,e⟩=>by rw[<-mu.1 e];exact hy⟩
   have h2:(x:bp)∈fI xs↔(x:bp)∈xs:=by unfold fI;exact ob
   rw[h1,h2,wj.out.2,G0.out];exact⟨λ⟨y,e,hy⟩=>by rw[mu.1 e];exact hy,λh=>⟨x,rfl,h⟩⟩
  have Hb:xs.length<=1000000:=tJ wj.out.1 (λx J=>(wj.out.2 x).1 J) AN.out;rw[hl] at wk;rw[<-A2] at Hb⊢;have A4:Pm T HM FM GM m B tg1 s1 {p with FL:=p.FL++[((n1,n2,n3),(m1,m2,m3))]} vd:=D2.out.grow A0.out;rw[<-A2] at wk;have Fc:=tC (show vd.ownsRow xt.heap.size 3 1 (tP ax l.length cx) l.length ((l.map gw).map (eE .i64)) by
   have:=wk.out;unfold aT at this;rw[ei] at this;exact this)
  have A5:=wk.out;unfold aT at A5;have Fi:∀q,(co ax l.length cx).ownBlock=tB q->tg1 q= .no:=λq J=>er λe=>by
   have a:=(A5.lt q J).1;have b:=(D2.out.lo q e).2;have c:=G3;omega
  obtain⟨P1,xF⟩:=zE ({p with FL:=p.FL++[((n1,n2,n3),(m1,m2,m3))]}:PS);have Fk:cm (P1.H=p.H/\P1.td=p.td):=by rw[<-xF];exact⟨rfl,rfl⟩
  have Hc:=zH xF;rw[xF] at A4;have Hh:=zH A4;have Hi:=zH Fi;have Hj:=zH Fc;have Fl:=zH E7;have Hk:=zH ya;have Hn:=zH D3;have Fm:=(A0.out.block (D+1) (ae DO.out)).trans DO.out;have Hp:=zH Fm;have Hs:xs.length=xs.length:=rfl;clear Fc A5 Fi xF A4 E7 ya Fm hl E6 A2 Hs wk wj D3
  go_wp2_with fail
  go_loopw [36] (λc wr=>∃j:bx,j<=l.length/\c= Z U (j:bp)/\bF ZF T HM FM GM m B tg1 (P1.addL (m1,m2,m3) (l.take j)) vd wr) (λc _=>l.length-(intOf c).toNat)
  case atStart=>exact⟨0,cN _,rfl,Hh.out.same (aq _ _)⟩
  case round=>
   obtain⟨j,hj,rfl,xT⟩:=hrel
   by_cases Hv:j<l.length
   ·have IZ:(j:bp)<(l.length:bp):=by omega
    obtain⟨x,hx⟩:∃x,l[j]?=tB x:=⟨_,am Hv⟩
    obtain⟨I0,s2,hP,hE,hT⟩:=xT;obtain⟨g,rfl,hg,hc⟩:∃g,ax=tB ⟨g,0,tD⟩/\g<vd.heap.size/\∀j u,((l.map gw).map (eE .i64))[j]?=tB u->vd.cell? ⟨g,j,tD⟩=tB u:=by
     rcases Hj.out with⟨e,_⟩|q
     ·omega
     ·exact q
    have Fo:tg1 g= .no:=Hi.out g rfl;have I4:wr.cell? ⟨g,j,tD⟩=tB (Z U (x:bp)):=by
     rw[hE.cell (a:=⟨g,j,tD⟩) hg (λe=>e.1 Fo)];exact hc j _ (by rw[fj,fj,hx];rfl)
    have I5:g<wr.heap.size:=bl hg hE.size;have vu:=hE.heap Hp.out (λe=>e.1 G2.out);have ud:x<=900000:=Hk.out _ x ((Fl.out x).1 (cf hx));obtain⟨a1,a2⟩:=Aj (m1,m2,m3) (l.take j) P1;rw[Fk.out.1] at a1;rw[Fk.out.2] at a2;rw[pp,sx hj] at a1 a2;have Hx:=zH (mE wr hP Hn.out (x:=x) (by omega) (by omega) (by omega));have HU:=zH vu;have HX:=zH hx;have If:=zH hE;have In:=zH hT;clear hP hE hT vu hx a1 a2 hc Fo hg ud
    go_wp2_with (first
     |(refine ci rfl 164 _ rfl (D+1) rfl 164 #[Z U m1,Z U m2,Z U m3] (0,0) _ HU.out cX rfl (by kernel_rfl) ?_)
     |(go_at_call 120;refine Hx.out.mono ?_;rintro e w2 ⟨rfl,Fr⟩;have Is:=zH Fr;clear Fr))
    go_roundw
    case rel=>exact⟨j+1,by omega,by go_num,by
     rw[Du (m1,m2,m3) P1 HX.out];exact bF.step If.out In.out (Is.out.weak λt h=> .inr h)⟩
    case measure=>simp[intOf];omega
   ·have It:j=l.length:=by omega
    subst It;rw[de] at xT;have Iv:=zH xT;clear xT;go_wp2
    go_end0
    refine⟨rfl,P1.addL (m1,m2,m3) l,.inr ⟨FG.out,l,Fl.out,by rw[<-Hc.out]⟩, ?_⟩;exact bF.below vx.out (bF.step GS.out GT.out (bF.below A0.out Iv.out))
end
end
end Go.Proofs.YtjomgckjhcfbgaaGreat
