/- Walks. -/
import Derived.Laws.StructEq
import Derived.Test.YtjomgckjhcfbgaaGreatX14
set_option maxRecDepth 100000
set_option maxHeartbeats 64000000
set_option linter.all false
namespace Go.Proofs.YtjomgckjhcfbgaaGreat
open Go.RowKit
open Go.Proofs.Tryz renaming prog→ac,underlying164→cD
open _root_.List renaming getElem?_eq_getElem→am,mem_of_getElem?→ce,length_append→co,mem_append_left→ct,mem_singleton→cA,mem_append→cC,take_length→cT,eq_nil_of_length_eq_zero→cY,mem_map→dd,mem_append_right→de,length_map→dj,flatMap_cons→dp,flatMap_append→el,length_cons→eI,map_append→eS,getElem?_append_right→fi,length_singleton→fR,mem_cons→fW,getElem?_map→jz,length_filter_le→ke,length_range→kA,take_add_one→lP,range→lR,flatMap_singleton→me,mem_mergeSort→mj,length_mergeSort→mu,length_take→m8,mem_range→oc
open Go.RowKit.Below renaming refl→an
open Go.RowKit renaming Below→aq,Hid→ca
open Go renaming heap_setCell_same→aE,cell_of_row→bh,wpList_load_row→bo,Value→bw,bodyPost_ret→da,maxLen→dl,results_none→eR,Calls→ft,TypeId→ge,Oper→ij,yielded→im,Program→i8,info_parts→ld,ready_mono→lp,Addr→oA
open _root_ renaming List→bm,Nat→cd,Int→cj,decide_eq_false→cv,if_neg→cw,Array→cG,if_pos→cI,Option→du,decide_eq_true→dy,congrArg→eA,absurd→fL,False→jp,beq_iff_eq→nB
open _root_.Nat renaming le_refl→bp,lt_of_lt_of_le→cn,le_trans→cE,zero_add→cH,zero_le→cJ,le_succ→gb,min_eq_left→pw
open Go.Value renaming oneCell'→br,slice→bx,int→eC,slice→ra,pointer→rb,bool→re,agg→rh,int→Z
open Go.Exit renaming inBlock→cL
open Go.Addr renaming add_lit→cM
open Go.Region renaming ready→cN,wanted→dt,noSelect→ei,binds→ev,Mode→fy,noSelect_spec→hU,free→ia,free_spec→kf
open _root_.Option.some renaming injEq→dc
open _root_.Classical renaming byContradiction→eq
open _root_.Bool renaming and_eq_true→eK,true→qv,false→qS
open Go.Instr renaming lookup→fk
open Go.Value.slice renaming injEq→fz
open _root_.Array renaming getElem?_setIfInBounds_ne→gO,replicate→kB,setIfInBounds_comm→mC
open _root_.Int renaming ofNat→jt,ofNat_inj→nl
open Go.Oper renaming wp→km
open _root_.Prod.mk renaming injEq→lz
open _root_.Prod renaming snd→mA
open Go.Code renaming region→pT
open _root_.Option renaming some→qt,none→qu
open Go.Obj renaming cells→rj
open Go.Ending renaming returned→rk
open Go.IntKind renaming i64→U
open Tryz
section
open Go.RowKit Go.Maps
section
variable {T HM FM GM:cd}{m:Mo}{B:cd}{tg:cd->PT}{s:vM}{p:PS}{w W w' w2 w9:World}
theorem Pm.base (h:Pm T HM FM GM m B tg s p w):B<=w.heap.size:=by
 have:=h.lo T (by rw[h.t1];simp);omega
open Classical in
theorem Pm.newset {b c:cd}{n:Nd}(h:Pm T HM FM GM m B tg s p w)(h0:∀x,(n,x)∉p.H)(A:Ext (λ_=>jp) w W)(J:ja W b 0 [])(hb:w.heap.size<=b)
  (D:Ext (·=HM) W w')(hm:dL fV jE (.map qu) w' HM c (xk s.hv n (.map (qt b)))):
  Pm T HM FM GM m B (λk=>if k=b then .set n else tg k) {s with hv:=xk s.hv n (.map (qt b))} p w'/\Ext (λk=>tg k≠ .no/\¬ZA (tg k)) w w'/\ja w' b 0 []:=by
 have rl:=J.lt;have hB:=h.base;have rm:=(h.lo HM (by rw[h.t2];simp)).2;have f:∀k,tg k≠ .no->(λk=>if k=b then PT.set n else tg k) k=tg k:=λk o=>cw (by have:=(h.lo k o).2;omega);have d:Ext (·=HM) w w':=(A.mono (λ_ h=>h.elim)).trans D (λk e=> .inl e);have u:∀{k:cd}{t:PT},tg k=t->t≠ .mh->¬k=HM:=λh1 h2 e=>h2 (by rw[<-h1,e,h.t2]);have K:ja w' b 0 []:=J.ext D (by omega);refine⟨⟨d.heap h.row (u h.t1 (by simp)),⟨c,hm⟩,h.fm.imp λ_ q=>q.ext d (u h.t3 (by simp)),h.gm.imp λ_ q=>q.ext d (u h.t4 (by simp)),
  ae h.srow d (λj G e=>u (h.t5 j G) (by simp) e),ae h.trow d (λj G e=>u (h.t6 j G) (by simp) e),λv y=> ?_,
  λv y=>((h.fs v y).ext d (λk e q=>u q (by simp) e)).tag (by simp) f,λv y=>((h.gs v y).ext d (λk e q=>u q (by simp) e)).tag (by simp) f,
  (f T (by rw[h.t1];simp)).trans h.t1,(f HM (by rw[h.t2];simp)).trans h.t2,(f FM (by rw[h.t3];simp)).trans h.t3,(f GM (by rw[h.t4];simp)).trans h.t4,
  λk o=>(f k (by rw[h.t5 k o];simp)).trans (h.t5 k o),λk o=>(f k (by rw[h.t6 k o];simp)).trans (h.t6 k o),λk o=> ?_,h.lS,h.lH,h.lT⟩,d.mono (λk e=>by rw[e,h.t2];simp[ZA]),K⟩
 ·by_cases e:v=n
  ·subst e
   refine .inr ⟨b,0,[],iy _ _,K,cJ _,λz=>⟨λhz=>by simp at hz,λ⟨x,_,A⟩=>fL A (h0 x)⟩,cI rfl⟩
  ·have:=((h.hs v y).ext d (λk e q=>u q (by simp) e)).tag f
   rw[<-ko (F:=s.hv) (a:=n) e (.map (qt b))] at this;exact this
 ·by_cases e:k=b
  ·subst e
   exact⟨by omega,cn rl D.size⟩
  ·have R:tg k≠ .no:=λq=>o (by show(if k=b then PT.set n else tg k)=_;rw[cw e];exact q)
   exact⟨(h.lo k R).1,cn (h.lo k R).2 d.size⟩
theorem nG.more {H:bm (Nd×cd)}{v:bw}{n d:Nd}{x:cd}(h:nG w tg H v d)(D:¬d=n):nG w tg (H++[(n,x)]) v d:=by
 have o:∀y,(d,y)∈H++[(n,x)]↔(d,y)∈H:=λy=>by
  rw[cC,cA];exact⟨λq=>q.elim id (λe=>fL (eA Prod.fst e) D),.inl⟩
 rcases h with⟨u,A⟩|⟨b,c,S,u,A,G,J,K⟩
 ·exact .inl ⟨u,λy f=>A y ((o y).1 f)⟩
 ·refine .inr ⟨b,c,S,u,A,cE G (by simp),λz=> ?_,K⟩
  rw[J];exact⟨λ⟨y,e,f⟩=>⟨y,e,(o y).2 f⟩,λ⟨y,e,f⟩=>⟨y,e,(o y).1 f⟩⟩
open Classical in
theorem Pm.added {b c:cd}{S:bm cj}{n:Nd}{x:cd}{d:du oA}{f:cd}
  (h:Pm T HM FM GM m B tg s p w)(hv:s.hv n= .map (qt b))(J:tg b= .set n)(hc:c<=p.H.length)(hS:∀z:cj,z∈S↔∃x:cd,z=(x:cj)/\(n,x)∈p.H)
  (h0:(n,x)∉p.H)(lH:p.H.length+1<=500000000)(lT:p.td.length+1<=500000000)
  (h2:ja w2 b (c+1) ((x:cj)::S))(K:Ext (·=b) w w2)
  (h9:w9.ownsRow B 215 4 (ra d (p.td.length+1) f) (p.td.length+1) (p.td.flatMap Cb++Cb (n,x)))
  (rr:Ext (λq=>(bx s.tdA p.td.length s.tdC).ownBlock=qt q) w2 w9)
  (rm:∀k,(bx d (p.td.length+1) f).ownBlock=qt k->(bx s.tdA p.td.length s.tdC).ownBlock=qt k\/w2.heap.size<=k):
  bn ZA T HM FM GM m B tg (p.add n x) w (w9.setCell ⟨T,6,qu⟩ (ra d (p.td.length+1) f)):=by
 have hp:p.add n x={p with H:=p.H++[(n,x)],td:=p.td++[(n,x)]}:=cw h0;rw[hp];obtain⟨D,rn⟩:=zE (w9.setCell ⟨T,6,qu⟩ (ra d (p.td.length+1) f));rw[rn];have hB:=h.base;have rv:T≠b:=λe=>by have:=h.t1;rw[e,J] at this;simp at this
 have rx:¬(bx s.tdA p.td.length s.tdC).ownBlock=qt T:=λe=>by have:=h.t6 T e;rw[h.t1] at this;simp at this
 have rB:Ext (·=T) w9 D:=by rw[<-rn];exact Ext.set1 w9 T 6 _
 have sf:=K.heap h.row rv;have sk:=rr.heap sf rx;have rI:=aE w9 T 6 _ _ (ra d (p.td.length+1) f) sk;rw[rn] at rI;have rK:Ext (λq=>q=T\/(bx s.tdA p.td.length s.tdC).ownBlock=qt q) w2 D:=(rr.mono (λq h=> .inr h)).trans rB (λq e=> .inl (.inl e));have v:Ext (λq=>q=b\/q=T\/(bx s.tdA p.td.length s.tdC).ownBlock=qt q) w D:=(K.mono (λq h=> .inl h)).trans rK (λq e=> .inl (.inr e));have u:∀k,tg k≠ .no->(λk=>if (bx d (p.td.length+1) f).ownBlock=qt k then PT.td else tg k) k=tg k:=λk o=>by
  show(if (bx d (p.td.length+1) f).ownBlock=qt k then PT.td else tg k)=tg k
  by_cases e:(bx d (p.td.length+1) f).ownBlock=qt k
  ·rw[cI e]
   rcases rm k e with q|q
   ·exact(h.t6 k q).symm
   ·have:=(h.lo k o).2
    have:=K.size;omega
  ·rw[cw e]
 have G:∀{k:cd}{t:PT},tg k=t->t≠ .set n->t≠ .top->t≠ .td->¬(k=b\/k=T\/(bx s.tdA p.td.length s.tdC).ownBlock=qt k):=λh1 q1 q2 q3 e=>by
  rcases e with e|e|e
  ·exact q1 (by rw[<-h1,e,J])
  ·exact q2 (by rw[<-h1,e,h.t1])
  ·exact q3 (by rw[<-h1];exact h.t6 _ e)
 have rl:(p.td++[(n,x)]).length=p.td.length+1:=by simp
 have rL:(p.H++[(n,x)]).length=p.H.length+1:=by simp
 have rN:D.ownsRow B 215 4 (ra d (p.td.length+1) f) (p.td.length+1) (p.td.flatMap Cb++Cb (n,x)):=ae h9 rB (λk o e=>by
  subst e;rcases rm _ o with q|q
  ·exact rx q
  ·have:=(h.lo _ (show tg _≠ .no by rw[h.t1];simp)).2
   have:=K.size;omega)
 refine⟨λk=>if (bx d (p.td.length+1) f).ownBlock=qt k then .td else tg k,{s with tdA:=d,tdC:=f},⟨?_,h.hm.imp λ_ q=>q.ext v (G h.t2 (by simp) (by simp) (by simp)),h.fm.imp λ_ q=>q.ext v (G h.t3 (by simp) (by simp) (by simp)),h.gm.imp λ_ q=>q.ext v (G h.t4 (by simp) (by simp) (by simp)),
  ae h.srow v (λj hj=>G (h.t5 j hj) (by simp) (by simp) (by simp)), ?_,λA R=> ?_,
  λA R=>((h.fs A R).ext v (λk e q=>G q (by simp) (by simp) (by simp) e)).tag (by simp) u,λA R=>((h.gs A R).ext v (λk e q=>G q (by simp) (by simp) (by simp) e)).tag (by simp) u,
  (u T (by rw[h.t1];simp)).trans h.t1,(u HM (by rw[h.t2];simp)).trans h.t2,(u FM (by rw[h.t3];simp)).trans h.t3,(u GM (by rw[h.t4];simp)).trans h.t4,
  λk o=>(u k (by rw[h.t5 k o];simp)).trans (h.t5 k o),λk o=> ?_,λk o=> ?_,h.lS,by show(p.H++[(n,x)]).length<=_;rw[rL];omega,by show(p.td++[(n,x)]).length<=_;rw[rl];omega⟩,
  v.mono (λk e=> ?_),λk o=> ?_,u⟩
 ·show D.heap[T]?=qt (rj (zC m HM FM GM {s with tdA:=d,tdC:=f} p.St.length (p.td++[(n,x)]).length) 148 (0,0))
  rw[rl];exact rI
 ·show D.ownsRow B 215 4 (ra d (p.td++[(n,x)]).length f) (p.td++[(n,x)]).length ((p.td++[(n,x)]).flatMap Cb)
  rw[rl,el,me];exact rN
 ·show nG D (λk=>if (bx d (p.td.length+1) f).ownBlock=qt k then .td else tg k) (p.H++[(n,x)]) (s.hv A) A
  by_cases e:A=n
  ·subst e
   have sn:¬(b=T\/(bx s.tdA p.td.length s.tdC).ownBlock=qt b):=λe=>by
    rcases e with e|e
    ·exact rv e.symm
    ·have:=h.t6 b e
     rw[J] at this;simp at this
   refine .inr ⟨b,c+1,(x:cj)::S,hv,h2.ext rK sn,by rw[rL];omega,λz=> ?_,(u b (by rw[J];simp)).trans J⟩;rw[fW,hS];constructor
   ·rintro(e|⟨y,e,hy⟩)
    ·exact⟨x,e,de _ (cA.2 rfl)⟩
    ·exact⟨y,e,ct _ hy⟩
   ·rintro⟨y,e,hy⟩
    rcases cC.1 hy with q|q
    ·exact .inr ⟨y,e,q⟩
    ·simp only[cA,lz,true_and] at q
     exact .inl (by rw[e,q])
  ·refine(((h.hs A R).ext v (λk q q2=> ?_)).tag u).more e
   refine G q2 ?_ (by simp) (by simp) q;simpa using e
 ·have rS:(bx d (p.td++[(n,x)]).length f).ownBlock=qt k:=o
  rw[rl] at rS;exact cI rS
 ·by_cases e:(bx d (p.td.length+1) f).ownBlock=qt k
  ·exact rN.lt k e
  ·have se:tg k≠ .no:=λq=>o (by show(if (bx d (p.td.length+1) f).ownBlock=qt k then PT.td else tg k)=_;rw[cw e];exact q)
   exact⟨(h.lo k se).1,cn (h.lo k se).2 v.size⟩
 ·rcases e with e|e|e
  ·rw[e,J];simp[ZA]
  ·rw[e,h.t1];simp[ZA]
  ·rw[h.t6 k e];simp[ZA]
 ·by_cases e:(bx d (p.td.length+1) f).ownBlock=qt k
  ·rcases rm k e with q|q
   ·exact .inl (by rw[h.t6 k q];simp)
   ·exact .inr (cE K.size q)
  ·exact .inl λq=>o (by show(if (bx d (p.td.length+1) f).ownBlock=qt k then PT.td else tg k)=_;rw[cw e];exact q)
end
end
section
open Go.RowKit Go.Maps
theorem Cc (w:World):(zeroValue 162).run ac w= .ok (.map qu) w:=by kernel_rfl
theorem AO (b:cd)(w:World):(binOp .eql 162 (.map (qt b)) (.map qu)).run ac w= .ok (re qS) w:=by kernel_rfl
theorem Ce (w:World):(binOp .eql 162 (.map qu) (.map qu)).run ac w= .ok (re qv) w:=by kernel_rfl
section
variable {T HM FM GM:cd}{m:Mo}{B:cd}{tg tg1:cd->PT}{s s1:vM}{p p1 p':PS}{w w1 w':World}
theorem Pm.look (h:Pm T HM FM GM m B tg s p w){n:Nd}(d:fV n):(fk 143 (.map (qt HM)) (jE n) qS).run ac w= .ok (s.hv n) w:=by
 obtain⟨c,q⟩:=h.hm;exact q.look jF underlying143 (Cc w) d
theorem aO {W:World}{D:cd}{a b c:cj}(h:W.heap[D]?=qt (rj #[Z U a,Z U b,Z U c] 164 (0,0))):∀j u,(#[Z U a,Z U b,Z U c]:cG bw).toList[j]?=qt u->W.cell? ((⟨D,0,qu⟩:oA).add j)=qt u:=by
 intro j u d;rw[cM,cH,bh _ _ _ _ _ _ h];simpa using d
theorem ku (w:World)(h:Pm T HM FM GM m B tg s p w){n1 n2 n3:cj}(hn:fV (n1,n2,n3)){x:cd}(hx:x<=1000000)(lH:p.H.length+1<=500000000)(lT:p.td.length+1<=500000000):
  ft ac 120 #[rb (qt ⟨T,0,qu⟩),rh #[Z U n1,Z U n2,Z U n3],Z U (x:cj)] w λe w'=>e= rk (.tuple #[])/\bn ZA T HM FM GM m B tg (p.add (n1,n2,n3) x) w w':=by
 obtain⟨D,hD⟩:=zE w.heap.size;obtain⟨W1,tE⟩:=zE (w.alloc (rj #[Z U n1,Z U n2,Z U n3] 164));have vx:=iF tE;have vy:W1.heap[D]?=qt (rj #[Z U n1,Z U n2,Z U n3] 164 (0,0)):=by rw[<-tE,<-hD];exact alloc_at _ _
 have tW:aq w.heap.size w W1.drew:=vx.drew;have h1:=h.grow tW;have ua:W1.drew.heap[D]?=qt (rj #[Z U n1,Z U n2,Z U n3] 164 (0,0)):=vy;obtain⟨S1,tG⟩:=zE ((λw'=>w'=W1.drew):World->Prop);have wa:S1 W1.drew:=by rw[<-tG]
 have ub:=h1.look hn;unfold jE at ub;have sB:ca (∀W,S1 W->W.cell? ⟨T,3,qu⟩=qt (.map (qt HM))/\T<W.heap.size/\(fk 143 (.map (qt HM)) (rh #[Z U n1,Z U n2,Z U n3]) qS).run ac W= .ok (s.hv (n1,n2,n3)) W):=λW v=>by
  rw[<-tG] at v;subst v;exact⟨(rowAt h1.row 3 rfl).1,aa h1.row,ub⟩
 have wb:ca (∀W,S1 W->∀j u,(#[Z U n1,Z U n2,Z U n3]:cG bw).toList[j]?=qt u->W.cell? ((⟨D,0,qu⟩:oA).add j)=qt u):=λW v=>by
  rw[<-tG] at v;subst v;exact aO ua
 have we:ca (D=w.heap.size):=hD.symm;have H:=zH h;have H1:=zH h1;have sX:=zH ua;have sE:=zH tW;have xr:=zH tE;clear h vx vy tW h1 ua tG ub tE hD;go_enter func120,ntmps120
 go_upto_region 1 with(fail)
 rw[xr.out];refine ah 6 S1 (by kernel_rfl) ?_;refine zT 0 rfl sB.out ?_;(try go_simp);refine zT 1 rfl sB.out ?_;(try go_simp);refine zT 2 rfl sB.out ?_;(try go_simp);refine zT 3 rfl sB.out ?_;(try go_simp);(try rw[<-we.out]);refine zL 4 rfl 164 ⟨D,0,qu⟩ wb.out cD ?_;(try go_simp);refine zT 5 rfl sB.out ?_;(try go_simp);refine zK rfl λK' d=> ?_;go_simp;refine d _ _ ?_;clear d;refine⟨by kernel_rfl, ?_⟩;have wg:tg D= .no:=eq λe=>by have:=(H.out.lo D e).2;rw[we.out] at this;exact Nat.lt_irrefl _ this
 have uc:=zH wg;obtain⟨W2,wi⟩:=zE W1.drew;rw[wi] at H1 sX sE⊢;have wj:=zH wa;clear wa wi wg sB wb;rcases H1.out.hs _ hn with⟨hv,h0⟩|⟨b,c,S,hv,ud,hc,hS,wk⟩
 ·rw[hv]
  have xt:=Ce;have xF:=@run_makeMap ac;obtain⟨b,hb⟩:=zE W2.heap.size;obtain⟨W3,tM⟩:=zE (W2.alloc (.map #[] 0));have wl:ja W3 b 0 []:=by rw[<-tM,<-hb];exact ja.made _
  have tP:aq W2.heap.size W2 W3.drew:=(iF tM).drew;have wn:ja W3.drew b 0 []:=wl.ext ((Ext.refl (λ_=>jp) W3).drew) (λh=>h);have h3:=H1.out.grow tP;have ue:=(tP.block D (aa sX.out)).trans sX.out;obtain⟨c0,q3⟩:=h3.hm;obtain⟨W4,rI,ws,ur⟩:=q3.put jF underlying143 hn (.map (qt b));unfold jE at rI;obtain⟨k1,k2,k3⟩:=H1.out.newset (n:=(n1,n2,n3)) h0 (Ext.of_below_size tP) wn (Nat.le_of_eq hb) ur ws;have rK:D≠b:=by have:=aa sX.out;omega
  have wx:¬D=HM:=λe=>by have:=uc.out;rw[e,H1.out.t2] at this;simp at this
  have xf:=ur.heap ue wx;obtain⟨S3,tR⟩:=zE ((λw'=>w'=W3.drew):World->Prop);have xT:S3 W3.drew:=by rw[<-tR]
  have sL:ca (∀W,S3 W->W.cell? ⟨T,3,qu⟩=qt (.map (qt HM))/\T<W.heap.size):=λW v=>by
   rw[<-tR] at v;subst v;exact⟨(rowAt h3.row 3 rfl).1,aa h3.row⟩
  have xj:ca (∀W,S3 W->∀j u,(#[Z U n1,Z U n2,Z U n3]:cG bw).toList[j]?=qt u->W.cell? ((⟨D,0,qu⟩:oA).add j)=qt u):=λW v=>by
   rw[<-tR] at v;subst v;exact aO ue
  obtain⟨tg1,K⟩:=zE (λk=>if k=b then PT.set (n1,n2,n3) else tg k);obtain⟨s1,rL⟩:=zE ({s with hv:=xk s.hv (n1,n2,n3) (.map (qt b))}:vM);have f:ca (Pm T HM FM GM m B tg1 s1 p W4):=by rw[<-K,<-rL];exact k1
  have HX:ca (Ext (λk=>tg k≠ .no/\¬ZA (tg k)) w W4):=Ext.trans (Ext.of_below_size sE.out) k2 (λk h=> .inl h);have HT:ca ((∀k,tg1 k≠ .no->tg k≠ .no\/w.heap.size<=k)/\∀k,tg k≠ .no->tg1 k=tg k):=by
   refine⟨λk A=> ?_,λk A=>by rw[<-K];exact cw (λe=>by have:=(H.out.lo k A).2;have:=sE.out.size;omega)⟩
   by_cases e:k=b
   ·exact .inr (by rw[e,<-hb];exact sE.out.size)
   ·refine .inl λq=>A ?_
    rw[<-K]
    show(if k=b then PT.set (n1,n2,n3) else tg k)= .no
    rw[cw e];exact q
  have rr:ca (tg1 b= .set (n1,n2,n3)):=by rw[<-K];exact cI rfl
  have rN:ca (tg1 D= .no):=by
   rw[<-K]
   show(if D=b then PT.set (n1,n2,n3) else tg D)= .no
   rw[cw rK];exact uc.out
  have HV:ca (s1.hv (n1,n2,n3)= .map (qt b)):=by rw[<-rL];exact iy _ _
  have uv:=zH xf;have HC:ca (0<=p.H.length):=cJ _;have tS:=zH k3;have sR:ca (∀z:cj,z∈([]:bm cj)↔∃x:cd,z=(x:cj)/\(((n1,n2,n3):Nd),x)∈p.H):=λz=>⟨λhz=>by simp at hz,λ⟨x,_,hx⟩=>fL hx (h0 x)⟩
  have ux:ca ((((n1,n2,n3):Nd),x)∉p.H):=h0 x;have tU:=k3.look (x:=(x:cj)) (by omega);rw[cv (λh=>by simp at h)] at tU;obtain⟨c,va⟩:=zE 0;obtain⟨S,vc⟩:=zE ([]:bm cj);rw[va,vc] at tS;rw[vc] at sR;have HC:ca (c<=p.H.length):=by rw[<-va];exact cJ _
  have xl:=zH tM;have xo:=zH hb;have xp:=zH rI;clear hv h0 wl wn tP h3 ue q3 ws ur rI k1 k2 k3 rK wx xf tR K rL va vc tM hb
  go_upto_region 4 with(fail)
  clear xF;(try rw[xo.out]);(try rw[xl.out]);refine ah 6 S3 (by kernel_rfl) ?_;refine zT 0 rfl sL.out ?_;(try go_simp);refine zT 1 rfl sL.out ?_;(try go_simp);refine zT 2 rfl sL.out ?_;(try go_simp);refine zT 3 rfl sL.out ?_;(try go_simp);refine zL 4 rfl 164 ⟨D,0,qu⟩ xj.out cD ?_;(try go_simp);refine zT 5 rfl sL.out ?_;(try go_simp);refine zK rfl λK' d=> ?_;have rI:=xp.out;go_simp;(try simp only[rI]);(try go_simp);refine d _ _ ?_;clear d rI;refine⟨by kernel_rfl, ?_⟩;clear xp xT sL xj xl xo;have rS:T≠b:=λe=>by have:=f.out.t1;rw[e,rr.out] at this;simp at this
  have rK:D≠b:=λe=>by have:=rN.out;rw[e,rr.out] at this;simp at this
  have sY:D≠T:=λe=>by have:=rN.out;rw[e,f.out.t1] at this;simp at this
  have se:∀k,(bx s1.tdA p.td.length s1.tdC).ownBlock=qt k->k≠D/\k≠T/\k≠b/\k<W4.heap.size:=λk A=>by
   have a:=f.out.t6 k A;have a0:=rN.out;have a1:=f.out.t1;have a2:=rr.out;exact⟨λe=>by rw[e] at a;rw[a0] at a;simp at a,λe=>by rw[e,a1] at a;simp at a,λe=>by rw[e,a2] at a;simp at a,(f.out.lo k (by rw[a];simp)).2⟩
  have te:c<=1000000000:=by have:=f.out.lH;have:=HC.out;omega
  obtain⟨J,rI,tf,rm⟩:=tS.out.add (x:=(x:cj)) (by omega) te;have th:=rm.heap f.out.row rS;have ti:=rm.heap uv.out rK;have tj:=ae f.out.trow rm (λk A e=>(se k A).2.2.1 e);have sf:=zH th;have sk:=zH ti;have vd:=zH tj;have vf:=zH tf;have tl:=zH rm;have tm:=zH se;have ya:=zH rS;have yb:=zH sY;clear th ti tj tf rm se rS sY rK te wj
  go_upto_region 7 with(fail)
  obtain⟨i0,vh,vi,vj,vm⟩:=ld qf;obtain⟨R,rv⟩:=zE ((λw'=>w'.heap[T]?=qt (rj (zC m HM FM GM s1 p.St.length p.td.length) 148 (0,0))/\w'.heap[D]?=qt (rj #[Z U n1,Z U n2,Z U n3] 164 (0,0))):World->Prop);have sn:ca (∀W,W.heap[T]?=qt (rj (zC m HM FM GM s1 p.St.length p.td.length) 148 (0,0))->W.heap[D]?=qt (rj #[Z U n1,Z U n2,Z U n3] 164 (0,0))->R W):=λW a b=>by rw[<-rv];exact⟨a,b⟩
  have o:ca (∀w,R w->w.cell? ⟨T,6,qu⟩=qt (ra s1.tdA p.td.length s1.tdC)/\T<w.heap.size):=λw hw=>by rw[<-rv] at hw;exact⟨(rowAt hw.1 6 rfl).1,aa hw.1⟩
  have vn:ca (∀W,R W->∀j u,(#[Z U n1,Z U n2,Z U n3]:cG bw).toList[j]?=qt u->W.cell? ((⟨D,0,qu⟩:oA).add j)=qt u):=λW v=>by
   rw[<-rv] at v;exact aO v.2
  have yd:R J.drew:=sn.out _ sf.out sk.out;clear rv;refine ah 12 R (by kernel_rfl) ?_;refine zT 0 rfl o.out ?_;(try go_simp);refine zT 1 rfl o.out ?_;(try go_simp);refine zT 2 rfl o.out ?_;(try go_simp);refine zT 3 rfl o.out ?_;(try go_simp);refine zT 4 rfl o.out ?_;(try go_simp);refine zL 5 rfl 164 ⟨D,0,qu⟩ vn.out cD ?_;(try go_simp);refine zT 6 rfl o.out ?_;(try go_simp);refine zT 7 rfl o.out ?_;(try go_simp);refine zO 8 rfl λK' d=> ?_;go_simp;obtain⟨G,hG⟩:=zE J.heap.size;obtain⟨W8,rx⟩:=zE ((J.alloc (rj #[Z U n1,Z U n2,Z U n3,Z U (x:cj)] 215)).drew);(try rw[hG]);(try rw[rx]);have rl:aq J.heap.size J W8:=by rw[<-rx];exact((an _ _).alloc (bp _) _).drew
  have tn:W8.heap[G]?=qt (rj #[Z U n1,Z U n2,Z U n3,Z U (x:cj)] 215 (0,0)):=by rw[<-rx,<-hG];exact alloc_at _ _
  have sq:=(rl.block T (aa sf.out)).trans sf.out;have sr:=(rl.block D (aa sk.out)).trans sk.out;have sx:Ext (λ_=>jp) J W8:=Ext.of_below_size rl;have tp:=ae vd.out sx (λ_ _ h=>h);refine d _ _ (sn.out _ sq sr) ?_;clear d;(try go_simp);refine zO 9 rfl λK' d=> ?_;have tr:B<=W8.heap.size:=cE f.out.base (cE tl.out.size rl.size);have tt:p.td.length+1<=dl:=by unfold dl;omega
  refine aB (.tmp 32) (.tmp 36) 146 rfl B 215 i0 _ 4 32 underlying146 vh vi vj vm rfl (by decide) (ra s1.tdA p.td.length s1.tdC) p.td.length (p.td.flatMap Cb) rfl tp (qt ⟨G,0,qu⟩) 1 1 [Z U n1,Z U n2,Z U n3,Z U (x:cj)] rfl rfl (λh=>by cases h) (λad vp j u hu=>by
   obtain rfl:(⟨G,0,qu⟩:oA)=ad:=by simpa using vp
   rw[cM,cH,bh _ _ _ _ _ _ tn];simpa using hu) (by simp[br]) tt (by omega) tr ?_
  intro v9 w9 sy tv tz;obtain⟨ye,c9,vq⟩:=av sy;subst vq;have rB:Ext (λq=>(bx s1.tdA p.td.length s1.tdC).ownBlock=qt q) W8 w9:=Ext.of_grown tv (λq hq=> .inl hq);have rn:=rB.heap sq (λe=>(tm.out _ e).2.1 rfl);have tA:=rB.heap sr (λe=>(tm.out _ e).1 rfl);have tB:R w9:=sn.out _ rn tA;have vr:=(rowAt rn 6 rfl).2;have vt:=(rowAt rn 6 rfl).1;have yi:=aa rn;refine d _ _ tB ?_;clear d;(try go_simp);refine zT 10 rfl o.out ?_;(try go_simp);refine zT 11 rfl o.out ?_;(try go_simp);refine zK rfl λK' d=> ?_;go_simp;refine d _ _ ?_;clear d;refine⟨by kernel_rfl, ?_⟩;have tD:Ext (λq=>(bx s1.tdA p.td.length s1.tdC).ownBlock=qt q) J w9:=(sx.mono (λ_ h=>h.elim)).trans rB (λq h=> .inl h);have vu:=zH (f.out.added (n:=(n1,n2,n3)) (x:=x) HV.out rr.out HC.out sR.out ux.out lH lT vf.out tl.out sy tD (λk A=>by
   rcases tz k A with q|q
   ·exact .inl q
   ·exact .inr (cE rl.size q)))
  clear rn tA tB vr vt rB tD sq sr sx tp sy tv tz rx rl tn hG tr tt;go_wp2
  go_end0
  exact⟨rfl,bn.step HX.out HT.out vu.out⟩
 ·rw[hv]
  obtain⟨tg1,K⟩:=zE tg;obtain⟨s1,rL⟩:=zE s;have f:ca (Pm T HM FM GM m B tg1 s1 p W2):=by rw[<-K,<-rL];exact H1.out
  have HX:ca (Ext (λk=>tg k≠ .no/\¬ZA (tg k)) w W2):=Ext.of_below_size sE.out;have HT:ca ((∀k,tg1 k≠ .no->tg k≠ .no\/w.heap.size<=k)/\∀k,tg k≠ .no->tg1 k=tg k):=⟨λk A=> .inl (by rw[K];exact A),λk _=>by rw[<-K]⟩
  have rr:ca (tg1 b= .set (n1,n2,n3)):=by rw[<-K];exact wk
  have rN:ca (tg1 D= .no):=by rw[<-K];exact uc.out
  have HV:ca (s1.hv (n1,n2,n3)= .map (qt b)):=by rw[<-rL];exact hv
  have uv:=sX;have HC:=zH hc;have tS:=zH ud;have sR:=zH hS;have tU:=ud.look (x:=(x:cj)) (by omega);have xt:=AO b;clear hv ud hc hS wk K rL
  by_cases sT:(x:cj)∈S
  ·have yk:ca ((((n1,n2,n3):Nd),x)∈p.H):=by
    obtain⟨y,e,hy⟩:=(sR.out _).1 sT;rw[nl.1 e];exact hy
   rw[dy sT] at tU;clear sT;go_wp2
   go_end0
   refine⟨rfl, ?_⟩;unfold PS.add;rw[cI yk.out];exact H.out.same sE.out
  ·have ux:ca ((((n1,n2,n3):Nd),x)∉p.H):=λq=>sT ((sR.out _).2 ⟨x,rfl,q⟩)
   rw[cv sT] at tU;clear sT;have rS:T≠b:=λe=>by have:=f.out.t1;rw[e,rr.out] at this;simp at this
   have rK:D≠b:=λe=>by have:=rN.out;rw[e,rr.out] at this;simp at this
   have sY:D≠T:=λe=>by have:=rN.out;rw[e,f.out.t1] at this;simp at this
   have se:∀k,(bx s1.tdA p.td.length s1.tdC).ownBlock=qt k->k≠D/\k≠T/\k≠b/\k<W2.heap.size:=λk A=>by
    have a:=f.out.t6 k A;have a0:=rN.out;have a1:=f.out.t1;have a2:=rr.out;exact⟨λe=>by rw[e] at a;rw[a0] at a;simp at a,λe=>by rw[e,a1] at a;simp at a,λe=>by rw[e,a2] at a;simp at a,(f.out.lo k (by rw[a];simp)).2⟩
   have te:c<=1000000000:=by have:=f.out.lH;have:=HC.out;omega
   obtain⟨J,rI,tf,rm⟩:=tS.out.add (x:=(x:cj)) (by omega) te;have th:=rm.heap f.out.row rS;have ti:=rm.heap uv.out rK;have tj:=ae f.out.trow rm (λk A e=>(se k A).2.2.1 e);have sf:=zH th;have sk:=zH ti;have vd:=zH tj;have vf:=zH tf;have tl:=zH rm;have tm:=zH se;have ya:=zH rS;have yb:=zH sY;clear th ti tj tf rm se rS sY rK te wj
   go_upto_region 7 with(fail)
   obtain⟨i0,vh,vi,vj,vm⟩:=ld qf;obtain⟨R,rv⟩:=zE ((λw'=>w'.heap[T]?=qt (rj (zC m HM FM GM s1 p.St.length p.td.length) 148 (0,0))/\w'.heap[D]?=qt (rj #[Z U n1,Z U n2,Z U n3] 164 (0,0))):World->Prop);have sn:ca (∀W,W.heap[T]?=qt (rj (zC m HM FM GM s1 p.St.length p.td.length) 148 (0,0))->W.heap[D]?=qt (rj #[Z U n1,Z U n2,Z U n3] 164 (0,0))->R W):=λW a b=>by rw[<-rv];exact⟨a,b⟩
   have o:ca (∀w,R w->w.cell? ⟨T,6,qu⟩=qt (ra s1.tdA p.td.length s1.tdC)/\T<w.heap.size):=λw hw=>by rw[<-rv] at hw;exact⟨(rowAt hw.1 6 rfl).1,aa hw.1⟩
   have vn:ca (∀W,R W->∀j u,(#[Z U n1,Z U n2,Z U n3]:cG bw).toList[j]?=qt u->W.cell? ((⟨D,0,qu⟩:oA).add j)=qt u):=λW v=>by
    rw[<-rv] at v;exact aO v.2
   have yd:R J.drew:=sn.out _ sf.out sk.out;clear rv;refine ah 12 R (by kernel_rfl) ?_;refine zT 0 rfl o.out ?_;(try go_simp);refine zT 1 rfl o.out ?_;(try go_simp);refine zT 2 rfl o.out ?_;(try go_simp);refine zT 3 rfl o.out ?_;(try go_simp);refine zT 4 rfl o.out ?_;(try go_simp);refine zL 5 rfl 164 ⟨D,0,qu⟩ vn.out cD ?_;(try go_simp);refine zT 6 rfl o.out ?_;(try go_simp);refine zT 7 rfl o.out ?_;(try go_simp);refine zO 8 rfl λK' d=> ?_;go_simp;obtain⟨G,hG⟩:=zE J.heap.size;obtain⟨W8,rx⟩:=zE ((J.alloc (rj #[Z U n1,Z U n2,Z U n3,Z U (x:cj)] 215)).drew);(try rw[hG]);(try rw[rx]);have rl:aq J.heap.size J W8:=by rw[<-rx];exact((an _ _).alloc (bp _) _).drew
   have tn:W8.heap[G]?=qt (rj #[Z U n1,Z U n2,Z U n3,Z U (x:cj)] 215 (0,0)):=by rw[<-rx,<-hG];exact alloc_at _ _
   have sq:=(rl.block T (aa sf.out)).trans sf.out;have sr:=(rl.block D (aa sk.out)).trans sk.out;have sx:Ext (λ_=>jp) J W8:=Ext.of_below_size rl;have tp:=ae vd.out sx (λ_ _ h=>h);refine d _ _ (sn.out _ sq sr) ?_;clear d;(try go_simp);refine zO 9 rfl λK' d=> ?_;have tr:B<=W8.heap.size:=cE f.out.base (cE tl.out.size rl.size);have tt:p.td.length+1<=dl:=by unfold dl;omega
   refine aB (.tmp 32) (.tmp 36) 146 rfl B 215 i0 _ 4 32 underlying146 vh vi vj vm rfl (by decide) (ra s1.tdA p.td.length s1.tdC) p.td.length (p.td.flatMap Cb) rfl tp (qt ⟨G,0,qu⟩) 1 1 [Z U n1,Z U n2,Z U n3,Z U (x:cj)] rfl rfl (λh=>by cases h) (λad vp j u hu=>by
    obtain rfl:(⟨G,0,qu⟩:oA)=ad:=by simpa using vp
    rw[cM,cH,bh _ _ _ _ _ _ tn];simpa using hu) (by simp[br]) tt (by omega) tr ?_
   intro v9 w9 sy tv tz;obtain⟨ye,c9,vq⟩:=av sy;subst vq;have rB:Ext (λq=>(bx s1.tdA p.td.length s1.tdC).ownBlock=qt q) W8 w9:=Ext.of_grown tv (λq hq=> .inl hq);have rn:=rB.heap sq (λe=>(tm.out _ e).2.1 rfl);have tA:=rB.heap sr (λe=>(tm.out _ e).1 rfl);have tB:R w9:=sn.out _ rn tA;have vr:=(rowAt rn 6 rfl).2;have vt:=(rowAt rn 6 rfl).1;have yi:=aa rn;refine d _ _ tB ?_;clear d;(try go_simp);refine zT 10 rfl o.out ?_;(try go_simp);refine zT 11 rfl o.out ?_;(try go_simp);refine zK rfl λK' d=> ?_;go_simp;refine d _ _ ?_;clear d;refine⟨by kernel_rfl, ?_⟩;have tD:Ext (λq=>(bx s1.tdA p.td.length s1.tdC).ownBlock=qt q) J w9:=(sx.mono (λ_ h=>h.elim)).trans rB (λq h=> .inl h);have vu:=zH (f.out.added (n:=(n1,n2,n3)) (x:=x) HV.out rr.out HC.out sR.out ux.out lH lT vf.out tl.out sy tD (λk A=>by
    rcases tz k A with q|q
    ·exact .inl q
    ·exact .inr (cE rl.size q)))
   clear rn tA tB vr vt rB tD sq sr sx tp sy tv tz rx rl tn hG tr tt;go_wp2
   go_end0
   exact⟨rfl,bn.step HX.out HT.out vu.out⟩
end
end
theorem DX:∀(l:bm Nd)(i:cd)(p:Nd),l[i]?=qt p->(l.flatMap lQ)[i*3+0]?=qt (Z U p.1)/\(l.flatMap lQ)[i*3+1]?=qt (Z U p.2.1)/\(l.flatMap lQ)[i*3+2]?=qt (Z U p.2.2):=by
 intro l
 induction l with
 |nil=>intro i p d;simp at d
 |cons x r ih=>
  intro i p d;cases i with
  |zero=>
   obtain rfl:x=p:=by simpa using d
   exact⟨rfl,rfl,rfl⟩
  |succ i=>
   obtain⟨f,h,o⟩:=ih i p (by simpa using d);rw[dp];refine⟨?_, ?_, ?_⟩
   ·rw[fi (by simp[lQ];omega),show(i+1)*3+0-(lQ x).length=i*3+0 by simp[lQ];omega];exact f
   ·rw[fi (by simp[lQ];omega),show(i+1)*3+1-(lQ x).length=i*3+1 by simp[lQ];omega];exact h
   ·rw[fi (by simp[lQ];omega),show(i+1)*3+2-(lQ x).length=i*3+2 by simp[lQ];omega];exact o
theorem qh {w:World}{B:cd}{e:ge}{o n cap:cd}{f:du oA}{l:bm bw}(h:w.ownsRow B e o (ra f n cap) n l):(n=0/\l=[])\/∃g,f=qt ⟨g,0,qu⟩/\g<w.heap.size/\∀j u,l[j]?=qt u->w.cell? ⟨g,j,qu⟩=qt u:=by
 rcases h.2 with⟨y,d⟩|⟨g,cap,cur,d,_,q,_⟩
 ·have h0:=h.1
  subst d;rw[Nat.zero_mul] at h0;exact .inl ⟨rfl,cY h0⟩
 ·simp only[fz] at d
  refine .inr ⟨g,d.1,aa q,λj u v=> ?_⟩;have:=h.cells (g:=g) (by rw[d.1];rfl) _ _ v;rw[cM,cH] at this;exact this
theorem Cf (p q r a b c:cj)(W:World):(binOp .eql 164 (rh #[Z U p,Z U q,Z U r]) (rh #[Z U a,Z U b,Z U c])).run ac W= .ok (re (p==a&&(q==b&&r==c))) W:=by
 rw[run_eql_struct,show(10000:cd)=9998+1+1 from rfl];rw[run_equalIn_struct W _ _ _ _ (by kernel_rfl) (by kernel_rfl)];go_simp
 by_cases d:p=a<;>by_cases f:q=b<;>by_cases h:r=c<;>simp[d,f,h]
theorem oF (w:World){B:cd}(c:cd)(ao:du oA)(xs:bm Nd)(n1 n2 n3:cj)(hn:xs.length<=500000000)(h:w.ownsRow B 164 3 (ra ao xs.length c) xs.length (xs.flatMap lQ)):
  ft ac 199 #[ra ao xs.length c,rh #[Z U n1,Z U n2,Z U n3]] w λe w'=>∃k:cj,e= rk (Z U k)/\(0<=k↔(n1,n2,n3)∈xs)/\aq w.heap.size w w':=by
 obtain⟨D,hD⟩:=zE w.heap.size;obtain⟨o,J⟩:=zE (w.alloc (rj #[Z U n1,Z U n2,Z U n3] 164));have rn:=iF J;have rr:o.heap[D]?=qt (rj #[Z U n1,Z U n2,Z U n3] 164 (0,0)):=by rw[<-J,<-hD];exact alloc_at _ _
 have h1:=ae h (Ext.of_below_size (M:=λ_=>jp) rn) (λ_ _ h=>h);have rv:=zH rr;have H1:=zH h1;have K:=zH rn;have rN:=zH J;have HD:=zH hD;clear h rn rr h1 J hD;go_enter func199,ntmps199
 go_wp2_with fail
 rw[rN.out,HD.out]
 go_loopw [8] (λk wr=>∃j:cd,j<=xs.length/\k= Z U (j:cj)/\(n1,n2,n3)∉xs.take j/\aq o.heap.size o wr) (λk _=>xs.length-(intOf k).toNat)
 case atStart=>exact⟨0,cJ _,rfl,by simp,an _ _⟩
 case round=>
  obtain⟨j,hj,rfl,v,f⟩:=hrel
  by_cases rS:j<xs.length
  ·obtain⟨⟨R,y2,y3⟩,hy⟩:∃y,xs[j]?=qt y:=⟨_,am rS⟩
   have sr:(j:cj)<(xs.length:cj):=by omega
   have rx:=(f.block D (aa rv.out)).trans rv.out;have h2:=ae H1.out (Ext.of_below_size (M:=λ_=>jp) f) (λ_ _ h=>h);obtain⟨a1,a2,a3⟩:=DX xs j _ hy;obtain⟨g,rfl,hg,rl⟩:∃g,ao=qt ⟨g,0,qu⟩/\g<wr.heap.size/\∀j u,(xs.flatMap lQ)[j]?=qt u->wr.cell? ⟨g,j,qu⟩=qt u:=by
    rcases qh h2 with⟨e,_⟩|q
    ·omega
    ·exact q
   obtain⟨S,A⟩:=zE ((λw'=>w'=wr.drew):World->Prop);have se:S wr.drew:=by rw[<-A]
   have rB:ca (∀W,S W->∀j u,(#[Z U n1,Z U n2,Z U n3]:cG bw).toList[j]?=qt u->W.cell? ((⟨D,0,qu⟩:oA).add j)=qt u):=λW d=>by
    rw[<-A] at d;subst d;exact aO (W:=wr.drew) rx
   have rI:ca (∀W,S W->∀k u,(#[Z U R,Z U y2,Z U y3]:cG bw).toList[k]?=qt u->W.cell? ((⟨g,j*3,qu⟩:oA).add k)=qt u):=λW d k u hu=>by
    rw[<-A] at d;subst d;rw[cM]
    show wr.cell? _=_
    rcases k with _|_|_|k
    ·rw[<-(show _=qt u from hu)];exact rl _ _ a1
    ·rw[<-(show _=qt u from hu)];exact rl _ _ a2
    ·rw[<-(show _=qt u from hu)];exact rl _ _ a3
    ·simp at hu
   have rm:ca (∀W,S W->g<W.heap.size):=λW d=>by
    rw[<-A] at d;subst d;exact hg
   have rK:aq o.heap.size o wr.drew:=f.drew;have rL:=zH rK;have HY:=zH hy;have HZ:=zH v;clear rx h2 a1 a2 a3 hg rl A hy v f rK;obtain⟨q,hq⟩:=zE (n1==R&&(n2==y2&&n3==y3));have G:=Cf n1 n2 n3 R y2 y3;rw[hq] at G;have sf:=zH G;have HQ:=zH hq;clear G hq;have sk:ac.eqGuardType ac.depth 164=qS:=by kernel_rfl
   go_upto_region 4 with(fail)
   refine ah 5 S (by kernel_rfl) ?_;refine zL 0 rfl 164 ⟨D,0,qu⟩ rB.out cD ?_;(try go_simp);refine zT 1 rfl rm.out ?_;(try go_simp);refine zT 2 rfl rm.out ?_;(try go_simp);refine zT 3 rfl rm.out ?_;(try go_simp);refine zL 4 rfl 164 ⟨g,j*3,qu⟩ rI.out cD ?_;(try go_simp);refine zK rfl λK' hK=> ?_;have G:=sf.out;go_simp;refine hK _ _ ?_;clear hK G;refine⟨by kernel_rfl, ?_⟩;clear rB rI rm se sk;cases q with
   |true=>
    have HM:ca ((n1,n2,n3)∈xs):=by
     have:=HQ.out;simp only[eK,nB] at this;have:=ce HY.out
     rename_i e
     rw[e.1,e.2.1,e.2.2];exact this
    go_wp2;go_ret;exact⟨_,rfl,⟨λ_=>HM.out,λ_=>by omega⟩,K.out.trans (rL.out.mono K.out.size)⟩
   |false=>
    have HN:ca ((n1,n2,n3)∉xs.take (j+1)):=by
     unfold ca;rw[lP,HY.out];intro h;rcases cC.1 h with h|h
     ·exact HZ.out h
     ·have e:((n1,n2,n3):Nd)=(R,y2,y3):=by simpa using h
      have:=HQ.out;simp only[lz] at e;rw[e.1,e.2.1,e.2.2] at this;simp at this
    go_wp2;go_roundw
    case rel=>exact⟨j+1,by omega,by go_num,HN.out,rL.out⟩
    case measure=>simp[intOf];omega
  ·have sn:j=xs.length:=by omega
   subst sn;rw[cT] at v;have HM:=zH v;have sq:=zH f;clear v f;go_wp2;go_ret;exact⟨_,rfl,⟨λh=>fL h (by omega),λh=>fL h HM.out⟩,K.out.trans (sq.out.mono K.out.size)⟩
theorem lL (w:World){B:cd}(c:cd)(f:du oA)(xs:bm Nd)(n1 n2 n3:cj)(R:xs.length<=500000000)(h:w.ownsRow B 164 3 (ra f xs.length c) xs.length (xs.flatMap lQ)):
  zP 153 #[ra f xs.length c,rh #[Z U n1,Z U n2,Z U n3]] w (re (decide ((n1,n2,n3)∈xs))):=by
 obtain⟨D,o⟩:=zE w.heap.size;obtain⟨u,d⟩:=zE (w.alloc (rj #[Z U n1,Z U n2,Z U n3] 164));have q:=iF d;have v:u.heap[D]?=qt (rj #[Z U n1,Z U n2,Z U n3] 164 (0,0)):=by rw[<-d,<-o];exact alloc_at _ _
 have y:=ae h (Ext.of_below_size (M:=λ_=>jp) q) (λ_ _ h=>h);have HI:=zH (oF u c f xs n1 n2 n3 R y);have rl:=zH v;have A:=zH q;have G:=zH d;have HD:=zH o;clear h q v y d o;go_enter func153,ntmps153
 go_wp2_with (first
  |(refine bo rfl 164 _ rfl D rfl 164 #[Z U n1,Z U n2,Z U n3] (0,0) _ (by rw[G.out];exact rl.out) cD rfl (by kernel_rfl) ?_)
  |(rw[G.out];go_at_call 199;refine HI.out.mono ?_;rintro e w2 ⟨k,rfl,J,K⟩;have rm:=zH J;have rn:=zH K;clear J K))
 go_ret;have hd:decide (0<=k)=decide ((n1,n2,n3)∈xs):=decide_eq_decide.2 rm.out;rw[hd];exact⟨rfl,A.out.trans (rn.out.mono A.out.size)⟩
section
open Go.RowKit Go.Maps
section
variable {T HM FM GM:cd}{m:Mo}{B:cd}{tg:cd->PT}{s:vM}{p:PS}{w W':World}
theorem Dc (s:PS)(n d:Nd)(b:Nd):({s with FL:=s.FL++[(n,b)]}:PS).fl d=if d=n then s.fl d++[b] else s.fl d:=by
 unfold PS.fl
 show((s.FL++[(n,b)]).filter λe=>decide (e.1=d)).map mA=_
 rw[List.filter_append,eS]
 by_cases e:d=n
 ·subst e
  rw[cI rfl];simp
 ·rw[cw e]
  have:¬n=d:=λq=>e q.symm;simp[this]
open Classical in
theorem Pm.flowed {n:Nd}{b:Nd}{A D:du oA}{cap c G:cd}(h:Pm T HM FM GM m B tg s p w)(hn:fV n)(rx:s.fv n= ra A (p.fl n).length cap)
  (o:Ext (λq=>q=FM\/(bx A (p.fl n).length cap).ownBlock=qt q) w W')(rn:dL fV jE (ra qu 0 0) W' FM c (xk s.fv n (ra D ((p.fl n).length+1) G)))
  (rl:W'.ownsRow B 164 3 (ra D ((p.fl n).length+1) G) ((p.fl n).length+1) ((p.fl n).flatMap lQ++lQ b))
  (rm:∀q,(bx D ((p.fl n).length+1) G).ownBlock=qt q->(bx A (p.fl n).length cap).ownBlock=qt q\/w.heap.size<=q):
  bn ZF T HM FM GM m B tg {p with FL:=p.FL++[(n,b)]} w W':=by
 have R:∀q,(bx A (p.fl n).length cap).ownBlock=qt q->tg q= .fl n:=λq hq=>by
  obtain⟨a,c,e,_,ht⟩:=h.fs n hn;rw[rx] at ht;exact ht q hq
 obtain⟨d,rr⟩:=zE (bx D ((p.fl n).length+1) G);rw[rr] at rn rl rm;have u:∀k,tg k≠ .no->(λk=>if d.ownBlock=qt k then PT.fl n else tg k) k=tg k:=λk f=>by
  show(if d.ownBlock=qt k then PT.fl n else tg k)=tg k
  by_cases e:d.ownBlock=qt k
  ·rw[cI e]
   rcases rm k e with q|q
   ·exact(R k q).symm
   ·have:=(h.lo k f).2
    omega
  ·rw[cw e]
 have v:∀{k:cd}{t:PT},tg k=t->t≠ .mf->t≠ .fl n->¬(k=FM\/(bx A (p.fl n).length cap).ownBlock=qt k):=λh1 q1 q2 e=>by
  rcases e with e|e
  ·exact q1 (by rw[<-h1,e,h.t3])
  ·exact q2 (by rw[<-h1];exact R _ e)
 have hB:=h.base;refine⟨λk=>if d.ownBlock=qt k then .fl n else tg k,{s with fv:=xk s.fv n d},⟨o.heap h.row (v h.t1 (by simp) (by simp)),h.hm.imp λ_ q=>q.ext o (v h.t2 (by simp) (by simp)),⟨c,rn⟩,h.gm.imp λ_ q=>q.ext o (v h.t4 (by simp) (by simp)),
  ae h.srow o (λj J=>v (h.t5 j J) (by simp) (by simp)),ae h.trow o (λj J=>v (h.t6 j J) (by simp) (by simp)),λy K=>((h.hs y K).ext o (λk e q=>v q (by simp) (by simp) e)).tag u,
  λy K=> ?_,λy K=>((h.gs y K).ext o (λk e q=>v q (by simp) (by simp) e)).tag (by simp) u,
  (u T (by rw[h.t1];simp)).trans h.t1,(u HM (by rw[h.t2];simp)).trans h.t2,(u FM (by rw[h.t3];simp)).trans h.t3,(u GM (by rw[h.t4];simp)).trans h.t4,
  λk f=>(u k (by rw[h.t5 k f];simp)).trans (h.t5 k f),λk f=>(u k (by rw[h.t6 k f];simp)).trans (h.t6 k f),λk f=> ?_,h.lS,h.lH,h.lT⟩,
  o.mono (λk e=> ?_),λk f=> ?_,u⟩
 ·rw[Dc]
  show qg W' B (λk=>if d.ownBlock=qt k then PT.fl n else tg k) 164 3 (xk s.fv n d y) _ _ (.fl y)
  by_cases e:y=n
  ·subst e
   rw[cI rfl,iy,el,me,co,fR];exact⟨D,G,rr.symm,rl,λj J=>cI J⟩
  ·rw[cw e,ko e]
   exact((h.fs y K).ext o (λk q1 q=>v q (by simp) (by simpa using e) q1)).tag (by simp) u
 ·by_cases e:d.ownBlock=qt k
  ·exact rl.lt k e
  ·have rv:tg k≠ .no:=λq=>f (by show(if d.ownBlock=qt k then PT.fl n else tg k)=_;rw[cw e];exact q)
   exact⟨(h.lo k rv).1,cn (h.lo k rv).2 o.size⟩
 ·rcases e with e|e
  ·rw[e,h.t3];simp[ZF]
  ·rw[R k e];simp[ZF]
 ·by_cases e:d.ownBlock=qt k
  ·rcases rm k e with q|q
   ·exact .inl (by rw[R k q];simp)
   ·exact .inr q
  ·exact .inl λq=>f (by show(if d.ownBlock=qt k then PT.fl n else tg k)=_;rw[cw e];exact q)
theorem De (s:PS)(n d:Nd)(b:Th):({s with GL:=s.GL++[(n,b)]}:PS).gl d=if d=n then s.gl d++[b] else s.gl d:=by
 unfold PS.gl
 show((s.GL++[(n,b)]).filter λe=>decide (e.1=d)).map mA=_
 rw[List.filter_append,eS]
 by_cases e:d=n
 ·subst e
  rw[cI rfl];simp
 ·rw[cw e]
  have:¬n=d:=λq=>e q.symm;simp[this]
open Classical in
theorem Pm.gotten {n:Nd}{b:Th}{A D:du oA}{cap c G:cd}(h:Pm T HM FM GM m B tg s p w)(hn:fV n)(rx:s.gv n= ra A (p.gl n).length cap)
  (o:Ext (λq=>q=GM\/(bx A (p.gl n).length cap).ownBlock=qt q) w W')(rn:dL fV jE (ra qu 0 0) W' GM c (xk s.gv n (ra D ((p.gl n).length+1) G)))
  (rl:W'.ownsRow B 213 5 (ra D ((p.gl n).length+1) G) ((p.gl n).length+1) ((p.gl n).flatMap DW++DW b))
  (rm:∀q,(bx D ((p.gl n).length+1) G).ownBlock=qt q->(bx A (p.gl n).length cap).ownBlock=qt q\/w.heap.size<=q):
  bn Z0 T HM FM GM m B tg {p with GL:=p.GL++[(n,b)]} w W':=by
 have R:∀q,(bx A (p.gl n).length cap).ownBlock=qt q->tg q= .gl n:=λq hq=>by
  obtain⟨a,c,e,_,ht⟩:=h.gs n hn;rw[rx] at ht;exact ht q hq
 obtain⟨d,rr⟩:=zE (bx D ((p.gl n).length+1) G);rw[rr] at rn rl rm;have u:∀k,tg k≠ .no->(λk=>if d.ownBlock=qt k then PT.gl n else tg k) k=tg k:=λk f=>by
  show(if d.ownBlock=qt k then PT.gl n else tg k)=tg k
  by_cases e:d.ownBlock=qt k
  ·rw[cI e]
   rcases rm k e with q|q
   ·exact(R k q).symm
   ·have:=(h.lo k f).2
    omega
  ·rw[cw e]
 have v:∀{k:cd}{t:PT},tg k=t->t≠ .mg->t≠ .gl n->¬(k=GM\/(bx A (p.gl n).length cap).ownBlock=qt k):=λh1 q1 q2 e=>by
  rcases e with e|e
  ·exact q1 (by rw[<-h1,e,h.t4])
  ·exact q2 (by rw[<-h1];exact R _ e)
 have hB:=h.base;refine⟨λk=>if d.ownBlock=qt k then .gl n else tg k,{s with gv:=xk s.gv n d},⟨o.heap h.row (v h.t1 (by simp) (by simp)),h.hm.imp λ_ q=>q.ext o (v h.t2 (by simp) (by simp)),h.fm.imp λ_ q=>q.ext o (v h.t3 (by simp) (by simp)),⟨c,rn⟩,
  ae h.srow o (λj J=>v (h.t5 j J) (by simp) (by simp)),ae h.trow o (λj J=>v (h.t6 j J) (by simp) (by simp)),λy K=>((h.hs y K).ext o (λk e q=>v q (by simp) (by simp) e)).tag u,
  λy K=>((h.fs y K).ext o (λk e q=>v q (by simp) (by simp) e)).tag (by simp) u,λy K=> ?_,
  (u T (by rw[h.t1];simp)).trans h.t1,(u HM (by rw[h.t2];simp)).trans h.t2,(u FM (by rw[h.t3];simp)).trans h.t3,(u GM (by rw[h.t4];simp)).trans h.t4,
  λk f=>(u k (by rw[h.t5 k f];simp)).trans (h.t5 k f),λk f=>(u k (by rw[h.t6 k f];simp)).trans (h.t6 k f),λk f=> ?_,h.lS,h.lH,h.lT⟩,
  o.mono (λk e=> ?_),λk f=> ?_,u⟩
 ·rw[De]
  show qg W' B (λk=>if d.ownBlock=qt k then PT.gl n else tg k) 213 5 (xk s.gv n d y) _ _ (.gl y)
  by_cases e:y=n
  ·subst e
   rw[cI rfl,iy,el,me,co,fR];exact⟨D,G,rr.symm,rl,λj J=>cI J⟩
  ·rw[cw e,ko e]
   exact((h.gs y K).ext o (λk q1 q=>v q (by simp) (by simpa using e) q1)).tag (by simp) u
 ·by_cases e:d.ownBlock=qt k
  ·exact rl.lt k e
  ·have rv:tg k≠ .no:=λq=>f (by show(if d.ownBlock=qt k then PT.gl n else tg k)=_;rw[cw e];exact q)
   exact⟨(h.lo k rv).1,cn (h.lo k rv).2 o.size⟩
 ·rcases e with e|e
  ·rw[e,h.t4];simp[Z0]
  ·rw[R k e];simp[Z0]
 ·by_cases e:d.ownBlock=qt k
  ·rcases rm k e with q|q
   ·exact .inl (by rw[R k q];simp)
   ·exact .inr q
  ·exact .inl λq=>f (by show(if d.ownBlock=qt k then PT.gl n else tg k)=_;rw[cw e];exact q)
end
end
section
variable {P:i8}{ops:cG ij}{Q:Exit->Act->World->Prop}{md:fy}{S:World->Prop}
def fP (P:i8)(md:fy)(ops:cG ij)(Q:Exit->Act->World->Prop)(S:World->Prop):cd->cG Bool->Act->World->Prop
 |0,listed,a,w=>cN md ops listed=[]/\Q .normal a w
 |fuel+1,listed,a,w=>
  (cN md ops listed=[]->Q .normal a w)/\
  ∀i∈cN md ops listed,wpOp P ops Q i (λd w'=>S w'/\fP P md ops Q S fuel (listed.setIfInBounds i qv) d w') a w
theorem qi:∀(fuel:cd)(listed:cG Bool)(a:Act)(w:World),fP P md ops Q S fuel listed a w->wpAny P md ops Q fuel listed a w
 |0,_,_,_,h=>h
 |fuel+1,_,_,_,h=>⟨h.1,λi d=>wpOp_mono (λf w' o=>qi fuel _ f w' o.2) (h.2 i d)⟩
theorem jG {i:cd}{f:ij}{v:bw}(R:ops[i]?=qt f)(rl:∀(j:cd)(o:ij) y b,ops[j]?=qt o->o.op≠ .select y b)
  (hQ:∀c a w,Q (.panic c) (a.put f.dst v) w->Q (.panic c) a w):
  ∀(fuel:cd)(listed:cG Bool)(a:Act)(w:World),
   (∀j q,ops[j]?=qt q->j≠i->listed.getD j qv=qS->(∀e∈q.after,ev md e=qv->e.on≠i)->f.apart ops q=qv)->
   i∈cN md ops listed->listed[i]?=qt qS->YieldsIf P ops S f v a->S w->
   fP P md ops Q S fuel (listed.setIfInBounds i qv) (a.put f.dst v) w->fP P md ops Q S (fuel+1) listed a w:=by
 intro fuel
 induction fuel with
 |zero=>
  intro listed a w _ u _ G A H;refine⟨λh=>(by rw[h] at u;cases u),λj D=> ?_⟩
  by_cases d:j=i
  ·subst d;exact G.wpOp R A ⟨A,H⟩
  ·have:=lp D d
   rw[H.1] at this;cases this
 |succ fuel ih=>
  intro listed a w rm u rn G A H;refine⟨λh=>(by rw[h] at u;cases u),λj D=> ?_⟩
  by_cases d:j=i
  ·subst d;exact G.wpOp R A ⟨A,H⟩
  ·have h1:=H.2 j (lp D d)
   obtain⟨rr,q,J,rS⟩:=mem_ready.1 D;have rB:∀e∈q.after,ev md e=qv->e.on≠i:=λe he hb rI=>gT rn J he hb rI D;have h2:=wpOp_putIf J (rm j q J d rr rB) (λy b=>rl i f y b R) (λy b=>rl j q y b J) hQ G h1;have rK:∀k ok,ops[k]?=qt ok->k≠i->(listed.setIfInBounds j qv).getD k qv=qS->
     (∀e∈ok.after,ev md e=qv->e.on≠i)->f.apart ops ok=qv:=λk ok hk rL rv rN=>by
    refine rm k ok hk rL ?_ rN
    by_cases rx:j=k
    ·subst rx;exact rr
    ·rw[getD_set_ne qv rx] at rv;exact rv
   refine wpOp_mono (λa' w' K=>⟨K.2.1,ih (listed.setIfInBounds j qv) a' w' rK (lp u (Ne.symm d)) (by rw[gO d];exact rn) K.1 K.2.1 ?_⟩) h2;rw[mC _ _ d];exact K.2.2
theorem yT {C:World->Prop}(i:cd){d:ij}{v:bw}{fuel:cd}{listed:cG Bool}{a:Act}{w:World}(f:ops[i]?=qt d)
  (hC:∀w,S w->C w)
  (h:fP P md ops Q S fuel (listed.setIfInBounds i qv) (a.put d.dst v) w)
  (q:∀w,C w->(execOp a.eval d).run P w= .ok (.value v) w:=by intro w o;go_simp;try rfl)
  (o:dt d (im ops a.tmps)=qv:=by rfl)
  (u:ei ops=qv:=by kernel_rfl)(y:ia md ops listed i=qv:=by kernel_rfl)(A:(cN md ops listed).contains i=qv:=by kernel_rfl)(D:listed[i]?=qt qS:=by kernel_rfl)
  (G:∀c a w,Q (.panic c) (a.put d.dst v) w->Q (.panic c) a w:=by exact λ_ _ _ h=>h)(J:S w:=by assumption):fP P md ops Q S (fuel+1) listed a w:=
 jG f (hU u) G fuel listed a w (kf f y) (by simpa using A) D (.inl ⟨o,λw h=>q w (hC w h)⟩) J h
theorem yL (i:cd){f:ij}{fuel:cd}{listed:cG Bool}{a:Act}{w:World}(y:ops[i]?=qt f)(q:ge){x:Operand}(v:oA){o:cG bw}{d:TypeDesc}
  (A:∀w,S w->∀j u,o.toList[j]?=qt u->w.cell? (v.add j)=qt u)(D:P.underlying q=qt d)
  (h:fP P md ops Q S fuel (listed.setIfInBounds i qv) (a.put f.dst (rh o)) w)
  (G:f.op= .load q x:=by rfl)(J:a.eval x= rb (qt v):=by rfl)
  (K:(match d with| .struct _| .array _ _=>qv|_=>qS)=qv:=by rfl)(R:(P.info? q).map (·.size)=qt o.size:=by kernel_rfl)
  (hw:dt f (im ops a.tmps)=qv:=by rfl)
  (hs:ei ops=qv:=by kernel_rfl)(hf:ia md ops listed i=qv:=by kernel_rfl)(hr:(cN md ops listed).contains i=qv:=by kernel_rfl)(hl:listed[i]?=qt qS:=by kernel_rfl)
  (hQ:∀c a w,Q (.panic c) (a.put f.dst (rh o)) w->Q (.panic c) a w:=by exact λ_ _ _ h=>h)(hS:S w:=by assumption):fP P md ops Q S (fuel+1) listed a w:=
 jG y (hU hs) hQ fuel listed a w (kf y hf) (by simpa using hr) hl (nL hw q x G v J o d A D K R) hS h
theorem yO (i:cd){o:ij}{fuel:cd}{listed:cG Bool}{a:Act}{w:World}(u:ops[i]?=qt o)
  (h:∀d:Act->World->Prop,(∀a w,S w->fP P md ops Q S fuel (listed.setIfInBounds i qv) a w->d a w)->km P o a w d Q)
  (v:dt o (im ops a.tmps)=qv:=by rfl)(f:cN md ops listed=[i]:=by kernel_rfl):
  fP P md ops Q S (fuel+1) listed a w:=by
 refine⟨λh0=>(by rw[f] at h0;cases h0),λj q=> ?_⟩;rw[f] at q;obtain rfl:=cA.1 q;exact wpOp_step u (λd y=>by rw[cI v];exact h d (λa w A D=>y a w ⟨A,D⟩))
theorem bQ {id:cd}{a:Act}{w:World}(S:World->Prop)(d:P.follows .mixedOrders=qv)
  (h:fP P .any ops Q S ops.size (kB ops.size qS) a w.drew):(pT id ops qv).wp P Q a w:=
 wp_region_any d (qi _ _ _ _ h)
end
section
open Go.RowKit Go.Maps
theorem qj (w:World):(zeroValue 216).run ac w= .ok (ra qu 0 0) w:=by kernel_rfl
theorem ql {S d:bm cj}(f:d.Nodup)(o:∀x∈d,x∈S)(h:∀z∈S,0<=z/\z<=900000):d.length<=1000000:=by
 have:=fO d ((lR 900001).map jt) f λx q=>by
  obtain⟨a,b⟩:=h x (o x q);exact dd.2 ⟨x.toNat,oc.2 (by omega),by simp;omega⟩
 rw[dj,kA] at this;omega
theorem jo (w:World)(D:cd)(v:bw)(S:bm cj)(f:w.heap[D]?=qt (rj #[v] 162 (0,0)))(o:AC w v S)(h:∀z∈S,0<=z/\z<=900000):
  ft ac 122 #[.func (.func 163) #[] #[rb (qt ⟨D,0,qu⟩)]] w (BZ (BU S) w):=
 vF w func163 (by rfl) rfl (yU w D v S f o) (an _ _) (λk u=>by
  rcases u with e|e
  ·rw[e];exact aa f
  ·rcases o with⟨q,_⟩|⟨b,n,q,y⟩
   ·rw[q] at e;cases e
   ·rw[q] at e
    simp only[Value.map.injEq,dc] at e;rw[<-e];exact y.lt) (λxs d=>ql d.1 d.2 h) (λxs d=>ql d.1 (λx A=>(d.2 x).1 A) h)
theorem xq (n:Nd):∀(l:bm cd)(s:PS),(s.addL n l).H.length<=s.H.length+l.length/\(s.addL n l).td.length<=s.td.length+l.length
 |[],s=>⟨bp _,bp _⟩
 |x::l,s=>by
  have ih:=xq n l (s.add n x);have d:(s.add n x).H.length<=s.H.length+1/\(s.add n x).td.length<=s.td.length+1:=by
   unfold PS.add
   split
   ·exact⟨gb _,gb _⟩
   ·simp
  have e:s.addL n (x::l)=(s.add n x).addL n l:=rfl;rw[e,eI];omega
theorem AP (n:Nd)(s:PS){l:bm cd}{j x:cd}(h:l[j]?=qt x):s.addL n (l.take (j+1))=(s.addL n (l.take j)).add n x:=by
 unfold PS.addL;rw[lP,h,Option.toList_some,List.foldl_append];rfl
theorem nG.setV {tg:cd->PT}{w:World}{H:bm (Nd×cd)}{v:bw}{n:Nd}(h:nG w tg H v n)(o:∀n x,(n,x)∈H->x<=900000):∃S,AC w v S/\(∀z:cj,z∈S↔∃x:cd,z=(x:cj)/\(n,x)∈H)/\(∀z∈S,0<=z/\z<=900000)/\∃r,v= .map r:=by
 rcases h with⟨d,q⟩|⟨b,c,S,d,q,A,u,D⟩
 ·exact⟨[],.inl ⟨d,rfl⟩,λz=>⟨λf=>by simp at f,λ⟨x,_,o⟩=>fL o (q x)⟩,λz f=>by simp at f,_,d⟩
 ·exact⟨S,.inr ⟨b,c,d,q⟩,u,λz f=>by
   obtain⟨x,e,y⟩:=(u z).1 f;have:=o n x y;omega,_,d⟩
section
variable {T HM FM GM:cd}{m:Mo}{B:cd}{tg tg1:cd->PT}{s s1:vM}{p p1 p':PS}{w w1 w':World}
theorem Pm.lookF (h:Pm T HM FM GM m B tg s p w){n:Nd}(d:fV n):(fk 144 (.map (qt FM)) (jE n) qS).run ac w= .ok (s.fv n) w:=by
 obtain⟨c,q⟩:=h.fm;exact q.look jF underlying144 (qj w) d
theorem dW (w:World)(h:Pm T HM FM GM m B tg s p w){n1 n2 n3 m1 m2 m3:cj}(hn:fV (n1,n2,n3))(hm:fV (m1,m2,m3))(tp:∀n x,(n,x)∈p.H->x<=900000)(lF:p.FL.length+1<=400000000)(lH:p.H.length+1000000<=400000000)(lT:p.td.length+1000000<=400000000):
  ft ac 119 #[rb (qt ⟨T,0,qu⟩),rh #[Z U n1,Z U n2,Z U n3],rh #[Z U m1,Z U m2,Z U m3]] w λe w'=>e= rk (.tuple #[])/\∃p',BQ (n1,n2,n3) (m1,m2,m3) p p'/\bn ZF T HM FM GM m B tg p' w w':=by
 obtain⟨D,hD⟩:=zE w.heap.size;obtain⟨W1,sf⟩:=zE ((w.alloc (rj #[Z U n1,Z U n2,Z U n3] 164)).alloc (rj #[Z U m1,Z U m2,Z U m3] 164));have vx:=Eu sf;have vy:=vN sf hD;have wa:=xI sf hD;have tr:aq w.heap.size w W1.drew:=vx.drew;have h1:=h.grow tr;have tt:W1.drew.heap[D]?=qt (rj #[Z U n1,Z U n2,Z U n3] 164 (0,0)):=vy;have tv:W1.drew.heap[D+1]?=qt (rj #[Z U m1,Z U m2,Z U m3] 164 (0,0)):=wa;obtain⟨S1,sk⟩:=zE ((λw'=>w'=W1.drew):World->Prop);have A4:S1 W1.drew:=by rw[<-sk]
 have rl:=h1.lookF hn;unfold jE at rl;obtain⟨R,cap,tz,rn,rI⟩:=h1.fs _ hn;rw[tz] at rl rn rI;have DM:(p.fl (n1,n2,n3)).length<=400000000:=by
  unfold PS.fl;rw[dj];exact cE (ke _ _) (by omega)
 have rK:ca (∀W,S1 W->W.cell? ⟨T,4,qu⟩=qt (.map (qt FM))/\T<W.heap.size/\(fk 144 (.map (qt FM)) (rh #[Z U n1,Z U n2,Z U n3]) qS).run ac W= .ok (ra R (p.fl (n1,n2,n3)).length cap) W):=λW d=>by
  rw[<-sk] at d;subst d;exact⟨(rowAt h1.row 4 rfl).1,aa h1.row,rl⟩
 have wb:ca (∀W,S1 W->∀j u,(#[Z U n1,Z U n2,Z U n3]:cG bw).toList[j]?=qt u->W.cell? ((⟨D,0,qu⟩:oA).add j)=qt u):=λW d=>by
  rw[<-sk] at d;subst d;exact aO tt
 have we:ca (∀W,S1 W->∀j u,(#[Z U m1,Z U m2,Z U m3]:cG bw).toList[j]?=qt u->W.cell? ((⟨D+1,0,qu⟩:oA).add j)=qt u):=λW d=>by
  rw[<-sk] at d;subst d;exact aO tv
 have wg:=zH (lL W1.drew cap R (p.fl (n1,n2,n3)) m1 m2 m3 (by omega) rn);have rr:ca (D=w.heap.size):=hD.symm;have H:=zH h;have H1:=zH h1;have tA:=zH tt;have tB:=zH tv;have tD:=zH tr;have wi:=zH sf;have tE:=zH tz;clear h vx vy wa tr h1 tt tv sk rl sf hD tz rn rI;go_enter func119,ntmps119
 go_upto_region 1 with(fail)
 (try rw[rr.symm.out]);(try rw[<-rr.out]);rw[wi.out];refine ah 7 S1 (by kernel_rfl) ?_;refine zT 0 rfl rK.out ?_;(try go_simp);refine zT 1 rfl rK.out ?_;(try go_simp);refine zT 2 rfl rK.out ?_;(try go_simp);refine zT 3 rfl rK.out ?_;(try go_simp);refine zL 4 rfl 164 ⟨D,0,qu⟩ wb.out cD ?_;(try go_simp);refine zT 5 rfl rK.out ?_;(try go_simp);refine zL 6 rfl 164 ⟨D+1,0,qu⟩ we.out cD ?_;(try go_simp);refine zK rfl λK' f=> ?_;go_simp;go_at_call 153;refine wg.out.mono ?_;rintro e o ⟨rfl,sR⟩;refine f _ _ ?_;clear f;refine⟨by kernel_rfl, ?_⟩;obtain⟨DO,A5⟩:=zE o;have tG:aq w.heap.size w o:=tD.out.trans (sR.mono tD.out.size);have h2:=H.out.grow tG;have wj:=(sR.block D (aa tA.out)).trans tA.out;have sn:=(sR.block (D+1) (aa tB.out)).trans tB.out;have sq:=zH tG;have H2:=zH h2;have tM:=zH wj;have sT:=zH sn;clear A5 sR tG h2 wj sn rK wb we wg A4 H1 tA tB tD wi
 by_cases rL:((m1,m2,m3):Nd)∈p.fl (n1,n2,n3)
 ·rw[dy rL]
  have A6:ca ((((n1,n2,n3):Nd),((m1,m2,m3):Nd))∈p.FL):=p9.1 rL;clear rL;go_wp2;(try simp only[cL,Exit.then]);refine da (eR rfl _ _ _) rfl ?_;exact⟨rfl,p,.inl ⟨A6.out,rfl⟩,H.out.same sq.out⟩
 ·rw[cv rL]
  have Bk:ca ((((n1,n2,n3):Nd),((m1,m2,m3):Nd))∉p.FL):=λq=>rL (p9.2 q);clear rL
  go_upto_region 2 with(fail)
  obtain⟨i0,wk,wl,wn,ws⟩:=ld yY;obtain⟨sX,sY⟩:=zE (zC m HM FM GM s p.St.length p.td.length);have tP:o.heap[T]?=qt (rj sX 148 (0,0)):=by rw[<-sY];exact H2.out.row
  have wx:sX[4]?=qt (.map (qt FM)):=by rw[<-sY];rfl
  obtain⟨S2,sr⟩:=zE ((λw'=>w'.heap[T]?=qt (rj sX 148 (0,0))/\w'.heap[D]?=qt (rj #[Z U n1,Z U n2,Z U n3] 164 (0,0))/\w'.heap[D+1]?=qt (rj #[Z U m1,Z U m2,Z U m3] 164 (0,0))):World->Prop);have sx:ca (∀W,W.heap[T]?=qt (rj sX 148 (0,0))->W.heap[D]?=qt (rj #[Z U n1,Z U n2,Z U n3] 164 (0,0))->W.heap[D+1]?=qt (rj #[Z U m1,Z U m2,Z U m3] 164 (0,0))->S2 W):=λW a b c=>by rw[<-sr];exact⟨a,b,c⟩
  have rv:ca (∀w,S2 w->w.cell? ⟨T,4,qu⟩=qt (.map (qt FM))/\T<w.heap.size):=λw hw=>by rw[<-sr] at hw;exact⟨(rowAt hw.1 4 wx).1,aa hw.1⟩
  have xf:ca (∀W,S2 W->∀j u,(#[Z U n1,Z U n2,Z U n3]:cG bw).toList[j]?=qt u->W.cell? ((⟨D,0,qu⟩:oA).add j)=qt u):=λW d=>by
   rw[<-sr] at d;exact aO d.2.1
  have xj:ca (∀W,S2 W->∀j u,(#[Z U m1,Z U m2,Z U m3]:cG bw).toList[j]?=qt u->W.cell? ((⟨D+1,0,qu⟩:oA).add j)=qt u):=λW d=>by
   rw[<-sr] at d;exact aO d.2.2
  have Bm:S2 o.drew:=sx.out _ tP tM.out sT.out;have tR:=zH tP;have By:=zH sY;clear sr tP wx sY;refine ah 11 S2 (by kernel_rfl) ?_;refine zT 0 rfl rv.out ?_;(try go_simp);refine zT 1 rfl rv.out ?_;(try go_simp);refine zT 2 rfl rv.out ?_;(try go_simp);refine zT 3 rfl rv.out ?_;(try go_simp);refine zL 4 rfl 164 ⟨D,0,qu⟩ xf.out cD ?_;(try go_simp);refine zL 5 rfl 164 ⟨D+1,0,qu⟩ xj.out cD ?_;(try go_simp);refine zO 6 rfl λK' f=> ?_;go_simp;obtain⟨G,hG⟩:=zE o.heap.size;obtain⟨W8,te⟩:=zE ((o.alloc (rj #[Z U m1,Z U m2,Z U m3] 164)).drew);(try rw[hG]);(try rw[te]);have rN:aq o.heap.size o W8:=by rw[<-te];exact((an _ _).alloc (bp _) _).drew
  have xl:W8.heap[G]?=qt (rj #[Z U m1,Z U m2,Z U m3] 164 (0,0)):=by rw[<-te,<-hG];exact alloc_at _ _
  have tS:=(rN.block T (aa tR.out)).trans tR.out;have tU:=(rN.block D (aa tM.out)).trans tM.out;have tW:=(rN.block (D+1) (aa sT.out)).trans sT.out;have tf:aq w.heap.size w W8:=sq.out.trans (rN.mono sq.out.size);have h8:=H.out.grow tf;refine f _ _ (sx.out _ tS tU tW) ?_;clear f;(try go_simp);refine zO 7 rfl λK' f=> ?_;obtain⟨c0,q0⟩:=h8.fm;obtain⟨W9,st,th,K,ua,xo⟩:=q0.entry jF underlying144 (qj W8) hn;unfold jE at th;rw[tE.out] at th;go_simp;(try simp only[th]);(try go_simp);have BE:FM<D:=by have:=(H.out.lo FM (by rw[H.out.t3];simp)).2;rw[rr.out];exact this
  have xp:¬T=FM:=λe=>by have:=H.out.t1;rw[e,H.out.t3] at this;simp at this
  obtain⟨BT,BY,xr,rn,rI⟩:=H.out.fs _ hn;rw[tE.out] at xr rn rI;clear xr BT BY;have rx:∀q,(bx R (p.fl (n1,n2,n3)).length cap).ownBlock=qt q->q≠T/\q≠FM/\q<D:=λq A=>by
   have a:=rI q A;refine⟨λe=> ?_,λe=> ?_, ?_⟩
   ·rw[e,H.out.t1] at a;simp at a
   ·rw[e,H.out.t3] at a;simp at a
   ·rw[rr.out];exact(H.out.lo q (by rw[a];simp)).2
  have ub:=K.heap tS xp;have uc:=K.heap tU (λe=>by omega);have ud:=K.heap tW (λe=>by omega);have xt:=ae rn (Ext.of_below_size (M:=λ_=>jp) tf) (λ_ _ h=>h);have xF:=ae xt K (λq A e=>(rx q A).2.1 e);have xT:=K.heap xl (λe=>by have:=sq.out.size;have:=rr.out;omega);have ya:S2 W9:=sx.out _ ub uc ud;refine f _ _ ya ?_;clear f;(try go_simp);refine zT 8 rfl rv.out ?_;(try go_simp);refine zT 10 rfl rv.out ?_;(try go_simp);refine zO 9 rfl λK' f=> ?_;have yb:B<=W9.heap.size:=cE H.out.base (cE tf.size K.size);have yd:(p.fl (n1,n2,n3)).length+1<=dl:=by unfold dl;omega
  refine aB (.tmp 21) (.tmp 23) 216 rfl B 164 i0 _ 3 24 underlying216 wk wl wn ws rfl (by decide) (ra R (p.fl (n1,n2,n3)).length cap) (p.fl (n1,n2,n3)).length ((p.fl (n1,n2,n3)).flatMap lQ) rfl xF (qt ⟨G,0,qu⟩) 1 1 [Z U m1,Z U m2,Z U m3] rfl rfl (λh=>by cases h) (λad B4 j u hu=>by
   obtain rfl:(⟨G,0,qu⟩:oA)=ad:=by simpa using B4
   rw[cM,cH,bh _ _ _ _ _ _ xT];simpa using hu) (by simp[br]) yd (by omega) yb ?_
  intro DP ye ue yi ur;obtain⟨yk,c9,B5⟩:=av ue;subst B5;have rS:Ext (λq=>(bx R (p.fl (n1,n2,n3)).length cap).ownBlock=qt q) W9 ye:=Ext.of_grown yi (λq A=> .inl A);have yp:=rS.heap ub (λe=>(rx _ e).1 rfl);have uv:=rS.heap uc (λe=>Nat.lt_irrefl _ (rx _ e).2.2);have ux:=rS.heap ud (λe=>by have:=(rx _ e).2.2;omega);refine f _ _ (sx.out _ yp uv ux) ?_;clear f;(try go_simp);refine zK rfl λK' f=> ?_;obtain⟨J,yq,yr,sy⟩:=xo ye (ra yk ((p.fl (n1,n2,n3)).length+1) c9) (rS.block FM ua.lt (λe=>(rx _ e).2.1 rfl));go_simp;(try simp only[yq]);(try go_simp);refine f _ _ ?_;clear f yq th xo;refine⟨by kernel_rfl, ?_⟩;have yv:=sy.heap uv (λe=>by omega);have yy:=sy.heap ux (λe=>by omega);have va:Ext (λq=>q=FM\/(bx R (p.fl (n1,n2,n3)).length cap).ownBlock=qt q) o W9:=Ext.trans (Ext.of_below_size (M:=λq=>q=FM\/(bx R (p.fl (n1,n2,n3)).length cap).ownBlock=qt q) rN) (K.mono (λq e=> .inl e)) (λq e=> .inl e);have vc:Ext (λq=>q=FM\/(bx R (p.fl (n1,n2,n3)).length cap).ownBlock=qt q) o J:=(va.trans (rS.mono (λq e=> .inr e)) (λq e=> .inl e)).trans (sy.mono (λq e=> .inl e)) (λq e=> .inl e);have yW:∀q,(bx yk ((p.fl (n1,n2,n3)).length+1) c9).ownBlock=qt q->(bx R (p.fl (n1,n2,n3)).length cap).ownBlock=qt q\/o.heap.size<=q:=λq A=>by
   rcases ur q A with a|a
   ·exact .inl a
   ·exact .inr (cE va.size a)
  have zc:=ae ue sy (λq A e=>by
   rcases ur q A with a|a
   ·exact(rx q a).2.1 e
   ·have:=ua.lt
    omega)
  have zd:=zH (H2.out.flowed (b:=(m1,m2,m3)) hn tE.out vc yr zc yW);have zj:=zH yv;have zp:=zH yy;have B6:=zH vc;clear ya yv yy vc va yW zc ue sy yr yp uv ux rS yi ur yd yb xT xF xt ub uc ud rx rn rI K ua q0 h8 tf tS tU tW xl rN te hG Bm xj xf rv sx tR By i0 wk wl wn ws;obtain⟨tg1,s1,sB,zr,t12⟩:=zd.out;have vd:D+1<o.heap.size:=aa sT.out;have vf:∀k,w.heap.size<=k->k<o.heap.size->tg1 k= .no:=λk DQ DS=>eq λe=>by
   rcases t12.1 k e with q|q
   ·have:=(H.out.lo k q).2
    omega
   ·omega
  have B7:tg1 D= .no:=vf D (by rw[rr.out];exact bp _) (by omega);have zv:tg1 (D+1)= .no:=vf (D+1) (by have:=rr.out;omega) vd;obtain⟨S,vh,An,As,r0,vi⟩:=(sB.hs _ hn).setV tp;have rl:=sB.look hn;unfold jE at rl;obtain⟨v,hv⟩:=zE (s1.hv (n1,n2,n3));rw[hv] at rl vh vi;obtain⟨S3,ti⟩:=zE ((λw'=>aq J.heap.size J w'):World->Prop);have tj:ca (∀W,aq J.heap.size J W->S3 W):=λW h=>by rw[<-ti];exact h
  have B8:S3 J.drew:=tj.out _ (an _ _).drew;have rm:ca (∀W,S3 W->W.cell? ⟨T,3,qu⟩=qt (.map (qt HM))/\T<W.heap.size/\(fk 143 (.map (qt HM)) (rh #[Z U n1,Z U n2,Z U n3]) qS).run ac W= .ok v W):=λW d=>by
   rw[<-ti] at d;have hg:=sB.grow d;refine⟨(rowAt hg.row 3 rfl).1,aa hg.row, ?_⟩;have:=hg.look hn;rw[hv] at this;exact this
  have At:ca (∀W,S3 W->∀j u,(#[Z U n1,Z U n2,Z U n3]:cG bw).toList[j]?=qt u->W.cell? ((⟨D,0,qu⟩:oA).add j)=qt u):=λW d=>by
   rw[<-ti] at d;exact aO ((d.block D (aa zj.out)).trans zj.out)
  have Ax:=zH sB;have B9:=zH zr;have Cd:=zH t12;have Cl:=zH vh;have Cp:=zH An;have vj:=zH As;have CA:=zH vi;have D0:=zH vd;have CC:=zH zv;have AD:=hm;clear sB zr t12 vh An As vi vd zv vf B7 ti rl hv hm xp BE zd B6
  go_upto_region 3 with(fail)
  refine bQ S3 (by kernel_rfl) ?_;refine yT 0 rfl rm.out ?_;(try go_simp);refine yT 1 rfl rm.out ?_;(try go_simp);refine yT 2 rfl rm.out ?_;(try go_simp);refine yT 3 rfl rm.out ?_;(try go_simp);refine yL 4 rfl 164 ⟨D,0,qu⟩ At.out cD ?_;(try go_simp);refine yT 5 rfl rm.out ?_;(try go_simp);refine yT 9 rfl rm.out ?_;(try go_simp);refine yO 6 rfl λK' f=> ?_;go_simp;have AE:=zH (kr J.drew v ⟨r0,CA.out⟩);go_at_call 123;refine AE.out.mono ?_;rintro e tl ⟨rfl,vm⟩;have se:aq J.heap.size J tl:=by
   rw[<-vm];exact(an _ _).drew.alloc (bp _) _
  have vn:tl.heap[J.drew.heap.size]?=qt (rj #[v] 162 (0,0)):=by rw[<-vm];exact alloc_at _ _
  obtain⟨Q,hQ⟩:=zE J.drew.heap.size;rw[hQ] at vn⊢;have AF:=jo tl Q v S vn (Cl.out.below se) vj.out;refine f _ _ (tj.out _ se) ?_;clear f;(try go_simp);refine yO 7 rfl λK' f=> ?_;go_simp;go_at_call 122;refine AF.mono ?_;rintro e rB ⟨xs,ax,cx,AG,rfl,AH,AI⟩;have vp:aq J.heap.size J rB:=se.trans (AI.mono se.size);have AK:S3 rB:=tj.out _ vp;refine f _ _ AK ?_;clear f AF;(try go_simp);refine yT 8 rfl rm.out ?_;(try go_simp);refine⟨by kernel_rfl, ?_⟩;have sE:=zH AG;have sL:=zH AH;have vq:=zH vp;have CD:=se.size;clear AG AH AI se vn vm vp AK AE rm At tj B8 hQ;have AM:(eu xs).length=xs.length:=by unfold eu;rw[mu]
  obtain⟨l,hl⟩:∃l:bm cd,eu xs=l.map jt:=⟨(eu xs).map Int.toNat,by
   rw[List.map_map]
   conv=>lhs;rw[<-List.map_id (eu xs)]
   refine List.map_congr_left λz hz=> ?_;have CH:z∈xs:=by unfold eu at hz;exact mj.1 hz
   have:=vj.out z ((sE.out.2 z).1 CH);simp;omega⟩
  have vr:l.length=xs.length:=by rw[<-AM,hl,dj]
  have AN:∀x,x∈l↔(((n1,n2,n3):Nd),x)∈p.H:=λx=>by
   have h1:x∈l↔(x:cj)∈eu xs:=by
    rw[hl,dd];exact⟨λh=>⟨x,h,rfl⟩,λ⟨y,hy,e⟩=>by rw[<-nl.1 e];exact hy⟩
   have h2:(x:cj)∈eu xs↔(x:cj)∈xs:=by unfold eu;exact mj
   rw[h1,h2,sE.out.2,Cp.out];exact⟨λ⟨y,e,hy⟩=>by rw[nl.1 e];exact hy,λh=>⟨x,rfl,h⟩⟩
  have CM:xs.length<=1000000:=ql sE.out.1 (λx A=>(sE.out.2 x).1 A) vj.out;rw[hl] at sL;rw[<-vr] at CM⊢;have vt:Pm T HM FM GM m B tg1 s1 {p with FL:=p.FL++[((n1,n2,n3),(m1,m2,m3))]} rB:=Ax.out.grow vq.out;rw[<-vr] at sL;have AS:=qh (show rB.ownsRow tl.heap.size 3 1 (ra ax l.length cx) l.length ((l.map jt).map (eC .i64)) by
   have:=sL.out;unfold aZ at this;rw[dj] at this;exact this)
  have vu:=sL.out;unfold aZ at vu;have AT:∀q,(bx ax l.length cx).ownBlock=qt q->tg1 q= .no:=λq A=>eq λe=>by
   have a:=(vu.lt q A).1;have b:=(Ax.out.lo q e).2;have c:=CD;omega
  obtain⟨P1,tm⟩:=zE ({p with FL:=p.FL++[((n1,n2,n3),(m1,m2,m3))]}:PS);have AW:ca (P1.H=p.H/\P1.td=p.td):=by rw[<-tm];exact⟨rfl,rfl⟩
  have CN:=zH tm;rw[tm] at vt;have CT:=zH vt;have C3:=zH AT;have C4:=zH AS;have A0:=zH AN;have C5:=zH tp;have C6:=zH AD;have A1:=(vq.out.block (D+1) (aa zp.out)).trans zp.out;have C7:=zH A1;have Dd:xs.length=xs.length:=rfl;clear AS vu AT tm vt AN tp A1 hl AM vr Dd sL sE AD
  go_wp2_with fail
  go_loopw [36] (λc wr=>∃j:cd,j<=l.length/\c= Z U (j:cj)/\bn ZF T HM FM GM m B tg1 (P1.addL (m1,m2,m3) (l.take j)) rB wr) (λc _=>l.length-(intOf c).toNat)
  case atStart=>exact⟨0,cJ _,rfl,CT.out.same (an _ _)⟩
  case round=>
   obtain⟨j,hj,rfl,tn⟩:=hrel
   by_cases Dg:j<l.length
   ·have D1:(j:cj)<(l.length:cj):=by omega
    obtain⟨x,hx⟩:∃x,l[j]?=qt x:=⟨_,am Dg⟩
    obtain⟨D2,s2,hP,hE,hT⟩:=tn;obtain⟨g,rfl,hg,hc⟩:∃g,ax=qt ⟨g,0,qu⟩/\g<rB.heap.size/\∀j u,((l.map jt).map (eC .i64))[j]?=qt u->rB.cell? ⟨g,j,qu⟩=qt u:=by
     rcases C4.out with⟨e,_⟩|q
     ·omega
     ·exact q
    have A2:tg1 g= .no:=C3.out g rfl;have D3:wr.cell? ⟨g,j,qu⟩=qt (Z U (x:cj)):=by
     rw[hE.cell (a:=⟨g,j,qu⟩) hg (λe=>e.1 A2)];exact hc j _ (by rw[jz,jz,hx];rfl)
    have D4:g<wr.heap.size:=cn hg hE.size;have sn:=hE.heap C7.out (λe=>e.1 CC.out);have K:x<=900000:=C5.out _ x ((A0.out x).1 (ce hx));obtain⟨a1,a2⟩:=xq (m1,m2,m3) (l.take j) P1;rw[AW.out.1] at a1;rw[AW.out.2] at a2;rw[m8,pw hj] at a1 a2;have Do:=zH (ku wr hP C6.out (x:=x) (by omega) (by omega) (by omega));have Ds:=zH sn;have HX:=zH hx;have DA:=zH hE;have DB:=zH hT;clear hP hE hT sn hx a1 a2 hc A2 hg K
    go_wp2_with (first
     |(refine bo rfl 164 _ rfl (D+1) rfl 164 #[Z U m1,Z U m2,Z U m3] (0,0) _ Ds.out cD rfl (by kernel_rfl) ?_)
     |(go_at_call 120;refine Do.out.mono ?_;rintro e w2 ⟨rfl,A3⟩;have DE:=zH A3;clear A3))
    go_roundw
    case rel=>exact⟨j+1,by omega,by go_num,by
     rw[AP (m1,m2,m3) P1 HX.out];exact bn.step DA.out DB.out (DE.out.weak λt h=> .inr h)⟩
    case measure=>simp[intOf];omega
   ·have DG:j=l.length:=by omega
    subst DG;rw[cT] at tn;have DH:=zH tn;clear tn;go_wp2
    go_end0
    refine⟨rfl,P1.addL (m1,m2,m3) l,.inr ⟨Bk.out,l,A0.out,by rw[<-CN.out]⟩, ?_⟩;exact bn.below sq.out (bn.step B9.out Cd.out (bn.below vq.out DH.out))
end
end
end Go.Proofs.YtjomgckjhcfbgaaGreat
