/- Walks. -/
import Derived.Test.YtjomgckjhcfbgaaGreatX7
import Derived.Test.YtjomgckjhcfbgaaGreatX10
import Derived.Test.YtjomgckjhcfbgaaGreatX17
set_option maxRecDepth 100000
set_option maxHeartbeats 64000000
set_option linter.all false
namespace Go.Proofs.YtjomgckjhcfbgaaGreat
open Go.RowKit
open Go.Proofs.Tryz renaming prog→ac,underlying164→cD,underlying3→cP,underlying62→pm,underlying67→pn
open _root_.List renaming getElem?_eq_getElem→am,getElem?_eq_some_iff→bl,mem_of_getElem?→ce,length_append→co,mem_append_left→ct,mem_singleton→cA,mem_append→cC,take_length→cT,eq_nil_of_length_eq_zero→cY,mem_map→dd,mem_append_right→de,length_map→dj,flatMap_cons→dp,drop_eq_getElem_cons→dT,flatMap_append→el,mem_flatMap→er,append_assoc→eE,map_append→eS,getElem?_append_right→fi,mem_cons→fW,cons_append→gE,nodup_append→iz,getElem?_map→jz,map_cons→kc,mem_mergeSort→mj,length_mergeSort→mu,pairwise_map→mz,mem_cons_of_mem→m5,length_take→m8,take_append_drop→na,take_succ_cons→nw,drop_length→n8,nodup_cons→oT
open Go.RowKit.Below renaming refl→an
open Go.RowKit renaming Below→aq,Hid→ca
open _root_.Array renaming getElem?_eq_some_iff→bb
open Go renaming cell_of_row→bh,Value→bw,run_storeCells_new→cf,storeCells→cU,wpQuiet_nil→db,maxLen→dl,run_underlying→eJ,Calls→ft,heap_alloc2_old→fN,TypeId→ge,Program→i8,info_parts→ld,Addr→oA
open _root_ renaming List→bm,Nat→cd,Int→cj,decide_eq_false→cv,if_neg→cw,Array→cG,if_pos→cI,Option→du,decide_eq_true→dy,congrArg→eA,beq_false_of_ne→eM,absurd→fL,False→jp,decide_eq_true_eq→js,beq_iff_eq→nB,beq_self_eq_true→oX
open _root_.Nat renaming le_refl→bp,lt_of_lt_of_le→cn,le_trans→cE,zero_add→cH,zero_le→cJ,le_succ→gb,add_zero→kO,min_eq_left→pw
open Go.Value renaming oneCell'→br,ownBlock→eN,string→qT,slice→ra,pointer→rb,bool→re,agg→rh,int→Z
open Go.Addr renaming add_lit→cM
open _root_.Option.some renaming inj→cX
open _root_.Classical renaming byContradiction→eq
open _root_.Bool renaming and_eq_true→eK,or_eq_true→gx,true→qv,false→qS
open Go.Sem renaming run_bind→fc
open Go.Instr renaming lookup→fk
open Go.Op renaming equalIn→fS
open _root_.Option renaming map_eq_some_iff→gw,some→qt,none→qu
open _root_.Int renaming ofNat→jt,ofNat_inj→nl
open Go.Result renaming andThen_ok→lx
open _root_.Prod.mk renaming injEq→lz
open _root_.Prod renaming snd→mA
open Go.IntKind renaming i64→qr,i64→U
open Go.Obj renaming cells→rj
open Go.Ending renaming returned→rk
open Tryz
section
open Go.RowKit Go.Maps
def Dy:vM:=⟨qu,0,qu,0,λ_=> .map qu,λ_=> ra qu 0 0,λ_=> ra qu 0 0⟩
def D8:PS:=⟨[],[],[],[],[]⟩
def Dz (T HM FM GM:cd)(k:cd):PT:=if k=T then .top else if k=HM then .mh else if k=FM then .mf else if k=GM then .mg else .no
theorem Pm.fresh {T HM FM GM:cd}{m:Mo}{B:cd}{w:World}(f:w.heap[T]?=qt (rj (zC m HM FM GM Dy 0 0) 148 (0,0)))
  (o:dL fV jE (.map qu) w HM 0 (λ_=> .map qu))(hF:dL fV jE (ra qu 0 0) w FM 0 (λ_=> ra qu 0 0))(q:dL fV jE (ra qu 0 0) w GM 0 (λ_=> ra qu 0 0))
  (n1:HM≠T)(n2:FM≠T)(n3:GM≠T)(J:FM≠HM)(K:GM≠HM)(R:GM≠FM)(b0:B<=T)(b1:B<=HM)(b2:B<=FM)(b3:B<=GM):
  Pm T HM FM GM m B (Dz T HM FM GM) Dy D8 w:=by
 have u:∀(e:ge)(v:cd)(t:PT),qg w B (Dz T HM FM GM) e v (ra qu 0 0) [] 0 t:=λe v t=>⟨qu,0,rfl,World.ownsRow_nil _ _ _ _,λj hj=>by simp[eN] at hj⟩
 refine⟨f,⟨0,o⟩,⟨0,hF⟩,⟨0,q⟩,World.ownsRow_nil _ _ _ _,World.ownsRow_nil _ _ _ _,λn _=> .inl ⟨rfl,λx h=>by cases h⟩,λn _=>u _ _ _,λn _=>u _ _ _, ?_, ?_, ?_, ?_,
  λk d=>by simp[eN,Dy] at d,λk d=>by simp[eN,Dy] at d,λk d=> ?_,by simp[D8],by simp[D8],by simp[D8]⟩
 ·unfold Dz;rw[cI rfl]
 ·unfold Dz;rw[cw n1,cI rfl]
 ·unfold Dz;rw[cw n2,cw J,cI rfl]
 ·unfold Dz;rw[cw n3,cw K,cw R,cI rfl]
 ·unfold Dz at d
  by_cases y:k=T
  ·rw[y];exact⟨b0,(bb.1 f).1⟩
  rw[cw y] at d
  by_cases A:k=HM
  ·rw[A];exact⟨b1,o.lt⟩
  rw[cw A] at d
  by_cases D:k=FM
  ·rw[D];exact⟨b2,hF.lt⟩
  rw[cw D] at d
  by_cases G:k=GM
  ·rw[G];exact⟨b3,q.lt⟩
  rw[cw G] at d;exact fL rfl d
end
section
open Go.RowKit Go.Maps
structure lh (w:World)(m:Mo):Prop where
 ri:eD w m
 wf:∀g∈m.fs,∀i∈g.c.ins,fI i.d/\fI i.a/\fI i.b/\fI i.f/\(i.op=15->∀y∈i.args,fI y)
 ni:m.xi.length<=400
 nf:m.fs.length<=60
theorem eD.belowP {w w':World}{m:Mo}(h:eD w m)(d:aq w.heap.size w w'):eD w' m:=⟨h.mo.below d,h.sl,h.fl,h.fd,h.vl,h.al⟩
theorem Cj {g:Fn}{w:World}:∀(c:cG bw),c.size=8->(cU ⟨w.heap.size,0,qu⟩ g.c.cells.toList 0).run ac (w.alloc (rj c 38))= .ok () (w.alloc (rj g.c.cells 38)):=λc d=>
 cf (P:=ac) w 38 c g.c.cells (by show _=qt 8;kernel_rfl) d (by simp[nJ.cells,br])
theorem xB {i:Ins}(d:i.ok){w:World}:∀(c:cG bw),c.size=13->(cU ⟨w.heap.size,0,qu⟩ i.cells.toList 0).run ac (w.alloc (rj c 42))= .ok () (w.alloc (rj i.cells 42)):=λc f=>by
 obtain⟨⟨q,cap,h⟩,u,n2,v,o⟩:=d;exact cf (P:=ac) w 42 c i.cells (by show _=qt 13;kernel_rfl) f (by simp[Ins.cells,h,o,br])
theorem kJ {f:cj}{x:XI}:∀{l:bm Ins}{k:cd},x∈dX f k l->x.1=f/\x.2.2∈l/\(k:cj)<=x.2.1/\x.2.1<(k+l.length:cd)
 |[],_,h=>by simp[dX] at h
 |i::r,k,h=>by
  unfold dX at h;rcases fW.1 h with rfl|h
  ·exact⟨rfl,by simp,by simp,by simp;omega⟩
  ·obtain⟨a,b,c,d⟩:=kJ h
   exact⟨a,by simp[b],by omega,by simp at d⊢;omega⟩
theorem qx {x:XI}:∀{l:bm Fn}{f:cd},x∈eZ f l->∃g∈l,(f:cj)<=x.1/\x.1<(f+l.length:cd)/\x.2.2∈g.c.ins/\0<=x.2.1/\x.2.1<(g.c.ins.length:cd)
 |[],_,h=>by simp[eZ] at h
 |g::r,f,h=>by
  unfold eZ at h;rcases cC.1 h with h|h
  ·obtain⟨a,b,c,d⟩:=kJ h
   exact⟨g,by simp,by omega,by simp;omega,b,by omega,by omega⟩
  ·obtain⟨o,a,b,c,d⟩:=qx h
   exact⟨o,by simp[a],by omega,by simp at c⊢;omega,d⟩
theorem xC:∀(a b:bm Fn)(f:cd),∃r,eZ f (a++b)=eZ f a++r
 |[],b,f=>⟨eZ f b,by simp[eZ]⟩
 |x::a,b,f=>by
  obtain⟨r,d⟩:=xC a b (f+1);refine⟨r, ?_⟩;rw[gE];unfold eZ;rw[d,eE]
theorem tN {f:cj}:∀(a b:bm Ins)(k:cd),∃r,dX f k (a++b)=dX f k a++r
 |[],b,k=>⟨dX f k b,by simp[dX]⟩
 |x::a,b,k=>by
  obtain⟨r,d⟩:=tN a b (k+1);exact⟨r,by rw[gE];unfold dX;rw[d];rfl⟩
def Mo.upto (m:Mo)(j k:cd)(g:Fn):bm XI:=eZ 0 (m.fs.take j)++dX (j:cj) 0 (g.c.ins.take k)
theorem AU (m:Mo)(j:cd)(g:Fn):m.upto j 0 g=eZ 0 (m.fs.take j):=by simp[Mo.upto,dX]
theorem tO {m:Mo}{j:cd}{g:Fn}(h:m.fs[j]?=qt g):m.upto j g.c.ins.length g=eZ 0 (m.fs.take (j+1)):=by
 unfold Mo.upto;have d:=(bl.1 h).1;rw[cT,cZ h,nD,cH,m8,pw (by omega)]
theorem nH {m:Mo}{j k:cd}{g:Fn}{i:Ins}(h:g.c.ins[k]?=qt i):m.upto j (k+1) g=m.upto j k g++[((j:cj),(k:cj),i)]:=by
 unfold Mo.upto;have d:=(bl.1 h).1;rw[cZ h,pY,cH,m8,pw (by omega),eE]
theorem qy {m:Mo}{j k:cd}{g:Fn}(h:m.fs[j]?=qt g):∃r,m.xi=m.upto j k g++r:=by
 obtain⟨q,d⟩:=xC (m.fs.take (j+1)) (m.fs.drop (j+1)) 0;rw[na,<-tO h] at d;obtain⟨u,o⟩:=tN (f:=(j:cj)) (g.c.ins.take k) (g.c.ins.drop k) 0;rw[na] at o;refine⟨u++q, ?_⟩;unfold Mo.xi;rw[d];unfold Mo.upto;rw[cT,o];simp[eE]
theorem lh.okXs {w:World}{m:Mo}(h:lh w m):∀x∈m.xi,zG x:=λx o=>by
 obtain⟨g,d,y,A,f,D,G⟩:=qx o;obtain⟨w1,w2,q,u,v⟩:=h.wf g d _ f;have J:=h.nf;have:g.c.ins.length<=dl:=(h.ri.mo.fin g d).code.len;unfold dl at this;exact⟨⟨by omega,by omega⟩,⟨by omega,by omega⟩,w1,w2,q,u,v,h.ri.al g d _ f⟩
def Dn (T HM FM GM:cd)(m:Mo)(B:cd)(d:World)(p:PS)(w:World):Prop:=
 ∃tg s,Pm T HM FM GM m B tg s p w/\aq B d w
theorem Dn.of {T HM FM GM:cd}{m:Mo}{B:cd}{d w w':World}{p p':PS}{tg:cd->PT}{s:vM}{Zk:PT->Prop}(h:Pm T HM FM GM m B tg s p w)(f:aq B d w)(o:bn Zk T HM FM GM m B tg p' w w'):Dn T HM FM GM m B d p' w':=by
 obtain⟨tg',s',u,v,A⟩:=o;exact⟨tg',s',u,f.trans (v.below h.base (λq y=>(h.lo q y.1).1))⟩
theorem Dn.grow {T HM FM GM:cd}{m:Mo}{B:cd}{d w w':World}{p:PS}(h:Dn T HM FM GM m B d p w)(f:aq w.heap.size w w'):Dn T HM FM GM m B d p w':=by
 obtain⟨tg,s,o,q⟩:=h;exact⟨tg,s,o.grow f,q.trans (f.mono o.base)⟩
end
section
open Go.RowKit Go.Maps
theorem zb {w d:World}{D B:cd}{m:Mo}(f:w.heap.size=D)(q:B<=D)
  (o:(((w.alloc (.map #[] 0)).alloc (.map #[] 0)).alloc (.map #[] 0)).alloc (rj (zC m D (D+1) (D+2) Dy 0 0) 148)=d):
  Pm (D+3) D (D+1) (D+2) m B (Dz (D+3) D (D+1) (D+2)) Dy D8 d:=by
 have s1:(w.alloc (.map #[] 0)).heap.size=D+1:=by simp[f]
 have u:((w.alloc (.map #[] 0)).alloc (.map #[] 0)).heap.size=D+2:=by simp[f]
 have v:(((w.alloc (.map #[] 0)).alloc (.map #[] 0)).alloc (.map #[] 0)).heap.size=D+3:=by simp[f]
 have y:aq (w.alloc (.map #[] 0)).heap.size (w.alloc (.map #[] 0)) d:=by
  rw[<-o];exact(((an _ _).alloc (bp _) _).alloc (by simp) _).alloc (by simp) _
 have A:aq ((w.alloc (.map #[] 0)).alloc (.map #[] 0)).heap.size ((w.alloc (.map #[] 0)).alloc (.map #[] 0)) d:=by
  rw[<-o];exact((an _ _).alloc (bp _) _).alloc (by simp) _
 have G:aq (((w.alloc (.map #[] 0)).alloc (.map #[] 0)).alloc (.map #[] 0)).heap.size (((w.alloc (.map #[] 0)).alloc (.map #[] 0)).alloc (.map #[] 0)) d:=by
  rw[<-o];exact(an _ _).alloc (bp _) _
 have m1:=(dL.made (ok:=fV) (kv:=jE) (z:= .map qu) w).ext (Ext.of_below_size (M:=λ_=>jp) y) (λh=>h);have m2:=(dL.made (ok:=fV) (kv:=jE) (z:= ra qu 0 0) (w.alloc (.map #[] 0))).ext (Ext.of_below_size (M:=λ_=>jp) A) (λh=>h);have m3:=(dL.made (ok:=fV) (kv:=jE) (z:= ra qu 0 0) ((w.alloc (.map #[] 0)).alloc (.map #[] 0))).ext (Ext.of_below_size (M:=λ_=>jp) G) (λh=>h);rw[f] at m1;rw[s1] at m2;rw[u] at m3;refine Pm.fresh ?_ m1 m2 m3 (by omega) (by omega) (by omega) (by omega) (by omega) (by omega) (by omega) q (by omega) (by omega);rw[<-o,<-v];exact alloc_at _ _
def Es (m:Mo)(D B:cd)(d:World)(l:bm XI)(wr:World):Prop:=∃p,J1 l p/\Dn (D+3) D (D+1) (D+2) m B d p wr
theorem qz (m:Mo)(w:World)(h:lh w m)(hr:dE m=0):
  ft ac 30 #[rh m.cells] w λe w'=>∃D p,e= rk (.tuple #[rb (qt ⟨D+3,0,qu⟩),Z U 0])/\p.td=[]/\p.St=aF m.xi/\(∀n y,(n,y)∈p.H↔Lf (aL 0 m.xi) (aR m.xi) (dN m.xi) n y)/\Dn (D+3) D (D+1) (D+2) m (w.heap.size+1) (w.alloc (rj m.cells 25)) p w':=by
 obtain⟨f,sx⟩:=zE w.heap.size;obtain⟨d,rn⟩:=zE (w.alloc (rj m.cells 25));have sy:=iF rn;have tn:d.heap.size=f+1:=by rw[<-rn];simp[sx]
 have rN:d.heap[f]?=qt (rj m.cells 25 (0,0)):=by rw[<-rn,<-sx];exact alloc_at _ _
 rw[sx,rn];have sB:m.inn d:=h.ri.mo.below sy;have rS:=zH (wX m d (eD.belowP h.ri sy));rw[hr] at rS;have sE:=zH h.okXs;have ux:=zH sB;have HW:=zH h;have HR:=zH hr;have rl:=zH tn;have xj:=zH rN;have va:m.fs≠[]:=by
  intro e;have:=(iR hr).2.2.2.2.2;unfold Mo.fnIx fH at this;rw[e] at this;simp at this
 obtain⟨fb,fo,rx,sL,A⟩:=sB.frow va;have sR:ca (∀W,aq d.heap.size d W->W.cell? ⟨f,0,qu⟩=qt (ra m.sA m.ss.length m.sC)/\W.cell? ⟨f,1,qu⟩=qt (ra (qt ⟨fb,fo,qu⟩) m.fs.length m.fC)/\f<W.heap.size):=λW hW=>by
  have r:=(hW.block f (aa rN)).trans rN;rw[<-rx];exact⟨(rowAt r 0 rfl).1,(rowAt r 1 rfl).1,aa r⟩
 have vc:ca (∀W,aq d.heap.size d W->(∀(j:cd)(g:Fn),m.fs[j]?=qt g->∀(q:cd)(u:bw),g.c.cells.toList[q]?=qt u->W.cell? ⟨fb,fo+j*8+q,qu⟩=qt u)/\fb<W.heap.size):=λW hW=>⟨λj g hj q u hu=>by rw[hW.cell (p:=⟨fb,_,qu⟩) sL];exact A j g hj q u hu,cn sL hW.size⟩
 have vd:ca (w.alloc (rj #[ra m.sA m.ss.length m.sC,ra (qt ⟨fb,fo,qu⟩) m.fs.length m.fC] 25)=d):=by rw[<-rx];exact rn
 obtain⟨k0,k1,k2⟩:=sR.out d (an _ _);unfold Mo.cells at rS⊢;have vf:=zH rx;rw[rx] at rS⊢;clear h hr sy tn rN sB rn rx sL A;go_enter func30,ntmps30
 go_upto_region 1 with(fail)
 rw[vd.out]
 go_upto_region 2 with(go_at_call 53;refine rS.out.mono ?_;rintro e w1 ⟨rfl,tp⟩;have tr:=zH tp;clear tp)
 clear k0 k1 k2;obtain⟨k0,k1,k2⟩:=sR.out w1 tr.out;obtain⟨D,hD⟩:=zE w1.heap.size;obtain⟨W4,rr⟩:=zE ((((w1.alloc (.map #[] 0)).alloc (.map #[] 0)).alloc (.map #[] 0)).alloc (rj (zC m D (D+1) (D+2) Dy 0 0) 148));have se:aq d.heap.size d w1:=tr.out;have tt:f+1<=D:=by have:=se.size;have:=rl.out;omega
 have tv:=zb hD tt rr;have tz:aq w1.heap.size w1 W4:=by rw[<-rr];exact((((an _ _).alloc (bp _) _).alloc (by simp) _).alloc (by simp;omega) _).alloc (by simp;omega) _
 have sT:aq d.heap.size d W4:=se.trans (tz.mono se.size);have vh:ca (Es m D (f+1) d [] W4):=⟨D8,BR,_,_,tv,by rw[<-rl.out];exact sT⟩
 unfold zC Dy at rr;rw[vf.out] at rr;have vi:=zH rr;have vj:=zH sT;have HD:=zH hD;clear se rr tz sT tv hD tt;have vm:=@run_makeMap ac
 go_upto_region 5 with(fail)
 (try simp only[HD.out,Nat.add_assoc,Nat.reduceAdd]);rw[vi.out];clear vm k0 k1 k2;obtain⟨k0,k1,k2⟩:=sR.out W4 vj.out
 go_upto_region 6 with(fail)
 clear k0 k1 k2
 go_loopw [24] (λkk wr=>∃j:cd,j<=m.fs.length/\kk= Z U (j:cj)/\Es m D (f+1) d (eZ 0 (m.fs.take j)) wr) (λkk _=>m.fs.length-(intOf kk).toNat)
 case atStart=>exact⟨0,cJ _,rfl,by rw[List.take_zero];exact vh.out⟩
 case round=>
  obtain⟨j,hj,rfl,sf⟩:=hrel;have sX:aq d.heap.size d wr:=by obtain⟨_,_,_,_,_,h2⟩:=sf;rw[rl.out];exact h2
  by_cases tA:j<m.fs.length
  ·obtain⟨g,K⟩:∃g,m.fs[j]?=qt g:=⟨_,am tA⟩
   have xl:(j:cj)<(m.fs.length:cj):=by omega
   have tB:=ce K;obtain⟨A,xo⟩:=vc.out wr sX;have x0:=A j g K 0 _ rfl;have x1:=A j g K 1 _ rfl;have x2:=A j g K 2 _ rfl;have x3:=A j g K 3 _ rfl;have x4:=A j g K 4 _ rfl;have x5:=A j g K 5 _ rfl;have x6:=A j g K 6 _ rfl;have x7:=A j g K 7 _ rfl;rw[kO] at x0;have hst:=Cj (g:=g) (w:=wr);have sk:=ux.out.fin g tB;have tD:g.c.ins≠[]:=by
    have vn:=lJ ((iR HR.out).2.2.2.2.1 g tB);intro e;have:=vn.2.1;rw[e] at this;simp at this
   obtain⟨ib,io,tE,tG,tM⟩:=sk.code.row tD;obtain⟨G,hG⟩:=zE wr.heap.size;obtain⟨W2,rB⟩:=zE (wr.alloc (rj g.c.cells 38));have tP:=iF rB;have sY:W2.heap[G]?=qt (rj g.c.cells 38 (0,0)):=by rw[<-rB,<-hG];exact alloc_at _ _
   have vp:ca (Es m D (f+1) d (m.upto j 0 g) W2):=by
    obtain⟨p,h1,h2⟩:=sf;exact⟨p,by rw[AU];exact h1,h2.grow tP⟩
   unfold nJ.cells at hst sY rB;have tR:=zH rB;have tS:=zH sY;have HG:=zH K;have vq:ca (∀(k:cd)(i:Ins),g.c.ins[k]?=qt i->∀(q:cd)(u:bw),i.cells.toList[q]?=qt u->d.cell? ⟨ib,io+k*13+q,qu⟩=qt u):=tM;have vr:=zH sk;have vt:=zH tE;have vu:g.c.ins.length<=dl:=sk.code.len;unfold dl at vu;have xp:=HW.out.nf;have xr:f+1<=G:=by have:=sX.size;have:=rl.out;omega
   clear tE A sk tM tD tP sY rB sf sX
   go_upto_region 8 with(fail)
   (try rw[tR.out]);(try rw[hG]);clear x0 x1 x2 x3 x4 x5 x6 x7 hst hG tR;have g7:W2.cell? ⟨G,7,qu⟩=qt (ra g.c.insA g.c.ins.length g.c.insC):=(rowAt tS.out 7 rfl).1;have vx:=aa tS.out;rw[vt.out] at g7
   go_upto_region 9 with(fail)
   clear g7 vx
   go_loopw [32] (λkk wr=>∃k:cd,k<=g.c.ins.length/\kk= Z U (k:cj)/\Es m D (f+1) d (m.upto j k g) wr) (λkk _=>g.c.ins.length-(intOf kk).toNat)
   case atStart=>exact⟨0,cJ _,rfl,vp.out⟩
   case round=>
    obtain⟨k,hk,rfl,p,J,tg,s,R,rm⟩:=hrel
    by_cases tU:k<g.c.ins.length
    ·obtain⟨i,hi⟩:∃i,g.c.ins[k]?=qt i:=⟨_,am tU⟩
     have tW:=ce hi;have xt:(k:cj)<(g.c.ins.length:cj):=by omega
     obtain⟨ua,ga,gc,sn,ub⟩:=vr.out.code.args i tW;have hst:=xB (i:=i) ua (w:=wr);obtain⟨_,mo,mn,mc,sq⟩:=ua;have rI:aq d.heap.size d wr:=by rw[rl.out];exact rm
     have o:∀(q:cd)(u:bw),i.cells.toList[q]?=qt u->wr.cell? ⟨ib,io+k*13+q,qu⟩=qt u:=λq u hu=>by rw[rI.cell (p:=⟨ib,_,qu⟩) tG];exact vq.out k i hi q u hu
     have xF:ib<wr.heap.size:=cn tG rI.size;have x0:=o 0 _ rfl;have x1:=o 1 _ rfl;have x2:=o 2 _ rfl;have x3:=o 3 _ rfl;have x4:=o 4 _ rfl;have x5:=o 5 _ rfl;have x6:=o 6 _ rfl;have x7:=o 7 _ rfl;have x8:=o 8 _ rfl;have x9:=o 9 _ rfl;have vy:=o 10 _ rfl;have wa:=o 11 _ rfl;have wb:=o 12 _ rfl;rw[kO] at x0;rw[sn] at x7;rw[sq] at x8;obtain⟨Q,hQ⟩:=zE wr.heap.size;obtain⟨W5,rv⟩:=zE (wr.alloc (rj i.cells 42));have te:=iF rv;have sr:W5.heap[Q]?=qt (rj i.cells 42 (0,0)):=by rw[<-rv,<-hQ];exact alloc_at _ _
     have tf:=R.grow te;have th:aq d.heap.size d W5:=rI.trans (te.mono rI.size);have ti:=qy (k:=k) HG.out;have tj:=qy (k:=k+1) HG.out;rw[nH hi] at tj;have uc:zG ((j:cj),(k:cj),i):=sE.out _ (by obtain⟨r,e⟩:=tj;rw[e];simp);have ud:(m.upto j k g).length<=400:=by obtain⟨r,e⟩:=ti;have:=HW.out.ni;rw[e,co] at this;omega
     have ue:∀x∈m.upto j k g,x.2.2.args.length<=40:=λx hx=>(sE.out x (by obtain⟨r,e⟩:=ti;rw[e];simp[hx])).2.2.2.2.2.2.2;obtain⟨e1,e2,e3,e4⟩:=(J.settled (aQ 0 0) 0).lens ue ud;have we:=dU (l:=m.upto j k g);have rK:=sD W5 d tf (by have:=rl.out;omega) th (j:cj) (k:cj) i ga gc sn ⟨mo,mn,mc,sq⟩ ub.at_ uc (λn x hx=>by have:=fU (J.snd _ hx);omega) (by rw[J.st];omega) e2 e4 e1 (by omega);unfold Ins.cells at hst rv sr rK;rw[sn,sq] at hst rv sr rK;have rK:=zH rK;have wg:=zH J;have wi:=zH tf;have wj:ca (aq (f+1) d W5):=by rw[<-rl.out];exact th
     have HI:=zH hi;have ur:=zH rv;have v:=zH sr;clear rI o te sr rv sn sq ub hi tW R rm J tf th ti tj uc ud ue e1 e2 e3 e4 we
     go_upto_region 11 with(fail)
     (try rw[ur.out]);(try rw[hQ]);clear x0 x1 x2 x3 x4 x5 x6 x7 x8 x9 vy wa wb hst hQ ur;obtain⟨z0,z1,z2,z3,z4,z5,z6,z7,z8,z9,xT,ya,yb⟩:(_/\_/\_/\_/\_/\_/\_/\_/\_/\_/\_/\_/\_):=⟨(rowAt v.out 0 rfl).1,(rowAt v.out 1 rfl).1,(rowAt v.out 2 rfl).1,(rowAt v.out 3 rfl).1,(rowAt v.out 4 rfl).1,(rowAt v.out 5 rfl).1,(rowAt v.out 6 rfl).1,(rowAt v.out 7 rfl).1,(rowAt v.out 8 rfl).1,(rowAt v.out 9 rfl).1,(rowAt v.out 10 rfl).1,(rowAt v.out 11 rfl).1,(rowAt v.out 12 rfl).1⟩
     go_wp2_with (go_at_call 71;refine rK.out.mono ?_;rintro e w7 ⟨rfl,p',uv,rL⟩;have tl:=zH rL;have wk:=zH uv;clear rL uv)
     go_roundw
     case rel=>exact⟨k+1,tU,by go_num,p',by rw[nH HI.out];exact wg.out.step wk.out,Dn.of wi.out wj.out tl.out⟩
     case measure=>simp[intOf];omega
    ·have wl:k=g.c.ins.length:=by omega
     have wn:ca (Es m D (f+1) d (eZ 0 (m.fs.take (j+1))) wr):=⟨p,by rw[<-tO HG.out,<-wl];exact J,tg,s,R,rm⟩
     clear J R rm;go_wp2;go_roundw
     case rel=>exact⟨j+1,tA,by go_num,wn.out⟩
     case measure=>simp[intOf];omega
  ·have ws:j=m.fs.length:=by omega
   obtain⟨p,J,tg,s,R,rm⟩:=sf;have tm:J1 m.xi p:=by rw[ws,cT] at J;exact J
   have wx:=zH (qp wr R m.xi sE.out HW.out.ni tm);have HJ:=zH tm;have HP:=zH R;have xf:=zH rm;clear J R rm tm
   go_wp2_with (go_at_call 72;refine wx.out.mono ?_;rintro e w7 ⟨rfl,p',q1,q2,q3,rL⟩;have HQ:=zH (And.intro q1 (And.intro q2 q3));have tl:=zH rL;clear rL q1 q2 q3)
   go_ret2
   exact⟨D,p',rfl,HQ.out.1,HQ.out.2.1.trans HJ.out.st,HQ.out.2.2,Dn.of HP.out xf.out tl.out⟩
end
section
open Go.RowKit Go.Maps
def iT (w:World)(B:cd)(v:bw)(H:bm (Nd×cd))(n:Nd)(l:bm cd):Prop:=
 aZ w B v (l.map jt)/\l.Pairwise (·<·)/\∀x,x∈l↔(n,x)∈H
theorem AV {xs:bm cj}(h:xs.Nodup):(eu xs).Pairwise (·<·):=by
 have d:(eu xs).Pairwise λx y=>decide (x<=y)=qv:=by
  unfold eu;exact List.pairwise_mergeSort (λa b c d f=>by simp only[js] at*;omega) (λa b=>by simp only[gx,js];omega) _
 have f:(eu xs).Nodup:=by
  unfold eu;exact(List.mergeSort_perm xs _).nodup_iff.2 h
 refine(d.and f).imp λ{a b} q=> ?_;have o:=q.1;have u:=q.2;simp only[js] at o;omega
theorem Cm {w:World}{B:cd}{v:bw}{xs S:bm cj}{H:bm (Nd×cd)}{n:Nd}(h:BU S xs)(o:∀z:cj,z∈S↔∃x:cd,z=(x:cj)/\(n,x)∈H)(u:aZ w B v (eu xs)):∃l,iT w B v H n l/\l.length=xs.length:=by
 have A:∀z∈eu xs,0<=z:=λz d=>by
  have D:z∈xs:=by unfold eu at d;exact mj.1 d
  obtain⟨x,e,_⟩:=(o z).1 ((h.2 z).1 D);omega
 obtain⟨l,f⟩:∃l:bm cd,eu xs=l.map jt:=⟨(eu xs).map Int.toNat,by
  rw[List.map_map]
  conv=>lhs;rw[<-List.map_id (eu xs)]
  refine List.map_congr_left λz d=> ?_;have:=A z d;simp;omega⟩
 refine⟨l,⟨by rw[<-f];exact u, ?_,λx=> ?_⟩, ?_⟩
 ·have:=AV h.1
  rw[f,mz] at this;exact this.imp λ{a b} q=>Int.ofNat_lt.1 q
 ·have G:x∈l↔(x:cj)∈eu xs:=by
   rw[f,dd];exact⟨λh=>⟨x,h,rfl⟩,λ⟨y,hy,e⟩=>by rw[<-nl.1 e];exact hy⟩
  have J:(x:cj)∈eu xs↔(x:cj)∈xs:=by unfold eu;exact mj
  rw[G,J,h.2,o];exact⟨λ⟨y,e,hy⟩=>by rw[nl.1 e];exact hy,λh=>⟨x,rfl,h⟩⟩
 ·have e:=eA List.length f
  rw[dj] at e;rw[<-e];unfold eu;rw[mu]
section
variable {T HM FM GM:cd}{m:Mo}{B:cd}{tg tg1:cd->PT}{s s1:vM}{p p1 p':PS}{w w1 w':World}
theorem jH (w:World)(h:Pm T HM FM GM m B tg s p w){n1 n2 n3:cj}(hn:fV (n1,n2,n3))(rL:∀n x,(n,x)∈p.H->x<=900000):
  ft ac 78 #[rb (qt ⟨T,0,qu⟩),rh #[Z U n1,Z U n2,Z U n3]] w λe w'=>∃l ao cap,e= rk (ra ao l.length cap)/\iT w' w.heap.size (ra ao l.length cap) p.H (n1,n2,n3) l/\aq w.heap.size w w':=by
 obtain⟨D,R⟩:=zE w.heap.size;obtain⟨d,G⟩:=zE (w.alloc (rj #[Z U n1,Z U n2,Z U n3] 164));have rl:=iF G;have rm:d.heap[D]?=qt (rj #[Z U n1,Z U n2,Z U n3] 164 (0,0)):=by rw[<-G,<-R];exact alloc_at _ _
 have h1:=h.grow rl;obtain⟨S,rn,rN,rS,r0,rr⟩:=(h1.hs _ hn).setV rL;obtain⟨v,hv⟩:=zE (s.hv (n1,n2,n3));rw[hv] at rn rr;obtain⟨y,J⟩:=zE ((λw'=>aq d.heap.size d w'):World->Prop);have K:ca (∀W,aq d.heap.size d W->y W):=λW h=>by rw[<-J];exact h
 have sB:y d.drew:=K.out _ (an _ _).drew;have o:ca (∀W,y W->W.cell? ⟨T,3,qu⟩=qt (.map (qt HM))/\T<W.heap.size/\(fk 143 (.map (qt HM)) (rh #[Z U n1,Z U n2,Z U n3]) qS).run ac W= .ok v W):=λW A=>by
  rw[<-J] at A;have hg:=h1.grow A;refine⟨(rowAt hg.row 3 rfl).1,aa hg.row, ?_⟩;have:=hg.look hn;rw[hv] at this;exact this
 have se:ca (∀W,y W->∀j u,(#[Z U n1,Z U n2,Z U n3]:cG bw).toList[j]?=qt u->W.cell? ((⟨D,0,qu⟩:oA).add j)=qt u):=λW A=>by
  rw[<-J] at A;exact aO ((A.block D (aa rm)).trans rm)
 have sE:=zH rn;have sL:=zH rN;have sR:=zH rS;have sT:=zH rr;have rv:=zH rl;have sX:=zH G;have HD:=zH R;clear h rl rm h1 rn rN rS rr hv J G R rL;go_enter func78,ntmps78
 go_upto_region 3 with(fail)
 rw[sX.out];(try rw[HD.out]);refine ah 8 y (by kernel_rfl) ?_;refine zT 0 rfl o.out ?_;(try go_simp);refine zT 1 rfl o.out ?_;(try go_simp);refine zT 2 rfl o.out ?_;(try go_simp);refine zT 3 rfl o.out ?_;(try go_simp);refine zL 4 rfl 164 ⟨D,0,qu⟩ se.out cD ?_;(try go_simp);refine zT 5 rfl o.out ?_;(try go_simp);refine zO 6 rfl λK' f=> ?_;go_simp;have sf:=zH (kr d.drew v ⟨r0,sT.out⟩);go_at_call 123;refine sf.out.mono ?_;rintro e rx ⟨rfl,rB⟩;have q:aq d.heap.size d rx:=by
  rw[<-rB];exact(an _ _).drew.alloc (bp _) _
 have rI:rx.heap[d.drew.heap.size]?=qt (rj #[v] 162 (0,0)):=by rw[<-rB];exact alloc_at _ _
 obtain⟨Q,hQ⟩:=zE d.drew.heap.size;rw[hQ] at rI⊢;have sk:=jo rx Q v S rI (sE.out.below q) sR.out;refine f _ _ (K.out _ q) ?_;clear f;(try go_simp);refine zO 7 rfl λK' f=> ?_;go_simp;go_at_call 122;refine sk.mono ?_;rintro e sY ⟨xs,ax,cx,sn,rfl,sq,sr⟩;have rK:aq d.heap.size d sY:=q.trans (sr.mono q.size);refine f _ _ (K.out _ rK) ?_;clear f sk;(try go_simp);refine zK rfl λK' f=> ?_;go_simp;refine f _ _ ?_;clear f;refine⟨by kernel_rfl, ?_⟩;obtain⟨l,hl,sx⟩:=Cm sn sL.out (sq.mono (cE rv.out.size q.size));have HL:=zH hl;have sy:=zH sx;have te:=zH rK;clear hl sx rK sr q sq sn rI rB sf hQ se o K sB;go_wp2;go_ret;refine⟨l,ax,cx,by rw[sy.out];rfl, ?_,rv.out.trans (te.out.mono rv.out.size)⟩;rw[sy.out];exact HL.out
end
end
section
open Go.RowKit Go.Maps
def lM (H:bm (Nd×cd))(n:Nd)(w:World)(e:Ending)(w':World):Prop:=
 ∃l d cap,e= rk (ra d l.length cap)/\iT w' w.heap.size (ra d l.length cap) H n l/\aq w.heap.size w w'
section
variable {T HM FM GM:cd}{m:Mo}{B:cd}{tg tg1:cd->PT}{s s1:vM}{p p1 p':PS}{w w1 w':World}
theorem mQ (w:World)(h:Pm T HM FM GM m B tg s p w)(f v:cj)(rm:0<=f/\0<=v)(q:fV (aQ f v))(u:∀n x,(n,x)∈p.H->x<=900000):
  ft ac 44 #[rb (qt ⟨T,0,qu⟩),Z U f,Z U v] w (lM p.H (aQ f v) w):=by
 have G:=zH (bF f v w);have H:=zH h;have J:=zH u;have K:=zH q;clear h q u;have h1:¬f<0:=by omega
 have h2:¬v<0:=by omega
 go_enter func44,ntmps44
 go_wp2_with (first
  |(go_at_call 77;refine G.out.mono ?_;rintro e w2 ⟨rfl,d⟩;have R:=zH (jH w2 (H.out.grow d) K.out J.out);have o:=zH d;clear d;unfold jE aQ)
  |(go_at_call 78;refine R.out.mono ?_;rintro e w3 ⟨l,ao,cap,rfl,y,A⟩;have rl:=zH A;have D:=zH y;clear A y))
 go_ret;exact⟨l,ao,cap,rfl,⟨D.out.1.mono o.out.size,D.out.2⟩,o.out.trans (rl.out.mono o.out.size)⟩
theorem qB (w:World)(h:Pm T HM FM GM m B tg s p w)(f v:cj)(rm:0<=f/\0<=v)(q:fV (kP f v))(u:∀n x,(n,x)∈p.H->x<=900000):
  ft ac 36 #[rb (qt ⟨T,0,qu⟩),Z U f,Z U v] w (lM p.H (kP f v) w):=by
 have G:=zH (lg f v w);have H:=zH h;have J:=zH u;have K:=zH q;clear h q u;have h1:¬f<0:=by omega
 have h2:¬v<0:=by omega
 go_enter func36,ntmps36
 go_wp2_with (first
  |(go_at_call 79;refine G.out.mono ?_;rintro e w2 ⟨rfl,d⟩;have R:=zH (jH w2 (H.out.grow d) K.out J.out);have o:=zH d;clear d;unfold jE kP)
  |(go_at_call 78;refine R.out.mono ?_;rintro e w3 ⟨l,ao,cap,rfl,y,A⟩;have rl:=zH A;have D:=zH y;clear A y))
 go_ret;exact⟨l,ao,cap,rfl,⟨D.out.1.mono o.out.size,D.out.2⟩,o.out.trans (rl.out.mono o.out.size)⟩
theorem oG (w:World)(h:Pm T HM FM GM m B tg s p w)(f:cj)(rm:0<=f)(q:fV (kN f))(u:∀n x,(n,x)∈p.H->x<=900000):
  ft ac 42 #[rb (qt ⟨T,0,qu⟩),Z U f] w (lM p.H (kN f) w):=by
 have D:=zH (iE f w);have H:=zH h;have G:=zH u;have J:=zH q;clear h q u;have h1:¬f<0:=by omega
 go_enter func42,ntmps42
 go_wp2_with (first
  |(go_at_call 83;refine D.out.mono ?_;rintro e w2 ⟨rfl,d⟩;have K:=zH (jH w2 (H.out.grow d) J.out G.out);have o:=zH d;clear d;unfold jE kN)
  |(go_at_call 78;refine K.out.mono ?_;rintro e w3 ⟨l,R,cap,rfl,v,y⟩;have rl:=zH y;have A:=zH v;clear y v))
 go_ret;exact⟨l,R,cap,rfl,⟨A.out.1.mono o.out.size,A.out.2⟩,o.out.trans (rl.out.mono o.out.size)⟩
end
end
section
open Go.RowKit Go.Maps
theorem ze (x:cj)(w:World):(fk 162 (.map qu) (Z U x) qS).run ac w= .ok (re qS) w:=by kernel_rfl
theorem oH (f v:cj)(w:World):zP 77 #[Z U f,Z U v] w (rh #[Z U f,Z U v,Z U (-1)]):=bF f v w
section
variable {T HM FM GM:cd}{m:Mo}{B:cd}{tg tg1:cd->PT}{s s1:vM}{p p1 p':PS}{w w1 w':World}
theorem kw (w:World)(h:Pm T HM FM GM m B tg s p w)(f v x:cj)(D:0<=f/\0<=v)(d:fV (aQ f v))(u:fI x):
  ∃b:Bool,(b=qv↔∃y:cd,x=(y:cj)/\(aQ f v,y)∈p.H)/\zP 33 #[rb (qt ⟨T,0,qu⟩),Z U f,Z U v,Z U x] w (re b):=by
 have h1:¬f<0:=by omega
 have h2:¬v<0:=by omega
 have kT:∀q:BW w,q.w.cell? ⟨T,3,qu⟩=qt (.map (qt HM)):=λq=>(rowAt (h.grow q.h).row 3 rfl).1;have kL:∀q:BW w,T<q.w.heap.size:=λq=>aa (h.grow q.h).row;have G:∀q:BW w,(fk 143 (.map (qt HM)) (rh #[Z U f,Z U v,Z U (-1)]) qS).run ac q.w= .ok (s.hv (aQ f v)) q.w:=λq=>(h.grow q.h).look d;obtain⟨J,o⟩:=zE (s.hv (aQ f v));obtain⟨b,A,ks⟩:∃b:Bool,(b=qv↔∃y:cd,x=(y:cj)/\(aQ f v,y)∈p.H)/\∀q:BW w,(fk 162 J (Z U x) qS).run ac q.w= .ok (re b) q.w:=by
  have:=h.hs _ d;rw[o] at this;rcases this with⟨e,h0⟩|⟨b,c,S,e,hs,_,K,_⟩
  ·exact⟨qS,⟨λh=>by simp at h,λ⟨y,_,hy⟩=>fL hy (h0 y)⟩,λq=>by rw[e];exact ze x q.w⟩
  ·refine⟨decide (x∈S),by rw[js];exact K x,λq=> ?_⟩
   rw[e];exact(hs.ext (Ext.of_below_size (M:=λ_=>jp) q.h) (λh=>h)).look u
 rw[o] at G;refine⟨b,A, ?_⟩;have t0:decide ((0:cj)<=f)=qv:=dy (by omega);have t1:decide ((0:cj)<=v)=qv:=dy (by omega);clear h d u A o D;go_enter func33,ntmps33
 go_upto_region 1 with(fail)
 refine zQ ?_
 repeat (go_big_quiet_step ((go_at_call 77;exact aV (oH _ _ _))))
 refine db ?_;rintro _ ⟨q,rfl⟩;have R:=zH q.h;go_wp2;go_ret;exact⟨rfl,R.out⟩
end
end
section
open Go.RowKit Go.Maps
theorem AX:(ac.info? 67).map (λi=>(i.zero,i.size,i.bytes))=qt (qt (rh #[Z U 0,Z U 0]),2,16):=by kernel_rfl
theorem vI (w:World)(v:bw)(n:cd)(xs:bm bw)(base:cd)(d:w.ownsRow base 67 2 v n xs)(y:∀u∈xs,u.oneCell'=qv)(hn:n<=90000):
  ft ac 73 #[v] w λe w'=>∃A,e= rk A/\w'.ownsRow w.heap.size 67 2 A n xs/\aq w.heap.size w w':=by
 have rK:∀(w:World)(a:du oA)(n c f o:cd),(binOp .eql 62 (ra a n c) (ra qu f o)).run ac w= .ok (re a.isNone) w:=λw a n c f o=>Lib.run_eql_slice_nil w _ _ a n c f o pm;rcases d.2 with⟨rfl,h0⟩|⟨g,cap,cur,rfl,K,D,R,h5,h6,h7⟩
 ·subst h0
  have hx:xs=[]:=cY (by have:=d.1;omega);subst hx;clear d;go_enter func73,ntmps73;go_wp2;go_ret;exact⟨_,rfl,World.ownsRow_nil _ _ _ _,an _ _⟩
 ·have HO:=Lib.hid d
  have HN:ca (xs.length=n*2):=d.1;have rl:=Lib.hid y;have HG:ca (g<w.heap.size):=(bb.1 D).1;clear K D R h5 h6 h7 y;have HC:ca (∀q,qt (⟨g,0,qu⟩:oA)=qt q->∀j u,xs[j]?=qt u->(w.alloc (rj #[] 67)).cell? (q.add j)=qt u):=by
   intro q e j u hu;obtain rfl:=cX e;have:=HO.out.cells (g:=g) rfl j u hu;rw[cM,World.cell?_alloc_lt _ _ _ (by show g<_;exact HG.out)];rw[cM] at this;exact this
  have HE:ca ((w.alloc (rj #[] 67)).ownsRow w.heap.size 67 2 (ra (qt ⟨w.heap.size,0,qu⟩) 0 0) 0 []):=iV _ _ _ _ (bp _);obtain⟨i0,rm,rn,rr,rv⟩:=ld AX;clear d;go_enter func73,ntmps73
  go_wp2_with (at_builtin;refine iM rfl _ _ 62 rfl w.heap.size 67 i0 _ 2 16 pm rm rn rr rv rfl (by decide) _ 0 [] rfl HE.out (qt ⟨g,0,qu⟩) n cap xs rfl HN.out (λh=>by cases h) HC.out rl.out (by unfold dl;omega) (by omega) (by rw[World.size_alloc];omega) ?_;intro v7 w7 G J rx;have rB:=Lib.hid G;have rI:=Lib.hid J;clear G J rx)
  go_ret;refine⟨_,rfl, ?_, ?_⟩
  ·have:=rB.out
   simpa using this
  ·exact((an _ _).alloc (bp _) _).grown rI.out (by rw[World.size_alloc];omega) (λk hk=>by have h9:qt w.heap.size=qt k:=hk;have:=cX h9;omega)
section
variable {T HM FM GM:cd}{m:Mo}{B:cd}{tg tg1:cd->PT}{s s1:vM}{p p1 p':PS}{w w1 w':World}
theorem ll (w:World)(h:Pm T HM FM GM m B tg s p w)(y:p.St.length<=90000):
  ft ac 31 #[rb (qt ⟨T,0,qu⟩)] w λe w'=>∃d,e= rk d/\w'.ownsRow w.heap.size 67 2 d p.St.length (p.St.flatMap Cy)/\aq w.heap.size w w':=by
 have c2:w.cell? ⟨T,2,qu⟩=qt (ra s.siA p.St.length s.siK):=(rowAt h.row 2 rfl).1;have R:=aa h.row;have A:=zH (vI w (ra s.siA p.St.length s.siK) p.St.length (p.St.flatMap Cy) B h.srow (λu D=>by
  obtain⟨q,_,f⟩:=er.1 D;simp only[Cy,fW,List.not_mem_nil,or_false] at f;rcases f with rfl|rfl<;>rfl) y)
 clear h;go_enter func31,ntmps31
 go_wp2_with (go_at_call 73;refine A.out.mono ?_;rintro e w3 ⟨G,rfl,o,v⟩;have J:=zH o;have K:=zH v;clear o v)
 go_ret;exact⟨G,rfl,J.out,K.out⟩
end
end
section
open Go.RowKit Go.Maps
theorem D5 {p:Pg}{V:bm Ty}{I:bm eX}{s:Sl}{d f:cd}(h:KB p V I):
  dE (iH p V I s d f)=0/\aF (iH p V I s d f).xi=[(0,0)]/\aL 0 (iH p V I s d f).xi=[(aQ 0 0,0)]/\aR (iH p V I s d f).xi=[(aQ 0 0,aQ 0 1),(aQ 0 2,kN 0)]:=by
 obtain⟨o,q,u,y,rfl,K,c0,R,c1,l2,c2,l3,c3,rfl⟩:=h;obtain⟨A,v,D,G⟩:=uN y;cases p;simp only at o q u v;subst o q u v;obtain⟨nm,J,tg,ln,cl⟩:=A;obtain⟨rfl,rfl⟩:J=qv/\tg=bS:=lz ..▸D;subst G;refine⟨by kernel_rfl,by kernel_rfl,by kernel_rfl,by kernel_rfl⟩
theorem D6 {w:World}{p:Pg}{V:bm Ty}{I:bm eX}{s:Sl}{q u:cd}(h:KB p V I)(G:(iH p V I s q u).inn w):lh w (iH p V I s q u):=by
 obtain⟨R,h2,h3,J,rfl,v,c0,y,c1,A,c2,D,c3,rfl⟩:=h;obtain⟨fd,K,h6,h7⟩:=uN J;have rl:p.fs.length=1:=by rw[K];rfl
 refine⟨⟨G,by simp[iH],by simp[iH],λx d=> ?_,λx d=> ?_,λx d i o=> ?_⟩,λx d i o=> ?_,by simp[Mo.xi,eZ,iH,kH,lu],by simp[iH]⟩
 ·obtain rfl:x=CL p:=by simpa[iH] using d
  show p.fs.length<=90000
  omega
 all_goals obtain rfl:x=lu p _ _ s:=by simpa[iH] using d
 ·show([(qv,bS),(qv,bS),bq].map BC).length<=90000
  decide
 ·have f:i∈([⟨12,0,0,0,0,v,c0⟩,⟨9,1,0,0,0,y,c1⟩,⟨1,2,0,0,0,A,c2⟩,⟨18,0,2,0,0,D,c3⟩]:bm eX).map eX.ins:=o
  obtain⟨j,_,rfl⟩:=dd.1 f;exact cJ _
 ·have f:i∈([⟨12,0,0,0,0,v,c0⟩,⟨9,1,0,0,0,y,c1⟩,⟨1,2,0,0,0,A,c2⟩,⟨18,0,2,0,0,D,c3⟩]:bm eX).map eX.ins:=o
  simp only[kc,List.map_nil,fW,List.not_mem_nil,or_false] at f;rcases f with rfl|rfl|rfl|rfl<;>refine⟨?_, ?_, ?_, ?_,λe=>fL e (by simp[eX.ins])⟩<;>(unfold fI eX.ins;dsimp only;omega)
theorem mR (w:World)(c d:cG bw)(t:ge)(o:Obj):((w.alloc (rj c t)).alloc o).setRow w.heap.size d=(w.alloc (rj d t)).alloc o:=by
 have h:=eA World.heap (World.setRow_alloc_new w c d t);unfold World.setRow World.alloc at*;simp only at h⊢;congr 1;rw[<-h];apply Array.ext
 ·simp
 ·intro i f u
  simp only[Array.getElem_modify,Array.getElem_push];simp at f
  by_cases e:w.heap.size=i
  ·subst e
   simp
  ·rw[cw e]
   by_cases q:i<w.heap.size
   ·simp[q,show i<w.heap.size+1 by omega,e]
   ·simp[show¬i<w.heap.size+1 by omega]
theorem kS {P:i8}(w:World)(t:ge)(c d:cG bw)(o:Obj)(f:c.size=d.size)(h:∀v∈d.toList,v.oneCell'=qv):
  (cU ⟨w.heap.size,0,qu⟩ d.toList 0).run P ((w.alloc (rj c t)).alloc o)= .ok () ((w.alloc (rj d t)).alloc o):=by
 rw[run_storeCells_from w.heap.size t d.toList 0 c _ (fN _ _ _) (by simp[f]) h];simp[mR]
def EG (m:Mo):Prop:=dE m=0/\aF m.xi=[(0,0)]/\aL 0 m.xi=[(aQ 0 0,0)]/\aR m.xi=[(aQ 0 0,aQ 0 1),(aQ 0 2,kN 0)]
theorem zf (w:World):ft ac 52 #[qT Al] w λe w'=>∃m:Mo,EG m/\lh w' m/\e= rk (.tuple #[rh #[ra m.sA m.ss.length m.sC,ra m.fA m.fs.length m.fC],rh #[Z U 0,Z U 0,Z U 0,Z U 0]])/\aq w.heap.size w w':=
 (wG w).mono λ_ _ ⟨_,_,_,_,_,_,h1,h2,h3,h4⟩=>⟨_,D5 h1,D6 h1 h3,h2,h4⟩
theorem AY {w:World}{a b:du oA}{n1 n2 c1 c2:cd}{o:Obj}:∀(c:cG bw),c.size=2->(cU ⟨w.heap.size,0,qu⟩ [ra a n1 c1,ra b n2 c2] 0).run ac ((w.alloc (rj c 25)).alloc o)= .ok () ((w.alloc (rj #[ra a n1 c1,ra b n2 c2] 25)).alloc o):=λc d=>
 kS w _ c #[ra a n1 c1,ra b n2 c2] o (by rw[d];rfl) (by simp[br])
theorem AZ {w:World}{o:Obj}:∀(c:cG bw),c.size=4->(cU ⟨w.heap.size+1,0,qu⟩ [Z U 0,Z U 0,Z U 0,Z U 0] 0).run ac ((w.alloc o).alloc (rj c 113))= .ok () ((w.alloc o).alloc (rj #[Z U 0,Z U 0,Z U 0,Z U 0] 113)):=λc d=>by
 have:=lw (w:=w.alloc o) c d
 rwa [World.size_alloc] at this
theorem jM (m:Mo)(w:World)(h:lh w m)(d:dE m=0):
  ft ac 30 #[rh #[ra m.sA m.ss.length m.sC,ra m.fA m.fs.length m.fC]] w λe w'=>∃D p tg s,e= rk (.tuple #[rb (qt ⟨D+3,0,qu⟩),Z U 0])/\p.St=aF m.xi/\(∀n y,(n,y)∈p.H↔Lf (aL 0 m.xi) (aR m.xi) (dN m.xi) n y)/\Pm (D+3) D (D+1) (D+2) m (w.heap.size+1) tg s p w'/\aq w.heap.size w w':=by
 refine(qz m w h d).mono ?_;rintro e w' ⟨D,p,rfl,_,f,o,tg,s,q,u⟩;refine⟨D,p,tg,s,rfl,f,o,q, ?_⟩;have v:aq w.heap.size w (w.alloc (rj m.cells 25)):=(an _ _).alloc (bp _) _;exact v.trans (u.mono (gb _))
theorem sF (w:World):zP 29 #[] w (re qv):=by
 have HT:=zH (zf w);go_enter func29,ntmps29
 go_upto_region 2 with(go_at_call 52;refine HT.out.mono ?_;rintro e w2 ⟨m,hA,hW,rfl,f⟩;have sq:=AY (w:=w2) (a:=m.sA) (b:=m.fA) (n1:=m.ss.length) (n2:=m.fs.length) (c1:=m.sC) (c2:=m.fC) (o:= rj #[Z U 0,Z U 0,Z U 0,Z U 0] 113);have sr:=AZ (w:=w2) (o:= rj #[ra m.sA m.ss.length m.sC,ra m.fA m.fs.length m.fC] 25);have rr:=zH f;have h:=zH hA;have q:=zH hW;clear f hA hW)
 obtain⟨D,A⟩:=zE w2.heap.size;obtain⟨u,v⟩:=zE ((w2.alloc (rj #[ra m.sA m.ss.length m.sC,ra m.fA m.fs.length m.fC] 25)).alloc (rj #[Z U 0,Z U 0,Z U 0,Z U 0] 113));have G:=Eu v;have y:=vN v A;rw[v,A];have sx:=zH (jM m u ⟨eD.belowP q.out.ri G,q.out.wf,q.out.ni,q.out.nf⟩ h.out.1);obtain⟨c0,c1⟩:u.cell? ⟨D,0,qu⟩=qt (ra m.sA m.ss.length m.sC)/\u.cell? ⟨D,1,qu⟩=qt (ra m.fA m.fs.length m.fC):=⟨(rowAt y 0 rfl).1,(rowAt y 1 rfl).1⟩
 have sy:=aa y;have rv:ca (aq w.heap.size w u):=rr.out.trans (G.mono rr.out.size);clear sq sr G y A v
 go_upto_region 3 with(go_at_call 30;refine sx.out.mono ?_;rintro e d ⟨Q,p,tg,s,rfl,hst,rx,hP,rB⟩;have sB:=zH hst;have rI:=zH rx;have J:=zH hP;have rK:=zH rB;clear hst rx hP rB)
 clear c0 c1 sy;have rL:p.St.length=1:=by rw[sB.out,h.out.2.1];rfl
 have K:=ll d J.out (by omega);rw[rL] at K;have sE:=zH K;have rN:((aQ 0 0,0):Nd×cd)∈p.H:=(rI.out _ _).2 (.base (by rw[h.out.2.2.1];simp));have rS:((aQ 0 1,0):Nd×cd)∈p.H:=(rI.out _ _).2 (.edge (a:=aQ 0 0) (by rw[h.out.2.2.2];simp) (.base (by rw[h.out.2.2.1];simp)));have sL:ca (∀W,aq d.heap.size d W->zP 33 #[rb (qt ⟨Q+3,0,qu⟩),Z U 0,Z U 0,Z U 0] W (re qv)):=λW R=>by
  obtain⟨b,rl,f⟩:=kw W (J.out.grow R) 0 0 0 (by decide) (bK (by unfold fI;omega) (by unfold fI;omega)) (by unfold fI;omega);rw[rl.2 ⟨0,rfl,rN⟩] at f;exact f
 have sR:ca (∀W,aq d.heap.size d W->zP 33 #[rb (qt ⟨Q+3,0,qu⟩),Z U 0,Z U 1,Z U 0] W (re qv)):=λW R=>by
  obtain⟨b,rl,f⟩:=kw W (J.out.grow R) 0 1 0 (by decide) (bK (by unfold fI;omega) (by unfold fI;omega)) (by unfold fI;omega);rw[rl.2 ⟨0,rfl,rS⟩] at f;exact f
 clear rL K rN rS
 go_wp2_with (go_at_call 31;refine sE.out.mono ?_;rintro e w5 ⟨v5,rfl,se,sf⟩;obtain⟨a5,c5,sT⟩:=av se;subst sT;have rm:=zH sf;clear sf se)
 refine(sL.out w5 rm.out).mono ?_;rintro e w6 ⟨rfl,sk⟩;have rn:ca (aq d.heap.size d w6):=rm.out.trans (sk.mono rm.out.size);clear sk
 go_wp2_with fail
 refine(sR.out w6 rn.out).mono ?_;rintro e w7 ⟨rfl,sn⟩;have sX:ca (aq d.heap.size d w7):=rn.out.trans (sn.mono rn.out.size);clear sn;go_wp2;go_ret;exact⟨rfl,rv.out.trans ((rK.out.trans (sX.out.mono rK.out.size)).mono rv.out.size)⟩
end
section
open Go.RowKit Go.Maps
theorem lm {α:Type}{l:bm α}{j:cd}{y x:α}(h:l[j]?=qt y)(d:x∉l.take j)(f:¬y=x):x∉l.take (j+1):=by
 rw[cZ h,cC,cA];rintro(e|e)
 ·exact d e
 ·exact f e.symm
theorem zg (w:World)(A:du oA)(l:bm cj)(c:cd)(x:cj)(h:au w A l)(hl:l.length<=1000000):
  zS 35 #[ra A l.length c,Z U x] w (re (decide (x∈l))):=by
 obtain⟨R,o⟩:=zE (decide (x∈l));rw[o];have D:=zH o;have H:=zH h;clear h o;go_enter func35,ntmps35
 go_upto_region 2 with(fail)
 go_loopw [5] (λk wr=>∃j:cd,j<=l.length/\k= Z U (j:cj)/\x∉l.take j/\wr=w) (λk _=>l.length-(intOf k).toNat)
 case atStart=>exact⟨0,cJ _,rfl,by simp,rfl⟩
 case round=>
  obtain⟨j,hj,rfl,d,rfl⟩:=hrel
  by_cases q:j<l.length
  ·obtain⟨y,f⟩:∃y,l[j]?=qt y:=⟨_,am q⟩
   have rl:(j:cj)<(l.length:cj):=by omega
   obtain⟨g,rm,rfl,hg,u⟩:=H.out (λe=>by rw[e] at q;simp at q);have rn:=u j y f
   by_cases e:y=x
   ·have G:R=qv:=by rw[<-D.out];exact dy (by rw[<-e];exact ce f)
    have v:=zH G;subst e;have t1:(y==y)=qv:=oX y;clear u d f G;go_wp2;go_ret;exact⟨by rw[v.out];rfl,rfl⟩
   ·have J:=zH (lm f d e)
    have t1:(y==x)=qS:=eM e;clear u d f;go_wp2;go_roundw
    case rel=>exact⟨j+1,by omega,by go_num,J.out,trivial⟩
    case measure=>simp[intOf];omega
  ·have K:j=l.length:=by omega
   rw[K,cT] at d;have v:ca (R=qS):=by unfold ca;rw[<-D.out];exact cv d
   clear d;go_wp2;go_ret;exact⟨by rw[v.out];rfl,rfl⟩
theorem xD (w:World)(v h:du oA)(d f:bm cj)(c1 c2:cd)(A:au w v d)(D:au w h f)(n1:d.length<=1000000)(n2:f.length<=1000000)(G:∀x∈d,x∈f):
  zS 46 #[ra v d.length c1,ra h f.length c2] w (re qv):=by
 have K:=zH A;have R:=zH G;have HH:ca (∀x,zS 35 #[ra h f.length c2,Z U x] w (re (decide (x∈f)))):=λx=>zg w h f c2 x D n2;clear A D G;go_enter func46,ntmps46
 go_upto_region 2 with(fail)
 go_loopw [5] (λk wr=>∃j:cd,j<=d.length/\k= Z U (j:cj)/\wr=w) (λk _=>d.length-(intOf k).toNat)
 case atStart=>exact⟨0,cJ _,rfl,rfl⟩
 case round=>
  obtain⟨j,hj,rfl,rfl⟩:=hrel
  by_cases q:j<d.length
  ·obtain⟨y,u⟩:∃y,d[j]?=qt y:=⟨_,am q⟩
   have rm:(j:cj)<(d.length:cj):=by omega
   obtain⟨g,rn,rfl,hg,J⟩:=K.out (λe=>by rw[e] at q;simp at q);have rr:=J j y u;have o:=HH.out y;rw[dy (R.out y (ce u))] at o;have o:=zH o;clear J u
   go_wp2_with (go_at_call 35;refine o.out.mono ?_;rintro e w2 ⟨rfl,rfl⟩)
   go_roundw
   case rel=>exact⟨j+1,by omega,by go_num,trivial⟩
   case measure=>simp[intOf];omega
  ·have rl:j=d.length:=by omega
   subst rl;go_wp2;go_ret;exact⟨rfl,rfl⟩
def kz (q:cj×cj):cd->bm (cj×cj)->cj
 |_,[]=> -1
 |n,a::r=>if a=q then(n:cj) else kz q (n+1) r
theorem jI {q:cj×cj}:∀(l:bm (cj×cj))(n j:cd),j<=l.length->q∉l.take j->kz q n l=kz q (n+j) (l.drop j)
 |[],n,j,h,_=>by
  obtain rfl:j=0:=by simpa using h
  rfl
 |a::r,n,0,_,_=>rfl
 |a::r,n,j+1,h,d=>by
  rw[nw,fW,not_or] at d;unfold kz;rw[cw (λe=>d.1 e.symm),jI r (n+1) j (by simpa using h) d.2,List.drop_succ_cons,show n+1+j=n+(j+1) by omega];cases f:r.drop j with
  |nil=>rfl
  |cons x y=>rfl
theorem Cn {q:cj×cj}{l:bm (cj×cj)}{j:cd}(h:l[j]?=qt q)(d:l.Nodup):kz q 0 l=(j:cj):=by
 have f:=(bl.1 h).1;have o:q∉l.take j:=λu=>by
  have v:=na j l;rw[<-v,iz] at d;refine d.2.2 q u q ?_ rfl;rw[dT f,(bl.1 h).2];simp
 rw[jI l 0 j (by omega) o,dT f,(bl.1 h).2,cH];unfold kz;rw[cI rfl]
theorem Co (p q a b:cj)(W:World):(binOp .eql 67 (rh #[Z U p,Z U q]) (rh #[Z U a,Z U b])).run ac W= .ok (re (p==a&&q==b)) W:=by
 have d:∀w,(Go.sizeOf 3).run ac w= .ok 1 w:=Tryz.sizeOf3;have f:∀w,(isAgg 3).run ac w= .ok qS w:=Tryz.isAgg3;have h:∀(a b:cj)(w:World),(part 3 #[Z U a,Z U b] 0).run ac w= .ok (Z U a) w:=λa b w=>by simp[part,fc,d,f]
 have o:∀(a b:cj)(w:World),(part 3 #[Z U a,Z U b] 1).run ac w= .ok (Z U b) w:=λa b w=>by simp[part,fc,d,f]
 rw[run_eql_struct,show(10000:cd)=9998+1+1 from rfl];have u:∀(a b:cj)(w:World),(fS (9998+1) 3 (Z U a) (Z U b)).run ac w= .ok (a==b) w:=λa b w=>run_equalIn_int w 9998 3 .i64 .i64 a b cP;rw[Op.equalIn.eq_def];simp only[fc,eJ pn,lx,d]
 by_cases v:p=a<;>by_cases y:q=b<;>simp[Std.Legacy.Range.forIn_eq_forIn_range',Std.Legacy.Range.size,List.range'_succ,fc,h,o,u,v,y]
theorem zh (w:World){B:cd}(v:bw)(l:bm (cj×cj))(f k:cj)(h:w.ownsRow B 67 2 v l.length (l.flatMap Cy))(hl:l.length<=1000000):
  zP 34 #[v,rh #[Z U f,Z U k]] w (Z U (kz (f,k) 0 l)):=by
 obtain⟨ao,c,rfl⟩:=av h;obtain⟨R,hR⟩:=zE (kz (f,k) 0 l);rw[hR];obtain⟨N,J⟩:=zE w.heap.size;obtain⟨W1,K⟩:=zE (w.alloc (rj #[Z U f,Z U k] 67));have rm:=iF K;have rB:W1.heap[N]?=qt (rj #[Z U f,Z U k] 67 (0,0)):=by rw[<-K,<-J];exact alloc_at _ _
 have h1:=ae h (Ext.of_below_size (M:=λ_=>jp) rm) (λ_ _ h=>h);have HR:=zH hR;have rI:=zH rB;have H1:=zH h1;have A:=zH rm;have se:=zH K;clear h hR rB h1 rm K;go_enter func34,ntmps34
 go_upto_region 2 with(fail)
 rw[se.out];(try rw[J])
 go_loopw [5] (λq wr=>∃j:cd,j<=l.length/\q= Z U (j:cj)/\(f,k)∉l.take j/\aq W1.heap.size W1 wr) (λq _=>l.length-(intOf q).toNat)
 case atStart=>exact⟨0,cJ _,rfl,by simp,an _ _⟩
 case round=>
  obtain⟨j,hj,rfl,hx,d⟩:=hrel
  by_cases rK:j<l.length
  ·obtain⟨⟨a,b⟩,hy⟩:∃y,l[j]?=qt y:=⟨_,am rK⟩
   have sy:(j:cj)<(l.length:cj):=by omega
   obtain⟨g,rfl,hg,hc⟩:=mO Cy 2 (λ_=>rfl) H1.out hy;have e0:wr.cell? ⟨g,j*2,qu⟩=qt (Z U a):=by rw[d.cell (p:=⟨g,j*2,qu⟩) hg];exact hc 0 _ rfl
   have e1:wr.cell? ⟨g,j*2+1,qu⟩=qt (Z U b):=by rw[d.cell (p:=⟨g,j*2+1,qu⟩) hg];exact hc 1 _ rfl
   have rL:=(d.block N (aa rI.out)).trans rI.out;obtain⟨S,D⟩:=zE ((λw'=>w'=wr.drew):World->Prop);have sB:S wr.drew:=by rw[<-D]
   have sf:ca (∀W,S W->∀q u,(#[Z U f,Z U k]:cG bw).toList[q]?=qt u->W.cell? ((⟨N,0,qu⟩:oA).add q)=qt u):=λW o q u G=>by
    rw[<-D] at o;subst o;rw[cM,cH,bh _ _ _ _ _ _ (show wr.drew.heap[N]?=_ from rL)];simpa using G
   have sk:ca (∀W,S W->∀q u,(#[Z U a,Z U b]:cG bw).toList[q]?=qt u->W.cell? ((⟨g,j*2,qu⟩:oA).add q)=qt u):=λW o q u G=>by
    rw[<-D] at o;subst o;rw[cM]
    show wr.cell? _=_
    rcases q with _|_|q
    ·rw[<-(show _=qt u from G)];exact e0
    ·rw[<-(show _=qt u from G)];exact e1
    ·simp at G
   have sn:g<wr.heap.size:=cn hg d.size;have rn:ca (∀W,S W->g<W.heap.size):=λW o=>by
    rw[<-D] at o;subst o;exact sn
   have rr:=Co a b f k;obtain⟨q,hq⟩:=zE (a==f&&b==k);rw[hq] at rr;have sq:=zH rr;have HQ:=zH hq;have rv:=zH d.drew;have HY:=zH hy;have HX:=zH hx;have sE:ac.eqGuardType ac.depth 67=qS:=by kernel_rfl
   clear hc e0 e1 rL D rr hq d hy hx hg
   go_upto_region 4 with(fail)
   refine ah 5 S (by kernel_rfl) ?_;refine zT 0 rfl rn.out ?_;(try go_simp);refine zT 1 rfl rn.out ?_;(try go_simp);refine zT 2 rfl rn.out ?_;(try go_simp);refine zL 3 rfl 67 ⟨g,j*2,qu⟩ sk.out pn ?_;(try go_simp);refine zL 4 rfl 67 ⟨N,0,qu⟩ sf.out pn ?_;(try go_simp);refine zK rfl λK' hK=> ?_;have rN:=sq.out;go_simp;(try simp only[rN]);(try go_simp);refine hK _ _ ?_;clear hK rN;refine⟨by kernel_rfl, ?_⟩;cases q with
   |true=>
    have rl:=HQ.out;rw[eK,nB,nB] at rl;have rx:ca (R=(j:cj)):=by
     unfold ca;rw[<-HR.out,jI l 0 j hj HX.out,dT rK,(bl.1 HY.out).2];unfold kz;rw[cI (by rw[rl.1,rl.2]),cH]
    clear rl;go_wp2;go_ret;exact⟨by rw[rx.out];rfl,by first|exact A.out.trans (rv.out.mono A.out.size)|(rw[<-J];exact A.out.trans (rv.out.mono A.out.size))⟩
   |false=>
    have sr:ca ((f,k)∉l.take (j+1)):=lm HY.out HX.out (λe=>by
     have:=HQ.out;simp only[lz] at e;rw[e.1,e.2] at this;simp at this)
    go_wp2;go_roundw
    case rel=>exact⟨j+1,by omega,by go_num,sr.out,rv.out⟩
    case measure=>simp[intOf];omega
  ·have sx:j=l.length:=by omega
   have rx:ca (R= -1):=by
    unfold ca;rw[<-HR.out,jI l 0 j hj hx,sx,n8];rfl
   have rS:ca (aq w.heap.size w wr):=A.out.trans (d.mono A.out.size);clear hx d;go_wp2;go_ret;exact⟨by rw[rx.out];rfl,by first|exact rS.out|(rw[<-J];exact rS.out)⟩
end
theorem qD {m:Mo}{j k:cd}{g:Fn}{i:Ins}(d:m.fs[j]?=qt g)(f:g.c.ins[k]?=qt i):∃r,m.xi=m.upto j k g++((j:cj),(k:cj),i)::r:=by
 obtain⟨r,h⟩:=qy (k:=k+1) d;refine⟨r, ?_⟩;rw[h,nH f,eE];rfl
theorem mU:∀(a b:bm XI)(c:cd),aL c (a++b)=aL c a++aL (c+(aF a).length) b
 |[],b,c=>by simp[aL,aF]
 |x::a,b,c=>by
  have d:aL c (x::(a++b))=lK x.1 x.2.2 c++aL (c+(j3 x.1 x.2.1 x.2.2).length) (a++b):=rfl;have f:aL c (x::a)=lK x.1 x.2.2 c++aL (c+(j3 x.1 x.2.1 x.2.2).length) a:=rfl;have h:(aF (x::a)).length=(j3 x.1 x.2.1 x.2.2).length+(aF a).length:=by unfold aF;rw[dp,co]
  rw[gE,d,f,h,mU a b,eE,Nat.add_assoc]
theorem oh {f:cj}:∀(l:bm Ins)(k:cd),((dX f k l).map λx=>(x.1,x.2.1)).Nodup
 |[],_=>by simp[dX]
 |i::r,k=>by
  unfold dX;rw[kc,oT];refine⟨λh=> ?_,oh r (k+1)⟩;obtain⟨x,d,e⟩:=dd.1 h;obtain⟨_,_,o,_⟩:=kJ d;have:=eA mA e;simp only at this;omega
theorem qE:∀(l:bm Fn)(f:cd),((eZ f l).map λx=>(x.1,x.2.1)).Nodup
 |[],_=>by simp[eZ]
 |g::r,f=>by
  unfold eZ;rw[eS,iz];refine⟨oh _ _,qE r (f+1),λa d b h e=> ?_⟩;obtain⟨x,o,q⟩:=dd.1 d;obtain⟨y,u,v⟩:=dd.1 h;have A:=(kJ o).1;obtain⟨_,_,D,_⟩:=qx u;have G:x.1=y.1:=by
   have:=eA Prod.fst (q.trans (e.trans v.symm));exact this
  omega
theorem qF:∀l:bm XI,(aF l).Sublist (l.map λx=>(x.1,x.2.1))
 |[]=>by simp[aF]
 |x::r=>by
  have ih:=qF r;have e:aF (x::r)=j3 x.1 x.2.1 x.2.2++aF r:=by unfold aF;rw[dp]
  rw[e,kc];unfold j3
  split
  ·exact ih.cons_cons _
  ·exact ih.cons _
theorem xE (m:Mo):(aF m.xi).Nodup:=(qF _).nodup (qE _ _)
abbrev Mo.lf (m:Mo):Nd->cd->Prop:=Lf (aL 0 m.xi) (aR m.xi) (dN m.xi)
section
variable {m:Mo}{j k:cd}{g:Fn}{i:Ins}
theorem Cq (d:m.fs[j]?=qt g)(f:g.c.ins[k]?=qt i):((j:cj),(k:cj),i)∈m.xi:=by
 obtain⟨r,e⟩:=qD d f;rw[e];simp
theorem mV (d:m.fs[j]?=qt g)(f:g.c.ins[k]?=qt i){e:Nd×Nd}(h:e∈kQ (j:cj) i):e∈aR m.xi:=er.2 ⟨_,Cq d f,h⟩
theorem Cr (d:m.fs[j]?=qt g)(f:g.c.ins[k]?=qt i){e:Nd×Th}(h:e∈kR (j:cj) i):e∈dN m.xi:=er.2 ⟨_,Cq d f,h⟩
theorem fQ (d:dE m=0)(f:m.fs[j]?=qt g)(h:g.c.ins[k]?=qt i):aC m g i=0:=(lJ ((iR d).2.2.2.2.1 g (ce f))).2.2.2.2.2 i (ce h)
theorem dA {n:cd}{v:cj}(h:isVar n v=qv):0<=v/\v<n:=yK.1 h
theorem tQ {q:bm Vr}{o:cj}{p:Bool}(h:bN m q i o p=0):0<=i.f:=by
 unfold bN at h
 by_cases u:(aD m q i.a i.f).2≠0
 ·rw[cI u] at h;exact fL h u
 ·have d:(aD m q i.a i.f).2=0:=eq u
  unfold aD at d
  split at d
  ·exact fL d (by simp)
  ·split at d
   ·exact fL d (by simp)
   ·split at d
    ·exact fL d (by simp)
    ·omega
theorem Cs (q:dE m=0)(f:m.fs[j]?=qt g)(o:g.c.ins[k]?=qt i)(h:i.op=12):0<=i.d/\∃x:cd,kz ((j:cj),(k:cj)) 0 (aF m.xi)=(x:cj)/\m.lf (aQ j i.d) x:=by
 obtain⟨_,_,_,u,_⟩:=dQ (fQ q f o);refine⟨(dA (u (by rw[h];rfl))).1,(aF (m.upto j k g)).length, ?_, ?_⟩
 ·refine Cn ?_ (xE m)
  obtain⟨r,e⟩:=qD f o;rw[e];unfold aF;rw[el,dp,fi (bp _),Nat.sub_self];unfold j3;simp only[h];rfl
 ·refine .base ?_
  obtain⟨r,e⟩:=qD f o;rw[e,mU,cH];refine de _ ?_;unfold aL lK;simp only[h];simp
theorem A7 (q:dE m=0)(f:m.fs[j]?=qt g)(o:g.c.ins[k]?=qt i)(h:i.op=9):0<=i.a/\0<=i.d/\∀x,m.lf (aQ j i.a) x->m.lf (aQ j i.d) x:=by
 obtain⟨_,_,u,v,_⟩:=dQ (fQ q f o);refine⟨(dA (u i.a (by unfold readsOf;rw[h];simp[rM]))).1,(dA (v (by rw[h];rfl))).1,λx y=> .edge (mV f o ?_) y⟩;unfold kQ;rw[cI h];simp
theorem A8 (u:dE m=0)(o:m.fs[j]?=qt g)(q:g.c.ins[k]?=qt i)(h:i.op=10):0<=i.a/\0<=i.d/\0<=i.f/\∀x y,m.lf (aQ j i.a) x->m.lf (kP x i.f) y->m.lf (aQ j i.d) y:=by
 have h0:=fQ u o q;obtain⟨_,_,v,A,_⟩:=dQ h0;refine⟨(dA (v i.a (by unfold readsOf;rw[h];simp[rM]))).1,(dA (A (by rw[h];rfl))).1, ?_,λx y D G=> .out (Cr o q ?_) D G⟩
 ·unfold aC aj at h0
  simp only[h] at h0;have J:bN m g.vs i i.d qv=0:=by
   generalize (aG g.vs.length (readsOf i++if ou 10=qv then[i.d] else[]))=z at h0;cases z with
   |false=>simp at h0
   |true=>simpa using h0
  exact tQ J
 ·unfold kR
  rw[cI h];simp
theorem Ct (v:dE m=0)(o:m.fs[j]?=qt g)(q:g.c.ins[k]?=qt i)(h:i.op=11):0<=i.a/\0<=i.b/\0<=i.f/\∀x y,m.lf (aQ j i.a) x->m.lf (aQ j i.b) y->m.lf (kP x i.f) y:=by
 have h0:=fQ v o q;obtain⟨_,_,u,J,_⟩:=dQ h0;refine⟨(dA (u i.a (by unfold readsOf;rw[h];simp[rM]))).1,(dA (u i.b (by unfold readsOf;rw[h];simp[qU]))).1, ?_,λx y A D=> .into (Cr o q ?_) A D⟩
 ·unfold aC aj at h0
  simp only[h] at h0;have G:bN m g.vs i i.b qv=0:=by
   generalize (aG g.vs.length (readsOf i++if ou 11=qv then[i.d] else[]))=z at h0;cases z with
   |false=>simp at h0
   |true=>simpa using h0
  exact tQ G
 ·unfold kR
  rw[cw (by omega),cI h];simp
theorem tT {f q:cj}{a:cj}:∀(l:bm cj)(c n:cd),l[n]?=qt a->(aQ f a,aQ q ((c+n:cd):cj))∈gG f q c l
 |[],_,_,h=>by simp at h
 |x::r,c,0,h=>by
  obtain rfl:x=a:=by simpa using h
  unfold gG;simp
 |x::r,c,n+1,h=>by
  unfold gG;have:=tT (f:=f) (q:=q) r (c+1) n (by simpa using h);rw[show c+1+n=c+(n+1) by omega] at this;exact m5 _ this
theorem A9 (A:dE m=0)(o:m.fs[j]?=qt g)(u:g.c.ins[k]?=qt i)(h:i.op=15):0<=i.f/\0<=i.d/\(∀x,m.lf (kN i.f) x->m.lf (aQ j i.d) x)/\∀(n:cd)(a:cj),i.args[n]?=qt a->0<=a/\∀x,m.lf (aQ j a) x->m.lf (aQ i.f n) x:=by
 obtain⟨_,_,D,G,J⟩:=dQ (fQ A o u);refine⟨(yM (J h)).1,(dA (G (by rw[h];rfl))).1,λx v=> .edge (mV o u ?_) v,λn a y=>⟨(dA (D a ?_)).1,λx v=> .edge (mV o u ?_) v⟩⟩
 ·unfold kQ
  rw[cw (by omega),cI h];simp
 ·unfold readsOf
  rw[cI h];simp[ce y]
 ·unfold kQ
  rw[cw (by omega),cI h];have:=tT (f:=(j:cj)) (q:=i.f) i.args 0 n y;rw[cH] at this;exact ct _ this
theorem Cu (o:dE m=0)(d:m.fs[j]?=qt g)(f:g.c.ins[k]?=qt i)(h:i.op=18):0<=i.a/\∀x,m.lf (aQ j i.a) x->m.lf (kN j) x:=by
 obtain⟨_,_,q,v,_⟩:=dQ (fQ o d f);refine⟨(dA (q i.a (by unfold readsOf;rw[h];simp[rM]))).1,λx u=> .edge (mV d f ?_) u⟩;unfold kQ;rw[cw (by omega),cw (by omega),cI h];simp
theorem zI (d:dE m=0)(f:m.fs[j]?=qt g)(o:g.c.ins[k]?=qt i)(h:i.op=15):∀y∈i.args,0<=y/\y<g.vs.length:=λy q=>by
 obtain⟨_,_,u,_⟩:=dQ (fQ d f o);refine dA (u y ?_);unfold readsOf;rw[cI h];simp[q]
end
theorem qG {α β:Type}{f:α->β}{cells:β->cG bw}{d:cd}{w:World}{B:cd}{o:du oA}{xs:bm α}(h:aH (λa=>cells (f a)) d w B o xs):aH cells d w B o (xs.map f):=by
 intro v;obtain⟨b,A,D,G,J⟩:=h (λe=>v (by rw[e];rfl));refine⟨b,A,D,G,λi y q k u K=> ?_⟩;rw[jz] at q;obtain⟨x,R,rfl⟩:=gw.1 q;exact J i x R k u K
def Mo.lightL (m:Mo):Prop:=xK (m.ss.map St.s) (m.fs.map Fn.c)
theorem vJ (w:World)(m:Mo)(d:m.inn w):ft ac 70 #[rh m.cells] w (tV w w.heap.size m.lightL):=by
 have h:=tX w m.sA m.fA m.sC m.fC (m.ss.map St.s) (m.fs.map Fn.c) (qG d.srow) (qG d.frow) (by
  intro c o;obtain⟨f,q,rfl⟩:=dd.1 o;exact(d.fin f q).code.row) (by
  intro c o x u;obtain⟨f,q,rfl⟩:=dd.1 o;exact((d.fin f q).code.args x u).1) (by have:=d.ns;unfold dl at this;simpa using this) (by have:=d.nf;unfold dl at this;simpa using this)
 simp only[dj] at h;exact h
theorem kC {w:World}{m:Mo}(h:m.inn w)(u:m.lightL):eD w m:=by
 obtain⟨v,y,A,o,_⟩:=u;simp only[dj] at v y;refine⟨h,by omega,by omega,λs q=> ?_,λf d=> ?_,λf d i D=> ?_⟩
 ·have G:=A s.s (dd.2 ⟨s,q,rfl⟩)
  have h6:=G.1;rw[<-(h.sin s q).nf];omega
 ·obtain⟨J,K,_⟩:=o f.c (dd.2 ⟨f,d,rfl⟩)
  rw[<-(h.fin f d).nvars];omega
 ·obtain⟨J,K,_,g4,R⟩:=o f.c (dd.2 ⟨f,d,rfl⟩)
  exact(R i D).1
def Mo.short12 (m:Mo):Prop:=m.fs.length<=12/\m.xi.length<=400/\m.lightL
theorem Cv {w:World}{m:Mo}(v:m.inn w)(u:m.short12)(q:∀g∈m.fs,∀i∈g.c.ins,fI i.d/\fI i.a/\fI i.b/\fI i.f)(A:∀g∈m.fs,∀i∈g.c.ins,i.op=15->∀y∈i.args,fI y):lh w m:=
 ⟨kC v u.2.2,λg h i o=>⟨(q g h i o).1,(q g h i o).2.1,(q g h i o).2.2.1,(q g h i o).2.2.2,A g h i o⟩,u.2.1,by have:=u.1;omega⟩
theorem qH:∀(l:bm Fn)(f:cd),(eZ f l).length<=dm (l.map Fn.c)
 |[],_=>bp _
 |x::r,f=>by
  unfold eZ;have:=qH r (f+1);rw[co,kH,kc];unfold dm;omega
theorem Cw {m:Mo}(h:m.lightL):m.xi.length<=1200:=by
 have:=h.2.2.2.2;exact cE (qH _ _) this
theorem vK (w:World)(m:Mo)(v:m.inn w):ft ac 27 #[rh m.cells] w (tV w w.heap.size m.short12):=by
 obtain⟨M,hM⟩:=zE m;have HM:=zH hM;have rS:=zH v;have rx:=v.nf;have rB:=zH v.frow;have se:ca (∀f∈m.fs,f.c.ins.length<=dl):=λf y=>(v.fin f y).code.len;clear v hM;obtain⟨sA,sC,q,u,ss,fs⟩:=m;simp only at rx rB se;simp only[Mo.cells];obtain⟨N,A⟩:=zE w.heap.size;obtain⟨D,J⟩:=zE (w.alloc (rj #[ra sA ss.length sC,ra q fs.length u] 25));have K:D.heap[N]?=qt (rj #[ra sA ss.length sC,ra q fs.length u] 25 (0,0)):=by rw[<-J,<-A];exact alloc_at _ _
 have c1:D.cell? ⟨N,0,qu⟩=qt (ra sA ss.length sC):=(bh _ _ _ _ _ _ K).trans rfl;have c2:D.cell? ⟨N,1,qu⟩=qt (ra q fs.length u):=(bh _ _ _ _ _ _ K).trans rfl;have rl:=iF J;have rm:=zH (vJ D M (by rw[<-HM.out];exact rS.out.below rl));rw[<-HM.out] at rm;simp only[Mo.cells] at rm;have o:=zH rl;have sf:=zH J;have sy:=aa K;clear K rl J;unfold dl at rx;go_enter func27,ntmps27
 go_upto_region 1 with(fail)
 rw[sf.out]
 go_upto_region 3 with(fail)
 go_loopw [3,4] (λz c wr=>wr=D/\∃(j:cd) (x:cj),j<=fs.length/\j<=20/\c= Z U (j:cj)/\z= Z U x/\ca ((eZ 0 (fs.take j)).length<=1200->x=((eZ 0 (fs.take j)).length:cj))) (λ_ c _=>20-(intOf c).toNat)
 case atStart=>exact⟨rfl,0,0,cJ _,by omega,rfl,rfl,by unfold ca;simp[eZ]⟩
 case round=>
  obtain⟨rfl,j,x,hj,sB,rfl,rfl,R⟩:=hrel;have G:12<fs.length->∀b:Bool,b=qS->tV w w.heap.size (Mo.short12 ⟨sA,sC,q,u,ss,fs⟩) (rk (re b)) wr:=λ_ b d=>⟨b,rfl,λh=>by rw[d] at h;exact fL h (by decide),o.out⟩
  by_cases rn:j<fs.length
  ·have sk:(j:cj)<(fs.length:cj):=by omega
   by_cases sE:j<20
   ·have sL:(j:cj)<20:=by omega
    obtain⟨f,y⟩:∃f,fs[j]?=qt f:=⟨_,am rn⟩
    obtain⟨b,sn,rfl,d,rI⟩:=rB.out (by intro e;rw[e] at rn;simp at rn);have q7:wr.cell? ⟨b,sn+j*8+7,qu⟩=qt (ra f.c.insA f.c.ins.length f.c.insC):=by rw[o.out.cell (p:=⟨b,_,qu⟩) d];exact rI j f y 7 _ rfl
    have sq:ca ((eZ 0 (fs.take (j+1))).length<=1200->qr.wrap (x+(f.c.ins.length:cj))=((eZ 0 (fs.take (j+1))).length:cj)):=by
     unfold ca;rw[cZ y,nD,co,kH];intro h;rw[R.out (by omega),IntKind.wrap_i64];omega
    clear rI y G R;go_wp2;go_roundw
    case rel=>exact⟨trivial,j+1,_,by omega,by omega,by go_num,rfl,λh=>(IntWalk.i64_left _).symm.trans (sq.out h)⟩
    case measure=>simp[intOf];omega
   ·have rr:decide (fs.length<=12)=qS:=cv (by omega)
    have sR:decide ((j:cj)<20)=qS:=cv (by omega);have rv:decide ((fs.length:cj)<=12)=qS:=cv (by omega);go_wp2;go_ret;have:=G (by omega) _ rfl
    first|exact this|(rw[<-A];exact this)
  ·have sk:decide ((j:cj)<(fs.length:cj))=qS:=cv (by omega)
   have sr:j=fs.length:=by omega
   have sx:ca ((Mo.xi ⟨sA,sC,q,u,ss,fs⟩).length<=1200->x=((Mo.xi ⟨sA,sC,q,u,ss,fs⟩).length:cj)):=by
    have:=R.out;rw[sr,cT] at this;exact this
   clear R
   by_cases rr:fs.length<=12
   ·by_cases h4:x<=400
    ·clear G
     have rv:(fs.length:cj)<=12:=by omega
     go_wp2_with (go_at_call 70;refine rm.out.mono ?_;rintro e w2 ⟨b,rfl,d,rK⟩;have rL:=zH d;have rN:=zH rK;clear d rK)
     go_ret;exact⟨b,by cases b<;>rfl,λd=>⟨rr,by have h1:=sx.out (Cw (rL.out d));omega,rL.out d⟩,by first|exact o.out.trans (rN.out.mono o.out.size)|rw[<-A];exact o.out.trans (rN.out.mono o.out.size)⟩
    ·have sT:decide (x<=400)=qS:=cv h4
     have rv:(fs.length:cj)<=12:=by omega
     clear G;go_wp2;go_ret;exact⟨qS,rfl,λh=>fL h (by decide),by first|exact o.out|rw[<-A];exact o.out⟩
   ·have sX:decide (fs.length<=12)=qS:=cv rr
    have rv:decide ((fs.length:cj)<=12)=qS:=cv (by omega);go_wp2;go_ret;have:=G (by omega) _ rfl
    first|exact this|(rw[<-A];exact this)
end Go.Proofs.YtjomgckjhcfbgaaGreat
