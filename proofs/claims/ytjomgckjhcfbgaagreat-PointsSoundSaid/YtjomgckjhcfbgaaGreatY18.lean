/- Walks. -/
import Derived.Test.YtjomgckjhcfbgaaGreatY7
import Derived.Test.YtjomgckjhcfbgaaGreatY10
import Derived.Test.YtjomgckjhcfbgaaGreatY17
set_option maxRecDepth 100000
set_option maxHeartbeats 64000000
set_option linter.all false
namespace Go.Proofs.YtjomgckjhcfbgaaGreat
open Go.RowKit
open Go.Proofs.Tryz renaming prog→ac,underlying164→cX,underlying3→dj,underlying67→oR,underlying62→pL
open _root_.List renaming getElem?_eq_getElem→am,getElem?_eq_some_iff→ap,mem_of_getElem?→cf,length_append→cw,mem_singleton→cH,mem_append_left→cM,mem_append→cT,take_length→de,eq_nil_of_length_eq_zero→du,mem_map→dy,length_map→ei,flatMap_cons→el,mem_flatMap→em,mem_append_right→ep,getElem?_append_right→et,flatMap_append→eK,drop_eq_getElem_cons→eR,getElem?_map→fj,mem_cons→fy,map_append→fL,append_assoc→fR,cons_append→jt,nodup_append→lj,map_cons→lP,pairwise_map→nh,mem_mergeSort→ob,length_mergeSort→ox,mem_cons_of_mem→pn,length_take→pp,take_append_drop→px,take_succ_cons→qk,drop_length→qs,nodup_cons→rn
open Go.RowKit.Below renaming refl→aq
open Go.RowKit renaming Below→bh,Hid→cm
open _root_.Array renaming getElem?_eq_some_iff→bj
open _root_.Nat renaming lt_of_lt_of_le→bl,le_refl→ce,zero_le→cN,zero_add→cV,le_trans→cY,le_succ→ip,add_zero→mx,sub_self→m6,min_eq_left→sx,add_assoc→sB
open _root_ renaming List→bm,Int→bp,Nat→bx,if_neg→cE,decide_eq_false→cL,if_pos→cR,Array→da,decide_eq_true→ef,Option→eA,congrArg→eM,absurd→fW,beq_false_of_ne→gb,decide_eq_true_eq→ly,False→mb,beq_iff_eq→mN,Bool→nj,bne_iff_ne→qq,beq_self_eq_true→rr
open Go renaming cell_of_row→cc,Value→cd,run_storeCells_new→ct,storeCells→dr,maxLen→dT,wpQuiet_nil→eh,run_underlying→fN,Calls→gd,TypeId→gx,info_parts→gA,heap_alloc2_old→ia,Program→km
open Go.Value renaming oneCell'→cj,ownBlock→eJ,string→tM,slice→tP,pointer→tR,bool→tU,agg→tW,int→Z
open _root_.Option.some renaming inj→cD
open _root_.Prod.mk renaming injEq→cU
open Go.Addr renaming add_lit→dc
open _root_.Classical renaming byContradiction→er
open _root_.Bool renaming and_eq_true→eN,or_eq_true→hU,true→tE,false→tG
open Go.Sem renaming run_bind→ft
open _root_.Int renaming ofNat→gw,ofNat_inj→mu
open Go.Instr renaming lookup→gC
open Go.Op renaming equalIn→gE
open _root_.Option renaming map_eq_some_iff→i8,some→tB,none→tD
open Go.IntKind renaming wrap_i64→jx,i64→me,i64→U
open _root_.Prod renaming fst→lE,snd→oA
open Go.Result renaming andThen_ok→mA
open _root_.Std.Legacy.Range renaming forIn_eq_forIn_range'→oc,size→rm
open Go.Lib renaming hid→oS
open Go.Obj renaming cells→ua
open Go.Ending renaming returned→ub
open Tryz
section
open Go.RowKit Go.Maps
def Gu:yx:=⟨tD,0,tD,0,λ_=> .map tD,λ_=> tP tD 0 0,λ_=> tP tD 0 0⟩
def Hd:PS:=⟨[],[],[],[],[]⟩
def Gv (T HM FM GM:bx)(k:bx):PT:=if k=T then .top else if k=HM then .mh else if k=FM then .mf else if k=GM then .mg else .no
theorem Pm.fresh {T HM FM GM:bx}{m:Mo}{B:bx}{w:World}(f:w.heap[T]?=tB (ua (Cx m HM FM GM Gu 0 0) 148 (0,0)))
  (q:eH gT kS (.map tD) w HM 0 (λ_=> .map tD))(hF:eH gT kS (tP tD 0 0) w FM 0 (λ_=> tP tD 0 0))(u:eH gT kS (tP tD 0 0) w GM 0 (λ_=> tP tD 0 0))
  (n1:HM≠T)(n2:FM≠T)(n3:GM≠T)(n4:FM≠HM)(n5:GM≠HM)(n6:GM≠FM)(b0:B<=T)(b1:B<=HM)(b2:B<=FM)(b3:B<=GM):
  Pm T HM FM GM m B (Gv T HM FM GM) Gu Hd w:=by
 have v:∀(e:gx)(A:bx)(t:PT),tu w B (Gv T HM FM GM) e A (tP tD 0 0) [] 0 t:=λe A t=>⟨tD,0,rfl,World.ownsRow_nil _ _ _ _,λj hj=>by simp[eJ] at hj⟩
 refine⟨f,⟨0,q⟩,⟨0,hF⟩,⟨0,u⟩,World.ownsRow_nil _ _ _ _,World.ownsRow_nil _ _ _ _,λn _=> .inl ⟨rfl,λx h=>by cases h⟩,λn _=>v _ _ _,λn _=>v _ _ _, ?_, ?_, ?_, ?_,
  λk d=>by simp[eJ,Gu] at d,λk d=>by simp[eJ,Gu] at d,λk d=> ?_,by simp[Hd],by simp[Hd],by simp[Hd]⟩
 ·unfold Gv;rw[cR rfl]
 ·unfold Gv;rw[cE n1,cR rfl]
 ·unfold Gv;rw[cE n2,cE n4,cR rfl]
 ·unfold Gv;rw[cE n3,cE n5,cE n6,cR rfl]
 ·unfold Gv at d
  by_cases D:k=T
  ·rw[D];exact⟨b0,(bj.1 f).1⟩
  rw[cE D] at d
  by_cases G:k=HM
  ·rw[G];exact⟨b1,q.lt⟩
  rw[cE G] at d
  by_cases J:k=FM
  ·rw[J];exact⟨b2,hF.lt⟩
  rw[cE J] at d
  by_cases e3:k=GM
  ·rw[e3];exact⟨b3,u.lt⟩
  rw[cE e3] at d;exact fW rfl d
end
section
open Go.RowKit Go.Maps
structure mF (w:World)(m:Mo):Prop where
 ri:dR w m
 wf:∀g∈m.fs,∀i∈g.c.ins,fO i.d/\fO i.a/\fO i.b/\fO i.f/\(i.op=15->∀y∈i.args,fO y)
 ni:m.xi.length<=400
 nf:m.fs.length<=60
theorem dR.belowP {w w':World}{m:Mo}(h:dR w m)(d:bh w.heap.size w w'):dR w' m:=⟨h.mo.below d,h.sl,h.fl,h.fd,h.vl,h.al⟩
theorem ER {g:Fn}{w:World}:∀(c:da cd),c.size=8->(dr ⟨w.heap.size,0,tD⟩ g.c.cells.toList 0).run ac (w.alloc (ua c 38))= .ok () (w.alloc (ua g.c.cells 38)):=λc d=>
 ct (P:=ac) w 38 c g.c.cells (by show _=tB 8;kernel_rfl) d (by simp[qp.cells,cj])
theorem tQ {i:Ins}(d:i.ok){w:World}:∀(c:da cd),c.size=13->(dr ⟨w.heap.size,0,tD⟩ i.cells.toList 0).run ac (w.alloc (ua c 42))= .ok () (w.alloc (ua i.cells 42)):=λc f=>by
 obtain⟨⟨u,cap,h⟩,v,n2,A,q⟩:=d;exact ct (P:=ac) w 42 c i.cells (by show _=tB 13;kernel_rfl) f (by simp[Ins.cells,h,q,cj])
theorem mV {f:bp}{x:XI}:∀{l:bm Ins}{k:bx},x∈eu f k l->x.1=f/\x.2.2∈l/\(k:bp)<=x.2.1/\x.2.1<(k+l.length:bx)
 |[],_,h=>by simp[eu] at h
 |i::r,k,h=>by
  unfold eu at h;rcases fy.1 h with rfl|h
  ·exact⟨rfl,by simp,by simp,by simp;omega⟩
  ·obtain⟨a,b,c,d⟩:=mV h
   exact⟨a,by simp[b],by omega,by simp at d⊢;omega⟩
theorem tT {x:XI}:∀{l:bm Fn}{f:bx},x∈eZ f l->∃g∈l,(f:bp)<=x.1/\x.1<(f+l.length:bx)/\x.2.2∈g.c.ins/\0<=x.2.1/\x.2.1<(g.c.ins.length:bx)
 |[],_,h=>by simp[eZ] at h
 |g::r,f,h=>by
  unfold eZ at h;rcases cT.1 h with h|h
  ·obtain⟨a,b,c,d⟩:=mV h
   exact⟨g,by simp,by omega,by simp;omega,b,by omega,by omega⟩
  ·obtain⟨q,a,b,c,d⟩:=tT h
   exact⟨q,by simp[a],by omega,by simp at c⊢;omega,d⟩
theorem Aq:∀(a b:bm Fn)(f:bx),∃r,eZ f (a++b)=eZ f a++r
 |[],b,f=>⟨eZ f b,by simp[eZ]⟩
 |x::a,b,f=>by
  obtain⟨r,d⟩:=Aq a b (f+1);refine⟨r, ?_⟩;rw[jt];unfold eZ;rw[d,fR]
theorem wP {f:bp}:∀(a b:bm Ins)(k:bx),∃r,eu f k (a++b)=eu f k a++r
 |[],b,k=>⟨eu f k b,by simp[eu]⟩
 |x::a,b,k=>by
  obtain⟨r,d⟩:=wP a b (k+1);exact⟨r,by rw[jt];unfold eu;rw[d];rfl⟩
def Mo.upto (m:Mo)(j k:bx)(g:Fn):bm XI:=eZ 0 (m.fs.take j)++eu (j:bp) 0 (g.c.ins.take k)
theorem wQ (m:Mo)(j:bx)(g:Fn):m.upto j 0 g=eZ 0 (m.fs.take j):=by simp[Mo.upto,eu]
theorem qi {m:Mo}{j:bx}{g:Fn}(h:m.fs[j]?=tB g):m.upto j g.c.ins.length g=eZ 0 (m.fs.take (j+1)):=by
 unfold Mo.upto;have d:=(ap.1 h).1;rw[de,dL h,qd,cV,pp,sx (by omega)]
theorem kE {m:Mo}{j k:bx}{g:Fn}{i:Ins}(h:g.c.ins[k]?=tB i):m.upto j (k+1) g=m.upto j k g++[((j:bp),(k:bp),i)]:=by
 unfold Mo.upto;have d:=(ap.1 h).1;rw[dL h,sP,cV,pp,sx (by omega),fR]
theorem pu {m:Mo}{j k:bx}{g:Fn}(h:m.fs[j]?=tB g):∃r,m.xi=m.upto j k g++r:=by
 obtain⟨u,d⟩:=Aq (m.fs.take (j+1)) (m.fs.drop (j+1)) 0;rw[px,<-qi h] at d;obtain⟨v,q⟩:=wP (f:=(j:bp)) (g.c.ins.take k) (g.c.ins.drop k) 0;rw[px] at q;refine⟨v++u, ?_⟩;unfold Mo.xi;rw[d];unfold Mo.upto;rw[de,q];simp[fR]
theorem mF.okXs {w:World}{m:Mo}(h:mF w m):∀x∈m.xi,Cz x:=λx q=>by
 obtain⟨g,d,A,D,f,G,J⟩:=tT q;obtain⟨w1,w2,u,v,w5⟩:=h.wf g d _ f;have hf:=h.nf;have:g.c.ins.length<=dT:=(h.ri.mo.fin g d).code.len;unfold dT at this;exact⟨⟨by omega,by omega⟩,⟨by omega,by omega⟩,w1,w2,u,v,w5,h.ri.al g d _ f⟩
def Ga (T HM FM GM:bx)(m:Mo)(B:bx)(d:World)(p:PS)(w:World):Prop:=
 ∃tg s,Pm T HM FM GM m B tg s p w/\bh B d w
theorem Ga.of {T HM FM GM:bx}{m:Mo}{B:bx}{d w w':World}{p p':PS}{tg:bx->PT}{s:yx}{Zk:PT->Prop}(h:Pm T HM FM GM m B tg s p w)(f:bh B d w)(u:bF Zk T HM FM GM m B tg p' w w'):Ga T HM FM GM m B d p' w':=by
 obtain⟨tg',s',v,A,G⟩:=u;exact⟨tg',s',v,f.trans (A.below h.base (λq D=>(h.lo q D.1).1))⟩
theorem Ga.grow {T HM FM GM:bx}{m:Mo}{B:bx}{d w w':World}{p:PS}(h:Ga T HM FM GM m B d p w)(f:bh w.heap.size w w'):Ga T HM FM GM m B d p w':=by
 obtain⟨tg,s,q,u⟩:=h;exact⟨tg,s,q.grow f,u.trans (f.mono q.base)⟩
end
section
open Go.RowKit Go.Maps
theorem BV {w d:World}{D B:bx}{m:Mo}(f:w.heap.size=D)(u:B<=D)
  (q:(((w.alloc (.map #[] 0)).alloc (.map #[] 0)).alloc (.map #[] 0)).alloc (ua (Cx m D (D+1) (D+2) Gu 0 0) 148)=d):
  Pm (D+3) D (D+1) (D+2) m B (Gv (D+3) D (D+1) (D+2)) Gu Hd d:=by
 have s1:(w.alloc (.map #[] 0)).heap.size=D+1:=by simp[f]
 have v:((w.alloc (.map #[] 0)).alloc (.map #[] 0)).heap.size=D+2:=by simp[f]
 have A:(((w.alloc (.map #[] 0)).alloc (.map #[] 0)).alloc (.map #[] 0)).heap.size=D+3:=by simp[f]
 have G:bh (w.alloc (.map #[] 0)).heap.size (w.alloc (.map #[] 0)) d:=by
  rw[<-q];exact(((aq _ _).alloc (ce _) _).alloc (by simp) _).alloc (by simp) _
 have J:bh ((w.alloc (.map #[] 0)).alloc (.map #[] 0)).heap.size ((w.alloc (.map #[] 0)).alloc (.map #[] 0)) d:=by
  rw[<-q];exact((aq _ _).alloc (ce _) _).alloc (by simp) _
 have b3:bh (((w.alloc (.map #[] 0)).alloc (.map #[] 0)).alloc (.map #[] 0)).heap.size (((w.alloc (.map #[] 0)).alloc (.map #[] 0)).alloc (.map #[] 0)) d:=by
  rw[<-q];exact(aq _ _).alloc (ce _) _
 have m1:=(eH.made (ok:=gT) (kv:=kS) (z:= .map tD) w).ext (Ext.of_below_size (M:=λ_=>mb) G) (λh=>h);have m2:=(eH.made (ok:=gT) (kv:=kS) (z:= tP tD 0 0) (w.alloc (.map #[] 0))).ext (Ext.of_below_size (M:=λ_=>mb) J) (λh=>h);have m3:=(eH.made (ok:=gT) (kv:=kS) (z:= tP tD 0 0) ((w.alloc (.map #[] 0)).alloc (.map #[] 0))).ext (Ext.of_below_size (M:=λ_=>mb) b3) (λh=>h);rw[f] at m1;rw[s1] at m2;rw[v] at m3;refine Pm.fresh ?_ m1 m2 m3 (by omega) (by omega) (by omega) (by omega) (by omega) (by omega) (by omega) u (by omega) (by omega);rw[<-q,<-A];exact alloc_at _ _
def Ic (m:Mo)(D B:bx)(d:World)(l:bm XI)(wr:World):Prop:=∃p,J1 l p/\Ga (D+3) D (D+1) (D+2) m B d p wr
theorem tV (m:Mo)(w:World)(h:mF w m)(hr:bf m=0):
  gd ac 30 #[tW m.cells] w λe w'=>∃D p,e= ub (.tuple #[tR (tB ⟨D+3,0,tD⟩),Z U 0])/\p.td=[]/\p.St=aj m.xi/\(∀n y,(n,y)∈p.H↔Lf (aN 0 m.xi) (aV m.xi) (eP m.xi) n y)/\Ga (D+3) D (D+1) (D+2) m (w.heap.size+1) (w.alloc (ua m.cells 25)) p w':=by
 obtain⟨f,vy⟩:=zE w.heap.size;obtain⟨d,ur⟩:=zE (w.alloc (ua m.cells 25));have we:=iq ur;have xF:d.heap.size=f+1:=by rw[<-ur];simp[vy]
 have vi:d.heap[f]?=tB (ua m.cells 25 (0,0)):=by rw[<-ur,<-vy];exact alloc_at _ _
 rw[vy,ur];have wg:m.inn d:=h.ri.mo.below we;have vj:=zH (qM m d (dR.belowP h.ri we));rw[hr] at vj;have wi:=zH h.okXs;have AD:=zH wg;have HW:=zH h;have HR:=zH hr;have ud:=zH xF;have Cl:=zH vi;have AE:m.fs≠[]:=by
  intro e;have:=(dJ hr).2.2.2.2.2;unfold Mo.fnIx fT at this;rw[e] at this;simp at this
 obtain⟨fb,fo,va,wj,J⟩:=wg.frow AE;have wk:cm (∀W,bh d.heap.size d W->W.cell? ⟨f,0,tD⟩=tB (tP m.sA m.ss.length m.sC)/\W.cell? ⟨f,1,tD⟩=tB (tP (tB ⟨fb,fo,tD⟩) m.fs.length m.fC)/\f<W.heap.size):=λW hW=>by
  have r:=(hW.block f (ae vi)).trans vi;rw[<-va];exact⟨(rowAt r 0 rfl).1,(rowAt r 1 rfl).1,ae r⟩
 have AF:cm (∀W,bh d.heap.size d W->(∀(j:bx)(g:Fn),m.fs[j]?=tB g->∀(q:bx)(u:cd),g.c.cells.toList[q]?=tB u->W.cell? ⟨fb,fo+j*8+q,tD⟩=tB u)/\fb<W.heap.size):=λW hW=>⟨λj g hj q u hu=>by rw[hW.cell (p:=⟨fb,_,tD⟩) wj];exact J j g hj q u hu,bl wj hW.size⟩
 have AG:cm (w.alloc (ua #[tP m.sA m.ss.length m.sC,tP (tB ⟨fb,fo,tD⟩) m.fs.length m.fC] 25)=d):=by rw[<-va];exact ur
 obtain⟨k0,k1,k2⟩:=wk.out d (aq _ _);unfold Mo.cells at vj⊢;have AH:=zH va;rw[va] at vj⊢;clear h hr we xF vi wg ur va wj J;go_enter func30,ntmps30
 go_upto_region 1 with(fail)
 rw[AG.out]
 go_upto_region 2 with(go_at_call 53;refine vj.out.mono ?_;rintro e w1 ⟨rfl,xT⟩;have ya:=zH xT;clear xT)
 clear k0 k1 k2;obtain⟨k0,k1,k2⟩:=wk.out w1 ya.out;obtain⟨D,hD⟩:=zE w1.heap.size;obtain⟨W4,uv⟩:=zE ((((w1.alloc (.map #[] 0)).alloc (.map #[] 0)).alloc (.map #[] 0)).alloc (ua (Cx m D (D+1) (D+2) Gu 0 0) 148));have vm:bh d.heap.size d w1:=ya.out;have yb:f+1<=D:=by have:=vm.size;have:=ud.out;omega
 have yd:=BV hD yb uv;have ye:bh w1.heap.size w1 W4:=by rw[<-uv];exact((((aq _ _).alloc (ce _) _).alloc (by simp) _).alloc (by simp;omega) _).alloc (by simp;omega) _
 have wl:bh d.heap.size d W4:=vm.trans (ye.mono vm.size);have AI:cm (Ic m D (f+1) d [] W4):=⟨Hd,EE,_,_,yd,by rw[<-ud.out];exact wl⟩
 unfold Cx Gu at uv;rw[AH.out] at uv;have AK:=zH uv;have AM:=zH wl;have HD:=zH hD;clear vm uv ye wl yd hD yb;have AN:=@run_makeMap ac
 go_upto_region 5 with(fail)
 (try simp only[HD.out,sB,Nat.reduceAdd]);rw[AK.out];clear AN k0 k1 k2;obtain⟨k0,k1,k2⟩:=wk.out W4 AM.out
 go_upto_region 6 with(fail)
 clear k0 k1 k2
 go_loopw [24] (λkk wr=>∃j:bx,j<=m.fs.length/\kk= Z U (j:bp)/\Ic m D (f+1) d (eZ 0 (m.fs.take j)) wr) (λkk _=>m.fs.length-(intOf kk).toNat)
 case atStart=>exact⟨0,cN _,rfl,by rw[List.take_zero];exact AI.out⟩
 case round=>
  obtain⟨j,hj,rfl,vp⟩:=hrel;have ws:bh d.heap.size d wr:=by obtain⟨_,_,_,_,_,h2⟩:=vp;rw[ud.out];exact h2
  by_cases yi:j<m.fs.length
  ·obtain⟨g,hg⟩:∃g,m.fs[j]?=tB g:=⟨_,am yi⟩
   have Cp:(j:bp)<(m.fs.length:bp):=by omega
   have yk:=cf hg;obtain⟨J,CA⟩:=AF.out wr ws;have x0:=J j g hg 0 _ rfl;have x1:=J j g hg 1 _ rfl;have x2:=J j g hg 2 _ rfl;have x3:=J j g hg 3 _ rfl;have x4:=J j g hg 4 _ rfl;have x5:=J j g hg 5 _ rfl;have x6:=J j g hg 6 _ rfl;have x7:=J j g hg 7 _ rfl;rw[mx] at x0;have hst:=ER (g:=g) (w:=wr);have vq:=AD.out.fin g yk;have yp:g.c.ins≠[]:=by
    have AS:=jm ((dJ HR.out).2.2.2.2.1 g yk);intro e;have:=AS.2.1;rw[e] at this;simp at this
   obtain⟨ib,io,yq,yr,yv⟩:=vq.code.row yp;obtain⟨G,hG⟩:=zE wr.heap.size;obtain⟨W2,vc⟩:=zE (wr.alloc (ua g.c.cells 38));have yy:=iq vc;have wx:W2.heap[G]?=tB (ua g.c.cells 38 (0,0)):=by rw[<-vc,<-hG];exact alloc_at _ _
   have AT:cm (Ic m D (f+1) d (m.upto j 0 g) W2):=by
    obtain⟨p,h1,h2⟩:=vp;exact⟨p,by rw[wQ];exact h1,h2.grow yy⟩
   unfold qp.cells at hst wx vc;have yW:=zH vc;have zc:=zH wx;have HG:=zH hg;have AW:cm (∀(k:bx)(i:Ins),g.c.ins[k]?=tB i->∀(q:bx)(u:cd),i.cells.toList[q]?=tB u->d.cell? ⟨ib,io+k*13+q,tD⟩=tB u):=yv;have A0:=zH vq;have A2:=zH yq;have A4:g.c.ins.length<=dT:=vq.code.len;unfold dT at A4;have CC:=HW.out.nf;have CD:f+1<=G:=by have:=ws.size;have:=ud.out;omega
   clear yq J vq yv yp yy wx vc vp ws
   go_upto_region 8 with(fail)
   (try rw[yW.out]);(try rw[hG]);clear x0 x1 x2 x3 x4 x5 x6 x7 hst hG yW;have g7:W2.cell? ⟨G,7,tD⟩=tB (tP g.c.insA g.c.ins.length g.c.insC):=(rowAt zc.out 7 rfl).1;have A5:=ae zc.out;rw[A2.out] at g7
   go_upto_region 9 with(fail)
   clear g7 A5
   go_loopw [32] (λkk wr=>∃k:bx,k<=g.c.ins.length/\kk= Z U (k:bp)/\Ic m D (f+1) d (m.upto j k g) wr) (λkk _=>g.c.ins.length-(intOf kk).toNat)
   case atStart=>exact⟨0,cN _,rfl,AT.out⟩
   case round=>
    obtain⟨k,hk,rfl,p,uc,tg,s,hP,ue⟩:=hrel
    by_cases zd:k<g.c.ins.length
    ·obtain⟨i,hi⟩:∃i,g.c.ins[k]?=tB i:=⟨_,am zd⟩
     have zj:=cf hi;have CH:(k:bp)<(g.c.ins.length:bp):=by omega
     obtain⟨zp,ga,gc,vr,zr⟩:=A0.out.code.args i zj;have hst:=tQ (i:=i) zp (w:=wr);obtain⟨_,mo,mn,mc,vu⟩:=zp;have vd:bh d.heap.size d wr:=by rw[ud.out];exact ue
     have v:∀(q:bx)(u:cd),i.cells.toList[q]?=tB u->wr.cell? ⟨ib,io+k*13+q,tD⟩=tB u:=λq u hu=>by rw[vd.cell (p:=⟨ib,_,tD⟩) yr];exact AW.out k i hi q u hu
     have CM:ib<wr.heap.size:=bl yr vd.size;have x0:=v 0 _ rfl;have x1:=v 1 _ rfl;have x2:=v 2 _ rfl;have x3:=v 3 _ rfl;have x4:=v 4 _ rfl;have x5:=v 5 _ rfl;have x6:=v 6 _ rfl;have x7:=v 7 _ rfl;have x8:=v 8 _ rfl;have x9:=v 9 _ rfl;have A6:=v 10 _ rfl;have Bk:=v 11 _ rfl;have Bm:=v 12 _ rfl;rw[mx] at x0;rw[vr] at x7;rw[vu] at x8;obtain⟨Q,hQ⟩:=zE wr.heap.size;obtain⟨W5,ux⟩:=zE (wr.alloc (ua i.cells 42));have xf:=iq ux;have vx:W5.heap[Q]?=tB (ua i.cells 42 (0,0)):=by rw[<-ux,<-hQ];exact alloc_at _ _
     have xj:=hP.grow xf;have xl:bh d.heap.size d W5:=vd.trans (xf.mono vd.size);have xo:=pu (k:=k) HG.out;have xp:=pu (k:=k+1) HG.out;rw[kE hi] at xp;have zv:Cz ((j:bp),(k:bp),i):=wi.out _ (by obtain⟨r,e⟩:=xp;rw[e];simp);have An:(m.upto j k g).length<=400:=by obtain⟨r,e⟩:=xo;have:=HW.out.ni;rw[e,cw] at this;omega
     have As:∀x∈m.upto j k g,x.2.2.args.length<=40:=λx hx=>(wi.out x (by obtain⟨r,e⟩:=xo;rw[e];simp[hx])).2.2.2.2.2.2.2;obtain⟨e1,e2,e3,e4⟩:=(uc.settled (av 0 0) 0).lens As An;have By:=dN (l:=m.upto j k g);have vf:=vN W5 d xj (by have:=ud.out;omega) xl (j:bp) (k:bp) i ga gc vr ⟨mo,mn,mc,vu⟩ zr.at_ zv (λn x hx=>by have:=ed (uc.snd _ hx);omega) (by rw[uc.st];omega) e2 e4 e1 (by omega);unfold Ins.cells at hst ux vx vf;rw[vr,vu] at hst ux vx vf;have vf:=zH vf;have BE:=zH uc;have BT:=zH xj;have BY:cm (bh (f+1) d W5):=by rw[<-ud.out];exact xl
     have HI:=zH hi;have At:=zH ux;have A:=zH vx;clear vd v xf vx ux vr vu zr hi zj hP ue uc xj xl xo xp zv An As e1 e2 e3 e4 By
     go_upto_region 11 with(fail)
     (try rw[At.out]);(try rw[hQ]);clear x0 x1 x2 x3 x4 x5 x6 x7 x8 x9 A6 Bk Bm hst hQ At;obtain⟨z0,z1,z2,z3,z4,z5,z6,z7,z8,z9,CN,CT,C3⟩:(_/\_/\_/\_/\_/\_/\_/\_/\_/\_/\_/\_/\_):=⟨(rowAt A.out 0 rfl).1,(rowAt A.out 1 rfl).1,(rowAt A.out 2 rfl).1,(rowAt A.out 3 rfl).1,(rowAt A.out 4 rfl).1,(rowAt A.out 5 rfl).1,(rowAt A.out 6 rfl).1,(rowAt A.out 7 rfl).1,(rowAt A.out 8 rfl).1,(rowAt A.out 9 rfl).1,(rowAt A.out 10 rfl).1,(rowAt A.out 11 rfl).1,(rowAt A.out 12 rfl).1⟩
     go_wp2_with (go_at_call 71;refine vf.out.mono ?_;rintro e w7 ⟨rfl,p',Ax,vh⟩;have xr:=zH vh;have B4:=zH Ax;clear vh Ax)
     go_roundw
     case rel=>exact⟨k+1,zd,by go_num,p',by rw[kE HI.out];exact BE.out.step B4.out,Ga.of BT.out BY.out xr.out⟩
     case measure=>simp[intOf];omega
    ·have B5:k=g.c.ins.length:=by omega
     have B6:cm (Ic m D (f+1) d (eZ 0 (m.fs.take (j+1))) wr):=⟨p,by rw[<-qi HG.out,<-B5];exact uc,tg,s,hP,ue⟩
     clear uc hP ue;go_wp2;go_roundw
     case rel=>exact⟨j+1,yi,by go_num,B6.out⟩
     case measure=>simp[intOf];omega
  ·have B8:j=m.fs.length:=by omega
   obtain⟨p,uc,tg,s,hP,ue⟩:=vp;have xt:J1 m.xi p:=by rw[B8,de] at uc;exact uc
   have B9:=zH (tN wr hP m.xi wi.out HW.out.ni xt);have HJ:=zH xt;have HP:=zH hP;have Cd:=zH ue;clear uc hP ue xt
   go_wp2_with (go_at_call 72;refine B9.out.mono ?_;rintro e w7 ⟨rfl,p',q1,q2,q3,vh⟩;have HQ:=zH (And.intro q1 (And.intro q2 q3));have xr:=zH vh;clear vh q1 q2 q3)
   go_ret2
   exact⟨D,p',rfl,HQ.out.1,HQ.out.2.1.trans HJ.out.st,HQ.out.2.2,Ga.of HP.out Cd.out xr.out⟩
end
section
open Go.RowKit Go.Maps
def rD (w:World)(B:bx)(v:cd)(H:bm (Nd×bx))(n:Nd)(l:bm bx):Prop:=
 aT w B v (l.map gw)/\l.Pairwise (·<·)/\∀x,x∈l↔(n,x)∈H
theorem Dx {xs:bm bp}(h:xs.Nodup):(fI xs).Pairwise (·<·):=by
 have d:(fI xs).Pairwise λx y=>decide (x<=y)=tE:=by
  unfold fI;exact List.pairwise_mergeSort (λa b c d f=>by simp only[ly] at*;omega) (λa b=>by simp only[hU,ly];omega) _
 have f:(fI xs).Nodup:=by
  unfold fI;exact(List.mergeSort_perm xs _).nodup_iff.2 h
 refine(d.and f).imp λ{a b} q=> ?_;have u:=q.1;have v:=q.2;simp only[ly] at u;omega
theorem ES {w:World}{B:bx}{v:cd}{xs S:bm bp}{H:bm (Nd×bx)}{n:Nd}(h:EG S xs)(u:∀z:bp,z∈S↔∃x:bx,z=(x:bp)/\(n,x)∈H)(A:aT w B v (fI xs)):∃l,rD w B v H n l/\l.length=xs.length:=by
 have D:∀z∈fI xs,0<=z:=λz d=>by
  have G:z∈xs:=by unfold fI at d;exact ob.1 d
  obtain⟨x,e,_⟩:=(u z).1 ((h.2 z).1 G);omega
 obtain⟨l,f⟩:∃l:bm bx,fI xs=l.map gw:=⟨(fI xs).map Int.toNat,by
  rw[List.map_map]
  conv=>lhs;rw[<-List.map_id (fI xs)]
  refine List.map_congr_left λz d=> ?_;have:=D z d;simp;omega⟩
 refine⟨l,⟨by rw[<-f];exact A, ?_,λx=> ?_⟩, ?_⟩
 ·have:=Dx h.1
  rw[f,nh] at this;exact this.imp λ{a b} q=>Int.ofNat_lt.1 q
 ·have J:x∈l↔(x:bp)∈fI xs:=by
   rw[f,dy];exact⟨λh=>⟨x,h,rfl⟩,λ⟨y,hy,e⟩=>by rw[<-mu.1 e];exact hy⟩
  have h2:(x:bp)∈fI xs↔(x:bp)∈xs:=by unfold fI;exact ob
  rw[J,h2,h.2,u];exact⟨λ⟨y,e,hy⟩=>by rw[mu.1 e];exact hy,λh=>⟨x,rfl,h⟩⟩
 ·have e:=eM List.length f
  rw[ei] at e;rw[<-e];unfold fI;rw[ox]
section
variable {T HM FM GM:bx}{m:Mo}{B:bx}{tg tg1:bx->PT}{s s1:yx}{p p1 p':PS}{w w1 w':World}
theorem kV (w:World)(h:Pm T HM FM GM m B tg s p w){n1 n2 n3:bp}(hn:gT (n1,n2,n3))(vj:∀n x,(n,x)∈p.H->x<=900000):
  gd ac 78 #[tR (tB ⟨T,0,tD⟩),tW #[Z U n1,Z U n2,Z U n3]] w λe w'=>∃l ao cap,e= ub (tP ao l.length cap)/\rD w' w.heap.size (tP ao l.length cap) p.H (n1,n2,n3) l/\bh w.heap.size w w':=by
 obtain⟨D,hD⟩:=zE w.heap.size;obtain⟨d,uc⟩:=zE (w.alloc (ua #[Z U n1,Z U n2,Z U n3] 164));have ur:=iq uc;have uv:d.heap[D]?=tB (ua #[Z U n1,Z U n2,Z U n3] 164 (0,0)):=by rw[<-uc,<-hD];exact alloc_at _ _
 have h1:=h.grow ur;obtain⟨S,ux,vm,vp,r0,va⟩:=(h1.hs _ hn).setV vj;obtain⟨v,hv⟩:=zE (s.hv (n1,n2,n3));rw[hv] at ux va;obtain⟨G,ud⟩:=zE ((λw'=>bh d.heap.size d w'):World->Prop);have ue:cm (∀W,bh d.heap.size d W->G W):=λW h=>by rw[<-ud];exact h
 have wj:G d.drew:=ue.out _ (aq _ _).drew;have q:cm (∀W,G W->W.cell? ⟨T,3,tD⟩=tB (.map (tB HM))/\T<W.heap.size/\(gC 143 (.map (tB HM)) (tW #[Z U n1,Z U n2,Z U n3]) tG).run ac W= .ok v W):=λW J=>by
  rw[<-ud] at J;have hg:=h1.grow J;refine⟨(rowAt hg.row 3 rfl).1,ae hg.row, ?_⟩;have:=hg.look hn;rw[hv] at this;exact this
 have vq:cm (∀W,G W->∀j u,(#[Z U n1,Z U n2,Z U n3]:da cd).toList[j]?=tB u->W.cell? ((⟨D,0,tD⟩:Addr).add j)=tB u):=λW J=>by
  rw[<-ud] at J;exact aS ((J.block D (ae uv)).trans uv)
 have wk:=zH ux;have wl:=zH vm;have ws:=zH vp;have wx:=zH va;have vc:=zH ur;have xf:=zH uc;have HD:=zH hD;clear h ur uv h1 ux vm vp va hv ud uc hD vj;go_enter func78,ntmps78
 go_upto_region 3 with(fail)
 rw[xf.out];(try rw[HD.out]);refine ak 8 G (by kernel_rfl) ?_;refine zT 0 rfl q.out ?_;(try go_simp);refine zT 1 rfl q.out ?_;(try go_simp);refine zT 2 rfl q.out ?_;(try go_simp);refine zT 3 rfl q.out ?_;(try go_simp);refine zL 4 rfl 164 ⟨D,0,tD⟩ vq.out cX ?_;(try go_simp);refine zT 5 rfl q.out ?_;(try go_simp);refine zO 6 rfl λK' f=> ?_;go_simp;have vr:=zH (mD d.drew v ⟨r0,wx.out⟩);go_at_call 123;refine vr.out.mono ?_;rintro e vd ⟨rfl,vf⟩;have A:bh d.heap.size d vd:=by
  rw[<-vf];exact(aq _ _).drew.alloc (ce _) _
 have vh:vd.heap[d.drew.heap.size]?=tB (ua #[v] 162 (0,0)):=by rw[<-vf];exact alloc_at _ _
 obtain⟨Q,hQ⟩:=zE d.drew.heap.size;rw[hQ] at vh⊢;have vu:=kD vd Q v S vh (wk.out.below A) ws.out;refine f _ _ (ue.out _ A) ?_;clear f;(try go_simp);refine zO 7 rfl λK' f=> ?_;go_simp;go_at_call 122;refine vu.mono ?_;rintro e xj ⟨xs,ax,cx,vx,rfl,vy,we⟩;have vi:bh d.heap.size d xj:=A.trans (we.mono A.size);refine f _ _ (ue.out _ vi) ?_;clear f vu;(try go_simp);refine zK rfl λK' f=> ?_;go_simp;refine f _ _ ?_;clear f;refine⟨by kernel_rfl, ?_⟩;obtain⟨l,hl,wg⟩:=ES vx wl.out (vy.mono (cY vc.out.size A.size));have HL:=zH hl;have wi:=zH wg;have xl:=zH vi;clear hl wg vi we A vy vx vh vf vr hQ vq q ue wj;go_wp2;go_ret;refine⟨l,ax,cx,by rw[wi.out];rfl, ?_,vc.out.trans (xl.out.mono vc.out.size)⟩;rw[wi.out];exact HL.out
end
end
section
open Go.RowKit Go.Maps
def yB (H:bm (Nd×bx))(n:Nd)(w:World)(e:Ending)(w':World):Prop:=
 ∃l d cap,e= ub (tP d l.length cap)/\rD w' w.heap.size (tP d l.length cap) H n l/\bh w.heap.size w w'
section
variable {T HM FM GM:bx}{m:Mo}{B:bx}{tg tg1:bx->PT}{s s1:yx}{p p1 p':PS}{w w1 w':World}
theorem nJ (w:World)(r:eA Addr)(f v:bp)(d:f<0\/v<0):zS 44 #[.pointer r,Z U f,Z U v] w (tP tD 0 0):=by
 by_cases h:f<0
 ·go_enter func44,ntmps44
  go_wp2;go_ret;exact⟨rfl,rfl⟩
 ·have q:v<0:=by omega
  go_enter func44,ntmps44;go_wp2;go_ret;exact⟨rfl,rfl⟩
theorem kW (w:World)(h:Pm T HM FM GM m B tg s p w)(f v:bp)(ur:0<=f/\0<=v)(u:gT (av f v))(A:∀n x,(n,x)∈p.H->x<=900000):
  gd ac 44 #[tR (tB ⟨T,0,tD⟩),Z U f,Z U v] w (yB p.H (av f v) w):=by
 have HV:=zH (bT f v w);have H:=zH h;have uc:=zH A;have ud:=zH u;clear h u A;have h1:¬f<0:=by omega
 have h2:¬v<0:=by omega
 go_enter func44,ntmps44
 go_wp2_with (first
  |(go_at_call 77;refine HV.out.mono ?_;rintro e w2 ⟨rfl,d⟩;have HL:=zH (kV w2 (H.out.grow d) ud.out uc.out);have q:=zH d;clear d;unfold kS av)
  |(go_at_call 78;refine HL.out.mono ?_;rintro e w3 ⟨l,ao,cap,rfl,D,G⟩;have ue:=zH G;have J:=zH D;clear G D))
 go_ret;exact⟨l,ao,cap,rfl,⟨J.out.1.mono q.out.size,J.out.2⟩,q.out.trans (ue.out.mono q.out.size)⟩
theorem rq (w:World)(r:eA Addr)(f v:bp)(d:f<0\/v<0):zS 36 #[.pointer r,Z U f,Z U v] w (tP tD 0 0):=by
 by_cases h:f<0
 ·go_enter func36,ntmps36
  go_wp2;go_ret;exact⟨rfl,rfl⟩
 ·have q:v<0:=by omega
  go_enter func36,ntmps36;go_wp2;go_ret;exact⟨rfl,rfl⟩
theorem mG (w:World)(h:Pm T HM FM GM m B tg s p w)(f v:bp)(ur:0<=f/\0<=v)(u:gT (bN f v))(A:∀n x,(n,x)∈p.H->x<=900000):
  gd ac 36 #[tR (tB ⟨T,0,tD⟩),Z U f,Z U v] w (yB p.H (bN f v) w):=by
 have HV:=zH (nH f v w);have H:=zH h;have uc:=zH A;have ud:=zH u;clear h u A;have h1:¬f<0:=by omega
 have h2:¬v<0:=by omega
 go_enter func36,ntmps36
 go_wp2_with (first
  |(go_at_call 79;refine HV.out.mono ?_;rintro e w2 ⟨rfl,d⟩;have HL:=zH (kV w2 (H.out.grow d) ud.out uc.out);have q:=zH d;clear d;unfold kS bN)
  |(go_at_call 78;refine HL.out.mono ?_;rintro e w3 ⟨l,ao,cap,rfl,D,G⟩;have ue:=zH G;have J:=zH D;clear G D))
 go_ret;exact⟨l,ao,cap,rfl,⟨J.out.1.mono q.out.size,J.out.2⟩,q.out.trans (ue.out.mono q.out.size)⟩
theorem qj (w:World)(r:eA Addr)(f:bp)(d:f<0):zS 42 #[.pointer r,Z U f] w (tP tD 0 0):=by
 go_enter func42,ntmps42;go_wp2;go_ret;exact⟨rfl,rfl⟩
theorem lu (w:World)(h:Pm T HM FM GM m B tg s p w)(f:bp)(ur:0<=f)(u:gT (cZ f))(v:∀n x,(n,x)∈p.H->x<=900000):
  gd ac 42 #[tR (tB ⟨T,0,tD⟩),Z U f] w (yB p.H (cZ f) w):=by
 have J:=zH (jw f w);have H:=zH h;have uc:=zH v;have ud:=zH u;clear h u v;have h1:¬f<0:=by omega
 go_enter func42,ntmps42
 go_wp2_with (first
  |(go_at_call 83;refine J.out.mono ?_;rintro e w2 ⟨rfl,d⟩;have HL:=zH (kV w2 (H.out.grow d) ud.out uc.out);have q:=zH d;clear d;unfold kS cZ)
  |(go_at_call 78;refine HL.out.mono ?_;rintro e w3 ⟨l,ao,cap,rfl,A,D⟩;have ue:=zH D;have G:=zH A;clear D A))
 go_ret;exact⟨l,ao,cap,rfl,⟨G.out.1.mono q.out.size,G.out.2⟩,q.out.trans (ue.out.mono q.out.size)⟩
end
end
section
open Go.RowKit Go.Maps
theorem BX (x:bp)(w:World):(gC 162 (.map tD) (Z U x) tG).run ac w= .ok (tU tG) w:=by kernel_rfl
theorem iL (f v:bp)(w:World):zP 77 #[Z U f,Z U v] w (tW #[Z U f,Z U v,Z U (-1)]):=bT f v w
section
variable {T HM FM GM:bx}{m:Mo}{B:bx}{tg tg1:bx->PT}{s s1:yx}{p p1 p':PS}{w w1 w':World}
theorem yD (w:World)(T:bx)(f v x:bp)(u:f<0\/v<0):zP 33 #[tR (tB ⟨T,0,tD⟩),Z U f,Z U v,Z U x] w (tU tG):=by
 by_cases A:f<0
 ·clear u
  have t1:decide ((0:bp)<=f)=tG:=cL (by omega);go_enter func33,ntmps33
  go_upto_region 1 with(fail)
  refine zQ ?_
  repeat (go_big_quiet_step ((go_at_call 77;exact aW (iL _ _ _))))
  refine eh ?_;rintro _ ⟨q,rfl⟩;have d:=zH q.h;go_wp2;go_ret;exact⟨rfl,d.out⟩
 ·have D:v<0:=by omega
  clear u;have t0:decide ((0:bp)<=f)=tE:=ef (by omega);have t1:decide ((0:bp)<=v)=tG:=cL (by omega);go_enter func33,ntmps33
  go_upto_region 1 with(fail)
  refine zQ ?_
  repeat (go_big_quiet_step ((go_at_call 77;exact aW (iL _ _ _))))
  refine eh ?_;rintro _ ⟨q,rfl⟩;have d:=zH q.h;go_wp2;go_ret;exact⟨rfl,d.out⟩
theorem mH (w:World)(h:Pm T HM FM GM m B tg s p w)(f v x:bp)(G:0<=f/\0<=v)(d:gT (av f v))(A:fO x):
  ∃b:nj,(b=tE↔∃y:bx,x=(y:bp)/\(av f v,y)∈p.H)/\zP 33 #[tR (tB ⟨T,0,tD⟩),Z U f,Z U v,Z U x] w (tU b):=by
 have h1:¬f<0:=by omega
 have h2:¬v<0:=by omega
 have kT:∀q:BW w,q.w.cell? ⟨T,3,tD⟩=tB (.map (tB HM)):=λq=>(rowAt (h.grow q.h).row 3 rfl).1;have kL:∀q:BW w,T<q.w.heap.size:=λq=>ae (h.grow q.h).row;have J:∀q:BW w,(gC 143 (.map (tB HM)) (tW #[Z U f,Z U v,Z U (-1)]) tG).run ac q.w= .ok (s.hv (av f v)) q.w:=λq=>(h.grow q.h).look d;obtain⟨vv,u⟩:=zE (s.hv (av f v));obtain⟨b,D,ks⟩:∃b:nj,(b=tE↔∃y:bx,x=(y:bp)/\(av f v,y)∈p.H)/\∀q:BW w,(gC 162 vv (Z U x) tG).run ac q.w= .ok (tU b) q.w:=by
  have:=h.hs _ d;rw[u] at this;rcases this with⟨e,h0⟩|⟨b,c,S,e,hs,_,hS,_⟩
  ·exact⟨tG,⟨λh=>by simp at h,λ⟨y,_,hy⟩=>fW hy (h0 y)⟩,λq=>by rw[e];exact BX x q.w⟩
  ·refine⟨decide (x∈S),by rw[ly];exact hS x,λq=> ?_⟩
   rw[e];exact(hs.ext (Ext.of_below_size (M:=λ_=>mb) q.h) (λh=>h)).look A
 rw[u] at J;refine⟨b,D, ?_⟩;have t0:decide ((0:bp)<=f)=tE:=ef (by omega);have t1:decide ((0:bp)<=v)=tE:=ef (by omega);clear h d A D u G;go_enter func33,ntmps33
 go_upto_region 1 with(fail)
 refine zQ ?_
 repeat (go_big_quiet_step ((go_at_call 77;exact aW (iL _ _ _))))
 refine eh ?_;rintro _ ⟨q,rfl⟩;have HB:=zH q.h;go_wp2;go_ret;exact⟨rfl,HB.out⟩
end
end
section
open Go.RowKit Go.Maps
theorem Dy:(ac.info? 67).map (λi=>(i.zero,i.size,i.bytes))=tB (tB (tW #[Z U 0,Z U 0]),2,16):=by kernel_rfl
theorem yE (w:World)(v:cd)(n:bx)(xs:bm cd)(base:bx)(d:w.ownsRow base 67 2 v n xs)(D:∀u∈xs,u.oneCell'=tE)(hn:n<=90000):
  gd ac 73 #[v] w λe w'=>∃G,e= ub G/\w'.ownsRow w.heap.size 67 2 G n xs/\bh w.heap.size w w':=by
 have vh:∀(w:World)(a:eA Addr)(n c f q:bx),(binOp .eql 62 (tP a n c) (tP tD f q)).run ac w= .ok (tU a.isNone) w:=λw a n c f q=>Lib.run_eql_slice_nil w _ _ a n c f q pL;rcases d.2 with⟨rfl,h0⟩|⟨g,cap,cur,rfl,h2,J,h4,h5,h6,h7⟩
 ·subst h0
  have hx:xs=[]:=du (by have:=d.1;omega);subst hx;clear d;go_enter func73,ntmps73;go_wp2;go_ret;exact⟨_,rfl,World.ownsRow_nil _ _ _ _,aq _ _⟩
 ·have HO:=oS d
  have HN:cm (xs.length=n*2):=d.1;have ue:=oS D;have HG:cm (g<w.heap.size):=(bj.1 J).1;clear h2 J h4 h5 h6 h7 D;have HC:cm (∀A,tB (⟨g,0,tD⟩:Addr)=tB A->∀j u,xs[j]?=tB u->(w.alloc (ua #[] 67)).cell? (A.add j)=tB u):=by
   intro A e j u hu;obtain rfl:=cD e;have:=HO.out.cells (g:=g) rfl j u hu;rw[dc,World.cell?_alloc_lt _ _ _ (by show g<_;exact HG.out)];rw[dc] at this;exact this
  have HE:cm ((w.alloc (ua #[] 67)).ownsRow w.heap.size 67 2 (tP (tB ⟨w.heap.size,0,tD⟩) 0 0) 0 []):=jM _ _ _ _ (ce _);obtain⟨i0,ur,uv,ux,va⟩:=gA Dy;clear d;go_enter func73,ntmps73
  go_wp2_with (at_builtin;refine jG rfl _ _ 62 rfl w.heap.size 67 i0 _ 2 16 pL ur uv ux va rfl (by decide) _ 0 [] rfl HE.out (tB ⟨g,0,tD⟩) n cap xs rfl HN.out (λh=>by cases h) HC.out ue.out (by unfold dT;omega) (by omega) (by rw[World.size_alloc];omega) ?_;intro v7 w7 uc ud vc;have vd:=oS uc;have vf:=oS ud;clear uc ud vc)
  go_ret;refine⟨_,rfl, ?_, ?_⟩
  ·have:=vd.out
   simpa using this
  ·exact((aq _ _).alloc (ce _) _).grown vf.out (by rw[World.size_alloc];omega) (λk hk=>by have h9:tB w.heap.size=tB k:=hk;have:=cD h9;omega)
section
variable {T HM FM GM:bx}{m:Mo}{B:bx}{tg tg1:bx->PT}{s s1:yx}{p p1 p':PS}{w w1 w':World}
theorem nK (w:World)(h:Pm T HM FM GM m B tg s p w)(D:p.St.length<=90000):
  gd ac 31 #[tR (tB ⟨T,0,tD⟩)] w λe w'=>∃d,e= ub d/\w'.ownsRow w.heap.size 67 2 d p.St.length (p.St.flatMap pR)/\bh w.heap.size w w':=by
 have c2:w.cell? ⟨T,2,tD⟩=tB (tP s.siA p.St.length s.siK):=(rowAt h.row 2 rfl).1;have hT:=ae h.row;have G:=zH (yE w (tP s.siA p.St.length s.siK) p.St.length (p.St.flatMap pR) B h.srow (λu J=>by
  obtain⟨q,_,f⟩:=em.1 J;simp only[pR,fy,List.not_mem_nil,or_false] at f;rcases f with rfl|rfl<;>rfl) D)
 clear h;go_enter func31,ntmps31
 go_wp2_with (go_at_call 73;refine G.out.mono ?_;rintro e w3 ⟨v3,rfl,v,A⟩;have uc:=zH v;have ud:=zH A;clear v A)
 go_ret;exact⟨v3,rfl,uc.out,ud.out⟩
end
end
section
open Go.RowKit Go.Maps
theorem G6 {p:Pg}{V:bm Ty}{I:bm gB}{s:Sl}{d f:bx}(h:KB p V I):
  bf (jB p V I s d f)=0/\aj (jB p V I s d f).xi=[(0,0)]/\aN 0 (jB p V I s d f).xi=[(av 0 0,0)]/\aV (jB p V I s d f).xi=[(av 0 0,av 0 1),(av 0 2,cZ 0)]:=by
 obtain⟨q,u,v,D,rfl,l0,c0,l1,c1,l2,c2,l3,c3,rfl⟩:=h;obtain⟨G,A,J,h7⟩:=xR D;cases p;simp only at q u v A;subst q u v A;obtain⟨nm,pt,tg,ln,cl⟩:=G;obtain⟨rfl,rfl⟩:pt=tE/\tg=bS:=cU ..▸J;subst h7;refine⟨by kernel_rfl,by kernel_rfl,by kernel_rfl,by kernel_rfl⟩
theorem G7 {w:World}{p:Pg}{V:bm Ty}{I:bm gB}{s:Sl}{u v:bx}(h:KB p V I)(uc:(jB p V I s u v).inn w):mF w (jB p V I s u v):=by
 obtain⟨h1,h2,h3,h4,rfl,A,c0,D,c1,G,c2,J,c3,rfl⟩:=h;obtain⟨fd,h5,h6,h7⟩:=xR h4;have ud:p.fs.length=1:=by rw[h5];rfl
 refine⟨⟨uc,by simp[jB],by simp[jB],λx d=> ?_,λx d=> ?_,λx d i q=> ?_⟩,λx d i q=> ?_,by simp[Mo.xi,eZ,jB,mR,nP],by simp[jB]⟩
 ·obtain rfl:x=FC p:=by simpa[jB] using d
  show p.fs.length<=90000
  omega
 all_goals obtain rfl:x=nP p _ _ s:=by simpa[jB] using d
 ·show([(tE,bS),(tE,bS),bI].map Ep).length<=90000
  decide
 ·have f:i∈([⟨12,0,0,0,0,A,c0⟩,⟨9,1,0,0,0,D,c1⟩,⟨1,2,0,0,0,G,c2⟩,⟨18,0,2,0,0,J,c3⟩]:bm gB).map gB.ins:=q
  obtain⟨j,_,rfl⟩:=dy.1 f;exact cN _
 ·have f:i∈([⟨12,0,0,0,0,A,c0⟩,⟨9,1,0,0,0,D,c1⟩,⟨1,2,0,0,0,G,c2⟩,⟨18,0,2,0,0,J,c3⟩]:bm gB).map gB.ins:=q
  simp only[lP,List.map_nil,fy,List.not_mem_nil,or_false] at f;rcases f with rfl|rfl|rfl|rfl<;>refine⟨?_, ?_, ?_, ?_,λe=>fW e (by simp[gB.ins])⟩<;>(unfold fO gB.ins;dsimp only;omega)
theorem pz (w:World)(c d:da cd)(t:gx)(o:Obj):((w.alloc (ua c t)).alloc o).setRow w.heap.size d=(w.alloc (ua d t)).alloc o:=by
 have h:=eM World.heap (World.setRow_alloc_new w c d t);unfold World.setRow World.alloc at*;simp only at h⊢;congr 1;rw[<-h];apply Array.ext
 ·simp
 ·intro i f u
  simp only[Array.getElem_modify,Array.getElem_push];simp at f
  by_cases e:w.heap.size=i
  ·subst e
   simp
  ·rw[cE e]
   by_cases q:i<w.heap.size
   ·simp[q,show i<w.heap.size+1 by omega,e]
   ·simp[show¬i<w.heap.size+1 by omega]
theorem nk {P:km}(w:World)(t:gx)(c d:da cd)(o:Obj)(f:c.size=d.size)(h:∀v∈d.toList,v.oneCell'=tE):
  (dr ⟨w.heap.size,0,tD⟩ d.toList 0).run P ((w.alloc (ua c t)).alloc o)= .ok () ((w.alloc (ua d t)).alloc o):=by
 rw[run_storeCells_from w.heap.size t d.toList 0 c _ (ia _ _ _) (by simp[f]) h];simp[pz]
def IK (m:Mo):Prop:=bf m=0/\aj m.xi=[(0,0)]/\aN 0 m.xi=[(av 0 0,0)]/\aV m.xi=[(av 0 0,av 0 1),(av 0 2,cZ 0)]
theorem BZ (w:World):gd ac 52 #[tM C9] w λe w'=>∃m:Mo,IK m/\mF w' m/\e= ub (.tuple #[tW #[tP m.sA m.ss.length m.sC,tP m.fA m.fs.length m.fC],tW #[Z U 0,Z U 0,Z U 0,Z U 0]])/\bh w.heap.size w w':=
 (zq w).mono λ_ _ ⟨_,_,_,_,_,_,h1,h2,h3,h4⟩=>⟨_,G6 h1,G7 h1 h3,h2,h4⟩
theorem Dz {w:World}{a b:eA Addr}{n1 n2 c1 c2:bx}{o:Obj}:∀(c:da cd),c.size=2->(dr ⟨w.heap.size,0,tD⟩ [tP a n1 c1,tP b n2 c2] 0).run ac ((w.alloc (ua c 25)).alloc o)= .ok () ((w.alloc (ua #[tP a n1 c1,tP b n2 c2] 25)).alloc o):=λc d=>
 nk w _ c #[tP a n1 c1,tP b n2 c2] o (by rw[d];rfl) (by simp[cj])
theorem DC {w:World}{o:Obj}:∀(c:da cd),c.size=4->(dr ⟨w.heap.size+1,0,tD⟩ [Z U 0,Z U 0,Z U 0,Z U 0] 0).run ac ((w.alloc o).alloc (ua c 113))= .ok () ((w.alloc o).alloc (ua #[Z U 0,Z U 0,Z U 0,Z U 0] 113)):=λc d=>by
 have:=nQ (w:=w.alloc o) c d
 rwa [World.size_alloc] at this
theorem lw (m:Mo)(w:World)(h:mF w m)(d:bf m=0):
  gd ac 30 #[tW #[tP m.sA m.ss.length m.sC,tP m.fA m.fs.length m.fC]] w λe w'=>∃D p tg s,e= ub (.tuple #[tR (tB ⟨D+3,0,tD⟩),Z U 0])/\p.St=aj m.xi/\(∀n y,(n,y)∈p.H↔Lf (aN 0 m.xi) (aV m.xi) (eP m.xi) n y)/\Pm (D+3) D (D+1) (D+2) m (w.heap.size+1) tg s p w'/\bh w.heap.size w w':=by
 refine(tV m w h d).mono ?_;rintro e w' ⟨D,p,rfl,_,f,q,tg,s,u,v⟩;refine⟨D,p,tg,s,rfl,f,q,u, ?_⟩;have A:bh w.heap.size w (w.alloc (ua m.cells 25)):=(aq _ _).alloc (ce _) _;exact A.trans (v.mono (ip _))
theorem vO (w:World):zP 29 #[] w (tU tE):=by
 have HT:=zH (BZ w);go_enter func29,ntmps29
 go_upto_region 2 with(go_at_call 52;refine HT.out.mono ?_;rintro e w2 ⟨m,hA,hW,rfl,f⟩;have vu:=Dz (w:=w2) (a:=m.sA) (b:=m.fA) (n1:=m.ss.length) (n2:=m.fs.length) (c1:=m.sC) (c2:=m.fC) (o:= ua #[Z U 0,Z U 0,Z U 0,Z U 0] 113);have vx:=DC (w:=w2) (o:= ua #[tP m.sA m.ss.length m.sC,tP m.fA m.fs.length m.fC] 25);have uv:=zH f;have h:=zH hA;have q:=zH hW;clear f hA hW)
 obtain⟨D,G⟩:=zE w2.heap.size;obtain⟨u,v⟩:=zE ((w2.alloc (ua #[tP m.sA m.ss.length m.sC,tP m.fA m.fs.length m.fC] 25)).alloc (ua #[Z U 0,Z U 0,Z U 0,Z U 0] 113));have J:=Ir v;have A:=yP v G;rw[v,G];have vy:=zH (lw m u ⟨dR.belowP q.out.ri J,q.out.wf,q.out.ni,q.out.nf⟩ h.out.1);obtain⟨c0,c1⟩:u.cell? ⟨D,0,tD⟩=tB (tP m.sA m.ss.length m.sC)/\u.cell? ⟨D,1,tD⟩=tB (tP m.fA m.fs.length m.fC):=⟨(rowAt A 0 rfl).1,(rowAt A 1 rfl).1⟩
 have we:=ae A;have ux:cm (bh w.heap.size w u):=uv.out.trans (J.mono uv.out.size);clear vu vx J A G v
 go_upto_region 3 with(go_at_call 30;refine vy.out.mono ?_;rintro e d ⟨Q,p,tg,s,rfl,hst,va,hP,vc⟩;have wg:=zH hst;have vd:=zH va;have HP:=zH hP;have vf:=zH vc;clear hst va hP vc)
 clear c0 c1 we;have vh:p.St.length=1:=by rw[wg.out,h.out.2.1];rfl
 have uc:=nK d HP.out (by omega);rw[vh] at uc;have wi:=zH uc;have vi:((av 0 0,0):Nd×bx)∈p.H:=(vd.out _ _).2 (.base (by rw[h.out.2.2.1];simp));have vj:((av 0 1,0):Nd×bx)∈p.H:=(vd.out _ _).2 (.edge (a:=av 0 0) (by rw[h.out.2.2.2];simp) (.base (by rw[h.out.2.2.1];simp)));have wj:cm (∀W,bh d.heap.size d W->zP 33 #[tR (tB ⟨Q+3,0,tD⟩),Z U 0,Z U 0,Z U 0] W (tU tE)):=λW hb=>by
  obtain⟨b,ud,f⟩:=mH W (HP.out.grow hb) 0 0 0 (by decide) (bY (by unfold fO;omega) (by unfold fO;omega)) (by unfold fO;omega);rw[ud.2 ⟨0,rfl,vi⟩] at f;exact f
 have wk:cm (∀W,bh d.heap.size d W->zP 33 #[tR (tB ⟨Q+3,0,tD⟩),Z U 0,Z U 1,Z U 0] W (tU tE)):=λW hb=>by
  obtain⟨b,ud,f⟩:=mH W (HP.out.grow hb) 0 1 0 (by decide) (bY (by unfold fO;omega) (by unfold fO;omega)) (by unfold fO;omega);rw[ud.2 ⟨0,rfl,vj⟩] at f;exact f
 clear vh uc vi vj
 go_wp2_with (go_at_call 31;refine wi.out.mono ?_;rintro e w5 ⟨v5,rfl,vm,vp⟩;obtain⟨a5,c5,wl⟩:=ai vm;subst wl;have ue:=zH vp;clear vp vm)
 refine(wj.out w5 ue.out).mono ?_;rintro e w6 ⟨rfl,vq⟩;have ur:cm (bh d.heap.size d w6):=ue.out.trans (vq.mono ue.out.size);clear vq
 go_wp2_with fail
 refine(wk.out w6 ur.out).mono ?_;rintro e w7 ⟨rfl,vr⟩;have ws:cm (bh d.heap.size d w7):=ur.out.trans (vr.mono ur.out.size);clear vr;go_wp2;go_ret;exact⟨rfl,ux.out.trans ((vf.out.trans (ws.out.mono vf.out.size)).mono ux.out.size)⟩
end
section
open Go.RowKit Go.Maps
theorem yF (m:Mo)(w:World)(A:dR w m)(h0:bf m≠0):
  zP 30 #[tW #[tP m.sA m.ss.length m.sC,tP m.fA m.fs.length m.fC]] w (.tuple #[tR tD,Z U (bf m)]):=by
 obtain⟨q,J⟩:=zE w.heap.size;obtain⟨d,f⟩:=zE (w.alloc (ua #[tP m.sA m.ss.length m.sC,tP m.fA m.fs.length m.fC] 25));have u:=iq f;have h:d.heap[q]?=tB (ua #[tP m.sA m.ss.length m.sC,tP m.fA m.fs.length m.fC] 25 (0,0)):=by rw[<-f,<-J];exact alloc_at _ _
 have v:=zH (qM m d (dR.belowP A u));obtain⟨F,hF⟩:=zE (bf m);rw[hF] at v h0;rw[hF];simp only[Mo.cells] at v;have uc:=zH f;have D:=zH u;have k0:d.cell? ⟨q,0,tD⟩=tB (tP m.sA m.ss.length m.sC):=zR h 0 _;have k1:d.cell? ⟨q,1,tD⟩=tB (tP m.fA m.fs.length m.fC):=zR h 1 _;have k2:=ae h;have e0:(F != 0)=tE:=by rw[qq];exact h0
 clear A f u h hF;unfold zP;go_enter func30,ntmps30
 go_upto_region 1 with(fail)
 rw[uc.out]
 go_wp2_with (go_at_call 53;refine v.out.mono ?_;rintro e w1 ⟨rfl,G⟩;have ud:=zH (D.out.trans (G.mono D.out.size));clear G)
 go_ret2
 exact⟨rfl,ud.out⟩
end
section
open Go.RowKit Go.Maps
theorem jS {α:Type}{l:bm α}{j:bx}{y x:α}(h:l[j]?=tB y)(d:x∉l.take j)(f:¬y=x):x∉l.take (j+1):=by
 rw[dL h,cT,cH];rintro(e|e)
 ·exact d e
 ·exact f e.symm
theorem Ca (w:World)(D:eA Addr)(l:bm bp)(c:bx)(x:bp)(h:aA w D l)(hl:l.length<=1000000):
  zS 35 #[tP D l.length c,Z U x] w (tU (decide (x∈l))):=by
 obtain⟨R,q⟩:=zE (decide (x∈l));rw[q];have G:=zH q;have H:=zH h;clear h q;go_enter func35,ntmps35
 go_upto_region 2 with(fail)
 go_loopw [5] (λk wr=>∃j:bx,j<=l.length/\k= Z U (j:bp)/\x∉l.take j/\wr=w) (λk _=>l.length-(intOf k).toNat)
 case atStart=>exact⟨0,cN _,rfl,by simp,rfl⟩
 case round=>
  obtain⟨j,hj,rfl,d,rfl⟩:=hrel
  by_cases u:j<l.length
  ·obtain⟨y,f⟩:∃y,l[j]?=tB y:=⟨_,am u⟩
   have ud:(j:bp)<(l.length:bp):=by omega
   obtain⟨g,ue,rfl,hg,v⟩:=H.out (λe=>by rw[e] at u;simp at u);have ur:=v j y f
   by_cases e:y=x
   ·have J:R=tE:=by rw[<-G.out];exact ef (by rw[<-e];exact cf f)
    have A:=zH J;subst e;have t1:(y==y)=tE:=rr y;clear v d f J;go_wp2;go_ret;exact⟨by rw[A.out];rfl,rfl⟩
   ·have HX:=zH (jS f d e)
    have t1:(y==x)=tG:=gb e;clear v d f;go_wp2;go_roundw
    case rel=>exact⟨j+1,by omega,by go_num,HX.out,trivial⟩
    case measure=>simp[intOf];omega
  ·have uc:j=l.length:=by omega
   rw[uc,de] at d;have A:cm (R=tG):=by unfold cm;rw[<-G.out];exact cL d
   clear d;go_wp2;go_ret;exact⟨by rw[A.out];rfl,rfl⟩
theorem Gx (w:World)(A h:eA Addr)(d f:bm bp)(c1 c2:bx)(D:aA w A d)(G:aA w h f)(n1:d.length<=1000000)(n2:f.length<=1000000)(J:∀x∈d,x∈f):
  zS 46 #[tP A d.length c1,tP h f.length c2] w (tU tE):=by
 have H1:=zH D;have HA:=zH J;have HH:cm (∀x,zS 35 #[tP h f.length c2,Z U x] w (tU (decide (x∈f)))):=λx=>Ca w h f c2 x G n2;clear D G J;go_enter func46,ntmps46
 go_upto_region 2 with(fail)
 go_loopw [5] (λk wr=>∃j:bx,j<=d.length/\k= Z U (j:bp)/\wr=w) (λk _=>d.length-(intOf k).toNat)
 case atStart=>exact⟨0,cN _,rfl,rfl⟩
 case round=>
  obtain⟨j,hj,rfl,rfl⟩:=hrel
  by_cases u:j<d.length
  ·obtain⟨y,v⟩:∃y,d[j]?=tB y:=⟨_,am u⟩
   have ud:(j:bp)<(d.length:bp):=by omega
   obtain⟨g,ue,rfl,hg,hc⟩:=H1.out (λe=>by rw[e] at u;simp at u);have ur:=hc j y v;have q:=HH.out y;rw[ef (HA.out y (cf v))] at q;have q:=zH q;clear hc v
   go_wp2_with (go_at_call 35;refine q.out.mono ?_;rintro e w2 ⟨rfl,rfl⟩)
   go_roundw
   case rel=>exact⟨j+1,by omega,by go_num,trivial⟩
   case measure=>simp[intOf];omega
  ·have uc:j=d.length:=by omega
   subst uc;go_wp2;go_ret;exact⟨rfl,rfl⟩
def nL (q:bp×bp):bx->bm (bp×bp)->bp
 |_,[]=> -1
 |n,a::r=>if a=q then(n:bp) else nL q (n+1) r
theorem kX {q:bp×bp}:∀(l:bm (bp×bp))(n j:bx),j<=l.length->q∉l.take j->nL q n l=nL q (n+j) (l.drop j)
 |[],n,j,h,_=>by
  obtain rfl:j=0:=by simpa using h
  rfl
 |a::r,n,0,_,_=>rfl
 |a::r,n,j+1,h,d=>by
  rw[qk,fy,not_or] at d;unfold nL;rw[cE (λe=>d.1 e.symm),kX r (n+1) j (by simpa using h) d.2,List.drop_succ_cons,show n+1+j=n+(j+1) by omega];cases f:r.drop j with
  |nil=>rfl
  |cons x y=>rfl
theorem jy {q:bp×bp}{l:bm (bp×bp)}{j:bx}(h:l[j]?=tB q)(d:l.Nodup):nL q 0 l=(j:bp):=by
 have f:=(ap.1 h).1;have u:q∉l.take j:=λv=>by
  have A:=px j l;rw[<-A,lj] at d;refine d.2.2 q v q ?_ rfl;rw[eR f,(ap.1 h).2];simp
 rw[kX l 0 j (by omega) u,eR f,(ap.1 h).2,cV];unfold nL;rw[cR rfl]
theorem Ar (p q a b:bp)(W:World):(binOp .eql 67 (tW #[Z U p,Z U q]) (tW #[Z U a,Z U b])).run ac W= .ok (tU (p==a&&q==b)) W:=by
 have d:∀w,(Go.sizeOf 3).run ac w= .ok 1 w:=Tryz.sizeOf3;have f:∀w,(isAgg 3).run ac w= .ok tG w:=Tryz.isAgg3;have h:∀(a b:bp)(w:World),(part 3 #[Z U a,Z U b] 0).run ac w= .ok (Z U a) w:=λa b w=>by simp[part,ft,d,f]
 have u:∀(a b:bp)(w:World),(part 3 #[Z U a,Z U b] 1).run ac w= .ok (Z U b) w:=λa b w=>by simp[part,ft,d,f]
 rw[run_eql_struct,show(10000:bx)=9998+1+1 from rfl];have v:∀(a b:bp)(w:World),(gE (9998+1) 3 (Z U a) (Z U b)).run ac w= .ok (a==b) w:=λa b w=>run_equalIn_int w 9998 3 .i64 .i64 a b dj;rw[Op.equalIn.eq_def];simp only[ft,fN oR,mA,d]
 by_cases A:p=a<;>by_cases D:q=b<;>simp[oc,rm,List.range'_succ,ft,h,u,v,A,D]
theorem G8 (w:World){B:bx}(v:cd)(l:bm (bp×bp))(f k:bp)(h:w.ownsRow B 67 2 v l.length (l.flatMap pR))(hl:l.length<=1000000):
  zP 34 #[v,tW #[Z U f,Z U k]] w (Z U (nL (f,k) 0 l)):=by
 obtain⟨ao,c,rfl⟩:=ai h;obtain⟨R,hR⟩:=zE (nL (f,k) 0 l);rw[hR];obtain⟨N,hN⟩:=zE w.heap.size;obtain⟨W1,uc⟩:=zE (w.alloc (ua #[Z U f,Z U k] 67));have ue:=iq uc;have vc:W1.heap[N]?=tB (ua #[Z U f,Z U k] 67 (0,0)):=by rw[<-uc,<-hN];exact alloc_at _ _
 have h1:=af h (Ext.of_below_size (M:=λ_=>mb) ue) (λ_ _ h=>h);have HR:=zH hR;have vd:=zH vc;have H1:=zH h1;have D:=zH ue;have vm:=zH uc;clear h hR vc h1 ue uc;go_enter func34,ntmps34
 go_upto_region 2 with(fail)
 rw[vm.out];(try rw[hN])
 go_loopw [5] (λq wr=>∃j:bx,j<=l.length/\q= Z U (j:bp)/\(f,k)∉l.take j/\bh W1.heap.size W1 wr) (λq _=>l.length-(intOf q).toNat)
 case atStart=>exact⟨0,cN _,rfl,by simp,aq _ _⟩
 case round=>
  obtain⟨j,hj,rfl,hx,d⟩:=hrel
  by_cases vf:j<l.length
  ·obtain⟨⟨a,b⟩,hy⟩:∃y,l[j]?=tB y:=⟨_,am vf⟩
   have we:(j:bp)<(l.length:bp):=by omega
   obtain⟨g,rfl,hg,hc⟩:=iI pR 2 (λ_=>rfl) H1.out hy;have e0:wr.cell? ⟨g,j*2,tD⟩=tB (Z U a):=by rw[d.cell (p:=⟨g,j*2,tD⟩) hg];exact hc 0 _ rfl
   have e1:wr.cell? ⟨g,j*2+1,tD⟩=tB (Z U b):=by rw[d.cell (p:=⟨g,j*2+1,tD⟩) hg];exact hc 1 _ rfl
   have vh:=(d.block N (ae vd.out)).trans vd.out;obtain⟨S,G⟩:=zE ((λw'=>w'=wr.drew):World->Prop);have wg:S wr.drew:=by rw[<-G]
   have vp:cm (∀W,S W->∀q u,(#[Z U f,Z U k]:da cd).toList[q]?=tB u->W.cell? ((⟨N,0,tD⟩:Addr).add q)=tB u):=λW A q u J=>by
    rw[<-G] at A;subst A;rw[dc,cV,cc _ _ _ _ _ _ (show wr.drew.heap[N]?=_ from vh)];simpa using J
   have vq:cm (∀W,S W->∀q u,(#[Z U a,Z U b]:da cd).toList[q]?=tB u->W.cell? ((⟨g,j*2,tD⟩:Addr).add q)=tB u):=λW A q u J=>by
    rw[<-G] at A;subst A;rw[dc]
    show wr.cell? _=_
    rcases q with _|_|q
    ·rw[<-(show _=tB u from J)];exact e0
    ·rw[<-(show _=tB u from J)];exact e1
    ·simp at J
   have vr:g<wr.heap.size:=bl hg d.size;have ur:cm (∀W,S W->g<W.heap.size):=λW A=>by
    rw[<-G] at A;subst A;exact vr
   have uv:=Ar a b f k;obtain⟨q,hq⟩:=zE (a==f&&b==k);rw[hq] at uv;have vu:=zH uv;have HQ:=zH hq;have ux:=zH d.drew;have HY:=zH hy;have HX:=zH hx;have wi:ac.eqGuardType ac.depth 67=tG:=by kernel_rfl
   clear hc e0 e1 vh G uv hq d hy hx hg
   go_upto_region 4 with(fail)
   refine ak 5 S (by kernel_rfl) ?_;refine zT 0 rfl ur.out ?_;(try go_simp);refine zT 1 rfl ur.out ?_;(try go_simp);refine zT 2 rfl ur.out ?_;(try go_simp);refine zL 3 rfl 67 ⟨g,j*2,tD⟩ vq.out oR ?_;(try go_simp);refine zL 4 rfl 67 ⟨N,0,tD⟩ vp.out oR ?_;(try go_simp);refine zK rfl λK' hK=> ?_;have vi:=vu.out;go_simp;(try simp only[vi]);(try go_simp);refine hK _ _ ?_;clear hK vi;refine⟨by kernel_rfl, ?_⟩;cases q with
   |true=>
    have ud:=HQ.out;rw[eN,mN,mN] at ud;have va:cm (R=(j:bp)):=by
     unfold cm;rw[<-HR.out,kX l 0 j hj HX.out,eR vf,(ap.1 HY.out).2];unfold nL;rw[cR (by rw[ud.1,ud.2]),cV]
    clear ud;go_wp2;go_ret;exact⟨by rw[va.out];rfl,by first|exact D.out.trans (ux.out.mono D.out.size)|(rw[<-hN];exact D.out.trans (ux.out.mono D.out.size))⟩
   |false=>
    have vx:cm ((f,k)∉l.take (j+1)):=jS HY.out HX.out (λe=>by
     have:=HQ.out;simp only[cU] at e;rw[e.1,e.2] at this;simp at this)
    go_wp2;go_roundw
    case rel=>exact⟨j+1,by omega,by go_num,vx.out,ux.out⟩
    case measure=>simp[intOf];omega
  ·have vy:j=l.length:=by omega
   have va:cm (R= -1):=by
    unfold cm;rw[<-HR.out,kX l 0 j hj hx,vy,qs];rfl
   have vj:cm (bh w.heap.size w wr):=D.out.trans (d.mono D.out.size);clear hx d;go_wp2;go_ret;exact⟨by rw[va.out];rfl,by first|exact vj.out|(rw[<-hN];exact vj.out)⟩
end
theorem mI {m:Mo}{j k:bx}{g:Fn}{i:Ins}(d:m.fs[j]?=tB g)(f:g.c.ins[k]?=tB i):∃r,m.xi=m.upto j k g++((j:bp),(k:bp),i)::r:=by
 obtain⟨r,h⟩:=pu (k:=k+1) d;refine⟨r, ?_⟩;rw[h,kE f,fR];rfl
theorem kY:∀(a b:bm XI)(c:bx),aN c (a++b)=aN c a++aN (c+(aj a).length) b
 |[],b,c=>by simp[aN,aj]
 |x::a,b,c=>by
  have d:aN c (x::(a++b))=mi x.1 x.2.2 c++aN (c+(iK x.1 x.2.1 x.2.2).length) (a++b):=rfl;have f:aN c (x::a)=mi x.1 x.2.2 c++aN (c+(iK x.1 x.2.1 x.2.2).length) a:=rfl;have h:(aj (x::a)).length=(iK x.1 x.2.1 x.2.2).length+(aj a).length:=by unfold aj;rw[el,cw]
  rw[jt,d,f,h,kY a b,fR,sB]
theorem qN {f:bp}:∀(l:bm Ins)(k:bx),((eu f k l).map λx=>(x.1,x.2.1)).Nodup
 |[],_=>by simp[eu]
 |i::r,k=>by
  unfold eu;rw[lP,rn];refine⟨λh=> ?_,qN r (k+1)⟩;obtain⟨x,d,e⟩:=dy.1 h;obtain⟨_,_,q,_⟩:=mV d;have:=eM oA e;simp only at this;omega
theorem tX:∀(l:bm Fn)(f:bx),((eZ f l).map λx=>(x.1,x.2.1)).Nodup
 |[],_=>by simp[eZ]
 |g::r,f=>by
  unfold eZ;rw[fL,lj];refine⟨qN _ _,tX r (f+1),λa d b h e=> ?_⟩;obtain⟨x,q,u⟩:=dy.1 d;obtain⟨y,v,A⟩:=dy.1 h;have D:=(mV q).1;obtain⟨_,_,G,_⟩:=tT v;have J:x.1=y.1:=by
   have:=eM lE (u.trans (e.trans A.symm));exact this
  omega
theorem tY:∀l:bm XI,(aj l).Sublist (l.map λx=>(x.1,x.2.1))
 |[]=>by simp[aj]
 |x::r=>by
  have ih:=tY r;have e:aj (x::r)=iK x.1 x.2.1 x.2.2++aj r:=by unfold aj;rw[el]
  rw[e,lP];unfold iK
  split
  ·exact ih.cons_cons _
  ·exact ih.cons _
theorem gy (m:Mo):(aj m.xi).Nodup:=(tY _).nodup (tX _ _)
abbrev Mo.lf (m:Mo):Nd->bx->Prop:=Lf (aN 0 m.xi) (aV m.xi) (eP m.xi)
section
variable {m:Mo}{j k:bx}{g:Fn}{i:Ins}
theorem ET (d:m.fs[j]?=tB g)(f:g.c.ins[k]?=tB i):((j:bp),(k:bp),i)∈m.xi:=by
 obtain⟨r,e⟩:=mI d f;rw[e];simp
theorem pE (d:m.fs[j]?=tB g)(f:g.c.ins[k]?=tB i){e:Nd×Nd}(h:e∈iU (j:bp) i):e∈aV m.xi:=em.2 ⟨_,ET d f,h⟩
theorem EU (d:m.fs[j]?=tB g)(f:g.c.ins[k]?=tB i){e:Nd×Th}(h:e∈jo (j:bp) i):e∈eP m.xi:=em.2 ⟨_,ET d f,h⟩
theorem dw (d:bf m=0)(f:m.fs[j]?=tB g)(h:g.c.ins[k]?=tB i):aD m g i=0:=(jm ((dJ d).2.2.2.2.1 g (cf f))).2.2.2.2.2 i (cf h)
theorem bU {n:bx}{v:bp}(h:isVar n v=tE):0<=v/\v<n:=sN.1 h
theorem wR {q:bm Vr}{o:bp}{p:nj}(h:bV m q i o p=0):0<=i.f:=by
 unfold bV at h
 by_cases u:(aI m q i.a i.f).2≠0
 ·rw[cR u] at h;exact fW h u
 ·have d:(aI m q i.a i.f).2=0:=er u
  unfold aI at d
  split at d
  ·exact fW d (by simp)
  ·split at d
   ·exact fW d (by simp)
   ·split at d
    ·exact fW d (by simp)
    ·omega
theorem Ie (u:bf m=0)(f:m.fs[j]?=tB g)(q:g.c.ins[k]?=tB i)(h:i.op=12):0<=i.d/\∃x:bx,nL ((j:bp),(k:bp)) 0 (aj m.xi)=(x:bp)/\m.lf (av j i.d) x:=by
 obtain⟨_,_,_,v,_⟩:=bK (dw u f q);refine⟨(bU (v (by rw[h];rfl))).1,(aj (m.upto j k g)).length, ?_, ?_⟩
 ·refine jy ?_ (gy m)
  obtain⟨r,e⟩:=mI f q;rw[e];unfold aj;rw[eK,el,et (ce _),m6];unfold iK;simp only[h];rfl
 ·refine .base ?_
  obtain⟨r,e⟩:=mI f q;rw[e,kY,cV];refine ep _ ?_;unfold aN mi;simp only[h];simp
theorem DF (u:bf m=0)(f:m.fs[j]?=tB g)(q:g.c.ins[k]?=tB i)(h:i.op=9):0<=i.a/\0<=i.d/\∀x,m.lf (av j i.a) x->m.lf (av j i.d) x:=by
 obtain⟨_,_,v,A,_⟩:=bK (dw u f q);refine⟨(bU (v i.a (by unfold readsOf;rw[h];simp[oH]))).1,(bU (A (by rw[h];rfl))).1,λx D=> .edge (pE f q ?_) D⟩;unfold iU;rw[cR h];simp
theorem DI (v:bf m=0)(q:m.fs[j]?=tB g)(u:g.c.ins[k]?=tB i)(h:i.op=10):0<=i.a/\0<=i.d/\0<=i.f/\∀x y,m.lf (av j i.a) x->m.lf (bN x i.f) y->m.lf (av j i.d) y:=by
 have h0:=dw v q u;obtain⟨_,_,A,D,_⟩:=bK h0;refine⟨(bU (A i.a (by unfold readsOf;rw[h];simp[oH]))).1,(bU (D (by rw[h];rfl))).1, ?_,λx y G J=> .out (EU q u ?_) G J⟩
 ·unfold aD ay at h0
  simp only[h] at h0;have h1:bV m g.vs i i.d tE=0:=by
   generalize (aJ g.vs.length (readsOf i++if nZ 10=tE then[i.d] else[]))=z at h0;cases z with
   |false=>simp at h0
   |true=>simpa using h0
  exact wR h1
 ·unfold jo
  rw[cR h];simp
theorem EW (A:bf m=0)(q:m.fs[j]?=tB g)(u:g.c.ins[k]?=tB i)(h:i.op=11):0<=i.a/\0<=i.b/\0<=i.f/\∀x y,m.lf (av j i.a) x->m.lf (av j i.b) y->m.lf (bN x i.f) y:=by
 have h0:=dw A q u;obtain⟨_,_,v,q4,_⟩:=bK h0;refine⟨(bU (v i.a (by unfold readsOf;rw[h];simp[oH]))).1,(bU (v i.b (by unfold readsOf;rw[h];simp[rz]))).1, ?_,λx y D G=> .into (EU q u ?_) D G⟩
 ·unfold aD ay at h0
  simp only[h] at h0;have J:bV m g.vs i i.b tE=0:=by
   generalize (aJ g.vs.length (readsOf i++if nZ 11=tE then[i.d] else[]))=z at h0;cases z with
   |false=>simp at h0
   |true=>simpa using h0
  exact wR J
 ·unfold jo
  rw[cE (by omega),cR h];simp
theorem wS {f q:bp}{a:bp}:∀(l:bm bp)(c n:bx),l[n]?=tB a->(av f a,av q ((c+n:bx):bp))∈gu f q c l
 |[],_,_,h=>by simp at h
 |x::r,c,0,h=>by
  obtain rfl:x=a:=by simpa using h
  unfold gu;simp
 |x::r,c,n+1,h=>by
  unfold gu;have:=wS (f:=f) (q:=q) r (c+1) n (by simpa using h);rw[show c+1+n=c+(n+1) by omega] at this;exact pn _ this
theorem wT (G:bf m=0)(u:m.fs[j]?=tB g)(v:g.c.ins[k]?=tB i)(h:i.op=15):0<=i.f/\0<=i.d/\(∀x,m.lf (cZ i.f) x->m.lf (av j i.d) x)/\∀(n:bx)(a:bp),i.args[n]?=tB a->0<=a/\∀x,m.lf (av j a) x->m.lf (av i.f n) x:=by
 obtain⟨_,_,J,q4,q5⟩:=bK (dw G u v);refine⟨(nW (q5 h)).1,(bU (q4 (by rw[h];rfl))).1,λx A=> .edge (pE u v ?_) A,λn a D=>⟨(bU (J a ?_)).1,λx A=> .edge (pE u v ?_) A⟩⟩
 ·unfold iU
  rw[cE (by omega),cR h];simp
 ·unfold readsOf
  rw[cR h];simp[cf D]
 ·unfold iU
  rw[cE (by omega),cR h];have:=wS (f:=(j:bp)) (q:=i.f) i.args 0 n D;rw[cV] at this;exact cM _ this
theorem EX (q:bf m=0)(d:m.fs[j]?=tB g)(f:g.c.ins[k]?=tB i)(h:i.op=18):0<=i.a/\∀x,m.lf (av j i.a) x->m.lf (cZ j) x:=by
 obtain⟨_,_,u,A,_⟩:=bK (dw q d f);refine⟨(bU (u i.a (by unfold readsOf;rw[h];simp[oH]))).1,λx v=> .edge (pE d f ?_) v⟩;unfold iU;rw[cE (by omega),cE (by omega),cR h];simp
theorem Gb (d:bf m=0)(f:m.fs[j]?=tB g)(q:g.c.ins[k]?=tB i)(h:i.op=15):∀y∈i.args,0<=y/\y<g.vs.length:=λy u=>by
 obtain⟨_,_,v,_⟩:=bK (dw d f q);refine bU (v y ?_);unfold readsOf;rw[cR h];simp[u]
end
theorem tZ {α β:Type}{f:α->β}{cells:β->da cd}{d:bx}{w:World}{B:bx}{q:eA Addr}{xs:bm α}(h:aK (λa=>cells (f a)) d w B q xs):aK cells d w B q (xs.map f):=by
 intro A;obtain⟨b,D,G,J,h3⟩:=h (λe=>A (by rw[e];rfl));refine⟨b,D,G,J,λi y v k u hu=> ?_⟩;rw[fj] at v;obtain⟨x,hx,rfl⟩:=i8.1 v;exact h3 i x hx k u hu
def Mo.lightL (m:Mo):Prop:=AQ (m.ss.map St.s) (m.fs.map Fn.c)
theorem yG (w:World)(m:Mo)(d:m.inn w):gd ac 70 #[tW m.cells] w (wZ w w.heap.size m.lightL):=by
 have h:=xc w m.sA m.fA m.sC m.fC (m.ss.map St.s) (m.fs.map Fn.c) (tZ d.srow) (tZ d.frow) (by
  intro c q;obtain⟨f,u,rfl⟩:=dy.1 q;exact(d.fin f u).code.row) (by
  intro c q x v;obtain⟨f,u,rfl⟩:=dy.1 q;exact((d.fin f u).code.args x v).1) (by have:=d.ns;unfold dT at this;simpa using this) (by have:=d.nf;unfold dT at this;simpa using this)
 simp only[ei] at h;exact h
theorem mJ {w:World}{m:Mo}(h:m.inn w)(v:m.lightL):dR w m:=by
 obtain⟨A,D,G,q,_⟩:=v;simp only[ei] at A D;refine⟨h,by omega,by omega,λs u=> ?_,λf d=> ?_,λf d i J=> ?_⟩
 ·have h5:=G s.s (dy.2 ⟨s,u,rfl⟩)
  have h6:=h5.1;rw[<-(h.sin s u).nf];omega
 ·obtain⟨g1,g2,_⟩:=q f.c (dy.2 ⟨f,d,rfl⟩)
  rw[<-(h.fin f d).nvars];omega
 ·obtain⟨g1,g2,_,g4,g5⟩:=q f.c (dy.2 ⟨f,d,rfl⟩)
  exact(g5 i J).1
def Mo.short12 (m:Mo):Prop:=m.fs.length<=12/\m.xi.length<=400/\m.lightL
theorem EY {w:World}{m:Mo}(A:m.inn w)(v:m.short12)(u:∀g∈m.fs,∀i∈g.c.ins,fO i.d/\fO i.a/\fO i.b/\fO i.f)(D:∀g∈m.fs,∀i∈g.c.ins,i.op=15->∀y∈i.args,fO y):mF w m:=
 ⟨mJ A v.2.2,λg h i q=>⟨(u g h i q).1,(u g h i q).2.1,(u g h i q).2.2.1,(u g h i q).2.2.2,D g h i q⟩,v.2.1,by have:=v.1;omega⟩
theorem uf:∀(l:bm Fn)(f:bx),(eZ f l).length<=dP (l.map Fn.c)
 |[],_=>ce _
 |x::r,f=>by
  unfold eZ;have:=uf r (f+1);rw[cw,mR,lP];unfold dP;omega
theorem EZ {m:Mo}(h:m.lightL):m.xi.length<=1200:=by
 have:=h.2.2.2.2;exact cY (uf _ _) this
theorem yH (w:World)(m:Mo)(A:m.inn w):gd ac 27 #[tW m.cells] w (wZ w w.heap.size m.short12):=by
 obtain⟨M,hM⟩:=zE m;have HM:=zH hM;have vp:=zH A;have vd:=A.nf;have vf:=zH A.frow;have vq:cm (∀f∈m.fs,f.c.ins.length<=dT):=λf D=>(A.fin f D).code.len;clear A hM;obtain⟨sA,sC,u,v,ss,fs⟩:=m;simp only at vd vf vq;simp only[Mo.cells];obtain⟨N,G⟩:=zE w.heap.size;obtain⟨J,ud⟩:=zE (w.alloc (ua #[tP sA ss.length sC,tP u fs.length v] 25));have q1:J.heap[N]?=tB (ua #[tP sA ss.length sC,tP u fs.length v] 25 (0,0)):=by rw[<-ud,<-G];exact alloc_at _ _
 have c1:J.cell? ⟨N,0,tD⟩=tB (tP sA ss.length sC):=(cc _ _ _ _ _ _ q1).trans rfl;have c2:J.cell? ⟨N,1,tD⟩=tB (tP u fs.length v):=(cc _ _ _ _ _ _ q1).trans rfl;have ur:=iq ud;have uv:=zH (yG J M (by rw[<-HM.out];exact vp.out.below ur));rw[<-HM.out] at uv;simp only[Mo.cells] at uv;have q:=zH ur;have vr:=zH ud;have wi:=ae q1;clear q1 ur ud;unfold dT at vd;go_enter func27,ntmps27
 go_upto_region 1 with(fail)
 rw[vr.out]
 go_upto_region 3 with(fail)
 go_loopw [3,4] (λz c wr=>wr=J/\∃(j:bx) (x:bp),j<=fs.length/\j<=20/\c= Z U (j:bp)/\z= Z U x/\cm ((eZ 0 (fs.take j)).length<=1200->x=((eZ 0 (fs.take j)).length:bp))) (λ_ c _=>20-(intOf c).toNat)
 case atStart=>exact⟨rfl,0,0,cN _,by omega,rfl,rfl,by unfold cm;simp[eZ]⟩
 case round=>
  obtain⟨rfl,j,x,hj,wj,rfl,rfl,ue⟩:=hrel;have uc:12<fs.length->∀b:nj,b=tG->wZ w w.heap.size (Mo.short12 ⟨sA,sC,u,v,ss,fs⟩) (ub (tU b)) wr:=λ_ b d=>⟨b,rfl,λh=>by rw[d] at h;exact fW h (by decide),q.out⟩
  by_cases ux:j<fs.length
  ·have vu:(j:bp)<(fs.length:bp):=by omega
   by_cases wk:j<20
   ·have wl:(j:bp)<20:=by omega
    obtain⟨f,D⟩:∃f,fs[j]?=tB f:=⟨_,am ux⟩
    obtain⟨b,vx,rfl,d,vh⟩:=vf.out (by intro e;rw[e] at ux;simp at ux);have q7:wr.cell? ⟨b,vx+j*8+7,tD⟩=tB (tP f.c.insA f.c.ins.length f.c.insC):=by rw[q.out.cell (p:=⟨b,_,tD⟩) d];exact vh j f D 7 _ rfl
    have vy:cm ((eZ 0 (fs.take (j+1))).length<=1200->me.wrap (x+(f.c.ins.length:bp))=((eZ 0 (fs.take (j+1))).length:bp)):=by
     unfold cm;rw[dL D,qd,cw,mR];intro h;rw[ue.out (by omega),jx];omega
    clear vh D uc ue;go_wp2;go_roundw
    case rel=>exact⟨trivial,j+1,_,by omega,by omega,by go_num,rfl,λh=>(IntWalk.i64_left _).symm.trans (vy.out h)⟩
    case measure=>simp[intOf];omega
   ·have va:decide (fs.length<=12)=tG:=cL (by omega)
    have ws:decide ((j:bp)<20)=tG:=cL (by omega);have vc:decide ((fs.length:bp)<=12)=tG:=cL (by omega);go_wp2;go_ret;have:=uc (by omega) _ rfl
    first|exact this|(rw[<-G];exact this)
  ·have vu:decide ((j:bp)<(fs.length:bp))=tG:=cL (by omega)
   have we:j=fs.length:=by omega
   have wg:cm ((Mo.xi ⟨sA,sC,u,v,ss,fs⟩).length<=1200->x=((Mo.xi ⟨sA,sC,u,v,ss,fs⟩).length:bp)):=by
    have:=ue.out;rw[we,de] at this;exact this
   clear ue
   by_cases va:fs.length<=12
   ·by_cases h4:x<=400
    ·clear uc
     have vc:(fs.length:bp)<=12:=by omega
     go_wp2_with (go_at_call 70;refine uv.out.mono ?_;rintro e w2 ⟨b,rfl,d,vi⟩;have vj:=zH d;have vm:=zH vi;clear d vi)
     go_ret;exact⟨b,by cases b<;>rfl,λd=>⟨va,by have h1:=wg.out (EZ (vj.out d));omega,vj.out d⟩,by first|exact q.out.trans (vm.out.mono q.out.size)|rw[<-G];exact q.out.trans (vm.out.mono q.out.size)⟩
    ·have wx:decide (x<=400)=tG:=cL h4
     have vc:(fs.length:bp)<=12:=by omega
     clear uc;go_wp2;go_ret;exact⟨tG,rfl,λh=>fW h (by decide),by first|exact q.out|rw[<-G];exact q.out⟩
   ·have xf:decide (fs.length<=12)=tG:=cL va
    have vc:decide ((fs.length:bp)<=12)=tG:=cL (by omega);go_wp2;go_ret;have:=uc (by omega) _ rfl
    first|exact this|(rw[<-G];exact this)
end Go.Proofs.YtjomgckjhcfbgaaGreat
