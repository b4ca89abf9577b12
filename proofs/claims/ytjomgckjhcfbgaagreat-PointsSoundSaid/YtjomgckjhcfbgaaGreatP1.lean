/- Walks. -/
import Derived.Test.YtjomgckjhcfbgaaGreatY0
import Derived.Test.YtjomgckjhcfbgaaGreatY8
import Derived.Test.YtjomgckjhcfbgaaGreatY1
import Derived.Test.YtjomgckjhcfbgaaGreatP0
set_option maxRecDepth 100000
set_option maxHeartbeats 64000000
set_option linter.all false
namespace Go.Proofs.YtjomgckjhcfbgaaGreat
open Go.RowKit
open _root_.List renaming getElem?_eq_getElem→ac,getElem?_eq_some_iff→ag,mem_of_getElem?→ap,replicate→bc,length_append→ca,length_singleton→cb,set_append_right→cw,set_cons_zero→cF
open _root_.Int renaming toNat_natCast→am,le_refl→cI
open _root_ renaming Int→aq,if_neg→bl,Nat→bo,List→bq,if_pos→bx,absurd→cm,decide_eq_false→cG,Option→cL
open Go.Proofs.Tryz renaming prog→aw,ntmps154→dj,ntmps159→dk,func154→dq,func159→dr
open Go.RowKit.Below renaming refl→ba
open Go.IntKind renaming wrap_i64→bb,i64→bs,i64→U
open Go renaming seen→bd,frozen_of_row→bm,Value→cy,cell_of_row→cE,results_none→df
open Go.RowKit renaming Below→bt,Hid→cU
open _root_.Nat renaming le_refl→bA,sub_self→bR,zero_add→ch,zero_le→dt
open Go.Addr renaming add_lit→cf
open Go.Value renaming oneCell'→cP,int→dg,slice→ee,pointer→eg,bool→eh,agg→ei,int→Z
open _root_.Option renaming some→dy,none→dD
open _root_.Bool renaming true→dS,false→dT
open Go.Obj renaming cells→el
open Go.Ending renaming returned→em
open Go.Proofs.Tryz
def J4 (w:World)(e:Ending)(w':World):Prop:=∃r:aq,e= em (Z U r)/\fO r/\w=w'
theorem Je (w:World)(x:aq):Calls aw 154 #[Z U x] w (J4 w):=by
 obtain⟨y,u⟩:=zE (x.tmod 4294967296);have f: -4294967296<y/\y<4294967296:=by
  rw[<-u];have A:=Int.tmod_lt_of_pos x (b:=4294967296) (by decide);have C:=Int.lt_tmod_of_pos x (b:=4294967296) (by decide);omega
 by_cases D:y<0
 ·have E:bs.wrap (y+4294967296)=y+4294967296:=by rw[bb];omega
  by_cases v:y+4294967296≥2147483648
  ·have G:bs.wrap (y+4294967296-2147483648*2)=y:=by rw[bb];omega
   have z:bs.wrap (y+4294967296-4294967296)=y:=by rw[bb];omega
   have h:=zH f;clear f;go_enter dq,dj;go_wp2;go_ret;exact⟨_,rfl,by have:=h.out;unfold fO;(try rw[bb]);omega,rfl⟩
  ·have h:=zH f
   clear f;go_enter dq,dj;go_wp2;go_ret;exact⟨_,rfl,by have:=h.out;unfold fO;(try rw[bb]);omega,rfl⟩
 ·by_cases v:y≥2147483648
  ·have z:bs.wrap (y-4294967296)=y-4294967296:=by rw[bb];omega
   have h:=zH f;clear f;go_enter dq,dj;go_wp2;go_ret;exact⟨_,rfl,by have:=h.out;unfold fO;(try rw[bb]);omega,rfl⟩
  ·have h:=zH f
   clear f;go_enter dq,dj;go_wp2;go_ret;exact⟨_,rfl,by have:=h.out;unfold fO;(try rw[bb]);omega,rfl⟩
theorem Jc (w:World)(b:Bool):zS 160 #[eh b] w (.tuple #[Z U (if b then 1 else 0),eh dS]):=by
 cases b with
 |true=>
  go_enter func160,ntmps160;go_wp2
  go_ret2
  exact⟨rfl,rfl⟩
 |false=>
  go_enter func160,ntmps160;go_wp2
  go_ret2
  exact⟨rfl,rfl⟩
section
variable {R H:bo}{m:Mo}{B:bo}{tg:bo->WT}{s:IY}{cs:bq Cl}{stk:bq Fr}{bd:bq Sn}{w w':World}
theorem Wm.cellAt (h:Wm R H m B tg s cs stk bd w){k:bo}{c:Cl}(u:cs[k]?=dy c):∃g,s.ceA=dy ⟨g,0,dD⟩/\g<w.heap.size/\yA s.ceA=dy g/\
  w.cell? ⟨g,k*4,dD⟩=dy (eh c.al)/\w.cell? ⟨g,k*4+1,dD⟩=dy (ee (dy ⟨c.b,0,dD⟩) c.fs.length c.fs.length)/\w.cell? ⟨g,k*4+2,dD⟩=dy (Z U c.st.1)/\w.cell? ⟨g,k*4+3,dD⟩=dy (Z U c.st.2):=by
 have v:=h.x.ce (by simp);obtain⟨g,e,z,f⟩:=iI JR 4 (λ_=>rfl) v u;refine⟨g,e,z,by rw[e];rfl,f 0 _ rfl,f 1 _ rfl,f 2 _ rfl,f 3 _ rfl⟩
theorem Wm.frameAt (h:Wm R H m B tg s cs stk bd w){k:bo}{r:Fr}(z:stk[k]?=dy r):∃g,s.stA=dy ⟨g,0,dD⟩/\g<w.heap.size/\yA s.stA=dy g/\
  w.cell? ⟨g,k*3,dD⟩=dy (Z U (r.f:aq))/\w.cell? ⟨g,k*3+1,dD⟩=dy (Z U (r.pc:aq))/\w.cell? ⟨g,k*3+2,dD⟩=dy (ee (dy ⟨r.b,0,dD⟩) r.v.length r.v.length):=by
 have A:=h.x.st (by simp);obtain⟨g,e,C,u⟩:=iI JS 3 (λ_=>rfl) A z;refine⟨g,e,C,by rw[e];rfl,u 0 _ rfl,u 1 _ rfl,u 2 _ rfl⟩
def J9 (s:IY)(cs:bq Cl)(p:aq):cy:=if p<1 then eg dD else match cs[(p-1).toNat]? with
 |none=> eg dD
 |some c=>if c.al=dS then .pointer (s.ceA.map λa=>⟨a.block,(p-1).toNat*4,dD⟩) else eg dD
theorem Jy (w:World)(h:Wm R H m B tg s cs stk bd w)(p:aq)(E:cs.length<=100000)(hp:fO p):zS 159 #[eg (dy ⟨H,0,dD⟩),Z U p] w (J9 s cs p):=by
 have C:w.cell? ⟨H,0,dD⟩=dy (ee s.ceA cs.length s.ceK):=zR (h.x.hp (by simp)) 0 _;have G:=ae (h.x.hp (by simp))
 by_cases v:p<1
 ·have e:J9 s cs p= eg dD:=bx v
  rw[e];clear h e;go_enter dr,dk;go_wp2;go_ret;exact⟨rfl,rfl⟩
 by_cases I:p>(cs.length:aq)
 ·have e:J9 s cs p= eg dD:=by
   unfold J9;rw[bl v,List.getElem?_eq_none (by omega)]
  rw[e];clear h e;go_enter dr,dk;go_wp2;go_ret;exact⟨rfl,rfl⟩
 obtain⟨k,rfl⟩:∃k:bo,p=(k:aq)+1:=⟨(p-1).toNat,by omega⟩
 have D:k<cs.length:=by omega
 obtain⟨c,u⟩:∃c,cs[k]?=dy c:=⟨_,ac D⟩
 obtain⟨g,z,J,A,d0,_⟩:=h.cellAt u;have ek:((k:aq)+1-1).toNat=k:=by omega
 have L:(k:aq)<(cs.length:aq):=by omega
 have N:bs.wrap ((k:aq)+1-1)=(k:aq):=by rw[bb];omega
 have O:decide ((cs.length:aq)<(k:aq)+1)=dT:=cG (by omega);have P:decide ((k:aq)+1<1)=dT:=cG (by omega);rw[z] at C;cases f:c.al with
 |true=>
  have e:J9 s cs ((k:aq)+1)= eg (dy ⟨g,k*4,dD⟩):=by
   unfold J9;rw[bl v,ek,u];simp only[f,if_true,z,Option.map_some]
  rw[e];rw[f] at d0;clear h e u z A f;go_enter dr,dk;go_wp2;go_ret;exact⟨rfl,rfl⟩
 |false=>
  have e:J9 s cs ((k:aq)+1)= eg dD:=by
   unfold J9;rw[bl v,ek,u];simp only[f];rfl
  rw[e];rw[f] at d0;clear h e u z A f;go_enter dr,dk;go_wp2;go_ret;exact⟨rfl,rfl⟩
end
theorem Jp:(aw.info? 2).map (λi=>(i.zero,i.size,i.bytes))=dy (dy (Z U 0),1,8):=by kernel_rfl
theorem JV:(aw.info? 218).map (λi=>(i.zero,i.size,i.bytes))=dy (dy (ei #[Z U 0,Z U 0,ee dD 0 0]),3,40):=by kernel_rfl
theorem JJ (n:bo):(bc n (dg .i64 0)).toArray=JB (bc n 0):=by unfold JB;rw[List.map_replicate]
theorem Ka {args:bq aq}{n j:bo}{x:aq}(f:args[j]?=dy x)(u:args.length<=n):(args.take j++bc (n-j) 0).set j x=args.take (j+1)++bc (n-(j+1)) 0:=by
 have v:=(ag.1 f).1;have h:(args.take j).length=j:=by rw[List.length_take];omega
 rw[cw _ _ (by omega),h,bR,show n-j=(n-(j+1))+1 by omega,List.replicate_succ,cF,List.take_add_one,f];simp
section
variable {R H:bo}{m:Mo}{B:bo}{tg:bo->WT}{s:IY}{cs:bq Cl}{stk:bq Fr}{bd:bq Sn}{w w':World}
theorem Jd (w:World)(h:Wm R H m B tg s cs stk bd w)(O:m.inn w){f:bo}{g:Fn}(C:m.fs[f]?=dy g)(eE:g.vs.length<=400)(fW:m.fs.length<=60){args:bq aq}{ao:cL Addr}{cap:bo}(ha:aA w ao args)(en:args.length<=g.vs.length)(fX:stk.length<=100000):
  Calls aw 74 #[eg (dy ⟨R,0,dD⟩),Z U (f:aq),ee ao args.length cap] w λe w'=>e= em (.tuple #[])/\∃b,Bb R H m B tg w cs (stk++[⟨f,0,JQ g.vs.length args,b⟩]) bd (λP=>∃A K,P={s with stA:=A,stK:=K}) w':=by
 have fY:=(ag.1 C).1;have ep:m.fs≠[]:=λe=>by rw[e] at C;simp at C
 obtain⟨fb,fo,eq,gb,er⟩:=O.frow ep;have I:=er f g C 2 _ rfl;rw[(O.fin g (ap C)).nvars] at I;have r1:w.cell? ⟨R,1,dD⟩=dy (ee (dy ⟨fb,fo,dD⟩) m.fs.length m.fC):=by rw[<-eq];exact zR (h.x.run (by simp)) 1 _
 have r3:w.cell? ⟨R,3,dD⟩=dy (ee s.stA stk.length s.stK):=zR (h.x.run (by simp)) 3 _;have hR:=ae (h.x.run (by simp));have gd:(f:aq)<(m.fs.length:aq):=by omega
 obtain⟨n,hn⟩:=zE g.vs.length;rw[hn] at eE en I⊢;obtain⟨D,Q⟩:=zE w.heap.size;obtain⟨T,J⟩:=zE (w.alloc (el (Array.replicate n (dg .i64 0)) 2));have es:=iq J;have et:T.heap[D]?=dy (el (JB (bc n 0)) 2 (0,0)):=by rw[<-JJ,List.toArray_replicate,<-J,<-Q];exact alloc_at _ _
 obtain⟨i0,eI,eJ,eK,eL⟩:=info_parts Jp;have ge:=zH I;have L:=zH h;have HA:=zH ha;have ev:=zH es;have eM:=zH et;have eN:=zH J;have V:=zH Q;clear C ep O er h ha es et J Q eq hn;go_enter func74,ntmps74
 go_upto_region 1 with(at_make;refine lK rfl (.tmp 17) (.tmp 17) 85 rfl 2 i0 (Z U 0) underlying85 eI eJ eK rfl .i64 .i64 _ _ n rfl rfl rfl rfl (by rw[eL];omega) (by unfold maxLen;omega) ?_)
 rw[eN.out,V.out]
 go_upto_region 2 with(fail)
 go_loopw [7] (λk wr=>∃j:bo,j<=args.length/\k= Z U (j:aq)/\VB wr D (args.take j++bc (n-j) 0)/\Ext (·=D) T wr) (λk _=>args.length-(intOf k).toNat)
 case atStart=>exact⟨0,dt _,rfl,(by have:=eM.out;unfold VB;simpa using this),Ext.refl _ _⟩
 case round=>
  obtain⟨j,hj,rfl,u,N⟩:=hrel;have E:bt w.heap.size w wr:=ev.out.trans (N.below ev.out.size (λk e=>by rw[e,<-V.out];exact bA _))
  by_cases W:j<args.length
  ·obtain⟨x,X⟩:∃x,args[j]?=dy x:=⟨_,ac W⟩
   obtain⟨ab,af,e,gg,ew⟩:=(HA.out.below E) (λe=>by rw[e] at W;simp at W)
   subst e;have gh:=ew j x X;have eR:(j:aq)<(args.length:aq):=by omega
   have gi:(j:aq)<(n:aq):=by omega
   have eS:(args.take j++bc (n-j) 0).length=n:=by rw[ca,List.length_take,List.length_replicate];omega
   obtain⟨y,hy⟩:∃y,(args.take j++bc (n-j) 0)[j]?=dy y:=⟨_,ac (by omega)⟩
   have gj:=u.cell hy;have gl:wr.frozen? ⟨D,j,dD⟩=dT:=bm _ _ _ _ _ u;have gm:=ae u;have eV:cU (VB (wr.setCell ⟨D,j,dD⟩ (Z U x)) D (args.take (j+1)++bc (n-(j+1)) 0)):=by
    unfold cU;rw[<-Ka X en];exact u.set j x
   have eW:cU (Ext (·=D) T (wr.setCell ⟨D,j,dD⟩ (Z U x))):=N.trans (Ext.set1 _ _ _ _) (λk e=> .inl e);clear ew X u N E eS hy;go_wp2;go_roundw
   case rel=>exact⟨j+1,by omega,by go_num,eV.out,eW.out⟩
   case measure=>simp[intOf];omega
  ·have ff:j=args.length:=by omega
   subst ff;rw[List.take_length] at u;have eR:¬(args.length:aq)<(args.length:aq):=by omega
   have z:=L.out.grow E;have gn:wr.cell? ⟨R,3,dD⟩=dy (ee s.stA stk.length s.stK):=zR (z.x.run (by simp)) 3 _;have gr:=ae (z.x.run (by simp));obtain⟨i1,fg,fh,fi,fj⟩:=info_parts JV;have ez:=z.x.st (by simp);obtain⟨G,Y⟩:=zE wr.heap.size;have gw:B<=G:=by rw[<-Y];have:=z.lo R (by rw[z.t1];simp);omega
   have fk:=zH ez;have HQ:cU (∀w9,Ext (λk=>(ee s.stA stk.length s.stK).ownBlock=dy k) wr w9->w9.cell? ⟨R,3,dD⟩=dy (ee s.stA stk.length s.stK)/\w9.frozen? ⟨R,3,dD⟩=dT/\R<w9.heap.size):=λw9 fm=>by
    have q9:=fm.heap (z.x.run (by simp)) (λe=>by rw[aa] at e;have:=z.t3 R e;rw[z.t1] at this;simp at this);exact⟨zR q9 3 _,bm _ _ _ _ _ q9,ae q9⟩
   have HX:=zH E;have fp:=zH u;have gz:D<G:=by rw[<-Y];exact ae u
   clear ez z E u N I r1 r3 hR
   go_wp2_with (at_builtin;refine bW rfl (.tmp 36) (.tmp 40) 157 rfl B 218 i1 _ 3 40 underlying157 fg fh fi fj rfl (by decide) (ee s.stA stk.length s.stK) stk.length (stk.flatMap JS) rfl fk.out G #[Z U (f:aq),Z U 0,ee (dy ⟨D,0,dD⟩) n n] Y.symm rfl rfl (by simp[cP]) (by unfold maxLen;omega) (by omega) (by omega) ?_;intro v9 w9 o9 x9 b9;obtain⟨gA,c9,e9⟩:=ai o9;subst e9;obtain⟨gC,gE,gO⟩:=HQ.out w9 x9;have ft:=zH o9;have fx:=zH x9;have eA:=zH b9;clear o9 x9 b9)
   (try simp only[Exit.inBlock,Exit.then]);refine bodyPost_end (df rfl _ _ _) rfl ?_;refine⟨rfl,D, ?_⟩;have hw:=L.out.lo;have gR:D=w.heap.size:=V.out.symm;have fy:(args++bc (n-args.length) (0:aq)).length=n:=by simp;omega
   have eC:=ft.out;rw[show([Z U (f:aq),Z U 0,ee (dy ⟨D,0,dD⟩) n n]:bq cy)=JS ⟨f,0,args++bc (n-args.length) 0,D⟩ by simp only[JS];rw[fy];rfl] at eC;obtain⟨fz,P,fL,fN,fR,fS⟩:=L.out.pushF (w1:=wr) (w9:=w9) (f:=f) (b:=D) (v:=args++bc (n-args.length) 0) HX.out fp.out (by omega) (fx.out.mono (λk q=>by rw[<-aa s.stA stk.length s.stK];exact q)) eC (λk q=>by have:=eA.out k (by rw[aa];exact q);rwa [aa] at this) (λq=>by
    rcases eA.out D (by rw[aa];exact q) with e|e
    ·rw[aa] at e
     have:=L.out.t3 D e;have:=(hw D (by rw[this];simp)).2;omega
    ·omega)
   exact⟨fz,P,fL,⟨_,_,fN⟩,fR,fS⟩
end
section
variable {R H:bo}{m:Mo}{B:bo}{tg:bo->WT}{s:IY}{cs:bq Cl}{stk:bq Fr}{bd:bq Sn}{w w':World}
theorem JW (w:World)(h:Wm R H m B tg s cs stk bd w):
  Calls aw 156 #[eg (dy ⟨H,0,dD⟩)] w λe w'=>∃r:aq,e= em (Z U r)/\fO r/\Bb R H m B tg w cs stk bd (λf=>∃i,f={s with inn:=i}) w':=by
 obtain⟨E,n,cap,u,O,P,v⟩:=h.x.inn;have Q:w.cell? ⟨H,3,dD⟩=dy (ee E n cap):=by rw[<-u];exact zR (h.x.hp (by simp)) 3 _
 have f3:w.frozen? ⟨H,3,dD⟩=dT:=bm _ _ _ _ _ (h.x.hp (by simp));have T:=ae (h.x.hp (by simp))
 by_cases C:n=0
 ·subst C
  have G:cU (Bb R H m B tg w cs stk bd (λf=>∃i,f={s with inn:=i}) w):=by
   obtain⟨a,b,c,d,e⟩:=h.refl;exact⟨a,b,c,⟨s.inn,by rw[d]⟩,e⟩
  clear h v u;go_enter func156,ntmps156;go_wp2;go_ret;exact⟨-1,rfl,by unfold fO;omega,G.out⟩
 ·obtain⟨b,o,rfl,I,J,z⟩:=v C
  obtain⟨x,V,W,L⟩:=z 0 (by omega);rw[Nat.add_zero] at L;have X:(0:aq)<(n:aq):=by omega
  have Y:((n:aq)==0)=dT:=by simp;omega
  have en:¬cap=0:=by omega
  have N:=zH z;have D:=zH h;clear h v z u;go_enter func156,ntmps156;go_wp2
  ·go_ret
   refine⟨x,rfl,by unfold fO;omega, ?_⟩;obtain⟨a,A,c,d,e⟩:=D.out.asks (j:=3) {s with inn:= ee (dy ⟨b,o,dD⟩) (n-1) 0} rfl ⟨dy ⟨b,o,dD⟩,n-1,0,rfl,by omega,by omega,λq=>cm (by omega) q⟩ rfl;exact⟨a,A,c,⟨_,d⟩,e⟩
  ·go_ret
   refine⟨x,rfl,by unfold fO;omega, ?_⟩;obtain⟨a,A,c,d,e⟩:=D.out.asks (j:=3) {s with inn:= ee (dy ⟨b,o+1,dD⟩) (n-1) (cap-1)} rfl ⟨dy ⟨b,o+1,dD⟩,n-1,cap-1,rfl,by omega,by omega,λq=>⟨b,o+1,rfl,I,J,λj hj=>by
    rw[Nat.add_assoc,Nat.add_comm 1 j];exact N.out (j+1) (by omega)⟩⟩ rfl
   exact⟨a,A,c,⟨_,d⟩,e⟩
end
theorem JX:(aw.info? 87).map (λi=>(i.zero,i.size,i.bytes))=dy (dy (ei #[eh dT,ee dD 0 0,Z U 0,Z U 0]),4,48):=by kernel_rfl
theorem Kt {P:Program}{w:World}{o:Oper}{a:Act}{K:Act->World->Prop}{Q:Exit->Act->World->Prop}(l c:Operand)(t:TypeId)(u:o.op=Op.makeSlice t l c)
  (e:TypeId)(i:TypeInfo)(z:cy)(v:P.underlying t=dy (.slice e))(A:P.info? e=dy i)(C:i.zero=dy z)(D:i.size=1)(E:z.cells=#[z])
  (n:bo)(G:a.eval l= Z U (n:aq))(I:a.eval c= Z U (n:aq))(V:i.bytes*n<=281474976710656)(J:n<=maxLen)
  (L:K (a.put o.dst (ee (dy ⟨w.heap.size,0,dD⟩) n n)) (w.alloc (el (bc n z).toArray e))):o.wp P a w K Q:=by
 have N:(n:aq)<=9223372036854775807:=by
  have h:=J;simp[maxLen] at h;omega
 have O:(i.bytes:aq)*(n:aq)<=281474976710656:=by
  have h:((i.bytes*n:bo):aq)<=281474976710656:=by omega
  rwa [Int.natCast_mul] at h
 have f:=run_make (P:=P) w t e i z v A C .i64 .i64 n n (by omega) (cI _) O N;simp only[am,D,E,Nat.mul_one] at f;have T:madeCells #[z] n=(bc n z).toArray:=by
  rw[<-toList_madeCells_one]
 rw[T] at f;unfold Oper.wp;simp[execOp,u,G,I,f,Result.andThen];simpa[Oper.upon] using L
section
variable {R H:bo}{m:Mo}{B:bo}{tg:bo->WT}{s:IY}{cs:bq Cl}{stk:bq Fr}{bd:bq Sn}{w w':World}
def KV (R H:bo)(m:Mo)(B:bo)(tg:bo->WT)(s:IY)(cs:bq Cl)(stk:bq Fr)(bd:bq Sn)(w:World)(n:bo)(e:Ending)(w':World):Prop:=
 (e= em (Z U 0)/\Bb R H m B tg w cs stk bd (·={s with asked:=s.asked+1}) w')\/
 (e= em (Z U ((cs.length:aq)+1))/\∃b,Bb R H m B tg w (cs++[⟨dS,bc n 0,(0,0),b⟩]) stk bd (λf=>∃A K,f={s with asked:=s.asked+1,ceA:=A,ceK:=K}) w')
theorem JY (w:World)(h:Wm R H m B tg s cs stk bd w)(n:bo)(hn:n<=1000)(gm:cs.length<=100000)(gn:0<=s.asked)(gr:s.asked<=100000):
  Calls aw 158 #[eg (dy ⟨H,0,dD⟩),Z U (n:aq)] w (KV R H m B tg s cs stk bd w n):=by
 have c1:w.cell? ⟨H,1,dD⟩=dy (Z U s.asked):=zR (h.x.hp (by simp)) 1 _;have f1:w.frozen? ⟨H,1,dD⟩=dT:=bm _ _ _ _ _ (h.x.hp (by simp));have hH:=ae (h.x.hp (by simp));obtain⟨k,hk⟩:∃k:bo,s.asked=(k:aq):=⟨s.asked.toNat,by omega⟩
 rw[hk] at c1;have r1:bs.wrap ((k:aq)+1)=(k:aq)+1:=by rw[bb];omega
 obtain⟨gw,s2,I,e2,x2,t2⟩:=h.asks (j:=1) (u:= Z U ((k:aq)+1)) {s with asked:=(k:aq)+1} rfl h.x.inn rfl;subst e2;obtain⟨w2,es⟩:=zE (w.setCell ⟨H,1,dD⟩ (Z U ((k:aq)+1)));rw[es] at I x2;obtain⟨ao,O,fc,et,gz,eM⟩:=I.x.fail;simp only at et;have c2:w2.cell? ⟨H,2,dD⟩=dy (ee ao O fc):=by rw[<-et];exact zR (I.x.hp (by simp)) 2 _
 have gA:=ae (I.x.hp (by simp));have fy:=zH es;have J:=zH I;have HX:=zH x2;have HT:=zH t2;have fz:=zH eM;have eN:=zH hk;clear h I es et eM x2 t2 hk;go_enter func158,ntmps158
 go_upto_region 3 with(fail)
 rw[fy.out];clear c1 f1
 go_cut [32] from 17 to 33 (λfL wc=>∃b:Bool,fL= eh b/\wc=w2)
 case first=>
  by_cases eR:k<O
  ·obtain⟨b,o,rfl,gC,gE,hc⟩:=fz.out (by omega)
   obtain⟨x,hx⟩:=hc k eR;have fN:(k:aq)<(O:aq):=by omega
   clear hc;go_wp2
   go_meet
   case rel=>exact⟨_,rfl,rfl⟩
  ·have fN:decide ((k:aq)<(O:aq))=dT:=cG (by omega)
   have gO:decide (k<O)=dT:=cG eR;go_wp2
   go_meet
   case rel=>exact⟨_,rfl,rfl⟩
 case rest=>
 obtain⟨b,rfl,rfl⟩:=hcut;cases b with
 |true=>
  go_wp2;go_ret;refine .inl ⟨rfl, ?_⟩;rw[eN.out];exact Bb.step HX.out HT.out (J.out.refl)
 |false=>
  go_upto_region 5 with(fail)
  obtain⟨i0,fR,fS,fW,fX⟩:=info_parts Jp;obtain⟨i1,fY,gb,gd,ge⟩:=info_parts JX;obtain⟨T,ev⟩:=zE (KG {s with asked:=(k:aq)+1} cs.length);have ew:wc.heap[H]?=dy (el T 154 (0,0)):=by rw[<-ev];exact J.out.x.hp (by simp)
  have ez:T[0]?=dy (ee s.ceA cs.length s.ceK):=by rw[<-ev];rfl
  obtain⟨C,eA⟩:=zE ((λw'=>w'.heap[H]?=dy (el T 154 (0,0))):World->Prop);have V:cU (∀W,W.heap[H]?=dy (el T 154 (0,0))->C W):=λW a=>by rw[<-eA];exact a
  have v:cU (∀W,C W->W.cell? ⟨H,0,dD⟩=dy (ee s.ceA cs.length s.ceK)/\H<W.heap.size):=λW hw=>by rw[<-eA] at hw;exact⟨(rowAt hw 0 ez).1,ae hw⟩
  have gg:C wc.drew:=V.out _ ew;have L:=zH ew;have gh:=zH ez;clear eA ew ez ev;refine ak 12 C (by kernel_rfl) ?_;refine zT 0 rfl v.out ?_;(try go_simp);refine zT 1 rfl v.out ?_;(try go_simp);refine zT 2 rfl v.out ?_;(try go_simp);refine zT 3 rfl v.out ?_;(try go_simp);refine zT 4 rfl v.out ?_;(try go_simp);refine zT 5 rfl v.out ?_;(try go_simp);refine zO 6 rfl λK' f=> ?_;refine Kt (.tmp 38) (.tmp 38) 85 rfl 2 i0 (Z U 0) underlying85 fR fS fW rfl n rfl rfl (by rw[fX];omega) (by unfold maxLen;omega) ?_;obtain⟨D,hD⟩:=zE wc.drew.heap.size;obtain⟨E,X⟩:=zE (wc.drew.alloc (el (bc n (dg .i64 0)).toArray 2));rw[X,hD];have Y:bt wc.heap.size wc E:=by rw[<-X];exact(ba _ _).drew.alloc (bA _) _
  have en:VB E D (bc n 0):=by unfold VB;rw[<-JJ,<-X,<-hD];exact alloc_at _ _
  have eS:C E:=V.out _ ((Y.block H (ae L.out)).trans L.out);refine f _ _ eS ?_;clear f;(try go_simp);refine zT 7 rfl v.out ?_;(try go_simp);refine zO 8 rfl λK' f=> ?_;go_simp;obtain⟨G,hG⟩:=zE E.heap.size;obtain⟨z,ep⟩:=zE (E.alloc (el #[eh dS,ee (dy ⟨D,0,dD⟩) n n,Z U 0,Z U 0] 87));rw[ep,hG];have eC:bt E.heap.size E z:=iq ep;have eV:z.heap[G]?=dy (el #[eh dS,ee (dy ⟨D,0,dD⟩) n n,Z U 0,Z U 0] 87 (0,0)):=by rw[<-ep,<-hG];exact alloc_at _ _
  have P:bt wc.heap.size wc z:=Y.trans (eC.mono Y.size);have eE:VB z D (bc n 0):=(eC.block D (ae en)).trans en;have eW:C z:=V.out _ ((P.block H (ae L.out)).trans L.out);have N:=J.out.grow P;have eI:=N.x.ce (by simp);simp only at eI;have gR:wc.heap.size=D:=hD;have gS:D<G:=by rw[<-hG];exact ae en
  refine f _ _ eW ?_;clear f;(try go_simp);refine zO 9 rfl λK' f=> ?_;have ff:B<=z.heap.size:=by have:=N.lo H (by rw[N.t2];simp);omega
  have fg:cs.length+1<=maxLen:=by unfold maxLen;omega
  refine aH (.tmp 37) (.tmp 41) 78 rfl B 87 i1 _ 4 48 underlying78 fY gb gd ge rfl (by decide) (ee s.ceA cs.length s.ceK) cs.length (cs.flatMap JR) rfl eI (dy ⟨G,0,dD⟩) 1 1 [eh dS,ee (dy ⟨D,0,dD⟩) n n,Z U 0,Z U 0] rfl rfl (λh=>by cases h) (λad gi j u hu=>by
   obtain rfl:(⟨G,0,dD⟩:Addr)=ad:=by simpa using gi
   rw[cf,ch,cE _ _ _ _ _ _ eV];simpa using hu) (by simp[cP]) fg (by omega) ff ?_
  intro v9 w9 eq fh eJ;obtain⟨eK,c9,gj⟩:=ai eq;subst gj;have eL:Ext (λq=>yA s.ceA=dy q) z w9:=Ext.of_grown fh (λq hq=> .inl (by rw[<-aa s.ceA cs.length s.ceK];exact hq));have fi:¬yA s.ceA=dy H:=λe=>by have:=N.t4 H e;rw[N.t2] at this;simp at this
  have er:=eL.heap ((P.block H (ae L.out)).trans L.out) fi;have fj:C w9:=V.out _ er;refine f _ _ fj ?_;clear f;(try go_simp);refine zT 10 rfl v.out ?_;(try go_simp);refine zT 11 rfl v.out ?_;(try go_simp);refine zK rfl λK' f=> ?_;have fk:w9.cell? ⟨H,0,dD⟩=dy (ee s.ceA cs.length s.ceK):=(rowAt er 0 gh.out).1;have fm:w9.frozen? ⟨H,0,dD⟩=dT:=bm _ _ _ _ _ er;go_simp;(try simp only[fk,fm]);(try go_simp);refine f _ _ ?_;clear f;refine⟨by kernel_rfl, ?_⟩;have fp:[eh dS,ee (dy ⟨D,0,dD⟩) n n,Z U 0,Z U 0]=JR ⟨dS,bc n 0,(0,0),D⟩:=by simp only[JR,List.length_replicate]
  rw[fp] at eq;obtain⟨gl,s',Q,q2,q3,q4⟩:=J.out.pushC (w1:=z) (w9:=w9) P eE (by omega) eL eq (λq e=>by have:=eJ q (by rw[aa];exact e);rwa [aa] at this) (λe=>by
   rcases eJ D (by rw[aa];exact e) with e|e
   ·rw[aa] at e
    have ht:=J.out.t4 D e;have:=(J.out.lo D (by rw[ht];simp)).2;omega
   ·have:=ae eE;omega)
  obtain⟨ft,fx⟩:=zE (w9.setCell ⟨H,0,dD⟩ (ee eK (cs.length+1) c9));rw[fx] at Q q3⊢;have g6:ft.cell? ⟨H,0,dD⟩=dy (ee eK (cs.length+1) c9):=by
   have q:=Q.x.hp (by simp);rw[q2,ca,cb] at q;exact zR q 0 _
  have g7:=ae (Q.x.hp (by simp));have HQ:cU (Bb R H m B tg w (cs++[⟨dS,bc n 0,(0,0),D⟩]) stk bd (λs'=>∃A K,s'={s with asked:=s.asked+1,ceA:=A,ceK:=K}) ft):=by
   refine Bb.step HX.out HT.out ⟨gl,s',Q,⟨eK,c9, ?_⟩,q3,q4⟩;rw[q2,eN.out]
  clear Q q2 q3 q4 fp eq fh eJ eL fi er fj fk fm fx eW eS gg eI eV en eE X ep Y eC P ff fg N c2;go_wp2;go_ret;exact .inr ⟨rfl,D,HQ.out⟩
end
end Go.Proofs.YtjomgckjhcfbgaaGreat
