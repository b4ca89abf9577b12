/- Walks. -/
import Derived.ArgAppend
import Derived.Test.YtjomgckjhcfbgaaGreatX4
set_option maxRecDepth 100000
set_option maxHeartbeats 64000000
set_option linter.all false
namespace Go.Proofs.YtjomgckjhcfbgaaGreat
open Go.RowKit
open Go.Proofs.Tryz renaming prog→ac,underlying32→dr,underlying4→fX,ntmps217→oa,func217→pf
open Go.RowKit.Below renaming refl→an,heap_alloc→bt
open Go.RowKit renaming Below→aq,Hid→ca
open _root_ renaming ByteArray→aw,List→bm,Nat→cd,Int→cj,Array→cG,Option→du
open _root_.Nat renaming le_refl→bp
open Go.Value renaming oneCell'→br,string→qT,slice→ra,pointer→rb,bool→re,agg→rh,int→Z
open Go renaming Value→bw,run_storeCells_new→cf,storeCells→cU,maxLen→dl,run_underlying→eJ,Calls→ft,heap_alloc2_old→fN,TypeId→ge,Oper→ij,Program→i8,Addr→oA,bytes→oE
open _root_.List renaming eq_nil_of_length_eq_zero→cY
open Go.Result renaming andThen→eV
open Go.Sem renaming run_bind→fc
open Go.Oper renaming wp→km
open Go.Instr renaming field→ly
open _root_.Option renaming some→qt,none→qu
open _root_.Bool renaming true→qv,false→qS
open Go.Obj renaming cells→rj
open Go.Ending renaming returned→rk
open Go.IntKind renaming i64→U
open Tryz
theorem Af (a:Bool)(s:aw)(W:World):(ly 32 (rh #[re a,qT s]) 0).run ac W= .ok (re a) W:=by
 have d:=dr;have f:=fX;unfold ly;rw[fc,eJ d W];simp[asAgg,part,go_sem,isAgg,fc,eJ f W]
theorem wu {m:cd}{p:Pg}{L:cd}{X:Fx}{V:bm Ty}{I:bm eX}{S:bm (aw×cd)}{O:cd->Prop}{s:Sl}(n:cj)(nm:aw)(d f:cj)(A:Ty)(x:cj)(w:World)(h:Mk m p L X V I S O s w)(rK:V.length+1<=1000)(rL:I.length+1<=1000):
  ft ac 217 #[rb (qt ⟨m,0,qu⟩),rh #[Z U 1,Z U n,qT nm,qT ⟨#[]⟩,ra qu 0 0,Z U d,Z U f],rh #[re A.1,qT A.2],Z U x] w λe w'=>e= rk (Z U (xH x V))/\bT m p L X (BA x V bq) (I++[⟨1,xH x V,0,0,n,d,f⟩]) S O w w':=by
 obtain⟨N,q⟩:=zE w.heap.size;obtain⟨u,y⟩:=zE ((w.alloc (rj #[Z U 1,Z U n,qT nm,qT ⟨#[]⟩,ra qu 0 0,Z U d,Z U f] 313)).alloc (rj #[re A.1,qT A.2] 32));obtain⟨o,v⟩:=zE (u.alloc (rj #[re qS,qT ⟨#[]⟩] 32));have rl:=qQ y q;have G:u.heap.size=N+2:=by rw[<-y];simp[q]
 have J:aq N w o:=by rw[<-v];exact rl.alloc (by omega) _
 have rm:o.heap.size=N+3:=by rw[<-v];simp[G]
 have K:o.heap[N]?=qt (rj #[Z U 1,Z U n,qT nm,qT ⟨#[]⟩,ra qu 0 0,Z U d,Z U f] 313 (0,0)):=by
  rw[<-v];refine(bt _ _ N (by omega)).trans ?_;rw[<-y,<-q];exact fN _ _ _
 have rn:o.heap[N+2]?=qt (rj #[re qS,qT ⟨#[]⟩] 32 (0,0)):=by rw[<-v,<-G];exact alloc_at _ _
 have h3:Mk m p L X V I S O s o:=h.grow (by rw[q];exact J);have sL:m<N:=by have:=aa h.row;omega
 have rr:¬(N=m\/O N):=by rintro(h1|h1);omega;have:=(h.ol N h1).2;omega
 have hst:∀(c:cG bw),c.size=2->(cU ⟨u.heap.size,0,qu⟩ [re qS,qT ⟨#[]⟩] 0).run ac (u.alloc (rj c 32))= .ok () (u.alloc (rj #[re qS,qT ⟨#[]⟩] 32)):=λc hc=>
  cf (P:=ac) u 32 c #[re qS,qT ⟨#[]⟩] (by show _=qt 2;kernel_rfl) hc (by simp[br])
 have rv:aq w.heap.size w o:=by rw[q];exact J
 have rN:=zH hst;have rS:=zH y;have se:=zH v;have sf:=zH rv;have sk:=zH K;have sn:=zH rr;have sR:=zH rm;have sT:=zH q;have sq:=zH (pu x bq o h3 rK);clear h y v rl J rm h3 hst rv rr;go_enter pf,oa
 go_upto_region 1 with(fail)
 rw[rS.out];have sr:=rN.out
 go_upto_region 2 with(fail)
 rw[se.out];(try simp only[G]);clear sr;obtain⟨⟨a0,a1,a2,a3,a4,a5,a6⟩,_,sX⟩:=dC K;obtain⟨⟨e0,e1⟩,_,sY⟩:=bL rn;clear K rn
 go_upto_region 5 with(go_at_call 246;refine sq.out.mono ?_;rintro e w4 ⟨rfl,rx⟩;have sx:=zH rx;clear rx)
 obtain⟨O4,s4,k4,R,o4⟩:=sx.out;have rB:=R.heap sk.out sn.out;obtain⟨⟨b0,b1,b2,b3,b4,b5,b6⟩,_,te⟩:=dC rB;have sy:=zH (gN ⟨1,xH x V,0,0,n,d,f⟩ w4 k4 rL);have sB:ca (∀D,bT m p L X (BA x V bq) (I++[⟨1,xH x V,0,0,n,d,f⟩]) S O4 w4 D->bT m p L X (BA x V bq) (I++[⟨1,xH x V,0,0,n,d,f⟩]) S O w D):=λD h5=>(bT.trans R o4 h5).below sf.out;clear k4 R o4 rB a0 a1 a2 a3 a4 a5 a6 e0 e1
 go_wp2_with (go_at_call 223;refine sy.out.mono ?_;rintro e D ⟨rfl,rI⟩;have sE:=zH (sB.out _ rI);clear rI)
 go_ret;exact⟨rfl,sE.out⟩
theorem Du {m:cd}{p:Pg}{L:cd}{X:Fx}{V:bm Ty}{I:bm eX}{S:bm (aw×cd)}{O:cd->Prop}{s:Sl}(n:cj)(nm:aw)(G J:cj)(A:Ty)(x:cj)(j:cd)(z:aw×cd)(hj:S[j]?=qt z)(hn:(z.1==nm)=qv)(hl:∀q y,j<q->S[q]?=qt y->(y.1==nm)=qS)(y:Ty)(hy:V[z.2]?=qt y)(hx:x<0)(w:World)(h:Mk m p L X V I S O s w)(rS:V.length+1<=1000)(se:I.length+1<=1000):
  ft ac 217 #[rb (qt ⟨m,0,qu⟩),rh #[Z U 2,Z U n,qT nm,qT ⟨#[]⟩,ra qu 0 0,Z U G,Z U J],rh #[re A.1,qT A.2],Z U x] w λe w'=>e= rk (Z U (z.2:cj))/\bT m p L X V I S O w w':=by
 obtain⟨N,f⟩:=zE w.heap.size;obtain⟨o,v⟩:=zE ((w.alloc (rj #[Z U 2,Z U n,qT nm,qT ⟨#[]⟩,ra qu 0 0,Z U G,Z U J] 313)).alloc (rj #[re A.1,qT A.2] 32));obtain⟨d,u⟩:=zE (o.alloc (rj #[re qS,qT ⟨#[]⟩] 32));have rn:=qQ v f;have K:o.heap.size=N+2:=by rw[<-v];simp[f]
 have R:aq N w d:=by rw[<-u];exact rn.alloc (by omega) _
 have rr:d.heap.size=N+3:=by rw[<-u];simp[K]
 have rl:d.heap[N]?=qt (rj #[Z U 2,Z U n,qT nm,qT ⟨#[]⟩,ra qu 0 0,Z U G,Z U J] 313 (0,0)):=by
  rw[<-u];refine(bt _ _ N (by omega)).trans ?_;rw[<-v,<-f];exact fN _ _ _
 have rv:d.heap[N+2]?=qt (rj #[re qS,qT ⟨#[]⟩] 32 (0,0)):=by rw[<-u,<-K];exact alloc_at _ _
 have D:Mk m p L X V I S O s d:=h.grow (by rw[f];exact R);have sf:m<N:=by have:=aa h.row;omega
 have rx:¬(N=m\/O N):=by rintro(h1|h1);omega;have:=(h.ol N h1).2;omega
 have hst:∀(c:cG bw),c.size=2->(cU ⟨o.heap.size,0,qu⟩ [re qS,qT ⟨#[]⟩] 0).run ac (o.alloc (rj c 32))= .ok () (o.alloc (rj #[re qS,qT ⟨#[]⟩] 32)):=λc hc=>
  cf (P:=ac) o 32 c #[re qS,qT ⟨#[]⟩] (by show _=qt 2;kernel_rfl) hc (by simp[br])
 have rm:aq w.heap.size w d:=by rw[f];exact R
 have rB:=zH hst;have rI:=zH v;have rK:=zH u;have sk:=zH rm;have sn:=zH rl;have sq:=zH rx;have sr:=zH rr;have sx:=zH f;have rL:ca (zS 218 #[rb (qt ⟨m,0,qu⟩),qT nm] d (Z U (z.2:cj))):=ma nm j z hj hn hl d D;have sy:ca (zP 219 #[rb (qt ⟨m,0,qu⟩),Z U (z.2:cj)] d (rh #[re y.1,qT y.2])):=nW z.2 y hy d D;have sB:=zH D;have HS:ca (bT m p L X V I S O w d):=h.same rm;clear h v u rn R rr D hst rm rx hj hn hl hy;go_enter pf,oa
 go_upto_region 1 with(fail)
 rw[rI.out];have rN:=rB.out
 go_upto_region 2 with(fail)
 rw[rK.out];(try simp only[K]);clear rN;obtain⟨⟨a0,a1,a2,a3,a4,a5,a6⟩,_,sE⟩:=dC rl;obtain⟨⟨e0,e1⟩,_,sL⟩:=bL rv;clear rl rv
 go_wp2_with (go_at_call 218;refine rL.out.mono ?_;rintro e d ⟨rfl,rfl⟩)
 go_ret;exact⟨rfl,HS.out⟩
theorem uL {m:cd}{p:Pg}{L:cd}{X:Fx}{V:bm Ty}{I:bm eX}{S:bm (aw×cd)}{O:cd->Prop}{s:Sl}(n:cj)(nm:aw)(f o:cj)(G:Ty)(x:cj)(j:cd)(z:aw×cd)(hj:S[j]?=qt z)(hn:(z.1==nm)=qv)(hl:∀q y,j<q->S[q]?=qt y->(y.1==nm)=qS)(y:Ty)(hy:V[z.2]?=qt y)(hx:0<=x)(hp:y.1=qv)(w:World)(h:Mk m p L X V I S O s w)(te:V.length+1<=1000)(se:I.length+1<=1000):
  ft ac 217 #[rb (qt ⟨m,0,qu⟩),rh #[Z U 2,Z U n,qT nm,qT ⟨#[]⟩,ra qu 0 0,Z U f,Z U o],rh #[re G.1,qT G.2],Z U x] w λe w'=>e= rk (Z U x)/\bT m p L X V (I++[⟨9,x,(z.2:cj),0,0,f,o⟩]) S O w w':=by
 obtain⟨N,u⟩:=zE w.heap.size;obtain⟨v,D⟩:=zE ((w.alloc (rj #[Z U 2,Z U n,qT nm,qT ⟨#[]⟩,ra qu 0 0,Z U f,Z U o] 313)).alloc (rj #[re G.1,qT G.2] 32));obtain⟨d,A⟩:=zE (v.alloc (rj #[re qS,qT ⟨#[]⟩] 32));have rr:=qQ D u;have R:v.heap.size=N+2:=by rw[<-D];simp[u]
 have rl:aq N w d:=by rw[<-A];exact rr.alloc (by omega) _
 have rv:d.heap.size=N+3:=by rw[<-A];simp[R]
 have rm:d.heap[N]?=qt (rj #[Z U 2,Z U n,qT nm,qT ⟨#[]⟩,ra qu 0 0,Z U f,Z U o] 313 (0,0)):=by
  rw[<-A];refine(bt _ _ N (by omega)).trans ?_;rw[<-D,<-u];exact fN _ _ _
 have rx:d.heap[N+2]?=qt (rj #[re qS,qT ⟨#[]⟩] 32 (0,0)):=by rw[<-A,<-R];exact alloc_at _ _
 have J:Mk m p L X V I S O s d:=h.grow (by rw[u];exact rl);have tf:m<N:=by have:=aa h.row;omega
 have rB:¬(N=m\/O N):=by rintro(h1|h1);omega;have:=(h.ol N h1).2;omega
 have hst:∀(c:cG bw),c.size=2->(cU ⟨v.heap.size,0,qu⟩ [re qS,qT ⟨#[]⟩] 0).run ac (v.alloc (rj c 32))= .ok () (v.alloc (rj #[re qS,qT ⟨#[]⟩] 32)):=λc hc=>
  cf (P:=ac) v 32 c #[re qS,qT ⟨#[]⟩] (by show _=qt 2;kernel_rfl) hc (by simp[br])
 have rI:aq w.heap.size w d:=by rw[u];exact rl
 have sf:=zH hst;have sk:=zH D;have sn:=zH A;have sq:=zH rI;have sr:=zH rm;have th:=zH rB;have ti:=zH rv;have tj:=zH u;have sx:ca (zS 218 #[rb (qt ⟨m,0,qu⟩),qT nm] d (Z U (z.2:cj))):=ma nm j z hj hn hl d J;have rK:ca (zP 219 #[rb (qt ⟨m,0,qu⟩),Z U (z.2:cj)] d (rh #[re y.1,qT y.2])):=nW z.2 y hy d J;have sy:=zH J;clear h D A rr rl rv J hst rI rB hj hn hl hy;go_enter pf,oa
 go_upto_region 1 with(fail)
 rw[sk.out];have sB:=sf.out
 go_upto_region 2 with(fail)
 rw[sn.out];(try simp only[R]);clear sB;obtain⟨⟨a0,a1,a2,a3,a4,a5,a6⟩,_,sE⟩:=dC rm;obtain⟨⟨e0,e1⟩,_,tl⟩:=bL rx;clear rm rx;have sL:=λ(W:World)=>Af qv y.2 W;have sR:ca (zP 219 #[rb (qt ⟨m,0,qu⟩),Z U (z.2:cj)] d (rh #[re qv,qT y.2])):=by have:=rK.out;rw[hp] at this;exact this
 clear rK hp
 go_upto_region 14 with(first
  |(go_at_call 218;refine sx.out.mono ?_;rintro e d ⟨rfl,rfl⟩)
  |(go_at_call 219;refine sR.out.mono ?_;rintro e w4 ⟨rfl,rL⟩;have rn:=zH rL;clear rL))
 clear sL;have k4:=sy.out.grow rn.out;have rN:=(rn.out.block N sE).trans sr.out;obtain⟨⟨b0,b1,b2,b3,b4,b5,b6⟩,_,tm⟩:=dC rN;have sT:=zH (gN ⟨9,x,(z.2:cj),0,0,f,o⟩ w4 k4 se);have sX:ca (∀K,bT m p L X V (I++[⟨9,x,(z.2:cj),0,0,f,o⟩]) S O w4 K->bT m p L X V (I++[⟨9,x,(z.2:cj),0,0,f,o⟩]) S O w K):=λK h5=>(h5.below rn.out).below sq.out;clear k4 rN a0 a1 a2 a3 a4 a5 a6 e0 e1
 go_wp2_with (go_at_call 223;refine sT.out.mono ?_;rintro e K ⟨rfl,rS⟩;have sY:=zH (sX.out _ rS);clear rS)
 go_ret;exact⟨rfl,sY.out⟩
theorem ww {m:cd}{p:Pg}{L:cd}{X:Fx}{V:bm Ty}{I:bm eX}{S:bm (aw×cd)}{O:cd->Prop}{s:Sl}(n:cj)(nm:aw)(q u:cj)(wt:Ty)(x:cj)(w:World)(h:Mk m p L X V I S O s w)(sy:V.length+1<=1000)(sB:I.length+1<=1000):
  ft ac 217 #[rb (qt ⟨m,0,qu⟩),rh #[Z U 7,Z U n,qT nm,qT ⟨#[]⟩,ra qu 0 0,Z U q,Z U u],rh #[re wt.1,qT wt.2],Z U x] w λe w'=>e= rk (Z U (xH x V))/\bT m p L X (BA x V (qv,nm)) (I++[⟨12,xH x V,0,l5 p nm,0,q,u⟩]) S O w w':=by
 obtain⟨N,D⟩:=zE w.heap.size;obtain⟨G,K⟩:=zE ((w.alloc (rj #[Z U 7,Z U n,qT nm,qT ⟨#[]⟩,ra qu 0 0,Z U q,Z U u] 313)).alloc (rj #[re wt.1,qT wt.2] 32));obtain⟨v,J⟩:=zE (G.alloc (rj #[re qS,qT ⟨#[]⟩] 32));have rL:=qQ K D;have rm:G.heap.size=N+2:=by rw[<-K];simp[D]
 have rn:aq N w v:=by rw[<-J];exact rL.alloc (by omega) _
 have rN:v.heap.size=N+3:=by rw[<-J];simp[rm]
 have rr:v.heap[N]?=qt (rj #[Z U 7,Z U n,qT nm,qT ⟨#[]⟩,ra qu 0 0,Z U q,Z U u] 313 (0,0)):=by
  rw[<-J];refine(bt _ _ N (by omega)).trans ?_;rw[<-K,<-D];exact fN _ _ _
 have rS:v.heap[N+2]?=qt (rj #[re qS,qT ⟨#[]⟩] 32 (0,0)):=by rw[<-J,<-rm];exact alloc_at _ _
 have h3:Mk m p L X V I S O s v:=h.grow (by rw[D];exact rn);have tr:m<N:=by have:=aa h.row;omega
 have se:¬(N=m\/O N):=by rintro(h1|h1);omega;have:=(h.ol N h1).2;omega
 have hst:∀(c:cG bw),c.size=2->(cU ⟨G.heap.size,0,qu⟩ [re qS,qT ⟨#[]⟩] 0).run ac (G.alloc (rj c 32))= .ok () (G.alloc (rj #[re qS,qT ⟨#[]⟩] 32)):=λc hc=>
  cf (P:=ac) G 32 c #[re qS,qT ⟨#[]⟩] (by show _=qt 2;kernel_rfl) hc (by simp[br])
 have sf:aq w.heap.size w v:=by rw[D];exact rn
 have sE:=zH hst;have sL:=zH K;have sR:=zH J;have sT:=zH sf;have sX:=zH rr;have sY:=zH se;have tt:=zH rN;have tv:=zH D;have te:=zH (pu x (qv,nm) v h3 sy);clear h K J rL rn rN h3 hst sf se;go_enter pf,oa
 go_upto_region 1 with(fail)
 rw[sL.out];have tf:=sE.out
 go_upto_region 2 with(fail)
 rw[sR.out];(try simp only[rm]);clear tf;obtain⟨⟨a0,a1,a2,a3,a4,a5,a6⟩,_,tz⟩:=dC rr;obtain⟨⟨e0,e1⟩,_,tA⟩:=bL rS;clear rr rS
 go_upto_region 33 with(go_at_call 246;refine te.out.mono ?_;rintro e f ⟨rfl,rl⟩;have th:=zH rl;clear rl)
 obtain⟨O4,s4,R,x4,o4⟩:=th.out;have rv:=x4.heap sX.out sY.out;have ti:=aa rv;have rl:=aa R.row;have sk:∀W,aq f.heap.size f W->W.cell? ⟨N,0,qu⟩=qt (Z U 7)/\W.cell? ⟨N,1,qu⟩=qt (Z U n)/\W.cell? ⟨N,2,qu⟩=qt (qT nm)/\W.cell? ⟨N,3,qu⟩=qt (qT ⟨#[]⟩)/\W.cell? ⟨N,4,qu⟩=qt (ra qu 0 0)/\W.cell? ⟨N,5,qu⟩=qt (Z U q)/\W.cell? ⟨N,6,qu⟩=qt (Z U u)/\W.cell? ⟨m,0,qu⟩=qt (ra (qt ⟨p.pA,0,qu⟩) 1 p.pC)/\W.cell? ⟨m,1,qu⟩=qt (ra (qt ⟨p.qA,0,qu⟩) 1 p.qC):=λW y=>by
  have A:=(y.block N ti).trans rv;have r2:=(R.grow y).row;exact⟨(rowAt A 0 rfl).1,(rowAt A 1 rfl).1,(rowAt A 2 rfl).1,(rowAt A 3 rfl).1,(rowAt A 4 rfl).1,(rowAt A 5 rfl).1,(rowAt A 6 rfl).1,(rowAt r2 0 rfl).1,(rowAt r2 1 rfl).1⟩
 have sn:∀W,aq f.heap.size f W->zP 212 #[rh #[ra (qt ⟨p.pA,0,qu⟩) 1 p.pC,ra (qt ⟨p.qA,0,qu⟩) 1 p.qC],qT nm] W (Z U (l5 p nm)):=λW y=>fD nm W (R.grow y).pg;have tj:ca (∀W,aq f.heap.size f W->ft ac 223 #[rb (qt ⟨m,0,qu⟩),rh #[Z U 12,Z U (xH x V),Z U 0,Z U 0,Z U (l5 p nm),Z U 0,qT ⟨#[]⟩,ra qu 0 0,ra qu 0 0,Z U 0,Z U 0,Z U q,Z U u]] W λe w'=>e= rk (Z U (I.length:cj))/\bT m p L X (BA x V (qv,nm)) (I++[⟨12,xH x V,0,l5 p nm,0,q,u⟩]) S O w w'):=λW y=>
  (gN ⟨12,xH x V,0,l5 p nm,0,q,u⟩ W (R.grow y) sB).mono λe w5 h5=>⟨h5.1,(bT.trans x4 o4 (h5.2.below y)).below sT.out⟩
 have o:=zH sk;have tl:=zH sn;obtain⟨S1,rx⟩:=zE ((λw'=>aq f.heap.size f w'):World->Prop);have sq:∀w,S1 w->aq f.heap.size f w:=λw h=>by rw[<-rx] at h;exact h
 have rB:∀w,aq f.heap.size f w->S1 w:=λw h=>by rw[<-rx];exact h
 have rI:S1 f.drew:=rB _ (an _ _).drew;have d:=zH sq;have tm:=zH rB;clear R x4 o4 rv sk sn rx sq rB a0 a1 a2 a3 a4 a5 a6 e0 e1 rl;refine ah 12 S1 (by kernel_rfl) ?_;refine zT 0 rfl (λw h=>o.out w (d.out w h)) ?_;(try go_simp);refine zT 1 rfl (λw h=>o.out w (d.out w h)) ?_;(try go_simp);refine zT 2 rfl (λw h=>o.out w (d.out w h)) ?_;(try go_simp);refine zT 3 rfl (λw h=>o.out w (d.out w h)) ?_;(try go_simp);refine zT 4 rfl (λw h=>o.out w (d.out w h)) ?_;(try go_simp);refine zT 5 rfl (λw h=>o.out w (d.out w h)) ?_;(try go_simp);refine zT 6 rfl (λw h=>o.out w (d.out w h)) ?_;(try go_simp);refine zT 7 rfl (λw h=>o.out w (d.out w h)) ?_;(try go_simp);refine zT 9 rfl (λw h=>o.out w (d.out w h)) ?_;(try go_simp);refine zT 10 rfl (λw h=>o.out w (d.out w h)) ?_;(try go_simp);refine zO 8 rfl λK' hK=> ?_;go_simp;go_at_call 212;refine(tl.out _ (d.out _ (by assumption))).mono ?_;rintro e w5 ⟨rfl,sr⟩;have rK:S1 w5:=tm.out _ ((d.out _ rI).trans (sr.mono (d.out _ rI).size));have tn:=zH rK;refine hK _ _ rK ?_;clear hK;(try go_simp);refine zT 11 rfl (λw h=>o.out w (d.out w h)) ?_;(try go_simp);refine zK rfl λK' hK=> ?_;go_simp;go_at_call 223;refine(tj.out _ (d.out _ tn.out)).mono ?_;rintro e w6 ⟨rfl,sx⟩;refine hK _ _ ?_;clear hK;refine⟨by kernel_rfl, ?_⟩;have tp:=zH sx;clear sx sr rK rI;go_wp2;go_ret;exact⟨rfl,tp.out⟩
theorem yg {m:cd}{p:Pg}{L:cd}{X:Fx}{V:bm Ty}{I:bm eX}{S:bm (aw×cd)}{O:cd->Prop}{s:Sl}(rK:X.os= ra qu 0 0)(tb:Bool)(ts nm:aw)(g G:cd)(D:Ex)(y:g<L/\∀(j:cd)(u:bw),D.cells.toList[j]?=qt u->∀W,iG p L W->W.cell? ⟨g,j,qu⟩=qt u)(d:cj)(V2:bm Ty)(I2:bm eX)(sn:I2.length+1<=1000)
  (rL:∀W O s,Mk m p L X V I S O s W->ft ac 217 #[rb (qt ⟨m,0,qu⟩),rh D.cells,rh #[re X.rt.1,qT X.rt.2],Z U (-1)] W λe w'=>e= rk (Z U d)/\bT m p L X V2 I2 S O W w')(ln cl:cj)(w:World)(h:Mk m p L X V I S O s w):
  ft ac 180 #[rb (qt ⟨m,0,qu⟩),rh #[Z U 8,re tb,qT ts,qT nm,ra (qt ⟨g,0,qu⟩) 1 G,ra qu 0 0,ra qu 0 0,Z U ln,Z U cl]] w λe w'=>e= rk (.tuple #[])/\bT m p L X V2 (I2++[⟨18,0,d,0,0,ln,cl⟩]) S O w w':=by
 obtain⟨N,J⟩:=zE w.heap.size;obtain⟨f,rl⟩:=zE (w.alloc (rj #[Z U 8,re tb,qT ts,qT nm,ra (qt ⟨g,0,qu⟩) 1 G,ra qu 0 0,ra qu 0 0,Z U ln,Z U cl] 282));have rn:=gQ rl J;have rm:f.heap[N]?=qt (rj #[Z U 8,re tb,qT ts,qT nm,ra (qt ⟨g,0,qu⟩) 1 G,ra qu 0 0,ra qu 0 0,Z U ln,Z U cl] 282 (0,0)):=by rw[<-rl,<-J];exact alloc_at _ _
 have te:=aa rm;have A:Mk m p L X V I S O s f:=h.grow (by rw[J];exact rn);have rN:aq w.heap.size w f:=by rw[J];exact rn
 have tf:=aa A.row;have th:m<N:=by have:=aa h.row;omega
 have rS:¬(N=m\/O N):=by rintro(A|A);omega;have:=(h.ol N A).2;omega
 have sq:f.cell? ⟨m,15,qu⟩=qt (Z U 0):=(rowAt A.row 15 rfl).1;have sr:f.cell? ⟨m,19,qu⟩=qt (ra qu 0 0):=by rw[<-rK];exact(rowAt A.row 19 rfl).1
 obtain⟨⟨a0,a1,a2,a3,a4,a5,a6,a7,a8⟩,_,_⟩:=eH rm;have sx:=zH rl;have sy:=zH rN;have sB:=zH rm;have sE:=zH rS;have ti:=zH J;obtain⟨K,rr⟩:=zE ((λw':World=>w'.cell? ⟨g,0,qu⟩=qt (Z U D.kind)/\w'.cell? ⟨g,1,qu⟩=qt (Z U D.n)/\w'.cell? ⟨g,2,qu⟩=qt (qT D.nm)/\w'.cell? ⟨g,3,qu⟩=qt (qT ⟨#[]⟩)/\w'.cell? ⟨g,4,qu⟩=qt (ra qu 0 0)/\w'.cell? ⟨g,5,qu⟩=qt (Z U D.ln)/\w'.cell? ⟨g,6,qu⟩=qt (Z U D.cl)/\w'.cell? ⟨m,2,qu⟩=qt (re X.rt.1)/\w'.cell? ⟨m,3,qu⟩=qt (qT X.rt.2)/\w'.cell? ⟨N,4,qu⟩=qt (ra (qt ⟨g,0,qu⟩) 1 G)):World->Prop);have se:∀w,K w->_:=λw h=>by rw[<-rr] at h;exact h
 have rv:∀W V I O s,Mk m p L X V I S O s W->W.cell? ⟨N,4,qu⟩=qt (ra (qt ⟨g,0,qu⟩) 1 G)->K W:=λW V I O s o hc=>by
  rw[<-rr];exact⟨y.2 0 _ rfl W o.pg,y.2 1 _ rfl W o.pg,y.2 2 _ rfl W o.pg,y.2 3 _ rfl W o.pg,y.2 4 _ rfl W o.pg,y.2 5 _ rfl W o.pg,y.2 6 _ rfl W o.pg,(rowAt o.row 2 rfl).1,(rowAt o.row 3 rfl).1,hc⟩
 have rx:Mk m p L X V I S O s f.drew:=A.grow (an _ _).drew;have sL:K f.drew:=rv _ _ _ _ _ rx a4;have hV:=rL f.drew O s rx;unfold Ex.cells at hV;have HV:=zH hV;have v:=zH se;have sR:=zH rv;clear h A rl rn rm rN rS rK rx rr se rv hV rL y;go_enter func180,ntmps180
 go_upto_region 1 with(fail)
 rw[sx.out]
 go_upto_region 24 with(fail)
 refine ah 10 K (by kernel_rfl) ?_;refine zT 0 rfl v.out ?_;(try go_simp);refine zT 1 rfl v.out ?_;(try go_simp);refine zT 2 rfl v.out ?_;(try go_simp);refine zT 3 rfl v.out ?_;(try go_simp);refine zT 4 rfl v.out ?_;(try go_simp);refine zT 5 rfl v.out ?_;(try go_simp);refine zT 6 rfl v.out ?_;(try go_simp);refine zT 7 rfl v.out ?_;(try go_simp);refine zT 8 rfl v.out ?_;(try go_simp);refine zO 9 rfl λK' R=> ?_;go_simp;go_at_call 217;refine HV.out.mono ?_;rintro e w4 ⟨rfl,O4,s4,k4,x4,o4⟩;have rB:Ext (λq=>q=m\/O q) f w4:=((Ext.refl _ _).drew).trans x4 (λq h=> .inl h);have rI:=rB.heap sB.out sE.out;have sf:K w4:=sR.out _ _ _ _ _ k4 (rowAt rI 4 rfl).1;obtain⟨⟨b0,b1,b2,b3,b4,b5,b6,b7,b8⟩,_,tj⟩:=eH rI;have sT:=zH (gN ⟨18,0,d,0,0,ln,cl⟩ w4 k4 sn);have sX:ca (∀w5,bT m p L X V2 (I2++[⟨18,0,d,0,0,ln,cl⟩]) S O4 w4 w5->bT m p L X V2 (I2++[⟨18,0,d,0,0,ln,cl⟩]) S O w w5):=λw5 h5=>(bT.trans rB o4 h5).below sy.out;refine R _ _ sf ?_;clear R k4 x4 o4 rI a0 a1 a2 a3 a4 a5 a6 a7 a8 sq sr;(try go_simp);refine zK rfl λK' R=> ?_;go_simp;refine R _ _ ?_;clear R;refine⟨by kernel_rfl, ?_⟩;clear sf sL rB
 go_wp2_with (go_at_call 223;refine sT.out.mono ?_;rintro e w5 ⟨rfl,sk⟩;have sY:=zH (sX.out _ sk);clear sk)
 go_end0
 exact⟨rfl,sY.out⟩
theorem bH {P:i8}{w:World}{o:ij}{a:Act}{Q:Exit->Act->World->Prop}{K:Act->World->Prop}(s x:Operand)(t:ge)
  (G:o.op= .call {callee:= .builtin .append,args:=#[s,x],argTypes:=#[t,t]})(e:ge)(i:TypeInfo)(z:bw)(size oE:cd)(J:P.underlying t=qt (.slice e))(R:P.info? e=qt i)(h3:i.zero=qt z)(h4:i.size=size)(h5:i.bytes=oE)(h6:z.cells.size=size)(h7:0<size)
  (q:du oA)(n cap:cd)(h:bm bw)(hs:a.eval s= ra q n cap)(rm:q=qu->n=0/\cap=0)(rl:h.length=n*size)(rn:∀b,q=qt b->∀j u,h[j]?=qt u->w.cell? (b.add j)=qt u)
  (v:oA)(m c:cd)(d:bm bw)(hx:a.eval x= ra (qt v) m c)(hn:d.length=m*size)(hc:∀j u,d[j]?=qt u->w.cell? (v.add j)=qt u)(rr:∀u∈d,u.oneCell'=qv)
  (rv:cap<n+m)(b1:n+m<=dl)(b2:(n+m)*oE<=140737488355328)
  (hK:∀f w',w'.ownsRow w.heap.size e size f (n+m) (h++d)->w.grownBy w' qu->K (a.put o.dst f) w'):km P o a w K Q:=by
 cases q with
 |some b=>
  obtain⟨f,w',y,A,D⟩:=run_append_arg_grows (P:=P) w t o.type e i z size oE J R h3 h4 h5 h6 h7 b n cap h rl (rn b rfl) v m c d hn hc rv b1 b2;unfold km;simp[execOp,G,resolve,invoke,builtin,hs,hx,y,eV];exact hK f w' A D
 |none=>
  obtain⟨rfl,rfl⟩:=rm rfl;obtain rfl:h=[]:=cY (by simpa using rl);obtain⟨f,w',y,A,D,_⟩:=run_append_own (P:=P) w w.heap.size t o.type e i z size oE J R h3 h4 h5 h6 h7 (ra qu 0 0) 0 [] (World.ownsRow_nil w _ e size) v m c d hn hc rr b1 b2 (bp _);unfold km;simp[execOp,G,resolve,invoke,builtin,hs,hx,y,eV];exact hK f w' A D
end Go.Proofs.YtjomgckjhcfbgaaGreat
