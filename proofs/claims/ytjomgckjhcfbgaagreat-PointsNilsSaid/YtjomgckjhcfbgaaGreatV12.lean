/- Walks. -/
import Derived.Laws.StructEq
import Derived.Test.YtjomgckjhcfbgaaGreatV11
set_option maxRecDepth 100000
set_option maxHeartbeats 64000000
set_option linter.all false
namespace Go.Proofs.YtjomgckjhcfbgaaGreat
open Go.RowKit
open Go.Proofs.Tryz renaming prog→ac,underlying164→cq
open Go.RowKit.Below renaming refl→an
open _root_ renaming List→bh,Nat→bw,Int→ct,if_neg→cy,Array→cC,if_pos→cQ,Option→dr,decide_eq_false→er,False→fW,absurd→gC,Bool→iv,decide_eq_true→kh,beq_iff_eq→nr
open Go.RowKit renaming Below→bj,Hid→cr
open Go.Value renaming slice→bk,oneCell'→bp,int→dv,slice→ot,pointer→ox,bool→oy,agg→oA,int→Z
open _root_.Nat renaming le_refl→bl,lt_of_lt_of_le→cg,le_trans→cv,zero_add→cJ,zero_le→da,le_succ→fX,min_eq_left→m4
open Go renaming Value→bo,wpList_load_row→cc,cell_of_row→ci,bodyPost_ret→cP,maxLen→cX,results_none→de,Calls→et,TypeId→eJ,Oper→fY,yielded→gh,Program→gA,info_parts→iu,ready_mono→i9
open _root_.List renaming getElem?_eq_getElem→ce,length_append→cm,mem_singleton→co,mem_append→cw,mem_of_getElem?→cA,flatMap_cons→cY,eq_nil_of_length_eq_zero→db,length_map→dd,flatMap_append→dk,take_length→dl,length_cons→du,mem_map→eh,map_append→em,length_singleton→eE,getElem?_append_right→eI,length_filter_le→gR,length_range→i8,flatMap_singleton→jz,range→ka,take_add_one→kp,getElem?_map→kO,length_take→lp,length_mergeSort→lx,mem_range→m6
open Go.Exit renaming inBlock→cD
open Go.Region renaming ready→cG,wanted→cU,binds→dq,noSelect→el,Mode→ey,noSelect_spec→gn,free→gE,free_spec→ij
open Go.Addr renaming add_lit→cI
open _root_.Classical renaming byContradiction→ea
open Go.Instr renaming lookup→ew
open Go.Value.slice renaming injEq→ez
open _root_.Option.some renaming injEq→fa
open _root_.Bool renaming and_eq_true→fk,true→oc,false→od
open _root_.Array renaming getElem?_setIfInBounds_ne→fy,replicate→ip,setIfInBounds_comm→kq
open Go.Oper renaming wp→ia
open _root_.Prod renaming snd→km
open _root_.Prod.mk renaming injEq→lR
open Go.Code renaming region→nt
open _root_.Option renaming some→oa,none→ob
open Go.Obj renaming cells→oB
open Go.Ending renaming returned→oE
open Go.IntKind renaming i64→U
open Tryz
section
open Go.RowKit Go.Maps
theorem zg (w:World):(zeroValue 162).run ac w= .ok (.map ob) w:=by kernel_rfl
theorem xM (b:bw)(w:World):(binOp .eql 162 (.map (oa b)) (.map ob)).run ac w= .ok (oy od) w:=by kernel_rfl
theorem zh (w:World):(binOp .eql 162 (.map ob) (.map ob)).run ac w= .ok (oy oc) w:=by kernel_rfl
section
variable {T HM FM GM:bw}{m:Mo}{B:bw}{tg tg1:bw->PT}{s s1:rY}{p p1 p':PS}{w w1 w':World}
theorem Pm.look (h:Pm T HM FM GM m B tg s p w){n:Nd}(a:eB n):(ew 143 (.map (oa HM)) (gI n) od).run ac w= .ok (s.hv n) w:=by
 obtain⟨c,q⟩:=h.hm;exact q.look iD underlying143 (zg w) a
theorem aG {W:World}{D:bw}{a b c:ct}(h:W.heap[D]?=oa (oB #[Z U a,Z U b,Z U c] 164 (0,0))):∀j u,(#[Z U a,Z U b,Z U c]:cC bo).toList[j]?=oa u->W.cell? ((⟨D,0,ob⟩:Addr).add j)=oa u:=by
 intro j u d;rw[cI,cJ,ci _ _ _ _ _ _ h];simpa using d
theorem ja (w:World)(h:Pm T HM FM GM m B tg s p w){n1 n2 n3:ct}(hn:eB (n1,n2,n3)){x:bw}(hx:x<=1000000)(lH:p.H.length+1<=500000000)(lT:p.td.length+1<=500000000):
  et ac 120 #[ox (oa ⟨T,0,ob⟩),oA #[Z U n1,Z U n2,Z U n3],Z U (x:ct)] w λe w'=>e= oE (.tuple #[])/\aQ ZA T HM FM GM m B tg (p.add (n1,n2,n3) x) w w':=by
 obtain⟨D,hD⟩:=zE w.heap.size;obtain⟨W1,ra⟩:=zE (w.alloc (oB #[Z U n1,Z U n2,Z U n3] 164));have sB:=jJ ra;have sE:W1.heap[D]?=oa (oB #[Z U n1,Z U n2,Z U n3] 164 (0,0)):=by rw[<-ra,<-hD];exact alloc_at _ _
 have rl:bj w.heap.size w W1.drew:=sB.drew;have h1:=h.grow rl;have rm:W1.drew.heap[D]?=oa (oB #[Z U n1,Z U n2,Z U n3] 164 (0,0)):=sE;obtain⟨S1,rb⟩:=zE ((λw'=>w'=W1.drew):World->Prop);have sL:S1 W1.drew:=by rw[<-rb]
 have rn:=h1.look hn;unfold gI at rn;have pw:cr (∀W,S1 W->W.cell? ⟨T,3,ob⟩=oa (.map (oa HM))/\T<W.heap.size/\(ew 143 (.map (oa HM)) (oA #[Z U n1,Z U n2,Z U n3]) od).run ac W= .ok (s.hv (n1,n2,n3)) W):=λW o=>by
  rw[<-rb] at o;subst o;exact⟨(rowAt h1.row 3 rfl).1,aa h1.row,rn⟩
 have sR:cr (∀W,S1 W->∀j u,(#[Z U n1,Z U n2,Z U n3]:cC bo).toList[j]?=oa u->W.cell? ((⟨D,0,ob⟩:Addr).add j)=oa u):=λW o=>by
  rw[<-rb] at o;subst o;exact aG rm
 have sT:cr (D=w.heap.size):=hD.symm;have H:=zH h;have H1:=zH h1;have pH:=zH rm;have px:=zH rl;have tr:=zH ra;clear h sB sE rl h1 rm rb rn ra hD;go_enter func120,ntmps120
 go_upto_region 1 with(fail)
 rw[tr.out];refine ai 6 S1 (by kernel_rfl) ?_;refine zT 0 rfl pw.out ?_;(try go_simp);refine zT 1 rfl pw.out ?_;(try go_simp);refine zT 2 rfl pw.out ?_;(try go_simp);refine zT 3 rfl pw.out ?_;(try go_simp);(try rw[<-sT.out]);refine zL 4 rfl 164 ⟨D,0,ob⟩ sR.out cq ?_;(try go_simp);refine zT 5 rfl pw.out ?_;(try go_simp);refine zK rfl λK' d=> ?_;go_simp;refine d _ _ ?_;clear d;refine⟨by kernel_rfl, ?_⟩;have sX:tg D= .no:=ea λe=>by have:=(H.out.lo D e).2;rw[sT.out] at this;exact Nat.lt_irrefl _ this
 have ro:=zH sX;obtain⟨W2,sY⟩:=zE W1.drew;rw[sY] at H1 pH px⊢;have ta:=zH sL;clear sL sY sX pw sR;rcases H1.out.hs _ hn with⟨hv,h0⟩|⟨b,c,S,hv,rr,hc,hS,tc⟩
 ·rw[hv]
  have tt:=zh;have tv:=@run_makeMap ac;obtain⟨b,hb⟩:=zE W2.heap.size;obtain⟨W3,rc⟩:=zE (W2.alloc (.map #[] 0));have te:gG W3 b 0 []:=by rw[<-rc,<-hb];exact gG.made _
  have re:bj W2.heap.size W2 W3.drew:=(jJ rc).drew;have tf:gG W3.drew b 0 []:=te.ext ((Ext.refl (λ_=>fW) W3).drew) (λh=>h);have h3:=H1.out.grow re;have rv:=(re.block D (aa pH.out)).trans pH.out;obtain⟨c0,q3⟩:=h3.hm;obtain⟨W4,pb,th,rx⟩:=q3.put iD underlying143 hn (.map (oa b));unfold gI at pb;obtain⟨k1,k2,k3⟩:=H1.out.newset (n:=(n1,n2,n3)) h0 (Ext.of_below_size re) tf (Nat.le_of_eq hb) rx th;have pc:D≠b:=by have:=aa pH.out;omega
  have ti:¬D=HM:=λe=>by have:=ro.out;rw[e,H1.out.t2] at this;simp at this
  have tj:=rx.heap rv ti;obtain⟨S3,rh⟩:=zE ((λw'=>w'=W3.drew):World->Prop);have tz:S3 W3.drew:=by rw[<-rh]
  have py:cr (∀W,S3 W->W.cell? ⟨T,3,ob⟩=oa (.map (oa HM))/\T<W.heap.size):=λW o=>by
   rw[<-rh] at o;subst o;exact⟨(rowAt h3.row 3 rfl).1,aa h3.row⟩
  have tl:cr (∀W,S3 W->∀j u,(#[Z U n1,Z U n2,Z U n3]:cC bo).toList[j]?=oa u->W.cell? ((⟨D,0,ob⟩:Addr).add j)=oa u):=λW o=>by
   rw[<-rh] at o;subst o;exact aG rv
  obtain⟨tg1,J⟩:=zE (λk=>if k=b then PT.set (n1,n2,n3) else tg k);obtain⟨s1,pd⟩:=zE ({s with hv:=um s.hv (n1,n2,n3) (.map (oa b))}:rY);have f:cr (Pm T HM FM GM m B tg1 s1 p W4):=by rw[<-J,<-pd];exact k1
  have HX:cr (Ext (λk=>tg k≠ .no/\¬ZA (tg k)) w W4):=Ext.trans (Ext.of_below_size px.out) k2 (λk h=> .inl h);have HT:cr ((∀k,tg1 k≠ .no->tg k≠ .no\/w.heap.size<=k)/\∀k,tg k≠ .no->tg1 k=tg k):=by
   refine⟨λk v=> ?_,λk v=>by rw[<-J];exact cy (λe=>by have:=(H.out.lo k v).2;have:=px.out.size;omega)⟩
   by_cases e:k=b
   ·exact .inr (by rw[e,<-hb];exact px.out.size)
   ·refine .inl λq=>v ?_
    rw[<-J]
    show(if k=b then PT.set (n1,n2,n3) else tg k)= .no
    rw[cy e];exact q
  have oS:cr (tg1 b= .set (n1,n2,n3)):=by rw[<-J];exact cQ rfl
  have pf:cr (tg1 D= .no):=by
   rw[<-J]
   show(if D=b then PT.set (n1,n2,n3) else tg D)= .no
   rw[cy pc];exact ro.out
  have HV:cr (s1.hv (n1,n2,n3)= .map (oa b)):=by rw[<-pd];exact fG _ _
  have rB:=zH tj;have HC:cr (0<=p.H.length):=da _;have rj:=zH k3;have pB:cr (∀z:ct,z∈([]:bh ct)↔∃x:bw,z=(x:ct)/\(((n1,n2,n3):Nd),x)∈p.H):=λz=>⟨λhz=>by simp at hz,λ⟨x,_,hx⟩=>gC hx (h0 x)⟩
  have rI:cr ((((n1,n2,n3):Nd),x)∉p.H):=h0 x;have rk:=k3.look (x:=(x:ct)) (by omega);rw[er (λh=>by simp at h)] at rk;obtain⟨c,rK⟩:=zE 0;obtain⟨S,rL⟩:=zE ([]:bh ct);rw[rK,rL] at rj;rw[rL] at pB;have HC:cr (c<=p.H.length):=by rw[<-rK];exact da _
  have tm:=zH rc;have tn:=zH hb;have tp:=zH pb;clear hv h0 te tf re h3 rv q3 th rx pb k1 k2 k3 pc ti tj rh J pd rK rL rc hb
  go_upto_region 4 with(fail)
  clear tv;(try rw[tn.out]);(try rw[tm.out]);refine ai 6 S3 (by kernel_rfl) ?_;refine zT 0 rfl py.out ?_;(try go_simp);refine zT 1 rfl py.out ?_;(try go_simp);refine zT 2 rfl py.out ?_;(try go_simp);refine zT 3 rfl py.out ?_;(try go_simp);refine zL 4 rfl 164 ⟨D,0,ob⟩ tl.out cq ?_;(try go_simp);refine zT 5 rfl py.out ?_;(try go_simp);refine zK rfl λK' d=> ?_;have pb:=tp.out;go_simp;(try simp only[pb]);(try go_simp);refine d _ _ ?_;clear d pb;refine⟨by kernel_rfl, ?_⟩;clear tp tz py tl tm tn;have ph:T≠b:=λe=>by have:=f.out.t1;rw[e,oS.out] at this;simp at this
  have pc:D≠b:=λe=>by have:=pf.out;rw[e,oS.out] at this;simp at this
  have pL:D≠T:=λe=>by have:=pf.out;rw[e,f.out.t1] at this;simp at this
  have pi:∀k,(bk s1.tdA p.td.length s1.tdC).ownBlock=oa k->k≠D/\k≠T/\k≠b/\k<W4.heap.size:=λk v=>by
   have a:=f.out.t6 k v;have a0:=pf.out;have a1:=f.out.t1;have a2:=oS.out;exact⟨λe=>by rw[e] at a;rw[a0] at a;simp at a,λe=>by rw[e,a1] at a;simp at a,λe=>by rw[e,a2] at a;simp at a,(f.out.lo k (by rw[a];simp)).2⟩
  have pN:c<=1000000000:=by have:=f.out.lH;have:=HC.out;omega
  obtain⟨A,pb,pP,R⟩:=rj.out.add (x:=(x:ct)) (by omega) pN;have pS:=R.heap f.out.row ph;have pT:=R.heap rB.out pc;have pZ:=af f.out.trow R (λk v e=>(pi k v).2.2.1 e);have pj:=zH pS;have pk:=zH pT;have rN:=zH pZ;have rS:=zH pP;have qe:=zH R;have qk:=zH pi;have tA:=zH ph;have tB:=zH pL;clear pS pT pZ pP R pi ph pL pc pN ta
  go_upto_region 7 with(fail)
  obtain⟨i0,se,sf,sg,sk⟩:=iu nW;obtain⟨K,oT⟩:=zE ((λw'=>w'.heap[T]?=oa (oB (wT m HM FM GM s1 p.St.length p.td.length) 148 (0,0))/\w'.heap[D]?=oa (oB #[Z U n1,Z U n2,Z U n3] 164 (0,0))):World->Prop);have pl:cr (∀W,W.heap[T]?=oa (oB (wT m HM FM GM s1 p.St.length p.td.length) 148 (0,0))->W.heap[D]?=oa (oB #[Z U n1,Z U n2,Z U n3] 164 (0,0))->K W):=λW a b=>by rw[<-oT];exact⟨a,b⟩
  have g:cr (∀w,K w->w.cell? ⟨T,6,ob⟩=oa (ot s1.tdA p.td.length s1.tdC)/\T<w.heap.size):=λw hw=>by rw[<-oT] at hw;exact⟨(rowAt hw.1 6 rfl).1,aa hw.1⟩
  have sn:cr (∀W,K W->∀j u,(#[Z U n1,Z U n2,Z U n3]:cC bo).toList[j]?=oa u->W.cell? ((⟨D,0,ob⟩:Addr).add j)=oa u):=λW o=>by
   rw[<-oT] at o;exact aG o.2
  have tD:K A.drew:=pl.out _ pj.out pk.out;clear oT;refine ai 12 K (by kernel_rfl) ?_;refine zT 0 rfl g.out ?_;(try go_simp);refine zT 1 rfl g.out ?_;(try go_simp);refine zT 2 rfl g.out ?_;(try go_simp);refine zT 3 rfl g.out ?_;(try go_simp);refine zT 4 rfl g.out ?_;(try go_simp);refine zL 5 rfl 164 ⟨D,0,ob⟩ sn.out cq ?_;(try go_simp);refine zT 6 rfl g.out ?_;(try go_simp);refine zT 7 rfl g.out ?_;(try go_simp);refine zO 8 rfl λK' d=> ?_;go_simp;obtain⟨G,hG⟩:=zE A.heap.size;obtain⟨Y,oX⟩:=zE ((A.alloc (oB #[Z U n1,Z U n2,Z U n3,Z U (x:ct)] 215)).drew);(try rw[hG]);(try rw[oX]);have N:bj A.heap.size A Y:=by rw[<-oX];exact((an _ _).alloc (bl _) _).drew
  have qn:Y.heap[G]?=oa (oB #[Z U n1,Z U n2,Z U n3,Z U (x:ct)] 215 (0,0)):=by rw[<-oX,<-hG];exact alloc_at _ _
  have pm:=(N.block T (aa pj.out)).trans pj.out;have pn:=(N.block D (aa pk.out)).trans pk.out;have po:Ext (λ_=>fW) A Y:=Ext.of_below_size N;have qq:=af rN.out po (λ_ _ h=>h);refine d _ _ (pl.out _ pm pn) ?_;clear d;(try go_simp);refine zO 9 rfl λK' d=> ?_;have qr:B<=Y.heap.size:=cv f.out.base (cv qe.out.size N.size);have qs:p.td.length+1<=cX:=by unfold cX;omega
  refine ay (.tmp 32) (.tmp 36) 146 rfl B 215 i0 _ 4 32 underlying146 se sf sg sk rfl (by decide) (ot s1.tdA p.td.length s1.tdC) p.td.length (p.td.flatMap zf) rfl qq (oa ⟨G,0,ob⟩) 1 1 [Z U n1,Z U n2,Z U n3,Z U (x:ct)] rfl rfl (λh=>by cases h) (λad so j u hu=>by
   obtain rfl:(⟨G,0,ob⟩:Addr)=ad:=by simpa using so
   rw[cI,cJ,ci _ _ _ _ _ _ qn];simpa using hu) (by simp[bp]) qs (by omega) qr ?_
  intro v9 w9 pp qt qu;obtain⟨tE,c9,sq⟩:=au pp;subst sq;have oY:Ext (λq=>(bk s1.tdA p.td.length s1.tdC).ownBlock=oa q) Y w9:=Ext.of_grown qt (λq hq=> .inl hq);have oR:=oY.heap pm (λe=>(qk.out _ e).2.1 rfl);have qv:=oY.heap pn (λe=>(qk.out _ e).1 rfl);have qS:K w9:=pl.out _ oR qv;have sr:=(rowAt oR 6 rfl).2;have sx:=(rowAt oR 6 rfl).1;have tG:=aa oR;refine d _ _ qS ?_;clear d;(try go_simp);refine zT 10 rfl g.out ?_;(try go_simp);refine zT 11 rfl g.out ?_;(try go_simp);refine zK rfl λK' d=> ?_;go_simp;refine d _ _ ?_;clear d;refine⟨by kernel_rfl, ?_⟩;have qT:Ext (λq=>(bk s1.tdA p.td.length s1.tdC).ownBlock=oa q) A w9:=(po.mono (λ_ h=>h.elim)).trans oY (λq h=> .inl h);have sy:=zH (f.out.added (n:=(n1,n2,n3)) (x:=x) HV.out oS.out HC.out pB.out rI.out lH lT rS.out qe.out pp qT (λk v=>by
   rcases qu k v with q|q
   ·exact .inl q
   ·exact .inr (cv N.size q)))
  clear oR qv qS sr sx oY qT pm pn po qq pp qt qu oX N qn hG qr qs;go_wp2
  go_end0
  exact⟨rfl,aQ.step HX.out HT.out sy.out⟩
 ·rw[hv]
  obtain⟨tg1,J⟩:=zE tg;obtain⟨s1,pd⟩:=zE s;have f:cr (Pm T HM FM GM m B tg1 s1 p W2):=by rw[<-J,<-pd];exact H1.out
  have HX:cr (Ext (λk=>tg k≠ .no/\¬ZA (tg k)) w W2):=Ext.of_below_size px.out;have HT:cr ((∀k,tg1 k≠ .no->tg k≠ .no\/w.heap.size<=k)/\∀k,tg k≠ .no->tg1 k=tg k):=⟨λk v=> .inl (by rw[J];exact v),λk _=>by rw[<-J]⟩
  have oS:cr (tg1 b= .set (n1,n2,n3)):=by rw[<-J];exact tc
  have pf:cr (tg1 D= .no):=by rw[<-J];exact ro.out
  have HV:cr (s1.hv (n1,n2,n3)= .map (oa b)):=by rw[<-pd];exact hv
  have rB:=pH;have HC:=zH hc;have rj:=zH rr;have pB:=zH hS;have rk:=rr.look (x:=(x:ct)) (by omega);have tt:=xM b;clear hv rr hc hS tc J pd
  by_cases pD:(x:ct)∈S
  ·have tM:cr ((((n1,n2,n3):Nd),x)∈p.H):=by
    obtain⟨y,e,hy⟩:=(pB.out _).1 pD;rw[Int.ofNat_inj.1 e];exact hy
   rw[kh pD] at rk;clear pD;go_wp2
   go_end0
   refine⟨rfl, ?_⟩;unfold PS.add;rw[cQ tM.out];exact H.out.same px.out
  ·have rI:cr ((((n1,n2,n3):Nd),x)∉p.H):=λq=>pD ((pB.out _).2 ⟨x,rfl,q⟩)
   rw[er pD] at rk;clear pD;have ph:T≠b:=λe=>by have:=f.out.t1;rw[e,oS.out] at this;simp at this
   have pc:D≠b:=λe=>by have:=pf.out;rw[e,oS.out] at this;simp at this
   have pL:D≠T:=λe=>by have:=pf.out;rw[e,f.out.t1] at this;simp at this
   have pi:∀k,(bk s1.tdA p.td.length s1.tdC).ownBlock=oa k->k≠D/\k≠T/\k≠b/\k<W2.heap.size:=λk v=>by
    have a:=f.out.t6 k v;have a0:=pf.out;have a1:=f.out.t1;have a2:=oS.out;exact⟨λe=>by rw[e] at a;rw[a0] at a;simp at a,λe=>by rw[e,a1] at a;simp at a,λe=>by rw[e,a2] at a;simp at a,(f.out.lo k (by rw[a];simp)).2⟩
   have pN:c<=1000000000:=by have:=f.out.lH;have:=HC.out;omega
   obtain⟨A,pb,pP,R⟩:=rj.out.add (x:=(x:ct)) (by omega) pN;have pS:=R.heap f.out.row ph;have pT:=R.heap rB.out pc;have pZ:=af f.out.trow R (λk v e=>(pi k v).2.2.1 e);have pj:=zH pS;have pk:=zH pT;have rN:=zH pZ;have rS:=zH pP;have qe:=zH R;have qk:=zH pi;have tA:=zH ph;have tB:=zH pL;clear pS pT pZ pP R pi ph pL pc pN ta
   go_upto_region 7 with(fail)
   obtain⟨i0,se,sf,sg,sk⟩:=iu nW;obtain⟨K,oT⟩:=zE ((λw'=>w'.heap[T]?=oa (oB (wT m HM FM GM s1 p.St.length p.td.length) 148 (0,0))/\w'.heap[D]?=oa (oB #[Z U n1,Z U n2,Z U n3] 164 (0,0))):World->Prop);have pl:cr (∀W,W.heap[T]?=oa (oB (wT m HM FM GM s1 p.St.length p.td.length) 148 (0,0))->W.heap[D]?=oa (oB #[Z U n1,Z U n2,Z U n3] 164 (0,0))->K W):=λW a b=>by rw[<-oT];exact⟨a,b⟩
   have g:cr (∀w,K w->w.cell? ⟨T,6,ob⟩=oa (ot s1.tdA p.td.length s1.tdC)/\T<w.heap.size):=λw hw=>by rw[<-oT] at hw;exact⟨(rowAt hw.1 6 rfl).1,aa hw.1⟩
   have sn:cr (∀W,K W->∀j u,(#[Z U n1,Z U n2,Z U n3]:cC bo).toList[j]?=oa u->W.cell? ((⟨D,0,ob⟩:Addr).add j)=oa u):=λW o=>by
    rw[<-oT] at o;exact aG o.2
   have tD:K A.drew:=pl.out _ pj.out pk.out;clear oT;refine ai 12 K (by kernel_rfl) ?_;refine zT 0 rfl g.out ?_;(try go_simp);refine zT 1 rfl g.out ?_;(try go_simp);refine zT 2 rfl g.out ?_;(try go_simp);refine zT 3 rfl g.out ?_;(try go_simp);refine zT 4 rfl g.out ?_;(try go_simp);refine zL 5 rfl 164 ⟨D,0,ob⟩ sn.out cq ?_;(try go_simp);refine zT 6 rfl g.out ?_;(try go_simp);refine zT 7 rfl g.out ?_;(try go_simp);refine zO 8 rfl λK' d=> ?_;go_simp;obtain⟨G,hG⟩:=zE A.heap.size;obtain⟨Y,oX⟩:=zE ((A.alloc (oB #[Z U n1,Z U n2,Z U n3,Z U (x:ct)] 215)).drew);(try rw[hG]);(try rw[oX]);have N:bj A.heap.size A Y:=by rw[<-oX];exact((an _ _).alloc (bl _) _).drew
   have qn:Y.heap[G]?=oa (oB #[Z U n1,Z U n2,Z U n3,Z U (x:ct)] 215 (0,0)):=by rw[<-oX,<-hG];exact alloc_at _ _
   have pm:=(N.block T (aa pj.out)).trans pj.out;have pn:=(N.block D (aa pk.out)).trans pk.out;have po:Ext (λ_=>fW) A Y:=Ext.of_below_size N;have qq:=af rN.out po (λ_ _ h=>h);refine d _ _ (pl.out _ pm pn) ?_;clear d;(try go_simp);refine zO 9 rfl λK' d=> ?_;have qr:B<=Y.heap.size:=cv f.out.base (cv qe.out.size N.size);have qs:p.td.length+1<=cX:=by unfold cX;omega
   refine ay (.tmp 32) (.tmp 36) 146 rfl B 215 i0 _ 4 32 underlying146 se sf sg sk rfl (by decide) (ot s1.tdA p.td.length s1.tdC) p.td.length (p.td.flatMap zf) rfl qq (oa ⟨G,0,ob⟩) 1 1 [Z U n1,Z U n2,Z U n3,Z U (x:ct)] rfl rfl (λh=>by cases h) (λad so j u hu=>by
    obtain rfl:(⟨G,0,ob⟩:Addr)=ad:=by simpa using so
    rw[cI,cJ,ci _ _ _ _ _ _ qn];simpa using hu) (by simp[bp]) qs (by omega) qr ?_
   intro v9 w9 pp qt qu;obtain⟨tE,c9,sq⟩:=au pp;subst sq;have oY:Ext (λq=>(bk s1.tdA p.td.length s1.tdC).ownBlock=oa q) Y w9:=Ext.of_grown qt (λq hq=> .inl hq);have oR:=oY.heap pm (λe=>(qk.out _ e).2.1 rfl);have qv:=oY.heap pn (λe=>(qk.out _ e).1 rfl);have qS:K w9:=pl.out _ oR qv;have sr:=(rowAt oR 6 rfl).2;have sx:=(rowAt oR 6 rfl).1;have tG:=aa oR;refine d _ _ qS ?_;clear d;(try go_simp);refine zT 10 rfl g.out ?_;(try go_simp);refine zT 11 rfl g.out ?_;(try go_simp);refine zK rfl λK' d=> ?_;go_simp;refine d _ _ ?_;clear d;refine⟨by kernel_rfl, ?_⟩;have qT:Ext (λq=>(bk s1.tdA p.td.length s1.tdC).ownBlock=oa q) A w9:=(po.mono (λ_ h=>h.elim)).trans oY (λq h=> .inl h);have sy:=zH (f.out.added (n:=(n1,n2,n3)) (x:=x) HV.out oS.out HC.out pB.out rI.out lH lT rS.out qe.out pp qT (λk v=>by
    rcases qu k v with q|q
    ·exact .inl q
    ·exact .inr (cv N.size q)))
   clear oR qv qS sr sx oY qT pm pn po qq pp qt qu oX N qn hG qr qs;go_wp2
   go_end0
   exact⟨rfl,aQ.step HX.out HT.out sy.out⟩
end
end
theorem AZ:∀(l:bh Nd)(i:bw)(p:Nd),l[i]?=oa p->(l.flatMap jK)[i*3+0]?=oa (Z U p.1)/\(l.flatMap jK)[i*3+1]?=oa (Z U p.2.1)/\(l.flatMap jK)[i*3+2]?=oa (Z U p.2.2):=by
 intro l
 induction l with
 |nil=>intro i p a;simp at a
 |cons x r ih=>
  intro i p a;cases i with
  |zero=>
   obtain rfl:x=p:=by simpa using a
   exact⟨rfl,rfl,rfl⟩
  |succ i=>
   obtain⟨b,d,f⟩:=ih i p (by simpa using a);rw[cY];refine⟨?_, ?_, ?_⟩
   ·rw[eI (by simp[jK];omega),show(i+1)*3+0-(jK x).length=i*3+0 by simp[jK];omega];exact b
   ·rw[eI (by simp[jK];omega),show(i+1)*3+1-(jK x).length=i*3+1 by simp[jK];omega];exact d
   ·rw[eI (by simp[jK];omega),show(i+1)*3+2-(jK x).length=i*3+2 by simp[jK];omega];exact f
theorem nY {w:World}{B:bw}{e:eJ}{d n cap:bw}{b:dr Addr}{l:bh bo}(h:w.ownsRow B e d (ot b n cap) n l):(n=0/\l=[])\/∃g,b=oa ⟨g,0,ob⟩/\g<w.heap.size/\∀j u,l[j]?=oa u->w.cell? ⟨g,j,ob⟩=oa u:=by
 rcases h.2 with⟨q,a⟩|⟨g,cap,cur,a,_,f,_⟩
 ·have h0:=h.1
  subst a;rw[Nat.zero_mul] at h0;exact .inl ⟨rfl,db h0⟩
 ·simp only[ez] at a
  refine .inr ⟨g,a.1,aa f,λj u o=> ?_⟩;have:=h.cells (g:=g) (by rw[a.1];rfl) _ _ o;rw[cI,cJ] at this;exact this
theorem zi (p q r a b c:ct)(W:World):(binOp .eql 164 (oA #[Z U p,Z U q,Z U r]) (oA #[Z U a,Z U b,Z U c])).run ac W= .ok (oy (p==a&&(q==b&&r==c))) W:=by
 rw[run_eql_struct,show(10000:bw)=9998+1+1 from rfl];rw[run_equalIn_struct W _ _ _ _ (by kernel_rfl) (by kernel_rfl)];go_simp
 by_cases d:p=a<;>by_cases f:q=b<;>by_cases g:r=c<;>simp[d,f,g]
theorem mr (w:World){B:bw}(c:bw)(ao:dr Addr)(xs:bh Nd)(n1 n2 n3:ct)(hn:xs.length<=500000000)(h:w.ownsRow B 164 3 (ot ao xs.length c) xs.length (xs.flatMap jK)):
  et ac 199 #[ot ao xs.length c,oA #[Z U n1,Z U n2,Z U n3]] w λe w'=>∃k:ct,e= oE (Z U k)/\(0<=k↔(n1,n2,n3)∈xs)/\bj w.heap.size w w':=by
 obtain⟨D,hD⟩:=zE w.heap.size;obtain⟨d,A⟩:=zE (w.alloc (oB #[Z U n1,Z U n2,Z U n3] 164));have oS:=jJ A;have oT:d.heap[D]?=oa (oB #[Z U n1,Z U n2,Z U n3] 164 (0,0)):=by rw[<-A,<-hD];exact alloc_at _ _
 have h1:=af h (Ext.of_below_size (M:=λ_=>fW) oS) (λ_ _ h=>h);have oX:=zH oT;have H1:=zH h1;have G:=zH oS;have ph:=zH A;have HD:=zH hD;clear h oS oT h1 A hD;go_enter func199,ntmps199
 go_wp2_with fail
 rw[ph.out,HD.out]
 go_loopw [8] (λk wr=>∃j:bw,j<=xs.length/\k= Z U (j:ct)/\(n1,n2,n3)∉xs.take j/\bj d.heap.size d wr) (λk _=>xs.length-(intOf k).toNat)
 case atStart=>exact⟨0,da _,rfl,by simp,an _ _⟩
 case round=>
  obtain⟨j,hj,rfl,f,b⟩:=hrel
  by_cases pi:j<xs.length
  ·obtain⟨⟨J,K,N⟩,hy⟩:∃y,xs[j]?=oa y:=⟨_,ce pi⟩
   have po:(j:ct)<(xs.length:ct):=by omega
   have oY:=(b.block D (aa oX.out)).trans oX.out;have h2:=af H1.out (Ext.of_below_size (M:=λ_=>fW) b) (λ_ _ h=>h);obtain⟨a1,a2,a3⟩:=AZ xs j _ hy;obtain⟨g,rfl,hg,R⟩:∃g,ao=oa ⟨g,0,ob⟩/\g<wr.heap.size/\∀j u,(xs.flatMap jK)[j]?=oa u->wr.cell? ⟨g,j,ob⟩=oa u:=by
    rcases nY h2 with⟨e,_⟩|q
    ·omega
    ·exact q
   obtain⟨S,o⟩:=zE ((λw'=>w'=wr.drew):World->Prop);have pj:S wr.drew:=by rw[<-o]
   have pb:cr (∀W,S W->∀j u,(#[Z U n1,Z U n2,Z U n3]:cC bo).toList[j]?=oa u->W.cell? ((⟨D,0,ob⟩:Addr).add j)=oa u):=λW a=>by
    rw[<-o] at a;subst a;exact aG (W:=wr.drew) oY
   have pc:cr (∀W,S W->∀k u,(#[Z U J,Z U K,Z U N]:cC bo).toList[k]?=oa u->W.cell? ((⟨g,j*3,ob⟩:Addr).add k)=oa u):=λW a k u Y=>by
    rw[<-o] at a;subst a;rw[cI]
    show wr.cell? _=_
    rcases k with _|_|_|k
    ·rw[<-(show _=oa u from Y)];exact R _ _ a1
    ·rw[<-(show _=oa u from Y)];exact R _ _ a2
    ·rw[<-(show _=oa u from Y)];exact R _ _ a3
    ·simp at Y
   have oR:cr (∀W,S W->g<W.heap.size):=λW a=>by
    rw[<-o] at a;subst a;exact hg
   have pd:bj d.heap.size d wr.drew:=b.drew;have pf:=zH pd;have HY:=zH hy;have HZ:=zH f;clear oY h2 a1 a2 a3 hg R o hy f b pd;obtain⟨q,hq⟩:=zE (n1==J&&(n2==K&&n3==N));have v:=zi n1 n2 n3 J K N;rw[hq] at v;have pk:=zH v;have HQ:=zH hq;clear v hq;have pl:ac.eqGuardType ac.depth 164=od:=by kernel_rfl
   go_upto_region 4 with(fail)
   refine ai 5 S (by kernel_rfl) ?_;refine zL 0 rfl 164 ⟨D,0,ob⟩ pb.out cq ?_;(try go_simp);refine zT 1 rfl oR.out ?_;(try go_simp);refine zT 2 rfl oR.out ?_;(try go_simp);refine zT 3 rfl oR.out ?_;(try go_simp);refine zL 4 rfl 164 ⟨g,j*3,ob⟩ pc.out cq ?_;(try go_simp);refine zK rfl λK' hK=> ?_;have v:=pk.out;go_simp;refine hK _ _ ?_;clear hK v;refine⟨by kernel_rfl, ?_⟩;clear pb pc oR pj pl;cases q with
   |true=>
    have HM:cr ((n1,n2,n3)∈xs):=by
     have:=HQ.out;simp only[fk,nr] at this;have:=cA HY.out
     rename_i e
     rw[e.1,e.2.1,e.2.2];exact this
    go_wp2;go_ret;exact⟨_,rfl,⟨λ_=>HM.out,λ_=>by omega⟩,G.out.trans (pf.out.mono G.out.size)⟩
   |false=>
    have HN:cr ((n1,n2,n3)∉xs.take (j+1)):=by
     unfold cr;rw[kp,HY.out];intro h;rcases cw.1 h with h|h
     ·exact HZ.out h
     ·have e:((n1,n2,n3):Nd)=(J,K,N):=by simpa using h
      have:=HQ.out;simp only[lR] at e;rw[e.1,e.2.1,e.2.2] at this;simp at this
    go_wp2;go_roundw
    case rel=>exact⟨j+1,by omega,by go_num,HN.out,pf.out⟩
    case measure=>simp[intOf];omega
  ·have pm:j=xs.length:=by omega
   subst pm;rw[dl] at f;have HM:=zH f;have pn:=zH b;clear f b;go_wp2;go_ret;exact⟨_,rfl,⟨λh=>gC h (by omega),λh=>gC h HM.out⟩,G.out.trans (pn.out.mono G.out.size)⟩
theorem jI (w:World){B:bw}(c:bw)(b:dr Addr)(xs:bh Nd)(n1 n2 n3:ct)(A:xs.length<=500000000)(h:w.ownsRow B 164 3 (ot b xs.length c) xs.length (xs.flatMap jK)):
  zP 153 #[ot b xs.length c,oA #[Z U n1,Z U n2,Z U n3]] w (oy (decide ((n1,n2,n3)∈xs))):=by
 obtain⟨D,d⟩:=zE w.heap.size;obtain⟨g,a⟩:=zE (w.alloc (oB #[Z U n1,Z U n2,Z U n3] 164));have f:=jJ a;have j:g.heap[D]?=oa (oB #[Z U n1,Z U n2,Z U n3] 164 (0,0)):=by rw[<-a,<-d];exact alloc_at _ _
 have o:=af h (Ext.of_below_size (M:=λ_=>fW) f) (λ_ _ h=>h);have G:=zH (mr g c b xs n1 n2 n3 A o);have J:=zH j;have q:=zH f;have u:=zH a;have Y:=zH d;clear h f j o a d;go_enter func153,ntmps153
 go_wp2_with (first
  |(refine cc rfl 164 _ rfl D rfl 164 #[Z U n1,Z U n2,Z U n3] (0,0) _ (by rw[u.out];exact J.out) cq rfl (by kernel_rfl) ?_)
  |(rw[u.out];go_at_call 199;refine G.out.mono ?_;rintro e w2 ⟨k,rfl,v,y⟩;have K:=zH v;have N:=zH y;clear v y))
 go_ret;have R:decide (0<=k)=decide ((n1,n2,n3)∈xs):=decide_eq_decide.2 K.out;rw[R];exact⟨rfl,q.out.trans (N.out.mono q.out.size)⟩
section
open Go.RowKit Go.Maps
section
variable {T HM FM GM:bw}{m:Mo}{B:bw}{tg:bw->PT}{s:rY}{p:PS}{w W':World}
theorem Af (s:PS)(n a:Nd)(b:Nd):({s with FL:=s.FL++[(n,b)]}:PS).fl a=if a=n then s.fl a++[b] else s.fl a:=by
 unfold PS.fl
 show((s.FL++[(n,b)]).filter λe=>decide (e.1=a)).map km=_
 rw[List.filter_append,em]
 by_cases e:a=n
 ·subst e
  rw[cQ rfl];simp
 ·rw[cy e]
  have:¬n=a:=λq=>e q.symm;simp[this]
open Classical in
theorem Pm.flowed {n:Nd}{b:Nd}{y A:dr Addr}{cap c D:bw}(h:Pm T HM FM GM m B tg s p w)(hn:eB n)(oX:s.fv n= ot y (p.fl n).length cap)
  (g:Ext (λq=>q=FM\/(bk y (p.fl n).length cap).ownBlock=oa q) w W')(oR:bW eB gI (ot ob 0 0) W' FM c (um s.fv n (ot A ((p.fl n).length+1) D)))
  (N:W'.ownsRow B 164 3 (ot A ((p.fl n).length+1) D) ((p.fl n).length+1) ((p.fl n).flatMap jK++jK b))
  (R:∀q,(bk A ((p.fl n).length+1) D).ownBlock=oa q->(bk y (p.fl n).length cap).ownBlock=oa q\/w.heap.size<=q):
  aQ ZF T HM FM GM m B tg {p with FL:=p.FL++[(n,b)]} w W':=by
 have K:∀q,(bk y (p.fl n).length cap).ownBlock=oa q->tg q= .fl n:=λq hq=>by
  obtain⟨a,c,e,_,ht⟩:=h.fs n hn;rw[oX] at ht;exact ht q hq
 obtain⟨d,oS⟩:=zE (bk A ((p.fl n).length+1) D);rw[oS] at oR N R;have o:∀k,tg k≠ .no->(λk=>if d.ownBlock=oa k then PT.fl n else tg k) k=tg k:=λk f=>by
  show(if d.ownBlock=oa k then PT.fl n else tg k)=tg k
  by_cases e:d.ownBlock=oa k
  ·rw[cQ e]
   rcases R k e with q|q
   ·exact(K k q).symm
   ·have:=(h.lo k f).2
    omega
  ·rw[cy e]
 have u:∀{k:bw}{t:PT},tg k=t->t≠ .mf->t≠ .fl n->¬(k=FM\/(bk y (p.fl n).length cap).ownBlock=oa k):=λh1 Y q2 e=>by
  rcases e with e|e
  ·exact Y (by rw[<-h1,e,h.t3])
  ·exact q2 (by rw[<-h1];exact K _ e)
 have hB:=h.base;refine⟨λk=>if d.ownBlock=oa k then .fl n else tg k,{s with fv:=um s.fv n d},⟨g.heap h.row (u h.t1 (by simp) (by simp)),h.hm.imp λ_ q=>q.ext g (u h.t2 (by simp) (by simp)),⟨c,oR⟩,h.gm.imp λ_ q=>q.ext g (u h.t4 (by simp) (by simp)),
  af h.srow g (λj G=>u (h.t5 j G) (by simp) (by simp)),af h.trow g (λj G=>u (h.t6 j G) (by simp) (by simp)),λv J=>((h.hs v J).ext g (λk e q=>u q (by simp) (by simp) e)).tag o,
  λv J=> ?_,λv J=>((h.gs v J).ext g (λk e q=>u q (by simp) (by simp) e)).tag (by simp) o,
  (o T (by rw[h.t1];simp)).trans h.t1,(o HM (by rw[h.t2];simp)).trans h.t2,(o FM (by rw[h.t3];simp)).trans h.t3,(o GM (by rw[h.t4];simp)).trans h.t4,
  λk f=>(o k (by rw[h.t5 k f];simp)).trans (h.t5 k f),λk f=>(o k (by rw[h.t6 k f];simp)).trans (h.t6 k f),λk f=> ?_,h.lS,h.lH,h.lT⟩,
  g.mono (λk e=> ?_),λk f=> ?_,o⟩
 ·rw[Af]
  show nX W' B (λk=>if d.ownBlock=oa k then PT.fl n else tg k) 164 3 (um s.fv n d v) _ _ (.fl v)
  by_cases e:v=n
  ·subst e
   rw[cQ rfl,fG,dk,jz,cm,eE];exact⟨A,D,oS.symm,N,λj G=>cQ G⟩
  ·rw[cy e,iY e]
   exact((h.fs v J).ext g (λk Y q=>u q (by simp) (by simpa using e) Y)).tag (by simp) o
 ·by_cases e:d.ownBlock=oa k
  ·exact N.lt k e
  ·have oT:tg k≠ .no:=λq=>f (by show(if d.ownBlock=oa k then PT.fl n else tg k)=_;rw[cy e];exact q)
   exact⟨(h.lo k oT).1,cg (h.lo k oT).2 g.size⟩
 ·rcases e with e|e
  ·rw[e,h.t3];simp[ZF]
  ·rw[K k e];simp[ZF]
 ·by_cases e:d.ownBlock=oa k
  ·rcases R k e with q|q
   ·exact .inl (by rw[K k q];simp)
   ·exact .inr q
  ·exact .inl λq=>f (by show(if d.ownBlock=oa k then PT.fl n else tg k)=_;rw[cy e];exact q)
theorem Ag (s:PS)(n a:Nd)(b:Th):({s with GL:=s.GL++[(n,b)]}:PS).gl a=if a=n then s.gl a++[b] else s.gl a:=by
 unfold PS.gl
 show((s.GL++[(n,b)]).filter λe=>decide (e.1=a)).map km=_
 rw[List.filter_append,em]
 by_cases e:a=n
 ·subst e
  rw[cQ rfl];simp
 ·rw[cy e]
  have:¬n=a:=λq=>e q.symm;simp[this]
open Classical in
theorem Pm.gotten {n:Nd}{b:Th}{y A:dr Addr}{cap c D:bw}(h:Pm T HM FM GM m B tg s p w)(hn:eB n)(oX:s.gv n= ot y (p.gl n).length cap)
  (g:Ext (λq=>q=GM\/(bk y (p.gl n).length cap).ownBlock=oa q) w W')(oR:bW eB gI (ot ob 0 0) W' GM c (um s.gv n (ot A ((p.gl n).length+1) D)))
  (N:W'.ownsRow B 213 5 (ot A ((p.gl n).length+1) D) ((p.gl n).length+1) ((p.gl n).flatMap AY++AY b))
  (R:∀q,(bk A ((p.gl n).length+1) D).ownBlock=oa q->(bk y (p.gl n).length cap).ownBlock=oa q\/w.heap.size<=q):
  aQ Z0 T HM FM GM m B tg {p with GL:=p.GL++[(n,b)]} w W':=by
 have K:∀q,(bk y (p.gl n).length cap).ownBlock=oa q->tg q= .gl n:=λq hq=>by
  obtain⟨a,c,e,_,ht⟩:=h.gs n hn;rw[oX] at ht;exact ht q hq
 obtain⟨d,oS⟩:=zE (bk A ((p.gl n).length+1) D);rw[oS] at oR N R;have o:∀k,tg k≠ .no->(λk=>if d.ownBlock=oa k then PT.gl n else tg k) k=tg k:=λk f=>by
  show(if d.ownBlock=oa k then PT.gl n else tg k)=tg k
  by_cases e:d.ownBlock=oa k
  ·rw[cQ e]
   rcases R k e with q|q
   ·exact(K k q).symm
   ·have:=(h.lo k f).2
    omega
  ·rw[cy e]
 have u:∀{k:bw}{t:PT},tg k=t->t≠ .mg->t≠ .gl n->¬(k=GM\/(bk y (p.gl n).length cap).ownBlock=oa k):=λh1 Y q2 e=>by
  rcases e with e|e
  ·exact Y (by rw[<-h1,e,h.t4])
  ·exact q2 (by rw[<-h1];exact K _ e)
 have hB:=h.base;refine⟨λk=>if d.ownBlock=oa k then .gl n else tg k,{s with gv:=um s.gv n d},⟨g.heap h.row (u h.t1 (by simp) (by simp)),h.hm.imp λ_ q=>q.ext g (u h.t2 (by simp) (by simp)),h.fm.imp λ_ q=>q.ext g (u h.t3 (by simp) (by simp)),⟨c,oR⟩,
  af h.srow g (λj G=>u (h.t5 j G) (by simp) (by simp)),af h.trow g (λj G=>u (h.t6 j G) (by simp) (by simp)),λv J=>((h.hs v J).ext g (λk e q=>u q (by simp) (by simp) e)).tag o,
  λv J=>((h.fs v J).ext g (λk e q=>u q (by simp) (by simp) e)).tag (by simp) o,λv J=> ?_,
  (o T (by rw[h.t1];simp)).trans h.t1,(o HM (by rw[h.t2];simp)).trans h.t2,(o FM (by rw[h.t3];simp)).trans h.t3,(o GM (by rw[h.t4];simp)).trans h.t4,
  λk f=>(o k (by rw[h.t5 k f];simp)).trans (h.t5 k f),λk f=>(o k (by rw[h.t6 k f];simp)).trans (h.t6 k f),λk f=> ?_,h.lS,h.lH,h.lT⟩,
  g.mono (λk e=> ?_),λk f=> ?_,o⟩
 ·rw[Ag]
  show nX W' B (λk=>if d.ownBlock=oa k then PT.gl n else tg k) 213 5 (um s.gv n d v) _ _ (.gl v)
  by_cases e:v=n
  ·subst e
   rw[cQ rfl,fG,dk,jz,cm,eE];exact⟨A,D,oS.symm,N,λj G=>cQ G⟩
  ·rw[cy e,iY e]
   exact((h.gs v J).ext g (λk Y q=>u q (by simp) (by simpa using e) Y)).tag (by simp) o
 ·by_cases e:d.ownBlock=oa k
  ·exact N.lt k e
  ·have oT:tg k≠ .no:=λq=>f (by show(if d.ownBlock=oa k then PT.gl n else tg k)=_;rw[cy e];exact q)
   exact⟨(h.lo k oT).1,cg (h.lo k oT).2 g.size⟩
 ·rcases e with e|e
  ·rw[e,h.t4];simp[Z0]
  ·rw[K k e];simp[Z0]
 ·by_cases e:d.ownBlock=oa k
  ·rcases R k e with q|q
   ·exact .inl (by rw[K k q];simp)
   ·exact .inr q
  ·exact .inl λq=>f (by show(if d.ownBlock=oa k then PT.gl n else tg k)=_;rw[cy e];exact q)
end
end
section
variable {P:gA}{ops:cC fY}{Q:Exit->Act->World->Prop}{md:ey}{S:World->Prop}
def fH (P:gA)(md:ey)(ops:cC fY)(Q:Exit->Act->World->Prop)(S:World->Prop):bw->cC iv->Act->World->Prop
 |0,listed,a,w=>cG md ops listed=[]/\Q .normal a w
 |fuel+1,listed,a,w=>
  (cG md ops listed=[]->Q .normal a w)/\
  ∀i∈cG md ops listed,wpOp P ops Q i (λb w'=>S w'/\fH P md ops Q S fuel (listed.setIfInBounds i oc) b w') a w
theorem nZ:∀(fuel:bw)(listed:cC iv)(a:Act)(w:World),fH P md ops Q S fuel listed a w->wpAny P md ops Q fuel listed a w
 |0,_,_,_,h=>h
 |fuel+1,_,_,_,h=>⟨h.1,λi b=>wpOp_mono (λd w' f=>nZ fuel _ d w' f.2) (h.2 i b)⟩
theorem kC {i:bw}{f:fY}{v:bo}(K:ops[i]?=oa f)(N:∀(j:bw)(o:fY) u b,ops[j]?=oa o->o.op≠ .select u b)
  (hQ:∀c a w,Q (.panic c) (a.put f.dst v) w->Q (.panic c) a w):
  ∀(fuel:bw)(listed:cC iv)(a:Act)(w:World),
   (∀j g,ops[j]?=oa g->j≠i->listed.getD j oc=od->(∀e∈g.after,dq md e=oc->e.on≠i)->f.apart ops g=oc)->
   i∈cG md ops listed->listed[i]?=oa od->YieldsIf P ops S f v a->S w->
   fH P md ops Q S fuel (listed.setIfInBounds i oc) (a.put f.dst v) w->fH P md ops Q S (fuel+1) listed a w:=by
 intro fuel
 induction fuel with
 |zero=>
  intro listed a w _ q _ D y H;refine⟨λh=>(by rw[h] at q;cases q),λj A=> ?_⟩
  by_cases d:j=i
  ·subst d;exact D.wpOp K y ⟨y,H⟩
  ·have:=i9 A d
   rw[H.1] at this;cases this
 |succ fuel ih=>
  intro listed a w R q Y D y H;refine⟨λh=>(by rw[h] at q;cases q),λj A=> ?_⟩
  by_cases d:j=i
  ·subst d;exact D.wpOp K y ⟨y,H⟩
  ·have h1:=H.2 j (i9 A d)
   obtain⟨oR,g,G,pf⟩:=mem_ready.1 A;have oX:∀e∈g.after,dq md e=oc->e.on≠i:=λe he hb oY=>eT Y G he hb oY A;have h2:=wpOp_putIf G (R j g G d oR oX) (λu b=>N i f u b K) (λu b=>N j g u b G) hQ D h1;have pb:∀k ok,ops[k]?=oa ok->k≠i->(listed.setIfInBounds j oc).getD k oc=od->
     (∀e∈ok.after,dq md e=oc->e.on≠i)->f.apart ops ok=oc:=λk ok hk pc oS pd=>by
    refine R k ok hk pc ?_ pd
    by_cases oT:j=k
    ·subst oT;exact oR
    ·rw[getD_set_ne oc oT] at oS;exact oS
   refine wpOp_mono (λa' w' J=>⟨J.2.1,ih (listed.setIfInBounds j oc) a' w' pb (i9 q (Ne.symm d)) (by rw[fy d];exact Y) J.1 J.2.1 ?_⟩) h2;rw[kq _ _ d];exact J.2.2
theorem yT {C:World->Prop}(i:bw){b:fY}{v:bo}{fuel:bw}{listed:cC iv}{a:Act}{w:World}(d:ops[i]?=oa b)
  (hC:∀w,S w->C w)
  (h:fH P md ops Q S fuel (listed.setIfInBounds i oc) (a.put b.dst v) w)
  (g:∀w,C w->(execOp a.eval b).run P w= .ok (.value v) w:=by intro w f;go_simp;try rfl)
  (f:cU b (gh ops a.tmps)=oc:=by rfl)
  (j:el ops=oc:=by kernel_rfl)(hf:gE md ops listed i=oc:=by kernel_rfl)(o:(cG md ops listed).contains i=oc:=by kernel_rfl)(q:listed[i]?=oa od:=by kernel_rfl)
  (u:∀c a w,Q (.panic c) (a.put b.dst v) w->Q (.panic c) a w:=by exact λ_ _ _ h=>h)(y:S w:=by assumption):fH P md ops Q S (fuel+1) listed a w:=
 kC d (gn j) u fuel listed a w (ij d hf) (by simpa using o) q (.inl ⟨f,λw h=>g w (hC w h)⟩) y h
theorem yL (i:bw){b:fY}{fuel:bw}{listed:cC iv}{a:Act}{w:World}(q:ops[i]?=oa b)(g:eJ){x:Operand}(o:Addr){f:cC bo}{d:TypeDesc}
  (v:∀w,S w->∀j u,f.toList[j]?=oa u->w.cell? (o.add j)=oa u)(y:P.underlying g=oa d)
  (h:fH P md ops Q S fuel (listed.setIfInBounds i oc) (a.put b.dst (oA f)) w)
  (A:b.op= .load g x:=by rfl)(D:a.eval x= ox (oa o):=by rfl)
  (G:(match d with| .struct _| .array _ _=>oc|_=>od)=oc:=by rfl)(J:(P.info? g).map (·.size)=oa f.size:=by kernel_rfl)
  (K:cU b (gh ops a.tmps)=oc:=by rfl)
  (N:el ops=oc:=by kernel_rfl)(hf:gE md ops listed i=oc:=by kernel_rfl)(R:(cG md ops listed).contains i=oc:=by kernel_rfl)(Y:listed[i]?=oa od:=by kernel_rfl)
  (hQ:∀c a w,Q (.panic c) (a.put b.dst (oA f)) w->Q (.panic c) a w:=by exact λ_ _ _ h=>h)(hS:S w:=by assumption):fH P md ops Q S (fuel+1) listed a w:=
 kC q (gn N) hQ fuel listed a w (ij q hf) (by simpa using R) Y (ll K g x A o D f d v y G J) hS h
theorem yO (i:bw){o:fY}{fuel:bw}{listed:cC iv}{a:Act}{w:World}(g:ops[i]?=oa o)
  (h:∀b:Act->World->Prop,(∀a w,S w->fH P md ops Q S fuel (listed.setIfInBounds i oc) a w->b a w)->ia P o a w b Q)
  (q:cU o (gh ops a.tmps)=oc:=by rfl)(d:cG md ops listed=[i]:=by kernel_rfl):
  fH P md ops Q S (fuel+1) listed a w:=by
 refine⟨λh0=>(by rw[d] at h0;cases h0),λj f=> ?_⟩;rw[d] at f;obtain rfl:=co.1 f;exact wpOp_step g (λb u=>by rw[cQ q];exact h b (λa w v y=>u a w ⟨v,y⟩))
theorem gp {id:bw}{a:Act}{w:World}(S:World->Prop)(b:P.follows .mixedOrders=oc)
  (h:fH P .any ops Q S ops.size (ip ops.size od) a w.drew):(nt id ops oc).wp P Q a w:=
 wp_region_any b (nZ _ _ _ _ h)
end
section
open Go.RowKit Go.Maps
theorem og (w:World):(zeroValue 216).run ac w= .ok (ot ob 0 0) w:=by kernel_rfl
theorem oh {S d:bh ct}(f:d.Nodup)(g:∀x∈d,x∈S)(h:∀z∈S,0<=z/\z<=900000):d.length<=1000000:=by
 have:=eY d ((ka 900001).map Int.ofNat) f λx j=>by
  obtain⟨a,b⟩:=h x (g x j);exact eh.2 ⟨x.toNat,m6.2 (by omega),by simp;omega⟩
 rw[dd,i8] at this;omega
theorem kZ (w:World)(D:bw)(v:bo)(S:bh ct)(d:w.heap[D]?=oa (oB #[v] 162 (0,0)))(f:xJ w v S)(h:∀z∈S,0<=z/\z<=900000):
  et ac 122 #[.func (.func 163) #[] #[ox (oa ⟨D,0,ob⟩)]] w (zb (Ad S) w):=
 rX w func163 (by rfl) rfl (vT w D v S d f) (an _ _) (λk g=>by
  rcases g with e|e
  ·rw[e];exact aa d
  ·rcases f with⟨q,_⟩|⟨b,n,q,j⟩
   ·rw[q] at e;cases e
   ·rw[q] at e
    simp only[Value.map.injEq,fa] at e;rw[<-e];exact j.lt) (λxs a=>oh a.1 a.2 h) (λxs a=>oh a.1 (λx o=>(a.2 x).1 o) h)
theorem ut (n:Nd):∀(l:bh bw)(s:PS),(s.addL n l).H.length<=s.H.length+l.length/\(s.addL n l).td.length<=s.td.length+l.length
 |[],s=>⟨bl _,bl _⟩
 |x::l,s=>by
  have ih:=ut n l (s.add n x);have a:(s.add n x).H.length<=s.H.length+1/\(s.add n x).td.length<=s.td.length+1:=by
   unfold PS.add
   split
   ·exact⟨fX _,fX _⟩
   ·simp
  have e:s.addL n (x::l)=(s.add n x).addL n l:=rfl;rw[e,du];omega
theorem xN (n:Nd)(s:PS){l:bh bw}{j x:bw}(h:l[j]?=oa x):s.addL n (l.take (j+1))=(s.addL n (l.take j)).add n x:=by
 unfold PS.addL;rw[kp,h,Option.toList_some,List.foldl_append];rfl
theorem kY.setV {tg:bw->PT}{w:World}{H:bh (Nd×bw)}{v:bo}{n:Nd}(h:kY w tg H v n)(f:∀n x,(n,x)∈H->x<=900000):∃S,xJ w v S/\(∀z:ct,z∈S↔∃x:bw,z=(x:ct)/\(n,x)∈H)/\(∀z∈S,0<=z/\z<=900000)/\∃r,v= .map r:=by
 rcases h with⟨a,g⟩|⟨b,c,S,a,g,q,j,u⟩
 ·exact⟨[],.inl ⟨a,rfl⟩,λz=>⟨λd=>by simp at d,λ⟨x,_,f⟩=>gC f (g x)⟩,λz d=>by simp at d,_,a⟩
 ·exact⟨S,.inr ⟨b,c,a,g⟩,j,λz d=>by
   obtain⟨x,e,o⟩:=(j z).1 d;have:=f n x o;omega,_,a⟩
section
variable {T HM FM GM:bw}{m:Mo}{B:bw}{tg tg1:bw->PT}{s s1:rY}{p p1 p':PS}{w w1 w':World}
theorem Pm.lookF (h:Pm T HM FM GM m B tg s p w){n:Nd}(a:eB n):(ew 144 (.map (oa FM)) (gI n) od).run ac w= .ok (s.fv n) w:=by
 obtain⟨c,q⟩:=h.fm;exact q.look iD underlying144 (og w) a
theorem cZ (w:World)(h:Pm T HM FM GM m B tg s p w){n1 n2 n3 m1 m2 m3:ct}(R:eB (n1,n2,n3))(hm:eB (m1,m2,m3))(qs:∀n x,(n,x)∈p.H->x<=900000)(lF:p.FL.length+1<=400000000)(lH:p.H.length+1000000<=400000000)(lT:p.td.length+1000000<=400000000):
  et ac 119 #[ox (oa ⟨T,0,ob⟩),oA #[Z U n1,Z U n2,Z U n3],oA #[Z U m1,Z U m2,Z U m3]] w λe w'=>e= oE (.tuple #[])/\∃p',yX (n1,n2,n3) (m1,m2,m3) p p'/\aQ ZF T HM FM GM m B tg p' w w':=by
 obtain⟨D,hD⟩:=zE w.heap.size;obtain⟨W1,pl⟩:=zE ((w.alloc (oB #[Z U n1,Z U n2,Z U n3] 164)).alloc (oB #[Z U m1,Z U m2,Z U m3] 164));have sL:=BG pl;have sR:=uG pl hD;have sT:=wy pl hD;have qt:bj w.heap.size w W1.drew:=sL.drew;have Y:=h.grow qt;have qu:W1.drew.heap[D]?=oa (oB #[Z U n1,Z U n2,Z U n3] 164 (0,0)):=sR;have qv:W1.drew.heap[D+1]?=oa (oB #[Z U m1,Z U m2,Z U m3] 164 (0,0)):=sT;obtain⟨S1,pm⟩:=zE ((λw'=>w'=W1.drew):World->Prop);have wi:S1 W1.drew:=by rw[<-pm]
 have oR:=Y.lookF R;unfold gI at oR;obtain⟨N,cap,qS,oT,pd⟩:=Y.fs _ R;rw[qS] at oR oT pd;have At:(p.fl (n1,n2,n3)).length<=400000000:=by
  unfold PS.fl;rw[dd];exact cv (gR _ _) (by omega)
 have pf:cr (∀W,S1 W->W.cell? ⟨T,4,ob⟩=oa (.map (oa FM))/\T<W.heap.size/\(ew 144 (.map (oa FM)) (oA #[Z U n1,Z U n2,Z U n3]) od).run ac W= .ok (ot N (p.fl (n1,n2,n3)).length cap) W):=λW d=>by
  rw[<-pm] at d;subst d;exact⟨(rowAt Y.row 4 rfl).1,aa Y.row,oR⟩
 have sX:cr (∀W,S1 W->∀j u,(#[Z U n1,Z U n2,Z U n3]:cC bo).toList[j]?=oa u->W.cell? ((⟨D,0,ob⟩:Addr).add j)=oa u):=λW d=>by
  rw[<-pm] at d;subst d;exact aG qu
 have sY:cr (∀W,S1 W->∀j u,(#[Z U m1,Z U m2,Z U m3]:cC bo).toList[j]?=oa u->W.cell? ((⟨D+1,0,ob⟩:Addr).add j)=oa u):=λW d=>by
  rw[<-pm] at d;subst d;exact aG qv
 have ta:=zH (jI W1.drew cap N (p.fl (n1,n2,n3)) m1 m2 m3 (by omega) oT);have oX:cr (D=w.heap.size):=hD.symm;have H:=zH h;have H1:=zH Y;have qT:=zH qu;have ra:=zH qv;have rb:=zH qt;have tc:=zH pl;have rc:=zH qS;clear h sL sR sT qt Y qu qv pm oR pl hD qS oT pd;go_enter func119,ntmps119
 go_upto_region 1 with(fail)
 (try rw[oX.symm.out]);(try rw[<-oX.out]);rw[tc.out];refine ai 7 S1 (by kernel_rfl) ?_;refine zT 0 rfl pf.out ?_;(try go_simp);refine zT 1 rfl pf.out ?_;(try go_simp);refine zT 2 rfl pf.out ?_;(try go_simp);refine zT 3 rfl pf.out ?_;(try go_simp);refine zL 4 rfl 164 ⟨D,0,ob⟩ sX.out cq ?_;(try go_simp);refine zT 5 rfl pf.out ?_;(try go_simp);refine zL 6 rfl 164 ⟨D+1,0,ob⟩ sY.out cq ?_;(try go_simp);refine zK rfl λK' f=> ?_;go_simp;go_at_call 153;refine ta.out.mono ?_;rintro e o ⟨rfl,pH⟩;refine f _ _ ?_;clear f;refine⟨by kernel_rfl, ?_⟩;obtain⟨Ax,wj⟩:=zE o;have re:bj w.heap.size w o:=rb.out.trans (pH.mono rb.out.size);have h2:=H.out.grow re;have te:=(pH.block D (aa qT.out)).trans qT.out;have pn:=(pH.block (D+1) (aa ra.out)).trans ra.out;have po:=zH re;have H2:=zH h2;have rh:=zH te;have pL:=zH pn;clear wj pH re h2 te pn pf sX sY ta wi H1 qT ra rb tc
 by_cases ph:((m1,m2,m3):Nd)∈p.fl (n1,n2,n3)
 ·rw[kh ph]
  have wk:cr ((((n1,n2,n3):Nd),((m1,m2,m3):Nd))∈p.FL):=nN.1 ph;clear ph;go_wp2;(try simp only[cD,Exit.then]);refine cP (de rfl _ _ _) rfl ?_;exact⟨rfl,p,.inl ⟨wk.out,rfl⟩,H.out.same po.out⟩
 ·rw[er ph]
  have wl:cr ((((n1,n2,n3):Nd),((m1,m2,m3):Nd))∉p.FL):=λq=>ph (nN.2 q);clear ph
  go_upto_region 2 with(fail)
  obtain⟨i0,tf,th,ti,tj⟩:=iu vW;obtain⟨pN,pP⟩:=zE (wT m HM FM GM s p.St.length p.td.length);have rj:o.heap[T]?=oa (oB pN 148 (0,0)):=by rw[<-pP];exact H2.out.row
  have tl:pN[4]?=oa (.map (oa FM)):=by rw[<-pP];rfl
  obtain⟨S2,pp⟩:=zE ((λw'=>w'.heap[T]?=oa (oB pN 148 (0,0))/\w'.heap[D]?=oa (oB #[Z U n1,Z U n2,Z U n3] 164 (0,0))/\w'.heap[D+1]?=oa (oB #[Z U m1,Z U m2,Z U m3] 164 (0,0))):World->Prop);have pw:cr (∀W,W.heap[T]?=oa (oB pN 148 (0,0))->W.heap[D]?=oa (oB #[Z U n1,Z U n2,Z U n3] 164 (0,0))->W.heap[D+1]?=oa (oB #[Z U m1,Z U m2,Z U m3] 164 (0,0))->S2 W):=λW a b c=>by rw[<-pp];exact⟨a,b,c⟩
  have oY:cr (∀w,S2 w->w.cell? ⟨T,4,ob⟩=oa (.map (oa FM))/\T<w.heap.size):=λw hw=>by rw[<-pp] at hw;exact⟨(rowAt hw.1 4 tl).1,aa hw.1⟩
  have tm:cr (∀W,S2 W->∀j u,(#[Z U n1,Z U n2,Z U n3]:cC bo).toList[j]?=oa u->W.cell? ((⟨D,0,ob⟩:Addr).add j)=oa u):=λW d=>by
   rw[<-pp] at d;exact aG d.2.1
  have tn:cr (∀W,S2 W->∀j u,(#[Z U m1,Z U m2,Z U m3]:cC bo).toList[j]?=oa u->W.cell? ((⟨D+1,0,ob⟩:Addr).add j)=oa u):=λW d=>by
   rw[<-pp] at d;exact aG d.2.2
  have wn:S2 o.drew:=pw.out _ rj rh.out pL.out;have rk:=zH rj;have ws:=zH pP;clear pp rj tl pP;refine ai 11 S2 (by kernel_rfl) ?_;refine zT 0 rfl oY.out ?_;(try go_simp);refine zT 1 rfl oY.out ?_;(try go_simp);refine zT 2 rfl oY.out ?_;(try go_simp);refine zT 3 rfl oY.out ?_;(try go_simp);refine zL 4 rfl 164 ⟨D,0,ob⟩ tm.out cq ?_;(try go_simp);refine zL 5 rfl 164 ⟨D+1,0,ob⟩ tn.out cq ?_;(try go_simp);refine zO 6 rfl λK' f=> ?_;go_simp;obtain⟨G,hG⟩:=zE o.heap.size;obtain⟨W8,pS⟩:=zE ((o.alloc (oB #[Z U m1,Z U m2,Z U m3] 164)).drew);(try rw[hG]);(try rw[pS]);have pi:bj o.heap.size o W8:=by rw[<-pS];exact((an _ _).alloc (bl _) _).drew
  have tp:W8.heap[G]?=oa (oB #[Z U m1,Z U m2,Z U m3] 164 (0,0)):=by rw[<-pS,<-hG];exact alloc_at _ _
  have rl:=(pi.block T (aa rk.out)).trans rk.out;have rm:=(pi.block D (aa rh.out)).trans rh.out;have rn:=(pi.block (D+1) (aa pL.out)).trans pL.out;have pT:bj w.heap.size w W8:=po.out.trans (pi.mono po.out.size);have h8:=H.out.grow pT;refine f _ _ (pw.out _ rl rm rn) ?_;clear f;(try go_simp);refine zO 7 rfl λK' f=> ?_;obtain⟨c0,q0⟩:=h8.fm;obtain⟨W9,st,pZ,K,ro,tr⟩:=q0.entry iD underlying144 (og W8) R;unfold gI at pZ;rw[rc.out] at pZ;go_simp;(try simp only[pZ]);(try go_simp);have wx:FM<D:=by have:=(H.out.lo FM (by rw[H.out.t3];simp)).2;rw[oX.out];exact this
  have tt:¬T=FM:=λe=>by have:=H.out.t1;rw[e,H.out.t3] at this;simp at this
  obtain⟨xa,xd,tv,oT,pd⟩:=H.out.fs _ R;rw[rc.out] at tv oT pd;clear tv xa xd;have pb:∀q,(bk N (p.fl (n1,n2,n3)).length cap).ownBlock=oa q->q≠T/\q≠FM/\q<D:=λq A=>by
   have a:=pd q A;refine⟨λe=> ?_,λe=> ?_, ?_⟩
   ·rw[e,H.out.t1] at a;simp at a
   ·rw[e,H.out.t3] at a;simp at a
   ·rw[oX.out];exact(H.out.lo q (by rw[a];simp)).2
  have rr:=K.heap rl tt;have rv:=K.heap rm (λe=>by omega);have rx:=K.heap rn (λe=>by omega);have tz:=af oT (Ext.of_below_size (M:=λ_=>fW) pT) (λ_ _ h=>h);have tA:=af tz K (λq A e=>(pb q A).2.1 e);have tB:=K.heap tp (λe=>by have:=po.out.size;have:=oX.out;omega);have tD:S2 W9:=pw.out _ rr rv rx;refine f _ _ tD ?_;clear f;(try go_simp);refine zT 8 rfl oY.out ?_;(try go_simp);refine zT 10 rfl oY.out ?_;(try go_simp);refine zO 9 rfl λK' f=> ?_;have tE:B<=W9.heap.size:=cv H.out.base (cv pT.size K.size);have tG:(p.fl (n1,n2,n3)).length+1<=cX:=by unfold cX;omega
  refine ay (.tmp 21) (.tmp 23) 216 rfl B 164 i0 _ 3 24 underlying216 tf th ti tj rfl (by decide) (ot N (p.fl (n1,n2,n3)).length cap) (p.fl (n1,n2,n3)).length ((p.fl (n1,n2,n3)).flatMap jK) rfl tA (oa ⟨G,0,ob⟩) 1 1 [Z U m1,Z U m2,Z U m3] rfl rfl (λh=>by cases h) (λad xf j u hu=>by
   obtain rfl:(⟨G,0,ob⟩:Addr)=ad:=by simpa using xf
   rw[cI,cJ,ci _ _ _ _ _ _ tB];simpa using hu) (by simp[bp]) tG (by omega) tE ?_
  intro AD tM rB tP rI;obtain⟨tR,c9,xj⟩:=au rB;subst xj;have pj:Ext (λq=>(bk N (p.fl (n1,n2,n3)).length cap).ownBlock=oa q) W9 tM:=Ext.of_grown tP (λq A=> .inl A);have tS:=pj.heap rr (λe=>(pb _ e).1 rfl);have rK:=pj.heap rv (λe=>Nat.lt_irrefl _ (pb _ e).2.2);have rL:=pj.heap rx (λe=>by have:=(pb _ e).2.2;omega);refine f _ _ (pw.out _ tS rK rL) ?_;clear f;(try go_simp);refine zK rfl λK' f=> ?_;obtain⟨J,tU,tW,px⟩:=tr tM (ot tR ((p.fl (n1,n2,n3)).length+1) c9) (pj.block FM ro.lt (λe=>(pb _ e).2.1 rfl));go_simp;(try simp only[tU]);(try go_simp);refine f _ _ ?_;clear f tU pZ tr;refine⟨by kernel_rfl, ?_⟩;have ua:=px.heap rK (λe=>by omega);have ub:=px.heap rL (λe=>by omega);have rN:Ext (λq=>q=FM\/(bk N (p.fl (n1,n2,n3)).length cap).ownBlock=oa q) o W9:=Ext.trans (Ext.of_below_size (M:=λq=>q=FM\/(bk N (p.fl (n1,n2,n3)).length cap).ownBlock=oa q) pi) (K.mono (λq e=> .inl e)) (λq e=> .inl e);have rS:Ext (λq=>q=FM\/(bk N (p.fl (n1,n2,n3)).length cap).ownBlock=oa q) o J:=(rN.trans (pj.mono (λq e=> .inr e)) (λq e=> .inl e)).trans (px.mono (λq e=> .inl e)) (λq e=> .inl e);have uc:∀q,(bk tR ((p.fl (n1,n2,n3)).length+1) c9).ownBlock=oa q->(bk N (p.fl (n1,n2,n3)).length cap).ownBlock=oa q\/o.heap.size<=q:=λq A=>by
   rcases rI q A with a|a
   ·exact .inl a
   ·exact .inr (cv rN.size a)
  have ud:=af rB px (λq A e=>by
   rcases rI q A with a|a
   ·exact(pb q a).2.1 e
   ·have:=ro.lt
    omega)
  have ue:=zH (H2.out.flowed (b:=(m1,m2,m3)) R rc.out rS tW ud uc);have ur:=zH ua;have us:=zH ub;have xl:=zH rS;clear tD ua ub rS rN uc ud rB px tW tS rK rL pj tP rI tG tE tB tA tz rr rv rx pb oT pd K ro q0 h8 pT rl rm rn tp pi pS hG wn tn tm oY pw rk ws i0 tf th ti tj;obtain⟨tg1,s1,py,uv,t12⟩:=ue.out;have se:D+1<o.heap.size:=aa pL.out;have sf:∀k,w.heap.size<=k->k<o.heap.size->tg1 k= .no:=λk AE AF=>ea λe=>by
   rcases t12.1 k e with q|q
   ·have:=(H.out.lo k q).2
    omega
   ·omega
  have xo:tg1 D= .no:=sf D (by rw[oX.out];exact bl _) (by omega);have ux:tg1 (D+1)= .no:=sf (D+1) (by have:=oX.out;omega) se;obtain⟨S,sg,va,vc,r0,sk⟩:=(py.hs _ R).setV qs;have oR:=py.look R;unfold gI at oR;obtain⟨v,hv⟩:=zE (s1.hv (n1,n2,n3));rw[hv] at oR sg sk;obtain⟨S3,qe⟩:=zE ((λw'=>bj J.heap.size J w'):World->Prop);have qk:cr (∀W,bj J.heap.size J W->S3 W):=λW h=>by rw[<-qe];exact h
  have xp:S3 J.drew:=qk.out _ (an _ _).drew;have oS:cr (∀W,S3 W->W.cell? ⟨T,3,ob⟩=oa (.map (oa HM))/\T<W.heap.size/\(ew 143 (.map (oa HM)) (oA #[Z U n1,Z U n2,Z U n3]) od).run ac W= .ok v W):=λW d=>by
   rw[<-qe] at d;have hg:=py.grow d;refine⟨(rowAt hg.row 3 rfl).1,aa hg.row, ?_⟩;have:=hg.look R;rw[hv] at this;exact this
  have vd:cr (∀W,S3 W->∀j u,(#[Z U n1,Z U n2,Z U n3]:cC bo).toList[j]?=oa u->W.cell? ((⟨D,0,ob⟩:Addr).add j)=oa u):=λW d=>by
   rw[<-qe] at d;exact aG ((d.block D (aa ur.out)).trans ur.out)
  have vf:=zH py;have xr:=zH uv;have xt:=zH t12;have xv:=zH sg;have xF:=zH va;have sn:=zH vc;have xT:=zH sk;have AG:=zH se;have ya:=zH ux;have vh:=hm;clear py uv t12 sg va vc sk se ux sf xo qe oR hv hm tt wx ue xl
  go_upto_region 3 with(fail)
  refine gp S3 (by kernel_rfl) ?_;refine yT 0 rfl oS.out ?_;(try go_simp);refine yT 1 rfl oS.out ?_;(try go_simp);refine yT 2 rfl oS.out ?_;(try go_simp);refine yT 3 rfl oS.out ?_;(try go_simp);refine yL 4 rfl 164 ⟨D,0,ob⟩ vd.out cq ?_;(try go_simp);refine yT 5 rfl oS.out ?_;(try go_simp);refine yT 9 rfl oS.out ?_;(try go_simp);refine yO 6 rfl λK' f=> ?_;go_simp;have vi:=zH (nR J.drew v ⟨r0,xT.out⟩);go_at_call 123;refine vi.out.mono ?_;rintro e qn ⟨rfl,so⟩;have pk:bj J.heap.size J qn:=by
   rw[<-so];exact(an _ _).drew.alloc (bl _) _
  have sq:qn.heap[J.drew.heap.size]?=oa (oB #[v] 162 (0,0)):=by rw[<-so];exact alloc_at _ _
  obtain⟨Q,hQ⟩:=zE J.drew.heap.size;rw[hQ] at sq⊢;have vj:=kZ qn Q v S sq (xv.out.below pk) sn.out;refine f _ _ (qk.out _ pk) ?_;clear f;(try go_simp);refine yO 7 rfl λK' f=> ?_;go_simp;go_at_call 122;refine vj.mono ?_;rintro e pc ⟨xs,ax,cx,vm,rfl,vn,vp⟩;have sr:bj J.heap.size J pc:=pk.trans (vp.mono pk.size);have vq:S3 pc:=qk.out _ sr;refine f _ _ vq ?_;clear f vj;(try go_simp);refine yT 8 rfl oS.out ?_;(try go_simp);refine⟨by kernel_rfl, ?_⟩;have pB:=zH vm;have pD:=zH vn;have sx:=zH sr;have yb:=pk.size;clear vm vn vp pk sq so sr vq vi oS vd qk xp hQ;have vr:(iZ xs).length=xs.length:=by unfold iZ;rw[lx]
  obtain⟨l,hl⟩:∃l:bh bw,iZ xs=l.map Int.ofNat:=⟨(iZ xs).map Int.toNat,by
   rw[List.map_map]
   conv=>lhs;rw[<-List.map_id (iZ xs)]
   refine List.map_congr_left λz hz=> ?_;have yd:z∈xs:=by unfold iZ at hz;exact List.mem_mergeSort.1 hz
   have:=sn.out z ((pB.out.2 z).1 yd);simp;omega⟩
  have sy:l.length=xs.length:=by rw[<-vr,hl,dd]
  have vt:∀x,x∈l↔(((n1,n2,n3):Nd),x)∈p.H:=λx=>by
   have Y:x∈l↔(x:ct)∈iZ xs:=by
    rw[hl,eh];exact⟨λh=>⟨x,h,rfl⟩,λ⟨y,hy,e⟩=>by rw[<-Int.ofNat_inj.1 e];exact hy⟩
   have h2:(x:ct)∈iZ xs↔(x:ct)∈xs:=by unfold iZ;exact List.mem_mergeSort
   rw[Y,h2,pB.out.2,xF.out];exact⟨λ⟨y,e,hy⟩=>by rw[Int.ofNat_inj.1 e];exact hy,λh=>⟨x,rfl,h⟩⟩
  have ye:xs.length<=1000000:=oh pB.out.1 (λx A=>(pB.out.2 x).1 A) sn.out;rw[hl] at pD;rw[<-sy] at ye⊢;have sB:Pm T HM FM GM m B tg1 s1 {p with FL:=p.FL++[((n1,n2,n3),(m1,m2,m3))]} pc:=vf.out.grow sx.out;rw[<-sy] at pD;have vu:=nY (show pc.ownsRow qn.heap.size 3 1 (ot ax l.length cx) l.length ((l.map Int.ofNat).map (dv .i64)) by
   have:=pD.out;unfold bq at this;rw[dd] at this;exact this)
  have sE:=pD.out;unfold bq at sE;have vx:∀q,(bk ax l.length cx).ownBlock=oa q->tg1 q= .no:=λq A=>ea λe=>by
   have a:=(sE.lt q A).1;have b:=(vf.out.lo q e).2;have c:=yb;omega
  obtain⟨P1,qq⟩:=zE ({p with FL:=p.FL++[((n1,n2,n3),(m1,m2,m3))]}:PS);have vy:cr (P1.H=p.H/\P1.td=p.td):=by rw[<-qq];exact⟨rfl,rfl⟩
  have yi:=zH qq;rw[qq] at sB;have yk:=zH sB;have yp:=zH vx;have yq:=zH vu;have wa:=zH vt;have yr:=zH qs;have yv:=zH vh;have wb:=(sx.out.block (D+1) (aa us.out)).trans us.out;have yy:=zH wb;have yW:xs.length=xs.length:=rfl;clear vu sE vx qq sB vt qs wb hl vr sy yW pD pB vh
  go_wp2_with fail
  go_loopw [36] (λc wr=>∃j:bw,j<=l.length/\c= Z U (j:ct)/\aQ ZF T HM FM GM m B tg1 (P1.addL (m1,m2,m3) (l.take j)) pc wr) (λc _=>l.length-(intOf c).toNat)
  case atStart=>exact⟨0,da _,rfl,yk.out.same (an _ _)⟩
  case round=>
   obtain⟨j,hj,rfl,qr⟩:=hrel
   by_cases zc:j<l.length
   ·have AH:(j:ct)<(l.length:ct):=by omega
    obtain⟨x,hx⟩:∃x,l[j]?=oa x:=⟨_,ce zc⟩
    obtain⟨AI,s2,hP,hE,hT⟩:=qr;obtain⟨g,rfl,hg,hc⟩:∃g,ax=oa ⟨g,0,ob⟩/\g<pc.heap.size/\∀j u,((l.map Int.ofNat).map (dv .i64))[j]?=oa u->pc.cell? ⟨g,j,ob⟩=oa u:=by
     rcases yq.out with⟨e,_⟩|q
     ·omega
     ·exact q
    have we:tg1 g= .no:=yp.out g rfl;have AK:wr.cell? ⟨g,j,ob⟩=oa (Z U (x:ct)):=by
     rw[hE.cell (a:=⟨g,j,ob⟩) hg (λe=>e.1 we)];exact hc j _ (by rw[kO,kO,hx];rfl)
    have AM:g<wr.heap.size:=cg hg hE.size;have pn:=hE.heap yy.out (λe=>e.1 ya.out);have K:x<=900000:=yr.out _ x ((wa.out x).1 (cA hx));obtain⟨a1,a2⟩:=ut (m1,m2,m3) (l.take j) P1;rw[vy.out.1] at a1;rw[vy.out.2] at a2;rw[lp,m4 hj] at a1 a2;have zd:=zH (ja wr hP yv.out (x:=x) (by omega) (by omega) (by omega));have zj:=zH pn;have HX:=zH hx;have zp:=zH hE;have zr:=zH hT;clear hP hE hT pn hx a1 a2 hc we hg K
    go_wp2_with (first
     |(refine cc rfl 164 _ rfl (D+1) rfl 164 #[Z U m1,Z U m2,Z U m3] (0,0) _ zj.out cq rfl (by kernel_rfl) ?_)
     |(go_at_call 120;refine zd.out.mono ?_;rintro e w2 ⟨rfl,wg⟩;have zv:=zH wg;clear wg))
    go_roundw
    case rel=>exact⟨j+1,by omega,by go_num,by
     rw[xN (m1,m2,m3) P1 HX.out];exact aQ.step zp.out zr.out (zv.out.weak λt h=> .inr h)⟩
    case measure=>simp[intOf];omega
   ·have An:j=l.length:=by omega
    subst An;rw[dl] at qr;have As:=zH qr;clear qr;go_wp2
    go_end0
    refine⟨rfl,P1.addL (m1,m2,m3) l,.inr ⟨wl.out,l,wa.out,by rw[<-yi.out]⟩, ?_⟩;exact aQ.below po.out (aQ.step xr.out xt.out (aQ.below sx.out As.out))
end
end
end Go.Proofs.YtjomgckjhcfbgaaGreat
