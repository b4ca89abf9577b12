/- Walks. -/
import Derived.Laws.IdiomCopy
import Derived.Sort.LoopGhostIn
import Derived.Sort.QuietIn
import Derived.Test.YtjomgckjhcfbgaaGreatV9
set_option maxRecDepth 100000
set_option maxHeartbeats 64000000
set_option linter.all false
namespace Go.Proofs.YtjomgckjhcfbgaaGreat
open Go.RowKit
open Go.Proofs.Tryz renaming prog→ac,underlying184→cj,underlying38→eW,underlying25→i5,underlying90→kB
open _root_.List renaming setIfInBounds_toArray→am,set_cons_zero→aE,set_cons_succ→bb,getElem?_eq_some_iff→ca,getElem?_eq_getElem→ce,mem_append→cw,mem_of_getElem?→cA,flatMap_cons→cY,take_length→dl,length_cons→du,append_assoc→ef,mem_map→eh,map_append→em,drop_eq_getElem_cons→ep,nil_append→ev,cons_append→fN,mem_flatMap→gw,length_nil→gO,all_eq_true→gS,any_eq_true→ie,any_eq_false→j9,append_nil→ki,map_cons→kj,append_toArray→mC
open Go.RowKit.Below renaming refl→an,mono→lr
open _root_ renaming ByteArray→ap,List→bh,Nat→bw,Int→ct,if_neg→cy,Array→cC,beq_eq_false_iff_ne→cL,if_pos→cQ,Option→dr,decide_eq_false→er,False→fW,absurd→gC,decide_eq_true→kh
open _root_.Array renaming getElem?_eq_some_iff→aw,all_toList→gi,replicate_succ→nb,replicate_zero→nd
open Go.RowKit renaming Below→bj,Hid→cr
open _root_.Nat renaming le_refl→bl,le_trans→cv,zero_le→da
open Go renaming Value→bo,wpList_load_row→cc,run_storeCells_new→cf,cell_of_row→ci,storeCells→cM,bodyPost_ret→cP,maxLen→cX,results_none→de,frozen_of_row→dt,Calls→et,TypeId→eJ,wpListIn_nil→fx,heap_setCell_same→fz,bodyPost_end→gb,wpIn_region_lit→iS,wpIn_wide→lB,results→mS
open Go.Value renaming oneCell'→bp,string→oe,slice→ot,pointer→ox,bool→oy,agg→oA,int→Z
open Go.Exit renaming inBlock→cD,noGoto_ret→eM
open Go.Act renaming put→cE
open Go.Addr renaming add_lit→cI
open _root_.Option.some renaming inj→cN
open Go.Fence renaming wide→eq
open _root_.Int renaming toNat_natCast→eN
open _root_.Option renaming some→oa,none→ob
open _root_.Bool renaming true→oc,false→od
open Go.Obj renaming cells→oB
open Go.Ending renaming returned→oE
open Go.IntKind renaming i64→U
open Tryz
theorem ko (s:St):(s.cells.all λx=>x.oneCell')=oc:=by
 rw[<-gi];simp[St.cells,Be.cells,bp]
theorem kr (s:Fd):(s.cells.all λx=>x.oneCell')=oc:=by
 rw[<-gi];simp[Fd.cells,bp]
theorem dX (f:Fn):(f.cells.all λx=>x.oneCell')=oc:=by
 rw[<-gi];simp[Fn.cells,ww.cells,bp]
theorem gF {α:Type}{l:bh α}{j:bw}{x:α}(f:α->ap)(h:l[j]?=oa x):(l.take (j+1)).map f=(l.take j).map f++[f x]:=by
 rw[dx h,em];rfl
theorem dG.grown {w w':World}{B base:bw}{v:bo}{xs:bh ap}(a:dG w base v xs)(b:w.grownBy w' v.ownBlock)(d:B<=base)(f:B<=w.heap.size):bj B w w':=
 (an B w).grown b f (λk g=>cv d (a.lt k g).1)
theorem ug (m:Mo)(w:World)(h:m.inn w)(hs:m.ss.length<=90000)(hf:m.fs.length<=90000)(pH:∀s∈m.ss,s.fs.length<=90000):
  zP 94 #[oA m.cells] w (oy (iR m)):=by
 have HM:=zH h;have sR:=zH pH;obtain⟨R,hR⟩:=zE (iR m);have HR:cr (R=((m.ss.any λs=>decide (¬(s.fs.map Fd.nm).Nodup))||decide (¬(m.ss.map λs=>s.s.nm).Nodup)||decide (¬(m.fs.map λf=>f.c.nm).Nodup))):=hR.symm;rw[hR];clear h pH hR;obtain⟨N,hN⟩:=zE w.heap.size;obtain⟨W1,pZ⟩:=zE (w.alloc (oB m.cells 25));have rI:=gq pZ hN;have rK:W1.heap.size=N+1:=by rw[<-pZ];simp[hN]
 have rL:W1.heap[N]?=oa (oB m.cells 25 (0,0)):=by rw[<-pZ,<-hN];exact alloc_at _ _
 have HK:cr (∀W,bj (N+1) W1 W->W.cell? ⟨N,0,ob⟩=oa (ot m.sA m.ss.length m.sC)/\W.cell? ⟨N,1,ob⟩=oa (ot m.fA m.fs.length m.fC)/\N<W.heap.size):=λW hW=>by
  have q:=(hW.block N (by omega)).trans rL;exact⟨by rw[ci _ _ _ _ _ _ q];rfl,by rw[ci _ _ _ _ _ _ q];rfl,(aw.1 q).1⟩
 have qe:=zH rI;have HN:=zH hN;obtain⟨k0,k1,tv⟩:=HK.out W1 (an _ _);clear rI rL;go_enter func94,ntmps94
 go_wp2_with fail
 go_loopw [3,15] (λv c wr=>∃(j:bw) (D:dr Addr) (cap:bw),j<=m.ss.length/\c= Z U (j:ct)/\v= ot D ((m.ss.take j).map λs=>s.s.nm).length cap/\dG wr (N+1) v ((m.ss.take j).map λs=>s.s.nm)/\(∀s∈m.ss.take j,(s.fs.map Fd.nm).Nodup)/\bj (N+1) W1 wr) (λ_ c _=>m.ss.length-(intOf c).toNat)
 case atStart=>exact⟨0,ob,0,da _,rfl,rfl,dG.nil _ _,by simp,an _ _⟩
 case round=>
  clear k0 k1;obtain⟨j,D,cap,hj,rfl,rfl,qk,qn,hb⟩:=hrel;have HB:=zH hb;have pj:=zH qk;have pL:=zH qn;obtain⟨k0,k1,tz⟩:=HK.out wr hb;have sT:N+1<=wr.heap.size:=by omega
  have qq:cr (bj N w wr):=qe.out.trans (hb.mono (by omega))
  by_cases qr:j<m.ss.length
  ·obtain⟨s,pN⟩:∃s,m.ss[j]?=oa s:=⟨_,ce qr⟩
   have pl:=cA pN;have pP:=HM.out.sin s pl;obtain⟨b0,rN,hA,sX,rS⟩:=HM.out.srow (by intro e;rw[e] at qr;simp at qr);have sY:b0<N:=by omega
   have ta:cr (∀k u,s.cells.toList[k]?=oa u->wr.cell? ((⟨b0,rN+j*4,ob⟩:Addr).add k)=oa u):=λk u hu=>by
    rw[cI,qq.out.cell (p:=⟨b0,_,ob⟩) sY];exact rS j s pN k u hu
   obtain⟨M,hM⟩:=zE wr.heap.size;obtain⟨G,pk⟩:=zE (wr.alloc (oB s.cells 90));have hst:∀(c:cC bo),c.size=4->(cM ⟨M,0,ob⟩ s.cells.toList 0).run ac (wr.alloc (oB c 90))= .ok () G:=λc hc=>by
    rw[<-pk,<-hM];exact cf (P:=ac) wr 90 c s.cells (by show _=oa 4;kernel_rfl) hc (ko s)
   have se:G.heap[M]?=oa (oB s.cells 90 (0,0)):=by rw[<-pk,<-hM];exact alloc_at _ _
   have tA:G.heap.size=M+1:=by rw[<-pk];simp[hM]
   have qs:cr (bj (N+1) W1 G):=by rw[<-pk];exact HB.out.alloc sT _
   have sf:cr (dG G (N+1) (ot D ((m.ss.take j).map λs=>s.s.nm).length cap) ((m.ss.take j).map λs=>s.s.nm)):=by rw[<-pk];exact pj.out.below ((an _ _).alloc (bl _) _)
   have qt:cr (∀W,bj (M+1) G W->W.cell? ⟨M,0,ob⟩=oa (oe s.s.nm)/\W.cell? ⟨M,1,ob⟩=oa (ot s.s.fA s.fs.length s.s.fC)/\M<W.heap.size):=λW hW=>by
    have q:=(hW.block M (by omega)).trans se;exact⟨by rw[ci _ _ _ _ _ _ q];rfl,by rw[ci _ _ _ _ _ _ q,<-pP.nf];rfl,(aw.1 q).1⟩
   obtain⟨m0,m1,tB⟩:=qt.out G (an _ _);have tc:cr (aC Fd.cells 5 w w.heap.size s.s.fA s.fs):=pP.row;have te:cr (∀f∈s.fs,f.nm.size<=cX):=pP.fnm;have pH:=sR.out s pl;have qu:=zH pN;have tD:(j:ct)<(m.ss.length:ct):=by omega
   obtain⟨a,Y⟩:=zE ((m.ss.take j).map λs=>s.s.nm);have qv:a.length<=90000:=by rw[<-Y];simp;omega
   rw[Y] at sf⊢;have tf:=zH Y;rw[hA] at k0⊢;clear hb qk qn pj pl pP sX rS pN se pk Y
   go_upto_region 7 with(refine az rfl 90 _ rfl ⟨b0,rN+j*4,ob⟩ rfl s.cells _ ta.out kB rfl (by kernel_rfl) ?_)
   go_loopw [7,22] (λv c wq=>∃(q:bw) (D:dr Addr) (cap:bw),q<=s.fs.length/\c= Z U (q:ct)/\v= ot D ((s.fs.take q).map Fd.nm).length cap/\dG wq (M+1) v ((s.fs.take q).map Fd.nm)/\bj (M+1) G wq) (λ_ c _=>s.fs.length-(intOf c).toNat)
   case atStart=>exact⟨0,ob,0,da _,rfl,rfl,dG.nil _ _,an _ _⟩
   case round=>
    obtain⟨q,oR,oS,hq,rfl,rfl,pb,g⟩:=hrel;have pc:=zH g;have o:=zH pb;have pm:M+1<=wr.heap.size:=by have:=g.size;omega
    clear m0 m1 k0 k1;obtain⟨m0,m1,_⟩:=qt.out _ g
    by_cases pd:q<s.fs.length
    ·obtain⟨f,pf⟩:∃f,s.fs[q]?=oa f:=⟨_,ce pd⟩
     obtain⟨fb,pn,qS,qT,po⟩:=tc.out (by intro e;rw[e] at pd;simp at pd);have ra:fb<N:=by omega
     have rb:cr (bj N w wr):=qe.out.trans ((qs.out.trans (g.mono (by omega))).mono (by omega));have rc:cr (∀k u,f.cells.toList[k]?=oa u->wr.cell? ((⟨fb,pn+q*5,ob⟩:Addr).add k)=oa u):=λk u hu=>by
      rw[cI,rb.out.cell (p:=⟨fb,_,ob⟩) ra];exact po q f pf k u hu
     obtain⟨P,hP⟩:=zE wr.heap.size;obtain⟨J,b⟩:=zE (wr.alloc (oB f.cells 92));have th:∀(c:cC bo),c.size=5->(cM ⟨P,0,ob⟩ f.cells.toList 0).run ac (wr.alloc (oB c 92))= .ok () J:=λc hc=>by
      rw[<-b,<-hP];exact cf (P:=ac) wr 92 c f.cells (by show _=oa 5;kernel_rfl) hc (kr f)
     have pp:J.heap[P]?=oa (oB f.cells 92 (0,0)):=by rw[<-b,<-hP];exact alloc_at _ _
     have re:J.heap.size=P+1:=by rw[<-b];simp[hP]
     have p0:=zR pp 0 (oe f.nm);have rh:cr (bj (M+1) G J):=by rw[<-b];exact pc.out.alloc pm _
     have ph:cr (dG J (M+1) (ot oR ((s.fs.take q).map Fd.nm).length oS) ((s.fs.take q).map Fd.nm)):=by rw[<-b];exact o.out.below ((an _ _).alloc (bl _) _)
     have rj:=zH pf;have ti:(q:ct)<(s.fs.length:ct):=by omega
     obtain⟨XQ,oT⟩:=zE ((s.fs.take q).map Fd.nm);have rk:XQ.length<=90000:=by rw[<-oT];simp;omega
     have rl:=zH oT;rw[qS];rw[oT] at ph⊢;clear g pb o pf qT po pp b oT
     go_wp2_with (first
      |(refine az rfl 92 _ rfl ⟨fb,pn+q*5,ob⟩ rfl f.cells _ rc.out underlying92 rfl (by kernel_rfl) ?_)
      |(at_builtin;refine dP rfl (.tmp 26) (.tmp 29) rfl (M+1) (ot oR XQ.length oS) XQ rfl (ph.out.below ((an _ _).alloc (bl _) _)) ⟨P+1,0,ob⟩ f.nm 1 rfl ?c0 rk ?c1 ?_))
     case c0=>rw[<-re,World.cell?_alloc_new];rfl
     case c1=>rw[World.size_alloc];omega
     intro v5 w5 oX pw;obtain⟨X5,pi⟩:=zE (XQ++[f.nm]);rw[pi] at oX;obtain⟨px,py,rfl⟩:=oX.isSlice;have pB:cr (X5=(s.fs.take (q+1)).map Fd.nm):=by unfold cr;rw[gF Fd.nm rj.out,rl.out,pi]
     have rm:cr (bj (M+1) G w5):=(rh.out.alloc (by omega) _).trans (dG.grown (ph.out.below ((an _ _).alloc (bl _) _)) pw (bl _) (by simp;omega));have rn:cr (dG w5 (M+1) (ot px X5.length py) X5):=oX;clear oX pw pi;go_wp2;go_roundw
     case rel=>exact⟨q+1,px,py,by omega,by go_num,by rw[<-pB.out],by rw[<-pB.out];exact rn.out,rm.out⟩
     case measure=>simp[intOf];omega
    ·have ro:q=s.fs.length:=by omega
     subst ro;rw[dl] at o⊢;obtain⟨XF,oY⟩:=zE (s.fs.map Fd.nm);have pS:cr (zP 133 #[ot oR XF.length oS] wr (oy (decide (¬XF.Nodup)))):=by
      rw[<-oY];exact gD wr oS oR (s.fs.map Fd.nm) (by simp;exact pH) (λx hx=>by
       obtain⟨f,rr,rfl⟩:=eh.1 hx;exact te.out f rr) o.out.at_
     rw[oY];have sg:=zH oY;clear oY o;obtain⟨d,hd⟩:=zE (decide (¬XF.Nodup));rw[hd] at pS;have HD:=zH hd;clear hd pb g;cases d with
     |true=>
      have tj:cr (R=oc):=by
       unfold cr;rw[HR.out,ie.2 ⟨s,cA qu.out,by rw[sg.out];exact HD.out⟩];rfl
      go_wp2_with (go_at_call 133;refine pS.out.mono ?_;rintro e w6 ⟨rfl,K⟩;have y:=zH K;clear K)
      go_ret;rw[tj.out]
      try rw[HN.out]
      exact⟨rfl,qe.out.trans ((qs.out.trans ((pc.out.trans (y.out.mono pm)).mono (by omega))).mono (by omega))⟩
     |false=>
      have tl:cr ((s.fs.map Fd.nm).Nodup):=by
       unfold cr;rw[sg.out];exact Decidable.of_not_not (of_decide_eq_false HD.out)
      go_upto_region 13 with(go_at_call 133;refine pS.out.mono ?_;rintro e w6 ⟨rfl,K⟩;have y:cr (bj (M+1) G w6):=pc.out.trans (K.mono pm);clear K)
      obtain⟨n0,_,_⟩:=qt.out w6 y.out;have tE:M+1<=w6.heap.size:=by have:=y.out.size;omega
      have sk:cr (dG w6 (N+1) (ot D a.length cap) a):=by
       refine sf.out.below (lr y.out ?_);omega
      clear m0 m1 pS
      go_wp2_with (at_builtin;refine dP rfl (.tmp 34) (.tmp 37) rfl (N+1) (ot D a.length cap) a rfl (sk.out.below ((an _ _).alloc (bl _) _)) ⟨w6.heap.size,0,ob⟩ s.s.nm 1 rfl ?c0 qv ?c1 ?_)
      case c0=>rw[World.cell?_alloc_new];rfl
      case c1=>rw[World.size_alloc];omega
      intro v7 w7 pT sn;obtain⟨X7,rv⟩:=zE (a++[s.s.nm]);rw[rv] at pT;obtain⟨so,sq,rfl⟩:=pT.isSlice;have sr:cr (X7=(m.ss.take (j+1)).map λs=>s.s.nm):=by unfold cr;rw[gF (λs:St=>s.s.nm) qu.out,tf.out,rv]
      have rx:cr (bj (N+1) W1 w7):=((qs.out.trans (y.out.mono (by omega))).alloc (by omega) _).trans (dG.grown (sk.out.below ((an _ _).alloc (bl _) _)) sn (bl _) (by simp;omega));have tm:cr (dG w7 (N+1) (ot so X7.length sq) X7):=pT;clear pT sn rv;go_wp2;go_roundw
      case rel=>exact⟨j+1,so,sq,by omega,by go_num,by rw[<-sr.out],by rw[<-sr.out];exact tm.out,jM (p:=λs:St=>(s.fs.map Fd.nm).Nodup) pL.out qu.out tl.out,rx.out⟩
      case measure=>simp[intOf];omega
  ·have tn:j=m.ss.length:=by omega
   subst tn;rw[dl] at pj pL⊢;obtain⟨a,Y⟩:=zE (m.ss.map λs=>s.s.nm);have qv:a.length<=90000:=by rw[<-Y];simp;omega
   rw[Y] at pj⊢;have pD:cr (R=(decide (¬a.Nodup)||decide (¬(m.fs.map λf=>f.c.nm).Nodup))):=by
    unfold cr;rw[HR.out,Y];have e:(m.ss.any λs=>decide (¬(s.fs.map Fd.nm).Nodup))=od:=by
     rw[j9];intro s pl;have:=pL.out s pl;simpa using this
    rw[e,Bool.false_or]
   have tp:cr (∀x∈a,x.size<=cX):=λx hx=>by
    rw[<-Y] at hx;obtain⟨s,rK,rfl⟩:=eh.1 hx;exact(HM.out.sin s rK).nm
   clear hb qk qn pL HR Y
   go_upto_region 16 with(fail)
   obtain⟨A,tr⟩:∃A,A=wr:=⟨_,rfl⟩
   subst tr
   go_loopw [4,43] (λv c wq=>∃(q:bw) (D:dr Addr) (cap:bw),q<=m.fs.length/\c= Z U (q:ct)/\v= ot D ((m.fs.take q).map λf=>f.c.nm).length cap/\dG wq A.heap.size v ((m.fs.take q).map λf=>f.c.nm)/\bj A.heap.size A wq) (λ_ c _=>m.fs.length-(intOf c).toNat)
   case atStart=>exact⟨0,ob,0,da _,rfl,rfl,dG.nil _ _,an _ _⟩
   case round=>
    obtain⟨q,oR,oS,hq,rfl,rfl,pb,g⟩:=hrel;have pc:=zH g;have o:=zH pb;have pm:=g.size;clear k0 k1
    by_cases pd:q<m.fs.length
    ·obtain⟨f,pf⟩:∃f,m.fs[q]?=oa f:=⟨_,ce pd⟩
     obtain⟨fb,pn,qS,qT,po⟩:=HM.out.frow (by intro e;rw[e] at pd;simp at pd);have ra:fb<N:=by omega
     have rb:cr (bj N w wr):=qq.out.trans (g.mono (by omega));have rc:cr (∀k u,f.cells.toList[k]?=oa u->wr.cell? ((⟨fb,pn+q*8,ob⟩:Addr).add k)=oa u):=λk u hu=>by
      rw[cI,rb.out.cell (p:=⟨fb,_,ob⟩) ra];exact po q f pf k u hu
     obtain⟨P,hP⟩:=zE wr.heap.size;obtain⟨J,b⟩:=zE (wr.alloc (oB f.cells 38));have th:∀(c:cC bo),c.size=8->(cM ⟨P,0,ob⟩ f.cells.toList 0).run ac (wr.alloc (oB c 38))= .ok () J:=λc hc=>by
      rw[<-b,<-hP];exact cf (P:=ac) wr 38 c f.cells (by show _=oa 8;kernel_rfl) hc (dX f)
     have pp:J.heap[P]?=oa (oB f.cells 38 (0,0)):=by rw[<-b,<-hP];exact alloc_at _ _
     have re:J.heap.size=P+1:=by rw[<-b];simp[hP]
     have p0:=zR pp 0 (oe f.c.nm);have rh:cr (bj A.heap.size A J):=by rw[<-b];exact pc.out.alloc pm _
     have ph:cr (dG J A.heap.size (ot oR ((m.fs.take q).map λf=>f.c.nm).length oS) ((m.fs.take q).map λf=>f.c.nm)):=by rw[<-b];exact o.out.below ((an _ _).alloc (bl _) _)
     have rj:=zH pf;have ti:(q:ct)<(m.fs.length:ct):=by omega
     obtain⟨XQ,oT⟩:=zE ((m.fs.take q).map λf=>f.c.nm);have rk:XQ.length<=90000:=by rw[<-oT];simp;omega
     have rl:=zH oT;rw[qS];rw[oT] at ph⊢;clear g pb o pf qT po pp b oT
     go_wp2_with (first
      |(refine az rfl 38 _ rfl ⟨fb,pn+q*8,ob⟩ rfl f.cells _ rc.out eW rfl (by kernel_rfl) ?_)
      |(at_builtin;refine dP rfl (.tmp 47) (.tmp 50) rfl A.heap.size (ot oR XQ.length oS) XQ rfl (ph.out.below ((an _ _).alloc (bl _) _)) ⟨P+1,0,ob⟩ f.c.nm 1 rfl ?c0 rk ?c1 ?_))
     case c0=>rw[<-re,World.cell?_alloc_new];rfl
     case c1=>rw[World.size_alloc];omega
     intro v5 w5 oX pw;obtain⟨X5,pi⟩:=zE (XQ++[f.c.nm]);rw[pi] at oX;obtain⟨px,py,rfl⟩:=oX.isSlice;have pB:cr (X5=(m.fs.take (q+1)).map λf=>f.c.nm):=by unfold cr;rw[gF (λf:Fn=>f.c.nm) rj.out,rl.out,pi]
     have rm:cr (bj A.heap.size A w5):=(rh.out.alloc (by omega) _).trans (dG.grown (ph.out.below ((an _ _).alloc (bl _) _)) pw (bl _) (by simp;omega));have rn:cr (dG w5 A.heap.size (ot px X5.length py) X5):=oX;clear oX pw pi;go_wp2;go_roundw
     case rel=>exact⟨q+1,px,py,by omega,by go_num,by rw[<-pB.out],by rw[<-pB.out];exact rn.out,rm.out⟩
     case measure=>simp[intOf];omega
    ·have ro:q=m.fs.length:=by omega
     subst ro;rw[dl] at o⊢;obtain⟨XF,oY⟩:=zE (m.fs.map λf=>f.c.nm);rw[oY] at o pD⊢;have sx:∀x∈XF,x.size<=cX:=λx hx=>by
      rw[<-oY] at hx;obtain⟨f,rr,rfl⟩:=eh.1 hx;exact(HM.out.fin f rr).nm
     have tt:XF.length<=90000:=by rw[<-oY];simpa using hf
     have rB:cr (zP 133 #[ot D a.length cap] wr (oy (decide (¬a.Nodup)))):=
      gD wr cap D a qv tp.out ((pj.out.below pc.out).at_)
     have sy:cr (∀W,bj wr.heap.size wr W->zP 133 #[ot oR XF.length oS] W (oy (decide (¬XF.Nodup)))):=λW hW=>
      gD W oS oR XF tt sx ((o.out.below hW).at_)
     obtain⟨d,hd⟩:=zE (decide (¬a.Nodup));obtain⟨d2,sB⟩:=zE (decide (¬XF.Nodup));rw[hd] at rB pD;rw[sB] at sy pD;have sE:cr (bj N w wr):=qq.out.trans (pc.out.mono (by omega));clear pb g oY sx o pj hd sB;cases d with
     |true=>
      go_wp2_with (go_at_call 133;refine rB.out.mono ?_;rintro e w6 ⟨rfl,K⟩;have y:=zH K;clear K)
      go_ret;rw[pD.out]
      try rw[HN.out]
      exact⟨rfl,sE.out.trans (y.out.mono (by omega))⟩
     |false=>
      go_upto_region 20 with(fail)
      go_wp2_with (first
       |(go_at_call 133;refine(sy.out _ y.out).mono ?_;rintro e w7 ⟨rfl,sL⟩;have rx:=zH sL;clear sL)
       |(go_at_call 133;refine rB.out.mono ?_;rintro e w6 ⟨rfl,K⟩;have y:=zH K;clear K))
      go_ret;rw[pD.out]
      try rw[HN.out]
      exact⟨rfl,(sE.out.trans (y.out.mono (by omega))).trans (rx.out.mono (by have:=y.out.size;omega))⟩
def qm (t:Ty):cC bo:=#[oA #[oy t.1,oe t.2]]
def jH (N B:bw)(k:bw):Prop:=k<N\/k=B
def Br (f:Fn):bh Ty:=f.ret::f.vs.map Vr.ty
def Bt (s:St):bh Ty:=s.fs.map Fd.ty
def iF (m:Mo)(j:bw):bh Ty:=(m.fs.drop j).flatMap Br
def iV (m:Mo)(j:bw):bh Ty:=(m.ss.drop j).flatMap Bt++iF m 0
theorem uh (m:Mo):dO m=iV m 0:=rfl
theorem vJ {m:Mo}{j:bw}{s:St}(h:m.ss[j]?=oa s):iV m j=(s.fs.drop 0).map Fd.ty++iV m (j+1):=by
 obtain⟨a,e⟩:=ca.1 h;unfold iV;rw[ep a,e,cY,ef];rfl
theorem xD (m:Mo):iV m m.ss.length=iF m 0:=by
 unfold iV;simp
theorem vK {m:Mo}{j:bw}{f:Fn}(h:m.fs[j]?=oa f):iF m j=f.ret::((f.vs.drop 0).map Vr.ty++iF m (j+1)):=by
 obtain⟨a,e⟩:=ca.1 h;unfold iF;rw[ep a,e,cY];rfl
theorem xE (m:Mo):iF m m.fs.length=[]:=by
 unfold iF;simp
theorem jw {α:Type}{l:bh α}{q:bw}{x:α}(f:α->Ty)(h:l[q]?=oa x):(l.drop q).map f=f x::(l.drop (q+1)).map f:=by
 obtain⟨a,e⟩:=ca.1 h;rw[ep a,e,kj]
theorem ku {α:Type}(l:bh α)(f:α->Ty):(l.drop l.length).map f=[]:=by simp
theorem rR (f:Vr):(f.cells.all λx=>x.oneCell')=oc:=by
 rw[<-gi];simp[Vr.cells,bp]
theorem nG {a r:bh Ty}{x:Ty}{xs:bh Ty}(h:xs=a++x::r):(a++[x])<+:xs/\xs=(a++[x])++r:=by
 subst h;exact⟨⟨r,by simp⟩,by simp⟩
theorem ui (w0 w:World)(m:Mo)(B:bw)(h:m.inn w0)(hb:bj w0.heap.size w0 w)(hB:w.heap[B]?=oa (oB m.cells 25 (0,0)))(pL:∀s∈m.ss,s.fs.length<=90000)(pN:∀f∈m.fs,f.vs.length<=90000)(sX:m.ss.length<=90000)(sY:m.fs.length<=90000):
  Iter ac 134 #[ox (oa ⟨B,0,ob⟩)] qm (dO m) (jH w0.heap.size B) w:=by
 intro l J Jx C W pP hst ra hstx rb hJ;have pD:=zH hst;have pk:=zH ra;have HM:=zH rb;have HJ:=zH hJ;have rr:=zH pL;have rv:=zH pN;have rc:W.heap[B]?=oa (oB m.cells 25 (0,0)):=(pP.block B (aw.1 hB).1).trans hB;obtain⟨N,hN⟩:=zE w0.heap.size;rw[hN] at pk;have HR:cr (∀y,Ext (λk=>¬jH N B k) W y->y.cell? ⟨B,0,ob⟩=oa (ot m.sA m.ss.length m.sC)/\y.cell? ⟨B,1,ob⟩=oa (ot m.fA m.fs.length m.fC)/\m.inn y/\B<y.heap.size):=by
  intro y hx;have q:=hx.heap rc (λh=>h (.inr rfl));refine⟨by rw[ci _ _ _ _ _ _ q];rfl,by rw[ci _ _ _ _ _ _ q];rfl, ?_,(aw.1 q).1⟩;have b1:bj w0.heap.size w0 W:=hb.trans (pP.mono hb.size);have b2:bj N W y:=hx.below (by rw[<-hN];exact b1.size) (λk hk=>by
   by_cases e:k<N
   ·exact gC (.inl e) hk
   ·omega)
  exact h.below (b1.trans (by rw[hN];exact b2))
 obtain⟨o,pS⟩:=zE (dO m);rw[pS] at HM⊢;have rx:cr (o=iV m 0):=by rw[<-pS];exact uh m
 obtain⟨c0,c1,_,ta⟩:=HR.out W (Ext.refl _ _);clear hst ra hstx rb hJ h hb hB pP rc pS hN pL pN
 show et _ _ #[.func (.yield l) #[] #[],ox (oa ⟨B,0,ob⟩)] _ _
 go_enter func134,ntmps134
 go_wp2_with fail
 go_loopw [14] (λc wr=>∃(j:bw) (a:bh Ty) (C:bw->Prop),j<=m.ss.length/\c= Z U (j:ct)/\o=a++iV m j/\J a C wr/\Ext (λk=>¬jH N B k) W wr) (λc _=>m.ss.length-(intOf c).toNat)
 case atStart=>exact⟨0,[],C,da _,rfl,rx.out,HJ.out,Ext.refl _ _⟩
 case round=>
  clear c0 c1;obtain⟨j,a,C1,hj,rfl,A,pc,oR⟩:=hrel;have pl:=zH oR;have pd:=zH pc;have tc:=zH A;obtain⟨c0,c1,oS,te⟩:=HR.out wr oR
  by_cases pf:j<m.ss.length
  ·obtain⟨s,hs⟩:∃s,m.ss[j]?=oa s:=⟨_,ce pf⟩
   have pT:=cA hs;have re:=oS.sin s pT;obtain⟨b0,rh,hA,rB,rj⟩:=oS.srow (by intro e;rw[e] at pf;simp at pf);have rI:cr (∀k u,s.cells.toList[k]?=oa u->wr.cell? ((⟨b0,rh+j*4,ob⟩:Addr).add k)=oa u):=λk u hu=>by
    rw[cI];exact rj j s hs k u hu
   obtain⟨M,hM⟩:=zE wr.heap.size;obtain⟨W2,pm⟩:=zE (wr.alloc (oB s.cells 90));have hst:∀(c:cC bo),c.size=4->(cM ⟨M,0,ob⟩ s.cells.toList 0).run ac (wr.alloc (oB c 90))= .ok () W2:=λc hc=>by
    rw[<-pm,<-hM];exact cf (P:=ac) wr 90 c s.cells (by show _=oa 4;kernel_rfl) hc (ko s)
   have pZ:W2.heap[M]?=oa (oB s.cells 90 (0,0)):=by rw[<-pm,<-hM];exact alloc_at _ _
   have m1:W2.cell? ⟨M,1,ob⟩=oa (ot s.s.fA s.fs.length s.s.fC):=by rw[ci _ _ _ _ _ _ pZ,<-re.nf];rfl
   have tf:M<W2.heap.size:=(aw.1 pZ).1;have rK:cr (Ext (λk=>¬jH N B k) W W2):=by rw[<-pm];exact pl.out.alloc _
   have rL:cr (J a C1 W2):=by rw[<-pm];exact pD.out _ _ _ _ pd.out ((Ext.refl _ _).alloc _)
   have rk:o=a++((s.fs.drop 0).map Fd.ty++iV m (j+1)):=by rw[A,vJ hs]
   have rN:=zH rk;have HS:=zH hs;have pL:=rr.out s pT;have rS:(j:ct)<(m.ss.length:ct):=by omega
   rw[hA] at c0⊢;clear oR pc A re rB rj hs pZ pm rk oS
   go_upto_region 4 with(refine az rfl 90 _ rfl ⟨b0,rh+j*4,ob⟩ rfl s.cells _ rI.out kB rfl (by kernel_rfl) ?_)
   go_loopw [21] (λc wq=>∃(q:bw) (a:bh Ty) (C:bw->Prop),q<=s.fs.length/\c= Z U (q:ct)/\o=a++((s.fs.drop q).map Fd.ty++iV m (j+1))/\J a C wq/\Ext (λk=>¬jH N B k) W wq) (λc _=>s.fs.length-(intOf c).toNat)
   case atStart=>exact⟨0,a,C1,da _,rfl,rN.out,rL.out,rK.out⟩
   case round=>
    clear m1 c0 c1;obtain⟨q,G,C2,hq,rfl,K,ph,oT⟩:=hrel;have pn:=zH oT;have po:=zH ph;obtain⟨_,_,qe,_⟩:=HR.out wr oT
    by_cases pi:q<s.fs.length
    ·obtain⟨f,hf⟩:∃f,s.fs[q]?=oa f:=⟨_,ce pi⟩
     obtain⟨fb,pp,qk,qn,pw⟩:=(qe.sin s pT).row (by intro e;rw[e] at pi;simp at pi);have qq:cr (∀k u,f.cells.toList[k]?=oa u->wr.cell? ((⟨fb,pp+q*5,ob⟩:Addr).add k)=oa u):=λk u hu=>by
      rw[cI];exact pw q f hf k u hu
     obtain⟨P,hP⟩:=zE wr.heap.size;obtain⟨b,R⟩:=zE (wr.alloc (oB f.cells 92));have se:∀(c:cC bo),c.size=5->(cM ⟨P,0,ob⟩ f.cells.toList 0).run ac (wr.alloc (oB c 92))= .ok () b:=λc hc=>by
      rw[<-R,<-hP];exact cf (P:=ac) wr 92 c f.cells (by show _=oa 5;kernel_rfl) hc (kr f)
     have Y:b.heap[P]?=oa (oB f.cells 92 (0,0)):=by rw[<-R,<-hP];exact alloc_at _ _
     have p1:=zR Y 1 (oy f.ptr);have p2:=zR Y 2 (oe f.tgt);have sf:P<b.heap.size:=(aw.1 Y).1;have qr:cr (Ext (λk=>¬jH N B k) W b):=by rw[<-R];exact pn.out.alloc _
     have pj:J G C2 b:=by rw[<-R];exact pD.out _ _ _ _ po.out ((Ext.refl _ _).alloc _)
     have qs:=zH pj;have oY:o=G++f.ty::((s.fs.drop (q+1)).map Fd.ty++iV m (j+1)):=by rw[K,jw Fd.ty hf];rfl
     have HP:=zH (nG oY);have D:=zH (HM.out G f.ty C2 b pj HP.out.1);unfold qm at D;simp only[Fd.ty] at D;have sg:(q:ct)<(s.fs.length:ct):=by omega
     rw[qk];clear oT ph K hf qn pw Y R pj oY qe
     go_upto_region 6 with(refine az rfl 92 _ rfl ⟨fb,pp+q*5,ob⟩ rfl f.cells _ qq.out underlying92 rfl (by kernel_rfl) ?_)
     refine(lB (n:=0)).1 ?_;refine iS (aj rfl (by simp) (.func (.yield l) #[] #[]) (w':=b) (by simp[go_sem]) ?_);simp only[cE,am,aE,bb];refine aj rfl (by simp) (ox (oa ⟨P,1,ob⟩)) (w':=b) (by simp[go_sem]) ?_;simp only[cE,am,aE,bb];refine aj rfl (by simp) (oA #[oy f.ptr,oe f.tgt]) (w':=b) (by simp[go_sem,p1,p2]) ?_;simp only[cE,am,aE,bb];refine bX (fv:= .func (.yield l) #[] #[]) (args:=#[oA #[oy (f.ptr,f.tgt).1,oe (f.ptr,f.tgt).2]]) rfl (.tmp 25) #[.tmp 27] _ rfl rfl (by simp[Act.eval]) D.out ?_;intro v d hv;simp only[cE,am,aE,bb];rcases hv with⟨rfl,C',px,g,oX⟩|⟨rfl,g⟩
     ·refine aj rfl (by simp) (oy od) (w':=d) (by simp[go_sem]) ?_
      simp only[cE,am,aE,bb];refine fx ?_;have py:cr (J (G++[f.ty]) C' d/\Ext (λk=>¬jH N B k) W d):=⟨g,qr.out.trans oX (λk hk=> .inl ((pk.out _ _ _ qs.out k hk).2))⟩
      clear g oX px p1 p2;go_wp2;go_roundw
      case rel=>exact⟨q+1,_,C',by omega,by go_num,HP.out.2,py.out.1,py.out.2⟩
      case measure=>simp[intOf];omega
     ·refine aj rfl (by simp) (oy oc) (w':=d) (by simp[go_sem]) ?_
      simp only[cE,am,aE,bb];refine fx ?_;have HF:cr (∃a,a<+:o/\Jx a d):=⟨_,HP.out.1,g⟩
      clear g p1 p2;go_wp2
      ((try simp only[cD,Exit.then]);(try rw[eM]);(first|refine cP (de rfl _ _ _) rfl ?_|refine gb (de rfl _ _ _) rfl ?_));exact⟨_,rfl,.inr HF.out⟩
    ·have qt:q=s.fs.length:=by omega
     subst qt;rw[ku,ev] at K;have pb:=zH K;clear oT ph K qe;go_wp2;go_roundw
     case rel=>exact⟨j+1,G,C2,by omega,by go_num,pb.out,po.out,pn.out⟩
     case measure=>simp[intOf];omega
  ·have qu:j=m.ss.length:=by omega
   subst qu;rw[xD] at A;have pb:=zH A;obtain⟨wo,sk⟩:∃wo,wo=wr:=⟨_,rfl⟩
   subst sk;clear oR pc A oS
   go_upto_region 10 with(fail)
   go_loopw [35] (λc wr=>∃(j:bw) (a:bh Ty) (C:bw->Prop),j<=m.fs.length/\c= Z U (j:ct)/\o=a++iF m j/\J a C wr/\Ext (λk=>¬jH N B k) W wr) (λc _=>m.fs.length-(intOf c).toNat)
   case atStart=>exact⟨0,a,C1,da _,rfl,pb.out,pd.out,pl.out⟩
   case round=>
    clear c0 c1 pb pd pl;obtain⟨j,a,C1,hj,rfl,A,pc,oR⟩:=hrel;have pl:=zH oR;have pd:=zH pc;obtain⟨_,_,oS,_⟩:=HR.out wr oR
    by_cases pf:j<m.fs.length
    ·obtain⟨f,hf⟩:∃f,m.fs[j]?=oa f:=⟨_,ce pf⟩
     have qv:=cA hf;have sn:=(oS.fin f qv).nvars;obtain⟨fb,pp,qk,qn,pw⟩:=oS.frow (by intro e;rw[e] at pf;simp at pf);have qq:cr (∀k u,f.cells.toList[k]?=oa u->wr.cell? ((⟨fb,pp+j*8,ob⟩:Addr).add k)=oa u):=λk u hu=>by
      rw[cI];exact pw j f hf k u hu
     obtain⟨P,hP⟩:=zE wr.heap.size;obtain⟨b,R⟩:=zE (wr.alloc (oB f.cells 38));have se:∀(c:cC bo),c.size=8->(cM ⟨P,0,ob⟩ f.cells.toList 0).run ac (wr.alloc (oB c 38))= .ok () b:=λc hc=>by
      rw[<-R,<-hP];exact cf (P:=ac) wr 38 c f.cells (by show _=oa 8;kernel_rfl) hc (dX f)
     have Y:b.heap[P]?=oa (oB f.cells 38 (0,0)):=by rw[<-R,<-hP];exact alloc_at _ _
     have p3:=zR Y 3 (oy f.c.rp);have p4:=zR Y 4 (oe f.c.rto);have sf:P<b.heap.size:=(aw.1 Y).1;have qr:cr (Ext (λk=>¬jH N B k) W b):=by rw[<-R];exact pl.out.alloc _
     have pj:J a C1 b:=by rw[<-R];exact pD.out _ _ _ _ pd.out ((Ext.refl _ _).alloc _)
     have qs:=zH pj;have so:cr (¬C1 P):=λh=>by have:=(pk.out _ _ _ pd.out P h).1;omega
     have sq:=zH Y;have oY:o=a++f.ret::((f.vs.drop 0).map Vr.ty++iF m (j+1)):=by rw[A,vK hf]
     have HP:=zH (nG oY);have D:=zH (HM.out a f.ret C1 b pj HP.out.1);unfold qm at D;simp only[Fn.ret] at D;have rS:(j:ct)<(m.fs.length:ct):=by omega
     have pN:=rv.out f qv;have sr:cr (∀y,Ext (λk=>¬jH N B k) W y->aC Vr.cells 3 y y.heap.size f.c.varsA f.vs):=λy hx=>((HR.out y hx).2.2.1.fin f qv).vars;rw[qk];clear oR pc A hf qn pw Y R pj oY oS
     go_upto_region 12 with(refine az rfl 38 _ rfl ⟨fb,pp+j*8,ob⟩ rfl f.cells _ qq.out eW rfl (by kernel_rfl) ?_)
     refine(lB (n:=0)).1 ?_;refine iS (aj rfl (by simp) (.func (.yield l) #[] #[]) (w':=b) (by simp[go_sem]) ?_);simp only[cE,am,aE,bb];refine aj rfl (by simp) (ox (oa ⟨P,3,ob⟩)) (w':=b) (by simp[go_sem]) ?_;simp only[cE,am,aE,bb];refine aj rfl (by simp) (ox (oa ⟨P,3,ob⟩)) (w':=b) (by simp[go_sem]) ?_;simp only[cE,am,aE,bb];refine aj rfl (by simp) (oA #[oy f.c.rp,oe f.c.rto]) (w':=b) (by simp[go_sem,p3,p4]) ?_;simp only[cE,am,aE,bb];refine bX (fv:= .func (.yield l) #[] #[]) (args:=#[oA #[oy (f.c.rp,f.c.rto).1,oe (f.c.rp,f.c.rto).2]]) rfl (.tmp 39) #[.tmp 42] _ rfl rfl (by simp[Act.eval]) D.out ?_;intro v d hv;simp only[cE,am,aE,bb];rcases hv with⟨rfl,C',px,g,oX⟩|⟨rfl,g⟩
     ·refine aj rfl (by simp) (oy od) (w':=d) (by simp[go_sem]) ?_
      simp only[cE,am,aE,bb];refine fx ?_;have py:cr (J (a++[f.ret]) C' d/\Ext (λk=>¬jH N B k) W d):=⟨g,qr.out.trans oX (λk hk=> .inl ((pk.out _ _ _ qs.out k hk).2))⟩
      have q3:=oX.heap sq.out so.out;have p2:d.cell? ⟨P,2,ob⟩=oa (ot f.c.varsA f.vs.length f.c.varsC):=by rw[ci _ _ _ _ _ _ q3,<-sn];rfl
      have th:P<d.heap.size:=(aw.1 q3).1;have sx:cr (o=(a++[f.ret])++((f.vs.drop 0).map Vr.ty++iF m (j+1))):=HP.out.2;clear g oX px p3 p4 q3 D;obtain⟨ti,sy⟩:∃wo,wo=wr:=⟨_,rfl⟩
      subst sy
      go_upto_region 14 with(fail)
      go_loopw [48] (λc wq=>∃(q:bw) (a:bh Ty) (C:bw->Prop),q<=f.vs.length/\c= Z U (q:ct)/\o=a++((f.vs.drop q).map Vr.ty++iF m (j+1))/\J a C wq/\Ext (λk=>¬jH N B k) W wq) (λc _=>f.vs.length-(intOf c).toNat)
      case atStart=>exact⟨0,_,C',da _,rfl,sx.out,py.out.1,py.out.2⟩
      case round=>
       clear p2;obtain⟨q,G,C2,hq,rfl,K,ph,oT⟩:=hrel;have pn:=zH oT;have po:=zH ph
       by_cases pi:q<f.vs.length
       ·obtain⟨x,hx⟩:∃x,f.vs[q]?=oa x:=⟨_,ce pi⟩
        obtain⟨vb,rl,sB,sE,rm⟩:=sr.out wr oT (by intro e;rw[e] at pi;simp at pi);have sL:cr (∀k u,x.cells.toList[k]?=oa u->wr.cell? ((⟨vb,rl+q*3,ob⟩:Addr).add k)=oa u):=λk u hu=>by
         rw[cI];exact rm q x hx k u hu
        obtain⟨P2,rn⟩:=zE wr.heap.size;obtain⟨W4,pB⟩:=zE (wr.alloc (oB x.cells 34));have tj:∀(c:cC bo),c.size=3->(cM ⟨P2,0,ob⟩ x.cells.toList 0).run ac (wr.alloc (oB c 34))= .ok () W4:=λc hc=>by
         rw[<-pB,<-rn];exact cf (P:=ac) wr 34 c x.cells (by show _=oa 3;kernel_rfl) hc (rR x)
        have pH:W4.heap[P2]?=oa (oB x.cells 34 (0,0)):=by rw[<-pB,<-rn];exact alloc_at _ _
        have p0:=zR pH 0 (oy x.ptr);have p1:=zR pH 1 (oe x.tgt);have tl:P2<W4.heap.size:=(aw.1 pH).1;have sR:cr (Ext (λk=>¬jH N B k) W W4):=by rw[<-pB];exact pn.out.alloc _
        have qS:J G C2 W4:=by rw[<-pB];exact pD.out _ _ _ _ po.out ((Ext.refl _ _).alloc _)
        have sT:=zH qS;have oY:o=G++x.ty::((f.vs.drop (q+1)).map Vr.ty++iF m (j+1)):=by rw[K,jw Vr.ty hx];rfl
        have qT:=zH (nG oY);have D:=zH (HM.out G x.ty C2 W4 qS qT.out.1);unfold qm at D;simp only[Vr.ty] at D;have sg:(q:ct)<(f.vs.length:ct):=by omega
        rw[sB];clear oT ph K hx sE rm pH pB qS oY
        go_upto_region 16 with(refine az rfl 34 _ rfl ⟨vb,rl+q*3,ob⟩ rfl x.cells _ sL.out underlying34 rfl (by kernel_rfl) ?_)
        refine(lB (n:=0)).1 ?_;refine iS (aj rfl (by simp) (.func (.yield l) #[] #[]) (w':=W4) (by simp[go_sem]) ?_);simp only[cE,am,aE,bb];refine aj rfl (by simp) (ox (oa ⟨P2,0,ob⟩)) (w':=W4) (by simp[go_sem]) ?_;simp only[cE,am,aE,bb];refine aj rfl (by simp) (oA #[oy x.ptr,oe x.tgt]) (w':=W4) (by simp[go_sem,p0,p1]) ?_;simp only[cE,am,aE,bb];refine bX (fv:= .func (.yield l) #[] #[]) (args:=#[oA #[oy (x.ptr,x.tgt).1,oe (x.ptr,x.tgt).2]]) rfl (.tmp 52) #[.tmp 54] _ rfl rfl (by simp[Act.eval]) D.out ?_;intro v d hv;simp only[cE,am,aE,bb];rcases hv with⟨rfl,C',px,g,oX⟩|⟨rfl,g⟩
        ·refine aj rfl (by simp) (oy od) (w':=d) (by simp[go_sem]) ?_
         simp only[cE,am,aE,bb];refine fx ?_;have ro:cr (J (G++[x.ty]) C' d/\Ext (λk=>¬jH N B k) W d):=⟨g,sR.out.trans oX (λk hk=> .inl ((pk.out _ _ _ sT.out k hk).2))⟩
         clear g oX px p0 p1;go_wp2;go_roundw
         case rel=>exact⟨q+1,_,C',by omega,by go_num,qT.out.2,ro.out.1,ro.out.2⟩
         case measure=>simp[intOf];omega
        ·refine aj rfl (by simp) (oy oc) (w':=d) (by simp[go_sem]) ?_
         simp only[cE,am,aE,bb];refine fx ?_;have HF:cr (∃a,a<+:o/\Jx a d):=⟨_,qT.out.1,g⟩
         clear g p0 p1;go_wp2
         ((try simp only[cD,Exit.then]);(try rw[eM]);(first|refine cP (de rfl _ _ _) rfl ?_|refine gb (de rfl _ _ _) rfl ?_));exact⟨_,rfl,.inr HF.out⟩
       ·have qt:q=f.vs.length:=by omega
        subst qt;rw[ku,ev] at K;have pb:=zH K;clear oT ph K;go_wp2;go_roundw
        case rel=>exact⟨j+1,G,C2,by omega,by go_num,pb.out,po.out,pn.out⟩
        case measure=>simp[intOf];omega
     ·refine aj rfl (by simp) (oy oc) (w':=d) (by simp[go_sem]) ?_
      simp only[cE,am,aE,bb];refine fx ?_;have HF:cr (∃a,a<+:o/\Jx a d):=⟨_,HP.out.1,g⟩
      clear g p3 p4;go_wp2
      ((try simp only[cD,Exit.then]);(try rw[eM]);(first|refine cP (de rfl _ _ _) rfl ?_|refine gb (de rfl _ _ _) rfl ?_));exact⟨_,rfl,.inr HF.out⟩
    ·have qu:j=m.fs.length:=by omega
     subst qu;rw[xE,ki] at A;have pb:cr (J o C1 wr):=by unfold cr;rw[A];exact pd.out
     clear oR pc A oS;go_wp2
     ((try simp only[cD,Exit.then]);(try rw[eM]);(first|refine cP (de rfl _ _ _) rfl ?_|refine gb (de rfl _ _ _) rfl ?_));exact⟨_,rfl,.inl ⟨C1,pb.out⟩⟩
section
attribute [local go_sem] Oper.semAt_some
private theorem nH (p:Tmp)(v:bo)(t:cC bo):((#[p]:cC Tmp).zip #[v]).foldl (λt (p,v)=>t.setIfInBounds p v) t=t.setIfInBounds p v:=by simp
theorem uj (m:Mo)(w:World):et ac 95 #[oA m.cells] w λe w'=>
  e= oE (.func (.func 134) #[] #[ox (oa ⟨w.heap.size,0,ob⟩)])/\w'=w.alloc (oB m.cells 25):=by
 have a:∀(fn:Fn)(first cap:cC bo)(w:World),True:=λ_ _ _ _=>trivial;go_enter func95,ntmps95;go_wp2;go_ret;exact⟨rfl,rfl⟩
def vL:Fn:=⟨⟨⟨#[]⟩,0,ob,0,0,od,⟨#[]⟩,0,ob,0,0,ob,0,[]⟩,[],[],[]⟩
def mG (a:cC bo):bw->bh bo->cC bo
 |_,[]=>a
 |o,v::r=>mG (a.setIfInBounds o v) (o+1) r
theorem kw {b:bw}{t:eJ}:∀(d:bh bo)(o:bw)(w:World)(a:cC bo),w.heap[b]?=oa (oB a t (0,0))->(w.setCells b o d).heap[b]?=oa (oB (mG a o d) t (0,0))
 |[],_,_,_,h=>h
 |v::r,o,w,a,h=>kw r (o+1) _ _ (fz w b o a t v h)
theorem vM (m:Mo)(g f:Fn):mG (jg m g) 2 f.cells.toList=jg m f:=by
 simp[mG,jg,Fn.cells,ww.cells]
theorem AU (m:Mo)(g:Fn):((jg m g).all λx=>x.oneCell')=oc:=by
 rw[<-gi];simp[jg,bp]
theorem bv (tmps:cC bo)(w:World)(a:Addr)(v:bo)(b:tmps[2]?=oa (ox (oa a)))(d:w.cell? a=oa v):(mS Tryz.f53 tmps).run ac w= .ok v w:=by
 simp[mS,go_sem,b,d]
structure iB (w:World)(m:Mo):Prop where
 mo:m.inn w
 sl:m.ss.length<=90000
 fl:m.fs.length<=90000
 fd:∀s∈m.ss,s.fs.length<=90000
 vl:∀f∈m.fs,f.vs.length<=90000
 al:∀f∈m.fs,∀i∈f.c.ins,i.args.length<=40
theorem World.keptBut_ext (b:bw):∀(a:bh bo)(o:bw)(w:World),Ext (·=b) w (w.setCells b o a)
 |[],_,w=>Ext.refl _ w
 |v::r,o,w=>(Ext.set1 w b o v).trans (World.keptBut_ext b r (o+1) _) (λ_ d=> .inl d)
structure RI (m:Mo)(N:bw)(XS:bh Ty)(W5:World)(pre:bh Ty)(C:bw->Prop)(W:World):Prop where
 res:W.heap[N+1]?=oa (oB #[Z U 0] 27 (0,0))
 ext:Ext (λk=>k=N+1) W5 W
 kn:∀t∈pre,m.known t=oc
 own:(C=λk=>k=N+1)\/∃(b:bw) (t:Ty),C=(λk=>k=N+1\/k=b)/\XS[pre.length]?=oa t/\W5.heap.size<=b/\W.heap[b]?=oa (oB #[oy t.1,oe t.2] 32 (0,0))
theorem RI.next {m:Mo}{N:bw}{f g:bh Ty}{a W W':World}{C:bw->Prop}(h:RI m N f a g C W)(y:N+1<a.heap.size)(d:Ext (λk=>a.heap.size<=k/\¬C k) W W'):RI m N f a g C W':=by
 refine⟨d.heap h.res (λh=>by omega),h.ext.trans d (λj o=> .inr o.1),h.kn, ?_⟩;rcases h.own with e|⟨b,t,e,q,u,v⟩
 ·exact .inl e
 ·exact .inr ⟨b,t,e,q,u,d.heap v (λh=>h.2 (by rw[e];exact .inr rfl))⟩
theorem RI.res_own {m:Mo}{N:bw}{a d:bh Ty}{f W:World}{C:bw->Prop}(h:RI m N a f d C W):C (N+1):=by
 rcases h.own with e|⟨b,t,e,_⟩
 ·rw[e]
 ·rw[e];exact .inl rfl
structure RX (m:Mo)(N:bw)(W5:World)(c:Code)(C:bw->Prop)(W:World):Prop where
 ret:c= .ret
 res:W.heap[N+1]?=oa (oB #[Z U 5] 27 (0,0))
 ext:Ext (λk=>k=N+1) W5 W
 bad:(dO m).all m.known=od
 own:C (N+1)
theorem uk (m:Mo)(w:World)(h:iB w m):
  zP 53 #[oA m.cells] w (Z U (iT m)):=by
 have HM:=zH h;obtain⟨R,hR⟩:=zE (iT m);have HR:cr (R=if 30<m.ss.length\/60<m.fs.length then 2
  else if iR m=oc then 6
  else if (dO m).all m.known=od then 5
  else if aW (codeF m) m.fs≠0 then aW (codeF m) m.fs
  else dS (decide (0<=m.fnIx eu)&&(match m.fs[(m.fnIx eu).toNat]? with
   |some g=>decide (g.c.par=0)&& !g.c.rp
   |none=>od)) 9):=hR.symm
 rw[hR];clear h hR;obtain⟨N,hN⟩:=zE w.heap.size;obtain⟨W1,qn⟩:=zE ((w.alloc (oB m.cells 25)).alloc (oB #[Z U 0] 27));have sY:=oL qn hN;have qq:W1.heap.size=N+2:=by rw[<-qn];simp[hN]
 have py:=uG qn hN;have oX:=wy qn hN;obtain⟨W2,pi⟩:=zE (W1.alloc (oB (jg m vL) 184));have hst:∀(c:cC bo),c.size=10->(cM ⟨N+2,0,ob⟩ (jg m vL).toList 0).run ac (W1.alloc (oB c 184))= .ok () W2:=λc hc=>by
  rw[<-pi,<-qq];exact cf (P:=ac) W1 184 c (jg m vL) (by show _=oa 10;kernel_rfl) hc (AU m vL)
 simp only[jg,vL,gO] at hst;have b0:=zR py 0 (ot m.sA m.ss.length m.sC);have b1:=zR py 1 (ot m.fA m.fs.length m.fC);have qr:bj (N+2) W1 W2:=by rw[<-pi,<-qq];exact(an _ _).alloc (bl _) _
 have vx:W2.heap.size=N+3:=by rw[<-pi];simp[qq]
 have ta:W2.heap[N+2]?=oa (oB (jg m vL) 184 (0,0)):=by rw[<-pi,<-qq];exact alloc_at _ _
 have pj:cr (∀W,bj (N+3) W2 W->W.heap[N]?=oa (oB m.cells 25 (0,0))/\W.heap[N+1]?=oa (oB #[Z U 0] 27 (0,0))/\W.heap[N+2]?=oa (oB (jg m vL) 184 (0,0))):=λW hW=>
  ⟨(hW.block N (by omega)).trans ((qr.block N (by omega)).trans py),(hW.block (N+1) (by omega)).trans ((qr.block (N+1) (by omega)).trans oX),(hW.block (N+2) (by omega)).trans ta⟩
 have pB:cr (bj N w W2):=sY.trans (qr.mono (by omega));have vy:=zH py;have HN:=zH hN;have ro:cr (∀(W:World)(z:ct)(u:bo)(bs:bh bw),W.heap[N+1]?=oa (oB #[u] 27 (0,0))->bj N w W->(∀b∈bs,N+2<=b)->∀w',Ext (·∈bs) (W.setCell ⟨N+1,0,ob⟩ (Z U z)) w'->w'.cell? ⟨N+1,0,ob⟩=oa (Z U z)/\bj N w w'):=by
  intro W z u bs G y h3 w' o;have h4:=fz W (N+1) 0 _ _ (Z U z) G;have h5:=o.heap h4 (λh=>by have:=h3 _ h;omega);refine⟨by rw[ci _ _ _ _ _ _ h5];rfl, ?_⟩;have h6:Ext (N<=·) w (W.setCell ⟨N+1,0,ob⟩ (Z U z)):=(Ext.of_below y).trans (Ext.set1 _ _ _ _) (λj A=> .inl (by show N<=j;omega));exact(h6.trans o (λj A=> .inl (by show N<=j;have:=h3 _ A;omega))).below (by omega) (λk a=>a)
 have rr:=pi;simp only[jg,vL,gO] at rr;have tc:=zH rr;clear sY py oX qr ta pi rr
 (refine dH func53 rfl ?_
  simp only[ntmps53,List.size_toArray,du,gO,Nat.reduceAdd,Nat.reduceSub,nb,
   nd,List.push_toArray,mC,ev,fN])
 go_wp2_with fail
 go_step3
 go_upto_region 2 with(fail)
 rw[tc.out];clear tc;obtain⟨rv,qs,ud⟩:=pj.out W2 (an _ _);have c0:=zR rv 0 (ot m.sA m.ss.length m.sC);have c1:=zR rv 1 (ot m.fA m.fs.length m.fC);have c2:=zR qs 0 (Z U 0);have c3:=dt _ _ 0 _ _ qs;have te:=zH qs;clear rv qs ud b0 b1 hst
 by_cases g1:30<m.ss.length
 ·have oS:cr (R=2):=by unfold cr;rw[HR.out,cQ (.inl g1)]
  clear HR
  go_wp2_with fail
  refine⟨[],rfl,by simp,by simp,Z U 2,λw' o=> ?_⟩;obtain⟨G,y⟩:=ro.out W2 2 _ [] te.out pB.out (by simp) w' o;exact⟨bv _ _ _ _ rfl G,by rw[oS.out],by first|exact y|(rw[HN.out];exact y)⟩
 by_cases g2:60<m.fs.length
 ·have oS:cr (R=2):=by unfold cr;rw[HR.out,cQ (.inr g2)]
  clear HR
  go_wp2_with fail
  refine⟨[],rfl,by simp,by simp,Z U 2,λw' o=> ?_⟩;obtain⟨G,y⟩:=ro.out W2 2 _ [] te.out pB.out (by simp) w' o;exact⟨bv _ _ _ _ rfl G,by rw[oS.out],by first|exact y|(rw[HN.out];exact y)⟩
 have pD:cr (R=if iR m=oc then 6
  else if (dO m).all m.known=od then 5
  else if aW (codeF m) m.fs≠0 then aW (codeF m) m.fs
  else dS (decide (0<=m.fnIx eu)&&(match m.fs[(m.fnIx eu).toNat]? with
   |some g=>decide (g.c.par=0)&& !g.c.rp
   |none=>od)) 9):=by unfold cr;rw[HR.out,cy (by omega)]
 clear HR;have rx:=zH (ug m W2 (HM.out.mo.below (by rw[HN.out];exact pB.out)) HM.out.sl HM.out.fl HM.out.fd);obtain⟨tw,tf⟩:=zE (iR m);rw[tf] at rx pD;have th:cr (W2.heap[N]?=oa (oB m.cells 25 (0,0))):=(pj.out W2 (an _ _)).1;clear tf;cases tw with
 |true=>
  have oS:cr (R=6):=by unfold cr;rw[pD.out,cQ rfl]
  clear pD
  go_upto_region 4 with(fail)
  go_wp2_with (first
   |(refine cc rfl 25 _ rfl N rfl 25 m.cells (0,0) _ th.out i5 rfl (by kernel_rfl) ?_)
   |(go_at_call 94;refine rx.out.mono ?_;rintro e w3 ⟨rfl,pk⟩;have q1:=(pj.out w3 (pk.mono (by omega))).2.1;have c2:w3.cell? ⟨N+1,0,ob⟩=oa (Z U 0):=(ci _ _ _ _ _ _ q1).trans rfl;have c3:=dt _ _ 0 _ _ q1;have ue:=zH q1;have oY:=zH pk;clear pk q1))
  refine⟨[],rfl,by simp,by simp,Z U 6,λw' o=> ?_⟩;obtain⟨G,y⟩:=ro.out w3 6 _ [] ue.out (pB.out.trans (oY.out.mono (by omega))) (by simp) w' o;exact⟨bv _ _ _ _ rfl G,by rw[oS.out],by first|exact y|(rw[HN.out];exact y)⟩
 |false=>
  have rB:cr (R=if (dO m).all m.known=od then 5
   else if aW (codeF m) m.fs≠0 then aW (codeF m) m.fs
   else dS (decide (0<=m.fnIx eu)&&(match m.fs[(m.fnIx eu).toNat]? with
    |some g=>decide (g.c.par=0)&& !g.c.rp
    |none=>od)) 9):=by unfold cr;rw[pD.out];rfl
  clear pD
  go_upto_region 6 with(first
   |(refine cc rfl 25 _ rfl N rfl 25 m.cells (0,0) _ th.out i5 rfl (by kernel_rfl) ?_)
   |(go_at_call 94;refine rx.out.mono ?_;rintro e w3 ⟨rfl,pk⟩;have ti:bj (N+3) W2 w3:=pk.mono (by omega);have oY:=zH ti;clear pk ti))
  have wa:=oY.out.size;have tj:cr (w3.heap[N]?=oa (oB m.cells 25 (0,0))):=(pj.out w3 oY.out).1;have ur:cr (w3.heap[N+1]?=oa (oB #[Z U 0] 27 (0,0))):=(pj.out w3 oY.out).2.1;have tl:cr (w3.heap[N+2]?=oa (oB (jg m vL) 184 (0,0))):=(pj.out w3 oY.out).2.2;have us:cr (bj N w w3):=pB.out.trans (oY.out.mono (by omega));obtain⟨B,hB⟩:=zE w3.heap.size;obtain⟨W5,pl⟩:=zE (w3.alloc (oB m.cells 25));have uv:cr (et ac 95 #[oA m.cells] w3 λe w'=>e= oE (.func (.func 134) #[] #[ox (oa ⟨B,0,ob⟩)])/\w'=W5):=by
   rw[<-hB,<-pl];exact uj m w3
  have tm:Ext (λ_=>fW) w3 W5:=by rw[<-pl];exact(Ext.refl _ _).alloc _
  have wb:W5.heap.size=B+1:=by rw[<-pl];simp[hB]
  have tn:W5.heap[B]?=oa (oB m.cells 25 (0,0)):=by rw[<-pl,<-hB];exact alloc_at _ _
  have tp:=gq pl hB;have qt:cr (bj N w W5):=us.out.trans (tp.mono (by omega));have rI:cr (Iter ac 134 #[ox (oa ⟨B,0,ob⟩)] qm (dO m) (jH N B) W5):=by
   have:=ui w W5 m B HM.out.mo (by rw[HN.out];exact qt.out) tn HM.out.fd HM.out.vl HM.out.sl HM.out.fl;rw[HN.out] at this;exact this
  have qu:=zH tm;clear tm tp tn pl c0 c1 c2 c3
  go_upto_region 7 with(first
   |(refine cc rfl 25 _ rfl N rfl 25 m.cells (0,0) _ tj.out i5 rfl (by kernel_rfl) ?_)
   |(go_at_call 95;refine uv.out.mono ?_;rintro e w6 ⟨rfl,tr⟩;rw[tr];clear tr))
  have ux:N+1<W5.heap.size:=by omega
  have we:N+3<=B:=by omega
  have rK:cr (∀(W:World)(z:ct)(bs:bh bw),W.heap[N+1]?=oa (oB #[Z U z] 27 (0,0))->Ext (N<=·) w W->(∀b∈bs,N+2<=b)->∀w',Ext (·∈bs) W w'->w'.cell? ⟨N+1,0,ob⟩=oa (Z U z)/\bj N w w'):=by
   intro W z bs G y h3 w' o;have h5:=o.heap G (λh=>by have:=h3 _ h;omega);refine⟨by rw[ci _ _ _ _ _ _ h5];rfl, ?_⟩;exact(y.trans o (λj A=> .inl (by show N<=j;have:=h3 _ A;omega))).below (by omega) (λk a=>a)
  obtain⟨XS,rL⟩:=zE (dO m);have rN:=zH rL;rw[rL] at rI;clear rL;refine gJ (gf:=134) rfl func134 (by rfl) rfl rI.out (an _ _) ?hRd (λ_=>rfl) (RI m N XS W5) (λc _ C W=>RX m N W5 c C W) (λpm C W W' h o=>h.next ux o) ?hIC ?hIx (λk=>k=N+1) ?h0 ?hround ?hdone ?hstop
  case hRd=>
   rintro k (h|rfl)
   ·omega
   ·omega
  case hIC=>
   intro pm C W h k a;rcases h.own with e|⟨b,t,e,G,y,h3⟩
   ·rw[e] at a
    have a:k=N+1:=a;subst a;exact⟨(aw.1 h.res).1,λh=>by rcases h with h|h<;>omega⟩
   ·rw[e] at a
    rcases a with a|a
    ·subst a
     exact⟨(aw.1 h.res).1,λh=>by rcases h with h|h<;>omega⟩
    ·subst a
     exact⟨(aw.1 h3).1,λh=>by rcases h with h|h<;>omega⟩
  case hIx=>
   intro c pm C W W' h o;exact⟨h.ret,o.heap h.res (λq=>by omega),h.ext.trans o (λj A=> .inr A.1),h.bad,h.own⟩
  case h0=>exact⟨qu.out.heap ur.out (λh=>h),Ext.refl _ _,by simp,.inl rfl⟩
  case hround=>
   rintro l pm ⟨xb,xs⟩ C W hl hI pH;unfold qm;rw[nH];simp only[am,aE,bb];have HI:=zH hI;have va:=zH pH;have rS:XS[pm.length]?=oa (xb,xs):=by
    obtain⟨t,ht⟩:=pH;rw[<-ht];simp
   have wg:=hI.ext.size;obtain⟨b,hb⟩:=zE W.heap.size;obtain⟨W6,qv⟩:=zE (W.alloc (oB #[oy xb,oe xs] 32));have wi:∀(c:cC bo),c.size=2->(cM ⟨b,0,ob⟩ [oy xb,oe xs] 0).run ac (W.alloc (oB c 32))= .ok () W6:=λc hc=>by
    rw[<-qv,<-hb];exact cf (P:=ac) W 32 c #[oy xb,oe xs] (by show _=oa 2;kernel_rfl) hc (by simp[bp])
   have tt:W6.heap[b]?=oa (oB #[oy xb,oe xs] 32 (0,0)):=by rw[<-qv,<-hb];exact alloc_at _ _
   have qS:Ext (λ_=>fW) W W6:=by rw[<-qv];exact(Ext.refl _ _).alloc _
   have vc:cr (RI m N XS W5 pm (λk=>k=N+1\/k=b) W6):=by
    have h:=HI.out;exact⟨qS.heap h.res (λh=>h),h.ext.trans qS (λ_ h=>h.elim),h.kn,.inr ⟨b,_,rfl,rS,by omega,tt⟩⟩
   have vd:cr (Ext C W W6):=qS.mono (λ_ h=>h.elim);have vf:=zH rS;have wj:=zH qv;clear hI pH rS tt qS;obtain⟨F,hF⟩:∃F,F=eq.inRound l:=⟨_,rfl⟩
   have tv:cr (∀(n f:bw)(args:cC bo)(w:World)(R:Ending->World->Prop),et ac f args w R->CallsIn F n ac f args w R):=by
    intro n f args w R h;rw[hF];exact CallsIn.inRound l (callsIn_wide.2 h)
   have wk:F.round=oa l:=by rw[hF];rfl
   have wl:∀f,F.fn f:=λf=>by rw[hF];trivial
   have wn:F.depth=ob:=by rw[hF];rfl
   rw[<-hF];clear hF
   gi_wp2
   refine⟨λk=>k=N+1\/k=b, ?_,vc.out,vd.out, ?_⟩
   ·rintro k (rfl|rfl)
    ·exact .inl HI.out.res_own
    ·exact .inr (by omega)
   intro W₂ pb vh;have oX:W₂.heap[b]?=oa (oB #[oy xb,oe xs] 32 (0,0)):=by
    rcases pb.own with e|⟨b',t',e,G,y,h3⟩
    ·have q:=congrFun e b
     simp at q;omega
    ·have q:=congrFun e b
     simp at q;rcases q with q|q
     ·omega
     ·subst q
      rw[vf.out] at G;obtain rfl:=cN G;exact h3
   have tz:W₂.heap[N+2]?=oa (oB (jg m vL) 184 (0,0)):=pb.ext.heap (qu.out.heap tl.out (λh=>h)) (by omega);have tA:bj N W5 W₂:=pb.ext.below (by omega) (λk a=>by omega);have vi:cr (bj N w W₂):=qt.out.trans tA;have vj:=dt _ _ 0 _ _ pb.res;have vm:W₂.cell? ⟨N+1,0,ob⟩=oa (Z U 0):=(ci _ _ _ _ _ _ pb.res).trans rfl;have t0:W₂.cell? ⟨b,0,ob⟩=oa (oy xb):=(ci _ _ _ _ _ _ oX).trans rfl;have t1:W₂.cell? ⟨b,1,ob⟩=oa (oe xs):=(ci _ _ _ _ _ _ oX).trans rfl;obtain⟨y0,y1,y2,y3,y4,y5,y6,y7,y8,y9⟩:=fO.of tz;simp only[vL,gO] at y2 y3 y4 y5 y6 y7 y8 y9;obtain⟨d,hd⟩:=zE (m.known (xb,xs));have tB:cr (zP 96 #[oA (jg m vL),oA #[oy xb,oe xs]] W₂ (oy d)):=by
    rw[<-hd];exact tT m vL xb xs W₂ (HM.out.mo.below (by rw[HN.out];exact vi.out))
   have HD:=zH hd;have pL:=zH pb;have ws:=(aw.1 oX).1;clear oX tz tA pb hd vh;cases d with
   |true=>
    gi_wp2_with (gi_at_call 96;refine(tv.out _ _ _ _ _ tB.out).mono ?_;rintro e K ⟨rfl,oR⟩;have pc:=zH oR;clear oR)
    have h7:Ext (λ_=>fW) W₂ K:=Ext.of_below_size pc.out;refine⟨λk=>k=N+1,λk a=> .inl (.inl a),⟨h7.heap pL.out.res (λh=>h),pL.out.ext.trans h7 (λ_ h=>h.elim),λt ht=> ?_,.inl rfl⟩,h7.mono (λ_ h=>h.elim)⟩;rcases cw.1 ht with h|h
    ·exact pL.out.kn t h
    ·simp at h;subst h;exact HD.out
   |false=>
    gi_wp2_with (gi_at_call 96;refine(tv.out _ _ _ _ _ tB.out).mono ?_;rintro e K ⟨rfl,oR⟩;have z7:K.cell? ⟨N+1,0,ob⟩=oa (Z U 0):=(oR.cell (p:=⟨N+1,0,ob⟩) (by show N+1<_;omega)).trans vm;have f7:K.frozen? ⟨N+1,0,ob⟩=od:=(oR.frozen (p:=⟨N+1,0,ob⟩) (by show N+1<_;omega)).trans vj;have pc:=zH oR;clear oR)
    have h7:Ext (λ_=>fW) W₂ K:=Ext.of_below_size pc.out;have h8:Ext (·=N+1) K (K.setCell ⟨N+1,0,ob⟩ (Z U 5)):=Ext.set1 _ _ _ _;refine⟨λk=>k=N+1,λk a=> .inl (.inl a),⟨rfl, ?_,(pL.out.ext.trans h7 (λ_ h=>h.elim)).trans h8 (λj A=> .inl A), ?_,rfl⟩,(h7.mono (λ_ h=>h.elim)).trans h8 (λj A=> .inl (.inl A))⟩
    ·have:=fz K (N+1) 0 _ _ (Z U 5) (h7.heap pL.out.res (λh=>h))
     simpa using this
    ·rw[rN.out,List.all_eq_false]
     exact⟨(xb,xs),va.out.subset (by simp),by rw[HD.out];simp⟩
  case hstop=>
   intro D c pm C W hD se pH vn pn;obtain⟨rfl,oT,tD,tE,vp⟩:=vn;have oS:cr (R=5):=by unfold cr;rw[rB.out,cQ tE]
   have qT:=zH pn;have pd:cr (Ext (N<=·) w W):=(Ext.of_below qt.out).trans (tD.mono (M':=(N<=·)) (λk a=>by show N<=k;omega)) (λj A=> .inl A);have sf:=zH oT;clear oT tD tE vp pn pH
   go_wp2_with fail
   refine⟨[D],rfl,by simp,by intro b hb;simp at hb;subst hb;exact qT.out,Z U 5,λw' o=> ?_⟩;obtain⟨G,y⟩:=rK.out W 5 [D] sf.out pd.out (by simp;omega) w' o;exact⟨bv _ _ _ _ rfl G,by rw[oS.out],by first|exact y|(rw[HN.out];exact y)⟩
  case hdone=>
   intro D C W hD se hI pn;have tG:cr (∀t∈dO m,m.known t=oc):=by rw[rN.out];exact hI.kn
   have ra:cr (R=if aW (codeF m) m.fs≠0 then aW (codeF m) m.fs
    else dS (decide (0<=m.fnIx eu)&&(match m.fs[(m.fnIx eu).toNat]? with
     |some g=>decide (g.c.par=0)&& !g.c.rp
     |none=>od)) 9):=by
    unfold cr;rw[rB.out,cy];rw[gS.2 tG.out];decide
   have qT:=zH pn;have pd:cr (Ext (N<=·) w W):=(Ext.of_below qt.out).trans (hI.ext.mono (M':=(N<=·)) (λk a=>by show N<=k;omega)) (λj A=> .inl A);have sf:=zH hI.res;have sg:cr (W.heap[N]?=oa (oB m.cells 25 (0,0))):=hI.ext.heap (qu.out.heap tj.out (λh=>h)) (by omega);have vq:cr (W.heap[N+2]?=oa (oB (jg m vL) 184 (0,0))):=hI.ext.heap (qu.out.heap tl.out (λh=>h)) (by omega);have wx:N+3<=W.heap.size:=by have:=hI.ext.size;omega
   have xa:cr (bj N w W):=pd.out.below (by omega) (λk a=>a);have xd:cr (D<W.heap.size):=(aw.1 pn).1;have m0:W.cell? ⟨N,0,ob⟩=oa (ot m.sA m.ss.length m.sC):=(ci _ _ _ _ _ _ sg.out).trans rfl;have m1:W.cell? ⟨N,1,ob⟩=oa (ot m.fA m.fs.length m.fC):=(ci _ _ _ _ _ _ sg.out).trans rfl;have xf:=zH se;clear hI pn se rB rI rN
   go_wp2_with fail
   go_step3
   go_wp2_with fail
   go_loopw [34] (λc wr=>∃(j:bw) (g:Fn),j<=m.fs.length/\c= Z U (j:ct)/\(∀f∈m.fs.take j,codeF m f=0)/\Ext (λk=>k=N+1\/k=N+2) W wr/\wr.heap[N+1]?=oa (oB #[Z U 0] 27 (0,0))/\wr.heap[N+2]?=oa (oB (jg m g) 184 (0,0))) (λc _=>m.fs.length-(intOf c).toNat)
   case atStart=>exact⟨0,vL,da _,rfl,by simp,Ext.refl _ _,sf.out,vq.out⟩
   case round=>
    clear m0 m1;obtain⟨j,g,A,rfl,hz,o,oT,pN⟩:=hrel;have HZ:=zH hz;have HX:=zH o;have vr:=zH oT;have xj:=zH pN;have xl:=o.size;have sk:cr (bj N w wr):=(pd.out.trans (o.mono (M':=(N<=·)) (λk a=>by show N<=k;omega)) (λj A=> .inl A)).below (by omega) (λk a=>a)
    by_cases sn:j<m.fs.length
    ·obtain⟨f,hf⟩:∃f,m.fs[j]?=oa f:=⟨_,ce sn⟩
     have rb:=cA hf;obtain⟨fb,pf,pP,so,po⟩:=HM.out.mo.frow (by intro e;rw[e] at sn;simp at sn);have rc:fb<N:=by omega
     have tM:cr (∀k u,f.cells.toList[k]?=oa u->wr.cell? ((⟨fb,pf+j*8,ob⟩:Addr).add k)=oa u):=λk u hu=>by
      rw[cI,sk.out.cell (p:=⟨fb,_,ob⟩) rc];exact po j f hf k u hu
     obtain⟨P,hP⟩:=zE wr.heap.size;obtain⟨W3,pS⟩:=zE (wr.alloc (oB f.cells 38));have xo:∀(c:cC bo),c.size=8->(cM ⟨P,0,ob⟩ f.cells.toList 0).run ac (wr.alloc (oB c 38))= .ok () W3:=λc hc=>by
      rw[<-pS,<-hP];exact cf (P:=ac) wr 38 c f.cells (by show _=oa 8;kernel_rfl) hc (dX f)
     have re:Ext (λ_=>fW) wr W3:=by rw[<-pS];exact(Ext.refl _ _).alloc _
     have tP:cr (W3.heap[P]?=oa (oB f.cells 38 (0,0))):=by unfold cr;rw[<-pS,<-hP];exact alloc_at _ _
     have rh:=re.heap pN (λh=>h);have xp:W3.heap.size=P+1:=by rw[<-pS];simp[hP]
     obtain⟨W4,rj⟩:=zE (W3.setCells (N+2) 2 f.cells.toList);have xr:(cM ⟨N+2,2,ob⟩ f.cells.toList 0).run ac W3= .ok () W4:=by
      rw[<-rj];refine run_storeCells_cells (P:=ac) (N+2) 2 f.cells.toList 0 W3 (λk a=> ?_) (λk a=>dt _ _ _ _ _ rh) (λv hv=> ?_)
      ·rw[ci _ _ _ _ _ _ rh]
       have:k<8:=a;rw[Array.getElem?_eq_getElem (by show 2+0+k<10;omega)];rfl
      ·have:=dX f
       rw[<-gi,gS] at this;exact this v hv
     have tR:W4.heap[N+2]?=oa (oB (jg m f) 184 (0,0)):=by
      rw[<-rj,<-vM m g f];exact kw _ _ _ _ rh
     have sq:Ext (·=N+2) W3 W4:=by rw[<-rj];exact(World.keptBut_ext (N+2) _ _ _)
     have tS:W4.heap[N+1]?=oa (oB #[Z U 0] 27 (0,0)):=sq.heap (re.heap oT (λh=>h)) (by omega);have rk:cr (Ext (λk=>k=N+1\/k=N+2) W W4):=(HX.out.trans re (λ_ h=>h.elim)).trans sq (λk a=> .inl (.inr a));have vt:cr (bj N w W4):=(pd.out.trans (rk.out.mono (M':=(N<=·)) (λk a=>by show N<=k;omega)) (λj A=> .inl A)).below (by omega) (λk a=>a);have sr:=zH tR;have tU:=zH tS;have xt:=rk.out.size;obtain⟨z,sx⟩:=zE (codeF m f);have tW:cr (zP 97 #[oA (jg m f)] W4 (Z U z)):=by
      rw[<-sx];have ph:=HM.out.mo.below (by rw[HN.out];exact vt.out);exact vH m f W4 ⟨ph,ph.fin f rb,HM.out.al f rb,λv hv=>tG.out _ (by
       obtain⟨h0,G⟩:=jf.1 hv;obtain⟨k,rfl⟩:∃k:bw,v=(k:ct):=⟨v.toNat,by omega⟩
       obtain⟨x,o⟩:∃x,f.vs[k]?=oa x:=⟨_,ce (by omega)⟩
       have e:aA f.vs (k:ct)=x.ty:=by unfold aA;rw[eN,o]
       rw[e];unfold dO;exact cw.2 (.inr (gw.2 ⟨f,rb,List.mem_cons_of_mem _ (eh.2 ⟨x,cA o,rfl⟩)⟩)))⟩
     have sy:=zH sx;have HF:=zH hf;have xv:(j:ct)<(m.fs.length:ct):=by omega
     rw[pP];clear hz o oT pN hf rb so po pS re rh rj tR sq tS sx
     by_cases rl:z=0
     ·subst rl
      go_wp2_with (first
       |(refine az rfl 38 _ rfl ⟨fb,pf+j*8,ob⟩ rfl f.cells _ tM.out eW rfl (by kernel_rfl) ?_)
       |(refine cc rfl 38 _ rfl P rfl 38 f.cells (0,0) _ tP.out eW rfl (by kernel_rfl) ?_)
       |(refine cc rfl 184 _ rfl (N+2) rfl 184 (jg m f) (0,0) _ sr.out cj rfl (by kernel_rfl) ?_)
       |(go_at_call 97;refine tW.out.mono ?_;rintro e K ⟨rfl,oR⟩;have q7:=iy oR tU.out;have z7:K.cell? ⟨N+1,0,ob⟩=oa (Z U 0):=(ci _ _ _ _ _ _ q7).trans rfl;have f7:=dt _ _ 0 _ _ q7;have n7:=(aw.1 q7).1;have sB:=zH q7;have pc:=zH oR;clear oR q7))
      have pp:Ext (·=N+1) K (K.setCell ⟨N+1,0,ob⟩ (Z U 0)):=Ext.set1 _ _ _ _;have rm:Ext (λ_=>fW) W4 K:=Ext.of_below_size pc.out;refine⟨⟨j+1,f,by omega,by go_num,jM (p:=λf=>codeF m f=0) HZ.out HF.out sy.out,(rk.out.trans rm (λ_ h=>h.elim)).trans pp (λk a=> .inl (.inl a)), ?_,pp.heap (rm.heap sr.out (λh=>h)) (by omega)⟩,by simp[intOf];omega⟩;have:=fz K (N+1) 0 _ _ (Z U 0) sB.out;simpa using this
     ·have oS:cr (R=z):=by
       unfold cr;have e:=kV (f:=codeF m) HZ.out HF.out (by rw[sy.out];exact rl);rw[ra.out,e,sy.out,cQ rl]
      have xF:(z==0)=od:=by rw[cL];exact rl
      go_wp2_with (first
       |(refine az rfl 38 _ rfl ⟨fb,pf+j*8,ob⟩ rfl f.cells _ tM.out eW rfl (by kernel_rfl) ?_)
       |(refine cc rfl 38 _ rfl P rfl 38 f.cells (0,0) _ tP.out eW rfl (by kernel_rfl) ?_)
       |(refine cc rfl 184 _ rfl (N+2) rfl 184 (jg m f) (0,0) _ sr.out cj rfl (by kernel_rfl) ?_)
       |(go_at_call 97;refine tW.out.mono ?_;rintro e K ⟨rfl,oR⟩;have q7:=iy oR tU.out;have z7:K.cell? ⟨N+1,0,ob⟩=oa (Z U 0):=(ci _ _ _ _ _ _ q7).trans rfl;have f7:=dt _ _ 0 _ _ q7;have n7:=(aw.1 q7).1;have sB:=zH q7;have pc:=zH oR;clear oR q7))
      have pp:Ext (·=N+1) K ((K.setCell ⟨N+1,0,ob⟩ (Z U z)).setCell ⟨N+1,0,ob⟩ (Z U z)):=(Ext.set1 _ _ _ _).trans (Ext.set1 _ _ _ _) (λj A=> .inl A);have rm:Ext (λ_=>fW) W4 K:=Ext.of_below_size pc.out;have pT:Ext (λk=>k=N+1\/k=N+2) W ((K.setCell ⟨N+1,0,ob⟩ (Z U z)).setCell ⟨N+1,0,ob⟩ (Z U z)):=(rk.out.trans rm (λ_ h=>h.elim)).trans pp (λk a=> .inl (.inl a));have sE:((K.setCell ⟨N+1,0,ob⟩ (Z U z)).setCell ⟨N+1,0,ob⟩ (Z U z)).heap[N+1]?=oa (oB #[Z U z] 27 (0,0)):=by
       have q1:=fz K (N+1) 0 _ _ (Z U z) sB.out;have q2:=fz _ (N+1) 0 _ _ (Z U z) q1;simpa using q2
      refine⟨[D],rfl,by simp,by intro b hb;simp at hb;subst hb;exact pT.heap qT.out (by omega),Z U z,λw' o=> ?_⟩;obtain⟨G,y⟩:=rK.out _ z [D] sE (pd.out.trans (pT.mono (M':=(N<=·)) (λk a=>by show N<=k;omega)) (λj A=> .inl A)) (by simp;omega) w' o;exact⟨bv _ _ _ _ rfl G,by rw[oS.out],by first|exact y|(rw[HN.out];exact y)⟩
    ·have vu:j=m.fs.length:=by omega
     subst vu;rw[dl] at hz;have pZ:cr (R=dS (decide (0<=m.fnIx eu)&&(match m.fs[(m.fnIx eu).toNat]? with
      |some g=>decide (g.c.par=0)&& !g.c.rp
      |none=>od)) 9):=by
      unfold cr;rw[ra.out,iU hz,cy (by simp)]
     have z0:wr.cell? ⟨N+1,0,ob⟩=oa (Z U 0):=(ci _ _ _ _ _ _ oT).trans rfl;have f0:=dt _ _ 0 _ _ oT;have rn:wr.heap[N]?=oa (oB m.cells 25 (0,0)):=o.heap sg.out (by omega);have m0:wr.cell? ⟨N,0,ob⟩=oa (ot m.sA m.ss.length m.sC):=(ci _ _ _ _ _ _ rn).trans rfl;have m1:wr.cell? ⟨N,1,ob⟩=oa (ot m.fA m.fs.length m.fC):=(ci _ _ _ _ _ _ rn).trans rfl;have ph:=HM.out.mo.below (by rw[HN.out];exact sk.out);obtain⟨kx,pw⟩:=zE (m.fnIx eu);rw[pw] at pZ;have qe:cr (zP 98 #[oA m.cells,oe ⟨#[109,97,105,110]⟩] wr (Z U kx)):=by
      rw[<-pw];exact tQ m eu wr ph.nf ph.frow
     have sL:cr (∀(J:World)(z:ct),bj wr.heap.size wr J->(J.setCell ⟨N+1,0,ob⟩ (Z U z)).heap[D]?=oa (.deferred (oa []))/\∀w',Ext (·∈[D]) (J.setCell ⟨N+1,0,ob⟩ (Z U z)) w'->w'.cell? ⟨N+1,0,ob⟩=oa (Z U z)/\bj N w w'):=by
      intro J z Y;have ua:Ext (λ_=>fW) wr J:=Ext.of_below_size Y;have pp:Ext (·=N+1) J (J.setCell ⟨N+1,0,ob⟩ (Z U z)):=Ext.set1 _ _ _ _;have pT:Ext (λk=>k=N+1\/k=N+2) W (J.setCell ⟨N+1,0,ob⟩ (Z U z)):=(HX.out.trans ua (λ_ h=>h.elim)).trans pp (λk a=> .inl (.inl a));have sE:=fz J (N+1) 0 _ _ (Z U z) (ua.heap vr.out (λh=>h));refine⟨pT.heap qT.out (by omega),λw' o=> ?_⟩;exact rK.out _ z [D] (by simpa using sE) (pd.out.trans (pT.mono (M':=(N<=·)) (λk a=>by show N<=k;omega)) (λj A=> .inl A)) (by simp;omega) w' o
     have xT:=zH oT;have px:N+1<wr.heap.size:=by omega
     rcases nC (λf:Fn=>f.c.nm==eu) m.fs with e|⟨k,f,e,hf,_⟩
     ·have sR:kx= -1:=by rw[<-pw];exact e
      subst sR;have oS:cr (R=9):=by unfold cr;rw[pZ.out];rfl
      clear hz o oT pN pw rn ph ra pZ e
      go_wp2_with (first
       |(go_at_call 98;refine qe.out.mono ?_;rintro e J ⟨rfl,Y⟩;have z8:J.cell? ⟨N+1,0,ob⟩=oa (Z U 0):=(Y.cell (p:=⟨N+1,0,ob⟩) px).trans z0;have f8:J.frozen? ⟨N+1,0,ob⟩=od:=(Y.frozen (p:=⟨N+1,0,ob⟩) px).trans f0;have qk:=zH Y;clear Y)
       |(go_at_call 99;refine(av _ _ _).mono ?_;rintro e w9 ⟨rfl,rfl⟩))
      obtain⟨h3,h4⟩:=sL.out J 9 qk.out;refine⟨[D],rfl,by simp,by intro b hb;simp at hb;subst hb;exact h3,Z U 9,λw' o=> ?_⟩;obtain⟨G,y⟩:=h4 w' o;exact⟨bv _ _ _ _ rfl G,by rw[oS.out],by first|exact y|(rw[HN.out];exact y)⟩
     ·have sR:kx=(k:ct):=by rw[<-pw];exact e
      subst sR;have ub:=(ca.1 hf).1;have ya:(k:ct)<(m.fs.length:ct):=by omega
      have oS:cr (R=dS (decide (f.c.par=0)&& !f.c.rp) 9):=by
       unfold cr;rw[pZ.out,eN,hf,kh (by omega)];rfl
      obtain⟨fb,pf,pP,so,po⟩:=HM.out.mo.frow (by intro e;rw[e] at ub;simp at ub);have rc:fb<N:=by omega
      have sT:cr (∀W8,bj wr.heap.size wr W8->W8.cell? ⟨fb,pf+k*8+1,ob⟩=oa (Z U f.c.par)/\W8.cell? ⟨fb,pf+k*8+3,ob⟩=oa (oy f.c.rp)/\W8.cell? ⟨N,1,ob⟩=oa (ot (oa ⟨fb,pf,ob⟩) m.fs.length m.fC)/\N<W8.heap.size/\fb<W8.heap.size):=by
       intro W8 h8;have uc:bj N w W8:=sk.out.trans (h8.mono (by omega));have yb:=h8.size;refine⟨?_, ?_, ?_,by omega,by omega⟩
       ·rw[uc.cell (p:=⟨fb,_,ob⟩) rc];exact po k f hf 1 _ rfl
       ·rw[uc.cell (p:=⟨fb,_,ob⟩) rc];exact po k f hf 3 _ rfl
       ·rw[h8.cell (p:=⟨N,1,ob⟩) (by show N<_;omega),<-pP];exact m1
      simp only[Mo.cells] at qe;rw[pP] at qe m1;clear hz o oT pN pw rn ph ra pZ e so po hf pP
      by_cases hp:f.c.par=0
      ·rw[hp] at sT
       have sX:cr (R=dS (!f.c.rp) 9):=by unfold cr;rw[oS.out,hp];rfl
       go_wp2_with (first
        |(go_at_call 98;refine qe.out.mono ?_;rintro e J ⟨rfl,Y⟩;have z8:J.cell? ⟨N+1,0,ob⟩=oa (Z U 0):=(Y.cell (p:=⟨N+1,0,ob⟩) px).trans z0;have f8:J.frozen? ⟨N+1,0,ob⟩=od:=(Y.frozen (p:=⟨N+1,0,ob⟩) px).trans f0;obtain⟨u1,u2,u3,u4,u5⟩:=sT.out J Y;have qk:=zH Y;clear Y)
        |(go_at_call 99;refine(av _ _ _).mono ?_;rintro e w9 ⟨rfl,rfl⟩))
       obtain⟨h3,h4⟩:=sL.out J (dS (!f.c.rp) 9) qk.out;refine⟨[D],rfl,by simp,by intro b hb;simp at hb;subst hb;exact h3,Z U (dS (!f.c.rp) 9),λw' o=> ?_⟩;obtain⟨G,y⟩:=h4 w' o;exact⟨bv _ _ _ _ rfl G,by rw[sX.out],by first|exact y|(rw[HN.out];exact y)⟩
      ·have sX:cr (R=9):=by unfold cr;rw[oS.out,er hp];rfl
       have yd:(f.c.par==0)=od:=by rw[cL];exact hp
       go_wp2_with (first
        |(go_at_call 98;refine qe.out.mono ?_;rintro e J ⟨rfl,Y⟩;have z8:J.cell? ⟨N+1,0,ob⟩=oa (Z U 0):=(Y.cell (p:=⟨N+1,0,ob⟩) px).trans z0;have f8:J.frozen? ⟨N+1,0,ob⟩=od:=(Y.frozen (p:=⟨N+1,0,ob⟩) px).trans f0;obtain⟨u1,u2,u3,u4,u5⟩:=sT.out J Y;have qk:=zH Y;clear Y)
        |(go_at_call 99;refine(av _ _ _).mono ?_;rintro e w9 ⟨rfl,rfl⟩))
       obtain⟨h3,h4⟩:=sL.out J 9 qk.out;refine⟨[D],rfl,by simp,by intro b hb;simp at hb;subst hb;exact h3,Z U 9,λw' o=> ?_⟩;obtain⟨G,y⟩:=h4 w' o;exact⟨bv _ _ _ _ rfl G,by rw[sX.out],by first|exact y|(rw[HN.out];exact y)⟩
end
end Go.Proofs.YtjomgckjhcfbgaaGreat
