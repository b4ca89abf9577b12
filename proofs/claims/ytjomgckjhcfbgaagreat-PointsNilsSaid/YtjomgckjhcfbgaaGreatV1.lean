/- Walks. -/
import Derived.Deep.QuietTactic
import Derived.BigQuiet
import Derived.Test.YtjomgckjhcfbgaaGreatV0
set_option maxRecDepth 100000
set_option maxHeartbeats 64000000
set_option linter.all false
namespace Go.Proofs.YtjomgckjhcfbgaaGreat
open Go.RowKit
open Go.Proofs.Tryz renaming prog→ac,underlying32→dg,underlying263→eK,underlying313→eV,underlying113→la,underlying40→nl
open Go.RowKit.Below renaming refl→an,heap_alloc→bt,heap_setCell→cH
open _root_ renaming ByteArray→ap,List→bh,Nat→bw,Int→ct,if_neg→cy,Array→cC,beq_eq_false_iff_ne→cL,if_pos→cQ,decide_eq_false→er,False→fW,absurd→gC,Bool→iv,decide_eq_true→kh,of_decide_eq_true→lO,decide_eq_true_eq→lP
open Go renaming heap_setCell_same→aq,Value→bo,run_storeCells_new→cf,cell_of_row→ci,storeCells→cM,bodyPost_ret→cP,results_cell_row→cV,maxLen→cX,Calls→et,heap_alloc2_old→eA,wpQuiet_nil→eC,TypeId→eJ,beq_toListBytes→fR,info_parts→iu
open Go.RowKit renaming Below→bj,Hid→cr,ownsRow_setCell_below→gr
open _root_.Nat renaming le_refl→bl,lt_of_lt_of_le→cg,le_trans→cv,zero_le→da,add_zero→ix
open Go.Value renaming oneCell'→bp,string→dj,int→dv,string→oe,slice→ot,pointer→ox,bool→oy,agg→oA,int→Z
open _root_.List renaming getElem?_eq_some_iff→ca,getElem?_eq_getElem→ce,length_append→cm,mem_append→cw,mem_of_getElem?→cA,flatMap_append→dk,take_length→dl,append_assoc→ef,map_append→em,any_eq_true→ie,any_eq_false→j9,append_nil→ki,take_add_one→kp
open Go.Exit renaming inBlock→cD
open _root_.Option.some renaming inj→cN
open _root_.Bool renaming and_eq_true→fk,true→oc,false→od
open _root_.Option renaming map_eq_some_iff→fS,some→oa,none→ob
open _root_.ByteArray renaming size_extract→kc
open Go.ByteArray renaming toList_eq→ld
open Go.Obj renaming cells→oB
open Go.Ending renaming returned→oE
open Go.IntKind renaming i64→U
open Tryz
def wX (k:ct)(s:ap)(n:ct):bo:= oA #[Z U k,oe s,Z U n,Z U 0,Z U 0]
theorem uP (s:ap)(i:bw)(w:World)(hs:s.size<=9000000)(hi:i<s.size)(hl:cK (bY s i)=oc)(pT:bu s (s.size-i) i<=i+40):
  zP 168 #[oe s,Z U (i:ct)] w (.tuple #[wX (if eF (s.extract i (bu s (s.size-i) i))=oc then 2 else 1) (s.extract i (bu s (s.size-i) i)) 0,Z U 0]):=by
 obtain⟨R,hR⟩:=zE (bu s (s.size-i) i);have ph:=dW s (s.size-i) i;rw[hR] at ph pT⊢;have qr:=ph.1;have qs:R<=s.size:=by omega
 obtain⟨J,pi⟩:=zE (eF (s.extract i R));rw[pi];obtain⟨kd,pj⟩:=zE ((if J=oc then 2 else 1):ct);rw[pj];have K:=zH (λW=>qM (s.extract i R) W);rw[pi] at K;have pw:=zH pj;have HR:=zH hR;have px:=gK hi;obtain⟨c,Y⟩:=zE (((s[i]'hi).toNat:ct):ct);have py:=zH (λW=>dK c W);have pB:cK c=oc:=by rw[<-Y,px];exact hl
 rw[pB] at py;have HC:=zH Y;have pZ:=zH λc W=>dK c W;have qe:cr (∀(c:ct)(W:World),zS 204 #[.int .u8 c] W (oy (fu c))):=λc W=>fT c W;obtain⟨N,hN⟩:=zE w.heap.size;obtain⟨W1,oR⟩:=zE (w.alloc (oB #[Z U 0,oe ⟨#[]⟩,Z U 0,Z U 0,Z U 0] 263));obtain⟨g,o⟩:=zE (W1.alloc (oB #[Z U 1,oe (s.extract i R),Z U 0,Z U 0,Z U 0] 263));have pD:=gq oR hN;have oX:W1.heap.size=N+1:=by rw[<-oR];simp[hN]
 have D:bj N w g:=by rw[<-o];exact pD.alloc (by omega) _
 have qk:g.heap.size=N+2:=by rw[<-o];simp[oX]
 have pH:g.heap[N]?=oa (oB #[Z U 0,oe ⟨#[]⟩,Z U 0,Z U 0,Z U 0] 263 (0,0)):=by rw[<-o,<-oR,<-hN];exact eA _ _ _
 have pL:g.heap[N+1]?=oa (oB #[Z U 1,oe (s.extract i R),Z U 0,Z U 0,Z U 0] 263 (0,0)):=by rw[<-o,<-oX];exact alloc_at _ _
 have G:cr (∀W,bj g.heap.size g W->W.heap[N]?=oa (oB #[Z U 0,oe ⟨#[]⟩,Z U 0,Z U 0,Z U 0] 263 (0,0))/\W.heap[N+1]?=oa (oB #[Z U 1,oe (s.extract i R),Z U 0,Z U 0,Z U 0] 263 (0,0))/\bj N w W):=λW hW=>
  ⟨(hW.block N (by omega)).trans pH,(hW.block (N+1) (by omega)).trans pL,D.trans (hW.mono (by omega))⟩
 have hst:∀(c:cC bo),c.size=5->(cM ⟨W1.heap.size,0,ob⟩ [Z U 1,oe (s.extract i R),Z U 0,Z U 0,Z U 0] 0).run ac (W1.alloc (oB c 263))= .ok () g:=λc Y=>by
  rw[<-o];exact cf (P:=ac) W1 263 c #[Z U 1,oe (s.extract i R),Z U 0,Z U 0,Z U 0] (by show _=oa 5;kernel_rfl) Y (by simp[bp])
 have pN:=zH hst;have pP:=zH oX;have qn:=zH oR;have oY:=zH o;have HN:=zH hN;clear hR ph pi pj px Y pB hl hst oR o pD D oX qk pH pL;go_enter func168,ntmps168
 go_wp2_with (go_at_call 203;(try rw[HC.out]);refine(py.out _).mono ?_;rintro e w2 ⟨rfl,rfl⟩)
 rw[qn.out]
 go_loop [6] (λk=>∃j:bw,j<=s.size/\k= Z U (j:ct)/\bu s (s.size-j) j=R) (λk=>s.size-(intOf k).toNat)
 case atStart=>exact⟨i,by omega,rfl,HR.out⟩
 case round=>
  obtain⟨j,hj,rfl,q⟩:=hrel;have pb:cr (bu s (s.size-j) j=j->j=R):=λh=>h.symm.trans q
  by_cases pk:j<s.size
  ·have qt:(j:ct)<(s.size:ct):=by omega
   obtain⟨c2,pl⟩:=zE (((s[j]'pk).toNat:ct):ct);have pm:bY s j=c2:=by rw[<-gK pk];exact pl
   have pn:s.size-j=s.size-(j+1)+1:=by omega
   have u:=zH pl;have oS:=zH (pZ.out c2);have pc:=zH (qe.out c2);obtain⟨lf,pd⟩:=zE (cK c2);obtain⟨df,pf⟩:=zE (fu c2);rw[pd] at oS;rw[pf] at pc;have po:cr ((lf||df)=oc->∃j':bw,j'<=s.size/\dv .i64 ((j:ct)+1)= Z U (j':ct)/\bu s (s.size-j') j'=R):=λh=>⟨j+1,pk,by simp,by
    rw[pn] at q;unfold bu at q;rw[pm,pd,pf,cQ h] at q;exact q⟩
   have pS:cr ((lf||df)=od->j=R):=λh=>pb.out (by
    rw[pn];unfold bu;rw[pm,pd,pf,h];simp)
   clear q pl pm pd pf pn pb;cases lf with
   |true=>
    go_wp2_with (go_at_call 203;(try rw[u.out]);refine(oS.out _).mono ?_;rintro e w4 ⟨rfl,rfl⟩)
    go_round
    case rel=>exact po.out rfl
    case measure=>simp[intOf];omega
   |false=>
    cases df with
    |true=>
     go_wp2_with (first
      |(go_at_call 203;(try rw[u.out]);refine(oS.out _).mono ?_;rintro e w4 ⟨rfl,rfl⟩)
      |(go_at_call 204;(try rw[u.out]);refine(pc.out _).mono ?_;rintro e w5 ⟨rfl,rfl⟩))
     go_round
     case rel=>exact po.out rfl
     case measure=>simp[intOf];omega
    |false=>
     obtain rfl:j=R:=pS.out rfl;clear po pS;obtain⟨a,b,D⟩:=G.out g (an _ _);obtain⟨⟨a0,a1,a2,a3,a4⟩,⟨b0,b1,b2,b3,b4⟩,oT⟩:=dm b;clear a b D;have hst:=pN.out;have qq:=pP.out;obtain rfl:kd=if J=oc then 2 else 1:=pw.out.symm
     cases J with
     |false=>
      go_wp2_with (first
       |(go_at_call 203;(try rw[u.out]);refine(oS.out _).mono ?_;rintro e w4 ⟨rfl,rfl⟩)
       |(go_at_call 204;(try rw[u.out]);refine(pc.out _).mono ?_;rintro e w5 ⟨rfl,rfl⟩)
       |(go_at_call 205;refine(K.out _).mono ?_;rintro e v ⟨rfl,d⟩;(try rw[oY.out] at d);obtain⟨a,b,f⟩:=G.out v d;obtain⟨⟨a0,a1,a2,a3,a4⟩,⟨b0,b1,b2,b3,b4⟩,oT⟩:=dm b;obtain⟨⟨g0,g1,g2,g3,g4⟩,⟨f0,f1,f2,f3,f4⟩,pp⟩:=dm a;have y:=zH a;have A:=zH f;clear d a b f))
      (try simp only[cD,Exit.then]);refine cP (aB rfl _ _ N 263 _ (0,0) _ rfl (fq y.out) eK (by kernel_rfl)) rfl ?_;(try rw[HN.out]);exact⟨rfl,dz A.out (bl _) _ _ _ _ _⟩
     |true=>
      go_wp2_with (first
       |(go_at_call 203;(try rw[u.out]);refine(oS.out _).mono ?_;rintro e w4 ⟨rfl,rfl⟩)
       |(go_at_call 204;(try rw[u.out]);refine(pc.out _).mono ?_;rintro e w5 ⟨rfl,rfl⟩)
       |(go_at_call 205;refine(K.out _).mono ?_;rintro e v ⟨rfl,d⟩;(try rw[oY.out] at d);obtain⟨a,b,f⟩:=G.out v d;obtain⟨⟨a0,a1,a2,a3,a4⟩,⟨b0,b1,b2,b3,b4⟩,oT⟩:=dm b;obtain⟨⟨g0,g1,g2,g3,g4⟩,⟨f0,f1,f2,f3,f4⟩,pp⟩:=dm a;have y:=zH a;have A:=zH f;clear d a b f))
      (try simp only[cD,Exit.then]);refine cP (aB rfl _ _ N 263 _ (0,0) _ rfl (fq ((cH _ _ _ N (by show N≠N+1;omega)).trans y.out)) eK (by kernel_rfl)) rfl ?_;(try rw[HN.out]);exact⟨rfl,dz (A.out.setCell (by show N<=N+1;omega) _) (bl _) _ _ _ _ _⟩
  ·obtain rfl:j=s.size:=by omega
   obtain rfl:s.size=R:=pb.out (by rw[Nat.sub_self];rfl);clear q pb;obtain⟨a,b,D⟩:=G.out g (an _ _);obtain⟨⟨a0,a1,a2,a3,a4⟩,⟨b0,b1,b2,b3,b4⟩,oT⟩:=dm b;clear a b D;have hst:=pN.out;have qq:=pP.out;obtain rfl:kd=if J=oc then 2 else 1:=pw.out.symm
   cases J with
   |false=>
    go_wp2_with (first
     |(go_at_call 205;refine(K.out _).mono ?_;rintro e v ⟨rfl,d⟩;(try rw[oY.out] at d);obtain⟨a,b,f⟩:=G.out v d;obtain⟨⟨a0,a1,a2,a3,a4⟩,⟨b0,b1,b2,b3,b4⟩,oT⟩:=dm b;obtain⟨⟨g0,g1,g2,g3,g4⟩,⟨f0,f1,f2,f3,f4⟩,pp⟩:=dm a;have y:=zH a;have A:=zH f;clear d a b f))
    (try simp only[cD,Exit.then]);refine cP (aB rfl _ _ N 263 _ (0,0) _ rfl (fq y.out) eK (by kernel_rfl)) rfl ?_;(try rw[HN.out]);exact⟨rfl,dz A.out (bl _) _ _ _ _ _⟩
   |true=>
    go_wp2_with (first
     |(go_at_call 205;refine(K.out _).mono ?_;rintro e v ⟨rfl,d⟩;(try rw[oY.out] at d);obtain⟨a,b,f⟩:=G.out v d;obtain⟨⟨a0,a1,a2,a3,a4⟩,⟨b0,b1,b2,b3,b4⟩,oT⟩:=dm b;obtain⟨⟨g0,g1,g2,g3,g4⟩,⟨f0,f1,f2,f3,f4⟩,pp⟩:=dm a;have y:=zH a;have A:=zH f;clear d a b f))
    (try simp only[cD,Exit.then]);refine cP (aB rfl _ _ N 263 _ (0,0) _ rfl (fq ((cH _ _ _ N (by show N≠N+1;omega)).trans y.out)) eK (by kernel_rfl)) rfl ?_;(try rw[HN.out]);exact⟨rfl,dz (A.out.setCell (by show N<=N+1;omega) _) (bl _) _ _ _ _ _⟩
theorem sK (s:ap)(i:bw)(w:World)(hs:s.size<=9000000)(Y:i+1<s.size)(v:cK (bY s i)=od)(o:fu (bY s i)=oc)(y:cK (bY s (i+1))=od)(A:fu (bY s (i+1))=od):
  zP 168 #[oe s,Z U (i:ct)] w (.tuple #[wX 3 (s.extract i (i+1)) (bY s i-48),Z U 0]):=by
 have g:i<s.size:=by omega
 have oR:=gK g;have oS:=gK Y;obtain⟨c,D⟩:=zE (((s[i]'g).toNat:ct):ct);obtain⟨d,G⟩:=zE (((s[i+1]'Y).toNat:ct):ct);rw[<-oR,D] at v o⊢;rw[<-oS,G] at y A;have oT:=zH (λW=>dK c W);have J:=zH (λW=>fT c W);have oX:=zH (λW=>dK d W);have oY:=zH (λW=>fT d W);rw[v] at oT;rw[o] at J;rw[y] at oX;rw[A] at oY;have h:=zH D;have HD:=zH G;obtain⟨pn,po⟩:=(qb c).1 o;obtain⟨N,j⟩:=zE w.heap.size;obtain⟨a,b⟩:=zE (w.alloc (oB #[Z U 0,oe ⟨#[]⟩,Z U 0,Z U 0,Z U 0] 263));obtain⟨q,f⟩:=zE (a.alloc (oB #[Z U 3,oe (s.extract i (i+1)),Z U (c-48),Z U 0,Z U 0] 263));have K:=gq b j;have R:a.heap.size=N+1:=by rw[<-b];simp[j]
 have pf:bj N w q:=by rw[<-f];exact K.alloc (by omega) _
 have pb:q.heap[N]?=oa (oB #[Z U 0,oe ⟨#[]⟩,Z U 0,Z U 0,Z U 0] 263 (0,0)):=by rw[<-f,<-b,<-j];exact eA _ _ _
 have pc:q.heap[N+1]?=oa (oB #[Z U 3,oe (s.extract i (i+1)),Z U (c-48),Z U 0,Z U 0] 263 (0,0)):=by rw[<-f,<-R];exact alloc_at _ _
 have hst:∀(u:cC bo),u.size=5->(cM ⟨a.heap.size,0,ob⟩ [Z U 3,oe (s.extract i (i+1)),Z U (c-48),Z U 0,Z U 0] 0).run ac (a.alloc (oB u 263))= .ok () q:=λu ph=>by
  rw[<-f];exact cf (P:=ac) a 263 u #[Z U 3,oe (s.extract i (i+1)),Z U (c-48),Z U 0,Z U 0] (by show _=oa 5;kernel_rfl) ph (by simp[bp])
 have pp:=zH hst;have pi:=zH R;have pj:=zH b;have HN:=zH j;have pk:=zH K;have pw:=zH pb;have pd:cr (a.heap[N]?=oa (oB #[Z U 0,oe ⟨#[]⟩,Z U 0,Z U 0,Z U 0] 263 (0,0))):=by unfold cr;rw[<-b,<-j];exact alloc_at _ _
 have px:=zH f;have py:=zH pc;clear v o y A oR oS D G hst b f K pf R pb pc;go_enter func168,ntmps168
 go_wp2_with (first
  |(go_at_call 203;(try rw[h.out]);refine(oT.out _).mono ?_;rintro e w2 ⟨rfl,rfl⟩)
  |(go_at_call 204;(try rw[h.out]);refine(J.out _).mono ?_;rintro e w2 ⟨rfl,rfl⟩))
 rw[pj.out]
 go_loop [6,8] (λk n=>(k= Z U (i:ct)/\n= Z U 0)\/(k= Z U ((i:ct)+1)/\n= Z U (c-48))) (λk _=>i+1-(intOf k).toNat)
 case atStart=>exact .inl ⟨rfl,rfl⟩
 case round=>
  have pB:(i:ct)<(s.size:ct):=by omega
  have pD:(i:ct)+1<(s.size:ct):=by omega
  rcases hrel with⟨rfl,rfl⟩|⟨rfl,rfl⟩
  ·have pl:=h.out
   have pH:48<=((s[i]'g).toNat:ct):=by omega
   have pL:((s[i]'g).toNat:ct)<=57:=by omega
   clear pl
   go_wp2_with (go_at_call 204;(try rw[h.out]);refine(J.out _).mono ?_;rintro e w2 ⟨rfl,rfl⟩)
   go_round
   case rel=>exact .inr ⟨rfl,by rw[h.out]⟩
   case measure=>simp[intOf]
  ·obtain⟨⟨g0,g1,g2,g3,g4⟩,⟨f0,f1,f2,f3,f4⟩,pN⟩:=dm pd.out
   have pP:=pi.out;have h1:(i:ct)+1-(i:ct)=1:=by omega
   have pm:¬(2147483647<c-48):=by omega
   have pS:decide (2147483647<c-48)=od:=by simpa using pm
   obtain⟨bz,pT⟩:=zE (((s[i]'g).toNat:ct)==48);cases bz<;>(
    go_wp2_with (first
     |(go_at_call 203;(try rw[HD.out]);refine(oX.out _).mono ?_;rintro e w2 ⟨rfl,rfl⟩)
     |(go_at_call 204;(try rw[HD.out]);refine(oY.out _).mono ?_;rintro e w2 ⟨rfl,rfl⟩))
    (try simp only[cD,Exit.then]);refine cP (aB rfl _ _ N 263 _ (0,0) _ rfl ((bt _ _ N (by simp;omega)).trans (fq pd.out)) eK (by kernel_rfl)) rfl ?_;(try rw[HN.out]);exact⟨rfl,(dz pk.out (bl _) _ _ _ _ _).alloc (by simp;omega) _⟩)
theorem oP (w:World):et ac 206 #[] w λe w'=>e= oE (ot (oa ⟨w.heap.size,0,ob⟩) 20 20)/\w'=w.alloc (oB (dw.map dj).toArray 9):=by
 have a:(dw.map dj).toArray=#[oe ⟨#[45,62]⟩,oe ⟨#[60,61]⟩,oe ⟨#[62,61]⟩,oe ⟨#[61,61]⟩,oe ⟨#[33,61]⟩,oe ⟨#[43]⟩,oe ⟨#[45]⟩,oe ⟨#[42]⟩,oe ⟨#[47]⟩,oe ⟨#[37]⟩,oe ⟨#[60]⟩,oe ⟨#[62]⟩,oe ⟨#[33]⟩,oe ⟨#[61]⟩,oe ⟨#[40]⟩,oe ⟨#[41]⟩,oe ⟨#[123]⟩,oe ⟨#[125]⟩,oe ⟨#[44]⟩,oe ⟨#[59]⟩]:=rfl;rw[a];clear a;go_enter func206,ntmps206;go_wp2;go_ret;exact⟨rfl,rfl⟩
theorem qO:∀x∈dw,x.size<=2:=by decide
theorem mP {α:Type}{p:α->iv}:∀{l:bh α}{g:α},l.find? p=oa g->∃q:bw,l[q]?=oa g/\p g=oc/\∀(j:bw)(y:α),j<q->l[j]?=oa y->p y=od
 |[],_,h=>by simp at h
 |a::l,g,h=>by
  by_cases b:p a=oc
  ·rw[List.find?_cons_of_pos b] at h
   obtain rfl:a=g:=by simpa using h
   exact⟨0,rfl,b,λj y d=>gC d (Nat.not_lt_zero _)⟩
  ·rw[List.find?_cons_of_neg b] at h
   obtain⟨q,o,u,v⟩:=mP h;refine⟨q+1,by simpa using o,u,λj y d f=> ?_⟩;cases j with
   |zero=>
    have e:a=y:=by simpa using f
    rw[<-e];simpa using b
   |succ j=>exact v j y (by omega) (by simpa using f)
theorem uQ (s g:ap)(i:bw)(w:World)(hs:s.size<=9000000)(hi:i<s.size)(A:cK (bY s i)=od)(D:fu (bY s i)=od)(hg:dw.find? (dL s i)=oa g):
  zP 168 #[oe s,Z U (i:ct)] w (.tuple #[wX 4 g 0,Z U 0]):=by
 have oT:=gK hi;obtain⟨c,G⟩:=zE (((s[i]'hi).toNat:ct):ct);rw[<-oT,G] at A D;have oX:=zH (λW=>dK c W);have oY:=zH (λW=>fT c W);rw[A] at oX;rw[D] at oY;have HC:=zH G;obtain⟨q,J,pb,pc⟩:=mP hg;have pD:q<20:=(ca.1 J).1;obtain⟨N,K⟩:=zE w.heap.size;obtain⟨R,f⟩:=zE (w.alloc (oB #[Z U 0,oe ⟨#[]⟩,Z U 0,Z U 0,Z U 0] 263));obtain⟨a,o⟩:=zE (R.alloc (oB (dw.map dj).toArray 9));have pd:=gq f K;have Y:R.heap.size=N+1:=by rw[<-f];simp[K]
 have pf:bj N w a:=by rw[<-o];exact pd.alloc (by omega) _
 have ph:a.heap[N]?=oa (oB #[Z U 0,oe ⟨#[]⟩,Z U 0,Z U 0,Z U 0] 263 (0,0)):=by rw[<-o,<-f,<-K];exact eA _ _ _
 have pi:a.heap[N+1]?=oa (oB (dw.map dj).toArray 9 (0,0)):=by rw[<-o,<-Y];exact alloc_at _ _
 have pl:cr (∀(j:bw)(x:ap),dw[j]?=oa x->a.cell? ⟨N+1,j,ob⟩=oa (oe x)):=λj x hx=>by
  rw[ci _ _ _ _ _ _ pi];simp[hx]
 have pj:=zH (oP R);rw[Y,o] at pj;have pm:=zH f;have pk:=zH ph;have pn:=zH pf;have HQ:=zH J;have po:=zH pb;have pp:=zH pc;have pw:cr (∀x∈dw,x.size<=2):=qO;have px:cr (dw.length=20):=rfl;clear A D oT G J pb pc hg f o pd pf Y ph pi;go_enter func168,ntmps168
 go_wp2_with (first
  |(go_at_call 203;(try rw[HC.out]);refine(oX.out _).mono ?_;rintro e w2 ⟨rfl,rfl⟩)
  |(go_at_call 204;(try rw[HC.out]);refine(oY.out _).mono ?_;rintro e w2 ⟨rfl,rfl⟩)
  |(go_at_call 206;rw[pm.out];refine pj.out.mono ?_;rintro e a ⟨rfl,rfl⟩))
 go_loopw [11] (λk wr=>∃j:bw,j<=q/\k= Z U (j:ct)/\∃n,wr=a.drewN n) (λk _=>20-(intOf k).toNat)
 case atStart=>exact⟨0,da _,rfl,0,rfl⟩
 case round=>
  obtain⟨j,hj,rfl,n,rfl⟩:=hrel;have py:j<20:=by omega
  have pH:(j:ct)<20:=by omega
  obtain⟨y,b⟩:∃y,dw[j]?=oa y:=⟨_,ce (by rw[px.out];exact py)⟩
  have pL:y.size<=2:=pw.out y (cA b);have d1:=pl.out j y b;have v:cr (dL s i y=od->∀m:bw,∃j':bw,j'<=q/\dv .i64 ((j:ct)+1)= Z U (j':ct)/\∃n,a.drewN m=a.drewN n):=λh m=>⟨j+1,by
   by_cases e:j=q
   ·subst e
    have e2:y=g:=by have:=HQ.out;rw[b] at this;simpa using this
    rw[e2,po.out] at h;cases h
   ·omega,by simp,m,rfl⟩
  have oR:cr (dL s i y=oc->y=g):=λh=>by
   by_cases e:j=q
   ·subst e
    have:=HQ.out;rw[b] at this;simpa using this
   ·have:=pp.out j y (by omega) b
    rw[h] at this;cases this
  clear b
  by_cases h1:y.size<=s.size-i
  ·have d:(y.size:ct)<=(s.size:ct)-(i:ct):=by omega
   have pB:decide ((y.size:ct)<=(s.size:ct)-(i:ct))=oc:=by simpa using d
   obtain⟨be,oS⟩:=zE (s.extract i (i+y.size)==y);have u:dL s i y=be:=by unfold dL;rw[oS,kh h1];rfl
   rw[u] at v oR;have pN:((s.extract i (i+y.size)).toList==y.toList)=be:=by rw[<-fR];exact oS
   have pP:(i:ct)+(y.size:ct)<=(s.size:ct):=by omega
   clear oS u;cases be with
   |false=>
    clear d
    go_upto_region 26 with(fail)
    go_quiet (fail)
    go_wp2;go_roundw
    case rel=>exact v.out rfl _
    case measure=>simp[intOf];omega
   |true=>
    obtain rfl:y=g:=oR.out rfl;obtain⟨⟨a0,a1,a2,a3,a4⟩,⟨b0,b1,b2,b3,b4⟩,pS⟩:=dm pk.out;clear d
    go_upto_region 26 with(fail)
    go_quiet (fail)
    go_wp2;(try simp only[cD,Exit.then]);refine cP (aB rfl _ _ N 263 _ (0,0) _ rfl (fq (pk.out)) eK (by kernel_rfl)) rfl ?_;(try rw[HN.out]);exact⟨rfl,dz (lm pn.out _) (bl _) _ _ _ _ _⟩
  ·have d:¬(y.size:ct)<=(s.size:ct)-(i:ct):=by omega
   have pB:decide ((y.size:ct)<=(s.size:ct)-(i:ct))=od:=by simpa using d
   have u:dL s i y=od:=by unfold dL;rw[er h1];rfl
   rw[u] at v oR;clear u d h1
   go_upto_region 26 with(fail)
   go_quiet (fail)
   go_wp2;go_roundw
   case rel=>exact v.out rfl _
   case measure=>simp[intOf];omega
theorem sM:∀x∈dw,0<x.size:=by decide
theorem wY {s:ap}{i:bw}{t:uH}(d:i<s.size)(h:uN s i=oa t):i+t.2.1.size<=s.size/\0<t.2.1.size:=by
 unfold uN at h
 split at h
 ·rename_i b
  split at h
  ·obtain rfl:=cN h
   have:=dW s (s.size-i) i;have f:i+1<=bu s (s.size-i) i:=by
    rw[show s.size-i=s.size-i-1+1 by omega];unfold bu;rw[b,Bool.true_or,cQ rfl];exact(dW s _ _).1
   simp only[kc];omega
  ·cases h
 ·split at h
  ·split at h
   ·obtain rfl:=cN h
    simp only[kc];omega
   ·cases h
  ·obtain⟨g,a,rfl⟩:=fS.1 h
   have j:=sM g (List.mem_of_find?_eq_some a);have:=(List.find?_some a)
   unfold dL at this;rw[fk] at this;have:=lO this.1
   show i+g.size<=s.size/\0<g.size
   omega
theorem sN (s:ap)(i:bw)(t:uH)(w:World)(a:s.size<=9000000)(j:i<s.size)(h:uN s i=oa t):
  zP 168 #[oe s,Z U (i:ct)] w (.tuple #[wX t.1 t.2.1 t.2.2,Z U 0]):=by
 unfold uN at h
 split at h
 ·rename_i b
  split at h
  ·rename_i u
   obtain rfl:=cN h;exact uP s i w a j b u
  ·cases h
 ·rename_i b
  have o:cK (bY s i)=od:=by simpa using b
  split at h
  ·rename_i d
   split at h
   ·rename_i q
    obtain rfl:=cN h;have f:=q.2;rw[Bool.or_eq_false_iff] at f;exact sK s i w a q.1 o d f.2 f.1
   ·cases h
  ·rename_i d
   obtain⟨g,v,rfl⟩:=fS.1 h;exact uQ s g i w a j o (by simpa using d) v
theorem yc:(ac.info? 263).map (λi=>(i.zero,i.size,i.bytes))=oa (oa (oA #[Z U 0,oe ⟨#[]⟩,Z U 0,Z U 0,Z U 0]),5,48):=by kernel_rfl
def oQ (t:Tok):bh bo:=t.cells.toList
theorem aD {w:World}{base a:bw}{e:eJ}{size n:bw}{v:bo}{xs:bh bo}(h:w.ownsRow base e size v n xs)(hb:a<=base):w.ownsRow a e size v n xs:=by
 refine⟨h.1, ?_⟩;rcases h.2 with h|⟨g,cap,cur,b,f,d⟩
 ·exact .inl h
 ·exact .inr ⟨g,cap,cur,b,by omega,d⟩
def wZ (w:World)(l:bh uH)(e:Ending)(w':World):Prop:=
 ∃(v:bo) (T:bh Tok),e= oE (.tuple #[v,oA #[Z U 0,Z U 0,Z U 0,Z U 0]])/\w'.ownsRow w.heap.size 263 5 v T.length (T.flatMap oQ)/\T.map Tok.sig=l++[(5,⟨#[]⟩,0)]/\bj w.heap.size w w'
def yf (s:ap)(N:bw)(w:World)(R:bh uH)(A k:bw)(v:bo)(wr:World):Prop:=
 ∃(T:bh Tok) (l:bh uH) (n:bw) (a b:ct),k<=s.size/\iP s n k=oa l/\R=T.map Tok.sig++l/\T.length<=k/\wr.ownsRow (A+1) 263 5 v T.length (T.flatMap oQ)/\
  wr.heap[A]?=oa (oB #[Z U a,Z U b] 40 (0,0))/\wr.heap[N]?=oa (oB #[Z U 0,Z U 0,Z U 0,Z U 0] 113 (0,0))/\bj N w wr
theorem qP (s:ap)(R:bh uH)(n0:bw)(w:World)(hs:s.size<=1000000)(qq:jN s)(h0:s.size≠0)(hR:iP s n0 (dD s s.size 0)=oa R):
  et ac 128 #[oe s] w (wZ w R):=by
 obtain⟨N,hN⟩:=zE w.heap.size;have pp:s.size<=9000000:=by omega
 have qr:cr (∀(i:bw)(W:World),i<=s.size->zS 166 #[oe s,Z U (i:ct)] W (Z U (dD s (s.size-i) i:bw))):=λi W hi=>qN s i W qq pp hi;have qs:cr (∀(s:ap)(n:bw)(w:World),s.size<=9000000->n<=s.size->et ac 167 #[oe s,Z U (n:ct)] w (wG w)):=oO;have ti:cr (∀(i:bw)(t:uH)(w:World),i<s.size->uN s i=oa t->zP 168 #[oe s,Z U (i:ct)] w (.tuple #[wX t.1 t.2.1 t.2.2,Z U 0])):=λi t w hi h=>sN s i t w pp hi h;have ph:=qr.out 0;rw[Nat.sub_zero] at ph;obtain⟨k0,pw⟩:=zE (dD s s.size 0);rw[pw] at ph hR;have oR:=iO s s.size 0;rw[pw] at oR;have qt:k0<=s.size:=by omega
 have qu:=zH ph;obtain⟨W1,oY⟩:=zE (w.alloc (oB #[Z U 0,Z U 0,Z U 0,Z U 0] 113));have qv:=gq oY hN;have qS:W1.heap.size=N+1:=by rw[<-oY];simp[hN]
 have qT:W1.heap[N]?=oa (oB #[Z U 0,Z U 0,Z U 0,Z U 0] 113 (0,0)):=by rw[<-oY,<-hN];exact alloc_at _ _
 have ra:=zH oY;have rb:=zH qv;have pi:=zH qS;have rc:=zH qT;have HR:=zH hR;have HN:=zH hN;have vd:decide (1048576<(s.size:ct))=od:=by rw[decide_eq_false_iff_not];omega
 clear qq ph pw oR oY qv qS qT hR;go_enter func128,ntmps128
 go_upto_region 5 with(go_at_call 166;refine(qu.out _ (da _)).mono ?_;rintro e w2 ⟨rfl,rfl⟩)
 rw[ra.out];have hst:∀(w:World)(a b:ct)(c:cC bo),c.size=2->(cM ⟨w.heap.size,0,ob⟩ [Z U a,Z U b] 0).run ac (w.alloc (oB c 40))= .ok () (w.alloc (oB #[Z U a,Z U b] 40)):=λw a b c hc=>
  cf (P:=ac) w 40 c #[Z U a,Z U b] (by show _=oa 2;kernel_rfl) hc (by simp[bp])
 have re:=zH hst;clear hst
 go_upto_region 6 with(go_at_call 167;refine(qs.out s k0 _ pp qt).mono ?_;rintro e w3 ⟨a,b,rfl,rh,ha,rj,hb,rk⟩;have px:=zH rk;clear rk;have tj:=re.out w3 a b)
 clear tj;obtain⟨A,hA⟩:=zE w3.heap.size;obtain⟨W4,pj⟩:=zE (w3.alloc (oB #[Z U a,Z U b] 40));rw[hA,pj];have vf:N+1<=A:=by rw[<-hA,<-pi.out];exact px.out.size
 have Y:W4.heap[A]?=oa (oB #[Z U a,Z U b] 40 (0,0)):=by rw[<-pj,<-hA];exact alloc_at _ _
 have py:=zD pj px;have rl:yf s N w R A k0 (ot ob 0 0) W4:=⟨[],R,n0,a,b,qt,HR.out,rfl,da _,World.ownsRow_nil _ _ _ _,Y,(py.block N (by have:=pi.out;omega)).trans rc.out,rb.out.trans (py.mono (by have:=pi.out;omega))⟩
 have tl:=zH rl;clear hA pj Y py rl px HR ra rb pi rc qu rh ha rj hb
 go_loopw [4,5] (λv k wr=>∃j:bw,k= Z U (j:ct)/\yf s N w R A j v wr) (λ_ k _=>s.size-(intOf k).toNat)
 case atStart=>exact⟨k0,rfl,tl.out⟩
 case round=>
  obtain⟨j,rfl,T,l,n,g,o,hj,hl,rm,vh,rn,Y,pk,ro⟩:=hrel;have tm:A+1<=wr.heap.size:=aa Y;have vi:T.length<=1000000:=by omega
  obtain⟨a0,a1⟩:=bg Y;obtain⟨c0,c1⟩:=ji pk;obtain⟨⟨p0,p1⟩,⟨q0,q1⟩,vj⟩:=bg Y;obtain⟨⟨e0,e1,e2,e3⟩,⟨f0,f1,f2,f3⟩,tn⟩:=ji pk;clear a0 a1 c0 c1;have J:=zH rn;have rr:=zH Y;have rv:=zH pk;have rx:=zH ro;have rB:=zH rm;have HL:=zH hl;obtain⟨i0,rI,rK,rL,rN⟩:=iu yc;clear rn Y pk ro rm hl
  by_cases pl:j<s.size
  ·have tp:(j:ct)<(s.size:ct):=by omega
   obtain⟨K,l2,n2,pB,pm,rS⟩:∃K l2 n2,uN s j=oa K/\iP s n2 (dD s (s.size-(j+K.2.1.size)) (j+K.2.1.size))=oa l2/\l=K::l2:=by
    have:=HL.out;cases n with
    |zero=>simp[iP] at this
    |succ n=>
     unfold iP at this;rw[cQ pl] at this
     split at this
     ·rename_i K tr
      obtain⟨l2,h1,h2⟩:=fS.1 this;exact⟨K,l2,n,tr,h1,h2.symm⟩
     ·cases this
   have se:=wY pl pB;have tt:=zH (ti.out j K wr pl pB);obtain⟨u,q,D⟩:=K;obtain⟨z,hz⟩:=zE q.size;simp only[hz] at se pm;obtain⟨tv,vm⟩:=se;obtain⟨f,sf⟩:=zE (dD s (s.size-(j+z)) (j+z));have oR:=iO s (s.size-(j+z)) (j+z);have pn:=qr.out (j+z);rw[sf] at pn pm oR;rw[Int.natCast_add] at pn;have tz:f<=s.size:=by omega
   have vn:j+z<=f:=oR.1;have tA:=zH pn;have tB:=zH pm;have tD:=zH rS;have HZ:=zH hz;clear pn pm rS oR sf pB;have hst:∀(w:World)(c:cC bo),c.size=5->(cM ⟨w.heap.size,0,ob⟩ [Z U u,oe q,Z U D,Z U 0,Z U 0] 0).run ac (w.alloc (oB c 263))= .ok () (w.alloc (oB #[Z U u,oe q,Z U D,Z U 0,Z U 0] 263)):=λw c hc=>
    cf (P:=ac) w 263 c #[Z U u,oe q,Z U D,Z U 0,Z U 0] (by show _=oa 5;kernel_rfl) hc (by simp[bp])
   have tE:=zH hst;clear hst
   go_upto_region 10 with(go_at_call 168;refine tt.out.mono ?_;rintro e w2 ⟨rfl,sg⟩;have pD:=zH sg;clear sg;have tG:=tE.out w2;unfold wX)
   clear tG;obtain⟨G,hG⟩:=zE w2.heap.size;obtain⟨W5,pb⟩:=zE (w2.alloc (oB #[Z U u,oe q,Z U D,Z U 0,Z U 0] 263));rw[hG,pb];have vp:wr.heap.size<=G:=by rw[<-hG];exact pD.out.size
   have pH:=zD pb pD;have sk:W5.heap.size=G+1:=by rw[<-pb,<-hG];simp
   have pL:W5.heap[G]?=oa (oB #[Z U u,oe q,Z U D,Z U 0,Z U 0] 263 (0,0)):=by rw[<-pb,<-hG];exact alloc_at _ _
   have pN:=(pH.block A tm).trans rr.out;obtain⟨⟨p0,p1⟩,⟨q0,q1⟩,hA5⟩:=bg pN;obtain⟨⟨g0,g1,g2,g3,g4⟩,⟨f0,f1,f2,f3,f4⟩,vq⟩:=dm pL;have tM:=zH pH;have tP:=zH pL;have vr:=zH pN;clear hG pb pH pL pN pD
   go_upto_region 11 with(fail)
   obtain⟨W6,pc⟩:=zE ((W5.setCell ⟨G,3,ob⟩ (Z U g)).setCell ⟨G,4,ob⟩ (Z U o));rw[pc];have sn:Ext (·=G) W5 W6:=by rw[<-pc];exact(Ext.set1 W5 G 3 _).trans (Ext.set1 _ G 4 _) (λk d=> .inl d)
   have pP:W6.heap[G]?=oa (oB #[Z U u,oe q,Z U D,Z U g,Z U o] 263 (0,0)):=by
    rw[<-pc];have h1:=aq W5 G 3 _ _ (Z U g) tP.out;have h2:=aq _ G 4 _ _ (Z U o) h1;exact h2
   have tR:W6.heap.size=G+1:=by rw[<-pc];simp[sk]
   have pd:Ext (·=G) wr W6:=(Ext.of_below_size tM.out).trans sn (λk d=> .inl d);have so:W6.ownsRow (A+1) 263 5 u4 T.length (T.flatMap oQ):=af J.out pd (λk d=>by have:=(ah J.out d).2;omega);have sq:=pd.heap rr.out (by omega);have sr:=pd.heap rv.out (by omega);have tS:=zH pd;have tU:=zH pP;have sx:=zH so;have tW:=zH sq;have ua:=zH sr;obtain⟨⟨g0,g1,g2,g3,g4⟩,⟨f0,f1,f2,f3,f4⟩,vt⟩:=dm pP;clear pc sn pP pd so sq sr p0 p1 q0 q1 sk
   go_upto_region 12 with(at_builtin;refine dZ rfl (.tmp 39) (.tmp 41) 226 rfl (A+1) 263 i0 _ 5 48 underlying226 rI rK rL rN rfl (by decide) _ T.length (T.flatMap oQ) rfl sx.out (G+1) #[Z U u,oe q,Z U D,Z U g,Z U o] tR.symm rfl rfl (by simp[bp]) (by unfold cX;omega) (by omega) (by omega) ?_;intro v7 w7 oS oT pS;have pT:=zH oS;have oX:=zH oT;clear oS oT pS)
   have oS:=sx.out;have sy:=oX.out.heap tU.out (λh=>by have:=(ah J.out h).2;omega);have sB:=oX.out.heap tW.out (λh=>by have:=(ah J.out h).1;omega);have sE:=oX.out.heap ua.out (λh=>by have:=(ah J.out h).1;omega);obtain⟨⟨g0,g1,g2,g3,g4⟩,⟨f0,f1,f2,f3,f4⟩,vu⟩:=dm sy;have vx:A+1<=w7.heap.size:=by omega
   have ub:=zH sB;have uc:=zH sE;clear sy sB sE;have ud:s.extract j f=s.extract j f:=rfl;have ue:(s.extract j f).size=f-j:=by rw[kc];omega
   have pZ:=qs.out (s.extract j f) (f-j) w7 (by omega) (by omega);rw[Int.ofNat_sub (by omega)] at pZ;have ur:=zH pZ;have vy:(j:ct)<=(f:ct):=by omega
   have wa:(f:ct)<=(s.size:ct):=by omega
   clear ud ue pZ
   go_upto_region 14 with(first
    |(go_at_call 166;refine(tA.out _ tv).mono ?_;rintro e w8 ⟨rfl,rfl⟩)
    |(go_at_call 167;refine ur.out.mono ?_;rintro e w8 ⟨a2,b2,rfl,rh,ha,rj,hb,sL⟩;have qe:=zH sL;clear sL;have us:=re.out w8 a2 b2))
   clear us;obtain⟨C,hC⟩:=zE w8.heap.size;obtain⟨W9,po⟩:=zE (w8.alloc (oB #[Z U a2,Z U b2] 40));rw[hC,po];have pf:=zD po qe;have wb:w7.heap.size<=C:=by rw[<-hC];exact qe.out.size
   have sR:W9.heap[C]?=oa (oB #[Z U a2,Z U b2] 40 (0,0)):=by rw[<-po,<-hC];exact alloc_at _ _
   have qk:=(pf.block A (by omega)).trans ub.out;have sT:=(pf.block N (by omega)).trans uc.out;obtain⟨⟨p0,p1⟩,⟨q0,q1⟩,hA9⟩:=bg qk;obtain⟨⟨r0,r1⟩,⟨s0,s1⟩,we⟩:=bg sR;have sX:=ownsRow_below pT.out pf;have sY:=zH sX;have ta:=zH qk;have uv:=zH sT;have tc:bj N w W9:=rx.out.trans ((tS.out.below (by omega) (λk d=>by omega)).trans ((oX.out.below (by omega) (λk d=>by have:=(ah J.out d).1;omega)).trans (pf.mono (by omega))));have ux:=zH tc;have te:(T++[(⟨u,q,D,g,o⟩:Tok)]).flatMap oQ=T.flatMap oQ++[Z U u,oe q,Z U D,Z U g,Z U o]:=by rw[dk];rfl
   have tf:cr (∀(x y:ct)(W:World),Ext (·=A) W9 W->W.heap[A]?=oa (oB #[Z U x,Z U y] 40 (0,0))->yf s N w R A f v7 W):=λx y W hx hA=>
    ⟨T++[⟨u,q,D,g,o⟩],l2,n2,x,y,tz,tB.out,by rw[rB.out,tD.out,em,ef];rfl,by rw[cm];simp;omega,
     by rw[te,cm];exact af sY.out hx (λk d=>by have:=(ah sY.out d).1;omega),hA,hx.heap uv.out (by omega),ux.out.trans (hx.below (by omega) (λk d=>by omega))⟩
   clear hC po pf sR qk sT sX tc te qe
   by_cases wg:1<a2
   ·go_wp2
    go_roundw
    case rel=>exact⟨f,rfl,tf.out _ _ _ ((Ext.set1 W9 A 0 _).trans (Ext.set1 _ A 1 _) (λk d=> .inl d)) (aN ta.out)⟩
    case measure=>simp[intOf];omega
   ·go_wp2
    go_roundw
    case rel=>exact⟨f,rfl,tf.out _ _ _ (Ext.set1 W9 A 1 _) (aq W9 A 1 _ _ _ ta.out)⟩
    case measure=>simp[intOf];omega
  ·have tp:¬(j:ct)<(s.size:ct):=by omega
   have th:l=[]:=by
    have:=HL.out;cases n with
    |zero=>simp[iP] at this
    |succ n=>unfold iP at this;rw[cy pl] at this;simpa using this.symm
   have va:=zH th;clear th
   go_wp2_with (at_builtin;refine dZ rfl (.tmp 78) (.tmp 81) 226 rfl (A+1) 263 i0 _ 5 48 underlying226 rI rK rL rN rfl (by decide) _ T.length (T.flatMap oQ) rfl J.out wr.heap.size #[Z U 5,oe ⟨#[]⟩,Z U 0,Z U g,Z U o] rfl rfl rfl (by simp[bp]) (by unfold cX;omega) (by omega) (by omega) ?_;intro v7 w7 oS oT pS;have pT:=zH oS;have oX:=zH oT;have qn:=oT.heap rv.out (λh=>by have:=(ah J.out h).1;omega);obtain⟨⟨e0,e1,e2,e3⟩,⟨f0,f1,f2,f3⟩,tn⟩:=ji qn;have vc:=zH qn;clear oS oT pS qn)
   (try simp only[cD,Exit.then]);refine cP (dY rfl _ _ N 113 _ (0,0) _ rfl (fe vc.out) la (by kernel_rfl)) rfl ?_;refine⟨v7,T++[⟨5,⟨#[]⟩,0,g,o⟩],rfl, ?_, ?_, ?_⟩
   ·rw[HN.out]
    have h1:=pT.out;rw[show(T++[(⟨5,⟨#[]⟩,0,g,o⟩:Tok)]).flatMap oQ=T.flatMap oQ++[Z U 5,oe ⟨#[]⟩,Z U 0,Z U g,Z U o] by rw[dk];rfl,cm];exact aD (gr (gr (gr (gr h1 (by show N<_;omega) _) (by show N<_;omega) _) (by show N<_;omega) _) (by show N<_;omega) _) (by omega)
   ·rw[em,rB.out,va.out,ki];rfl
   ·rw[HN.out]
    exact mO (rx.out.trans (oX.out.below (by omega) (λk d=>by have:=(ah J.out d).1;omega))) (bl _) _ _ _ _
structure Rd (r lb cap:bw)(T:bh Tok)(i:bw)(w:World):Prop where
 row:w.heap[r]?=oa (oB #[ot (oa ⟨lb,0,ob⟩) T.length cap,Z U (i:ct),Z U 0,Z U 0,Z U 0,Z U 0] 269 (0,0))
 toks:∀(k:bw)(t:Tok),T[k]?=oa t->∀(j:bw)(u:bo),t.cells.toList[j]?=oa u->w.cell? ⟨lb,k*5+j,ob⟩=oa u
 ne:lb≠r
 lt:lb<w.heap.size
 short:T.length<=1000000
section
variable {r lb cap:bw}{T:bh Tok}{i:bw}{w w':World}
theorem Rd.ext {M:bw->Prop}(h:Rd r lb cap T i w)(b:Ext M w w')(d:¬M r)(f:¬M lb):Rd r lb cap T i w':=
 ⟨b.heap h.row d,λk t g j u o=>by rw[b.cell (a:=⟨lb,k*5+j,ob⟩) h.lt f];exact h.toks k t g j u o,h.ne,cg h.lt b.size,h.short⟩
theorem Rd.grow (h:Rd r lb cap T i w)(hb:bj w.heap.size w w'):Rd r lb cap T i w':=h.ext (Ext.of_below_size (M:=λ_=>fW) hb) (λh=>h) (λh=>h)
theorem Rd.rlt (h:Rd r lb cap T i w):r<w.heap.size:=aa h.row
theorem Rd.step (h:Rd r lb cap T i w):Rd r lb cap T (i+1) (w.setCell ⟨r,1,ob⟩ (Z U ((i:ct)+1))):=
 ⟨by have:=aq w r 1 _ _ (Z U ((i:ct)+1)) h.row;rw[this];simp,λk t b j u d=>by rw[(Ext.set1 w r 1 _).cell (a:=⟨lb,k*5+j,ob⟩) h.lt h.ne];exact h.toks k t b j u d,h.ne,by rw[World.size_setCell];exact h.lt,h.short⟩
theorem Rd.cells (h:Rd r lb cap T i w):w.cell? ⟨r,0,ob⟩=oa (ot (oa ⟨lb,0,ob⟩) T.length cap)/\w.cell? ⟨r,1,ob⟩=oa (Z U (i:ct))/\w.cell? ⟨r,3,ob⟩=oa (Z U 0)/\w.frozen? ⟨r,1,ob⟩=od/\r<w.heap.size:=
 ⟨(rowAt h.row 0 rfl).1,(rowAt h.row 1 rfl).1,(rowAt h.row 3 rfl).1,(rowAt h.row 1 rfl).2,aa h.row⟩
end
def aR (r lb cap:bw)(T:bh Tok)(j:bw)(w w':World):Prop:=Rd r lb cap T j w'/\Ext (·=r) w w'
theorem aR.trans {r lb cap:bw}{T:bh Tok}{j a:bw}{w w1 w2:World}(h:aR r lb cap T j w w1)(b:aR r lb cap T a w1 w2):aR r lb cap T a w w2:=⟨b.1,h.2.trans b.2 (λ_ d=> .inl d)⟩
theorem aR.grow {r lb cap:bw}{T:bh Tok}{j:bw}{w w1 w2:World}(h:aR r lb cap T j w w1)(hb:bj w1.heap.size w1 w2):aR r lb cap T j w w2:=⟨h.1.grow hb,h.2.trans (Ext.of_below_size (M:=λ_=>fW) hb) (λ_ a=>a.elim)⟩
theorem aR.grown {r lb cap:bw}{T:bh Tok}{j:bw}{w w1 w2:World}(hb:bj w.heap.size w w1)(h:aR r lb cap T j w1 w2):aR r lb cap T j w w2:=⟨h.1,(Ext.of_below_size hb).trans h.2 (λ_ a=> .inl a)⟩
theorem aO {r lb cap:bw}{T:bh Tok}{i:bw}(w:World)(h:Rd r lb cap T i w):zS 171 #[ox (oa ⟨r,0,ob⟩)] w (oy od):=by
 obtain⟨_,_,c3,_,a⟩:=h.cells;go_enter func171,ntmps171;go_wp2;go_ret;exact⟨rfl,rfl⟩
theorem aP {r lb cap:bw}{T:bh Tok}{i:bw}{t:Tok}(w:World)(h:Rd r lb cap T i w)(a:T[i]?=oa t):
  zP 170 #[ox (oa ⟨r,0,ob⟩)] w (oA t.cells):=by
 obtain⟨N,d⟩:=zE w.heap.size;obtain⟨g,f⟩:=zE (w.alloc (oB #[Z U 0,oe ⟨#[]⟩,Z U 0,Z U 0,Z U 0] 263));have j:=gq f d;have b:Rd r lb cap T i g:=h.grow (by rw[d];exact j);have o:g.heap[N]?=oa (oB #[Z U 0,oe ⟨#[]⟩,Z U 0,Z U 0,Z U 0] 263 (0,0)):=by rw[<-f,<-d];exact alloc_at _ _
 obtain⟨c0,c1,_,_,D⟩:=b.cells;have G:i<T.length:=(ca.1 a).1;have J:=h.short;obtain⟨⟨K,R,Y,g3,g4⟩,⟨f0,f1,f2,f3,f4⟩,oR⟩:=dm o;have q:=b.toks i t a 0 _ rfl;have k1:=b.toks i t a 1 _ rfl;have k2:=b.toks i t a 2 _ rfl;have k3:=b.toks i t a 3 _ rfl;have k4:=b.toks i t a 4 _ rfl;rw[ix] at q;have oS:min (i:ct) ((T.length:ct)-1)=(i:ct):=by omega
 have hw:IntKind.i64.wrap ((T.length:ct)-1)=(T.length:ct)-1:=IntWalk.i64_in _ (by omega);have u:=zH j;have v:=zH o;have y:=zH f;clear h b a j o f;go_enter func170,ntmps170
 go_upto_region 1 with(fail)
 rw[y.out];refine lY 17 0 rfl (by kernel_rfl) (by kernel_rfl) (by kernel_rfl) (·=g.drew) rfl ?_;dsimp only[List.take]
 repeat (go_big_quiet_step (fail))
 refine eC ?_;rintro _ rfl;refine wpOp_step rfl λK' A=> ?_;rw[cQ (by rfl)];go_simp;refine A _ _ ?_;refine⟨by kernel_rfl, ?_⟩;go_wp2;refine cP (cV (P:=ac) rfl _ _ N 263 t.cells (0,0) _ rfl (fq v.out) eK rfl (by kernel_rfl)) rfl ?_;(try rw[d]);exact⟨rfl,(dz u.out (bl _) _ _ _ _ _).drew⟩
def bK (t:Tok)(s:ap):iv:=(t.kind==2||t.kind==4)&&t.text==s
theorem aL {r lb cap:bw}{T:bh Tok}{i:bw}{t:Tok}(s:ap)(w:World)(h:Rd r lb cap T i w)(o:T[i]?=oa t):
  zP 172 #[ox (oa ⟨r,0,ob⟩),oe s] w (oy (bK t s)):=by
 have d:=zH (aP w h o);have q:cr (∀W,bj w.heap.size w W->zS 171 #[ox (oa ⟨r,0,ob⟩)] W (oy od)):=λW u=>aO W (h.grow u);have hst:∀(w:World)(c:cC bo),c.size=5->(cM ⟨w.heap.size,0,ob⟩ [Z U t.kind,oe t.text,Z U t.n,Z U t.ln,Z U t.cl] 0).run ac (w.alloc (oB c 263))= .ok () (w.alloc (oB #[Z U t.kind,oe t.text,Z U t.n,Z U t.ln,Z U t.cl] 263)):=λw c v=>
  cf (P:=ac) w 263 c #[Z U t.kind,oe t.text,Z U t.n,Z U t.ln,Z U t.cl] (by show _=oa 5;kernel_rfl) v (by simp[bp])
 have y:=zH hst;obtain⟨f,A⟩:=zE (t.kind==2);obtain⟨g,D⟩:=zE (t.kind==4);obtain⟨b,j⟩:=zE (t.text==s);have hF:bK t s=((f||g)&&b):=by unfold bK;rw[A,D,j]
 have J:(t.text.toList==s.toList)=b:=by rw[<-fR];exact j
 rw[hF];simp only[Tok.cells] at d;cases f<;>cases g<;>cases b<;>(
  go_enter func172,ntmps172
  go_wp2_with (first
   |(go_at_call 170;refine d.out.mono ?_;rintro e w2 ⟨rfl,G⟩;have K:=y.out w2;have a:=zH G)
   |(go_at_call 171;refine(q.out _ (a.out.alloc a.out.size _)).mono ?_;rintro e N ⟨rfl,rfl⟩))
  go_ret;exact⟨rfl,a.out.alloc a.out.size _⟩)
theorem aH {r lb cap:bw}{T:bh Tok}{i:bw}{t:Tok}(s:ap)(w:World)(h:Rd r lb cap T i w)(a:T[i]?=oa t)(hF:bK t s=oc):
  et ac 207 #[ox (oa ⟨r,0,ob⟩),oe s] w λe w'=>e= oE (.tuple #[])/\aR r lb cap T (i+1) w w':=by
 have d:=zH (aL s w h a);rw[hF] at d;have H:=zH h;have j:i<T.length:=(ca.1 a).1;have o:=h.short;clear h a hF;go_enter func207,ntmps207
 go_wp2_with (go_at_call 172;refine d.out.mono ?_;rintro e w2 ⟨rfl,b⟩;have f:=zH (H.out.grow b);have HM:cr (aR r lb cap T (i+1) w (w2.setCell ⟨r,1,ob⟩ (Z U ((i:ct)+1)))):=⟨f.out.step,(Ext.of_below_size (M:=(·=r)) b).trans (Ext.set1 w2 r 1 _) (λk g=> .inl g)⟩;obtain⟨c0,c1,c3,f1,q⟩:=f.out.cells;clear b)
 go_end0
 exact⟨rfl,HM.out⟩
theorem oU {r lb cap:bw}{T:bh Tok}{i:bw}(d:ct)(w:World)(h:Rd r lb cap T i w)(a:d<=200):
  zS 242 #[ox (oa ⟨r,0,ob⟩),Z U d] w (oy oc):=by
 have b:=zH (aO w h);have f:decide (200<d)=od:=by rw[decide_eq_false_iff_not];omega
 have g:¬200<d:=by omega
 clear h a;go_enter func242,ntmps242
 go_wp2_with (go_at_call 171;refine b.out.mono ?_;rintro e w2 ⟨rfl,rfl⟩)
 go_ret;exact⟨rfl,rfl⟩
theorem bT {r lb cap:bw}{T:bh Tok}{i:bw}{t:Tok}(w:World)(h:Rd r lb cap T i w)(D:T[i]?=oa t)(a:t.kind=1):
  et ac 208 #[ox (oa ⟨r,0,ob⟩)] w λe w'=>e= oE (.tuple #[oe t.text,oA #[Z U t.ln,Z U t.cl]])/\aR r lb cap T (i+1) w w':=by
 obtain⟨N,b⟩:=zE w.heap.size;obtain⟨d,g⟩:=zE (w.alloc (oB #[Z U 0,Z U 0] 40));have J:=gq g b;have oS:d.heap.size=N+1:=by rw[<-g];simp[b]
 have oT:d.heap[N]?=oa (oB #[Z U 0,Z U 0] 40 (0,0)):=by rw[<-g,<-b];exact alloc_at _ _
 have q:=h.grow (by rw[b];exact J);have K:=zH (aP d q D);have oX:cr (∀W,bj d.heap.size d W->zS 171 #[ox (oa ⟨r,0,ob⟩)] W (oy od)):=λW hW=>aO W (q.grow hW);have hst:∀(w:World)(c:cC bo),c.size=5->(cM ⟨w.heap.size,0,ob⟩ [Z U t.kind,oe t.text,Z U t.n,Z U t.ln,Z U t.cl] 0).run ac (w.alloc (oB c 263))= .ok () (w.alloc (oB #[Z U t.kind,oe t.text,Z U t.n,Z U t.ln,Z U t.cl] 263)):=λw c hc=>
  cf (P:=ac) w 263 c #[Z U t.kind,oe t.text,Z U t.n,Z U t.ln,Z U t.cl] (by show _=oa 5;kernel_rfl) hc (by simp[bp])
 rw[a] at hst;have pi:=zH hst;have pN:i<T.length:=(ca.1 D).1;have hT:=h.short;have pP:r<N:=by rw[<-b];exact h.rlt
 have oY:lb<N:=by rw[<-b];exact h.lt
 have pj:=zH oY;clear oY;have pk:=zH g;have pl:=zH J;have pb:=zH oS;have pm:=zH oT;have H1:=zH q;simp only[Tok.cells,a] at K;clear h D a hst g J oS oT q;go_enter func208,ntmps208
 go_upto_region 2 with(go_at_call 170;rw[pk.out];refine K.out.mono ?_;rintro e w2 ⟨rfl,pc⟩;have pn:=pi.out w2;have pd:=zH pc;clear pc)
 clear pn;obtain⟨G,u⟩:=zE w2.heap.size;obtain⟨j,v⟩:=zE (w2.alloc (oB #[Z U 1,oe t.text,Z U t.n,Z U t.ln,Z U t.cl] 263));rw[u,v];have o:=zD v pd;have pS:N+1<=G:=by rw[<-u,<-pb.out];exact pd.out.size
 have R:j.heap[G]?=oa (oB #[Z U 1,oe t.text,Z U t.n,Z U t.ln,Z U t.cl] 263 (0,0)):=by rw[<-v,<-u];exact alloc_at _ _
 have Y:=(o.block N (by have:=pb.out;omega)).trans pm.out;have h3:=H1.out.grow o;obtain⟨c0,c1,c3,f1,hr⟩:=h3.cells;obtain⟨⟨g0,g1,g2,g3,g4⟩,⟨e0,e1,e2,e3,e4⟩,po⟩:=dm R;obtain⟨⟨p0,p1⟩,⟨q0,q1⟩,pp⟩:=bg Y;have pw:=zH (oX.out j o);have px:=zH o;have py:=zH R;have pB:=zH Y;have H3:=zH h3;clear u v o R Y h3 oX K
 go_upto_region 6 with(go_at_call 171;refine pw.out.mono ?_;rintro e w2 ⟨rfl,rfl⟩)
 obtain⟨f,y⟩:=zE (j.setCell ⟨r,1,ob⟩ (Z U ((i:ct)+1)));rw[y];have A:Ext (·=r) j f:=by rw[<-y];exact Ext.set1 j r 1 _
 have pf:=A.heap py.out (by omega);have oR:=A.heap pB.out (by omega);have h4:Rd r lb cap T (i+1) f:=by rw[<-y];exact H3.out.step
 obtain⟨⟨g0,g1,g2,g3,g4⟩,⟨e0,e1,e2,e3,e4⟩,po⟩:=dm pf;obtain⟨⟨p0,p1⟩,⟨q0,q1⟩,pp⟩:=bg oR;have pD:=zH A;have pH:=zH oR;have H4:=zH h4;clear y A pf oR h4 c0 c1 c3 f1 hr
 go_region
 go_wp2;(try simp only[cD,Exit.then]);have pL:aR r lb cap T (i+1) w f:=⟨H4.out,((Ext.of_below_size (M:=(·=r)) (show bj w.heap.size w d by rw[b];exact pl.out)).trans (Ext.of_below_size (M:=(·=r)) px.out) (λk a=> .inl a)).trans pD.out (λk a=> .inl a)⟩
 have ph:Ext (·=N) f (((f.setCell ⟨N,0,ob⟩ (Z U t.ln)).setCell ⟨N,1,ob⟩ (Z U t.cl)).drew):=((Ext.set1 f N 0 _).trans (Ext.set1 _ N 1 _) (λk a=> .inl a)).drew;refine cP (dY rfl _ _ N 40 _ (0,0) _ rfl (aN pH.out) nl (by kernel_rfl)) rfl ?_;refine⟨rfl,H4.out.ext ph (by omega) (λe=> ?_),pL.2.trans ph (λk a=> .inr (by omega))⟩;have:=pj.out;omega
def jk (t:Tok)(l:bh ap):iv:=l.any λs=>bK t s
def kH (w:World)(b:bw)(l:bh ap):Prop:=∀(k:bw)(x:ap),l[k]?=oa x->w.cell? ⟨b,k,ob⟩=oa (oe x)
theorem d9 {r lb cap:bw}{T:bh Tok}{i:bw}{t:Tok}(b c:bw)(l:bh ap)(w:World)(h:Rd r lb cap T i w)(G:T[i]?=oa t)(hl:l.length<=20)(hb:b<w.heap.size)(J:kH w b l):
  zP 260 #[ox (oa ⟨r,0,ob⟩),ot (oa ⟨b,0,ob⟩) l.length c] w (oy (jk t l)):=by
 have oS:cr (∀s W,bj w.heap.size w W->zP 172 #[ox (oa ⟨r,0,ob⟩),oe s] W (oy (bK t s))):=λs W hW=>aL s W (h.grow hW) G;have oT:=zH J;have HB:=zH hb;clear h G J;go_enter func260,ntmps260;go_wp2
 go_loopw [5] (λk wr=>∃j:bw,k= Z U (j:ct)/\j<=l.length/\(∀x∈l.take j,bK t x=od)/\bj w.heap.size w wr) (λk _=>l.length-(intOf k).toNat)
 case atStart=>exact⟨0,rfl,da _,by simp,an _ _⟩
 case round=>
  obtain⟨j,rfl,hj,o,a⟩:=hrel;have HZ:=zH o;have d:=zH a
  by_cases K:j<l.length
  ·have oX:(j:ct)<(l.length:ct):=by omega
   obtain⟨x,f⟩:∃x,l[j]?=oa x:=⟨_,ce K⟩
   have hc:wr.cell? ⟨b,j,ob⟩=oa (oe x):=(a.cell (p:=⟨b,j,ob⟩) HB.out).trans (oT.out j x f);have u:=zH (oS.out x wr a);obtain⟨q,v⟩:=zE (bK t x);rw[v] at u;have N:=zH v;have R:=zH f;clear o a f v;cases q with
   |true=>
    have A:cr (oc=jk t l):=by unfold cr jk;rw[eq_comm,ie];exact⟨x,cA R.out,N.out⟩
    go_wp2_with (go_at_call 172;refine u.out.mono ?_;rintro e w2 ⟨rfl,g⟩;have D:=zH (d.out.trans (g.mono d.out.size));clear g)
    go_ret;rw[<-A.out];exact⟨rfl,D.out⟩
   |false=>
    go_wp2_with (go_at_call 172;refine u.out.mono ?_;rintro e w2 ⟨rfl,g⟩;have D:=zH (d.out.trans (g.mono d.out.size));clear g)
    go_roundw
    case rel=>
     refine⟨j+1,by go_num,K,λy Y=> ?_,D.out⟩;rw[kp,R.out] at Y;rcases cw.1 Y with h|h
     ·exact HZ.out y h
     ·have e:y=x:=by simpa using h
      rw[e];exact N.out
    case measure=>simp[intOf];omega
  ·have oR:j=l.length:=by omega
   have A:cr (od=jk t l):=by
    unfold cr jk;rw[eq_comm,j9];intro x f;rw[o x (by rw[oR,dl];exact f)];simp
   clear o a;subst oR;go_wp2;go_ret;rw[<-A.out];exact⟨rfl,d.out⟩
def gL:ap:=⟨#[42]⟩
def qQ:ap:=⟨#[105,110,116]⟩
theorem qR {r lb cap:bw}{T:bh Tok}{i:bw}{u:Tok}(w:World)(h:Rd r lb cap T i w)(a:T[i+1]?=oa u)(d:u.kind=4):
  zP 262 #[ox (oa ⟨r,0,ob⟩)] w (oy (u.text==gL)):=by
 obtain⟨c0,c1,_,_,o⟩:=h.cells;have q:i+1<T.length:=(ca.1 a).1;have v:=h.short;have f:=h.toks (i+1) u a 0 _ rfl;have y:=h.toks (i+1) u a 1 _ rfl;rw[ix] at f;rw[d] at f;have A:IntKind.i64.wrap ((i:ct)+1)=(i:ct)+1:=IntWalk.i64_in _ (by omega);have D:decide ((i:ct)+1<(T.length:ct))=oc:=by rw[lP];omega
 have G:(i:ct)+1<(T.length:ct):=by omega
 have J:0<=(i:ct)+1:=by omega
 have K:((i:ct)+1).toNat=i+1:=by omega
 obtain⟨b,hb⟩:=zE (u.text==gL);have j:(u.text.toList==gL.toList)=b:=by rw[<-fR];exact hb
 rw[hb];have g:gL.toList=[42]:=by rw[ld];rfl
 rw[g] at j;clear h a d hb g;cases b<;>(
  go_enter func262,ntmps262
  go_upto_region 1 with(fail)
  go_quiet (fail)
  go_wp2;go_ret;exact⟨rfl,lm (an _ _) _⟩)
inductive qU (T:bh Tok) (i:bw):Ty->bw->Prop
 |int (t:Tok):T[i]?=oa t->bK t qQ=oc->qU T i bG (i+1)
 |ptr (t u:Tok):T[i]?=oa t->t.kind=1->T[i+1]?=oa u->bK u gL=oc->qU T i (oc,t.text) (i+2)
def Bg (t:Ty):bo:= oA #[oy t.1,oe t.2]
theorem jb {t:Tok}{s:ap}(h:t.kind=1):bK t s=od:=by unfold bK;rw[h];rfl
theorem xc {r lb cap:bw}{T:bh Tok}{i:bw}{t:Tok}(w:World)(h:Rd r lb cap T i w)(j:T[i]?=oa t)(a:bK t qQ=oc):
  et ac 209 #[ox (oa ⟨r,0,ob⟩)] w λe w'=>e= oE (oA #[oy od,oe ⟨#[]⟩])/\aR r lb cap T (i+1) w w':=by
 obtain⟨N,b⟩:=zE w.heap.size;obtain⟨f,d⟩:=zE (w.alloc (oB #[oy od,oe ⟨#[]⟩] 32));have o:=gq d b;have A:f.heap[N]?=oa (oB #[oy od,oe ⟨#[]⟩] 32 (0,0)):=by rw[<-d,<-b];exact alloc_at _ _
 have D:f.heap.size=N+1:=by rw[<-d];simp[b]
 have q:=h.grow (by rw[b];exact o);have y:=zH (aL qQ f q j);rw[a] at y;unfold qQ at y;have pc:i<T.length:=(ca.1 j).1;have hT:=h.short;have pd:r<N:=by rw[<-b];exact h.rlt
 have Y:cr (lb<N):=by unfold cr;rw[<-b];exact h.lt
 have oR:=zH d;have oS:=zH o;have oT:=zH A;have oX:=zH D;have H1:=zH q;clear h j a d o A q D;go_enter func209,ntmps209
 go_upto_region 2 with(go_at_call 172;rw[oR.out];refine y.out.mono ?_;rintro e w2 ⟨rfl,g⟩;have oY:=zH g;have G:=zH (H1.out.grow g);have J:=zH ((g.block N (by rw[oX.out];omega)).trans oT.out);clear g)
 obtain⟨c0,c1,c3,f1,hr⟩:=G.out.cells;obtain⟨⟨p0,p1⟩,⟨q0,q1⟩,pf⟩:=bg J.out;have pb:N≠r:=by omega
 go_wp2;(try simp only[cD,Exit.then]);refine cP (cV (P:=ac) rfl _ _ N 32 _ (0,0) _ rfl (aN ((cH _ _ _ N pb).trans J.out)) dg rfl (by kernel_rfl)) rfl ?_;have K:aR r lb cap T (i+1) w (w2.setCell ⟨r,1,ob⟩ (Z U ((i:ct)+1))):=⟨G.out.step,((Ext.of_below_size (M:=(·=r)) (show bj w.heap.size w f by rw[b];exact oS.out)).trans (Ext.of_below_size (M:=(·=r)) oY.out) (λk a=> .inl a)).trans (Ext.set1 w2 r 1 _) (λk a=> .inl a)⟩
 have R:∀W u v,Ext (·=N) W ((W.setCell ⟨N,0,ob⟩ u).setCell ⟨N,1,ob⟩ v):=λW u v=>(Ext.set1 W N 0 u).trans (Ext.set1 _ N 1 v) (λk a=> .inl a);exact⟨rfl,K.1.ext (R _ _ _) (by omega) (by have:=Y.out;omega),K.2.trans (R _ _ _) (λk a=> .inr (by omega))⟩
theorem qc {r lb cap:bw}{T:bh Tok}{i:bw}{t u:Tok}(w:World)(h:Rd r lb cap T i w)(g:T[i]?=oa t)(b:t.kind=1)(G:T[i+1]?=oa u)(J:bK u gL=oc):
  et ac 209 #[ox (oa ⟨r,0,ob⟩)] w λe w'=>e= oE (oA #[oy oc,oe t.text])/\aR r lb cap T (i+2) w w':=by
 obtain⟨N,a⟩:=zE w.heap.size;obtain⟨d,f⟩:=zE (w.alloc (oB #[oy od,oe ⟨#[]⟩] 32));have j:=gq f a;have K:d.heap[N]?=oa (oB #[oy od,oe ⟨#[]⟩] 32 (0,0)):=by rw[<-f,<-a];exact alloc_at _ _
 have R:d.heap.size=N+1:=by rw[<-f];simp[a]
 have o:=h.grow (by rw[a];exact j);have q:=zH (aL qQ d o g);rw[jb b] at q;unfold qQ at q;have ph:cr (∀W,bj d.heap.size d W->et ac 208 #[ox (oa ⟨r,0,ob⟩)] W λe w'=>e= oE (.tuple #[oe t.text,oA #[Z U t.ln,Z U t.cl]])/\aR r lb cap T (i+1) W w'):=λW y=>bT W (o.grow y) g b;have Y:cr (∀W,Rd r lb cap T (i+1) W->et ac 207 #[ox (oa ⟨r,0,ob⟩),oe gL] W λe w'=>e= oE (.tuple #[])/\aR r lb cap T (i+1+1) W w'):=λW y=>aH gL W y G J;unfold gL at Y;have pw:r<N:=by rw[<-a];exact h.rlt
 have pi:cr (lb<N):=by unfold cr;rw[<-a];exact h.lt
 have hst:∀(w:World)(c:cC bo),c.size=2->(cM ⟨w.heap.size,0,ob⟩ [Z U t.ln,Z U t.cl] 0).run ac (w.alloc (oB c 40))= .ok () (w.alloc (oB #[Z U t.ln,Z U t.cl] 40)):=λw c hc=>
  cf (P:=ac) w 40 c #[Z U t.ln,Z U t.cl] (by show _=oa 2;kernel_rfl) hc (by simp[bp])
 have pj:=zH hst;have pk:=zH f;have pl:=zH j;have pm:=zH K;have px:=zH R;clear h g b G J f j K o R hst;go_enter func209,ntmps209
 go_upto_region 5 with(first
  |(go_at_call 172;rw[pk.out];refine q.out.mono ?_;rintro e w2 ⟨rfl,oR⟩;have oS:=zH oR;clear oR)
  |(go_at_call 208;refine(ph.out _ oS.out).mono ?_;rintro e w3 ⟨rfl,oT⟩;have pn:=zH oT;have po:=pj.out w3;clear oT))
 clear po;obtain⟨W4,A⟩:=zE (w3.alloc (oB #[Z U t.ln,Z U t.cl] 40));rw[A];have oX:=jJ A;have oY:aR r lb cap T (i+1) d W4:=(aR.grown oS.out pn.out).grow oX;have pb:=zH oY;clear A oX oY
 go_upto_region 6 with(go_at_call 207;refine(Y.out _ pb.out.1).mono ?_;rintro e w5 ⟨rfl,pc⟩;have pd:=zH (pb.out.trans pc);clear pc)
 have D:=pd.out.2.heap pm.out (by omega);have pp:=zH D;obtain⟨⟨p0,p1⟩,⟨q0,q1⟩,py⟩:=bg D;clear D;go_wp2;(try simp only[cD,Exit.then]);refine cP (cV (P:=ac) rfl _ _ N 32 _ (0,0) _ rfl (aN pp.out) dg rfl (by kernel_rfl)) rfl ?_;have hM:aR r lb cap T (i+1+1) w w5:=aR.grown (by rw[a];exact pl.out) pd.out;have pf:∀W u v,Ext (·=N) W ((W.setCell ⟨N,0,ob⟩ u).setCell ⟨N,1,ob⟩ v):=λW u v=>(Ext.set1 W N 0 u).trans (Ext.set1 _ N 1 v) (λk b=> .inl b);exact⟨rfl,hM.1.ext (pf _ _ _) (by omega) (by have:=pi.out;omega),hM.2.trans (pf _ _ _) (λk b=> .inr (by omega))⟩
theorem lu {r lb cap:bw}{T:bh Tok}{i k:bw}{y:Ty}(w:World)(h:Rd r lb cap T i w)(d:qU T i y k):
  et ac 209 #[ox (oa ⟨r,0,ob⟩)] w λe w'=>e= oE (Bg y)/\aR r lb cap T k w w':=by
 cases d with
 |int t a b=>exact xc w h a b
 |ptr t u a b f g=>exact qc w h a b f g
structure Ex where
 kind:ct
 n:ct
 nm:ap
 ln:ct
 cl:ct
def Ex.cells (e:Ex):cC bo:=#[Z U e.kind,Z U e.n,oe e.nm,oe ⟨#[]⟩,ot ob 0 0,Z U e.ln,Z U e.cl]
theorem mQ (e:Ex)(w:World):et ac 277 #[oA e.cells] w λg w'=>g= oE (Z U 1)/\bj w.heap.size w w':=by
 obtain⟨N,b⟩:=zE w.heap.size;unfold Ex.cells;go_enter func277,ntmps277;go_wp2;obtain⟨h,a⟩:=zE (w.alloc (oB #[Z U e.kind,Z U e.n,oe e.nm,oe ⟨#[]⟩,ot ob 0 0,Z U e.ln,Z U e.cl] 313));have d:=gq a b;have f:h.heap[N]?=oa (oB #[Z U e.kind,Z U e.n,oe e.nm,oe ⟨#[]⟩,ot ob 0 0,Z U e.ln,Z U e.cl] 313 (0,0)):=by rw[<-a,<-b];exact alloc_at _ _
 obtain⟨⟨c0,c1,c2,c3,c4,o,q⟩,_,u⟩:=bR f;rw[a];have j:=zH d;clear a d f
 go_loop [3,4] (λn i=>n= Z U 0/\i= Z U 0) (λ_ _=>0)
 case atStart=>exact⟨rfl,rfl⟩
 case round=>
  obtain⟨rfl,rfl⟩:=hrel;go_wp2;go_ret;(try rw[b]);exact⟨rfl,j.out⟩
theorem gy {r lb cap:bw}{T:bh Tok}{i:bw}(e:Ex)(w:World)(h:Rd r lb cap T i w):
  et ac 273 #[ox (oa ⟨r,0,ob⟩),oA e.cells] w λJ w'=>J= oE (oA e.cells)/\bj w.heap.size w w':=by
 obtain⟨N,a⟩:=zE w.heap.size;obtain⟨g,b⟩:=zE ((w.alloc (oB #[Z U e.kind,Z U e.n,oe e.nm,oe ⟨#[]⟩,ot ob 0 0,Z U e.ln,Z U e.cl] 313)).alloc (oB #[Z U 0,Z U 0,oe ⟨#[]⟩,oe ⟨#[]⟩,ot ob 0 0,Z U 0,Z U 0] 313));have o:=oL b a;have d:=uG b a;have f:=wy b a;have v:g.heap.size=N+2:=by rw[<-b];simp[a]
 have y:=h.grow (by rw[a];exact o);have A:cr (∀W,bj g.heap.size g W->zS 171 #[ox (oa ⟨r,0,ob⟩)] W (oy od)):=λW K=>aO W (y.grow K);have q:=λW=>mQ e W;unfold Ex.cells at q⊢;have R:=zH q;obtain⟨⟨c0,c1,c2,c3,c4,Y,c6⟩,_,pc⟩:=bR d;have oR:=zH b;have oS:=zH o;have oT:=zH d;have oX:=zH f;have u:=zH v;clear h b o d f v y q;go_enter func273,ntmps273
 go_upto_region 1 with(fail)
 rw[oR.out]
 go_upto_region 3 with(first
  |(go_at_call 171;refine(A.out g (an _ _)).mono ?_;rintro e w2 ⟨rfl,rfl⟩)
  |(go_at_call 277;refine(R.out _).mono ?_;rintro e w2 ⟨rfl,D⟩;have j:=zH D;clear D))
 have d:=(j.out.block N (by rw[u.out];omega)).trans oT.out;have f:=(j.out.block (N+1) (by rw[u.out];omega)).trans oX.out;obtain⟨⟨c0,c1,c2,c3,c4,Y,c6⟩,_,pd⟩:=bR d;obtain⟨⟨g0,g1,g2,g3,g4,g5,g6⟩,⟨f0,f1,f2,f3,f4,f5,f6⟩,pf⟩:=bR f;have oY:=zH f;have G:cr (bj N w w2):=oS.out.trans (j.out.mono (by rw[u.out];omega));have pb:=zH (A.out w2 j.out);clear d f
 go_wp2_with (go_at_call 171;refine pb.out.mono ?_;rintro e w3 ⟨rfl,rfl⟩)
 (try simp only[cD,Exit.then]);refine cP (cV (P:=ac) rfl _ _ (N+1) 313 _ (0,0) _ rfl (dI oY.out) eV rfl (by kernel_rfl)) rfl ?_;(try rw[a]);exact⟨rfl,G.out.trans ((bi _ _ _ _ _ _ _ _ _).below (cv (by omega) G.out.size) (λk hk=>by omega))⟩
def dh:ap:=⟨#[40]⟩
def yg:ap:=⟨#[110,117,108,108]⟩
def yh:ap:=⟨#[110,101,119]⟩
theorem oV {r lb cap:bw}{T:bh Tok}{i:bw}{t:Tok}(d:ct)(w:World)(h:Rd r lb cap T i w)(K:T[i]?=oa t)(j:t.kind=3):
  et ac 278 #[ox (oa ⟨r,0,ob⟩),Z U d] w λe w'=>e= oE (oA (Ex.cells ⟨1,t.n,⟨#[]⟩,t.ln,t.cl⟩))/\aR r lb cap T (i+1) w w':=by
 obtain⟨N,f⟩:=zE w.heap.size;obtain⟨Y,o⟩:=zE (w.alloc (oB #[Z U 0,Z U 0,oe ⟨#[]⟩,oe ⟨#[]⟩,ot ob 0 0,Z U 0,Z U 0] 313));have oR:=gq o f;have pi:Y.heap.size=N+1:=by rw[<-o];simp[f]
 have pj:Y.heap[N]?=oa (oB #[Z U 0,Z U 0,oe ⟨#[]⟩,oe ⟨#[]⟩,ot ob 0 0,Z U 0,Z U 0] 313 (0,0)):=by rw[<-o,<-f];exact alloc_at _ _
 have q:=h.grow (by rw[f];exact oR);have oS:=zH (aP Y q K);have pk:=zH λW u=>aO W (q.grow u);have oT:∀W,Rd r lb cap T (i+1) W->et ac 273 #[ox (oa ⟨r,0,ob⟩),oA (Ex.cells ⟨1,t.n,⟨#[]⟩,t.ln,t.cl⟩)] W λen w'=>en= oE (oA (Ex.cells ⟨1,t.n,⟨#[]⟩,t.ln,t.cl⟩))/\bj W.heap.size W w':=λW u=>gy _ W u;have ra:=zH λs W u=>aL s W (q.grow u) K;simp only[Tok.cells,j] at oS;unfold Ex.cells at oT;have pN:=zH oT;have hst:∀(w:World)(c:cC bo),c.size=5->(cM ⟨w.heap.size,0,ob⟩ [Z U t.kind,oe t.text,Z U t.n,Z U t.ln,Z U t.cl] 0).run ac (w.alloc (oB c 263))= .ok () (w.alloc (oB #[Z U t.kind,oe t.text,Z U t.n,Z U t.ln,Z U t.cl] 263)):=λw c hc=>
  cf (P:=ac) w 263 c #[Z U t.kind,oe t.text,Z U t.n,Z U t.ln,Z U t.cl] (by show _=oa 5;kernel_rfl) hc (by simp[bp])
 have pl:∀(w:World)(c:cC bo),c.size=7->(cM ⟨w.heap.size,0,ob⟩ [Z U 0,Z U 0,oe ⟨#[]⟩,oe ⟨#[]⟩,ot ob 0 0,Z U t.ln,Z U t.cl] 0).run ac (w.alloc (oB c 313))= .ok () (w.alloc (oB #[Z U 0,Z U 0,oe ⟨#[]⟩,oe ⟨#[]⟩,ot ob 0 0,Z U t.ln,Z U t.cl] 313)):=λw c hc=>
  cf (P:=ac) w 313 c #[Z U 0,Z U 0,oe ⟨#[]⟩,oe ⟨#[]⟩,ot ob 0 0,Z U t.ln,Z U t.cl] (by show _=oa 7;kernel_rfl) hc (by simp[bp])
 rw[j] at hst;have pP:=zH hst;have pS:=zH pl;have rb:i<T.length:=(ca.1 K).1;have hT:=h.short;have rc:r<N:=by rw[<-f];exact h.rlt
 have pm:cr (lb<N):=by unfold cr;rw[<-f];exact h.lt
 have pT:=zH o;have pZ:=zH oR;have oX:=zH pi;have qe:=zH pj;have H1:=zH q;clear h K oT hst pl o oR pi pj q j;go_enter func278,ntmps278
 go_upto_region 2 with(go_at_call 170;rw[pT.out];refine oS.out.mono ?_;rintro e w2 ⟨rfl,pn⟩;have qk:=pP.out w2;have po:=zH pn;clear pn)
 clear qk;obtain⟨G,v⟩:=zE w2.heap.size;obtain⟨R,y⟩:=zE (w2.alloc (oB #[Z U 3,oe t.text,Z U t.n,Z U t.ln,Z U t.cl] 263));rw[v,y];have pp:=zD y po;have oY:R.heap.size=G+1:=by rw[<-y,<-v];simp
 have re:N+1<=G:=by rw[<-v,<-oX.out];exact po.out.size
 have pb:R.heap[G]?=oa (oB #[Z U 3,oe t.text,Z U t.n,Z U t.ln,Z U t.cl] 263 (0,0)):=by rw[<-y,<-v];exact alloc_at _ _
 obtain⟨⟨g0,g1,g2,g3,g4⟩,_,rh⟩:=dm pb;have pw:=pS.out R;have qn:=zH pp;have qq:=zH pb;clear v y pp pb;rw[oY] at pw
 go_upto_region 4 with(fail)
 clear pw;obtain⟨b,g⟩:=zE (R.alloc (oB #[Z U 0,Z U 0,oe ⟨#[]⟩,oe ⟨#[]⟩,ot ob 0 0,Z U t.ln,Z U t.cl] 313));rw[g];have A:=zD g qn;have rj:b.heap.size=G+2:=by rw[<-g];simp[oY]
 have pc:b.heap[G+1]?=oa (oB #[Z U 0,Z U 0,oe ⟨#[]⟩,oe ⟨#[]⟩,ot ob 0 0,Z U t.ln,Z U t.cl] 313 (0,0)):=by rw[<-g,<-oY];exact alloc_at _ _
 have pd:b.heap[G]?=oa (oB #[Z U 3,oe t.text,Z U t.n,Z U t.ln,Z U t.cl] 263 (0,0)):=by rw[<-g];exact(bt _ _ G (by omega)).trans qq.out
 have px:=(A.block N (by have:=oX.out;omega)).trans qe.out;have h4:=H1.out.grow A;have qr:=zH (pk.out b A);have qs:=zH A;have qt:=zH pc;have rk:=zH pd;have qu:=zH px;have H4:=zH h4;obtain⟨c0,c1,c3,f1,hr⟩:=h4.cells;obtain⟨⟨g0,g1,g2,g3,g4⟩,_,rl⟩:=dm pd;obtain⟨⟨e0,e1,e2,e3,e4,e5,e6⟩,⟨q0,q1,q2,q3,q4,q5,q6⟩,rm⟩:=bR pc;clear g A pc pd px h4 pk oS
 go_upto_region 35 with(go_at_call 171;refine qr.out.mono ?_;rintro e w2 ⟨rfl,rfl⟩)
 obtain⟨D,J⟩:=zE (((b.setCell ⟨r,1,ob⟩ (Z U ((i:ct)+1))).setCell ⟨G+1,0,ob⟩ (Z U 1)).setCell ⟨G+1,1,ob⟩ (Z U t.n));rw[J];have py:aR r lb cap T (i+1) w D:=by
  have a:aR r lb cap T (i+1) b (b.setCell ⟨r,1,ob⟩ (Z U ((i:ct)+1))):=⟨H4.out.step,Ext.set1 b r 1 _⟩
  have hx:Ext (·=G+1) (b.setCell ⟨r,1,ob⟩ (Z U ((i:ct)+1))) D:=by rw[<-J];exact ae (ae (Ext.refl _ _) _) _
  have qv:bj w.heap.size w b:=by rw[f];exact pZ.out.trans (qs.out.mono (by rw[oX.out];omega))
  exact⟨a.1.ext hx (by omega) (by have:=pm.out;omega),(aR.grown qv a).2.trans hx (λk j=> .inr (by omega))⟩
 have pB:D.heap[G+1]?=oa (oB #[Z U 1,Z U t.n,oe ⟨#[]⟩,oe ⟨#[]⟩,ot ob 0 0,Z U t.ln,Z U t.cl] 313 (0,0)):=by
  rw[<-J];exact aq _ (G+1) 1 _ _ _ (aq _ (G+1) 0 _ _ _ ((cH _ _ _ (G+1) (by show G+1≠r;omega)).trans qt.out))
 have pD:D.heap[N]?=oa (oB #[Z U 0,Z U 0,oe ⟨#[]⟩,oe ⟨#[]⟩,ot ob 0 0,Z U 0,Z U 0] 313 (0,0)):=by
  rw[<-J];exact(cH _ _ _ N (by show N≠G+1;omega)).trans ((cH _ _ _ N (by show N≠G+1;omega)).trans ((cH _ _ _ N (by show N≠r;omega)).trans qu.out))
 obtain⟨⟨e0,e1,e2,e3,e4,e5,e6⟩,⟨q0,q1,q2,q3,q4,q5,q6⟩,rn⟩:=bR pB;have pH:=zH py;have pL:=zH pD;clear py pB pD;clear J c0 c1 c3 f1 hr g0 g1 g2 g3 g4
 go_wp2_with (go_at_call 273;refine(pN.out D pH.out.1).mono ?_;rintro e w6 ⟨rfl,pf⟩;have qS:=zH pf;have ph:=(pf.block N (aa pL.out)).trans pL.out;have qT:=zH ph;obtain⟨⟨p0,p1,p2,p3,p4,p5,p6⟩,⟨o0,o1,o2,o3,o4,o5,o6⟩,ro⟩:=bR ph;clear pf ph)
 (try simp only[cD,Exit.then]);refine cP (cV (P:=ac) rfl _ _ N 313 _ (0,0) _ rfl (dI qT.out) eV rfl (by kernel_rfl)) rfl ?_;have hM:aR r lb cap T (i+1) w w6:=pH.out.grow qS.out;exact⟨rfl,hM.1.ext (bi _ _ _ _ _ _ _ _ _) (by omega) (by have:=pm.out;omega),hM.2.trans (bi _ _ _ _ _ _ _ _ _) (λk j=> .inr (by omega))⟩
theorem oW {r lb cap:bw}{T:bh Tok}{i:bw}{t u:Tok}(d:ct)(w:World)(h:Rd r lb cap T i w)(R:T[i]?=oa t)(o:t.kind=1)(hu:T[i+1]?=oa u)(hp:bK u dh=od):
  et ac 278 #[ox (oa ⟨r,0,ob⟩),Z U d] w λe w'=>e= oE (oA (Ex.cells ⟨2,0,t.text,t.ln,t.cl⟩))/\aR r lb cap T (i+1) w w':=by
 obtain⟨N,f⟩:=zE w.heap.size;obtain⟨W1,q⟩:=zE (w.alloc (oB #[Z U 0,Z U 0,oe ⟨#[]⟩,oe ⟨#[]⟩,ot ob 0 0,Z U 0,Z U 0] 313));have oR:=gq q f;have pk:W1.heap.size=N+1:=by rw[<-q];simp[f]
 have pl:W1.heap[N]?=oa (oB #[Z U 0,Z U 0,oe ⟨#[]⟩,oe ⟨#[]⟩,ot ob 0 0,Z U 0,Z U 0] 313 (0,0)):=by rw[<-q,<-f];exact alloc_at _ _
 have v:=h.grow (by rw[f];exact oR);have oS:=zH (aP W1 v R);have pm:=zH λW g=>aO W (v.grow g);have oT:∀W,Rd r lb cap T (i+1) W->et ac 273 #[ox (oa ⟨r,0,ob⟩),oA (Ex.cells ⟨2,0,t.text,t.ln,t.cl⟩)] W λen w'=>en= oE (oA (Ex.cells ⟨2,0,t.text,t.ln,t.cl⟩))/\bj W.heap.size W w':=λW g=>gy _ W g;have ro:=zH λs W g=>aL s W (v.grow g) R;have oX:cr (∀W,Rd r lb cap T (i+1) W->zP 172 #[ox (oa ⟨r,0,ob⟩),oe dh] W (oy (bK u dh))):=λW g=>aL _ W g hu;rw[hp] at oX;unfold dh at oX;simp only[Tok.cells,o] at oS;unfold Ex.cells at oT;have qr:=zH oT;have hst:∀(w:World)(c:cC bo),c.size=5->(cM ⟨w.heap.size,0,ob⟩ [Z U t.kind,oe t.text,Z U t.n,Z U t.ln,Z U t.cl] 0).run ac (w.alloc (oB c 263))= .ok () (w.alloc (oB #[Z U t.kind,oe t.text,Z U t.n,Z U t.ln,Z U t.cl] 263)):=λw c hc=>
  cf (P:=ac) w 263 c #[Z U t.kind,oe t.text,Z U t.n,Z U t.ln,Z U t.cl] (by show _=oa 5;kernel_rfl) hc (by simp[bp])
 have pn:∀(w:World)(c:cC bo),c.size=7->(cM ⟨w.heap.size,0,ob⟩ [Z U 0,Z U 0,oe ⟨#[]⟩,oe ⟨#[]⟩,ot ob 0 0,Z U t.ln,Z U t.cl] 0).run ac (w.alloc (oB c 313))= .ok () (w.alloc (oB #[Z U 0,Z U 0,oe ⟨#[]⟩,oe ⟨#[]⟩,ot ob 0 0,Z U t.ln,Z U t.cl] 313)):=λw c hc=>
  cf (P:=ac) w 313 c #[Z U 0,Z U 0,oe ⟨#[]⟩,oe ⟨#[]⟩,ot ob 0 0,Z U t.ln,Z U t.cl] (by show _=oa 7;kernel_rfl) hc (by simp[bp])
 rw[o] at hst;have qs:=zH hst;have qt:=zH pn;have rr:i<T.length:=(ca.1 R).1;have hT:=h.short;have rv:r<N:=by rw[<-f];exact h.rlt
 have po:cr (lb<N):=by unfold cr;rw[<-f];exact h.lt
 have qu:=zH q;have qv:=zH oR;have oY:=zH pk;have qS:=zH pl;have H1:=zH v;clear h R oT hst pn q oR pk pl v o hu hp;go_enter func278,ntmps278
 go_upto_region 2 with(go_at_call 170;rw[qu.out];refine oS.out.mono ?_;rintro e w2 ⟨rfl,pp⟩;have qT:=qs.out w2;have pw:=zH pp;clear pp)
 clear qT;obtain⟨G,y⟩:=zE w2.heap.size;obtain⟨Y,A⟩:=zE (w2.alloc (oB #[Z U 1,oe t.text,Z U t.n,Z U t.ln,Z U t.cl] 263));rw[y,A];have px:=zD A pw;have pb:Y.heap.size=G+1:=by rw[<-A,<-y];simp
 have rx:N+1<=G:=by rw[<-y,<-oY.out];exact pw.out.size
 have pc:Y.heap[G]?=oa (oB #[Z U 1,oe t.text,Z U t.n,Z U t.ln,Z U t.cl] 263 (0,0)):=by rw[<-A,<-y];exact alloc_at _ _
 obtain⟨⟨g0,g1,g2,g3,g4⟩,_,rB⟩:=dm pc;have py:=qt.out Y;have ra:=zH px;have rb:=zH pc;clear y A px pc;rw[pb] at py
 go_upto_region 4 with(fail)
 clear py;obtain⟨b,j⟩:=zE (Y.alloc (oB #[Z U 0,Z U 0,oe ⟨#[]⟩,oe ⟨#[]⟩,ot ob 0 0,Z U t.ln,Z U t.cl] 313));rw[j];have D:=zD j ra;have rI:b.heap.size=G+2:=by rw[<-j];simp[pb]
 have pd:b.heap[G+1]?=oa (oB #[Z U 0,Z U 0,oe ⟨#[]⟩,oe ⟨#[]⟩,ot ob 0 0,Z U t.ln,Z U t.cl] 313 (0,0)):=by rw[<-j,<-pb];exact alloc_at _ _
 have pf:b.heap[G]?=oa (oB #[Z U 1,oe t.text,Z U t.n,Z U t.ln,Z U t.cl] 263 (0,0)):=by rw[<-j];exact(bt _ _ G (by omega)).trans rb.out
 have pB:=(D.block N (by have:=oY.out;omega)).trans qS.out;have h4:=H1.out.grow D;have rc:=zH (pm.out b D);have re:=zH D;have rh:=zH pd;have rK:=zH pf;have rj:=zH pB;have H4:=zH h4;obtain⟨c0,c1,c3,f1,hr⟩:=h4.cells;obtain⟨⟨g0,g1,g2,g3,g4⟩,_,rk⟩:=dm pf;obtain⟨⟨e0,e1,e2,e3,e4,e5,e6⟩,⟨q0,q1,q2,q3,q4,q5,q6⟩,rL⟩:=bR pd;clear j D pd pf pB h4 pm oS
 go_upto_region 13 with(go_at_call 171;refine rc.out.mono ?_;rintro e w2 ⟨rfl,rfl⟩)
 obtain⟨J,K⟩:=zE (((b.setCell ⟨r,1,ob⟩ (Z U ((i:ct)+1))).setCell ⟨G+1,0,ob⟩ (Z U 2)).setCell ⟨G+1,2,ob⟩ (oe t.text));rw[K];have pD:aR r lb cap T (i+1) w J:=by
  have a:aR r lb cap T (i+1) b (b.setCell ⟨r,1,ob⟩ (Z U ((i:ct)+1))):=⟨H4.out.step,Ext.set1 b r 1 _⟩
  have hx:Ext (·=G+1) (b.setCell ⟨r,1,ob⟩ (Z U ((i:ct)+1))) J:=by rw[<-K];exact ae (ae (Ext.refl _ _) _) _
  have rl:bj w.heap.size w b:=by rw[f];exact qv.out.trans (re.out.mono (by rw[oY.out];omega))
  exact⟨a.1.ext hx (by omega) (by have:=po.out;omega),(aR.grown rl a).2.trans hx (λk o=> .inr (by omega))⟩
 have pH:J.heap[G+1]?=oa (oB #[Z U 2,Z U 0,oe t.text,oe ⟨#[]⟩,ot ob 0 0,Z U t.ln,Z U t.cl] 313 (0,0)):=by
  rw[<-K];exact aq _ (G+1) 2 _ _ _ (aq _ (G+1) 0 _ _ _ ((cH _ _ _ (G+1) (by show G+1≠r;omega)).trans rh.out))
 have pL:J.heap[N]?=oa (oB #[Z U 0,Z U 0,oe ⟨#[]⟩,oe ⟨#[]⟩,ot ob 0 0,Z U 0,Z U 0] 313 (0,0)):=by
  rw[<-K];exact(cH _ _ _ N (by show N≠G+1;omega)).trans ((cH _ _ _ N (by show N≠G+1;omega)).trans ((cH _ _ _ N (by show N≠r;omega)).trans rj.out))
 have pN:=zH pD;have pP:=zH pH;have pS:=zH pL;clear K pD pH pL c0 c1 c3 f1 hr e0 e1 e2 e3 e4 e5 e6 q0 q1 q2 q3 q4 q5 q6 g0 g1 g2 g3 g4 rk
 go_upto_region 35 with(go_at_call 172;refine(oX.out J pN.out.1).mono ?_;rintro e W5 ⟨rfl,pT⟩;have ph:=zH pT;clear pT)
 have pZ:=pN.out.grow ph.out;have qe:=(ph.out.block (G+1) (aa pP.out)).trans pP.out;have qk:=(ph.out.block N (aa pS.out)).trans pS.out;obtain⟨⟨e0,e1,e2,e3,e4,e5,e6⟩,⟨q0,q1,q2,q3,q4,q5,q6⟩,rN⟩:=bR qe;have qn:=zH pZ;have qq:=zH qk;clear pZ qe qk
 skip
 go_wp2_with (go_at_call 273;refine(qr.out W5 qn.out.1).mono ?_;rintro e w6 ⟨rfl,pi⟩;have rm:=zH pi;have pj:=(pi.block N (aa qq.out)).trans qq.out;have rn:=zH pj;obtain⟨⟨p0,p1,p2,p3,p4,p5,p6⟩,⟨o0,o1,o2,o3,o4,o5,o6⟩,rS⟩:=bR pj;clear pi pj)
 (try simp only[cD,Exit.then]);refine cP (cV (P:=ac) rfl _ _ N 313 _ (0,0) _ rfl (dI rn.out) eV rfl (by kernel_rfl)) rfl ?_;have hM:aR r lb cap T (i+1) w w6:=qn.out.grow rm.out;exact⟨rfl,hM.1.ext (bi _ _ _ _ _ _ _ _ _) (by omega) (by have:=po.out;omega),hM.2.trans (bi _ _ _ _ _ _ _ _ _) (λk o=> .inr (by omega))⟩
theorem oZ {r lb cap:bw}{T:bh Tok}{i:bw}{t u:Tok}(d:ct)(w:World)(h:Rd r lb cap T i w)(ht:T[i]?=oa t)(o:t.kind=2)(hw:bK t yh=oc)(pw:bK t yg=od)(hu:T[i+1]?=oa u)(px:u.kind=1):
  et ac 278 #[ox (oa ⟨r,0,ob⟩),Z U d] w λe w'=>e= oE (oA (Ex.cells ⟨7,0,u.text,t.ln,t.cl⟩))/\aR r lb cap T (i+1+1) w w':=by
 obtain⟨N,b⟩:=zE w.heap.size;obtain⟨W1,y⟩:=zE (w.alloc (oB #[Z U 0,Z U 0,oe ⟨#[]⟩,oe ⟨#[]⟩,ot ob 0 0,Z U 0,Z U 0] 313));have oY:=gq y b;have py:W1.heap.size=N+1:=by rw[<-y];simp[b]
 have pB:W1.heap[N]?=oa (oB #[Z U 0,Z U 0,oe ⟨#[]⟩,oe ⟨#[]⟩,ot ob 0 0,Z U 0,Z U 0] 313 (0,0)):=by rw[<-y,<-b];exact alloc_at _ _
 have A:=h.grow (by rw[b];exact oY);have pb:=zH (aP W1 A ht);have pD:=zH λW f=>aO W (A.grow f);have pc:∀W,Rd r lb cap T (i+1+1) W->et ac 273 #[ox (oa ⟨r,0,ob⟩),oA (Ex.cells ⟨7,0,u.text,t.ln,t.cl⟩)] W λen w'=>en= oE (oA (Ex.cells ⟨7,0,u.text,t.ln,t.cl⟩))/\bj W.heap.size W w':=λW f=>gy _ W f;have pH:=zH λs W f=>aL s W (A.grow f) ht;have pd:=zH (pH.out yg);rw[pw] at pd;unfold yg at pd;have pf:=zH (pH.out yh);rw[hw] at pf;unfold yh at pf;have rk:cr (∀W,Rd r lb cap T (i+1) W->et ac 208 #[ox (oa ⟨r,0,ob⟩)] W λe w'=>e= oE (.tuple #[oe u.text,oA #[Z U u.ln,Z U u.cl]])/\aR r lb cap T (i+1+1) W w'):=λW f=>bT W f hu px;simp only[Tok.cells,o] at pb;unfold Ex.cells at pc;have rl:=zH pc;have hst:∀(w:World)(c:cC bo),c.size=5->(cM ⟨w.heap.size,0,ob⟩ [Z U t.kind,oe t.text,Z U t.n,Z U t.ln,Z U t.cl] 0).run ac (w.alloc (oB c 263))= .ok () (w.alloc (oB #[Z U t.kind,oe t.text,Z U t.n,Z U t.ln,Z U t.cl] 263)):=λw c hc=>
  cf (P:=ac) w 263 c #[Z U t.kind,oe t.text,Z U t.n,Z U t.ln,Z U t.cl] (by show _=oa 5;kernel_rfl) hc (by simp[bp])
 have pL:∀(w:World)(c:cC bo),c.size=7->(cM ⟨w.heap.size,0,ob⟩ [Z U 0,Z U 0,oe ⟨#[]⟩,oe ⟨#[]⟩,ot ob 0 0,Z U t.ln,Z U t.cl] 0).run ac (w.alloc (oB c 313))= .ok () (w.alloc (oB #[Z U 0,Z U 0,oe ⟨#[]⟩,oe ⟨#[]⟩,ot ob 0 0,Z U t.ln,Z U t.cl] 313)):=λw c hc=>
  cf (P:=ac) w 313 c #[Z U 0,Z U 0,oe ⟨#[]⟩,oe ⟨#[]⟩,ot ob 0 0,Z U t.ln,Z U t.cl] (by show _=oa 7;kernel_rfl) hc (by simp[bp])
 rw[o] at hst;have rm:=zH hst;have rn:=zH pL;have sk:i<T.length:=(ca.1 ht).1;have hT:=h.short;have sn:r<N:=by rw[<-b];exact h.rlt
 have ph:cr (lb<N):=by unfold cr;rw[<-b];exact h.lt
 have ro:=zH y;have rr:=zH oY;have pi:=zH py;have rv:=zH pB;have H1:=zH A;clear h ht pc hst pL y oY py pB A o hw pw hu px;go_enter func278,ntmps278
 go_upto_region 2 with(go_at_call 170;rw[ro.out];refine pb.out.mono ?_;rintro e w2 ⟨rfl,pN⟩;have rx:=rm.out w2;have pP:=zH pN;clear pN)
 clear rx;obtain⟨G,D⟩:=zE w2.heap.size;obtain⟨W3,J⟩:=zE (w2.alloc (oB #[Z U 2,oe t.text,Z U t.n,Z U t.ln,Z U t.cl] 263));rw[D,J];have pS:=zD J pP;have pj:W3.heap.size=G+1:=by rw[<-J,<-D];simp
 have so:N+1<=G:=by rw[<-D,<-pi.out];exact pP.out.size
 have pk:W3.heap[G]?=oa (oB #[Z U 2,oe t.text,Z U t.n,Z U t.ln,Z U t.cl] 263 (0,0)):=by rw[<-J,<-D];exact alloc_at _ _
 obtain⟨⟨g0,g1,g2,g3,g4⟩,_,sq⟩:=dm pk;have pT:=rn.out W3;have rB:=zH pS;have rI:=zH pk;clear D J pS pk;rw[pj] at pT
 go_upto_region 4 with(fail)
 clear pT;obtain⟨K,q⟩:=zE (W3.alloc (oB #[Z U 0,Z U 0,oe ⟨#[]⟩,oe ⟨#[]⟩,ot ob 0 0,Z U t.ln,Z U t.cl] 313));rw[q];have R:=zD q rB;have sr:K.heap.size=G+2:=by rw[<-q];simp[pj]
 have pZ:K.heap[G+1]?=oa (oB #[Z U 0,Z U 0,oe ⟨#[]⟩,oe ⟨#[]⟩,ot ob 0 0,Z U t.ln,Z U t.cl] 313 (0,0)):=by rw[<-q,<-pj];exact alloc_at _ _
 have pl:K.heap[G]?=oa (oB #[Z U 2,oe t.text,Z U t.n,Z U t.ln,Z U t.cl] 263 (0,0)):=by rw[<-q];exact(bt _ _ G (by omega)).trans rI.out
 have qe:=(R.block N (by have:=pi.out;omega)).trans rv.out;have h4:=H1.out.grow R;have rK:=zH (pD.out K R);have Y:=zH R;have qk:=zH pZ;have sx:=zH pl;have qn:=zH qe;have H4:=zH h4;obtain⟨⟨g0,g1,g2,g3,g4⟩,_,sy⟩:=dm pl;clear q R pZ pl qe h4 pD pb
 go_upto_region 19 with(first
  |(go_at_call 171;refine rK.out.mono ?_;rintro e w2 ⟨rfl,rfl⟩)
  |(go_at_call 172;refine(pd.out K Y.out).mono ?_;rintro e W6 ⟨rfl,g⟩;have pm:=zH (Y.out.trans (g.mono Y.out.size));have qq:=zH g;clear g))
 go_upto_region 20 with(go_at_call 172;refine(pf.out W6 pm.out).mono ?_;rintro e v ⟨rfl,qr⟩;have oS:=zH (qq.out.trans (qr.mono qq.out.size));clear qr)
 have h7:=H4.out.grow oS.out;have pn:=(oS.out.block (G+1) (aa qk.out)).trans qk.out;have qs:=(oS.out.block N (aa qn.out)).trans qn.out;obtain⟨c0,c1,c3,f1,hr⟩:=h7.cells;obtain⟨⟨e0,e1,e2,e3,e4,e5,e6⟩,⟨q0,q1,q2,q3,q4,q5,q6⟩,rL⟩:=bR pn;have H7:=zH h7;have rN:=zH pn;have rS:=zH qs;clear h7 pn qs
 go_upto_region 22 with(fail)
 obtain⟨W8,oR⟩:=zE ((v.setCell ⟨r,1,ob⟩ (Z U ((i:ct)+1))).setCell ⟨G+1,0,ob⟩ (Z U 7));rw[oR];have qt:aR r lb cap T (i+1) w W8:=by
  have a:aR r lb cap T (i+1) v (v.setCell ⟨r,1,ob⟩ (Z U ((i:ct)+1))):=⟨H7.out.step,Ext.set1 v r 1 _⟩
  have hx:Ext (·=G+1) (v.setCell ⟨r,1,ob⟩ (Z U ((i:ct)+1))) W8:=by rw[<-oR];exact ae (Ext.refl _ _) _
  have se:bj w.heap.size w v:=by rw[b];exact rr.out.trans ((Y.out.trans (oS.out.mono Y.out.size)).mono (by rw[pi.out];omega))
  exact⟨a.1.ext hx (by omega) (by have:=ph.out;omega),(aR.grown se a).2.trans hx (λk o=> .inr (by omega))⟩
 have qu:W8.heap[G+1]?=oa (oB #[Z U 7,Z U 0,oe ⟨#[]⟩,oe ⟨#[]⟩,ot ob 0 0,Z U t.ln,Z U t.cl] 313 (0,0)):=by
  rw[<-oR];exact aq _ (G+1) 0 _ _ _ ((cH _ _ _ (G+1) (by show G+1≠r;omega)).trans rN.out)
 have qv:W8.heap[N]?=oa (oB #[Z U 0,Z U 0,oe ⟨#[]⟩,oe ⟨#[]⟩,ot ob 0 0,Z U 0,Z U 0] 313 (0,0)):=by
  rw[<-oR];exact(cH _ _ _ N (by show N≠G+1;omega)).trans ((cH _ _ _ N (by show N≠r;omega)).trans rS.out)
 have qS:=zH qt;have qT:=zH qu;have sf:=zH qv;clear oR qt qu qv c0 c1 c3 f1 hr e0 e1 e2 e3 e4 e5 e6 q0 q1 q2 q3 q4 q5 q6 rL
 go_upto_region 35 with(go_at_call 208;refine(rk.out W8 qS.out.1).mono ?_;rintro e W9 ⟨rfl,j⟩;have po:=zH j;have ra:=j.2.heap qT.out (by omega);obtain⟨⟨e0,e1,e2,e3,e4,e5,e6⟩,⟨q0,q1,q2,q3,q4,q5,q6⟩,sB⟩:=bR ra;clear j ra)
 obtain⟨W5,oT⟩:=zE (W9.setCell ⟨G+1,2,ob⟩ (oe u.text));rw[oT];have oX:Ext (·=G+1) W9 W5:=by rw[<-oT];exact ae (Ext.refl _ _) _
 have j:=qS.out.trans po.out;have rb:aR r lb cap T (i+1+1) w W5:=⟨j.1.ext oX (by omega) (by have:=ph.out;omega),j.2.trans oX (λk o=> .inr (by omega))⟩
 have rc:W5.heap[G+1]?=oa (oB #[Z U 7,Z U 0,oe u.text,oe ⟨#[]⟩,ot ob 0 0,Z U t.ln,Z U t.cl] 313 (0,0)):=by
  rw[<-oT];exact aq _ (G+1) 2 _ _ _ (po.out.2.heap qT.out (by omega))
 have re:W5.heap[N]?=oa (oB #[Z U 0,Z U 0,oe ⟨#[]⟩,oe ⟨#[]⟩,ot ob 0 0,Z U 0,Z U 0] 313 (0,0)):=oX.heap (po.out.2.heap sf.out (by omega)) (by omega);clear oX j;obtain⟨⟨e0,e1,e2,e3,e4,e5,e6⟩,⟨q0,q1,q2,q3,q4,q5,q6⟩,sE⟩:=bR rc;have rh:=zH rb;have rj:=zH re;clear rb rc re;clear oT
 go_wp2_with (go_at_call 273;refine(rl.out W5 rh.out.1).mono ?_;rintro e w6 ⟨rfl,g⟩;have pm:=zH g;have pp:=(g.block N (aa rj.out)).trans rj.out;have sg:=zH pp;obtain⟨⟨p0,p1,p2,p3,p4,p5,p6⟩,⟨o0,o1,o2,o3,o4,o5,o6⟩,sL⟩:=bR pp;clear g pp)
 (try simp only[cD,Exit.then]);refine cP (cV (P:=ac) rfl _ _ N 313 _ (0,0) _ rfl (dI sg.out) eV rfl (by kernel_rfl)) rfl ?_;have hM:aR r lb cap T (i+1+1) w w6:=rh.out.grow pm.out;exact⟨rfl,hM.1.ext (bi _ _ _ _ _ _ _ _ _) (by omega) (by have:=ph.out;omega),hM.2.trans (bi _ _ _ _ _ _ _ _ _) (λk o=> .inr (by omega))⟩
def bL:ap:=⟨#[59]⟩
def uR:ap:=⟨#[45,62]⟩
theorem gM {t:Tok}{s s':ap}(h:bK t s=oc)(a:s≠s'):bK t s'=od:=by
 unfold bK at h⊢;rw[fk] at h;have e:t.text=s:=eq_of_beq h.2;rw[e,cL.2 a,Bool.and_false]
theorem kI {t:Tok}(a:t.kind≠2)(b:t.kind≠4)(l:bh ap):jk t l=od:=by
 unfold jk;rw[j9];intro s _;unfold bK;rw[cL.2 a,cL.2 b];simp
theorem jc {t:Tok}{s:ap}(h:bK t s=oc){l:bh ap}(a:∀x∈l,s≠x):jk t l=od:=by
 unfold jk;rw[j9];intro x b;rw[gM h (a x b)];simp
inductive di (T:bh Tok) (i:bw):Ex->bw->Prop
 |num (t:Tok):T[i]?=oa t->t.kind=3->di T i ⟨1,t.n,⟨#[]⟩,t.ln,t.cl⟩ (i+1)
 |var (t u:Tok):T[i]?=oa t->t.kind=1->T[i+1]?=oa u->bK u dh=od->di T i ⟨2,0,t.text,t.ln,t.cl⟩ (i+1)
 |new (t u:Tok):T[i]?=oa t->t.kind=2->bK t yh=oc->T[i+1]?=oa u->u.kind=1->di T i ⟨7,0,u.text,t.ln,t.cl⟩ (i+1+1)
theorem di.first {T:bh Tok}{i k:bw}{e:Ex}(h:di T i e k):∃t,T[i]?=oa t/\(t.kind=3\/t.kind=1\/bK t yh=oc)/\i<k:=by
 cases h with
 |num t a b=>exact⟨t,a,.inl b,by omega⟩
 |var t u a b=>exact⟨t,a,.inr (.inl b),by omega⟩
 |new t u a b d=>exact⟨t,a,.inr (.inr d),by omega⟩
theorem lZ {r lb cap:bw}{T:bh Tok}{i k:bw}{e:Ex}(d:ct)(w:World)(h:Rd r lb cap T i w)(j:di T i e k):
  et ac 278 #[ox (oa ⟨r,0,ob⟩),Z U d] w λo w'=>o= oE (oA e.cells)/\aR r lb cap T k w w':=by
 cases j with
 |num t a b=>exact oV d w h a b
 |var t u a b f g=>exact oW d w h a b f g
 |new t u a b f g q=>exact oZ d w h a b f (gM f (by decide)) g q
theorem o7 {r lb cap:bw}{T:bh Tok}{i k:bw}{e:Ex}{z:Tok}(d:ct)(w:World)(h:Rd r lb cap T i w)(j:di T i e k)(hz:T[k]?=oa z)(hs:bK z bL=oc):
  et ac 276 #[ox (oa ⟨r,0,ob⟩),Z U d] w λo w'=>o= oE (oA e.cells)/\aR r lb cap T k w w':=by
 obtain⟨N,a⟩:=zE w.heap.size;obtain⟨W1,f⟩:=zE ((w.alloc (oB #[Z U 0,Z U 0,oe ⟨#[]⟩,oe ⟨#[]⟩,ot ob 0 0,Z U 0,Z U 0] 313)).alloc (oB #[oe ⟨#[45]⟩,oe ⟨#[33]⟩] 9));have q:=oL f a;have oX:W1.heap.size=N+2:=by rw[<-f];simp[a]
 have oY:=uG f a;have pb:=wy f a;have u:=h.grow (by rw[a];exact q);obtain⟨t,ht,pc,qe⟩:=j.first
 have v:=d9 (N+1) 2 [⟨#[45]⟩,⟨#[33]⟩] W1 u ht (by decide) (by omega) (λk x b=>by
  rw[ci _ _ _ _ _ _ pb]
  match k,b with
  |0,b=>simp at b;subst b;rfl
  |1,b=>simp at b;subst b;rfl)
 have pd:jk t [⟨#[45]⟩,⟨#[33]⟩]=od:=by
  rcases pc with h|h|h
  ·exact kI (by omega) (by omega) _
  ·exact kI (by omega) (by omega) _
  ·exact jc h (by decide)
 rw[pd] at v;have pB:=zH v;have y:∀W,Rd r lb cap T i W->et ac 278 #[ox (oa ⟨r,0,ob⟩),Z U d] W λo w'=>o= oE (oA e.cells)/\aR r lb cap T k W w':=λW A=>lZ d W A j;have D:cr (∀W,Rd r lb cap T k W->zP 172 #[ox (oa ⟨r,0,ob⟩),oe uR] W (oy (bK z uR))):=λW A=>aL _ W A hz;rw[gM hs (by decide)] at D;unfold uR at D;unfold Ex.cells at y⊢;have pD:=zH y;have hst:∀(w:World)(c:cC bo),c.size=7->(cM ⟨w.heap.size,0,ob⟩ [Z U e.kind,Z U e.n,oe e.nm,oe ⟨#[]⟩,ot ob 0 0,Z U e.ln,Z U e.cl] 0).run ac (w.alloc (oB c 313))= .ok () (w.alloc (oB #[Z U e.kind,Z U e.n,oe e.nm,oe ⟨#[]⟩,ot ob 0 0,Z U e.ln,Z U e.cl] 313)):=λw c hc=>
  cf (P:=ac) w 313 c #[Z U e.kind,Z U e.n,oe e.nm,oe ⟨#[]⟩,ot ob 0 0,Z U e.ln,Z U e.cl] (by show _=oa 7;kernel_rfl) hc (by simp[bp])
 have pH:=zH hst;have qk:r<N:=by rw[<-a];exact h.rlt
 have pL:cr (lb<N):=by unfold cr;rw[<-a];exact h.lt
 have pN:=zH f;have pP:=zH q;have pf:=zH oX;have pS:=zH oY;have H1:=zH u;clear h j hz hs f q oX oY pb u ht pc v pd y hst;go_enter func276,ntmps276
 go_upto_region 8 with(go_at_call 260;rw[pN.out];refine pB.out.mono ?_;rintro e w2 ⟨rfl,ph⟩;have J:=zH ph;clear ph)
 have H2:=zH (H1.out.grow J.out);have pi:=zH ((J.out.block N (by rw[pf.out];omega)).trans pS.out)
 go_upto_region 9 with(go_at_call 278;refine(pD.out w2 H2.out).mono ?_;rintro e K ⟨rfl,pj⟩;have R:=zH pj;have pT:=pH.out K;clear pj)
 clear pT;obtain⟨G,Y⟩:=zE K.heap.size;obtain⟨W4,g⟩:=zE (K.alloc (oB #[Z U e.kind,Z U e.n,oe e.nm,oe ⟨#[]⟩,ot ob 0 0,Z U e.ln,Z U e.cl] 313));rw[Y,g];have oR:=jJ g;have pk:bj w.heap.size w w2:=by rw[a];exact pP.out.trans (J.out.mono (by rw[pf.out];omega))
 have pl:aR r lb cap T k w W4:=(aR.grown pk R.out).grow oR;have pm:W4.heap[G]?=oa (oB #[Z U e.kind,Z U e.n,oe e.nm,oe ⟨#[]⟩,ot ob 0 0,Z U e.ln,Z U e.cl] 313 (0,0)):=by rw[<-g,<-Y];exact alloc_at _ _
 have pn:=(oR.block N (aa (R.out.2.heap pi.out (by omega)))).trans (R.out.2.heap pi.out (by omega));have po:=zH pl;have pp:=zH pm;have pw:=zH pn;clear Y g oR pk pl pm pn
 go_loopw [9] (λ_ wr=>wr=W4) (λ_ _=>0)
 case atStart=>rfl
 case round=>
  obtain rfl:=hrel
  go_upto_region 14 with(go_at_call 172;refine(D.out _ po.out.1).mono ?_;rintro e w5 ⟨rfl,px⟩;have oS:=zH px;clear px)
  have py:=(oS.out.block G (aa pp.out)).trans pp.out;have oT:=(oS.out.block N (aa pw.out)).trans pw.out;have pZ:=zH oT;obtain⟨⟨g0,g1,g2,g3,g4,g5,g6⟩,_,qn⟩:=bR py;obtain⟨⟨p0,p1,p2,p3,p4,p5,p6⟩,⟨o0,o1,o2,o3,o4,o5,o6⟩,qq⟩:=bR oT;clear py oT;go_wp2;(try simp only[cD,Exit.then]);refine cP (cV (P:=ac) rfl _ _ N 313 _ (0,0) _ rfl (dI pZ.out) eV rfl (by kernel_rfl)) rfl ?_;have hM:aR r lb cap T k w w5:=po.out.grow oS.out;exact⟨rfl,hM.1.ext (bi _ _ _ _ _ _ _ _ _) (by omega) (by have:=pL.out;omega),hM.2.trans (bi _ _ _ _ _ _ _ _ _) (λk hk=> .inr (by omega))⟩
end Go.Proofs.YtjomgckjhcfbgaaGreat
