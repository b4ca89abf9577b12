/- Walks. -/
import Derived.Deep.QuietTactic
import Derived.BigQuiet
import Derived.Test.YtjomgckjhcfbgaaGreatX0
set_option maxRecDepth 100000
set_option maxHeartbeats 64000000
set_option linter.all false
namespace Go.Proofs.YtjomgckjhcfbgaaGreat
open Go.RowKit
open Go.Proofs.Tryz renaming prog→ac,underlying32→dr,underlying263→gd,underlying313→gn,underlying40→li,underlying113→mL
open _root_.List renaming getElem?_eq_getElem→am,getElem?_eq_some_iff→bl,mem_of_getElem?→ce,length_append→co,mem_append→cC,take_length→cT,eq_nil_of_length_eq_zero→cY,flatMap_append→el,append_assoc→eE,map_append→eS,any_eq_true→ju,append_nil→kh,any_eq_false→kp,take_add_one→lP
open Go.RowKit.Below renaming refl→an,heap_alloc→bt,heap_setCell→cQ
open Go.RowKit renaming Below→aq,Hid→ca,ownsRow_setCell_below→i5
open _root_ renaming ByteArray→aw,List→bm,Nat→cd,Int→cj,decide_eq_false→cv,if_neg→cw,Array→cG,if_pos→cI,beq_eq_false_iff_ne→cR,Option→du,decide_eq_true→dy,absurd→fL,False→jp,decide_eq_true_eq→js,iff_of_false→nj,of_decide_eq_true→nr
open Go renaming heap_setCell_same→aE,cell_of_row→bh,Value→bw,run_storeCells_new→cf,storeCells→cU,bodyPost_ret→da,wpQuiet_nil→db,frozen_of_row→dg,maxLen→dl,results_cell_row→dv,beq_toListBytes→eL,Calls→ft,heap_alloc2_old→fN,TypeId→ge,Oper→ij,Program→i8,heap_alloc2_new→jn,info_parts→ld,Addr→oA,bytes→oE
open _root_.Nat renaming le_refl→bp,lt_of_lt_of_le→cn,le_trans→cE,zero_le→cJ,add_zero→kO,not_lt_zero→qe
open Go.Value renaming oneCell'→br,string→em,int→eC,string→qT,slice→ra,pointer→rb,bool→re,agg→rh,int→Z
open Go.Exit renaming inBlock→cL
open _root_.Option.some renaming inj→cX
open _root_.Bool renaming and_eq_true→eK,true→qv,false→qS
open Go.Result renaming andThen→eV
open _root_.Option renaming map_eq_some_iff→gw,some→qt,none→qu
open Go.Builtin renaming append_→gA
open Go.Oper renaming wp→km
open _root_.ByteArray renaming size_extract→mw
open Go.ByteArray renaming toList_eq→mN
open Go.Ending renaming returned→pB,returned→rk
open Go.IntKind renaming i64→qr,i64→U
open Go.Obj renaming cells→rj
open Tryz
theorem aB {P:i8}{w:World}{o:ij}{a:Act}{Q:Exit->Act->World->Prop}{K:Act->World->Prop}(s x:Operand)(t:ge)
  (ho:o.op= .call {callee:= .builtin .append,args:=#[s,x],argTypes:=#[t,t]})(base:cd)(e:ge)(i:TypeInfo)(z:bw)(size oE:cd)(ht:P.underlying t=qt (.slice e))(hi:P.info? e=qt i)(hz:i.zero=qt z)
  (rl:i.size=size)(rm:i.bytes=oE)(rn:z.cells.size=size)(rr:0<size)
  (v:bw)(n:cd)(xs:bm bw)(hs:a.eval s=v)(G:w.ownsRow base e size v n xs)
  (q:du oA)(m c:cd)(f:bm bw)(hx:a.eval x= ra q m c)(hl:f.length=m*size)(rv:q=qu->m=0)(rx:∀y,q=qt y->∀j u,f[j]?=qt u->w.cell? (y.add j)=qt u)(h1:∀u∈f,u.oneCell'=qv)
  (rB:n+m<=dl)(rI:(n+m)*oE<=140737488355328)(rK:base<=w.heap.size)
  (h:∀d w',w'.ownsRow base e size d (n+m) (xs++f)->w.grownBy w' v.ownBlock->(∀k,d.ownBlock=qt k->v.ownBlock=qt k\/w.heap.size<=k)->K (a.put o.dst d) w'):km P o a w K Q:=by
 have rL:∃d w',(gA #[t,t] o.type #[v,ra q m c]).run P w= .ok d w'/\w'.ownsRow base e size d (n+m) (xs++f)/\w.grownBy w' v.ownBlock/\(∀k,d.ownBlock=qt k->v.ownBlock=qt k\/w.heap.size<=k):=by
  cases q with
  |none=>
   obtain rfl:=rv rfl;have hn:f=[]:=cY (by omega);subst hn;exact⟨v,w,run_append_nil w base t o.type e i size ht hi v n xs G c,by simpa using G,World.grownBy.refl w _,λk A=> .inl A⟩
  |some y=>
   obtain⟨d,w',J,R,r3,_,D⟩:=run_append_own_at w base t o.type e i z size oE ht hi hz rl rm rn rr v n xs G y m c f hl (rx y rfl) h1 rB rI rK;refine⟨d,w',J,R,r3,λk A=> ?_⟩;rcases D with D|D
   ·exact .inl (by rw[<-D];exact A)
   ·right;rw[D] at A;simp at A;omega
 obtain⟨d,w',J,R,r3,r4⟩:=rL;unfold km;simp[execOp,ho,resolve,invoke,builtin,hs,hx,J,eV];exact h _ _ R r3 r4
def dV (c:cj):Bool:=decide (65<=c)&&decide (c<=90)||decide (97<=c)&&decide (c<=122)||decide (c=95)
def ig (c:cj):Bool:=decide (48<=c)&&decide (c<=57)
def dP (s:aw)(i:cd):cj:=if h:i<s.size then((s[i]'h).toNat:cj) else 0
theorem fu {b:Bool}{p:Prop}{x:Bool}(d:x=qv↔p)(h:b=qv↔p):pB (re b)= rk (re x):=by
 rw[Bool.eq_iff_iff.2 (h.trans d.symm)]
theorem xN (c:cj):dV c=qv↔(65<=c/\c<=90\/97<=c/\c<=122)\/c=95:=by unfold dV;simp
theorem sK (c:cj):ig c=qv↔48<=c/\c<=57:=by unfold ig;simp
theorem fw (c:cj)(w:World):zS 203 #[.int .u8 c] w (re (dV c)):=by
 have d:=zH (xN c);go_enter func203,ntmps203
 by_cases u:65<=c
 ·by_cases v:c<=90
  ·go_wp2
   go_ret;exact⟨fu d.out (iff_of_true rfl (by omega)),rfl⟩
  ·by_cases q:97<=c
   ·by_cases y:c<=122
    ·go_wp2
     go_ret;exact⟨fu d.out (iff_of_true rfl (by omega)),rfl⟩
    ·have f:(c==95)=qS:=by rw[cR];omega
     go_wp2;go_ret;exact⟨fu d.out (nj (λh=>by cases h) (by omega)),rfl⟩
   ·by_cases o:c=95
    ·subst o
     go_wp2;go_ret;exact⟨fu d.out (iff_of_true rfl (by simp)),rfl⟩
    ·have f:(c==95)=qS:=by rw[cR];exact o
     go_wp2;go_ret;exact⟨fu d.out (nj (λh=>by cases h) (by omega)),rfl⟩
 ·have q:¬97<=c:=by omega
  have f:(c==95)=qS:=by rw[cR];omega
  go_wp2;go_ret;exact⟨fu d.out (nj (λh=>by cases h) (by omega)),rfl⟩
theorem iN (c:cj)(w:World):zS 204 #[.int .u8 c] w (re (ig c)):=by
 have d:=zH (sK c);go_enter func204,ntmps204
 by_cases f:48<=c
 ·by_cases o:c<=57
  ·go_wp2
   go_ret;exact⟨fu d.out (iff_of_true rfl (by omega)),rfl⟩
  ·go_wp2
   go_ret;exact⟨fu d.out (nj (λh=>by cases h) (by omega)),rfl⟩
 ·go_wp2
  go_ret;exact⟨fu d.out (nj (λh=>by cases h) (by omega)),rfl⟩
def gI:bm aw:=[⟨#[105,110,116]⟩,⟨#[115,116,114,117,99,116]⟩,⟨#[105,102]⟩,⟨#[101,108,115,101]⟩,⟨#[119,104,105,108,101]⟩,⟨#[98,114,101,97,107]⟩,⟨#[99,111,110,116,105,110,117,101]⟩,⟨#[114,101,116,117,114,110]⟩,⟨#[102,114,101,101]⟩,⟨#[112,117,116]⟩,⟨#[110,101,119]⟩,⟨#[110,117,108,108]⟩,⟨#[103,101,116]⟩]
theorem qV (w:World):ft ac 240 #[] w λe w'=>e= rk (ra (qt ⟨w.heap.size,0,qu⟩) 13 13)/\w'=w.alloc (rj (gI.map em).toArray 9):=by
 have d:(gI.map em).toArray=#[qT ⟨#[105,110,116]⟩,qT ⟨#[115,116,114,117,99,116]⟩,qT ⟨#[105,102]⟩,qT ⟨#[101,108,115,101]⟩,qT ⟨#[119,104,105,108,101]⟩,qT ⟨#[98,114,101,97,107]⟩,qT ⟨#[99,111,110,116,105,110,117,101]⟩,qT ⟨#[114,101,116,117,114,110]⟩,qT ⟨#[102,114,101,101]⟩,qT ⟨#[112,117,116]⟩,qT ⟨#[110,101,119]⟩,qT ⟨#[110,117,108,108]⟩,qT ⟨#[103,101,116]⟩]:=rfl;rw[d];clear d;go_enter func240,ntmps240;go_wp2;go_ret;exact⟨rfl,rfl⟩
def gJ (s:aw):Bool:=gI.any λx=>x==s
theorem uh (s:aw)(w:World):zP 205 #[qT s] w (re (gJ s)):=by
 obtain⟨N,u⟩:=zE w.heap.size;obtain⟨v,o⟩:=zE (w.alloc (rj (gI.map em).toArray 9));have J:=zH (qV w);rw[u,o] at J;have A:=gQ o u;have K:v.heap[N]?=qt (rj (gI.map em).toArray 9 (0,0)):=by rw[<-o,<-u];exact alloc_at _ _
 have HC:ca (∀(j:cd)(x:aw),gI[j]?=qt x->v.cell? ⟨N,j,qu⟩=qt (qT x)):=λj x f=>by
  rw[bh _ _ _ _ _ _ K];simp[f]
 have HB:=zH A;have R:ca (gI.length=13):=rfl;have HP:ca (∀b:Bool,b=gJ s->(pB (re b)= rk (re (gJ s))/\aq N w v)):=λb hb=>by rw[hb];exact⟨rfl,A⟩
 clear o A K;go_enter func205,ntmps205
 go_wp2_with (go_at_call 240;refine J.out.mono ?_;rintro e w2 ⟨rfl,rfl⟩)
 go_loop [4] (λk=>∃j:cd,j<=13/\k= Z U (j:cj)/\∀x∈gI.take j,(x==s)=qS) (λk=>13-(intOf k).toNat)
 case atStart=>exact⟨0,cJ _,rfl,by simp⟩
 case round=>
  obtain⟨j,hj,rfl,q⟩:=hrel
  by_cases rl:j<13
  ·obtain⟨y,D⟩:∃y,gI[j]?=qt y:=⟨_,am (by rw[R.out];exact rl)⟩
   have d1:=HC.out j y D;have rn:(j:cj)<13:=by omega
   obtain⟨d,G⟩:=zE (y==s);have hd:(y.toList==s.toList)=d:=by rw[<-eL];exact G
   have HZ:=zH q;have HY:=zH D;have HD:=zH G;clear D q G;cases d with
   |true=>
    go_wp2;go_ret;refine HP.out qv ?_;unfold gJ;exact(ju.2 ⟨y,ce HY.out,HD.out⟩).symm
   |false=>
    go_wp2
    go_round
    case rel=>
     refine⟨j+1,by omega,by go_num,λx f=> ?_⟩;rw[lP,HY.out] at f;rcases cC.1 f with h|h
     ·exact HZ.out x h
     ·have e:x=y:=by simpa using h
      rw[e];exact HD.out
    case measure=>simp[intOf];omega
  ·have rm:j=13:=by omega
   subst rm;have HM:ca (qS=gJ s):=by
    unfold ca gJ;rw[eq_comm,kp];intro x f;have:=q x (by rw[List.take_of_length_le (by rw[R.out];exact bp _)];exact f);rw[this];simp
   clear q;go_wp2;go_ret;exact HP.out qS HM.out
def isSp (c:cj):Bool:=c==32||c==9||c==10
def eP (s:aw):cd->cd->cd
 |0,i=>i
 |n+1,i=>if isSp (dP s i)=qv then eP s n (i+1) else i
def bO (s:aw):cd->cd->cd
 |0,k=>k
 |n+1,k=>if (dV (dP s k)||ig (dP s k))=qv then bO s n (k+1) else k
theorem jV (s:aw):∀(n i:cd),i<=eP s n i/\eP s n i<=i+n
 |0,i=>by simp[eP]
 |n+1,i=>by
  unfold eP
  split
  ·have:=jV s n (i+1);omega
  ·omega
theorem fT (s:aw):∀(n i:cd),i<=bO s n i/\bO s n i<=i+n
 |0,i=>by simp[bO]
 |n+1,i=>by
  unfold bO
  split
  ·have:=fT s n (i+1);omega
  ·omega
def eB:bm aw:=[⟨#[45,62]⟩,⟨#[60,61]⟩,⟨#[62,61]⟩,⟨#[61,61]⟩,⟨#[33,61]⟩,⟨#[43]⟩,⟨#[45]⟩,⟨#[42]⟩,⟨#[47]⟩,⟨#[37]⟩,⟨#[60]⟩,⟨#[62]⟩,⟨#[33]⟩,⟨#[61]⟩,⟨#[40]⟩,⟨#[41]⟩,⟨#[123]⟩,⟨#[125]⟩,⟨#[44]⟩,⟨#[59]⟩]
structure Tok where
 kind:cj
 text:aw
 n:cj
 ln:cj
 cl:cj
def Tok.cells (t:Tok):cG bw:=#[Z U t.kind,qT t.text,Z U t.n,Z U t.ln,Z U t.cl]
abbrev xG:=cj×aw×cj
def Tok.sig (t:Tok):xG:=(t.kind,t.text,t.n)
def fB (s:aw)(i:cd)(g:aw):Bool:=decide (g.size<=s.size-i)&&(s.extract i (i+g.size)==g)
def xO (s:aw)(i:cd):du xG:=
 if dV (dP s i)=qv then
  (if bO s (s.size-i) i<=i+40 then qt (if gJ (s.extract i (bO s (s.size-i) i))=qv then 2 else 1,s.extract i (bO s (s.size-i) i),0) else qu)
 else if ig (dP s i)=qv then
  (if i+1<s.size/\(ig (dP s (i+1))||dV (dP s (i+1)))=qS then qt (3,s.extract i (i+1),dP s i-48) else qu)
 else(eB.find? (fB s i)).map λg=>(4,g,0)
def jW (s:aw):cd->cd->du (bm xG)
 |0,_=>qu
 |n+1,i=>if i<s.size then(match xO s i with
   |some t=>(jW s n (eP s (s.size-(i+t.2.1.size)) (i+t.2.1.size))).map (t::·)
   |none=>qu)
  else qt []
theorem jb {s:aw}{j:cd}(h:j<s.size):((s[j]'h).toNat:cj)=dP s j:=by unfold dP;rw[dif_pos h]
def lW (s:aw):Prop:=∀i,dP s i≠47
theorem ui (s:aw)(i:cd)(w:World)(K:lW s)(hs:s.size<=9000000)(hi:i<=s.size):
  zS 166 #[qT s,Z U (i:cj)] w (Z U (eP s (s.size-i) i:cd)):=by
 obtain⟨R,y⟩:=zE (eP s (s.size-i) i);rw[y];have rn:=zH K;have A:=zH y;clear K y;go_enter func166,ntmps166;go_wp2
 go_loop [1] (λk=>∃j:cd,j<=s.size/\k= Z U (j:cj)/\eP s (s.size-j) j=R) (λk=>s.size-(intOf k).toNat)
 case atStart=>exact⟨i,hi,rfl,A.out⟩
 case round=>
  obtain⟨j,hj,rfl,d⟩:=hrel
  by_cases rl:j<s.size
  ·have rx:(j:cj)<(s.size:cj):=by omega
   obtain⟨c,h⟩:=zE (((s[j]'rl).toNat:cj):cj);have o:dP s j=c:=by rw[<-jb rl];exact h
   have D:c≠47:=by rw[<-o];exact rn.out j
   have G:s.size-j=s.size-(j+1)+1:=by omega
   rw[G] at d;unfold eP at d;rw[o] at d;have f47:(c==47)=qS:=by rw[cR];exact D
   by_cases f:isSp c=qv
   ·rw[cI f] at d
    have HZ:=zH d;unfold isSp at f;obtain⟨b1,q⟩:=zE (c==32);obtain⟨b2,u⟩:=zE (c==9);obtain⟨b3,v⟩:=zE (c==10);rw[q,u,v] at f;have rm:=zH f;clear d f o D f47 G;rw[<-h] at q u v;clear h;have HN:ca (∃k:cd,k<=s.size/\eC .i64 ((j:cj)+1)= Z U (k:cj)/\eP s (s.size-k) k=R):=⟨j+1,by omega,by simp,HZ.out⟩
    clear HZ;cases b1<;>cases b2<;>cases b3<;>first
     |(exact fL rm.out (by decide))
     |(clear rm;go_wp2;go_round;case rel=>exact HN.out
       case measure=>simp[intOf];omega)
   ·rw[cw f] at d
    subst d;have J:isSp c=qS:=by simpa using f
    unfold isSp at J;simp only[Bool.or_eq_false_iff] at J;obtain⟨⟨q,u⟩,v⟩:=J;clear f o D G A;rw[<-h] at q u v f47;clear h
    by_cases rB:j+1<s.size
    ·have rr:(j:cj)+1<(s.size:cj):=by omega
     go_wp2;go_ret;exact⟨rfl,rfl⟩
    ·have rr:¬(j:cj)+1<(s.size:cj):=by omega
     go_wp2;go_ret;exact⟨rfl,rfl⟩
  ·have rv:j=s.size:=by omega
   subst rv;rw[Nat.sub_self] at d;unfold eP at d;subst d;clear A;go_wp2;go_ret;exact⟨rfl,rfl⟩
def zm (w:World)(e:Ending)(w':World):Prop:=∃a b:cj,e= rk (rh #[Z U a,Z U b])/\0<=a/\a<=9000001/\0<=b/\b<=9000001/\aq w.heap.size w w'
def Dt (W:World)(N:cd)(w:World)(j:cd)(wr:World):Prop:=∃a b:cj,0<=a/\a<=(j:cj)+1/\0<=b/\b<=(j:cj)+1/\wr.heap[N]?=qt (rj #[Z U 0,Z U 0] 40 (0,0))/\wr.heap[N+1]?=qt (rj #[Z U a,Z U b] 40 (0,0))/\aq N w wr/\wr.heap.size=W.heap.size
theorem qW (s:aw)(n:cd)(w:World)(hs:s.size<=9000000)(hn:n<=s.size):
  ft ac 167 #[qT s,Z U (n:cj)] w (zm w):=by
 obtain⟨N,d⟩:=zE w.heap.size;have hst:∀(w:World)(c:cG bw),c.size=2->(cU ⟨w.heap.size,0,qu⟩ [Z U 1,Z U 1] 0).run ac (w.alloc (rj c 40))= .ok () (w.alloc (rj #[Z U 1,Z U 1] 40)):=λw c hc=>
  cf (P:=ac) w 40 c #[Z U 1,Z U 1] (by show _=qt 2;kernel_rfl) hc (by simp[br])
 go_enter func167,ntmps167;go_wp2;clear hst;obtain⟨q,f⟩:=zE ((w.alloc (rj #[Z U 0,Z U 0] 40)).alloc (rj #[Z U 1,Z U 1] 40));have h0:Dt q N w 0 q:=⟨1,1,by omega,by omega,by omega,by omega,by rw[<-f,<-d];exact fN _ _ _,by rw[<-f,<-d];exact jn _ _ _,by rw[<-f,<-d];exact((an _ _).alloc (bp _) _).alloc (by simp) _,rfl⟩
 rw[f];have y:N+1<q.heap.size:=by rw[<-f];simp[d]
 have HN:=zH d;have H0:=zH h0;have rr:=zH y;clear f d h0 y
 go_loopw [6] (λk wr=>∃j:cd,j<=n/\k= Z U (j:cj)/\Dt q N w j wr) (λk _=>n-(intOf k).toNat)
 case atStart=>exact⟨0,cJ _,rfl,H0.out⟩
 case round=>
  obtain⟨j,hj,rfl,a,b,rl,ha,rm,hb,h,o,A,D⟩:=hrel;have u:=zH A;have G:=zH D;have c0:=zR o 0 (Z U a);have c1:=zR o 1 (Z U b);have f0:wr.frozen? ⟨N+1,0,qu⟩=qS:=dg _ _ _ _ _ o;have f1:wr.frozen? ⟨N+1,1,qu⟩=qS:=dg _ _ _ _ _ o;have k0:=zR h 0 (Z U 0);have k1:=zR h 1 (Z U 0);have g0:wr.frozen? ⟨N,0,qu⟩=qS:=dg _ _ _ _ _ h;have g1:wr.frozen? ⟨N,1,qu⟩=qS:=dg _ _ _ _ _ h;have v:=zH h;have J:=zH o;clear A D h o
  by_cases rv:j<n
  ·have rn:(j:cj)<(n:cj):=by omega
   have K:j<s.size:=by omega
   by_cases R:(((s[j]'K).toNat:cj)==10)=qv
   ·go_wp2
    go_roundw
    case rel=>
     refine⟨j+1,by omega,by go_num,a+1,1,by omega,by omega,by omega,by omega, ?_,bf J.out, ?_, ?_⟩
     ·exact(cQ _ _ _ N (by show N≠N+1;omega)).trans ((cQ _ _ _ N (by show N≠N+1;omega)).trans v.out)
     ·exact(u.out.setCell (by show N<=N+1;omega) _).setCell (by show N<=N+1;omega) _
     ·simp[G.out]
    case measure=>simp[intOf];omega
   ·have rx:(((s[j]'K).toNat:cj)==10)=qS:=by simpa using R
    clear R;go_wp2;go_roundw
    case rel=>
     refine⟨j+1,by omega,by go_num,a,b+1,by omega,by omega,by omega,by omega, ?_, ?_, ?_, ?_⟩
     ·exact(cQ _ _ _ N (by show N≠N+1;omega)).trans v.out
     ·have:=aE wr (N+1) 1 _ _ (Z U (b+1)) J.out;simpa using this
     ·exact u.out.setCell (by show N<=N+1;omega) _
     ·simp[G.out]
    case measure=>simp[intOf];omega
  ·have rn:¬(j:cj)<(n:cj):=by omega
   have rB:a<=9000001:=by omega
   go_wp2;(try simp only[cL,Exit.then]);refine da (dv (P:=ac) rfl _ _ N 40 _ (0,0) _ rfl (bf v.out) li rfl (by kernel_rfl)) rfl ?_;refine⟨a,b,rfl,rl,by omega,rm,by omega, ?_⟩;rw[HN.out];exact(u.out.setCell (by show N<=N;omega) _).setCell (by show N<=N;omega) _
def zM (k:cj)(s:aw)(n:cj):bw:= rh #[Z U k,qT s,Z U n,Z U 0,Z U 0]
theorem xP (s:aw)(i:cd)(w:World)(hs:s.size<=9000000)(hi:i<s.size)(hl:dV (dP s i)=qv)(tf:bO s (s.size-i) i<=i+40):
  zP 168 #[qT s,Z U (i:cj)] w (.tuple #[zM (if gJ (s.extract i (bO s (s.size-i) i))=qv then 2 else 1) (s.extract i (bO s (s.size-i) i)) 0,Z U 0]):=by
 obtain⟨R,hR⟩:=zE (bO s (s.size-i) i);have rL:=fT s (s.size-i) i;rw[hR] at rL tf⊢;have tn:=rL.1;have tp:R<=s.size:=by omega
 obtain⟨wf,rN⟩:=zE (gJ (s.extract i R));rw[rN];obtain⟨kd,rS⟩:=zE ((if wf=qv then 2 else 1):cj);rw[rS];have HW:=zH (λW=>uh (s.extract i R) W);rw[rN] at HW;have sx:=zH rS;have HR:=zH hR;have sy:=jb hi;obtain⟨c,hc⟩:=zE (((s[i]'hi).toNat:cj):cj);have sB:=zH (λW=>fw c W);have sE:dV c=qv:=by rw[<-hc,sy];exact hl
 rw[sE] at sB;have HC:=zH hc;have th:=zH λc W=>fw c W;have ti:ca (∀(c:cj)(W:World),zS 204 #[.int .u8 c] W (re (ig c))):=λc W=>iN c W;obtain⟨N,hN⟩:=zE w.heap.size;obtain⟨W1,rl⟩:=zE (w.alloc (rj #[Z U 0,qT ⟨#[]⟩,Z U 0,Z U 0,Z U 0] 263));obtain⟨u,v⟩:=zE (W1.alloc (rj #[Z U 1,qT (s.extract i R),Z U 0,Z U 0,Z U 0] 263));have sL:=gQ rl hN;have rr:W1.heap.size=N+1:=by rw[<-rl];simp[hN]
 have K:aq N w u:=by rw[<-v];exact sL.alloc (by omega) _
 have tj:u.heap.size=N+2:=by rw[<-v];simp[rr]
 have sR:u.heap[N]?=qt (rj #[Z U 0,qT ⟨#[]⟩,Z U 0,Z U 0,Z U 0] 263 (0,0)):=by rw[<-v,<-rl,<-hN];exact fN _ _ _
 have sT:u.heap[N+1]?=qt (rj #[Z U 1,qT (s.extract i R),Z U 0,Z U 0,Z U 0] 263 (0,0)):=by rw[<-v,<-rr];exact alloc_at _ _
 have HK:ca (∀W,aq u.heap.size u W->W.heap[N]?=qt (rj #[Z U 0,qT ⟨#[]⟩,Z U 0,Z U 0,Z U 0] 263 (0,0))/\W.heap[N+1]?=qt (rj #[Z U 1,qT (s.extract i R),Z U 0,Z U 0,Z U 0] 263 (0,0))/\aq N w W):=λW hW=>
  ⟨(hW.block N (by omega)).trans sR,(hW.block (N+1) (by omega)).trans sT,K.trans (hW.mono (by omega))⟩
 have hst:∀(c:cG bw),c.size=5->(cU ⟨W1.heap.size,0,qu⟩ [Z U 1,qT (s.extract i R),Z U 0,Z U 0,Z U 0] 0).run ac (W1.alloc (rj c 263))= .ok () u:=λc hc=>by
  rw[<-v];exact cf (P:=ac) W1 263 c #[Z U 1,qT (s.extract i R),Z U 0,Z U 0,Z U 0] (by show _=qt 5;kernel_rfl) hc (by simp[br])
 have sX:=zH hst;have sY:=zH rr;have tl:=zH rl;have rv:=zH v;have HN:=zH hN;clear hR rL rN rS sy hc sE hl hst rl v sL K rr tj sR sT;go_enter func168,ntmps168
 go_wp2_with (go_at_call 203;(try rw[HC.out]);refine(sB.out _).mono ?_;rintro e w2 ⟨rfl,rfl⟩)
 rw[tl.out]
 go_loop [6] (λk=>∃j:cd,j<=s.size/\k= Z U (j:cj)/\bO s (s.size-j) j=R) (λk=>s.size-(intOf k).toNat)
 case atStart=>exact⟨i,by omega,rfl,HR.out⟩
 case round=>
  obtain⟨j,hj,rfl,y⟩:=hrel;have rx:ca (bO s (s.size-j) j=j->j=R):=λh=>h.symm.trans y
  by_cases se:j<s.size
  ·have tr:(j:cj)<(s.size:cj):=by omega
   obtain⟨c2,sf⟩:=zE (((s[j]'se).toNat:cj):cj);have sk:dP s j=c2:=by rw[<-jb se];exact sf
   have sn:s.size-j=s.size-(j+1)+1:=by omega
   have A:=zH sf;have rm:=zH (th.out c2);have rB:=zH (ti.out c2);obtain⟨lf,rI⟩:=zE (dV c2);obtain⟨df,rK⟩:=zE (ig c2);rw[rI] at rm;rw[rK] at rB;have sq:ca ((lf||df)=qv->∃j':cd,j'<=s.size/\eC .i64 ((j:cj)+1)= Z U (j':cj)/\bO s (s.size-j') j'=R):=λh=>⟨j+1,se,by simp,by
    rw[sn] at y;unfold bO at y;rw[sk,rI,rK,cI h] at y;exact y⟩
   have te:ca ((lf||df)=qS->j=R):=λh=>rx.out (by
    rw[sn];unfold bO;rw[sk,rI,rK,h];simp)
   clear y sf sk rI rK sn rx;cases lf with
   |true=>
    go_wp2_with (go_at_call 203;(try rw[A.out]);refine(rm.out _).mono ?_;rintro e w4 ⟨rfl,rfl⟩)
    go_round
    case rel=>exact sq.out rfl
    case measure=>simp[intOf];omega
   |false=>
    cases df with
    |true=>
     go_wp2_with (first
      |(go_at_call 203;(try rw[A.out]);refine(rm.out _).mono ?_;rintro e w4 ⟨rfl,rfl⟩)
      |(go_at_call 204;(try rw[A.out]);refine(rB.out _).mono ?_;rintro e w5 ⟨rfl,rfl⟩))
     go_round
     case rel=>exact sq.out rfl
     case measure=>simp[intOf];omega
    |false=>
     obtain rfl:j=R:=te.out rfl;clear sq te;obtain⟨d,f,K⟩:=HK.out u (an _ _);obtain⟨⟨a0,a1,a2,a3,a4⟩,⟨b0,b1,b2,b3,b4⟩,rn⟩:=d9 f;clear d f K;have hst:=sX.out;have tm:=sY.out;obtain rfl:kd=if wf=qv then 2 else 1:=sx.out.symm
     cases wf with
     |false=>
      go_wp2_with (first
       |(go_at_call 203;(try rw[A.out]);refine(rm.out _).mono ?_;rintro e w4 ⟨rfl,rfl⟩)
       |(go_at_call 204;(try rw[A.out]);refine(rB.out _).mono ?_;rintro e w5 ⟨rfl,rfl⟩)
       |(go_at_call 205;refine(HW.out _).mono ?_;rintro e D ⟨rfl,o⟩;(try rw[rv.out] at o);obtain⟨d,f,q⟩:=HK.out D o;obtain⟨⟨a0,a1,a2,a3,a4⟩,⟨b0,b1,b2,b3,b4⟩,rn⟩:=d9 f;obtain⟨⟨g0,g1,g2,g3,g4⟩,⟨f0,f1,f2,f3,f4⟩,sr⟩:=d9 d;have G:=zH d;have J:=zH q;clear o d f q))
      (try simp only[cL,Exit.then]);refine da (aI rfl _ _ N 263 _ (0,0) _ rfl (gZ G.out) gd (by kernel_rfl)) rfl ?_;(try rw[HN.out]);exact⟨rfl,eG J.out (bp _) _ _ _ _ _⟩
     |true=>
      go_wp2_with (first
       |(go_at_call 203;(try rw[A.out]);refine(rm.out _).mono ?_;rintro e w4 ⟨rfl,rfl⟩)
       |(go_at_call 204;(try rw[A.out]);refine(rB.out _).mono ?_;rintro e w5 ⟨rfl,rfl⟩)
       |(go_at_call 205;refine(HW.out _).mono ?_;rintro e D ⟨rfl,o⟩;(try rw[rv.out] at o);obtain⟨d,f,q⟩:=HK.out D o;obtain⟨⟨a0,a1,a2,a3,a4⟩,⟨b0,b1,b2,b3,b4⟩,rn⟩:=d9 f;obtain⟨⟨g0,g1,g2,g3,g4⟩,⟨f0,f1,f2,f3,f4⟩,sr⟩:=d9 d;have G:=zH d;have J:=zH q;clear o d f q))
      (try simp only[cL,Exit.then]);refine da (aI rfl _ _ N 263 _ (0,0) _ rfl (gZ ((cQ _ _ _ N (by show N≠N+1;omega)).trans G.out)) gd (by kernel_rfl)) rfl ?_;(try rw[HN.out]);exact⟨rfl,eG (J.out.setCell (by show N<=N+1;omega) _) (bp _) _ _ _ _ _⟩
  ·obtain rfl:j=s.size:=by omega
   obtain rfl:s.size=R:=rx.out (by rw[Nat.sub_self];rfl);clear y rx;obtain⟨d,f,K⟩:=HK.out u (an _ _);obtain⟨⟨a0,a1,a2,a3,a4⟩,⟨b0,b1,b2,b3,b4⟩,rn⟩:=d9 f;clear d f K;have hst:=sX.out;have tm:=sY.out;obtain rfl:kd=if wf=qv then 2 else 1:=sx.out.symm
   cases wf with
   |false=>
    go_wp2_with (first
     |(go_at_call 205;refine(HW.out _).mono ?_;rintro e D ⟨rfl,o⟩;(try rw[rv.out] at o);obtain⟨d,f,q⟩:=HK.out D o;obtain⟨⟨a0,a1,a2,a3,a4⟩,⟨b0,b1,b2,b3,b4⟩,rn⟩:=d9 f;obtain⟨⟨g0,g1,g2,g3,g4⟩,⟨f0,f1,f2,f3,f4⟩,sr⟩:=d9 d;have G:=zH d;have J:=zH q;clear o d f q))
    (try simp only[cL,Exit.then]);refine da (aI rfl _ _ N 263 _ (0,0) _ rfl (gZ G.out) gd (by kernel_rfl)) rfl ?_;(try rw[HN.out]);exact⟨rfl,eG J.out (bp _) _ _ _ _ _⟩
   |true=>
    go_wp2_with (first
     |(go_at_call 205;refine(HW.out _).mono ?_;rintro e D ⟨rfl,o⟩;(try rw[rv.out] at o);obtain⟨d,f,q⟩:=HK.out D o;obtain⟨⟨a0,a1,a2,a3,a4⟩,⟨b0,b1,b2,b3,b4⟩,rn⟩:=d9 f;obtain⟨⟨g0,g1,g2,g3,g4⟩,⟨f0,f1,f2,f3,f4⟩,sr⟩:=d9 d;have G:=zH d;have J:=zH q;clear o d f q))
    (try simp only[cL,Exit.then]);refine da (aI rfl _ _ N 263 _ (0,0) _ rfl (gZ ((cQ _ _ _ N (by show N≠N+1;omega)).trans G.out)) gd (by kernel_rfl)) rfl ?_;(try rw[HN.out]);exact⟨rfl,eG (J.out.setCell (by show N<=N+1;omega) _) (bp _) _ _ _ _ _⟩
theorem vR (s:aw)(i:cd)(w:World)(hs:s.size<=9000000)(hi:i+1<s.size)(G:dV (dP s i)=qS)(y:ig (dP s i)=qv)(J:dV (dP s (i+1))=qS)(K:ig (dP s (i+1))=qS):
  zP 168 #[qT s,Z U (i:cj)] w (.tuple #[zM 3 (s.extract i (i+1)) (dP s i-48),Z U 0]):=by
 have q:i<s.size:=by omega
 have rv:=jb q;have rx:=jb hi;obtain⟨c,R⟩:=zE (((s[i]'q).toNat:cj):cj);obtain⟨d,rl⟩:=zE (((s[i+1]'hi).toNat:cj):cj);rw[<-rv,R] at G y⊢;rw[<-rx,rl] at J K;have rB:=zH (λW=>fw c W);have rm:=zH (λW=>iN c W);have rI:=zH (λW=>fw d W);have rK:=zH (λW=>iN d W);rw[G] at rB;rw[y] at rm;rw[J] at rI;rw[K] at rK;have u:=zH R;have HD:=zH rl;obtain⟨sy,sB⟩:=(sK c).1 y;obtain⟨N,v⟩:=zE w.heap.size;obtain⟨f,h⟩:=zE (w.alloc (rj #[Z U 0,qT ⟨#[]⟩,Z U 0,Z U 0,Z U 0] 263));obtain⟨A,o⟩:=zE (f.alloc (rj #[Z U 3,qT (s.extract i (i+1)),Z U (c-48),Z U 0,Z U 0] 263));have rn:=gQ h v;have rr:f.heap.size=N+1:=by rw[<-h];simp[v]
 have se:aq N w A:=by rw[<-o];exact rn.alloc (by omega) _
 have rL:A.heap[N]?=qt (rj #[Z U 0,qT ⟨#[]⟩,Z U 0,Z U 0,Z U 0] 263 (0,0)):=by rw[<-o,<-h,<-v];exact fN _ _ _
 have rN:A.heap[N+1]?=qt (rj #[Z U 3,qT (s.extract i (i+1)),Z U (c-48),Z U 0,Z U 0] 263 (0,0)):=by rw[<-o,<-rr];exact alloc_at _ _
 have hst:∀(D:cG bw),D.size=5->(cU ⟨f.heap.size,0,qu⟩ [Z U 3,qT (s.extract i (i+1)),Z U (c-48),Z U 0,Z U 0] 0).run ac (f.alloc (rj D 263))= .ok () A:=λD sf=>by
  rw[<-o];exact cf (P:=ac) f 263 D #[Z U 3,qT (s.extract i (i+1)),Z U (c-48),Z U 0,Z U 0] (by show _=qt 5;kernel_rfl) sf (by simp[br])
 have sE:=zH hst;have sk:=zH rr;have sn:=zH h;have HN:=zH v;have sq:=zH rn;have sL:=zH rL;have rS:ca (f.heap[N]?=qt (rj #[Z U 0,qT ⟨#[]⟩,Z U 0,Z U 0,Z U 0] 263 (0,0))):=by unfold ca;rw[<-h,<-v];exact alloc_at _ _
 have sR:=zH o;have sT:=zH rN;clear G y J K rv rx R rl hst h o rn se rr rL rN;go_enter func168,ntmps168
 go_wp2_with (first
  |(go_at_call 203;(try rw[u.out]);refine(rB.out _).mono ?_;rintro e w2 ⟨rfl,rfl⟩)
  |(go_at_call 204;(try rw[u.out]);refine(rm.out _).mono ?_;rintro e w2 ⟨rfl,rfl⟩))
 rw[sn.out]
 go_loop [6,8] (λk n=>(k= Z U (i:cj)/\n= Z U 0)\/(k= Z U ((i:cj)+1)/\n= Z U (c-48))) (λk _=>i+1-(intOf k).toNat)
 case atStart=>exact .inl ⟨rfl,rfl⟩
 case round=>
  have sX:(i:cj)<(s.size:cj):=by omega
  have sY:(i:cj)+1<(s.size:cj):=by omega
  rcases hrel with⟨rfl,rfl⟩|⟨rfl,rfl⟩
  ·have sr:=u.out
   have te:48<=((s[i]'q).toNat:cj):=by omega
   have tf:((s[i]'q).toNat:cj)<=57:=by omega
   clear sr
   go_wp2_with (go_at_call 204;(try rw[u.out]);refine(rm.out _).mono ?_;rintro e w2 ⟨rfl,rfl⟩)
   go_round
   case rel=>exact .inr ⟨rfl,by rw[u.out]⟩
   case measure=>simp[intOf]
  ·obtain⟨⟨g0,g1,g2,g3,g4⟩,⟨f0,f1,f2,f3,f4⟩,th⟩:=d9 rS.out
   have ti:=sk.out;have h1:(i:cj)+1-(i:cj)=1:=by omega
   have sx:¬(2147483647<c-48):=by omega
   have tj:decide (2147483647<c-48)=qS:=by simpa using sx
   obtain⟨bz,tl⟩:=zE (((s[i]'q).toNat:cj)==48);cases bz<;>(
    go_wp2_with (first
     |(go_at_call 203;(try rw[HD.out]);refine(rI.out _).mono ?_;rintro e w2 ⟨rfl,rfl⟩)
     |(go_at_call 204;(try rw[HD.out]);refine(rK.out _).mono ?_;rintro e w2 ⟨rfl,rfl⟩))
    (try simp only[cL,Exit.then]);refine da (aI rfl _ _ N 263 _ (0,0) _ rfl ((bt _ _ N (by simp;omega)).trans (gZ rS.out)) gd (by kernel_rfl)) rfl ?_;(try rw[HN.out]);exact⟨rfl,(eG sq.out (bp _) _ _ _ _ _).alloc (by simp;omega) _⟩)
theorem qX (w:World):ft ac 206 #[] w λe w'=>e= rk (ra (qt ⟨w.heap.size,0,qu⟩) 20 20)/\w'=w.alloc (rj (eB.map em).toArray 9):=by
 have d:(eB.map em).toArray=#[qT ⟨#[45,62]⟩,qT ⟨#[60,61]⟩,qT ⟨#[62,61]⟩,qT ⟨#[61,61]⟩,qT ⟨#[33,61]⟩,qT ⟨#[43]⟩,qT ⟨#[45]⟩,qT ⟨#[42]⟩,qT ⟨#[47]⟩,qT ⟨#[37]⟩,qT ⟨#[60]⟩,qT ⟨#[62]⟩,qT ⟨#[33]⟩,qT ⟨#[61]⟩,qT ⟨#[40]⟩,qT ⟨#[41]⟩,qT ⟨#[123]⟩,qT ⟨#[125]⟩,qT ⟨#[44]⟩,qT ⟨#[59]⟩]:=rfl;rw[d];clear d;go_enter func206,ntmps206;go_wp2;go_ret;exact⟨rfl,rfl⟩
theorem uj:∀x∈eB,x.size<=2:=by decide
theorem oQ {α:Type}{p:α->Bool}:∀{l:bm α}{g:α},l.find? p=qt g->∃q:cd,l[q]?=qt g/\p g=qv/\∀(j:cd)(y:α),j<q->l[j]?=qt y->p y=qS
 |[],_,h=>by simp at h
 |a::l,g,h=>by
  by_cases d:p a=qv
  ·rw[List.find?_cons_of_pos d] at h
   obtain rfl:a=g:=by simpa using h
   exact⟨0,rfl,d,λj y f=>fL f (qe _)⟩
  ·rw[List.find?_cons_of_neg d] at h
   obtain⟨q,u,v,A⟩:=oQ h;refine⟨q+1,by simpa using u,v,λj y f o=> ?_⟩;cases j with
   |zero=>
    have e:a=y:=by simpa using o
    rw[<-e];simpa using d
   |succ j=>exact A j y (by omega) (by simpa using o)
theorem xQ (s g:aw)(i:cd)(w:World)(hs:s.size<=9000000)(hi:i<s.size)(G:dV (dP s i)=qS)(J:ig (dP s i)=qS)(hg:eB.find? (fB s i)=qt g):
  zP 168 #[qT s,Z U (i:cj)] w (.tuple #[zM 4 g 0,Z U 0]):=by
 have rr:=jb hi;obtain⟨c,K⟩:=zE (((s[i]'hi).toNat:cj):cj);rw[<-rr,K] at G J;have rv:=zH (λW=>fw c W);have rx:=zH (λW=>iN c W);rw[G] at rv;rw[J] at rx;have HC:=zH K;obtain⟨q,R,rB,rI⟩:=oQ hg;have sR:q<20:=(bl.1 R).1;obtain⟨N,hN⟩:=zE w.heap.size;obtain⟨W1,u⟩:=zE (w.alloc (rj #[Z U 0,qT ⟨#[]⟩,Z U 0,Z U 0,Z U 0] 263));obtain⟨d,v⟩:=zE (W1.alloc (rj (eB.map em).toArray 9));have rK:=gQ u hN;have rl:W1.heap.size=N+1:=by rw[<-u];simp[hN]
 have rL:aq N w d:=by rw[<-v];exact rK.alloc (by omega) _
 have rN:d.heap[N]?=qt (rj #[Z U 0,qT ⟨#[]⟩,Z U 0,Z U 0,Z U 0] 263 (0,0)):=by rw[<-v,<-u,<-hN];exact fN _ _ _
 have rS:d.heap[N+1]?=qt (rj (eB.map em).toArray 9 (0,0)):=by rw[<-v,<-rl];exact alloc_at _ _
 have sk:ca (∀(j:cd)(x:aw),eB[j]?=qt x->d.cell? ⟨N+1,j,qu⟩=qt (qT x)):=λj x hx=>by
  rw[bh _ _ _ _ _ _ rS];simp[hx]
 have se:=zH (qX W1);rw[rl,v] at se;have sn:=zH u;have sf:=zH rN;have sq:=zH rL;have HQ:=zH R;have sr:=zH rB;have sx:=zH rI;have sy:ca (∀x∈eB,x.size<=2):=uj;have sB:ca (eB.length=20):=rfl;clear G J rr K R rB rI hg u v rK rL rl rN rS;go_enter func168,ntmps168
 go_wp2_with (first
  |(go_at_call 203;(try rw[HC.out]);refine(rv.out _).mono ?_;rintro e w2 ⟨rfl,rfl⟩)
  |(go_at_call 204;(try rw[HC.out]);refine(rx.out _).mono ?_;rintro e w2 ⟨rfl,rfl⟩)
  |(go_at_call 206;rw[sn.out];refine se.out.mono ?_;rintro e d ⟨rfl,rfl⟩))
 go_loopw [11] (λk wr=>∃j:cd,j<=q/\k= Z U (j:cj)/\∃n,wr=d.drewN n) (λk _=>20-(intOf k).toNat)
 case atStart=>exact⟨0,cJ _,rfl,0,rfl⟩
 case round=>
  obtain⟨j,hj,rfl,n,rfl⟩:=hrel;have sE:j<20:=by omega
  have sT:(j:cj)<20:=by omega
  obtain⟨y,f⟩:∃y,eB[j]?=qt y:=⟨_,am (by rw[sB.out];exact sE)⟩
  have sX:y.size<=2:=sy.out y (ce f);have d1:=sk.out j y f;have D:ca (fB s i y=qS->∀m:cd,∃j':cd,j'<=q/\eC .i64 ((j:cj)+1)= Z U (j':cj)/\∃n,d.drewN m=d.drewN n):=λh m=>⟨j+1,by
   by_cases e:j=q
   ·subst e
    have e2:y=g:=by have:=HQ.out;rw[f] at this;simpa using this
    rw[e2,sr.out] at h;cases h
   ·omega,by simp,m,rfl⟩
  have rm:ca (fB s i y=qv->y=g):=λh=>by
   by_cases e:j=q
   ·subst e
    have:=HQ.out;rw[f] at this;simpa using this
   ·have:=sx.out j y (by omega) f
    rw[h] at this;cases this
  clear f
  by_cases h1:y.size<=s.size-i
  ·have o:(y.size:cj)<=(s.size:cj)-(i:cj):=by omega
   have sL:decide ((y.size:cj)<=(s.size:cj)-(i:cj))=qv:=by simpa using o
   obtain⟨be,rn⟩:=zE (s.extract i (i+y.size)==y);have A:fB s i y=be:=by unfold fB;rw[rn,dy h1];rfl
   rw[A] at D rm;have sY:((s.extract i (i+y.size)).toList==y.toList)=be:=by rw[<-eL];exact rn
   have te:(i:cj)+(y.size:cj)<=(s.size:cj):=by omega
   clear rn A;cases be with
   |false=>
    clear o
    go_upto_region 26 with(fail)
    go_quiet (fail)
    go_wp2;go_roundw
    case rel=>exact D.out rfl _
    case measure=>simp[intOf];omega
   |true=>
    obtain rfl:y=g:=rm.out rfl;obtain⟨⟨a0,a1,a2,a3,a4⟩,⟨b0,b1,b2,b3,b4⟩,tf⟩:=d9 sf.out;clear o
    go_upto_region 26 with(fail)
    go_quiet (fail)
    go_wp2;(try simp only[cL,Exit.then]);refine da (aI rfl _ _ N 263 _ (0,0) _ rfl (gZ (sf.out)) gd (by kernel_rfl)) rfl ?_;(try rw[HN.out]);exact⟨rfl,eG (nM sq.out _) (bp _) _ _ _ _ _⟩
  ·have o:¬(y.size:cj)<=(s.size:cj)-(i:cj):=by omega
   have sL:decide ((y.size:cj)<=(s.size:cj)-(i:cj))=qS:=by simpa using o
   have A:fB s i y=qS:=by unfold fB;rw[cv h1];rfl
   rw[A] at D rm;clear A o h1
   go_upto_region 26 with(fail)
   go_quiet (fail)
   go_wp2;go_roundw
   case rel=>exact D.out rfl _
   case measure=>simp[intOf];omega
theorem vS:∀x∈eB,0<x.size:=by decide
theorem zV {s:aw}{i:cd}{t:xG}(o:i<s.size)(h:xO s i=qt t):i+t.2.1.size<=s.size/\0<t.2.1.size:=by
 unfold xO at h
 split at h
 ·rename_i f
  split at h
  ·obtain rfl:=cX h
   have:=fT s (s.size-i) i;have q:i+1<=bO s (s.size-i) i:=by
    rw[show s.size-i=s.size-i-1+1 by omega];unfold bO;rw[f,Bool.true_or,cI rfl];exact(fT s _ _).1
   simp only[mw];omega
  ·cases h
 ·split at h
  ·split at h
   ·obtain rfl:=cX h
    simp only[mw];omega
   ·cases h
  ·obtain⟨g,d,rfl⟩:=gw.1 h
   have u:=vS g (List.mem_of_find?_eq_some d);have:=(List.find?_some d)
   unfold fB at this;rw[eK] at this;have:=nr this.1
   show i+g.size<=s.size/\0<g.size
   omega
theorem vT (s:aw)(i:cd)(t:xG)(w:World)(d:s.size<=9000000)(u:i<s.size)(h:xO s i=qt t):
  zP 168 #[qT s,Z U (i:cj)] w (.tuple #[zM t.1 t.2.1 t.2.2,Z U 0]):=by
 unfold xO at h
 split at h
 ·rename_i f
  split at h
  ·rename_i A
   obtain rfl:=cX h;exact xP s i w d u f A
  ·cases h
 ·rename_i f
  have v:dV (dP s i)=qS:=by simpa using f
  split at h
  ·rename_i o
   split at h
   ·rename_i y
    obtain rfl:=cX h;have q:=y.2;rw[Bool.or_eq_false_iff] at q;exact vR s i w d y.1 v o q.2 q.1
   ·cases h
  ·rename_i o
   obtain⟨g,D,rfl⟩:=gw.1 h;exact xQ s g i w d u v (by simpa using o) D
theorem Bh:(ac.info? 263).map (λi=>(i.zero,i.size,i.bytes))=qt (qt (rh #[Z U 0,qT ⟨#[]⟩,Z U 0,Z U 0,Z U 0]),5,48):=by kernel_rfl
def qY (t:Tok):bm bw:=t.cells.toList
theorem aP {w:World}{base d:cd}{e:ge}{size n:cd}{v:bw}{xs:bm bw}(h:w.ownsRow base e size v n xs)(q:d<=base):w.ownsRow d e size v n xs:=by
 refine⟨h.1, ?_⟩;rcases h.2 with h|⟨g,cap,cur,f,u,o⟩
 ·exact .inl h
 ·exact .inr ⟨g,cap,cur,f,by omega,o⟩
def zY (w:World)(l:bm xG)(e:Ending)(w':World):Prop:=
 ∃(v:bw) (T:bm Tok),e= rk (.tuple #[v,rh #[Z U 0,Z U 0,Z U 0,Z U 0]])/\w'.ownsRow w.heap.size 263 5 v T.length (T.flatMap qY)/\T.map Tok.sig=l++[(5,⟨#[]⟩,0)]/\aq w.heap.size w w'
def Bi (s:aw)(N:cd)(w:World)(R:bm xG)(A k:cd)(v:bw)(wr:World):Prop:=
 ∃(T:bm Tok) (l:bm xG) (n:cd) (a b:cj),k<=s.size/\jW s n k=qt l/\R=T.map Tok.sig++l/\T.length<=k/\wr.ownsRow (A+1) 263 5 v T.length (T.flatMap qY)/\
  wr.heap[A]?=qt (rj #[Z U a,Z U b] 40 (0,0))/\wr.heap[N]?=qt (rj #[Z U 0,Z U 0,Z U 0,Z U 0] 113 (0,0))/\aq N w wr
theorem uk (s:aw)(R:bm xG)(n0:cd)(w:World)(hs:s.size<=1000000)(tn:lW s)(h0:s.size≠0)(hR:jW s n0 (eP s s.size 0)=qt R):
  ft ac 128 #[qT s] w (zY w R):=by
 obtain⟨N,hN⟩:=zE w.heap.size;have sx:s.size<=9000000:=by omega
 have tp:ca (∀(i:cd)(W:World),i<=s.size->zS 166 #[qT s,Z U (i:cj)] W (Z U (eP s (s.size-i) i:cd))):=λi W hi=>ui s i W tn sx hi;have tr:ca (∀(s:aw)(n:cd)(w:World),s.size<=9000000->n<=s.size->ft ac 167 #[qT s,Z U (n:cj)] w (zm w)):=qW;have ws:ca (∀(i:cd)(t:xG)(w:World),i<s.size->xO s i=qt t->zP 168 #[qT s,Z U (i:cj)] w (.tuple #[zM t.1 t.2.1 t.2.2,Z U 0])):=λi t w hi h=>vT s i t w sx hi h;have rN:=tp.out 0;rw[Nat.sub_zero] at rN;obtain⟨k0,sy⟩:=zE (eP s s.size 0);rw[sy] at rN hR;have rm:=jV s s.size 0;rw[sy] at rm;have tt:k0<=s.size:=by omega
 have tv:=zH rN;obtain⟨W1,rx⟩:=zE (w.alloc (rj #[Z U 0,Z U 0,Z U 0,Z U 0] 113));have tz:=gQ rx hN;have tA:W1.heap.size=N+1:=by rw[<-rx];simp[hN]
 have tB:W1.heap[N]?=qt (rj #[Z U 0,Z U 0,Z U 0,Z U 0] 113 (0,0)):=by rw[<-rx,<-hN];exact alloc_at _ _
 have tD:=zH rx;have tE:=zH tz;have rS:=zH tA;have tG:=zH tB;have HR:=zH hR;have HN:=zH hN;have Ax:decide (1048576<(s.size:cj))=qS:=by rw[decide_eq_false_iff_not];omega
 clear tn rN sy rm rx tz tA tB hR;go_enter func128,ntmps128
 go_upto_region 5 with(go_at_call 166;refine(tv.out _ (cJ _)).mono ?_;rintro e w2 ⟨rfl,rfl⟩)
 rw[tD.out];have hst:∀(w:World)(a b:cj)(c:cG bw),c.size=2->(cU ⟨w.heap.size,0,qu⟩ [Z U a,Z U b] 0).run ac (w.alloc (rj c 40))= .ok () (w.alloc (rj #[Z U a,Z U b] 40)):=λw a b c hc=>
  cf (P:=ac) w 40 c #[Z U a,Z U b] (by show _=qt 2;kernel_rfl) hc (by simp[br])
 have tM:=zH hst;clear hst
 go_upto_region 6 with(go_at_call 167;refine(tr.out s k0 _ sx tt).mono ?_;rintro e w3 ⟨a,b,rfl,tP,ha,tR,hb,tS⟩;have sB:=zH tS;clear tS;have wx:=tM.out w3 a b)
 clear wx;obtain⟨A,hA⟩:=zE w3.heap.size;obtain⟨W4,se⟩:=zE (w3.alloc (rj #[Z U a,Z U b] 40));rw[hA,se];have AD:N+1<=A:=by rw[<-hA,<-rS.out];exact sB.out.size
 have rl:W4.heap[A]?=qt (rj #[Z U a,Z U b] 40 (0,0)):=by rw[<-se,<-hA];exact alloc_at _ _
 have sE:=zD se sB;have tU:Bi s N w R A k0 (ra qu 0 0) W4:=⟨[],R,n0,a,b,tt,HR.out,rfl,cJ _,World.ownsRow_nil _ _ _ _,rl,(sE.block N (by have:=rS.out;omega)).trans tG.out,tE.out.trans (sE.mono (by have:=rS.out;omega))⟩
 have xf:=zH tU;clear hA se rl sE tU sB HR tD tE rS tG tv tP ha tR hb
 go_loopw [4,5] (λv k wr=>∃j:cd,k= Z U (j:cj)/\Bi s N w R A j v wr) (λ_ k _=>s.size-(intOf k).toNat)
 case atStart=>exact⟨k0,rfl,xf.out⟩
 case round=>
  obtain⟨j,rfl,T,l,n,o,q,hj,hl,tW,AE,ua,rl,sf,ub⟩:=hrel;have xj:A+1<=wr.heap.size:=aa rl;have AF:T.length<=1000000:=by omega
  obtain⟨a0,a1⟩:=bL rl;obtain⟨c0,c1⟩:=kK sf;obtain⟨⟨p0,p1⟩,⟨q0,q1⟩,AG⟩:=bL rl;obtain⟨⟨e0,e1,e2,e3⟩,⟨f0,f1,f2,f3⟩,xl⟩:=kK sf;clear a0 a1 c0 c1;have K:=zH ua;have uc:=zH rl;have ud:=zH sf;have ue:=zH ub;have ur:=zH tW;have HL:=zH hl;obtain⟨i0,uv,ux,va,vc⟩:=ld Bh;clear ua rl sf ub tW hl
  by_cases sk:j<s.size
  ·have xo:(j:cj)<(s.size:cj):=by omega
   obtain⟨tk,l2,n2,sL,sn,vd⟩:∃tk l2 n2,xO s j=qt tk/\jW s n2 (eP s (s.size-(j+tk.2.1.size)) (j+tk.2.1.size))=qt l2/\l=tk::l2:=by
    have:=HL.out;cases n with
    |zero=>simp[jW] at this
    |succ n=>
     unfold jW at this;rw[cI sk] at this
     split at this
     ·rename_i tk xp
      obtain⟨l2,h1,h2⟩:=gw.1 this;exact⟨tk,l2,n,xp,h1,h2.symm⟩
     ·cases this
   have vf:=zV sk sL;have xr:=zH (ws.out j tk wr sk sL);obtain⟨D,u,J⟩:=tk;obtain⟨z,hz⟩:=zE u.size;simp only[hz] at vf sn;obtain⟨xt,AH⟩:=vf;obtain⟨f,vh⟩:=zE (eP s (s.size-(j+z)) (j+z));have rm:=jV s (s.size-(j+z)) (j+z);have sq:=tp.out (j+z);rw[vh] at sq sn rm;rw[Int.natCast_add] at sq;have xF:f<=s.size:=by omega
   have AI:j+z<=f:=rm.1;have xT:=zH sq;have ya:=zH sn;have yb:=zH vd;have HZ:=zH hz;clear sq sn vd rm vh sL;have hst:∀(w:World)(c:cG bw),c.size=5->(cU ⟨w.heap.size,0,qu⟩ [Z U D,qT u,Z U J,Z U 0,Z U 0] 0).run ac (w.alloc (rj c 263))= .ok () (w.alloc (rj #[Z U D,qT u,Z U J,Z U 0,Z U 0] 263)):=λw c hc=>
    cf (P:=ac) w 263 c #[Z U D,qT u,Z U J,Z U 0,Z U 0] (by show _=qt 5;kernel_rfl) hc (by simp[br])
   have yd:=zH hst;clear hst
   go_upto_region 10 with(go_at_call 168;refine xr.out.mono ?_;rintro e w2 ⟨rfl,vi⟩;have sR:=zH vi;clear vi;have ye:=yd.out w2;unfold zM)
   clear ye;obtain⟨G,hG⟩:=zE w2.heap.size;obtain⟨W5,rB⟩:=zE (w2.alloc (rj #[Z U D,qT u,Z U J,Z U 0,Z U 0] 263));rw[hG,rB];have AK:wr.heap.size<=G:=by rw[<-hG];exact sR.out.size
   have sT:=zD rB sR;have vj:W5.heap.size=G+1:=by rw[<-rB,<-hG];simp
   have sX:W5.heap[G]?=qt (rj #[Z U D,qT u,Z U J,Z U 0,Z U 0] 263 (0,0)):=by rw[<-rB,<-hG];exact alloc_at _ _
   have sY:=(sT.block A xj).trans uc.out;obtain⟨⟨p0,p1⟩,⟨q0,q1⟩,hA5⟩:=bL sY;obtain⟨⟨g0,g1,g2,g3,g4⟩,⟨f0,f1,f2,f3,f4⟩,AM⟩:=d9 sX;have yi:=zH sT;have yk:=zH sX;have AN:=zH sY;clear hG rB sT sX sY sR
   go_upto_region 11 with(fail)
   obtain⟨W6,rI⟩:=zE ((W5.setCell ⟨G,3,qu⟩ (Z U o)).setCell ⟨G,4,qu⟩ (Z U q));rw[rI];have vm:Ext (·=G) W5 W6:=by rw[<-rI];exact(Ext.set1 W5 G 3 _).trans (Ext.set1 _ G 4 _) (λk d=> .inl d)
   have te:W6.heap[G]?=qt (rj #[Z U D,qT u,Z U J,Z U o,Z U q] 263 (0,0)):=by
    rw[<-rI];have h1:=aE W5 G 3 _ _ (Z U o) yk.out;have h2:=aE _ G 4 _ _ (Z U q) h1;exact h2
   have yp:W6.heap.size=G+1:=by rw[<-rI];simp[vj]
   have rK:Ext (·=G) wr W6:=(Ext.of_below_size yi.out).trans vm (λk d=> .inl d);have vn:W6.ownsRow (A+1) 263 5 u4 T.length (T.flatMap qY):=ae K.out rK (λk d=>by have:=(ai K.out d).2;omega);have vp:=rK.heap uc.out (by omega);have vq:=rK.heap ud.out (by omega);have yq:=zH rK;have yr:=zH te;have vr:=zH vn;have yv:=zH vp;have yy:=zH vq;obtain⟨⟨g0,g1,g2,g3,g4⟩,⟨f0,f1,f2,f3,f4⟩,AS⟩:=d9 te;clear rI vm te rK vn vp vq p0 p1 q0 q1 vj
   go_upto_region 12 with(at_builtin;refine gq rfl (.tmp 39) (.tmp 41) 226 rfl (A+1) 263 i0 _ 5 48 underlying226 uv ux va vc rfl (by decide) _ T.length (T.flatMap qY) rfl vr.out (G+1) #[Z U D,qT u,Z U J,Z U o,Z U q] yp.symm rfl rfl (by simp[br]) (by unfold dl;omega) (by omega) (by omega) ?_;intro v7 w7 rn rr tf;have th:=zH rn;have rv:=zH rr;clear rn rr tf)
   have rn:=vr.out;have vt:=rv.out.heap yr.out (λh=>by have:=(ai K.out h).2;omega);have vu:=rv.out.heap yv.out (λh=>by have:=(ai K.out h).1;omega);have vx:=rv.out.heap yy.out (λh=>by have:=(ai K.out h).1;omega);obtain⟨⟨g0,g1,g2,g3,g4⟩,⟨f0,f1,f2,f3,f4⟩,AT⟩:=d9 vt;have AW:A+1<=w7.heap.size:=by omega
   have yW:=zH vu;have zc:=zH vx;clear vt vu vx;have zd:s.extract j f=s.extract j f:=rfl;have zj:(s.extract j f).size=f-j:=by rw[mw];omega
   have ti:=tr.out (s.extract j f) (f-j) w7 (by omega) (by omega);rw[Int.ofNat_sub (by omega)] at ti;have zp:=zH ti;have A0:(j:cj)<=(f:cj):=by omega
   have A1:(f:cj)<=(s.size:cj):=by omega
   clear zd zj ti
   go_upto_region 14 with(first
    |(go_at_call 166;refine(xT.out _ xt).mono ?_;rintro e w8 ⟨rfl,rfl⟩)
    |(go_at_call 167;refine zp.out.mono ?_;rintro e w8 ⟨a2,b2,rfl,tP,ha,tR,hb,vy⟩;have tj:=zH vy;clear vy;have zr:=tM.out w8 a2 b2))
   clear zr;obtain⟨C,hC⟩:=zE w8.heap.size;obtain⟨W9,sr⟩:=zE (w8.alloc (rj #[Z U a2,Z U b2] 40));rw[hC,sr];have rL:=zD sr tj;have A2:w7.heap.size<=C:=by rw[<-hC];exact tj.out.size
   have wa:W9.heap[C]?=qt (rj #[Z U a2,Z U b2] 40 (0,0)):=by rw[<-sr,<-hC];exact alloc_at _ _
   have tl:=(rL.block A (by omega)).trans yW.out;have wb:=(rL.block N (by omega)).trans zc.out;obtain⟨⟨p0,p1⟩,⟨q0,q1⟩,hA9⟩:=bL tl;obtain⟨⟨r0,r1⟩,⟨s0,s1⟩,A3⟩:=bL wa;have we:=ownsRow_below th.out rL;have wg:=zH we;have wi:=zH tl;have zv:=zH wb;have wj:aq N w W9:=ue.out.trans ((yq.out.below (by omega) (λk d=>by omega)).trans ((rv.out.below (by omega) (λk d=>by have:=(ai K.out d).1;omega)).trans (rL.mono (by omega))));have An:=zH wj;have wk:(T++[(⟨D,u,J,o,q⟩:Tok)]).flatMap qY=T.flatMap qY++[Z U D,qT u,Z U J,Z U o,Z U q]:=by rw[el];rfl
   have wl:ca (∀(x y:cj)(W:World),Ext (·=A) W9 W->W.heap[A]?=qt (rj #[Z U x,Z U y] 40 (0,0))->Bi s N w R A f v7 W):=λx y W hx hA=>
    ⟨T++[⟨D,u,J,o,q⟩],l2,n2,x,y,xF,ya.out,by rw[ur.out,yb.out,eS,eE];rfl,by rw[co];simp;omega,
     by rw[wk,co];exact ae wg.out hx (λk d=>by have:=(ai wg.out d).1;omega),hA,hx.heap zv.out (by omega),An.out.trans (hx.below (by omega) (λk d=>by omega))⟩
   clear hC sr rL wa tl wb we wj wk tj
   by_cases A4:1<a2
   ·go_wp2
    go_roundw
    case rel=>exact⟨f,rfl,wl.out _ _ _ ((Ext.set1 W9 A 0 _).trans (Ext.set1 _ A 1 _) (λk d=> .inl d)) (bf wi.out)⟩
    case measure=>simp[intOf];omega
   ·go_wp2
    go_roundw
    case rel=>exact⟨f,rfl,wl.out _ _ _ (Ext.set1 W9 A 1 _) (aE W9 A 1 _ _ _ wi.out)⟩
    case measure=>simp[intOf];omega
  ·have xo:¬(j:cj)<(s.size:cj):=by omega
   have wn:l=[]:=by
    have:=HL.out;cases n with
    |zero=>simp[jW] at this
    |succ n=>unfold jW at this;rw[cw sk] at this;simpa using this.symm
   have As:=zH wn;clear wn
   go_wp2_with (at_builtin;refine gq rfl (.tmp 78) (.tmp 81) 226 rfl (A+1) 263 i0 _ 5 48 underlying226 uv ux va vc rfl (by decide) _ T.length (T.flatMap qY) rfl K.out wr.heap.size #[Z U 5,qT ⟨#[]⟩,Z U 0,Z U o,Z U q] rfl rfl rfl (by simp[br]) (by unfold dl;omega) (by omega) (by omega) ?_;intro v7 w7 rn rr tf;have th:=zH rn;have rv:=zH rr;have tm:=rr.heap ud.out (λh=>by have:=(ai K.out h).1;omega);obtain⟨⟨e0,e1,e2,e3⟩,⟨f0,f1,f2,f3⟩,xl⟩:=kK tm;have At:=zH tm;clear rn rr tf tm)
   (try simp only[cL,Exit.then]);refine da (gp rfl _ _ N 113 _ (0,0) _ rfl (gY At.out) mL (by kernel_rfl)) rfl ?_;refine⟨v7,T++[⟨5,⟨#[]⟩,0,o,q⟩],rfl, ?_, ?_, ?_⟩
   ·rw[HN.out]
    have h1:=th.out;rw[show(T++[(⟨5,⟨#[]⟩,0,o,q⟩:Tok)]).flatMap qY=T.flatMap qY++[Z U 5,qT ⟨#[]⟩,Z U 0,Z U o,Z U q] by rw[el];rfl,co];exact aP (i5 (i5 (i5 (i5 h1 (by show N<_;omega) _) (by show N<_;omega) _) (by show N<_;omega) _) (by show N<_;omega) _) (by omega)
   ·rw[eS,ur.out,As.out,kh];rfl
   ·rw[HN.out]
    exact oP (ue.out.trans (rv.out.below (by omega) (λk d=>by have:=(ai K.out d).1;omega))) (bp _) _ _ _ _
structure Rd (r lb cap:cd)(T:bm Tok)(i:cd)(w:World):Prop where
 row:w.heap[r]?=qt (rj #[ra (qt ⟨lb,0,qu⟩) T.length cap,Z U (i:cj),Z U 0,Z U 0,Z U 0,Z U 0] 269 (0,0))
 toks:∀(k:cd)(t:Tok),T[k]?=qt t->∀(j:cd)(u:bw),t.cells.toList[j]?=qt u->w.cell? ⟨lb,k*5+j,qu⟩=qt u
 ne:lb≠r
 lt:lb<w.heap.size
 short:T.length<=1000000
section
variable {r lb cap:cd}{T:bm Tok}{i:cd}{w w':World}
theorem Rd.ext {M:cd->Prop}(h:Rd r lb cap T i w)(d:Ext M w w')(f:¬M r)(o:¬M lb):Rd r lb cap T i w':=
 ⟨d.heap h.row f,λk t q j u v=>by rw[d.cell (a:=⟨lb,k*5+j,qu⟩) h.lt o];exact h.toks k t q j u v,h.ne,cn h.lt d.size,h.short⟩
theorem Rd.grow (h:Rd r lb cap T i w)(d:aq w.heap.size w w'):Rd r lb cap T i w':=h.ext (Ext.of_below_size (M:=λ_=>jp) d) (λh=>h) (λh=>h)
theorem Rd.rlt (h:Rd r lb cap T i w):r<w.heap.size:=aa h.row
theorem Rd.step (h:Rd r lb cap T i w):Rd r lb cap T (i+1) (w.setCell ⟨r,1,qu⟩ (Z U ((i:cj)+1))):=
 ⟨by have:=aE w r 1 _ _ (Z U ((i:cj)+1)) h.row;rw[this];simp,λk t d j u f=>by rw[(Ext.set1 w r 1 _).cell (a:=⟨lb,k*5+j,qu⟩) h.lt h.ne];exact h.toks k t d j u f,h.ne,by rw[World.size_setCell];exact h.lt,h.short⟩
theorem Rd.cells (h:Rd r lb cap T i w):w.cell? ⟨r,0,qu⟩=qt (ra (qt ⟨lb,0,qu⟩) T.length cap)/\w.cell? ⟨r,1,qu⟩=qt (Z U (i:cj))/\w.cell? ⟨r,3,qu⟩=qt (Z U 0)/\w.frozen? ⟨r,1,qu⟩=qS/\r<w.heap.size:=
 ⟨(rowAt h.row 0 rfl).1,(rowAt h.row 1 rfl).1,(rowAt h.row 3 rfl).1,(rowAt h.row 1 rfl).2,aa h.row⟩
end
def bu (r lb cap:cd)(T:bm Tok)(j:cd)(w w':World):Prop:=Rd r lb cap T j w'/\Ext (·=r) w w'
theorem bu.trans {r lb cap:cd}{T:bm Tok}{j d:cd}{w w1 w2:World}(h:bu r lb cap T j w w1)(f:bu r lb cap T d w1 w2):bu r lb cap T d w w2:=⟨f.1,h.2.trans f.2 (λ_ o=> .inl o)⟩
theorem bu.grow {r lb cap:cd}{T:bm Tok}{j:cd}{w w1 w2:World}(h:bu r lb cap T j w w1)(d:aq w1.heap.size w1 w2):bu r lb cap T j w w2:=⟨h.1.grow d,h.2.trans (Ext.of_below_size (M:=λ_=>jp) d) (λ_ f=>f.elim)⟩
theorem bu.grown {r lb cap:cd}{T:bm Tok}{j:cd}{w w1 w2:World}(d:aq w.heap.size w w1)(h:bu r lb cap T j w1 w2):bu r lb cap T j w w2:=⟨h.1,(Ext.of_below_size d).trans h.2 (λ_ f=> .inl f)⟩
theorem bg {r lb cap:cd}{T:bm Tok}{i:cd}(w:World)(h:Rd r lb cap T i w):zS 171 #[rb (qt ⟨r,0,qu⟩)] w (re qS):=by
 obtain⟨_,_,c3,_,d⟩:=h.cells;go_enter func171,ntmps171;go_wp2;go_ret;exact⟨rfl,rfl⟩
theorem bi {r lb cap:cd}{T:bm Tok}{i:cd}{t:Tok}(w:World)(h:Rd r lb cap T i w)(d:T[i]?=qt t):
  zP 170 #[rb (qt ⟨r,0,qu⟩)] w (rh t.cells):=by
 obtain⟨N,o⟩:=zE w.heap.size;obtain⟨u,q⟩:=zE (w.alloc (rj #[Z U 0,qT ⟨#[]⟩,Z U 0,Z U 0,Z U 0] 263));have v:=gQ q o;have f:Rd r lb cap T i u:=h.grow (by rw[o];exact v);have y:u.heap[N]?=qt (rj #[Z U 0,qT ⟨#[]⟩,Z U 0,Z U 0,Z U 0] 263 (0,0)):=by rw[<-q,<-o];exact alloc_at _ _
 obtain⟨c0,c1,_,_,R⟩:=f.cells;have rl:i<T.length:=(bl.1 d).1;have hT:=h.short;obtain⟨⟨g0,g1,g2,g3,g4⟩,⟨f0,f1,f2,f3,f4⟩,rm⟩:=d9 y;have A:=f.toks i t d 0 _ rfl;have k1:=f.toks i t d 1 _ rfl;have k2:=f.toks i t d 2 _ rfl;have k3:=f.toks i t d 3 _ rfl;have k4:=f.toks i t d 4 _ rfl;rw[kO] at A;have rn:min (i:cj) ((T.length:cj)-1)=(i:cj):=by omega
 have hw:qr.wrap ((T.length:cj)-1)=(T.length:cj)-1:=IntWalk.i64_in _ (by omega);have D:=zH v;have G:=zH y;have J:=zH q;clear h f d v y q;go_enter func170,ntmps170
 go_upto_region 1 with(fail)
 rw[J.out];refine om 17 0 rfl (by kernel_rfl) (by kernel_rfl) (by kernel_rfl) (·=u.drew) rfl ?_;dsimp only[List.take]
 repeat (go_big_quiet_step (fail))
 refine db ?_;rintro _ rfl;refine wpOp_step rfl λK' K=> ?_;rw[cI (by rfl)];go_simp;refine K _ _ ?_;refine⟨by kernel_rfl, ?_⟩;go_wp2;refine da (dv (P:=ac) rfl _ _ N 263 t.cells (0,0) _ rfl (gZ G.out) gd rfl (by kernel_rfl)) rfl ?_;(try rw[o]);exact⟨rfl,(eG D.out (bp _) _ _ _ _ _).drew⟩
def cO (t:Tok)(s:aw):Bool:=(t.kind==2||t.kind==4)&&t.text==s
theorem aW {r lb cap:cd}{T:bm Tok}{i:cd}{t:Tok}(s:aw)(w:World)(h:Rd r lb cap T i w)(y:T[i]?=qt t):
  zP 172 #[rb (qt ⟨r,0,qu⟩),qT s] w (re (cO t s)):=by
 have o:=zH (bi w h y);have A:ca (∀W,aq w.heap.size w W->zS 171 #[rb (qt ⟨r,0,qu⟩)] W (re qS)):=λW D=>bg W (h.grow D);have hst:∀(w:World)(c:cG bw),c.size=5->(cU ⟨w.heap.size,0,qu⟩ [Z U t.kind,qT t.text,Z U t.n,Z U t.ln,Z U t.cl] 0).run ac (w.alloc (rj c 263))= .ok () (w.alloc (rj #[Z U t.kind,qT t.text,Z U t.n,Z U t.ln,Z U t.cl] 263)):=λw c G=>
  cf (P:=ac) w 263 c #[Z U t.kind,qT t.text,Z U t.n,Z U t.ln,Z U t.cl] (by show _=qt 5;kernel_rfl) G (by simp[br])
 have J:=zH hst;obtain⟨q,K⟩:=zE (t.kind==2);obtain⟨u,R⟩:=zE (t.kind==4);obtain⟨f,v⟩:=zE (t.text==s);have hF:cO t s=((q||u)&&f):=by unfold cO;rw[K,R,v]
 have rm:(t.text.toList==s.toList)=f:=by rw[<-eL];exact v
 rw[hF];simp only[Tok.cells] at o;cases q<;>cases u<;>cases f<;>(
  go_enter func172,ntmps172
  go_wp2_with (first
   |(go_at_call 170;refine o.out.mono ?_;rintro e w2 ⟨rfl,rl⟩;have rn:=J.out w2;have d:=zH rl)
   |(go_at_call 171;refine(A.out _ (d.out.alloc d.out.size _)).mono ?_;rintro e w3 ⟨rfl,rfl⟩))
  go_ret;exact⟨rfl,d.out.alloc d.out.size _⟩)
theorem aT {r lb cap:cd}{T:bm Tok}{i:cd}{t:Tok}(s:aw)(w:World)(h:Rd r lb cap T i w)(d:T[i]?=qt t)(hF:cO t s=qv):
  ft ac 207 #[rb (qt ⟨r,0,qu⟩),qT s] w λe w'=>e= rk (.tuple #[])/\bu r lb cap T (i+1) w w':=by
 have o:=zH (aW s w h d);rw[hF] at o;have H:=zH h;have v:i<T.length:=(bl.1 d).1;have y:=h.short;clear h d hF;go_enter func207,ntmps207
 go_wp2_with (go_at_call 172;refine o.out.mono ?_;rintro e w2 ⟨rfl,f⟩;have q:=zH (H.out.grow f);have HM:ca (bu r lb cap T (i+1) w (w2.setCell ⟨r,1,qu⟩ (Z U ((i:cj)+1)))):=⟨q.out.step,(Ext.of_below_size (M:=(·=r)) f).trans (Ext.set1 w2 r 1 _) (λk u=> .inl u)⟩;obtain⟨c0,c1,c3,f1,A⟩:=q.out.cells;clear f)
 go_end0
 exact⟨rfl,HM.out⟩
theorem qZ {r lb cap:cd}{T:bm Tok}{i:cd}(d:cj)(w:World)(h:Rd r lb cap T i w)(f:d<=200):
  zS 242 #[rb (qt ⟨r,0,qu⟩),Z U d] w (re qv):=by
 have o:=zH (bg w h);have q:decide (200<d)=qS:=by rw[decide_eq_false_iff_not];omega
 have u:¬200<d:=by omega
 clear h f;go_enter func242,ntmps242
 go_wp2_with (go_at_call 171;refine o.out.mono ?_;rintro e w2 ⟨rfl,rfl⟩)
 go_ret;exact⟨rfl,rfl⟩
theorem dD {r lb cap:cd}{T:bm Tok}{i:cd}{t:Tok}(w:World)(h:Rd r lb cap T i w)(ht:T[i]?=qt t)(d:t.kind=1):
  ft ac 208 #[rb (qt ⟨r,0,qu⟩)] w λe w'=>e= rk (.tuple #[qT t.text,rh #[Z U t.ln,Z U t.cl]])/\bu r lb cap T (i+1) w w':=by
 obtain⟨N,f⟩:=zE w.heap.size;obtain⟨o,u⟩:=zE (w.alloc (rj #[Z U 0,Z U 0] 40));have rl:=gQ u f;have rx:o.heap.size=N+1:=by rw[<-u];simp[f]
 have rB:o.heap[N]?=qt (rj #[Z U 0,Z U 0] 40 (0,0)):=by rw[<-u,<-f];exact alloc_at _ _
 have A:=h.grow (by rw[f];exact rl);have rm:=zH (bi o A ht);have rI:ca (∀W,aq o.heap.size o W->zS 171 #[rb (qt ⟨r,0,qu⟩)] W (re qS)):=λW hW=>bg W (A.grow hW);have hst:∀(w:World)(c:cG bw),c.size=5->(cU ⟨w.heap.size,0,qu⟩ [Z U t.kind,qT t.text,Z U t.n,Z U t.ln,Z U t.cl] 0).run ac (w.alloc (rj c 263))= .ok () (w.alloc (rj #[Z U t.kind,qT t.text,Z U t.n,Z U t.ln,Z U t.cl] 263)):=λw c hc=>
  cf (P:=ac) w 263 c #[Z U t.kind,qT t.text,Z U t.n,Z U t.ln,Z U t.cl] (by show _=qt 5;kernel_rfl) hc (by simp[br])
 rw[d] at hst;have sk:=zH hst;have th:i<T.length:=(bl.1 ht).1;have hT:=h.short;have ti:r<N:=by rw[<-f];exact h.rlt
 have rK:lb<N:=by rw[<-f];exact h.lt
 have sn:=zH rK;clear rK;have sq:=zH u;have sr:=zH rl;have rL:=zH rx;have sx:=zH rB;have H1:=zH A;simp only[Tok.cells,d] at rm;clear h ht d hst u rl rx rB A;go_enter func208,ntmps208
 go_upto_region 2 with(go_at_call 170;rw[sq.out];refine rm.out.mono ?_;rintro e w2 ⟨rfl,rN⟩;have sy:=sk.out w2;have rS:=zH rN;clear rN)
 clear sy;obtain⟨G,D⟩:=zE w2.heap.size;obtain⟨v,J⟩:=zE (w2.alloc (rj #[Z U 1,qT t.text,Z U t.n,Z U t.ln,Z U t.cl] 263));rw[D,J];have y:=zD J rS;have tj:N+1<=G:=by rw[<-D,<-rL.out];exact rS.out.size
 have rn:v.heap[G]?=qt (rj #[Z U 1,qT t.text,Z U t.n,Z U t.ln,Z U t.cl] 263 (0,0)):=by rw[<-J,<-D];exact alloc_at _ _
 have rr:=(y.block N (by have:=rL.out;omega)).trans sx.out;have h3:=H1.out.grow y;obtain⟨c0,c1,c3,f1,hr⟩:=h3.cells;obtain⟨⟨g0,g1,g2,g3,g4⟩,⟨e0,e1,e2,e3,e4⟩,sB⟩:=d9 rn;obtain⟨⟨p0,p1⟩,⟨q0,q1⟩,sE⟩:=bL rr;have sL:=zH (rI.out v y);have sR:=zH y;have sT:=zH rn;have sX:=zH rr;have H3:=zH h3;clear D J y rn rr h3 rI rm
 go_upto_region 6 with(go_at_call 171;refine sL.out.mono ?_;rintro e w2 ⟨rfl,rfl⟩)
 obtain⟨q,K⟩:=zE (v.setCell ⟨r,1,qu⟩ (Z U ((i:cj)+1)));rw[K];have R:Ext (·=r) v q:=by rw[<-K];exact Ext.set1 v r 1 _
 have se:=R.heap sT.out (by omega);have rv:=R.heap sX.out (by omega);have h4:Rd r lb cap T (i+1) q:=by rw[<-K];exact H3.out.step
 obtain⟨⟨g0,g1,g2,g3,g4⟩,⟨e0,e1,e2,e3,e4⟩,sB⟩:=d9 se;obtain⟨⟨p0,p1⟩,⟨q0,q1⟩,sE⟩:=bL rv;have sY:=zH R;have te:=zH rv;have H4:=zH h4;clear K R se rv h4 c0 c1 c3 f1 hr
 go_region
 go_wp2;(try simp only[cL,Exit.then]);have tf:bu r lb cap T (i+1) w q:=⟨H4.out,((Ext.of_below_size (M:=(·=r)) (show aq w.heap.size w o by rw[f];exact sr.out)).trans (Ext.of_below_size (M:=(·=r)) sR.out) (λk d=> .inl d)).trans sY.out (λk d=> .inl d)⟩
 have sf:Ext (·=N) q (((q.setCell ⟨N,0,qu⟩ (Z U t.ln)).setCell ⟨N,1,qu⟩ (Z U t.cl)).drew):=((Ext.set1 q N 0 _).trans (Ext.set1 _ N 1 _) (λk d=> .inl d)).drew;refine da (gp rfl _ _ N 40 _ (0,0) _ rfl (bf te.out) li (by kernel_rfl)) rfl ?_;refine⟨rfl,H4.out.ext sf (by omega) (λe=> ?_),tf.2.trans sf (λk d=> .inr (by omega))⟩;have:=sn.out;omega
def kM (t:Tok)(l:bm aw):Bool:=l.any λs=>cO t s
def mY (w:World)(b:cd)(l:bm aw):Prop:=∀(k:cd)(x:aw),l[k]?=qt x->w.cell? ⟨b,k,qu⟩=qt (qT x)
theorem gu {r lb cap:cd}{T:bm Tok}{i:cd}{t:Tok}(b c:cd)(l:bm aw)(w:World)(h:Rd r lb cap T i w)(K:T[i]?=qt t)(hl:l.length<=20)(hb:b<w.heap.size)(R:mY w b l):
  zP 260 #[rb (qt ⟨r,0,qu⟩),ra (qt ⟨b,0,qu⟩) l.length c] w (re (kM t l)):=by
 have rn:ca (∀s W,aq w.heap.size w W->zP 172 #[rb (qt ⟨r,0,qu⟩),qT s] W (re (cO t s))):=λs W hW=>aW s W (h.grow hW) K;have rr:=zH R;have HB:=zH hb;clear h K R;go_enter func260,ntmps260;go_wp2
 go_loopw [5] (λk wr=>∃j:cd,k= Z U (j:cj)/\j<=l.length/\(∀x∈l.take j,cO t x=qS)/\aq w.heap.size w wr) (λk _=>l.length-(intOf k).toNat)
 case atStart=>exact⟨0,rfl,cJ _,by simp,an _ _⟩
 case round=>
  obtain⟨j,rfl,hj,v,d⟩:=hrel;have HZ:=zH v;have f:=zH d
  by_cases rl:j<l.length
  ·have rv:(j:cj)<(l.length:cj):=by omega
   obtain⟨x,o⟩:∃x,l[j]?=qt x:=⟨_,am rl⟩
   have hc:wr.cell? ⟨b,j,qu⟩=qt (qT x):=(d.cell (p:=⟨b,j,qu⟩) HB.out).trans (rr.out j x o);have A:=zH (rn.out x wr d);obtain⟨q,D⟩:=zE (cO t x);rw[D] at A;have HQ:=zH D;have HX:=zH o;clear v d o D;cases q with
   |true=>
    have G:ca (qv=kM t l):=by unfold ca kM;rw[eq_comm,ju];exact⟨x,ce HX.out,HQ.out⟩
    go_wp2_with (go_at_call 172;refine A.out.mono ?_;rintro e w2 ⟨rfl,u⟩;have J:=zH (f.out.trans (u.mono f.out.size));clear u)
    go_ret;rw[<-G.out];exact⟨rfl,J.out⟩
   |false=>
    go_wp2_with (go_at_call 172;refine A.out.mono ?_;rintro e w2 ⟨rfl,u⟩;have J:=zH (f.out.trans (u.mono f.out.size));clear u)
    go_roundw
    case rel=>
     refine⟨j+1,by go_num,rl,λy hy=> ?_,J.out⟩;rw[lP,HX.out] at hy;rcases cC.1 hy with h|h
     ·exact HZ.out y h
     ·have e:y=x:=by simpa using h
      rw[e];exact HQ.out
    case measure=>simp[intOf];omega
  ·have rm:j=l.length:=by omega
   have G:ca (qS=kM t l):=by
    unfold ca kM;rw[eq_comm,kp];intro x o;rw[v x (by rw[rm,cT];exact o)];simp
   clear v d;subst rm;go_wp2;go_ret;rw[<-G.out];exact⟨rfl,f.out⟩
def jc:aw:=⟨#[42]⟩
def ul:aw:=⟨#[105,110,116]⟩
theorem um {r lb cap:cd}{T:bm Tok}{i:cd}{u:Tok}(w:World)(h:Rd r lb cap T i w)(d:T[i+1]?=qt u)(o:u.kind=4):
  zP 262 #[rb (qt ⟨r,0,qu⟩)] w (re (u.text==jc)):=by
 obtain⟨c0,c1,_,_,A⟩:=h.cells;have D:i+1<T.length:=(bl.1 d).1;have G:=h.short;have q:=h.toks (i+1) u d 0 _ rfl;have J:=h.toks (i+1) u d 1 _ rfl;rw[kO] at q;rw[o] at q;have K:qr.wrap ((i:cj)+1)=(i:cj)+1:=IntWalk.i64_in _ (by omega);have R:decide ((i:cj)+1<(T.length:cj))=qv:=by rw[js];omega
 have rl:(i:cj)+1<(T.length:cj):=by omega
 have rm:0<=(i:cj)+1:=by omega
 have rn:((i:cj)+1).toNat=i+1:=by omega
 obtain⟨b,f⟩:=zE (u.text==jc);have y:(u.text.toList==jc.toList)=b:=by rw[<-eL];exact f
 rw[f];have v:jc.toList=[42]:=by rw[mN];rfl
 rw[v] at y;clear h d o f v;cases b<;>(
  go_enter func262,ntmps262
  go_upto_region 1 with(fail)
  go_quiet (fail)
  go_wp2;go_ret;exact⟨rfl,nM (an _ _) _⟩)
inductive uo (T:bm Tok) (i:cd):Ty->cd->Prop
 |int (t:Tok):T[i]?=qt t->cO t ul=qv->uo T i bq (i+1)
 |ptr (t u:Tok):T[i]?=qt t->t.kind=1->T[i+1]?=qt u->cO u jc=qv->uo T i (qv,t.text) (i+2)
def Eb (t:Ty):bw:= rh #[re t.1,qT t.2]
theorem kD {t:Tok}{s:aw}(h:t.kind=1):cO t s=qS:=by unfold cO;rw[h];rfl
theorem zZ {r lb cap:cd}{T:bm Tok}{i:cd}{t:Tok}(w:World)(h:Rd r lb cap T i w)(A:T[i]?=qt t)(d:cO t ul=qv):
  ft ac 209 #[rb (qt ⟨r,0,qu⟩)] w λe w'=>e= rk (rh #[re qS,qT ⟨#[]⟩])/\bu r lb cap T (i+1) w w':=by
 obtain⟨N,f⟩:=zE w.heap.size;obtain⟨q,o⟩:=zE (w.alloc (rj #[re qS,qT ⟨#[]⟩] 32));have D:=gQ o f;have K:q.heap[N]?=qt (rj #[re qS,qT ⟨#[]⟩] 32 (0,0)):=by rw[<-o,<-f];exact alloc_at _ _
 have R:q.heap.size=N+1:=by rw[<-o];simp[f]
 have G:=h.grow (by rw[f];exact D);have J:=zH (aW ul q G A);rw[d] at J;unfold ul at J;have rL:i<T.length:=(bl.1 A).1;have hT:=h.short;have rN:r<N:=by rw[<-f];exact h.rlt
 have rn:ca (lb<N):=by unfold ca;rw[<-f];exact h.lt
 have rr:=zH o;have rv:=zH D;have rx:=zH K;have rB:=zH R;have H1:=zH G;clear h A d o D K G R;go_enter func209,ntmps209
 go_upto_region 2 with(go_at_call 172;rw[rr.out];refine J.out.mono ?_;rintro e w2 ⟨rfl,y⟩;have rI:=zH y;have H2:=zH (H1.out.grow y);have rl:=zH ((y.block N (by rw[rB.out];omega)).trans rx.out);clear y)
 obtain⟨c0,c1,c3,f1,hr⟩:=H2.out.cells;obtain⟨⟨p0,p1⟩,⟨q0,q1⟩,rS⟩:=bL rl.out;have rK:N≠r:=by omega
 go_wp2;(try simp only[cL,Exit.then]);refine da (dv (P:=ac) rfl _ _ N 32 _ (0,0) _ rfl (bf ((cQ _ _ _ N rK).trans rl.out)) dr rfl (by kernel_rfl)) rfl ?_;have hM:bu r lb cap T (i+1) w (w2.setCell ⟨r,1,qu⟩ (Z U ((i:cj)+1))):=⟨H2.out.step,((Ext.of_below_size (M:=(·=r)) (show aq w.heap.size w q by rw[f];exact rv.out)).trans (Ext.of_below_size (M:=(·=r)) rI.out) (λk d=> .inl d)).trans (Ext.set1 w2 r 1 _) (λk d=> .inl d)⟩
 have rm:∀W u v,Ext (·=N) W ((W.setCell ⟨N,0,qu⟩ u).setCell ⟨N,1,qu⟩ v):=λW u v=>(Ext.set1 W N 0 u).trans (Ext.set1 _ N 1 v) (λk d=> .inl d);exact⟨rfl,hM.1.ext (rm _ _ _) (by omega) (by have:=rn.out;omega),hM.2.trans (rm _ _ _) (λk d=> .inr (by omega))⟩
theorem sM {r lb cap:cd}{T:bm Tok}{i:cd}{t u:Tok}(w:World)(h:Rd r lb cap T i w)(y:T[i]?=qt t)(f:t.kind=1)(hu:T[i+1]?=qt u)(hs:cO u jc=qv):
  ft ac 209 #[rb (qt ⟨r,0,qu⟩)] w λe w'=>e= rk (rh #[re qv,qT t.text])/\bu r lb cap T (i+2) w w':=by
 obtain⟨N,d⟩:=zE w.heap.size;obtain⟨o,q⟩:=zE (w.alloc (rj #[re qS,qT ⟨#[]⟩] 32));have A:=gQ q d;have rl:o.heap[N]?=qt (rj #[re qS,qT ⟨#[]⟩] 32 (0,0)):=by rw[<-q,<-d];exact alloc_at _ _
 have rm:o.heap.size=N+1:=by rw[<-q];simp[d]
 have D:=h.grow (by rw[d];exact A);have G:=zH (aW ul o D y);rw[kD f] at G;unfold ul at G;have se:ca (∀W,aq o.heap.size o W->ft ac 208 #[rb (qt ⟨r,0,qu⟩)] W λe w'=>e= rk (.tuple #[qT t.text,rh #[Z U t.ln,Z U t.cl]])/\bu r lb cap T (i+1) W w'):=λW J=>dD W (D.grow J) y f;have rn:ca (∀W,Rd r lb cap T (i+1) W->ft ac 207 #[rb (qt ⟨r,0,qu⟩),qT jc] W λe w'=>e= rk (.tuple #[])/\bu r lb cap T (i+1+1) W w'):=λW J=>aT jc W J hu hs;unfold jc at rn;have sE:r<N:=by rw[<-d];exact h.rlt
 have sf:ca (lb<N):=by unfold ca;rw[<-d];exact h.lt
 have hst:∀(w:World)(c:cG bw),c.size=2->(cU ⟨w.heap.size,0,qu⟩ [Z U t.ln,Z U t.cl] 0).run ac (w.alloc (rj c 40))= .ok () (w.alloc (rj #[Z U t.ln,Z U t.cl] 40)):=λw c hc=>
  cf (P:=ac) w 40 c #[Z U t.ln,Z U t.cl] (by show _=qt 2;kernel_rfl) hc (by simp[br])
 have sk:=zH hst;have sn:=zH q;have sq:=zH A;have sr:=zH rl;have sL:=zH rm;clear h y f hu hs q A rl D rm hst;go_enter func209,ntmps209
 go_upto_region 5 with(first
  |(go_at_call 172;rw[sn.out];refine G.out.mono ?_;rintro e w2 ⟨rfl,rr⟩;have rv:=zH rr;clear rr)
  |(go_at_call 208;refine(se.out _ rv.out).mono ?_;rintro e w3 ⟨rfl,rx⟩;have sx:=zH rx;have sy:=sk.out w3;clear rx))
 clear sy;obtain⟨W4,K⟩:=zE (w3.alloc (rj #[Z U t.ln,Z U t.cl] 40));rw[K];have rB:=iF K;have rI:bu r lb cap T (i+1) o W4:=(bu.grown rv.out sx.out).grow rB;have rK:=zH rI;clear K rB rI
 go_upto_region 6 with(go_at_call 207;refine(rn.out _ rK.out.1).mono ?_;rintro e w5 ⟨rfl,rL⟩;have rN:=zH (rK.out.trans rL);clear rL)
 have R:=rN.out.2.heap sr.out (by omega);have sB:=zH R;obtain⟨⟨p0,p1⟩,⟨q0,q1⟩,sR⟩:=bL R;clear R;go_wp2;(try simp only[cL,Exit.then]);refine da (dv (P:=ac) rfl _ _ N 32 _ (0,0) _ rfl (bf sB.out) dr rfl (by kernel_rfl)) rfl ?_;have hM:bu r lb cap T (i+1+1) w w5:=bu.grown (by rw[d];exact sq.out) rN.out;have rS:∀W u v,Ext (·=N) W ((W.setCell ⟨N,0,qu⟩ u).setCell ⟨N,1,qu⟩ v):=λW u v=>(Ext.set1 W N 0 u).trans (Ext.set1 _ N 1 v) (λk f=> .inl f);exact⟨rfl,hM.1.ext (rS _ _ _) (by omega) (by have:=sf.out;omega),hM.2.trans (rS _ _ _) (λk f=> .inr (by omega))⟩
theorem nO {r lb cap:cd}{T:bm Tok}{i k:cd}{y:Ty}(w:World)(h:Rd r lb cap T i w)(o:uo T i y k):
  ft ac 209 #[rb (qt ⟨r,0,qu⟩)] w λe w'=>e= rk (Eb y)/\bu r lb cap T k w w':=by
 cases o with
 |int t d f=>exact zZ w h d f
 |ptr t u d f q v=>exact sM w h d f q v
structure Ex where
 kind:cj
 n:cj
 nm:aw
 ln:cj
 cl:cj
def Ex.cells (e:Ex):cG bw:=#[Z U e.kind,Z U e.n,qT e.nm,qT ⟨#[]⟩,ra qu 0 0,Z U e.ln,Z U e.cl]
theorem oU (e:Ex)(w:World):ft ac 277 #[rh e.cells] w λq w'=>q= rk (Z U 1)/\aq w.heap.size w w':=by
 obtain⟨N,f⟩:=zE w.heap.size;unfold Ex.cells;go_enter func277,ntmps277;go_wp2;obtain⟨u,d⟩:=zE (w.alloc (rj #[Z U e.kind,Z U e.n,qT e.nm,qT ⟨#[]⟩,ra qu 0 0,Z U e.ln,Z U e.cl] 313));have h:=gQ d f;have o:u.heap[N]?=qt (rj #[Z U e.kind,Z U e.n,qT e.nm,qT ⟨#[]⟩,ra qu 0 0,Z U e.ln,Z U e.cl] 313 (0,0)):=by rw[<-d,<-f];exact alloc_at _ _
 obtain⟨⟨c0,c1,c2,c3,c4,y,A⟩,_,D⟩:=dC o;rw[d];have v:=zH h;clear d h o
 go_loop [3,4] (λn i=>n= Z U 0/\i= Z U 0) (λ_ _=>0)
 case atStart=>exact⟨rfl,rfl⟩
 case round=>
  obtain⟨rfl,rfl⟩:=hrel;go_wp2;go_ret;(try rw[f]);exact⟨rfl,v.out⟩
theorem iW {r lb cap:cd}{T:bm Tok}{i:cd}(e:Ex)(w:World)(h:Rd r lb cap T i w):
  ft ac 273 #[rb (qt ⟨r,0,qu⟩),rh e.cells] w λen w'=>en= rk (rh e.cells)/\aq w.heap.size w w':=by
 obtain⟨N,d⟩:=zE w.heap.size;obtain⟨u,f⟩:=zE ((w.alloc (rj #[Z U e.kind,Z U e.n,qT e.nm,qT ⟨#[]⟩,ra qu 0 0,Z U e.ln,Z U e.cl] 313)).alloc (rj #[Z U 0,Z U 0,qT ⟨#[]⟩,qT ⟨#[]⟩,ra qu 0 0,Z U 0,Z U 0] 313));have y:=qQ f d;have o:=vN f d;have q:=xI f d;have G:u.heap.size=N+2:=by rw[<-f];simp[d]
 have J:=h.grow (by rw[d];exact y);have K:ca (∀W,aq u.heap.size u W->zS 171 #[rb (qt ⟨r,0,qu⟩)] W (re qS)):=λW hW=>bg W (J.grow hW);have A:=λW=>oU e W;unfold Ex.cells at A⊢;have rm:=zH A;obtain⟨⟨c0,c1,c2,c3,c4,c5,c6⟩,_,rK⟩:=dC o;have rn:=zH f;have rr:=zH y;have rv:=zH o;have rx:=zH q;have D:=zH G;clear h f y o q G J A;go_enter func273,ntmps273
 go_upto_region 1 with(fail)
 rw[rn.out]
 go_upto_region 3 with(first
  |(go_at_call 171;refine(K.out u (an _ _)).mono ?_;rintro e w2 ⟨rfl,rfl⟩)
  |(go_at_call 277;refine(rm.out _).mono ?_;rintro e w2 ⟨rfl,R⟩;have v:=zH R;clear R))
 have o:=(v.out.block N (by rw[D.out];omega)).trans rv.out;have q:=(v.out.block (N+1) (by rw[D.out];omega)).trans rx.out;obtain⟨⟨c0,c1,c2,c3,c4,c5,c6⟩,_,rL⟩:=dC o;obtain⟨⟨g0,g1,g2,g3,g4,g5,g6⟩,⟨f0,f1,f2,f3,f4,f5,f6⟩,rN⟩:=dC q;have rB:=zH q;have rl:ca (aq N w w2):=rr.out.trans (v.out.mono (by rw[D.out];omega));have rI:=zH (K.out w2 v.out);clear o q
 go_wp2_with (go_at_call 171;refine rI.out.mono ?_;rintro e w3 ⟨rfl,rfl⟩)
 (try simp only[cL,Exit.then]);refine da (dv (P:=ac) rfl _ _ (N+1) 313 _ (0,0) _ rfl (fq rB.out) gn rfl (by kernel_rfl)) rfl ?_;(try rw[d]);exact⟨rfl,rl.out.trans ((bM _ _ _ _ _ _ _ _ _).below (cE (by omega) rl.out.size) (λk hk=>by omega))⟩
def dY:aw:=⟨#[40]⟩
def Bj:aw:=⟨#[110,117,108,108]⟩
def Bl:aw:=⟨#[110,101,119]⟩
theorem rf {r lb cap:cd}{T:bm Tok}{i:cd}{t:Tok}(d:cj)(w:World)(h:Rd r lb cap T i w)(ht:T[i]?=qt t)(u:t.kind=3):
  ft ac 278 #[rb (qt ⟨r,0,qu⟩),Z U d] w λe w'=>e= rk (rh (Ex.cells ⟨1,t.n,⟨#[]⟩,t.ln,t.cl⟩))/\bu r lb cap T (i+1) w w':=by
 obtain⟨N,o⟩:=zE w.heap.size;obtain⟨W1,v⟩:=zE (w.alloc (rj #[Z U 0,Z U 0,qT ⟨#[]⟩,qT ⟨#[]⟩,ra qu 0 0,Z U 0,Z U 0] 313));have rm:=gQ v o;have rS:W1.heap.size=N+1:=by rw[<-v];simp[o]
 have se:W1.heap[N]?=qt (rj #[Z U 0,Z U 0,qT ⟨#[]⟩,qT ⟨#[]⟩,ra qu 0 0,Z U 0,Z U 0] 313 (0,0)):=by rw[<-v,<-o];exact alloc_at _ _
 have y:=h.grow (by rw[o];exact rm);have rn:=zH (bi W1 y ht);have sf:=zH λW A=>bg W (y.grow A);have rr:∀W,Rd r lb cap T (i+1) W->ft ac 273 #[rb (qt ⟨r,0,qu⟩),rh (Ex.cells ⟨1,t.n,⟨#[]⟩,t.ln,t.cl⟩)] W λen w'=>en= rk (rh (Ex.cells ⟨1,t.n,⟨#[]⟩,t.ln,t.cl⟩))/\aq W.heap.size W w':=λW A=>iW _ W A;have tD:=zH λs W A=>aW s W (y.grow A) ht;simp only[Tok.cells,u] at rn;unfold Ex.cells at rr;have sY:=zH rr;have hst:∀(w:World)(c:cG bw),c.size=5->(cU ⟨w.heap.size,0,qu⟩ [Z U t.kind,qT t.text,Z U t.n,Z U t.ln,Z U t.cl] 0).run ac (w.alloc (rj c 263))= .ok () (w.alloc (rj #[Z U t.kind,qT t.text,Z U t.n,Z U t.ln,Z U t.cl] 263)):=λw c hc=>
  cf (P:=ac) w 263 c #[Z U t.kind,qT t.text,Z U t.n,Z U t.ln,Z U t.cl] (by show _=qt 5;kernel_rfl) hc (by simp[br])
 have sk:∀(w:World)(c:cG bw),c.size=7->(cU ⟨w.heap.size,0,qu⟩ [Z U 0,Z U 0,qT ⟨#[]⟩,qT ⟨#[]⟩,ra qu 0 0,Z U t.ln,Z U t.cl] 0).run ac (w.alloc (rj c 313))= .ok () (w.alloc (rj #[Z U 0,Z U 0,qT ⟨#[]⟩,qT ⟨#[]⟩,ra qu 0 0,Z U t.ln,Z U t.cl] 313)):=λw c hc=>
  cf (P:=ac) w 313 c #[Z U 0,Z U 0,qT ⟨#[]⟩,qT ⟨#[]⟩,ra qu 0 0,Z U t.ln,Z U t.cl] (by show _=qt 7;kernel_rfl) hc (by simp[br])
 rw[u] at hst;have te:=zH hst;have tf:=zH sk;have tE:i<T.length:=(bl.1 ht).1;have hT:=h.short;have tG:r<N:=by rw[<-o];exact h.rlt
 have sn:ca (lb<N):=by unfold ca;rw[<-o];exact h.lt
 have th:=zH v;have ti:=zH rm;have rv:=zH rS;have tj:=zH se;have H1:=zH y;clear h ht rr hst sk v rm rS se y u;go_enter func278,ntmps278
 go_upto_region 2 with(go_at_call 170;rw[th.out];refine rn.out.mono ?_;rintro e w2 ⟨rfl,sq⟩;have tl:=te.out w2;have sr:=zH sq;clear sq)
 clear tl;obtain⟨G,D⟩:=zE w2.heap.size;obtain⟨W3,J⟩:=zE (w2.alloc (rj #[Z U 3,qT t.text,Z U t.n,Z U t.ln,Z U t.cl] 263));rw[D,J];have sx:=zD J sr;have rx:W3.heap.size=G+1:=by rw[<-J,<-D];simp
 have tM:N+1<=G:=by rw[<-D,<-rv.out];exact sr.out.size
 have rB:W3.heap[G]?=qt (rj #[Z U 3,qT t.text,Z U t.n,Z U t.ln,Z U t.cl] 263 (0,0)):=by rw[<-J,<-D];exact alloc_at _ _
 obtain⟨⟨g0,g1,g2,g3,g4⟩,_,tP⟩:=d9 rB;have sy:=tf.out W3;have tm:=zH sx;have tn:=zH rB;clear D J sx rB;rw[rx] at sy
 go_upto_region 4 with(fail)
 clear sy;obtain⟨f,q⟩:=zE (W3.alloc (rj #[Z U 0,Z U 0,qT ⟨#[]⟩,qT ⟨#[]⟩,ra qu 0 0,Z U t.ln,Z U t.cl] 313));rw[q];have K:=zD q tm;have tR:f.heap.size=G+2:=by rw[<-q];simp[rx]
 have rI:f.heap[G+1]?=qt (rj #[Z U 0,Z U 0,qT ⟨#[]⟩,qT ⟨#[]⟩,ra qu 0 0,Z U t.ln,Z U t.cl] 313 (0,0)):=by rw[<-q,<-rx];exact alloc_at _ _
 have rK:f.heap[G]?=qt (rj #[Z U 3,qT t.text,Z U t.n,Z U t.ln,Z U t.cl] 263 (0,0)):=by rw[<-q];exact(bt _ _ G (by omega)).trans tn.out
 have sB:=(K.block N (by have:=rv.out;omega)).trans tj.out;have h4:=H1.out.grow K;have tp:=zH (sf.out f K);have tr:=zH K;have tt:=zH rI;have tS:=zH rK;have tv:=zH sB;have H4:=zH h4;obtain⟨c0,c1,c3,f1,hr⟩:=h4.cells;obtain⟨⟨g0,g1,g2,g3,g4⟩,_,tU⟩:=d9 rK;obtain⟨⟨e0,e1,e2,e3,e4,e5,e6⟩,⟨q0,q1,q2,q3,q4,q5,q6⟩,tW⟩:=dC rI;clear q K rI rK sB h4 sf rn
 go_upto_region 35 with(go_at_call 171;refine tp.out.mono ?_;rintro e w2 ⟨rfl,rfl⟩)
 obtain⟨R,rl⟩:=zE (((f.setCell ⟨r,1,qu⟩ (Z U ((i:cj)+1))).setCell ⟨G+1,0,qu⟩ (Z U 1)).setCell ⟨G+1,1,qu⟩ (Z U t.n));rw[rl];have sE:bu r lb cap T (i+1) w R:=by
  have a:bu r lb cap T (i+1) f (f.setCell ⟨r,1,qu⟩ (Z U ((i:cj)+1))):=⟨H4.out.step,Ext.set1 f r 1 _⟩
  have hx:Ext (·=G+1) (f.setCell ⟨r,1,qu⟩ (Z U ((i:cj)+1))) R:=by rw[<-rl];exact af (af (Ext.refl _ _) _) _
  have tz:aq w.heap.size w f:=by rw[o];exact ti.out.trans (tr.out.mono (by rw[rv.out];omega))
  exact⟨a.1.ext hx (by omega) (by have:=sn.out;omega),(bu.grown tz a).2.trans hx (λk u=> .inr (by omega))⟩
 have sL:R.heap[G+1]?=qt (rj #[Z U 1,Z U t.n,qT ⟨#[]⟩,qT ⟨#[]⟩,ra qu 0 0,Z U t.ln,Z U t.cl] 313 (0,0)):=by
  rw[<-rl];exact aE _ (G+1) 1 _ _ _ (aE _ (G+1) 0 _ _ _ ((cQ _ _ _ (G+1) (by show G+1≠r;omega)).trans tt.out))
 have sR:R.heap[N]?=qt (rj #[Z U 0,Z U 0,qT ⟨#[]⟩,qT ⟨#[]⟩,ra qu 0 0,Z U 0,Z U 0] 313 (0,0)):=by
  rw[<-rl];exact(cQ _ _ _ N (by show N≠G+1;omega)).trans ((cQ _ _ _ N (by show N≠G+1;omega)).trans ((cQ _ _ _ N (by show N≠r;omega)).trans tv.out))
 obtain⟨⟨e0,e1,e2,e3,e4,e5,e6⟩,⟨q0,q1,q2,q3,q4,q5,q6⟩,ua⟩:=dC sL;have sT:=zH sE;have sX:=zH sR;clear sE sL sR;clear rl c0 c1 c3 f1 hr g0 g1 g2 g3 g4
 go_wp2_with (go_at_call 273;refine(sY.out R sT.out.1).mono ?_;rintro e w6 ⟨rfl,rL⟩;have tA:=zH rL;have rN:=(rL.block N (aa sX.out)).trans sX.out;have tB:=zH rN;obtain⟨⟨p0,p1,p2,p3,p4,p5,p6⟩,⟨o0,o1,o2,o3,o4,o5,o6⟩,ub⟩:=dC rN;clear rL rN)
 (try simp only[cL,Exit.then]);refine da (dv (P:=ac) rfl _ _ N 313 _ (0,0) _ rfl (fq tB.out) gn rfl (by kernel_rfl)) rfl ?_;have hM:bu r lb cap T (i+1) w w6:=sT.out.grow tA.out;exact⟨rfl,hM.1.ext (bM _ _ _ _ _ _ _ _ _) (by omega) (by have:=sn.out;omega),hM.2.trans (bM _ _ _ _ _ _ _ _ _) (λk u=> .inr (by omega))⟩
theorem rq {r lb cap:cd}{T:bm Tok}{i:cd}{t u:Tok}(d:cj)(w:World)(h:Rd r lb cap T i w)(ht:T[i]?=qt t)(y:t.kind=1)(hu:T[i+1]?=qt u)(hp:cO u dY=qS):
  ft ac 278 #[rb (qt ⟨r,0,qu⟩),Z U d] w λe w'=>e= rk (rh (Ex.cells ⟨2,0,t.text,t.ln,t.cl⟩))/\bu r lb cap T (i+1) w w':=by
 obtain⟨N,o⟩:=zE w.heap.size;obtain⟨W1,A⟩:=zE (w.alloc (rj #[Z U 0,Z U 0,qT ⟨#[]⟩,qT ⟨#[]⟩,ra qu 0 0,Z U 0,Z U 0] 313));have rm:=gQ A o;have sf:W1.heap.size=N+1:=by rw[<-A];simp[o]
 have sk:W1.heap[N]?=qt (rj #[Z U 0,Z U 0,qT ⟨#[]⟩,qT ⟨#[]⟩,ra qu 0 0,Z U 0,Z U 0] 313 (0,0)):=by rw[<-A,<-o];exact alloc_at _ _
 have D:=h.grow (by rw[o];exact rm);have rn:=zH (bi W1 D ht);have sn:=zH λW q=>bg W (D.grow q);have rr:∀W,Rd r lb cap T (i+1) W->ft ac 273 #[rb (qt ⟨r,0,qu⟩),rh (Ex.cells ⟨2,0,t.text,t.ln,t.cl⟩)] W λen w'=>en= rk (rh (Ex.cells ⟨2,0,t.text,t.ln,t.cl⟩))/\aq W.heap.size W w':=λW q=>iW _ W q;have ub:=zH λs W q=>aW s W (D.grow q) ht;have rv:ca (∀W,Rd r lb cap T (i+1) W->zP 172 #[rb (qt ⟨r,0,qu⟩),qT dY] W (re (cO u dY))):=λW q=>aW _ W q hu;rw[hp] at rv;unfold dY at rv;simp only[Tok.cells,y] at rn;unfold Ex.cells at rr;have tp:=zH rr;have hst:∀(w:World)(c:cG bw),c.size=5->(cU ⟨w.heap.size,0,qu⟩ [Z U t.kind,qT t.text,Z U t.n,Z U t.ln,Z U t.cl] 0).run ac (w.alloc (rj c 263))= .ok () (w.alloc (rj #[Z U t.kind,qT t.text,Z U t.n,Z U t.ln,Z U t.cl] 263)):=λw c hc=>
  cf (P:=ac) w 263 c #[Z U t.kind,qT t.text,Z U t.n,Z U t.ln,Z U t.cl] (by show _=qt 5;kernel_rfl) hc (by simp[br])
 have sq:∀(w:World)(c:cG bw),c.size=7->(cU ⟨w.heap.size,0,qu⟩ [Z U 0,Z U 0,qT ⟨#[]⟩,qT ⟨#[]⟩,ra qu 0 0,Z U t.ln,Z U t.cl] 0).run ac (w.alloc (rj c 313))= .ok () (w.alloc (rj #[Z U 0,Z U 0,qT ⟨#[]⟩,qT ⟨#[]⟩,ra qu 0 0,Z U t.ln,Z U t.cl] 313)):=λw c hc=>
  cf (P:=ac) w 313 c #[Z U 0,Z U 0,qT ⟨#[]⟩,qT ⟨#[]⟩,ra qu 0 0,Z U t.ln,Z U t.cl] (by show _=qt 7;kernel_rfl) hc (by simp[br])
 rw[y] at hst;have tr:=zH hst;have tt:=zH sq;have uc:i<T.length:=(bl.1 ht).1;have hT:=h.short;have ud:r<N:=by rw[<-o];exact h.rlt
 have sr:ca (lb<N):=by unfold ca;rw[<-o];exact h.lt
 have tv:=zH A;have tz:=zH rm;have rx:=zH sf;have tA:=zH sk;have H1:=zH D;clear h ht rr hst sq A rm sf sk D y hu hp;go_enter func278,ntmps278
 go_upto_region 2 with(go_at_call 170;rw[tv.out];refine rn.out.mono ?_;rintro e w2 ⟨rfl,sx⟩;have tB:=tr.out w2;have sy:=zH sx;clear sx)
 clear tB;obtain⟨G,J⟩:=zE w2.heap.size;obtain⟨W3,K⟩:=zE (w2.alloc (rj #[Z U 1,qT t.text,Z U t.n,Z U t.ln,Z U t.cl] 263));rw[J,K];have sB:=zD K sy;have rB:W3.heap.size=G+1:=by rw[<-K,<-J];simp
 have ue:N+1<=G:=by rw[<-J,<-rx.out];exact sy.out.size
 have rI:W3.heap[G]?=qt (rj #[Z U 1,qT t.text,Z U t.n,Z U t.ln,Z U t.cl] 263 (0,0)):=by rw[<-K,<-J];exact alloc_at _ _
 obtain⟨⟨g0,g1,g2,g3,g4⟩,_,ur⟩:=d9 rI;have sE:=tt.out W3;have tD:=zH sB;have tE:=zH rI;clear J K sB rI;rw[rB] at sE
 go_upto_region 4 with(fail)
 clear sE;obtain⟨f,v⟩:=zE (W3.alloc (rj #[Z U 0,Z U 0,qT ⟨#[]⟩,qT ⟨#[]⟩,ra qu 0 0,Z U t.ln,Z U t.cl] 313));rw[v];have R:=zD v tD;have uv:f.heap.size=G+2:=by rw[<-v];simp[rB]
 have rK:f.heap[G+1]?=qt (rj #[Z U 0,Z U 0,qT ⟨#[]⟩,qT ⟨#[]⟩,ra qu 0 0,Z U t.ln,Z U t.cl] 313 (0,0)):=by rw[<-v,<-rB];exact alloc_at _ _
 have rL:f.heap[G]?=qt (rj #[Z U 1,qT t.text,Z U t.n,Z U t.ln,Z U t.cl] 263 (0,0)):=by rw[<-v];exact(bt _ _ G (by omega)).trans tE.out
 have sL:=(R.block N (by have:=rx.out;omega)).trans tA.out;have h4:=H1.out.grow R;have tG:=zH (sn.out f R);have tM:=zH R;have tP:=zH rK;have ux:=zH rL;have tR:=zH sL;have H4:=zH h4;obtain⟨c0,c1,c3,f1,hr⟩:=h4.cells;obtain⟨⟨g0,g1,g2,g3,g4⟩,_,tS⟩:=d9 rL;obtain⟨⟨e0,e1,e2,e3,e4,e5,e6⟩,⟨q0,q1,q2,q3,q4,q5,q6⟩,va⟩:=dC rK;clear v R rK rL sL h4 sn rn
 go_upto_region 13 with(go_at_call 171;refine tG.out.mono ?_;rintro e w2 ⟨rfl,rfl⟩)
 obtain⟨W6,rl⟩:=zE (((f.setCell ⟨r,1,qu⟩ (Z U ((i:cj)+1))).setCell ⟨G+1,0,qu⟩ (Z U 2)).setCell ⟨G+1,2,qu⟩ (qT t.text));rw[rl];have sR:bu r lb cap T (i+1) w W6:=by
  have a:bu r lb cap T (i+1) f (f.setCell ⟨r,1,qu⟩ (Z U ((i:cj)+1))):=⟨H4.out.step,Ext.set1 f r 1 _⟩
  have hx:Ext (·=G+1) (f.setCell ⟨r,1,qu⟩ (Z U ((i:cj)+1))) W6:=by rw[<-rl];exact af (af (Ext.refl _ _) _) _
  have tU:aq w.heap.size w f:=by rw[o];exact tz.out.trans (tM.out.mono (by rw[rx.out];omega))
  exact⟨a.1.ext hx (by omega) (by have:=sr.out;omega),(bu.grown tU a).2.trans hx (λk y=> .inr (by omega))⟩
 have sT:W6.heap[G+1]?=qt (rj #[Z U 2,Z U 0,qT t.text,qT ⟨#[]⟩,ra qu 0 0,Z U t.ln,Z U t.cl] 313 (0,0)):=by
  rw[<-rl];exact aE _ (G+1) 2 _ _ _ (aE _ (G+1) 0 _ _ _ ((cQ _ _ _ (G+1) (by show G+1≠r;omega)).trans tP.out))
 have sX:W6.heap[N]?=qt (rj #[Z U 0,Z U 0,qT ⟨#[]⟩,qT ⟨#[]⟩,ra qu 0 0,Z U 0,Z U 0] 313 (0,0)):=by
  rw[<-rl];exact(cQ _ _ _ N (by show N≠G+1;omega)).trans ((cQ _ _ _ N (by show N≠G+1;omega)).trans ((cQ _ _ _ N (by show N≠r;omega)).trans tR.out))
 have sY:=zH sR;have te:=zH sT;have tf:=zH sX;clear rl sR sT sX c0 c1 c3 f1 hr e0 e1 e2 e3 e4 e5 e6 q0 q1 q2 q3 q4 q5 q6 g0 g1 g2 g3 g4 tS
 go_upto_region 35 with(go_at_call 172;refine(rv.out W6 sY.out.1).mono ?_;rintro e W5 ⟨rfl,th⟩;have rN:=zH th;clear th)
 have ti:=sY.out.grow rN.out;have tj:=(rN.out.block (G+1) (aa te.out)).trans te.out;have tl:=(rN.out.block N (aa tf.out)).trans tf.out;obtain⟨⟨e0,e1,e2,e3,e4,e5,e6⟩,⟨q0,q1,q2,q3,q4,q5,q6⟩,vc⟩:=dC tj;have tm:=zH ti;have tn:=zH tl;clear ti tj tl
 skip
 go_wp2_with (go_at_call 273;refine(tp.out W5 tm.out.1).mono ?_;rintro e w6 ⟨rfl,rS⟩;have tW:=zH rS;have se:=(rS.block N (aa tn.out)).trans tn.out;have ua:=zH se;obtain⟨⟨p0,p1,p2,p3,p4,p5,p6⟩,⟨o0,o1,o2,o3,o4,o5,o6⟩,vd⟩:=dC se;clear rS se)
 (try simp only[cL,Exit.then]);refine da (dv (P:=ac) rfl _ _ N 313 _ (0,0) _ rfl (fq ua.out) gn rfl (by kernel_rfl)) rfl ?_;have hM:bu r lb cap T (i+1) w w6:=tm.out.grow tW.out;exact⟨rfl,hM.1.ext (bM _ _ _ _ _ _ _ _ _) (by omega) (by have:=sr.out;omega),hM.2.trans (bM _ _ _ _ _ _ _ _ _) (λk y=> .inr (by omega))⟩
theorem ru {r lb cap:cd}{T:bm Tok}{i:cd}{t u:Tok}(d:cj)(w:World)(h:Rd r lb cap T i w)(ht:T[i]?=qt t)(y:t.kind=2)(hw:cO t Bl=qv)(sE:cO t Bj=qS)(hu:T[i+1]?=qt u)(sL:u.kind=1):
  ft ac 278 #[rb (qt ⟨r,0,qu⟩),Z U d] w λe w'=>e= rk (rh (Ex.cells ⟨7,0,u.text,t.ln,t.cl⟩))/\bu r lb cap T (i+1+1) w w':=by
 obtain⟨N,f⟩:=zE w.heap.size;obtain⟨W1,J⟩:=zE (w.alloc (rj #[Z U 0,Z U 0,qT ⟨#[]⟩,qT ⟨#[]⟩,ra qu 0 0,Z U 0,Z U 0] 313));have rI:=gQ J f;have sR:W1.heap.size=N+1:=by rw[<-J];simp[f]
 have sT:W1.heap[N]?=qt (rj #[Z U 0,Z U 0,qT ⟨#[]⟩,qT ⟨#[]⟩,ra qu 0 0,Z U 0,Z U 0] 313 (0,0)):=by rw[<-J,<-f];exact alloc_at _ _
 have K:=h.grow (by rw[f];exact rI);have rK:=zH (bi W1 K ht);have sX:=zH λW o=>bg W (K.grow o);have rL:∀W,Rd r lb cap T (i+1+1) W->ft ac 273 #[rb (qt ⟨r,0,qu⟩),rh (Ex.cells ⟨7,0,u.text,t.ln,t.cl⟩)] W λen w'=>en= rk (rh (Ex.cells ⟨7,0,u.text,t.ln,t.cl⟩))/\aq W.heap.size W w':=λW o=>iW _ W o;have sY:=zH λs W o=>aW s W (K.grow o) ht;have rN:=zH (sY.out Bj);rw[sE] at rN;unfold Bj at rN;have rS:=zH (sY.out Bl);rw[hw] at rS;unfold Bl at rS;have tW:ca (∀W,Rd r lb cap T (i+1) W->ft ac 208 #[rb (qt ⟨r,0,qu⟩)] W λe w'=>e= rk (.tuple #[qT u.text,rh #[Z U u.ln,Z U u.cl]])/\bu r lb cap T (i+1+1) W w'):=λW o=>dD W o hu sL;simp only[Tok.cells,y] at rK;unfold Ex.cells at rL;have ua:=zH rL;have hst:∀(w:World)(c:cG bw),c.size=5->(cU ⟨w.heap.size,0,qu⟩ [Z U t.kind,qT t.text,Z U t.n,Z U t.ln,Z U t.cl] 0).run ac (w.alloc (rj c 263))= .ok () (w.alloc (rj #[Z U t.kind,qT t.text,Z U t.n,Z U t.ln,Z U t.cl] 263)):=λw c hc=>
  cf (P:=ac) w 263 c #[Z U t.kind,qT t.text,Z U t.n,Z U t.ln,Z U t.cl] (by show _=qt 5;kernel_rfl) hc (by simp[br])
 have te:∀(w:World)(c:cG bw),c.size=7->(cU ⟨w.heap.size,0,qu⟩ [Z U 0,Z U 0,qT ⟨#[]⟩,qT ⟨#[]⟩,ra qu 0 0,Z U t.ln,Z U t.cl] 0).run ac (w.alloc (rj c 313))= .ok () (w.alloc (rj #[Z U 0,Z U 0,qT ⟨#[]⟩,qT ⟨#[]⟩,ra qu 0 0,Z U t.ln,Z U t.cl] 313)):=λw c hc=>
  cf (P:=ac) w 313 c #[Z U 0,Z U 0,qT ⟨#[]⟩,qT ⟨#[]⟩,ra qu 0 0,Z U t.ln,Z U t.cl] (by show _=qt 7;kernel_rfl) hc (by simp[br])
 rw[y] at hst;have ub:=zH hst;have uc:=zH te;have vn:i<T.length:=(bl.1 ht).1;have hT:=h.short;have vp:r<N:=by rw[<-f];exact h.rlt
 have se:ca (lb<N):=by unfold ca;rw[<-f];exact h.lt
 have ud:=zH J;have ue:=zH rI;have sf:=zH sR;have ur:=zH sT;have H1:=zH K;clear h ht rL hst te J rI sR sT K y hw sE hu sL;go_enter func278,ntmps278
 go_upto_region 2 with(go_at_call 170;rw[ud.out];refine rK.out.mono ?_;rintro e w2 ⟨rfl,tf⟩;have uv:=ub.out w2;have th:=zH tf;clear tf)
 clear uv;obtain⟨G,R⟩:=zE w2.heap.size;obtain⟨W3,rl⟩:=zE (w2.alloc (rj #[Z U 2,qT t.text,Z U t.n,Z U t.ln,Z U t.cl] 263));rw[R,rl];have ti:=zD rl th;have sk:W3.heap.size=G+1:=by rw[<-rl,<-R];simp
 have vq:N+1<=G:=by rw[<-R,<-sf.out];exact th.out.size
 have sn:W3.heap[G]?=qt (rj #[Z U 2,qT t.text,Z U t.n,Z U t.ln,Z U t.cl] 263 (0,0)):=by rw[<-rl,<-R];exact alloc_at _ _
 obtain⟨⟨g0,g1,g2,g3,g4⟩,_,vr⟩:=d9 sn;have tj:=uc.out W3;have ux:=zH ti;have va:=zH sn;clear R rl ti sn;rw[sk] at tj
 go_upto_region 4 with(fail)
 clear tj;obtain⟨W4,A⟩:=zE (W3.alloc (rj #[Z U 0,Z U 0,qT ⟨#[]⟩,qT ⟨#[]⟩,ra qu 0 0,Z U t.ln,Z U t.cl] 313));rw[A];have rm:=zD A ux;have vt:W4.heap.size=G+2:=by rw[<-A];simp[sk]
 have tl:W4.heap[G+1]?=qt (rj #[Z U 0,Z U 0,qT ⟨#[]⟩,qT ⟨#[]⟩,ra qu 0 0,Z U t.ln,Z U t.cl] 313 (0,0)):=by rw[<-A,<-sk];exact alloc_at _ _
 have sq:W4.heap[G]?=qt (rj #[Z U 2,qT t.text,Z U t.n,Z U t.ln,Z U t.cl] 263 (0,0)):=by rw[<-A];exact(bt _ _ G (by omega)).trans va.out
 have tm:=(rm.block N (by have:=sf.out;omega)).trans ur.out;have h4:=H1.out.grow rm;have vc:=zH (sX.out W4 rm);have rn:=zH rm;have tn:=zH tl;have vu:=zH sq;have tp:=zH tm;have H4:=zH h4;obtain⟨⟨g0,g1,g2,g3,g4⟩,_,vx⟩:=d9 sq;clear A rm tl sq tm h4 sX rK
 go_upto_region 19 with(first
  |(go_at_call 171;refine vc.out.mono ?_;rintro e w2 ⟨rfl,rfl⟩)
  |(go_at_call 172;refine(rN.out W4 rn.out).mono ?_;rintro e W6 ⟨rfl,q⟩;have sr:=zH (rn.out.trans (q.mono rn.out.size));have tr:=zH q;clear q))
 go_upto_region 20 with(go_at_call 172;refine(rS.out W6 sr.out).mono ?_;rintro e D ⟨rfl,tt⟩;have rv:=zH (tr.out.trans (tt.mono tr.out.size));clear tt)
 have h7:=H4.out.grow rv.out;have sx:=(rv.out.block (G+1) (aa tn.out)).trans tn.out;have tv:=(rv.out.block N (aa tp.out)).trans tp.out;obtain⟨c0,c1,c3,f1,hr⟩:=h7.cells;obtain⟨⟨e0,e1,e2,e3,e4,e5,e6⟩,⟨q0,q1,q2,q3,q4,q5,q6⟩,vd⟩:=dC sx;have H7:=zH h7;have vf:=zH sx;have vh:=zH tv;clear h7 sx tv
 go_upto_region 22 with(fail)
 obtain⟨W8,rr⟩:=zE ((D.setCell ⟨r,1,qu⟩ (Z U ((i:cj)+1))).setCell ⟨G+1,0,qu⟩ (Z U 7));rw[rr];have tz:bu r lb cap T (i+1) w W8:=by
  have a:bu r lb cap T (i+1) D (D.setCell ⟨r,1,qu⟩ (Z U ((i:cj)+1))):=⟨H7.out.step,Ext.set1 D r 1 _⟩
  have hx:Ext (·=G+1) (D.setCell ⟨r,1,qu⟩ (Z U ((i:cj)+1))) W8:=by rw[<-rr];exact af (Ext.refl _ _) _
  have vi:aq w.heap.size w D:=by rw[f];exact ue.out.trans ((rn.out.trans (rv.out.mono rn.out.size)).mono (by rw[sf.out];omega))
  exact⟨a.1.ext hx (by omega) (by have:=se.out;omega),(bu.grown vi a).2.trans hx (λk y=> .inr (by omega))⟩
 have tA:W8.heap[G+1]?=qt (rj #[Z U 7,Z U 0,qT ⟨#[]⟩,qT ⟨#[]⟩,ra qu 0 0,Z U t.ln,Z U t.cl] 313 (0,0)):=by
  rw[<-rr];exact aE _ (G+1) 0 _ _ _ ((cQ _ _ _ (G+1) (by show G+1≠r;omega)).trans vf.out)
 have tB:W8.heap[N]?=qt (rj #[Z U 0,Z U 0,qT ⟨#[]⟩,qT ⟨#[]⟩,ra qu 0 0,Z U 0,Z U 0] 313 (0,0)):=by
  rw[<-rr];exact(cQ _ _ _ N (by show N≠G+1;omega)).trans ((cQ _ _ _ N (by show N≠r;omega)).trans vh.out)
 have tD:=zH tz;have tE:=zH tA;have vj:=zH tB;clear rr tz tA tB c0 c1 c3 f1 hr e0 e1 e2 e3 e4 e5 e6 q0 q1 q2 q3 q4 q5 q6 vd
 go_upto_region 35 with(go_at_call 208;refine(tW.out W8 tD.out.1).mono ?_;rintro e W9 ⟨rfl,v⟩;have sy:=zH v;have tG:=v.2.heap tE.out (by omega);obtain⟨⟨e0,e1,e2,e3,e4,e5,e6⟩,⟨q0,q1,q2,q3,q4,q5,q6⟩,vy⟩:=dC tG;clear v tG)
 obtain⟨W5,rx⟩:=zE (W9.setCell ⟨G+1,2,qu⟩ (qT u.text));rw[rx];have rB:Ext (·=G+1) W9 W5:=by rw[<-rx];exact af (Ext.refl _ _) _
 have v:=tD.out.trans sy.out;have tM:bu r lb cap T (i+1+1) w W5:=⟨v.1.ext rB (by omega) (by have:=se.out;omega),v.2.trans rB (λk y=> .inr (by omega))⟩
 have tP:W5.heap[G+1]?=qt (rj #[Z U 7,Z U 0,qT u.text,qT ⟨#[]⟩,ra qu 0 0,Z U t.ln,Z U t.cl] 313 (0,0)):=by
  rw[<-rx];exact aE _ (G+1) 2 _ _ _ (sy.out.2.heap tE.out (by omega))
 have tR:W5.heap[N]?=qt (rj #[Z U 0,Z U 0,qT ⟨#[]⟩,qT ⟨#[]⟩,ra qu 0 0,Z U 0,Z U 0] 313 (0,0)):=rB.heap (sy.out.2.heap vj.out (by omega)) (by omega);clear rB v;obtain⟨⟨e0,e1,e2,e3,e4,e5,e6⟩,⟨q0,q1,q2,q3,q4,q5,q6⟩,wa⟩:=dC tP;have tS:=zH tM;have tU:=zH tR;clear tM tP tR;clear rx
 go_wp2_with (go_at_call 273;refine(ua.out W5 tS.out.1).mono ?_;rintro e w6 ⟨rfl,q⟩;have sr:=zH q;have sB:=(q.block N (aa tU.out)).trans tU.out;have vm:=zH sB;obtain⟨⟨p0,p1,p2,p3,p4,p5,p6⟩,⟨o0,o1,o2,o3,o4,o5,o6⟩,wb⟩:=dC sB;clear q sB)
 (try simp only[cL,Exit.then]);refine da (dv (P:=ac) rfl _ _ N 313 _ (0,0) _ rfl (fq vm.out) gn rfl (by kernel_rfl)) rfl ?_;have hM:bu r lb cap T (i+1+1) w w6:=tS.out.grow sr.out;exact⟨rfl,hM.1.ext (bM _ _ _ _ _ _ _ _ _) (by omega) (by have:=se.out;omega),hM.2.trans (bM _ _ _ _ _ _ _ _ _) (λk y=> .inr (by omega))⟩
end Go.Proofs.YtjomgckjhcfbgaaGreat
