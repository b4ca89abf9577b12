/- Walks. -/
import Derived.Laws.OwnMore
import Derived.Handy
import Derived.Laws.StructEq
import Derived.Deep.RegionHeld3
import Derived.Deep.WholeRow
import Derived.Laws.ResultCell
import Derived.Test.YtjomgckjhcfbgaaGreatX0
set_option maxRecDepth 100000
set_option maxHeartbeats 64000000
set_option linter.all false
namespace Go.Proofs.YtjomgckjhcfbgaaGreat
open Go.RowKit
open Go.Proofs.Tryz renaming prog→ac,underlying184→cq,underlying42→cr,underlying38→cy,underlying32→dr,ntmps189→eh,func189→et,underlying35→gt,underlying90→ms,ntmps144→ob,func144→ph
open _root_.List renaming getElem?_eq_getElem→am,getElem?_eq_some_iff→bl,mem_of_getElem?→ce,length_append→co,take_length→cT,nil_append→ej,cons_append→gE,any_eq_true→ju,getElem?_map→jz,append_nil→kh,any_eq_false→kp,getElem?_eq_none→lA,take_add_one→lP,length_pos_iff→oY
open Go.RowKit.Below renaming refl→an
open Go.RowKit renaming Below→aq,Hid→ca
open _root_ renaming ByteArray→aw,List→bm,Nat→cd,Int→cj,decide_eq_false→cv,if_neg→cw,Array→cG,if_pos→cI,beq_eq_false_iff_ne→cR,Option→du,decide_eq_true→dy,absurd→fL,False→jp,of_decide_eq_true→nr
open Go renaming heap_setCell_same→aE,cell_of_row→bh,wpList_load_row→bo,Value→bw,run_storeCells_new→cf,storeCells→cU,bodyPost_ret→da,wpQuiet_nil→db,frozen_of_row→dg,maxLen→dl,run_underlying→eJ,beq_toListBytes→eL,Calls→ft,TypeId→ge,Oper→ij,Program→i8,heap_alloc2_new→jn,below_drewN→j8,info_parts→ld,run_loadVar_row→mp,Addr→oA,results→pN
open _root_.Array renaming getElem?_eq_some_iff→bb,all_toList→iv
open _root_.Nat renaming le_refl→bp,lt_of_lt_of_le→cn,zero_add→cH,zero_le→cJ,le_succ→gb
open Go.Value renaming oneCell'→br,slice→bx,int→eC,ownBlock→eN,string→qT,slice→ra,pointer→rb,bool→re,agg→rh,int→Z
open Go.Exit renaming inBlock→cL
open Go.Addr renaming add_lit→cM
open _root_.Option.some renaming inj→cX
open _root_.Int renaming toNat_natCast→ep
open _root_.Bool renaming and_eq_true→eK,true→qv,false→qS
open Go.Result renaming andThen→eV,andThen_ok→lx
open Go.Op renaming equalIn→fS
open Go.Builtin renaming append_→gA,firstCells→lj,lenOf→nb
open _root_.ByteArray renaming empty→iS
open Go.Oper renaming wp→km
open Go.Instr renaming field→ly
open Go.ByteArray renaming toList_eq→mN
open _root_.Option renaming some→qt,none→qu
open Go.Obj renaming cells→rj
open Go.Ending renaming returned→rk
open Go.IntKind renaming i64→U
open Tryz
def ou (op:cj):Bool:=decide (op∈[1,2,3,4,5,7,9,10,12,14,15])
def rM (op:cj):Bool:=decide (op∈[3,4,6,7,8,9,10,11,13,14,17,18])
def qU (op:cj):Bool:=decide (op∈[4,8,11])
theorem Am (op:cj):(op=1\/op=2\/op=3\/op=4\/op=5\/op=6\/op=7\/op=8\/op=9\/op=10\/op=11\/op=12\/op=13\/op=14\/op=15\/op=17\/op=18)\/(op≠1/\op≠2/\op≠3/\op≠4/\op≠5/\op≠6/\op≠7/\op≠8/\op≠9/\op≠10/\op≠11/\op≠12/\op≠13/\op≠14/\op≠15/\op≠17/\op≠18):=by omega
theorem nX (op:cj)(w:World):zS 193 #[Z U op] w (.tuple #[re (ou op),re (rM op),re (qU op)]):=by
 rcases Am op with h|h
 ·rcases h with rfl|rfl|rfl|rfl|rfl|rfl|rfl|rfl|rfl|rfl|rfl|rfl|rfl|rfl|rfl|rfl|rfl
  all_goals
   go_enter func193,ntmps193;go_wp2
   go_ret3
   exact⟨rfl,rfl⟩
 ·obtain⟨d,f,o,q,u,v,y,A,D,G,J,K,R,rl,rm,rn,rr⟩:=h
  have e1:(op==1)=qS:=by simpa using d
  have e2:(op==2)=qS:=by simpa using f
  have e3:(op==3)=qS:=by simpa using o
  have e4:(op==4)=qS:=by simpa using q
  have e5:(op==5)=qS:=by simpa using u
  have e6:(op==6)=qS:=by simpa using v
  have e7:(op==7)=qS:=by simpa using y
  have e8:(op==8)=qS:=by simpa using A
  have e9:(op==9)=qS:=by simpa using D
  have rv:(op==10)=qS:=by simpa using G
  have rx:(op==11)=qS:=by simpa using J
  have rB:(op==12)=qS:=by simpa using K
  have rI:(op==13)=qS:=by simpa using R
  have rK:(op==14)=qS:=by simpa using rl
  have rL:(op==15)=qS:=by simpa using rm
  have rN:(op==17)=qS:=by simpa using rn
  have rS:(op==18)=qS:=by simpa using rr
  have HD:ca (ou op=qS/\rM op=qS/\qU op=qS):=by
   unfold ou rM qU;refine⟨cv ?_,cv ?_,cv ?_⟩<;>(simp;omega)
  clear d f o q u v y A D G J K R rl rm rn rr;go_enter func193,ntmps193;go_wp2
  go_ret3
  obtain⟨a,b,c⟩:=HD.out;exact⟨by rw[a,b,c];rfl,rfl⟩
def au (w:World)(f:du oA)(xs:bm cj):Prop:=
 xs≠[]->∃g d,f=qt ⟨g,d,qu⟩/\g<w.heap.size/\∀i z,xs[i]?=qt z->w.cell? ⟨g,d+i,qu⟩=qt (Z U z)
theorem aZ.at_ {w:World}{base n cap:cd}{d:du oA}{xs:bm cj}(h:aZ w base (ra d n cap) xs):au w d xs:=by
 intro f;obtain⟨g,e,_,o,q⟩:=h.shape (oY.2 f);exact⟨g,0,e,o,λi z u=>by rw[cH];exact q i z u⟩
theorem jr.at_ {w:World}{d:du oA}{xs:bm cj}(h:jr w d xs):au w d xs:=by
 intro f;obtain⟨b,o,e,q,u⟩:=h f;exact⟨b,o,e,q,λi z v=>by have:=u i z v 0 _ rfl;simpa using this⟩
theorem au.below {w w':World}{d:du oA}{xs:bm cj}(h:au w d xs)(f:aq w.heap.size w w'):au w' d xs:=by
 intro q;obtain⟨g,u,e,o,v⟩:=h q;exact⟨g,u,e,cn o f.size,λi z y=>by rw[f.cell (p:=⟨g,_,qu⟩) o];exact v i z y⟩
theorem Ao (w:World)(c:cd)(v:du oA)(xs:bm cj)(z:cj)(R:xs.length<=90000)(h:au w v xs):
  zS 126 #[Z U z,ra v xs.length c] w (re (decide (z∈xs))):=by
 have H:=zH h;clear h;go_enter func126,ntmps126
 go_wp2_with fail
 go_loop [5] (λk=>∃j:cd,j<=xs.length/\k= Z U (j:cj)/\z∉xs.take j) (λk=>xs.length-(intOf k).toNat)
 case atStart=>exact⟨0,cJ _,rfl,by simp⟩
 case round=>
  obtain⟨j,hj,rfl,d⟩:=hrel
  by_cases q:j<xs.length
  ·obtain⟨y,o⟩:∃y,xs[j]?=qt y:=⟨_,am q⟩
   obtain⟨A,D,rfl,rl,u⟩:=H.out (by intro e;rw[e] at q;simp at q);have d1:w.cell? ⟨A,D+j,qu⟩=qt (Z U y):=u j y o;have rm:(j:cj)<(xs.length:cj):=by omega
   by_cases f:y=z
   ·have G:(y==z)=qv:=by simp[f]
    have HM:ca (decide (z∈xs)=qv):=dy (by rw[<-f];exact ce o);clear o u d f;go_wp2;go_ret;exact⟨by rw[HM.out];rfl,rfl⟩
   ·have G:(y==z)=qS:=by simp[f]
    have J:ca (z∉xs.take (j+1)):=by
     unfold ca;rw[lP,o];simp[d];exact λe=>f e.symm
    clear o u d f;go_wp2
    go_round
    case rel=>exact⟨j+1,by omega,by go_num,J.out⟩
    case measure=>simp[intOf];omega
  ·have K:j=xs.length:=by omega
   subst K;rw[cT] at d;have HM:ca (decide (z∈xs)=qS):=cv d;clear d;go_wp2;go_ret;exact⟨by rw[HM.out];rfl,rfl⟩
theorem au.nil_of_none {w:World}{xs:bm cj}(h:au w qu xs):xs=[]:=by
 by_cases e:xs=[]
 ·exact e
 ·obtain⟨g,f,d,_⟩:=h e
  cases d
theorem ow {P:i8}(w:World)(base:cd)(t h e:ge)(i:TypeInfo)(size:cd)(d:P.underlying t=qt (.slice e))(f:P.info? e=qt i)
  (v:bw)(n:cd)(xs:bm bw)(o:w.ownsRow base e size v n xs)(c:cd):(gA #[t,t] h #[v,ra qu 0 c]).run P w= .ok v w:=by
 rcases o.2 with⟨rfl,rfl⟩|⟨g,cap,cur,rfl,_,_,q,_⟩
 ·simp[gA,eJ d,sizeOf,typeInfo,f,nb,lj]
 ·simp[gA,eJ d,sizeOf,typeInfo,f,nb,lj,q,cU]
theorem aK {w:World}{ops:cG ij}{rest:bm ij}{o:ij}{a:Act}{Q:Exit->Act->World->Prop}(R:o.guard=qu)(s x:Operand)
  (ho:o.op= .call {callee:= .builtin .append,args:=#[s,x],argTypes:=#[35,35]})(base:cd)(v:bw)(xs:bm cj)(hs:a.eval s=v)(y:aZ w base v xs)
  (A:du oA)(d:bm cj)(c:cd)(hx:a.eval x= ra A d.length c)(rl:au w A d)(rI:xs.length+d.length<=90000)(rm:base<=w.heap.size)
  (h:∀f w',aZ w' base f (xs++d)->w.grownBy w' v.ownBlock->wpList ac ops Q rest (a.put o.dst f) w'):wpList ac ops Q (o::rest) a w:=by
 obtain⟨i0,hi,rn,rr,rv⟩:=ld lU;have hh:∀f w',w'.ownsRow base 3 1 f (xs.length+d.length) (xs.map (eC .i64)++d.map (eC .i64))->w.grownBy w' v.ownBlock->wpList ac ops Q rest (a.put o.dst f) w':=λf w' D G=>h f w' (by unfold aZ;simpa using D) G;cases A with
 |none=>
  obtain rfl:=rl.nil_of_none;refine wpList_plain R λK hK=> ?_;have rx:=ow (P:=ac) w base 35 o.type 3 i0 1 gt hi v _ _ y c;have rB:a.eval x= ra qu 0 c:=hx;unfold km;simp[execOp,ho,resolve,invoke,builtin,hs,rB,rx,eV];exact hK _ _ (hh _ _ (by have h:=y;unfold aZ at h;simpa using h) (World.grownBy.refl w _))
 |some ad=>
  refine wpList_append_own _ R s x 35 ho base 3 i0 (Z U 0) 1 8 gt hi rn rr rv rfl (by decide) v xs.length _ hs y ad d.length c (d.map (eC .i64)) hx (by simp) (λj u q=> ?_) (by simp;intro _ _;rfl) (by unfold dl;omega) (by omega) rm (λf w' D G _=>hh f w' D G);obtain⟨z,J,rfl⟩:∃z,d[j]?=qt z/\eC .i64 z=u:=by
   rw[jz] at q;cases hy:d[j]? with
   |none=>rw[hy] at q;simp at q
   |some z=>rw[hy] at q;exact⟨z,rfl,by simpa using q⟩
  obtain⟨g,rK,e,_,hc⟩:=rl (by intro e;rw[e] at J;simp at J);obtain rfl:=cX e;rw[cM];exact hc j z J
def aS (i:Ins):cj×Bool:=if ou i.op=qv then(i.d,qv) else(0,qS)
def readsOf (i:Ins):bm cj:=(if rM i.op=qv then[i.a] else[])++(if qU i.op=qv then[i.b] else[])++(if i.op=15 then i.args else[])
theorem pF (i:Ins)(w:World)(u:i.ok):zP 142 #[rh i.cells] w (.tuple #[Z U (aS i).1,re (aS i).2]):=by
 obtain⟨op,d,a,b,f,n,v,y,A,D,G,J,K,args⟩:=i;obtain⟨⟨R,cap,h⟩,rl,n2,rm,o⟩:=u;simp only at h o;subst h o;simp only[Ins.cells,aS];have q:=zH (nX op);cases hd:ou op with
 |true=>
  go_enter func142,ntmps142
  go_wp2_with (go_at_call 193;refine(q.out _).mono ?_;rintro e w' ⟨rfl,rfl⟩)
  go_ret2
  exact⟨rfl,(an _ _).alloc (bp _) _⟩
 |false=>
  go_enter func142,ntmps142
  go_wp2_with (go_at_call 193;refine(q.out _).mono ?_;rintro e w' ⟨rfl,rfl⟩)
  go_ret2
  exact⟨rfl,(an _ _).alloc (bp _) _⟩
theorem below_grown {B:cd}{a w w':World}{v:bw}{xs:bm cj}(h:aq B a w)(d:B<=w.heap.size)(f:aZ w B v xs)(o:w.grownBy w' v.ownBlock):aq B a w':=
 h.grown o d (λk q=>(f.lt k q).1)
theorem au.one (w:World)(z:cj){B:cd}(f:B=w.heap.size):au (w.alloc (rj #[Z U z] 3)) (qt ⟨B,0,qu⟩) [z]:=by
 subst f;intro _;refine⟨w.heap.size,0,rfl,by simp,λi u d=> ?_⟩;rw[cH,World.cell?_alloc_new];have:i<1:=(bl.1 d).1;obtain rfl:i=0:=by omega
 simp at d;subst d;rfl
theorem zy {op:cj}(h:qU op=qv):rM op=qv:=by
 unfold qU at h;unfold rM;have:=nr h;refine dy ?_;simp at this⊢;omega
theorem wH (i:Ins)(h:i.args.length<=40):(readsOf i).length<=42:=by
 unfold readsOf;simp only[co];have:(if rM i.op=qv then[i.a] else[]).length<=1:=by split<;>simp
 have:(if qU i.op=qv then[i.b] else[]).length<=1:=by split<;>simp
 have:(if i.op=15 then i.args else[]).length<=40:=by
  split
  ·exact h
  ·simp
 omega
theorem rO (i:Ins)(w:World)(se:i.args_in w)(hl:i.args.length<=40):ft ac 144 #[rh i.cells] w (jN w (readsOf i)):=by
 obtain⟨op,d,a,b,f,n,rI,sr,sx,rK,rL,ln,cl,args⟩:=i;obtain⟨⟨_,rN,n2,rS,h2⟩,ao,cap,h1,rr⟩:=se;simp only at h1 h2 rr hl;subst h1 h2;simp only[Ins.cells,readsOf];have R:=zH (nX op);have sf:=zH rr.at_;clear rr;obtain⟨N,o⟩:=zE w.heap.size
 by_cases rl:op=15
 ·subst rl
  have e:(if rM 15=qv then[a] else[])++(if qU 15=qv then[b] else[])++(if (15:cj)=15 then args else[])=args:=by
   rw[cw (by decide),cw (by decide),cI rfl];rfl
  rw[e];go_enter ph,ob
  go_wp2_with (first
   |(go_at_call 193;refine(R.out _).mono ?_;rintro e w' ⟨rfl,rfl⟩)
   |(at_builtin;refine aK rfl (.tmp 28) (.tmp 30) rfl (N+1) (ra qu 0 0) [] rfl (aZ.nil _ _) ao args cap rfl (sf.out.below ((an _ _).alloc (bp _) _)) ?c1 ?c2 ?_))
  case c1=>simp;omega
  case c2=>simp;omega
  intro v' w' u y;obtain⟨D,G,rfl⟩:=u.isSlice;have q:ca (aZ w' (N+1) (ra D args.length G) args/\aq N w w'):=⟨by simpa using u,by
   refine below_grown (v:= ra qu 0 0) (xs:=[]) ?_ ?_ (aZ.nil _ _) y
   ·rw[<-o];exact(an _ _).alloc (bp _) _
   ·simp;omega⟩
  clear u y
  try simp only[ej]
  go_wp2;go_ret;exact⟨_,_,rfl,by first|exact q.out.1.mono (gb N)|(rw[o];exact q.out.1.mono (gb N)),by first|exact q.out.2|(rw[o];exact q.out.2)⟩
 ·have sy:(op==15)=qS:=by simpa using rl
  rw[cw rl,kh];clear rl;cases ha:rM op with
  |false=>
   have hb:qU op=qS:=by
    cases h:qU op with
    |false=>rfl
    |true=>rw[zy h] at ha;cases ha
   rw[hb,cw (by decide),cw (by decide)];go_enter ph,ob
   go_wp2_with (go_at_call 193;refine(R.out _).mono ?_;rintro e w' ⟨rfl,rfl⟩)
   go_ret;exact⟨qu,0,rfl,aZ.nil _ _,(an _ _).alloc (by omega) _⟩
  |true=>
   cases hb:qU op with
   |false=>
    rw[cI rfl,cw (by decide),kh];go_enter ph,ob
    go_wp2_with (first
     |(go_at_call 193;refine(R.out _).mono ?_;rintro e w' ⟨rfl,rfl⟩)
     |(at_builtin;refine aK rfl (.tmp 14) (.tmp 17) rfl (N+1) (ra qu 0 0) [] rfl (aZ.nil _ _) _ [a] 1 rfl (au.one _ _ (by simp[o])) ?c1 ?c2 ?_))
    case c1=>simp
    case c2=>simp;omega
    intro v' w' u y;obtain⟨D,G,rfl⟩:=u.isSlice;have q:ca (aZ w' (N+1) (ra D [a].length G) [a]/\aq N w w'):=⟨by simpa using u,by
     refine below_grown (v:= ra qu 0 0) (xs:=[]) ?_ ?_ (aZ.nil _ _) y
     ·rw[<-o];exact((an _ _).alloc (bp _) _).alloc (by simp) _
     ·simp;omega⟩
    have A:Ext (λ_=>jp) ((w.alloc (rj #[Z U op,Z U d,Z U a,Z U b,Z U f,Z U n,qT rI,ra ao args.length cap,ra rN n2 rS,Z U rK,Z U rL,Z U ln,Z U cl] 42)).alloc (rj #[Z U a] 3)) w':=Ext.of_grown y (λk J=>by simp[eN] at J);have rv:w'.cell? ⟨N,0,qu⟩=qt (Z U op):=by
     rw[A.cell (a:=⟨N,0,qu⟩) (by simp;omega) (λh=>h),<-o,World.cell?_alloc_lt _ _ _ (by simp),World.cell?_alloc_new];rfl
    clear u y A
    try simp only[ej]
    go_wp2;go_ret;exact⟨_,_,rfl,by first|exact q.out.1.mono (gb N)|(rw[o];exact q.out.1.mono (gb N)),by first|exact q.out.2|(rw[o];exact q.out.2)⟩
   |true=>
    rw[cI rfl,cI rfl];go_enter ph,ob
    go_wp2_with (first
     |(go_at_call 193;refine(R.out _).mono ?_;rintro e w' ⟨rfl,rfl⟩)
     |(at_builtin;refine aK rfl (.tmp 14) (.tmp 17) rfl (N+1) (ra qu 0 0) [] rfl (aZ.nil _ _) _ [a] 1 rfl (au.one _ _ (by simp[o])) ?c1 ?c2 ?_))
    case c1=>simp
    case c2=>simp;omega
    intro v1 w1 rx rB;obtain⟨rm,rn,rfl⟩:=rx.isSlice;have A:Ext (λ_=>jp) ((w.alloc (rj #[Z U op,Z U d,Z U a,Z U b,Z U f,Z U n,qT rI,ra ao args.length cap,ra rN n2 rS,Z U rK,Z U rL,Z U ln,Z U cl] 42)).alloc (rj #[Z U a] 3)) w1:=Ext.of_grown rB (λk J=>by simp[eN] at J);have sB:w1.cell? ⟨N,3,qu⟩=qt (Z U b):=by
     rw[A.cell (a:=⟨N,3,qu⟩) (by simp;omega) (λh=>h),<-o,World.cell?_alloc_lt _ _ _ (by simp),World.cell?_alloc_new];rfl
    have rv:w1.cell? ⟨N,0,qu⟩=qt (Z U op):=by
     rw[A.cell (a:=⟨N,0,qu⟩) (by simp;omega) (λh=>h),<-o,World.cell?_alloc_lt _ _ _ (by simp),World.cell?_alloc_new];rfl
    have K:ca (aZ w1 (N+1) (ra rm [a].length rn) [a]/\aq N w w1):=⟨by simpa using rx,by
     refine below_grown (v:= ra qu 0 0) (xs:=[]) ?_ ?_ (aZ.nil _ _) rB
     ·rw[<-o];exact((an _ _).alloc (bp _) _).alloc (by simp) _
     ·simp;omega⟩
    have sk:N<=w1.heap.size:=by have:=K.out.2.size;omega
    clear rx rB A
    try simp only[ej]
    go_wp2_with (at_builtin;refine aK rfl (.tmp 20) (.tmp 23) rfl (N+1) (ra rm 1 rn) [a] rfl (ownsRow_below K.out.1 ((an _ _).alloc (bp _) _)) _ [b] 1 rfl (au.one _ _ (by simp)) ?c3 ?c4 ?_)
    case c3=>simp
    case c4=>simp;omega
    intro v' w' u y;obtain⟨D,G,rfl⟩:=u.isSlice;have sn:N<w1.heap.size:=by
     by_cases e:N<w1.heap.size
     ·exact e
     ·exact fL rv (by simp[World.cell?,Array.getElem?_eq_none (Nat.le_of_not_lt e)])
    have sE:w'.cell? ⟨N,0,qu⟩=qt (Z U op):=by
     have sq:Ext (λk=>(bx rm 1 rn).ownBlock=qt k) (w1.alloc (rj #[Z U b] 3)) w':=Ext.of_grown y (λk J=> .inl J);rw[sq.cell (a:=⟨N,0,qu⟩) (by simp;omega) (λh=> ?_),World.cell?_alloc_lt _ _ _ sn]
     ·exact rv
     ·have h3:=(K.out.1.lt N h).1
      omega
    have q:ca (aZ w' (N+1) (ra D [a,b].length G) [a,b]/\aq N w w'):=⟨by simpa using u,by
     refine below_grown (v:= ra rm 1 rn) (xs:=[a]) ?_ ?_ (aZ.mono (ownsRow_below K.out.1 ((an _ _).alloc (bp _) _)) (gb N)) y
     ·exact K.out.2.alloc sk _
     ·simp;omega⟩
    clear u y
    try simp only[gE,ej]
    go_wp2;go_ret;exact⟨_,_,rfl,by first|exact q.out.1.mono (gb N)|(rw[o];exact q.out.1.mono (gb N)),by first|exact q.out.2|(rw[o];exact q.out.2)⟩
def fH {α:Type}(p:α->Bool)(l:bm α):cj:=if l.findIdx p<l.length then((l.findIdx p:cd):cj) else-1
def Mo.stIx (m:Mo)(nm:aw):cj:=fH (λs=>s.s.nm==nm) m.ss
def Mo.fnIx (m:Mo)(nm:aw):cj:=fH (λf=>f.c.nm==nm) m.fs
def Mo.known (m:Mo)(t:Ty):Bool:=if t.1=qv then decide (0<=m.stIx t.2) else t.2==iS
def ak (d:bm Vr)(v:cj):Ty:=match d[v.toNat]? with
 |some x=>x.ty
 |none=>bq
def isVar (n:cd)(v:cj):Bool:=decide (0<=v)&&decide (v<(n:cj))
def aG (n:cd)(l:bm cj):Bool:=l.all (isVar n)
def bv (b:Bool)(f:cj):cj:=if b=qv then 0 else f
def aD (m:Mo)(d:bm Vr)(v f:cj):Ty×cj:=
 if (ak d v).1=qS then(bq,7)
 else match m.ss[(m.stIx (ak d v).2).toNat]? with
  |none=>(bq,15)
  |some s=>if f<0 then(bq,15) else match s.fs[f.toNat]? with
   |none=>(bq,15)
   |some x=>(x.ty,0)
def bN (m:Mo)(d:bm Vr)(i:Ins)(h:cj)(o:Bool):cj:=
 if (aD m d i.a i.f).2≠0 then(aD m d i.a i.f).2
 else bv ((aD m d i.a i.f).1==ak d h&&(aD m d i.a i.f).1.1==o) 7
def iP (d f:bm Vr):cd->bm cj->Bool
 |_,[]=>qv
 |k,a::r=>ak d a==ak f (k:cj)&&iP d f (k+1) r
def gD (m:Mo)(vs:bm Vr)(i:Ins):cj:=
 if i.f<0 then 15 else match m.fs[i.f.toNat]? with
  |none=>15
  |some g=>if (i.args.length:cj)≠g.c.par\/(g.vs.length:cj)<g.c.par then 7
   else if iP vs g.vs 0 i.args=qS then 7 else bv (ak vs i.d==g.ret) 7
def dB (d:bm Vr)(l:bm cj):cj:=bv (l.all λv=> !(ak d v).1) 7
def dM (f:cj)(s:aw)(l:bm aw):cj:=if f≠0 then f else bv (l.any λx=>x==s) 3
def fE:bm aw:=[⟨#[43]⟩,⟨#[45]⟩,⟨#[42]⟩,⟨#[47]⟩,⟨#[37]⟩,⟨#[60]⟩,⟨#[60,61]⟩,⟨#[62]⟩,⟨#[62,61]⟩,⟨#[61,61]⟩,⟨#[33,61]⟩]
def il:bm aw:=[⟨#[61,61]⟩,⟨#[33,61]⟩]
def aj (m:Mo)(h:bm Vr)(i:Ins):cj:=
 if i.op=1\/i.op=5 then dB h [i.d]
 else if i.op=3 then dB h [i.d,i.a]
 else if i.op=4 then dM (dB h [i.d,i.a,i.b]) i.sign fE
 else if i.op=6 then dB h [i.a]
 else if i.op=2 then bv (ak h i.d).1 7
 else if i.op=13 then bv (ak h i.a).1 7
 else if i.op=14 then dM (bv (!(ak h i.d).1&&(ak h i.a).1) 7) i.sign il
 else if i.op=9 then bv ((ak h i.a).1&&ak h i.a==ak h i.d) 7
 else if i.op=7\/i.op=10 then bN m h i i.d (decide (i.op=10))
 else if i.op=8\/i.op=11 then bN m h i i.b (decide (i.op=11))
 else if i.f<0 then 15 else match m.ss[i.f.toNat]? with
  |none=>15
  |some s=>bv (ak h i.d==(qv,s.s.nm)) 7
def aC (m:Mo)(g:Fn)(i:Ins):cj:=
 if i.op<1\/18<i.op then 3
 else if aG g.vs.length (readsOf i++(if ou i.op then[i.d] else[]))=qS then 15
 else if i.op=15 then gD m g.vs i
 else if i.op=16 then bv (isVar g.c.ins.length i.tI) 15
 else if i.op=17 then(if isVar g.c.ins.length i.tI&&isVar g.c.ins.length i.els then dB g.vs [i.a] else 15)
 else if i.op=18 then bv (ak g.vs i.a==g.ret) 7
 else aj m g.vs i
def aM {α:Type}(f:α->cj):bm α->cj
 |[]=>0
 |x::r=>if f x=0 then aM f r else f x
def codeF (m:Mo)(g:Fn):cj:=
 if 300<g.vs.length\/g.c.ins.length<1\/3000<g.c.ins.length then 2
 else if g.c.par<0\/(g.vs.length:cj)<g.c.par then 15
 else if aM (aC m g) g.c.ins≠0 then aM (aC m g) g.c.ins
 else bv (match g.c.ins.getLast? with
  |some i=>decide (16<=i.op)
  |none=>qS) 15
def bX (m:Mo):Bool:=(m.ss.any λs=>decide (¬(s.fs.map Fd.nm).Nodup))||decide (¬(m.ss.map λs=>s.s.nm).Nodup)||decide (¬(m.fs.map λf=>f.c.nm).Nodup)
def bE (m:Mo):bm Ty:=(m.ss.flatMap λs=>s.fs.map Fd.ty)++(m.fs.flatMap λf=>f.ret::f.vs.map Vr.ty)
def cu:aw:=⟨#[109,97,105,110]⟩
def dE (m:Mo):cj:=
 if 30<m.ss.length\/60<m.fs.length then 2
 else if bX m=qv then 6
 else if (bE m).all m.known=qS then 5
 else if aM (codeF m) m.fs≠0 then aM (codeF m) m.fs
 else bv (decide (0<=m.fnIx cu)&&(match m.fs[(m.fnIx cu).toNat]? with
  |some g=>decide (g.c.par=0)&& !g.c.rp
  |none=>qS)) 9
theorem ay (b:Bool)(f:cj)(w:World):zS 99 #[re b,Z U f] w (Z U (bv b f)):=by
 cases b with
 |true=>
  go_enter func99,ntmps99;go_wp2;go_ret;exact⟨rfl,rfl⟩
 |false=>
  go_enter func99,ntmps99;go_wp2;go_ret;exact⟨rfl,rfl⟩
def jg (m:Mo)(g:Fn):cG bw:=#[ra m.sA m.ss.length m.sC,ra m.fA m.fs.length m.fC,qT g.c.nm,Z U g.c.par,ra g.c.varsA g.c.nvars g.c.varsC,re g.c.rp,qT g.c.rto,Z U g.c.rcl,ra g.c.fromA g.c.nfrom g.c.fromC,ra g.c.insA g.c.ins.length g.c.insC]
def sS (t:Ty):bw:= rh #[re t.1,qT t.2]
theorem jh:∀(b:Bool)(s:aw)(w:World),(ly 32 (rh #[re b,qT s]) 0).run ac w= .ok (re b) w:=λb s w=>by kernel_rfl
theorem dJ {n:cd}{v:cj}:isVar n v=qv↔0<=v/\v<(n:cj):=by simp[isVar]
theorem dw {w:World}{A:du oA}{d:bm Vr}(u:aH Vr.cells 3 w w.heap.size A d){v:cj}(y:isVar d.length v=qv):
  ∃(k b f:cd) (x:Vr),v=(k:cj)/\k<d.length/\A=qt ⟨b,f,qu⟩/\b<w.heap.size/\ak d v=(x.ptr,x.tgt)/\w.cell? ⟨b,f+k*3,qu⟩=qt (re x.ptr)/\w.cell? ⟨b,f+k*3+1,qu⟩=qt (qT x.tgt):=by
 obtain⟨h0,J⟩:=dJ.1 y;obtain⟨k,rfl⟩:∃k:cd,v=(k:cj):=⟨v.toNat,by omega⟩
 have h:k<d.length:=by omega
 obtain⟨x,o⟩:∃x,d[k]?=qt x:=⟨_,am h⟩
 obtain⟨b,f,D,G,q⟩:=u (by intro e;rw[e] at h;simp at h);refine⟨k,b,f,x,rfl,h,D,G, ?_,q k x o 0 _ rfl,q k x o 1 _ rfl⟩;unfold ak;rw[ep,o];rfl
theorem fJ (m:Mo)(g:Fn)(v:cj)(w:World)(d:aH Vr.cells 3 w w.heap.size g.c.varsA g.vs)(f:g.c.nvars=g.vs.length)(_:g.vs.length<=dl)(h:isVar g.vs.length v=qv):
  zP 188 #[rh (jg m g),Z U v] w (sS (ak g.vs v)):=by
 obtain⟨k,b,u,x,rfl,y,o,A,q,D,G⟩:=dw d h;have J:(k:cj)<(g.vs.length:cj):=by omega
 rw[q];unfold sS jg;rw[o,f];clear d h q o f;go_enter func188,ntmps188;go_wp2
 go_returns
 exact⟨rfl,((an _ _).alloc (bp _) _).alloc (by simp) _⟩
theorem fK (m:Mo)(g:Fn)(v:cj)(w:World):zP 186 #[rh (jg m g),Z U v] w (re (isVar g.c.ins.length v)):=by
 unfold jg
 by_cases h:0<=v
 ·have d:ca (decide (v<(g.c.ins.length:cj))=isVar g.c.ins.length v):=by
   unfold ca isVar;rw[dy h];rfl
  go_enter func186,ntmps186;go_wp2;go_ret;rw[<-d.out];exact⟨rfl,(an _ _).alloc (bp _) _⟩
 ·have d:ca (qS=isVar g.c.ins.length v):=by
   unfold ca isVar;rw[cv h];rfl
  go_enter func186,ntmps186;go_wp2;go_ret;rw[<-d.out];exact⟨rfl,(an _ _).alloc (bp _) _⟩
theorem uP (m:Mo)(g:Fn)(B:cd)(v:cj)(w:World)(f:w.heap[B]?=qt (rj (jg m g) 184 (0,0)))(o:g.c.nvars=g.vs.length):
  zS 224 #[Z U v,rb (qt ⟨B,0,qu⟩)] w (re (!isVar g.vs.length v)):=by
 have q:w.cell? ⟨B,4,qu⟩=qt (ra g.c.varsA g.vs.length g.c.varsC):=by rw[bh _ _ _ _ _ _ f,<-o];rfl
 clear f o
 by_cases h:v<0
 ·have d:ca (qv= !isVar g.vs.length v):=by
   unfold ca isVar;rw[cv (by omega)];rfl
  go_enter func224,ntmps224;go_wp2;go_ret;rw[<-d.out];exact⟨rfl,rfl⟩
 ·have d:ca (decide ((g.vs.length:cj)<=v)= !isVar g.vs.length v):=by
   unfold ca isVar;rw[Bool.eq_iff_iff];simp;omega
  go_enter func224,ntmps224;go_wp2;go_ret;rw[<-d.out];exact⟨rfl,rfl⟩
theorem pG (m:Mo)(g:Fn)(B:cd)(v:cj)(w:World)(d:w.heap[B]?=qt (rj (jg m g) 184 (0,0)))(f:aH Vr.cells 3 w w.heap.size g.c.varsA g.vs)(h:g.c.nvars=g.vs.length)(o:g.vs.length<=dl)(q:isVar g.vs.length v=qv):
  zP 225 #[Z U v,rb (qt ⟨B,0,qu⟩)] w (re (ak g.vs v).1):=by
 have u:=zH (fJ m g v w f h o q);unfold sS at u;have A:=zH d;have G:=jh;have J:=(bb.1 d).1;clear d f q h o;go_enter func225,ntmps225
 go_wp2_with (first
  |(refine bo rfl 184 _ rfl B rfl 184 (jg m g) (0,0) _ A.out cq rfl (by kernel_rfl) ?_)
  |(go_at_call 188;refine u.out.mono ?_;rintro e w2 ⟨rfl,y⟩;have D:=zH y;clear y))
 go_ret;exact⟨rfl,D.out⟩
theorem iQ {α:Type}{p:α->Bool}{xs:bm α}{j:cd}{y:α}(f:∀z∈xs.take j,p z=qS)(o:xs[j]?=qt y)(q:p y=qv):fH p xs=(j:cj):=by
 obtain⟨d,e⟩:=bl.1 o;have h:xs.findIdx p=j:=(List.findIdx_eq d).2 ⟨by rw[e];exact q,λi u=>by
  have:=f xs[i] (by rw[List.mem_take_iff_getElem];exact⟨i,by omega,rfl⟩);simpa using this⟩
 unfold fH;rw[h,cI d]
theorem fM {α:Type}{p:α->Bool}{xs:bm α}(d:∀z∈xs,p z=qS):fH p xs= -1:=by
 have h:xs.findIdx p=xs.length:=List.findIdx_eq_length.2 (by simpa using d);unfold fH;rw[h,cw (by omega)]
theorem pI {α:Type}{p:α->Bool}{xs:bm α}:decide (0<=fH p xs)=xs.any p:=by
 unfold fH
 by_cases h:xs.findIdx p<xs.length
 ·rw[cI h,dy (by omega)]
  obtain⟨x,d,f⟩:=List.findIdx_lt_length.1 h;exact(ju.2 ⟨x,d,f⟩).symm
 ·rw[cw h]
  have o:=(List.findIdx_eq_length (p:=p) (xs:=xs)).1 (by have:=List.findIdx_le_length (p:=p) (xs:=xs);omega);symm;rw[cv (by omega),kp];intro x d;have:=o x d;simpa using this
theorem dF {α:Type}{p:α->Bool}{xs:bm α}{j:cd}{y:α}(d:∀z∈xs.take j,p z=qS)(f:xs[j]?=qt y)(h:p y=qS):∀z∈xs.take (j+1),p z=qS:=bY (p:=λz=>p z=qS) d f h
theorem rP (w:World)(K:du oA)(xs:bm cj)(c B:cd)(p:cj->Bool)(hn:xs.length<=dl)(h:au w K xs)
  (R:∀W,aq w.heap.size w W->∀z∈xs,zP 224 #[Z U z,rb (qt ⟨B,0,qu⟩)] W (re (p z))):
  zP 152 #[ra K xs.length c,.func (.func 224) #[] #[rb (qt ⟨B,0,qu⟩)]] w (Z U (fH p xs)):=by
 have H:=zH h;have HF:=zH R;unfold dl at hn;clear h R;go_enter func152,ntmps152
 go_wp2_with fail
 go_loopw [8] (λk wr=>∃j:cd,j<=xs.length/\k= Z U (j:cj)/\(∀z∈xs.take j,p z=qS)/\aq w.heap.size w wr) (λk _=>xs.length-(intOf k).toNat)
 case atStart=>exact⟨0,cJ _,rfl,by simp,an _ _⟩
 case round=>
  obtain⟨j,hj,rfl,q,f⟩:=hrel
  by_cases A:j<xs.length
  ·obtain⟨y,v⟩:∃y,xs[j]?=qt y:=⟨_,am A⟩
   obtain⟨g1,rl,rfl,rn,q1⟩:=H.out.below f (by intro e;rw[e] at A;simp at A);have d1:wr.cell? ⟨g1,rl+j,qu⟩=qt (Z U y):=q1 j y v;have rr:(j:cj)<(xs.length:cj):=by omega
   have D:=zH (HF.out wr f y (ce v));obtain⟨d,G⟩:=zE (p y);rw[G] at D;have o:=zH f;have HZ:=zH q;have HY:=zH v;have HD:=zH G;clear f q v G q1;cases d with
   |true=>
    go_wp2_with (go_at_call 224;refine D.out.mono ?_;rintro e w2 ⟨rfl,u⟩;have J:=zH u;clear u)
    go_ret;exact⟨by rw[iQ HZ.out HY.out HD.out];rfl,o.out.trans (J.out.mono o.out.size)⟩
   |false=>
    go_wp2_with (go_at_call 224;refine D.out.mono ?_;rintro e w2 ⟨rfl,u⟩;have J:=zH u;clear u)
    go_roundw
    case rel=>exact⟨j+1,by omega,by go_num,dF HZ.out HY.out HD.out,o.out.trans (J.out.mono o.out.size)⟩
    case measure=>simp[intOf];omega
  ·have rm:j=xs.length:=by omega
   subst rm;rw[cT] at q;have HM:=zH (fM q);have o:=zH f;clear q f;go_wp2;go_ret;exact⟨by rw[HM.out];rfl,o.out⟩
theorem uQ (w:World)(K:du oA)(xs:bm cj)(c B:cd)(p:cj->Bool)(hn:xs.length<=dl)(h:au w K xs)
  (R:∀W,aq w.heap.size w W->∀z∈xs,zP 225 #[Z U z,rb (qt ⟨B,0,qu⟩)] W (re (p z))):
  zP 152 #[ra K xs.length c,.func (.func 225) #[] #[rb (qt ⟨B,0,qu⟩)]] w (Z U (fH p xs)):=by
 have H:=zH h;have HF:=zH R;unfold dl at hn;clear h R;go_enter func152,ntmps152
 go_wp2_with fail
 go_loopw [8] (λk wr=>∃j:cd,j<=xs.length/\k= Z U (j:cj)/\(∀z∈xs.take j,p z=qS)/\aq w.heap.size w wr) (λk _=>xs.length-(intOf k).toNat)
 case atStart=>exact⟨0,cJ _,rfl,by simp,an _ _⟩
 case round=>
  obtain⟨j,hj,rfl,q,f⟩:=hrel
  by_cases A:j<xs.length
  ·obtain⟨y,v⟩:∃y,xs[j]?=qt y:=⟨_,am A⟩
   obtain⟨g1,rl,rfl,rn,q1⟩:=H.out.below f (by intro e;rw[e] at A;simp at A);have d1:wr.cell? ⟨g1,rl+j,qu⟩=qt (Z U y):=q1 j y v;have rr:(j:cj)<(xs.length:cj):=by omega
   have D:=zH (HF.out wr f y (ce v));obtain⟨d,G⟩:=zE (p y);rw[G] at D;have o:=zH f;have HZ:=zH q;have HY:=zH v;have HD:=zH G;clear f q v G q1;cases d with
   |true=>
    go_wp2_with (go_at_call 225;refine D.out.mono ?_;rintro e w2 ⟨rfl,u⟩;have J:=zH u;clear u)
    go_ret;exact⟨by rw[iQ HZ.out HY.out HD.out];rfl,o.out.trans (J.out.mono o.out.size)⟩
   |false=>
    go_wp2_with (go_at_call 225;refine D.out.mono ?_;rintro e w2 ⟨rfl,u⟩;have J:=zH u;clear u)
    go_roundw
    case rel=>exact⟨j+1,by omega,by go_num,dF HZ.out HY.out HD.out,o.out.trans (J.out.mono o.out.size)⟩
    case measure=>simp[intOf];omega
  ·have rm:j=xs.length:=by omega
   subst rm;rw[cT] at q;have HM:=zH (fM q);have o:=zH f;clear q f;go_wp2;go_ret;exact⟨by rw[HM.out];rfl,o.out⟩
theorem wI (xs:bm cj)(p:cj->Bool):(!(xs.any p))=xs.all λv=> !p v:=by
 induction xs with
 |nil=>rfl
 |cons x r ih=>simp[Bool.not_or,ih]
theorem wJ {xs:bm cj}{p:cj->Bool}:(xs.any λv=> !p v)= !xs.all p:=by
 induction xs with
 |nil=>rfl
 |cons x r ih=>simp[ih,Bool.not_and]
theorem nY (m:Mo)(g:Fn)(q:du oA)(xs:bm cj)(c:cd)(w:World)(G:g.c.nvars=g.vs.length)(hl:xs.length<=dl)(h:au w q xs):
  zP 184 #[rh (jg m g),ra q xs.length c] w (re (aG g.vs.length xs)):=by
 obtain⟨N,u⟩:=zE w.heap.size;have y:ca (zP 116 #[ra q xs.length c,.func (.func 224) #[] #[rb (qt ⟨N,0,qu⟩)]] (w.alloc (rj (jg m g) 184)) (re (!aG g.vs.length xs))):=by
  have A:=zH (rP (w.alloc (rj (jg m g) 184)) q xs c N (λv=> !isVar g.vs.length v) hl (h.below ((an _ _).alloc (bp _) _)) (λW hW z _=>by
   have hB:W.heap[N]?=qt (rj (jg m g) 184 (0,0)):=by
    rw[hW.block N (by simp[u]),<-u];exact alloc_at _ _
   refine(uP m g N z W hB G).mono ?_;rintro e w' ⟨rfl,rfl⟩;exact⟨rfl,an _ _⟩))
  have K:ca (decide (0<=fH (λv=> !isVar g.vs.length v) xs)= !aG g.vs.length xs):=by
   unfold ca aG;rw[pI,wJ]
  obtain⟨R,f⟩:=zE (w.alloc (rj (jg m g) 184));rw[f] at A⊢;obtain⟨z,hz⟩:=zE (fH (λv=> !isVar g.vs.length v) xs);rw[hz] at A K;clear f h hz;go_enter func116,ntmps116
  go_wp2_with (go_at_call 152;refine A.out.mono ?_;rintro e w2 ⟨rfl,o⟩;have D:=zH o;clear o)
  go_ret;rw[<-K.out];exact⟨rfl,D.out⟩
 clear h G;obtain⟨R,f⟩:=zE (w.alloc (rj (jg m g) 184));have rm:=zH f;have rl:ca (aq N w R):=by rw[<-f,<-u];exact(an _ _).alloc (bp _) _
 rw[f] at y;obtain⟨J,hJ⟩:=zE (jg m g);rw[hJ] at f⊢;clear hJ rm;obtain⟨d,hd⟩:=zE (aG g.vs.length xs);rw[hd] at y⊢;clear hd;go_enter func184,ntmps184
 go_wp2_with (go_at_call 116;refine y.out.mono ?_;rintro e w2 ⟨rfl,o⟩;have D:=zH o;clear o)
 go_ret;exact⟨by cases d<;>rfl,by rw[u];exact rl.out.trans (D.out.mono (by have:=rl.out.size;omega))⟩
theorem bU (m:Mo)(g:Fn)(y:du oA)(xs:bm cj)(c:cd)(w:World)(G:aH Vr.cells 3 w w.heap.size g.c.varsA g.vs)(hn:g.c.nvars=g.vs.length)(rv:g.vs.length<=dl)(hl:xs.length<=dl)(h:au w y xs)(K:∀z∈xs,isVar g.vs.length z=qv):
  zP 187 #[rh (jg m g),ra y xs.length c] w (Z U (dB g.vs xs)):=by
 obtain⟨N,A⟩:=zE w.heap.size;have R:ca (zP 116 #[ra y xs.length c,.func (.func 225) #[] #[rb (qt ⟨N,0,qu⟩)]] (w.alloc (rj (jg m g) 184)) (re (xs.any λv=>(ak g.vs v).1))):=by
  have rl:aq w.heap.size w (w.alloc (rj (jg m g) 184)):=(an _ _).alloc (bp _) _;have rm:=zH (uQ (w.alloc (rj (jg m g) 184)) y xs c N (λv=>(ak g.vs v).1) hl (h.below rl) (λW hW z D=>by
   have hB:W.heap[N]?=qt (rj (jg m g) 184 (0,0)):=by
    rw[hW.block N (by simp[A]),<-A];exact alloc_at _ _
   exact pG m g N z W hB ((G.grow rl).grow hW) hn rv (K z D)))
  have f:ca (decide (0<=fH (λv=>(ak g.vs v).1) xs)=(xs.any λv=>(ak g.vs v).1)):=pI;obtain⟨W1,o⟩:=zE (w.alloc (rj (jg m g) 184));rw[o] at rm⊢;obtain⟨z,D⟩:=zE (fH (λv=>(ak g.vs v).1) xs);rw[D] at rm f;obtain⟨d,q⟩:=zE (xs.any λv=>(ak g.vs v).1);rw[q] at f⊢;clear o h D rl q G K;go_enter func116,ntmps116
  go_wp2_with (go_at_call 152;refine rm.out.mono ?_;rintro e w2 ⟨rfl,u⟩;have rn:=zH u;clear u)
  go_ret;rw[<-f.out];exact⟨rfl,rn.out⟩
 clear h hn G K;have f:ca (bv (!(xs.any λv=>(ak g.vs v).1)) 7=dB g.vs xs):=by
  unfold ca dB;congr 1;exact wI xs _
 obtain⟨W1,o⟩:=zE (w.alloc (rj (jg m g) 184));have rr:ca (aq N w W1):=by rw[<-o,<-A];exact(an _ _).alloc (bp _) _
 rw[o] at R;obtain⟨J,hJ⟩:=zE (jg m g);rw[hJ] at o⊢;clear hJ;obtain⟨d,q⟩:=zE (xs.any λv=>(ak g.vs v).1);rw[q] at R f;clear q;go_enter func187,ntmps187
 go_wp2_with (first
  |(go_at_call 116;refine R.out.mono ?_;rintro e w2 ⟨rfl,u⟩;have rn:=zH u;clear u)
  |(go_at_call 99;refine(ay _ _ _).mono ?_;rintro e w3 ⟨rfl,rfl⟩))
 go_ret;exact⟨by rw[<-f.out];cases d<;>rfl,by rw[A];exact rr.out.trans (rn.out.mono (by have:=rr.out.size;omega))⟩
def aN (w:World)(f:du oA)(xs:bm aw):Prop:=
 xs≠[]->∃g d,f=qt ⟨g,d,qu⟩/\g<w.heap.size/\∀i z,xs[i]?=qt z->w.cell? ⟨g,d+i,qu⟩=qt (qT z)
theorem aN.below {w w':World}{d:du oA}{xs:bm aw}(h:aN w d xs)(f:aq w.heap.size w w'):aN w' d xs:=by
 intro q;obtain⟨g,u,e,o,v⟩:=h q;exact⟨g,u,e,cn o f.size,λi z y=>by rw[f.cell (p:=⟨g,_,qu⟩) o];exact v i z y⟩
theorem pJ (w:World)(c:cd)(v:du oA)(xs:bm aw)(z:aw)(K:xs.length<=dl)(h:aN w v xs):
  zS 270 #[ra v xs.length c,qT z] w (Z U (fH (λx=>z==x) xs)):=by
 have H:=zH h;unfold dl at K;clear h;go_enter func270,ntmps270
 go_wp2_with fail
 go_loop [8] (λk=>∃j:cd,j<=xs.length/\k= Z U (j:cj)/\∀x∈xs.take j,(z==x)=qS) (λk=>xs.length-(intOf k).toNat)
 case atStart=>exact⟨0,cJ _,rfl,by simp⟩
 case round=>
  obtain⟨j,hj,rfl,f⟩:=hrel
  by_cases o:j<xs.length
  ·obtain⟨y,q⟩:∃y,xs[j]?=qt y:=⟨_,am o⟩
   obtain⟨R,rl,rfl,rn,A⟩:=H.out (by intro e;rw[e] at o;simp at o);have d1:w.cell? ⟨R,rl+j,qu⟩=qt (qT y):=A j y q;have rr:(j:cj)<(xs.length:cj):=by omega
   obtain⟨d,u⟩:=zE (z==y);have hd:(z.toList==y.toList)=d:=by rw[<-eL];exact u
   have D:=zH f;have G:=zH q;have J:=zH u;clear q A f u;cases d with
   |true=>
    go_wp2;go_ret;exact⟨by rw[iQ D.out G.out J.out];rfl,rfl⟩
   |false=>
    go_wp2
    go_round
    case rel=>exact⟨j+1,by omega,by go_num,dF (p:=λx=>z==x) D.out G.out J.out⟩
    case measure=>simp[intOf];omega
  ·have rm:j=xs.length:=by omega
   subst rm;rw[cT] at f;have HM:=zH (fM (p:=λx=>z==x) f);clear f;go_wp2;go_ret;exact⟨by rw[HM.out];rfl,rfl⟩
theorem mq (f:cj)(s:aw)(xs:bm aw)(q:du oA)(c:cd)(w:World)(G:xs.length<=dl)(h:aN w q xs):
  zS 226 #[Z U f,qT s,ra q xs.length c] w (Z U (dM f s xs)):=by
 by_cases u:f=0
 ·subst u
  have v:ca (zS 252 #[ra q xs.length c,qT s] w (re (xs.any λx=>x==s))):=by
   have y:=zH (pJ w c q xs s G h);have o:ca (decide (0<=fH (λx=>s==x) xs)=(xs.any λx=>x==s)):=by
    unfold ca;rw[pI];congr 1;funext x;exact BEq.comm
   obtain⟨z,A⟩:=zE (fH (λx=>s==x) xs);rw[A] at y o;clear h A;go_enter func252,ntmps252
   go_wp2_with (go_at_call 270;refine y.out.mono ?_;rintro e w2 ⟨rfl,rfl⟩)
   go_ret;rw[<-o.out];exact⟨rfl,rfl⟩
  have o:ca (bv (xs.any λx=>x==s) 3=dM 0 s xs):=rfl;obtain⟨d,D⟩:=zE (xs.any λx=>x==s);rw[D] at v o;clear h D;go_enter func226,ntmps226
  go_wp2_with (first
   |(go_at_call 252;refine v.out.mono ?_;rintro e w2 ⟨rfl,rfl⟩)
   |(go_at_call 99;refine(ay _ _ _).mono ?_;rintro e J ⟨rfl,rfl⟩))
  go_ret;exact⟨by rw[<-o.out];rfl,rfl⟩
 ·have o:ca (dM f s xs=f):=cI u
  have K:(f==0)=qS:=by rw[cR];exact u
  clear u h;go_enter func226,ntmps226;go_wp2;go_ret;exact⟨by rw[o.out];rfl,rfl⟩
theorem wK (f:Fn)(B:cd)(nm:aw)(w:World)(d:w.heap[B]?=qt (rj #[qT nm] 9 (0,0))):
  zP 138 #[rh f.cells,rb (qt ⟨B,0,qu⟩)] w (re (f.c.nm==nm)):=by
 have q:=zR d 0 (qT nm);have o:=(bb.1 d).1;have h:ca ((f.c.nm.toList==nm.toList)=(f.c.nm==nm)):=(eL _ _).symm;simp only[Fn.cells,nJ.cells];clear d;go_enter func138,ntmps138;go_wp2;go_ret;rw[<-h.out];exact⟨rfl,(an _ _).alloc (bp _) _⟩
theorem yn (w:World)(ao:du oA)(xs:bm Fn)(c B:cd)(nm:aw)(hn:xs.length<=dl)(h:aH Fn.cells 8 w w.heap.size ao xs)(K:w.heap[B]?=qt (rj #[qT nm] 9 (0,0))):
  zP 137 #[ra ao xs.length c,.func (.func 138) #[] #[rb (qt ⟨B,0,qu⟩)]] w (Z U (fH (λf=>f.c.nm==nm) xs)):=by
 have H:=zH h;have rn:=zH K;unfold dl at hn;have rr:=(bb.1 K).1;clear h K;go_enter func137,ntmps137
 go_wp2_with fail
 go_loopw [8] (λk wr=>∃j:cd,j<=xs.length/\k= Z U (j:cj)/\(∀f∈xs.take j,(f.c.nm==nm)=qS)/\aq w.heap.size w wr) (λk _=>xs.length-(intOf k).toNat)
 case atStart=>exact⟨0,cJ _,rfl,by simp,an _ _⟩
 case round=>
  obtain⟨j,hj,rfl,v,o⟩:=hrel
  by_cases R:j<xs.length
  ·obtain⟨f,D⟩:∃y,xs[j]?=qt y:=⟨_,am R⟩
   obtain⟨G,J,rfl,rx,q1⟩:=(H.out.grow o) (by intro e;rw[e] at R;simp at R)
   have rm:ca (∀k u,f.cells.toList[k]?=qt u->wr.cell? ((⟨G,J+j*8,qu⟩:oA).add k)=qt u):=λk u hu=>by rw[cM];exact q1 j f D k u hu
   have d0:wr.cell? ⟨G,J+j*8,qu⟩=qt (qT f.c.nm):=q1 j f D 0 _ rfl;have rB:(j:cj)<(xs.length:cj):=by omega
   have HC:=zH (wK f B nm wr ((o.block B rr).trans rn.out));obtain⟨d,hd⟩:=zE (f.c.nm==nm);rw[hd] at HC;have q:=zH o;have HZ:=zH v;have HY:=zH D;have HD:=zH hd;clear o v D hd q1;cases d with
   |true=>
    go_wp2_with (first
     |(refine az rfl 38 _ rfl ⟨G,J+j*8,qu⟩ rfl f.cells _ rm.out cy rfl (by kernel_rfl) ?_)
     |(go_at_call 138;refine HC.out.mono ?_;rintro e w2 ⟨rfl,A⟩;have rl:=zH A;clear A))
    go_ret;exact⟨by rw[iQ (p:=λf:Fn=>f.c.nm==nm) HZ.out HY.out HD.out];rfl,q.out.trans (rl.out.mono q.out.size)⟩
   |false=>
    go_wp2_with (first
     |(refine az rfl 38 _ rfl ⟨G,J+j*8,qu⟩ rfl f.cells _ rm.out cy rfl (by kernel_rfl) ?_)
     |(go_at_call 138;refine HC.out.mono ?_;rintro e w2 ⟨rfl,A⟩;have rl:=zH A;clear A))
    go_roundw
    case rel=>exact⟨j+1,by omega,by go_num,dF (p:=λf:Fn=>f.c.nm==nm) HZ.out HY.out HD.out,q.out.trans (rl.out.mono q.out.size)⟩
    case measure=>simp[intOf];omega
  ·have rv:j=xs.length:=by omega
   subst rv;rw[cT] at v;have HM:=zH (fM (p:=λf:Fn=>f.c.nm==nm) v);have q:=zH o;clear v o;go_wp2;go_ret;exact⟨by rw[HM.out];rfl,q.out⟩
theorem wL (m:Mo)(nm:aw)(w:World)(q:m.fs.length<=dl)(h:aH Fn.cells 8 w w.heap.size m.fA m.fs):
  zP 98 #[rh m.cells,qT nm] w (Z U (m.fnIx nm)):=by
 obtain⟨N,d⟩:=zE w.heap.size;have f:ca (ft ac 137 #[ra m.fA m.fs.length m.fC,.func (.func 138) #[] #[rb (qt ⟨N+1,0,qu⟩)]] ((w.alloc (rj m.cells 25)).alloc (rj #[qT nm] 9)) λe w'=>e= rk (Z U (m.fnIx nm))/\aq N w w'):=by
  have o:aq w.heap.size w ((w.alloc (rj m.cells 25)).alloc (rj #[qT nm] 9)):=((an _ _).alloc (bp _) _).alloc (by simp) _;refine(yn _ m.fA m.fs m.fC (N+1) nm q (h.grow o) (by subst d;exact jn _ _ _)).mono ?_;rintro e w' ⟨rfl,y⟩;exact⟨rfl,by rw[<-d];exact o.trans (y.mono o.size)⟩
 simp only[Mo.cells] at f⊢;clear h q;obtain⟨z,u⟩:=zE (m.fnIx nm);rw[u] at f⊢;clear u;go_enter func98,ntmps98
 go_wp2_with (go_at_call 137;(first|refine f.out.mono ?_|(rw[d];refine f.out.mono ?_));rintro e w2 ⟨rfl,v⟩;have A:=zH v;clear v)
 go_ret;exact⟨rfl,by rw[d];exact A.out⟩
theorem rQ (f:St)(B:cd)(nm:aw)(w:World)(d:w.heap[B]?=qt (rj #[qT nm] 9 (0,0))):
  zP 182 #[rh f.cells,rb (qt ⟨B,0,qu⟩)] w (re (f.s.nm==nm)):=by
 have q:=zR d 0 (qT nm);have o:=(bb.1 d).1;have h:ca ((f.s.nm.toList==nm.toList)=(f.s.nm==nm)):=(eL _ _).symm;simp only[St.cells,Be.cells];clear d;go_enter func182,ntmps182;go_wp2;go_ret;rw[<-h.out];exact⟨rfl,(an _ _).alloc (bp _) _⟩
theorem yo (w:World)(ao:du oA)(xs:bm St)(c B:cd)(nm:aw)(hn:xs.length<=dl)(h:aH St.cells 4 w w.heap.size ao xs)(K:w.heap[B]?=qt (rj #[qT nm] 9 (0,0))):
  zP 181 #[ra ao xs.length c,.func (.func 182) #[] #[rb (qt ⟨B,0,qu⟩)]] w (Z U (fH (λf=>f.s.nm==nm) xs)):=by
 have H:=zH h;have rn:=zH K;unfold dl at hn;have rr:=(bb.1 K).1;clear h K;go_enter func181,ntmps181
 go_wp2_with fail
 go_loopw [8] (λk wr=>∃j:cd,j<=xs.length/\k= Z U (j:cj)/\(∀f∈xs.take j,(f.s.nm==nm)=qS)/\aq w.heap.size w wr) (λk _=>xs.length-(intOf k).toNat)
 case atStart=>exact⟨0,cJ _,rfl,by simp,an _ _⟩
 case round=>
  obtain⟨j,hj,rfl,v,o⟩:=hrel
  by_cases R:j<xs.length
  ·obtain⟨f,D⟩:∃y,xs[j]?=qt y:=⟨_,am R⟩
   obtain⟨G,J,rfl,rx,q1⟩:=(H.out.grow o) (by intro e;rw[e] at R;simp at R)
   have rm:ca (∀k u,f.cells.toList[k]?=qt u->wr.cell? ((⟨G,J+j*4,qu⟩:oA).add k)=qt u):=λk u hu=>by rw[cM];exact q1 j f D k u hu
   have d0:wr.cell? ⟨G,J+j*4,qu⟩=qt (qT f.s.nm):=q1 j f D 0 _ rfl;have rB:(j:cj)<(xs.length:cj):=by omega
   have HC:=zH (rQ f B nm wr ((o.block B rr).trans rn.out));obtain⟨d,hd⟩:=zE (f.s.nm==nm);rw[hd] at HC;have q:=zH o;have HZ:=zH v;have HY:=zH D;have HD:=zH hd;clear o v D hd q1;cases d with
   |true=>
    go_wp2_with (first
     |(refine az rfl 90 _ rfl ⟨G,J+j*4,qu⟩ rfl f.cells _ rm.out ms rfl (by kernel_rfl) ?_)
     |(go_at_call 182;refine HC.out.mono ?_;rintro e w2 ⟨rfl,A⟩;have rl:=zH A;clear A))
    go_ret;exact⟨by rw[iQ (p:=λf:St=>f.s.nm==nm) HZ.out HY.out HD.out];rfl,q.out.trans (rl.out.mono q.out.size)⟩
   |false=>
    go_wp2_with (first
     |(refine az rfl 90 _ rfl ⟨G,J+j*4,qu⟩ rfl f.cells _ rm.out ms rfl (by kernel_rfl) ?_)
     |(go_at_call 182;refine HC.out.mono ?_;rintro e w2 ⟨rfl,A⟩;have rl:=zH A;clear A))
    go_roundw
    case rel=>exact⟨j+1,by omega,by go_num,dF (p:=λf:St=>f.s.nm==nm) HZ.out HY.out HD.out,q.out.trans (rl.out.mono q.out.size)⟩
    case measure=>simp[intOf];omega
  ·have rv:j=xs.length:=by omega
   subst rv;rw[cT] at v;have HM:=zH (fM (p:=λf:St=>f.s.nm==nm) v);have q:=zH o;clear v o;go_wp2;go_ret;exact⟨by rw[HM.out];rfl,q.out⟩
theorem kY (m:Mo)(nm:aw)(w:World)(q:m.ss.length<=dl)(h:aH St.cells 4 w w.heap.size m.sA m.ss):
  zP 135 #[rh m.cells,qT nm] w (Z U (m.stIx nm)):=by
 obtain⟨N,d⟩:=zE w.heap.size;have f:ca (ft ac 181 #[ra m.sA m.ss.length m.sC,.func (.func 182) #[] #[rb (qt ⟨N+1,0,qu⟩)]] ((w.alloc (rj m.cells 25)).alloc (rj #[qT nm] 9)) λe w'=>e= rk (Z U (m.stIx nm))/\aq N w w'):=by
  have o:aq w.heap.size w ((w.alloc (rj m.cells 25)).alloc (rj #[qT nm] 9)):=((an _ _).alloc (bp _) _).alloc (by simp) _;refine(yo _ m.sA m.ss m.sC (N+1) nm q (h.grow o) (by subst d;exact jn _ _ _)).mono ?_;rintro e w' ⟨rfl,y⟩;exact⟨rfl,by rw[<-d];exact o.trans (y.mono o.size)⟩
 simp only[Mo.cells] at f⊢;clear h q;obtain⟨z,u⟩:=zE (m.stIx nm);rw[u] at f⊢;clear u;go_enter func135,ntmps135
 go_wp2_with (go_at_call 181;(first|refine f.out.mono ?_|(rw[d];refine f.out.mono ?_));rintro e w2 ⟨rfl,v⟩;have A:=zH v;clear v)
 go_ret;exact⟨rfl,by rw[d];exact A.out⟩
structure mr (w:World)(m:Mo)(g:Fn):Prop where
 mo:m.inn w
 vars:aH Vr.cells 3 w w.heap.size g.c.varsA g.vs
 nv:g.c.nvars=g.vs.length
 vl:g.vs.length<=dl
theorem mr.below {w w':World}{m:Mo}{g:Fn}(h:mr w m g)(d:aq w.heap.size w w'):mr w' m g:=⟨h.mo.below d,h.vars.grow d,h.nv,h.vl⟩
theorem yt {w:World}{m:Mo}{g:Fn}(h:m.inn w)(d:g.inn w):mr w m g:=⟨h,d.vars,d.nvars,by have:=d.code.nvars;rw[d.nvars] at this;exact this⟩
theorem lC {α:Type}(p:α->Bool)(l:bm α):fH p l= -1\/∃(k:cd) (x:α),fH p l=(k:cj)/\l[k]?=qt x/\p x=qv:=by
 unfold fH
 by_cases h:l.findIdx p<l.length
 ·rw[cI h]
  exact .inr ⟨_,l[l.findIdx p],rfl,am h,List.findIdx_getElem⟩
 ·rw[cw h];exact .inl rfl
theorem wM {m:Mo}{t:Ty}(h:m.known t=qv)(d:t.1=qv):∃(k:cd) (s:St),m.stIx t.2=(k:cj)/\m.ss[k]?=qt s:=by
 unfold Mo.known at h;rw[cI d] at h;have h0:=nr h;rcases lC (λs:St=>s.s.nm==t.2) m.ss with e|⟨k,s,e,f,_⟩
 ·unfold Mo.stIx at h0;omega
 ·exact⟨k,s,e,f⟩
theorem wN (m:Mo)(g:Fn)(b:Bool)(s:aw)(w:World)(h:m.inn w):
  zP 96 #[rh (jg m g),rh #[re b,qT s]] w (re (m.known (b,s))):=by
 have d:ca (∀W,aq w.heap.size w W->zP 135 #[rh m.cells,qT s] W (Z U (m.stIx s))):=
  λW u=>kY m s W h.ns (h.below u).srow
 clear h;simp only[Mo.cells] at d;unfold jg;cases b with
 |false=>
  have f:ca (s.toList.isEmpty=m.known (qS,s)):=by
   unfold ca Mo.known;rw[cw (by simp)]
   show s.toList.isEmpty=(s==iS)
   rw[eL];have e:iS.toList=[]:=by rw[mN];rfl
   rw[e];cases s.toList<;>rfl
  clear d;go_enter func96,ntmps96;go_wp2;go_ret;rw[<-f.out];exact⟨rfl,((an _ _).alloc (bp _) _).alloc (by simp) _⟩
 |true=>
  have f:ca (decide (0<=m.stIx s)=m.known (qv,s)):=rfl;obtain⟨z,o⟩:=zE (m.stIx s);rw[o] at f d;clear o;go_enter func96,ntmps96
  go_wp2_with (go_at_call 135;refine(d.out _ (((an _ _).alloc (bp _) _).alloc (by simp) _)).mono ?_;rintro e w2 ⟨rfl,q⟩;have v:=zH ((((an w.heap.size w).alloc (bp _) _).alloc (by simp) _).trans (q.mono (by simp;omega)));clear q)
  go_ret;rw[<-f.out];exact⟨rfl,v.out⟩
theorem aJ {fn:Func}{p u:Tmp}{d:ge}(h:fn.results=#[.cell p d,.tmp u])(tmps:cG bw)(w:World)(g:cd)(t:ge)(f:cG bw)(o:cd×cd)(q:cG Field)
  (v:tmps.getD p undef= rb (qt ⟨g,0,qu⟩))(y:w.heap[g]?=qt (rj f t o))
  (A:ac.underlying d=qt (.struct q))(D:(ac.info? d).map (·.size)=qt f.size):
  (pN fn tmps).run ac w= .ok (.tuple #[rh f,tmps.getD u undef]) w:=by
 rw[results_cell_tmp h,v];have e:=mp w g t d f o _ y A rfl D;simp only[asAddr,Sem.run_pure,lx,e]
theorem dG {W:World}{b:cd}{x y u v:bw}{t:ge}(h:W.heap[b]?=qt (rj #[x,y] t (0,0))):((W.setCell ⟨b,0,qu⟩ u).setCell ⟨b,1,qu⟩ v).heap[b]?=qt (rj #[u,v] t (0,0)):=by
 have d:=aE W b 0 _ _ u h;have f:=aE _ b 1 _ _ v d;simpa using f
theorem wO (m:Mo)(g:Fn)(v f:cj)(w:World)(h:mr w m g)(hv:isVar g.vs.length v=qv)(hk:m.known (ak g.vs v)=qv):
  zP 253 #[rh (jg m g),Z U v,Z U f] w (.tuple #[sS (aD m g.vs v f).1,Z U (aD m g.vs v f).2]):=by
 have HT:ca (∀W,aq w.heap.size w W->zP 188 #[rh (jg m g),Z U v] W (sS (ak g.vs v))):=λW u=>fJ m g v W (h.below u).vars h.nv h.vl hv;have HS:ca (∀W s,aq w.heap.size w W->zP 135 #[rh m.cells,qT s] W (Z U (m.stIx s))):=
  λW s u=>kY m s W h.mo.ns (h.mo.below u).srow
 simp only[Mo.cells] at HS;have K:ca (aD m g.vs v f=(if (ak g.vs v).1=qS then(bq,7) else match m.ss[(m.stIx (ak g.vs v).2).toNat]? with
  |none=>(bq,15)
  |some s=>if f<0 then(bq,15) else match s.fs[f.toNat]? with
   |none=>(bq,15)
   |some x=>(x.ty,0):Ty×cj)):=rfl
 have HJ:=zH h;have HK:=zH hk;obtain⟨⟨b,s⟩,ht⟩:∃t,ak g.vs v=t:=⟨_,rfl⟩
 rw[ht] at K HT HK;obtain⟨F,hF⟩:=zE (aD m g.vs v f);rw[hF] at K⊢;unfold sS at HT;clear h hv hk ht hF;have hst:∀(w:World)(c:cG bw),c.size=2->(cU ⟨w.heap.size,0,qu⟩ [re b,qT s] 0).run ac (w.alloc (rj c 32))= .ok () (w.alloc (rj #[re b,qT s] 32)):=λw c hc=>
  cf (P:=ac) w 32 c #[re b,qT s] (by show _=qt 2;kernel_rfl) hc (by simp[br])
 obtain⟨N,R⟩:=zE w.heap.size;obtain⟨W1,rl⟩:=zE ((w.alloc (rj (jg m g) 184)).alloc (rj #[re qS,qT ⟨#[]⟩] 32));have rI:=qQ rl R;have sy:W1.heap.size=N+2:=by rw[<-rl];simp[R]
 have sB:=vN rl R;have sE:=xI rl R;have sL:=zH rI;have se:=zH sB;have sR:=zH sE;have A:=zH R;have rm:=zH sy;clear rI sB sE sy;go_enter func253,ntmps253
 go_upto_region 2 with(first
  |(refine bo rfl 184 _ rfl N rfl 184 (jg m g) (0,0) _ se.out cq rfl (by kernel_rfl) ?_)
  |(go_at_call 188;refine(HT.out _ (by rw[A.out];exact sL.out)).mono ?_;rintro e w2 ⟨rfl,sT⟩;have sf:=zH sT;clear sT))
 obtain⟨T,hT⟩:=zE w2.heap.size;obtain⟨d,rn⟩:=zE (w2.alloc (rj #[re b,qT s] 32));rw[hT,rn];have rK:=zD rn sf;have tt:N+2<=T:=by rw[<-hT,<-rm.out];exact sf.out.size
 have tv:d.heap.size=T+1:=by rw[<-rn,<-hT];simp
 have sX:d.heap[N]?=qt (rj (jg m g) 184 (0,0)):=(rK.block N (by have:=rm.out;omega)).trans se.out;have sk:d.heap[N+1]?=qt (rj #[re qS,qT ⟨#[]⟩] 32 (0,0)):=(rK.block (N+1) (by have:=rm.out;omega)).trans sR.out;have sY:d.heap[T]?=qt (rj #[re b,qT s] 32 (0,0)):=by rw[<-rn,<-hT];exact alloc_at _ _
 have rL:ca (aq N w d):=sL.out.trans (rK.mono (by have:=rm.out;omega));have rr:ca (∀W,aq d.heap.size d W->W.cell? ⟨N,0,qu⟩=qt (ra m.sA m.ss.length m.sC)/\W.cell? ⟨N,1,qu⟩=qt (ra m.fA m.fs.length m.fC)/\W.cell? ⟨T,0,qu⟩=qt (re b)/\W.cell? ⟨T,1,qu⟩=qt (qT s)/\
   W.cell? ⟨N+1,0,qu⟩=qt (re qS)/\W.cell? ⟨N+1,1,qu⟩=qt (qT ⟨#[]⟩)/\W.frozen? ⟨N+1,0,qu⟩=qS/\W.frozen? ⟨N+1,1,qu⟩=qS/\N+1<W.heap.size):=by
  intro W u;have q3:=(u.block N (by omega)).trans sX;have q4:=(u.block (N+1) (by omega)).trans sk;have q5:=(u.block T (by omega)).trans sY;refine⟨?_, ?_, ?_, ?_, ?_, ?_, ?_, ?_,(bb.1 q4).1⟩
  ·rw[bh _ _ _ _ _ _ q3];rfl
  ·rw[bh _ _ _ _ _ _ q3];rfl
  ·rw[bh _ _ _ _ _ _ q5];rfl
  ·rw[bh _ _ _ _ _ _ q5];rfl
  ·rw[bh _ _ _ _ _ _ q4];rfl
  ·rw[bh _ _ _ _ _ _ q4];rfl
  ·exact dg _ _ _ _ _ q4
  ·exact dg _ _ _ _ _ q4
 have sn:ca (∀W,aq d.heap.size d W->W.heap[N+1]?=qt (rj #[re qS,qT ⟨#[]⟩] 32 (0,0))):=λW u=>(u.block (N+1) (by omega)).trans sk;obtain⟨k0,k1,k2,k3,k4,k5,k6,k7,tz⟩:=rr.out d (an _ _);clear hst rl rn rK sX sk sY se sR HT hT sf R rm;cases b with
 |false=>
  have D:ca (F=(bq,7)):=by rw[K.out];rfl
  clear K;go_wp2;(try simp only[cL,Exit.then]);refine da (aJ rfl _ _ (N+1) 32 _ (0,0) _ rfl (dG (sn.out d (an _ _))) dr (by kernel_rfl)) rfl ?_;rw[D.out,A.out];exact⟨rfl,(rL.out.setCell (by show N<=N+1;omega) _).setCell (by show N<=N+1;omega) _⟩
 |true=>
  obtain⟨k,o,sq,y⟩:=wM HK.out rfl;obtain⟨b0,rN,hA,tm,te⟩:=HJ.out.mo.srow (by intro e;rw[e] at y;simp at y);have tA:=(bl.1 y).1;have tB:(k:cj)<(m.ss.length:cj):=by omega
  have tn:b0<N:=by have:=A.out;omega
  have hD:∀W,aq d.heap.size d W->W.cell? ⟨b0,rN+k*4+1,qu⟩=qt (ra o.s.fA o.fs.length o.s.fC):=λW u=>by
   rw[(rL.out.trans (u.mono (by omega))).cell (p:=⟨b0,_,qu⟩) tn];have:=te k o y 1 _ rfl;rw[(HJ.out.mo.sin o (ce y)).nf] at this;exact this
  have HD:=zH hD;have hd:=hD d (an _ _);have tf:ca (∀W,aq d.heap.size d W->zP 135 #[rh #[ra (qt ⟨b0,rN,qu⟩) m.ss.length m.sC,ra m.fA m.fs.length m.fC],qT s] W (Z U (k:cj))):=by
   intro W u;have:=HS.out W s (by rw[A.out];exact rL.out.trans (u.mono (by omega)));rw[sq,hA] at this;exact this
  have G:ca (F=(if f<0 then(bq,15) else match o.fs[f.toNat]? with
   |none=>(bq,15)
   |some x=>(x.ty,0):Ty×cj)):=by
   unfold ca;rw[K.out,cw (by decide)]
   show(match m.ss[(m.stIx s).toNat]? with
    |none=>(bq,15)
    |some s=>if f<0 then(bq,15) else match s.fs[f.toNat]? with
     |none=>(bq,15)
     |some x=>(x.ty,0):Ty×cj)=_
   rw[sq,ep,y]
  have tp:ca (o.inn w):=HJ.out.mo.sin o (ce y);have tD:=zH y;rw[hA] at k0 rr;clear K HK sq y hA tm te hD HJ HS;go_wp2
  go_region_held3 (λw'=>w'.cell? ⟨N,0,qu⟩=qt (ra (qt ⟨b0,rN,qu⟩) m.ss.length m.sC)/\w'.cell? ⟨N,1,qu⟩=qt (ra m.fA m.fs.length m.fC)/\w'.cell? ⟨T,0,qu⟩=qt (re qv)/\w'.cell? ⟨T,1,qu⟩=qt (qT s)/\w'.cell? ⟨b0,rN+k*4+1,qu⟩=qt (ra o.s.fA o.fs.length o.s.fC)/\aq d.heap.size d w')
   (first|(exact hS)|(exact⟨k0,k1,k2,k3,hd,j8 (an _ _) 1⟩))
   (first
    |(go_at_call 135;refine(tf.out _ (by go_split_ands;assumption)).mono ?_;rintro e rv ⟨rfl,th⟩;have J:=(j8 (an d.heap.size d) 1).trans th;have hS:=(let h:=rr.out _ J;(⟨h.1,h.2.1,h.2.2.1,h.2.2.2.1,HD.out _ J,J⟩:_/\_/\_/\_/\_/\_))))
  obtain⟨_,_,_,_,j4,j5,j6,j7,tE⟩:=rr.out rv J;have ti:=sn.out rv J;have rx:ca (aq N w rv):=rL.out.trans (J.mono (by omega));have sr:=zH ti;clear hS J th k0 k1 k2 k3 k4 k5 k6 k7 hd rr sn tf HD ti
  by_cases rS:f<0
  ·have D:ca (F=(bq,15)):=by unfold ca;rw[G.out,cI rS]
   clear G;go_wp2;(try simp only[cL,Exit.then]);refine da (aJ rfl _ _ (N+1) 32 _ (0,0) _ rfl (dG sr.out) dr (by kernel_rfl)) rfl ?_;rw[D.out,A.out];exact⟨rfl,(rx.out.setCell (by show N<=N+1;omega) _).setCell (by show N<=N+1;omega) _⟩
  obtain⟨q,rfl⟩:∃q:cd,f=(q:cj):=⟨f.toNat,by omega⟩
  rw[cw rS,ep] at G
  by_cases rB:q<o.fs.length
  ·obtain⟨x,hx⟩:∃x,o.fs[q]?=qt x:=⟨_,am rB⟩
   have D:ca (F=(x.ty,0)):=by unfold ca;rw[G.out,hx]
   obtain⟨b1,tj,hA1,rI,sx⟩:=tp.out.row (by intro e;rw[e] at rB;simp at rB);have tl:b1<N:=by have:=A.out;omega
   have e1:rv.cell? ⟨b1,tj+q*5+1,qu⟩=qt (re x.ptr):=by rw[rx.out.cell (p:=⟨b1,_,qu⟩) tl];exact sx q x hx 1 _ rfl
   have e2:rv.cell? ⟨b1,tj+q*5+2,qu⟩=qt (qT x.tgt):=by rw[rx.out.cell (p:=⟨b1,_,qu⟩) tl];exact sx q x hx 2 _ rfl
   have tr:(q:cj)<(o.fs.length:cj):=by omega
   rw[hA1];clear G hx sx rI hA1 rS rB;go_wp2;(try simp only[cL,Exit.then]);refine da (aJ rfl _ _ (N+1) 32 _ (0,0) _ rfl (dG sr.out) dr (by kernel_rfl)) rfl ?_;rw[D.out,A.out];exact⟨rfl,(rx.out.setCell (by show N<=N+1;omega) _).setCell (by show N<=N+1;omega) _⟩
  ·have D:ca (F=(bq,15)):=by unfold ca;rw[G.out,lA (by omega)]
   have tr:¬(q:cj)<(o.fs.length:cj):=by omega
   clear G rS rB;go_wp2;(try simp only[cL,Exit.then]);refine da (aJ rfl _ _ (N+1) 32 _ (0,0) _ rfl (dG sr.out) dr (by kernel_rfl)) rfl ?_;rw[D.out,A.out];exact⟨rfl,(rx.out.setCell (by show N<=N+1;omega) _).setCell (by show N<=N+1;omega) _⟩
theorem cB (a b:Bool)(s t:aw)(w:World):(fS 10000 32 (rh #[re a,qT s]) (rh #[re b,qT t])).run ac w= .ok (((a,s):Ty)==(b,t)) w:=by
 have d:ac.underlying 32=qt (.struct (ac.fieldsOf 32)):=by kernel_rfl
 have f:ac.stoodInHeld 32=qS:=by kernel_rfl
 rw[show(10000:cd)=9999+1 from rfl,run_equalIn_agg w 9999 32 _ _ d f];simp only[Program.fieldsOf,dr];have e:(((a,s):Ty)==(b,t))=(a==b&&s.toList==t.toList):=by rw[<-eL];rfl
 rw[e];go_simp
 by_cases h:a=b<;>by_cases o:s.toList=t.toList<;>simp[h,o]
def iI (w:World)(N:cd)(m:Mo)(g:Fn):Prop:=w.cell? ⟨N,0,qu⟩=qt (ra m.sA m.ss.length m.sC)/\w.cell? ⟨N,1,qu⟩=qt (ra m.fA m.fs.length m.fC)/\w.cell? ⟨N,2,qu⟩=qt (qT g.c.nm)/\w.cell? ⟨N,3,qu⟩=qt (Z U g.c.par)/\w.cell? ⟨N,4,qu⟩=qt (ra g.c.varsA g.c.nvars g.c.varsC)/\w.cell? ⟨N,5,qu⟩=qt (re g.c.rp)/\w.cell? ⟨N,6,qu⟩=qt (qT g.c.rto)/\w.cell? ⟨N,7,qu⟩=qt (Z U g.c.rcl)/\w.cell? ⟨N,8,qu⟩=qt (ra g.c.fromA g.c.nfrom g.c.fromC)/\w.cell? ⟨N,9,qu⟩=qt (ra g.c.insA g.c.ins.length g.c.insC)
theorem iI.of {w:World}{N:cd}{m:Mo}{g:Fn}(h:w.heap[N]?=qt (rj (jg m g) 184 (0,0))):iI w N m g:=by
 refine⟨?_, ?_, ?_, ?_, ?_, ?_, ?_, ?_, ?_, ?_⟩<;>(rw[bh _ _ _ _ _ _ h];rfl)
theorem jB (m:Mo)(g:Fn)(i:Ins)(u:cj)(y:Bool)(w:World)(h:mr w m g)(ha:isVar g.vs.length i.a=qv)(ho:isVar g.vs.length u=qv)(hk:m.known (ak g.vs i.a)=qv):
  zP 227 #[rh (jg m g),rh i.cells,Z U u,re y] w (Z U (bN m g.vs i u y)):=by
 have G:ca (∀W,aq w.heap.size w W->zP 188 #[rh (jg m g),Z U u] W (sS (ak g.vs u))):=λW A=>fJ m g u W (h.below A).vars h.nv h.vl ho;have HF:ca (∀W,aq w.heap.size w W->zP 253 #[rh (jg m g),Z U i.a,Z U i.f] W (.tuple #[sS (aD m g.vs i.a i.f).1,Z U (aD m g.vs i.a i.f).2])):=λW A=>wO m g i.a i.f W (h.below A) ha hk;clear h ha ho hk;have J:ca (bN m g.vs i u y=if (aD m g.vs i.a i.f).2≠0 then(aD m g.vs i.a i.f).2 else bv ((aD m g.vs i.a i.f).1==ak g.vs u&&(aD m g.vs i.a i.f).1.1==y) 7):=rfl;obtain⟨R,hR⟩:=zE (bN m g.vs i u y);obtain⟨⟨⟨b,s⟩,z⟩,v⟩:∃F,aD m g.vs i.a i.f=F:=⟨_,rfl⟩
 obtain⟨⟨b2,s2⟩,ht⟩:∃t,ak g.vs u=t:=⟨_,rfl⟩
 rw[v,ht,hR] at J;rw[v] at HF;rw[ht] at G;rw[hR];unfold sS at G HF;clear v ht hR;have hst:∀(w:World)(c:cG bw),c.size=2->(cU ⟨w.heap.size,0,qu⟩ [re b,qT s] 0).run ac (w.alloc (rj c 32))= .ok () (w.alloc (rj #[re b,qT s] 32)):=λw c hc=>
  cf (P:=ac) w 32 c #[re b,qT s] (by show _=qt 2;kernel_rfl) hc (by simp[br])
 obtain⟨N,D⟩:=zE w.heap.size;obtain⟨W1,K⟩:=zE ((w.alloc (rj (jg m g) 184)).alloc (rj i.cells 42));have rL:=qQ K D;have rN:W1.heap.size=N+2:=by rw[<-K];simp[D]
 have rS:=vN K D;have rv:=xI K D;have i2:=zR rv 2 (Z U i.a);have i4:=zR rv 4 (Z U i.f);have se:=zH rL;have rx:=zH rS;have HN:=zH D;have rn:=zH rN;clear rL rS rv rN;go_enter func227,ntmps227
 go_upto_region 2 with(first
  |(refine bo rfl 184 _ rfl N rfl 184 (jg m g) (0,0) _ rx.out cq rfl (by kernel_rfl) ?_)
  |(go_at_call 253;refine(HF.out _ (by rw[HN.out];exact se.out)).mono ?_;rintro e w2 ⟨rfl,sf⟩;have rB:=zH sf;clear sf))
 obtain⟨T,hT⟩:=zE w2.heap.size;obtain⟨o,rl⟩:=zE (w2.alloc (rj #[re b,qT s] 32));rw[hT,rl];have rI:=zD rl rB;have sq:N+2<=T:=by rw[<-hT,<-rn.out];exact rB.out.size
 have sr:o.heap.size=T+1:=by rw[<-rl,<-hT];simp
 have sk:o.heap[N]?=qt (rj (jg m g) 184 (0,0)):=(rI.block N (by have:=rn.out;omega)).trans rx.out;have sn:o.heap[T]?=qt (rj #[re b,qT s] 32 (0,0)):=by rw[<-rl,<-hT];exact alloc_at _ _
 have rr:ca (aq N w o):=se.out.trans (rI.mono (by have:=rn.out;omega));have q:ca (∀W,aq o.heap.size o W->iI W N m g/\W.cell? ⟨T,0,qu⟩=qt (re b)/\W.cell? ⟨T,1,qu⟩=qt (qT s)):=by
  intro W A;have q5:=(A.block T (by omega)).trans sn;refine⟨iI.of ((A.block N (by omega)).trans sk), ?_, ?_⟩
  ·rw[bh _ _ _ _ _ _ q5];rfl
  ·rw[bh _ _ _ _ _ _ q5];rfl
 clear hst K rl rI sk sn rx hT rB D rn i2 i4 HF
 by_cases v:z=0
 ·subst v
  have rm:ca (R=bv (((b,s):Ty)==(b2,s2)&&b==y) 7):=by unfold ca;rw[J.out,cw (by simp)]
  obtain⟨d,hd⟩:=zE (((b,s):Ty)==(b2,s2));have sx:∀w,(fS 10000 32 (rh #[re b,qT s]) (rh #[re b2,qT s2])).run ac w= .ok d w:=λw=>by rw[cB,hd]
  rw[hd] at rm;have rK:ca (∀p:BW o,zP 188 #[rh (jg m g),Z U u] p.w (rh #[re b2,qT s2])):=
   λp=>G.out p.w (by rw[HN.out];exact rr.out.trans (p.h.mono (by omega)))
  unfold jg at rK;have k0:∀p:BW o,p.w.cell? ⟨N,0,qu⟩=qt (ra m.sA m.ss.length m.sC):=λp=>(q.out p.w p.h).1.1;have k1:∀p:BW o,p.w.cell? ⟨N,1,qu⟩=qt (ra m.fA m.fs.length m.fC):=λp=>(q.out p.w p.h).1.2.1;have k2:∀p:BW o,p.w.cell? ⟨N,2,qu⟩=qt (qT g.c.nm):=λp=>(q.out p.w p.h).1.2.2.1;have k3:∀p:BW o,p.w.cell? ⟨N,3,qu⟩=qt (Z U g.c.par):=λp=>(q.out p.w p.h).1.2.2.2.1;have k4:∀p:BW o,p.w.cell? ⟨N,4,qu⟩=qt (ra g.c.varsA g.c.nvars g.c.varsC):=λp=>(q.out p.w p.h).1.2.2.2.2.1;have k5:∀p:BW o,p.w.cell? ⟨N,5,qu⟩=qt (re g.c.rp):=λp=>(q.out p.w p.h).1.2.2.2.2.2.1;have k6:∀p:BW o,p.w.cell? ⟨N,6,qu⟩=qt (qT g.c.rto):=λp=>(q.out p.w p.h).1.2.2.2.2.2.2.1;have k7:∀p:BW o,p.w.cell? ⟨N,7,qu⟩=qt (Z U g.c.rcl):=λp=>(q.out p.w p.h).1.2.2.2.2.2.2.2.1;have k8:∀p:BW o,p.w.cell? ⟨N,8,qu⟩=qt (ra g.c.fromA g.c.nfrom g.c.fromC):=λp=>(q.out p.w p.h).1.2.2.2.2.2.2.2.2.1;have k9:∀p:BW o,p.w.cell? ⟨N,9,qu⟩=qt (ra g.c.insA g.c.ins.length g.c.insC):=λp=>(q.out p.w p.h).1.2.2.2.2.2.2.2.2.2;have t0:∀p:BW o,p.w.cell? ⟨T,0,qu⟩=qt (re b):=λp=>(q.out p.w p.h).2.1;have t1:∀p:BW o,p.w.cell? ⟨T,1,qu⟩=qt (qT s):=λp=>(q.out p.w p.h).2.2;clear hd J G q;cases d with
  |false=>
   go_wp2;refine zQ ?_
   repeat (go_big_quiet_step (first
    |(go_at_call 188;exact aV (rK.out _))
    |(go_at_call 99;exact iL (ay _ _ _))))
   refine db ?_;rintro _ ⟨p,rfl⟩;go_wp2;go_ret;rw[rm.out,HN.out];exact⟨rfl,rr.out.trans (p.h.mono (by omega))⟩
  |true=>
   go_wp2;refine zQ ?_
   repeat (go_big_quiet_step (first
    |(go_at_call 188;exact aV (rK.out _))
    |(go_at_call 99;exact iL (ay _ _ _))))
   refine db ?_;rintro _ ⟨p,rfl⟩;go_wp2;go_ret;rw[rm.out,HN.out];exact⟨rfl,rr.out.trans (p.h.mono (by omega))⟩
 ·have rm:ca (R=z):=by unfold ca;rw[J.out,cI v]
  have sy:(z==0)=qS:=by rw[cR];exact v
  clear J G q v;go_wp2;go_ret;rw[rm.out,HN.out];exact⟨rfl,rr.out⟩
theorem ji (o q:bm Vr):∀(l:bm cj)(d:cd),iP o q d l=qv↔∀k a,l[k]?=qt a->(ak o a==ak q ((d+k:cd):cj))=qv
 |[],d=>⟨λ_ k a h=>by simp at h,λ_=>rfl⟩
 |x::r,d=>by
  unfold iP;rw[eK,ji o q r (d+1)];constructor
  ·rintro⟨u,v⟩ k a f
   cases k with
   |zero=>simp at f;subst f;exact u
   |succ k=>
    have:=v k a (by simpa using f);rw[show d+(k+1)=d+1+k by omega];exact this
  ·intro h
   refine⟨h 0 x rfl,λk a f=> ?_⟩;have:=h (k+1) a (by simpa using f);rw[show d+1+k=d+(k+1) by omega];exact this
theorem mD (f:Fn):(f.cells.all λx=>x.oneCell')=qv:=by
 rw[<-iv];simp[Fn.cells,nJ.cells,br]
theorem pK (m:Mo)(g:Fn)(i:Ins)(w:World)(h:mr w m g)(hi:i.args_in w)(tA:i.args.length<=dl)(hd:isVar g.vs.length i.d=qv)(ha:∀a∈i.args,isVar g.vs.length a=qv):
  zP 185 #[rh (jg m g),rh i.cells] w (Z U (gD m g.vs i)):=by
 have HT:ca (∀W v,aq w.heap.size w W->isVar g.vs.length v=qv->zP 188 #[rh (jg m g),Z U v] W (sS (ak g.vs v))):=λW v hW hv=>fJ m g v W (h.below hW).vars h.nv h.vl hv;obtain⟨⟨_,ur,n2,uv,tB⟩,ao,cap,tD,te⟩:=hi;have HA:ca (au w ao i.args):=te.at_;have HJ:=zH h;have tE:=zH hd;have tG:=zH ha;have HE:ca (gD m g.vs i=if i.f<0 then 15 else match m.fs[i.f.toNat]? with
  |none=>15
  |some g'=>if (i.args.length:cj)≠g'.c.par\/(g'.vs.length:cj)<g'.c.par then 7
   else if iP g.vs g'.vs 0 i.args=qS then 7 else bv (ak g.vs i.d==g'.ret) 7):=rfl
 obtain⟨R,hR⟩:=zE (gD m g.vs i);rw[hR] at HE⊢;clear hR h te hd ha tB;obtain⟨N,hN⟩:=zE w.heap.size;obtain⟨W1,rN⟩:=zE ((w.alloc (rj (jg m g) 184)).alloc (rj i.cells 42));have tf:=qQ rN hN;have rS:W1.heap.size=N+2:=by rw[<-rN];simp[hN]
 have sr:=vN rN hN;have sx:=xI rN hN;have i4:=zR sx 4 (Z U i.f);have k1:=zR sr 1 (ra m.fA m.fs.length m.fC);have rr:=zH tf;have th:=zH sr;have ti:=zH sx;have K:=zH hN;have ux:=zH rS;clear tf sr sx
 by_cases rB:i.f<0
 ·have J:ca (R=15):=by unfold ca;rw[HE.out,cI rB]
  clear HE HT;go_enter func185,ntmps185;go_wp2;go_ret;rw[J.out];exact⟨rfl,by first|exact rr.out|(rw[K.out];exact rr.out)⟩
 obtain⟨F,hF⟩:∃F:cd,i.f=(F:cj):=⟨i.f.toNat,by omega⟩
 rw[hF] at i4
 by_cases rI:F<m.fs.length
 ·obtain⟨f,se⟩:∃f,m.fs[F]?=qt f:=⟨_,am rI⟩
  have rv:ca (R=if (i.args.length:cj)≠f.c.par\/(f.vs.length:cj)<f.c.par then 7 else if iP g.vs f.vs 0 i.args=qS then 7 else bv (ak g.vs i.d==f.ret) 7):=by
   unfold ca;rw[HE.out,cw rB,hF,ep,se]
  have sy:=HJ.out.mo.fin f (ce se);have tM:=zH sy;obtain⟨fb,tj,sB,tP,tl⟩:=HJ.out.mo.frow (by intro e;rw[e] at rI;simp at rI);have tR:fb<N:=by omega
  have tS:ca (∀k u,f.cells.toList[k]?=qt u->W1.cell? ((⟨fb,tj+F*8,qu⟩:oA).add k)=qt u):=λk u hu=>by
   rw[cM,rr.out.cell (p:=⟨fb,_,qu⟩) tR];exact tl F f se k u hu
  have tU:(F:cj)<(m.fs.length:cj):=by omega
  obtain⟨D,rK⟩:=zE (W1.alloc (rj f.cells 38));have hst:∀(c:cG bw),c.size=8->(cU ⟨N+2,0,qu⟩ f.cells.toList 0).run ac (W1.alloc (rj c 38))= .ok () D:=λc hc=>by
   rw[<-rK,<-rS];exact cf (P:=ac) W1 38 c f.cells (by show _=qt 8;kernel_rfl) hc (mD f)
  have sf:=iF rK;have tm:D.heap[N+2]?=qt (rj f.cells 38 (0,0)):=by rw[<-rK,<-rS];exact alloc_at _ _
  have va:D.heap.size=N+3:=by rw[<-rK];simp[rS]
  have rl:ca (aq N w D):=rr.out.trans (sf.mono (by omega));have sk:ca (∀W,aq D.heap.size D W->iI W N m g/\W.cell? ⟨N+1,1,qu⟩=qt (Z U i.d)/\W.cell? ⟨N+1,7,qu⟩=qt (ra ao i.args.length cap)/\
    W.cell? ⟨N+2,1,qu⟩=qt (Z U f.c.par)/\W.cell? ⟨N+2,2,qu⟩=qt (ra f.c.varsA f.vs.length f.c.varsC)/\W.cell? ⟨N+2,3,qu⟩=qt (re f.c.rp)/\W.cell? ⟨N+2,4,qu⟩=qt (qT f.c.rto)):=by
   intro W hW;have q1:=(hW.block N (by omega)).trans ((sf.block N (by omega)).trans th.out);have q2:=(hW.block (N+1) (by omega)).trans ((sf.block (N+1) (by omega)).trans ti.out);have q3:=(hW.block (N+2) (by omega)).trans tm;refine⟨iI.of q1, ?_, ?_, ?_, ?_, ?_, ?_⟩
   ·rw[bh _ _ _ _ _ _ q2];rfl
   ·rw[bh _ _ _ _ _ _ q2,<-tD];rfl
   ·rw[bh _ _ _ _ _ _ q3];rfl
   ·rw[bh _ _ _ _ _ _ q3,<-sy.nvars];rfl
   ·rw[bh _ _ _ _ _ _ q3];rfl
   ·rw[bh _ _ _ _ _ _ q3];rfl
  obtain⟨_,j1,j7,c1,c2,c3,c4⟩:=sk.out D (an _ _);have sE:ca (∀(W:World)(v:cj),aq D.heap.size D W->isVar f.vs.length v=qv->∃(k b G:cd) (x:Vr),v=(k:cj)/\k<f.vs.length/\f.c.varsA=qt ⟨b,G,qu⟩/\b<D.heap.size/\ak f.vs v=(x.ptr,x.tgt)/\W.cell? ⟨b,G+k*3,qu⟩=qt (re x.ptr)/\W.cell? ⟨b,G+k*3+1,qu⟩=qt (qT x.tgt)):=by
   intro W v hW hv;have tn:aq w.heap.size w W:=by rw[K.out];exact rl.out.trans (hW.mono (by omega))
   obtain⟨k,b,G,x,r1,r2,r3,r4,r5,r6,r7⟩:=dw (tM.out.vars) hv;exact⟨k,b,G,x,r1,r2,r3,by omega,r5,by rw[tn.cell (p:=⟨b,_,qu⟩) r4];exact r6,by rw[tn.cell (p:=⟨b,_,qu⟩) r4];exact r7⟩
  have vc:=zH sB;rw[sB] at k1;have vd:i.args.length<=9223372036854775807:=by unfold dl at tA;omega
  clear HE rB hF rI se sy sB tl sf tm th ti tP;go_enter func185,ntmps185
  go_upto_region 4 with(first
   |(refine az rfl 38 _ rfl ⟨fb,tj+F*8,qu⟩ rfl f.cells _ tS.out cy rfl (by kernel_rfl) ?_))
  clear hst rK i4 k1
  by_cases rL:(i.args.length:cj)=f.c.par
  ·by_cases sn:(f.vs.length:cj)<f.c.par
   ·have J:ca (R=7):=by unfold ca;rw[rv.out,cI (.inr sn)]
    rw[<-rL] at sn c1;clear rv HT;go_wp2;go_ret;rw[J.out,K.out];exact⟨rfl,rl.out⟩
   ·have sL:ca (R=if iP g.vs f.vs 0 i.args=qS then 7 else bv (ak g.vs i.d==f.ret) 7):=by
     unfold ca;rw[rv.out,cw (λh=>by rcases h with h|h;exact h rL;exact sn h)]
    rw[<-rL] at sn c1;have vf:i.args.length<=f.vs.length:=by omega
    clear rv rL
    go_upto_region 7 with(fail)
    go_loopw [44] (λc wr=>∃j:cd,j<=i.args.length/\c= Z U (j:cj)/\(∀k a,k<j->i.args[k]?=qt a->(ak g.vs a==ak f.vs (k:cj))=qv)/\aq D.heap.size D wr) (λc _=>i.args.length-(intOf c).toNat)
    case atStart=>exact⟨0,cJ _,rfl,λk a hk=>fL hk (by omega),an _ _⟩
    case round=>
     obtain⟨j,hj,rfl,sR,hb⟩:=hrel;have q:=zH hb;have tp:=zH sR
     by_cases sq:j<i.args.length
     ·obtain⟨y,hy⟩:∃y,i.args[j]?=qt y:=⟨_,am sq⟩
      obtain⟨ab,tW,ua,vh,tr⟩:=(HA.out.below (by rw[K.out];exact rl.out.trans (hb.mono (by omega)))) (by intro e;rw[e] at sq;simp at sq)
      have d1:wr.cell? ⟨ab,tW+j,qu⟩=qt (Z U y):=tr j y hy;have tt:isVar g.vs.length y=qv:=tG.out y (ce hy);obtain⟨A,b,G,x,vi,vj,sT,ub,sX,_,_⟩:=sE.out wr (j:cj) hb (dJ.2 ⟨by omega,by omega⟩);obtain rfl:A=j:=by omega
      have HX:ca (∀p:BW wr,p.w.cell? ⟨b,G+A*3,qu⟩=qt (re x.ptr)/\p.w.cell? ⟨b,G+A*3+1,qu⟩=qt (qT x.tgt)):=by
       intro p;obtain⟨k2,b2,uc,x2,q1,q2,q3,q4,q5,q6,q7⟩:=sE.out p.w (A:cj) (q.out.trans (p.h.mono q.out.size)) (dJ.2 ⟨by omega,by omega⟩);obtain rfl:A=k2:=by omega
       rw[sT] at q3;obtain⟨rfl,rfl⟩:b=b2/\G=uc:=by simpa using q3
       rw[sX] at q5;obtain⟨e1,e2⟩:x.ptr=x2.ptr/\x.tgt=x2.tgt:=by simpa using q5
       rw[e1,e2];exact⟨q6,q7⟩
      have x0:∀p:BW wr,p.w.cell? ⟨b,G+A*3,qu⟩=qt (re x.ptr):=λp=>(HX.out p).1;have x1:∀p:BW wr,p.w.cell? ⟨b,G+A*3+1,qu⟩=qt (qT x.tgt):=λp=>(HX.out p).2;have vm:b<wr.heap.size:=cn ub hb.size;obtain⟨⟨tb,ts⟩,rm⟩:∃t,ak g.vs y=t:=⟨_,rfl⟩
      have rx:ca (∀p:BW wr,zP 188 #[rh (jg m g),Z U y] p.w (rh #[re tb,qT ts])):=λp=>by
       have:=HT.out p.w y (by rw[K.out];exact(rl.out.trans (q.out.mono (by omega))).trans (p.h.mono (by have:=q.out.size;omega))) tt;rw[rm] at this;exact this
      unfold jg at rx;obtain⟨d,rn⟩:=zE (((tb,ts):Ty)==(x.ptr,x.tgt));have ud:∀w,(fS 10000 32 (rh #[re tb,qT ts]) (rh #[re x.ptr,qT x.tgt])).run ac w= .ok d w:=λw=>by rw[cB,rn]
      have tv:ca ((ak g.vs y==ak f.vs (A:cj))=d):=by unfold ca;rw[rm,sX];exact rn
      have HY:=zH hy;have o:ca (∀p:BW wr,_):=λp:BW wr=>sk.out p.w (q.out.trans (p.h.mono q.out.size));have k0:∀p:BW wr,p.w.cell? ⟨N,0,qu⟩=qt (ra m.sA m.ss.length m.sC):=λp=>(o.out p).1.1;have k1:∀p:BW wr,p.w.cell? ⟨N,1,qu⟩=qt (ra m.fA m.fs.length m.fC):=λp=>(o.out p).1.2.1;have k2:∀p:BW wr,p.w.cell? ⟨N,2,qu⟩=qt (qT g.c.nm):=λp=>(o.out p).1.2.2.1;have k3:∀p:BW wr,p.w.cell? ⟨N,3,qu⟩=qt (Z U g.c.par):=λp=>(o.out p).1.2.2.2.1;have k4:∀p:BW wr,p.w.cell? ⟨N,4,qu⟩=qt (ra g.c.varsA g.c.nvars g.c.varsC):=λp=>(o.out p).1.2.2.2.2.1;have k5:∀p:BW wr,p.w.cell? ⟨N,5,qu⟩=qt (re g.c.rp):=λp=>(o.out p).1.2.2.2.2.2.1;have k6:∀p:BW wr,p.w.cell? ⟨N,6,qu⟩=qt (qT g.c.rto):=λp=>(o.out p).1.2.2.2.2.2.2.1;have k7:∀p:BW wr,p.w.cell? ⟨N,7,qu⟩=qt (Z U g.c.rcl):=λp=>(o.out p).1.2.2.2.2.2.2.2.1;have k8:∀p:BW wr,p.w.cell? ⟨N,8,qu⟩=qt (ra g.c.fromA g.c.nfrom g.c.fromC):=λp=>(o.out p).1.2.2.2.2.2.2.2.2.1;have k9:∀p:BW wr,p.w.cell? ⟨N,9,qu⟩=qt (ra g.c.insA g.c.ins.length g.c.insC):=λp=>(o.out p).1.2.2.2.2.2.2.2.2.2;have vn:∀p:BW wr,p.w.cell? ⟨N+2,2,qu⟩=qt (ra (qt ⟨b,G,qu⟩) f.vs.length f.c.varsC):=λp=>by rw[<-sT];exact(o.out p).2.2.2.2.1
      have vp:(A:cj)<(i.args.length:cj):=by omega
      have vq:(A:cj)<(f.vs.length:cj):=by omega
      subst ua;clear sR hb hy tr tt sT sX rm rn sq o;cases d with
      |true=>
       go_wp2_with fail
       refine zQ ?_
       repeat (go_big_quiet_step (first
        |(go_at_call 188;exact aV (rx.out _))))
       refine db ?_;rintro _ ⟨p,rfl⟩;go_wp2;go_roundw
       case rel=>
        refine⟨A+1,by omega,by go_num,λk a hk sY=> ?_,q.out.trans (p.h.mono q.out.size)⟩
        by_cases e:k=A
        ·subst e
         rw[HY.out] at sY;obtain rfl:=cX sY;exact tv.out
        ·exact tp.out k a (by omega) sY
       case measure=>simp[intOf];omega
      |false=>
       have J:ca (R=7):=by
        unfold ca;rw[sL.out,cI];cases hc:iP g.vs f.vs 0 i.args with
        |false=>rfl
        |true=>
         have:=(ji _ _ _ _).1 hc A y HY.out;rw[cH,tv.out] at this;cases this
       go_wp2_with fail
       refine zQ ?_
       repeat (go_big_quiet_step (first
        |(go_at_call 188;exact aV (rx.out _))))
       refine db ?_;rintro _ ⟨p,rfl⟩;go_wp2;go_ret;rw[J.out,K.out];exact⟨rfl,(rl.out.trans (q.out.mono (by omega))).trans (p.h.mono (by have:=q.out.size;omega))⟩
     ·have ue:j=i.args.length:=by omega
      subst ue;have tz:ca (R=bv (ak g.vs i.d==f.ret) 7):=by
       unfold ca;rw[sL.out,cw];rw[(ji _ _ _ _).2 (λk a hk=>by rw[cH];exact tp.out k a (bl.1 hk).1 hk)];decide
      obtain⟨⟨tb,ts⟩,rm⟩:∃t,ak g.vs i.d=t:=⟨_,rfl⟩
      have rx:ca (∀p:BW wr,zP 188 #[rh (jg m g),Z U i.d] p.w (rh #[re tb,qT ts])):=λp=>by
       have:=HT.out p.w i.d (by rw[K.out];exact(rl.out.trans (q.out.mono (by omega))).trans (p.h.mono (by have:=q.out.size;omega))) tE.out;rw[rm] at this;exact this
      unfold jg at rx;obtain⟨d,rn⟩:=zE (((tb,ts):Ty)==(f.c.rp,f.c.rto));have ud:∀w,(fS 10000 32 (rh #[re tb,qT ts]) (rh #[re f.c.rp,qT f.c.rto])).run ac w= .ok d w:=λw=>by rw[cB,rn]
      have J:ca (R=bv d 7):=by unfold ca;rw[tz.out,rm,<-rn];rfl
      have o:ca (∀p:BW wr,_):=λp:BW wr=>sk.out p.w (q.out.trans (p.h.mono q.out.size));have k0:∀p:BW wr,p.w.cell? ⟨N,0,qu⟩=qt (ra m.sA m.ss.length m.sC):=λp=>(o.out p).1.1;have k1:∀p:BW wr,p.w.cell? ⟨N,1,qu⟩=qt (ra m.fA m.fs.length m.fC):=λp=>(o.out p).1.2.1;have k2:∀p:BW wr,p.w.cell? ⟨N,2,qu⟩=qt (qT g.c.nm):=λp=>(o.out p).1.2.2.1;have k3:∀p:BW wr,p.w.cell? ⟨N,3,qu⟩=qt (Z U g.c.par):=λp=>(o.out p).1.2.2.2.1;have k4:∀p:BW wr,p.w.cell? ⟨N,4,qu⟩=qt (ra g.c.varsA g.c.nvars g.c.varsC):=λp=>(o.out p).1.2.2.2.2.1;have k5:∀p:BW wr,p.w.cell? ⟨N,5,qu⟩=qt (re g.c.rp):=λp=>(o.out p).1.2.2.2.2.2.1;have k6:∀p:BW wr,p.w.cell? ⟨N,6,qu⟩=qt (qT g.c.rto):=λp=>(o.out p).1.2.2.2.2.2.2.1;have k7:∀p:BW wr,p.w.cell? ⟨N,7,qu⟩=qt (Z U g.c.rcl):=λp=>(o.out p).1.2.2.2.2.2.2.2.1;have k8:∀p:BW wr,p.w.cell? ⟨N,8,qu⟩=qt (ra g.c.fromA g.c.nfrom g.c.fromC):=λp=>(o.out p).1.2.2.2.2.2.2.2.2.1;have k9:∀p:BW wr,p.w.cell? ⟨N,9,qu⟩=qt (ra g.c.insA g.c.ins.length g.c.insC):=λp=>(o.out p).1.2.2.2.2.2.2.2.2.2;have g1:∀p:BW wr,p.w.cell? ⟨N+1,1,qu⟩=qt (Z U i.d):=λp=>(o.out p).2.1;have g3:∀p:BW wr,p.w.cell? ⟨N+2,3,qu⟩=qt (re f.c.rp):=λp=>(o.out p).2.2.2.2.2.1;have g4:∀p:BW wr,p.w.cell? ⟨N+2,4,qu⟩=qt (qT f.c.rto):=λp=>(o.out p).2.2.2.2.2.2;clear sR hb rm rn o sL tz sE HT sk
      go_wp2_with fail
      refine zQ ?_
      repeat (go_big_quiet_step (first
       |(go_at_call 188;exact aV (rx.out _))
       |(go_at_call 99;exact iL (ay _ _ _))))
      refine db ?_;rintro _ ⟨p,rfl⟩;go_wp2;go_ret;rw[J.out,K.out];exact⟨rfl,(rl.out.trans (q.out.mono (by omega))).trans (p.h.mono (by have:=q.out.size;omega))⟩
  ·have J:ca (R=7):=by unfold ca;rw[rv.out,cI (.inl rL)]
   clear rv HT;go_wp2;go_ret;rw[J.out,K.out];exact⟨rfl,rl.out⟩
 ·have J:ca (R=15):=by unfold ca;rw[HE.out,cw rB,hF,ep,lA (by omega)]
  have tU:¬((F:cj)<(m.fs.length:cj)):=by omega
  clear HE HT rI rB hF;go_enter func185,ntmps185;go_wp2;go_ret;rw[J.out];exact⟨rfl,by first|exact rr.out|(rw[K.out];exact rr.out)⟩
structure dn (w:World)(m:Mo)(g:Fn)(i:Ins):Prop where
 j:mr w m g
 d:ou i.op=qv->isVar g.vs.length i.d=qv
 a:rM i.op=qv->isVar g.vs.length i.a=qv
 b:qU i.op=qv->isVar g.vs.length i.b=qv
 kn:∀v,isVar g.vs.length v=qv->m.known (ak g.vs v)=qv
theorem wP {w:World}{z:cj}:au (w.alloc (rj #[Z U z] 3)) (qt ⟨w.heap.size,0,qu⟩) [z]:=au.one w z rfl
theorem Ej {w:World}{y z:cj}:au (w.alloc (rj #[Z U y,Z U z] 3)) (qt ⟨w.heap.size,0,qu⟩) [y,z]:=by
 intro _;refine⟨w.heap.size,0,rfl,by simp,λk u d=> ?_⟩;rw[cH,World.cell?_alloc_new];have:k<2:=(bl.1 d).1;obtain rfl|rfl:k=0\/k=1:=by omega
 ·simp at d;subst d;rfl
 ·simp at d;subst d;rfl
theorem bI {m:Mo}{g:Fn}{i:Ins}{w:World}{k:cj}(A:i.op=k)(h:dn w m g i):∃N o,w.heap.size=N/\(w.alloc (rj (jg m g) 184)).alloc (rj i.cells 42)=o/\o.heap.size=N+2/\N+1<o.heap.size/\
  (o.cell? ⟨N+1,0,qu⟩=qt (Z U k)/\o.cell? ⟨N+1,1,qu⟩=qt (Z U i.d)/\o.cell? ⟨N+1,2,qu⟩=qt (Z U i.a)/\o.cell? ⟨N+1,3,qu⟩=qt (Z U i.b)/\o.cell? ⟨N+1,4,qu⟩=qt (Z U i.f)/\o.cell? ⟨N+1,6,qu⟩=qt (qT i.sign))/\
  ca (w.heap.size=N)/\ca (o.heap.size=N+2)/\ca (aq N w o)/\ca (o.heap[N]?=qt (rj (jg m g) 184 (0,0)))/\ca (o.heap[N+1]?=qt (rj i.cells 42 (0,0)))/\
  ca (∀W v,aq w.heap.size w W->isVar g.vs.length v=qv->zP 188 #[rh (jg m g),Z U v] W (sS (ak g.vs v)))/\ca (ou k=qv->isVar g.vs.length i.d=qv)/\ca (rM k=qv->isVar g.vs.length i.a=qv)/\ca (qU k=qv->isVar g.vs.length i.b=qv):=by
 obtain⟨N,u⟩:=zE w.heap.size;obtain⟨o,y⟩:=zE ((w.alloc (rj (jg m g) 184)).alloc (rj i.cells 42));have D:o.heap.size=N+2:=by rw[<-y];simp[u]
 have q:=xI y u;refine⟨N,o,u,y,D,by omega,⟨?_,zR q 1 _,zR q 2 _,zR q 3 _,zR q 4 _,zR q 6 _⟩,u,D,qQ y u,vN y u,q,λW v G J=>fJ m g v W (h.j.below G).vars h.j.nv h.j.vl J, ?_, ?_, ?_⟩
 ·rw[bh _ _ _ _ _ _ q,<-A];rfl
 ·rw[<-A];exact h.d
 ·rw[<-A];exact h.a
 ·rw[<-A];exact h.b
theorem CQ (m:Mo)(g:Fn)(i:Ins)(w:World)(f:i.op=1)(h:dn w m g i):
  zP 189 #[rh (jg m g),rh i.cells] w (Z U (aj m g.vs i)):=by
 have o:ca (aj m g.vs i=dB g.vs [i.d]):=by
  unfold ca aj;rw[f];rfl
 obtain⟨R,v⟩:=zE (aj m g.vs i);rw[v] at o⊢;clear v;have y:=zH h;obtain⟨N,q,hN,rv,rx,rB,⟨i0,i1,i2,i3,i4,i6⟩,A,D,rl,rm,rI,HT,G,HA,HB⟩:=bI f h;clear h f;have J:ca (aq N w (q.alloc (rj #[Z U i.d] 3))):=rl.out.alloc (by omega) _;have rn:ca (zP 187 #[rh (jg m g),ra (qt ⟨N+2,0,qu⟩) 1 1] (q.alloc (rj #[Z U i.d] 3)) (Z U R)):=by
  have u:=y.out.j.below (by rw[A.out];exact J.out);have:=bU m g (qt ⟨N+2,0,qu⟩) [i.d] 1 (q.alloc (rj #[Z U i.d] 3)) u.vars u.nv u.vl (by unfold dl;simp) (by rw[<-D.out];exact wP) (by simp;exact G.out rfl);rw[<-o.out] at this;exact this
 clear o G HA HB HT y;go_enter et,eh
 go_wp2_with (first
  |(refine bo rfl 184 _ rfl N rfl 184 (jg m g) (0,0) _ rm.out cq rfl (by kernel_rfl) ?_)
  |(go_at_call 187;refine rn.out.mono ?_;rintro e w4 ⟨rfl,K⟩;have rr:=zH K;clear K))
 go_ret;refine⟨rfl, ?_⟩;rw[A.out];exact J.out.trans (rr.out.mono (by have:=D.out;simp;omega))
theorem CR (m:Mo)(g:Fn)(i:Ins)(w:World)(f:i.op=5)(h:dn w m g i):
  zP 189 #[rh (jg m g),rh i.cells] w (Z U (aj m g.vs i)):=by
 have o:ca (aj m g.vs i=dB g.vs [i.d]):=by
  unfold ca aj;rw[f];rfl
 obtain⟨R,v⟩:=zE (aj m g.vs i);rw[v] at o⊢;clear v;have y:=zH h;obtain⟨N,q,hN,rv,rx,rB,⟨i0,i1,i2,i3,i4,i6⟩,A,D,rl,rm,rI,HT,G,HA,HB⟩:=bI f h;clear h f;have J:ca (aq N w (q.alloc (rj #[Z U i.d] 3))):=rl.out.alloc (by omega) _;have rn:ca (zP 187 #[rh (jg m g),ra (qt ⟨N+2,0,qu⟩) 1 1] (q.alloc (rj #[Z U i.d] 3)) (Z U R)):=by
  have u:=y.out.j.below (by rw[A.out];exact J.out);have:=bU m g (qt ⟨N+2,0,qu⟩) [i.d] 1 (q.alloc (rj #[Z U i.d] 3)) u.vars u.nv u.vl (by unfold dl;simp) (by rw[<-D.out];exact wP) (by simp;exact G.out rfl);rw[<-o.out] at this;exact this
 clear o G HA HB HT y;go_enter et,eh
 go_wp2_with (first
  |(refine bo rfl 184 _ rfl N rfl 184 (jg m g) (0,0) _ rm.out cq rfl (by kernel_rfl) ?_)
  |(go_at_call 187;refine rn.out.mono ?_;rintro e w4 ⟨rfl,K⟩;have rr:=zH K;clear K))
 go_ret;refine⟨rfl, ?_⟩;rw[A.out];exact J.out.trans (rr.out.mono (by have:=D.out;simp;omega))
theorem CS (m:Mo)(g:Fn)(i:Ins)(w:World)(d:i.op=6)(h:dn w m g i):
  zP 189 #[rh (jg m g),rh i.cells] w (Z U (aj m g.vs i)):=by
 have f:ca (aj m g.vs i=dB g.vs [i.a]):=by
  unfold ca aj;rw[d];rfl
 obtain⟨R,u⟩:=zE (aj m g.vs i);rw[u] at f⊢;clear u;have v:=zH h;obtain⟨N,o,hN,rr,rv,rx,⟨i0,i1,i2,i3,i4,i6⟩,y,A,K,rl,rB,HT,HD,D,HB⟩:=bI d h;clear h d;have G:ca (aq N w (o.alloc (rj #[Z U i.a] 3))):=K.out.alloc (by omega) _;have rm:ca (zP 187 #[rh (jg m g),ra (qt ⟨N+2,0,qu⟩) 1 1] (o.alloc (rj #[Z U i.a] 3)) (Z U R)):=by
  have q:=v.out.j.below (by rw[y.out];exact G.out);have:=bU m g (qt ⟨N+2,0,qu⟩) [i.a] 1 (o.alloc (rj #[Z U i.a] 3)) q.vars q.nv q.vl (by unfold dl;simp) (by rw[<-A.out];exact wP) (by simp;exact D.out rfl);rw[<-f.out] at this;exact this
 clear f HD D HB HT v;go_enter et,eh
 go_wp2_with (first
  |(refine bo rfl 184 _ rfl N rfl 184 (jg m g) (0,0) _ rl.out cq rfl (by kernel_rfl) ?_)
  |(go_at_call 187;refine rm.out.mono ?_;rintro e w4 ⟨rfl,J⟩;have rn:=zH J;clear J))
 go_ret;refine⟨rfl, ?_⟩;rw[y.out];exact G.out.trans (rn.out.mono (by have:=A.out;simp;omega))
theorem CU (m:Mo)(g:Fn)(i:Ins)(w:World)(f:i.op=3)(h:dn w m g i):
  zP 189 #[rh (jg m g),rh i.cells] w (Z U (aj m g.vs i)):=by
 have o:ca (aj m g.vs i=dB g.vs [i.d,i.a]):=by
  unfold ca aj;rw[f];rfl
 obtain⟨R,v⟩:=zE (aj m g.vs i);rw[v] at o⊢;clear v;have y:=zH h;obtain⟨N,q,hN,rx,rB,rI,⟨i0,i1,i2,i3,i4,i6⟩,A,D,rm,rn,rK,HT,G,J,HB⟩:=bI f h;clear h f;have K:ca (aq N w (q.alloc (rj #[Z U i.d,Z U i.a] 3))):=rm.out.alloc (by omega) _;have rr:ca (zP 187 #[rh (jg m g),ra (qt ⟨N+2,0,qu⟩) 2 2] (q.alloc (rj #[Z U i.d,Z U i.a] 3)) (Z U R)):=by
  have u:=y.out.j.below (by rw[A.out];exact K.out);have:=bU m g (qt ⟨N+2,0,qu⟩) [i.d,i.a] 2 (q.alloc (rj #[Z U i.d,Z U i.a] 3)) u.vars u.nv u.vl (by unfold dl;simp) (by rw[<-D.out];exact Ej) (by simp;exact⟨G.out rfl,J.out rfl⟩);rw[<-o.out] at this;exact this
 clear o G J HB HT y;go_enter et,eh
 go_wp2_with (first
  |(refine bo rfl 184 _ rfl N rfl 184 (jg m g) (0,0) _ rn.out cq rfl (by kernel_rfl) ?_)
  |(go_at_call 187;refine rr.out.mono ?_;rintro e w4 ⟨rfl,rl⟩;have rv:=zH rl;clear rl))
 go_ret;refine⟨rfl, ?_⟩;rw[A.out];exact K.out.trans (rv.out.mono (by have:=D.out;simp;omega))
theorem CV (m:Mo)(g:Fn)(i:Ins)(w:World)(f:i.op=2)(h:dn w m g i):
  zP 189 #[rh (jg m g),rh i.cells] w (Z U (aj m g.vs i)):=by
 have o:ca (aj m g.vs i=bv (ak g.vs i.d).1 7):=by
  unfold ca aj;rw[f];rfl
 obtain⟨R,q⟩:=zE (aj m g.vs i);rw[q] at o⊢;clear q;have J:=zH h;obtain⟨N,u,hN,rn,rr,rv,⟨i0,i1,i2,i3,i4,i6⟩,v,rx,y,K,rB,A,D,HA,HB⟩:=bI f h;clear h f;have rl:ca (zP 188 #[rh (jg m g),Z U i.d] u (rh #[re (ak g.vs i.d).1,qT (ak g.vs i.d).2])):=A.out u i.d (by rw[v.out];exact y.out) (D.out rfl);have rI:=jh;clear D HA HB A J;go_enter et,eh
 go_wp2_with (first
  |(refine bo rfl 184 _ rfl N rfl 184 (jg m g) (0,0) _ K.out cq rfl (by kernel_rfl) ?_)
  |(go_at_call 188;refine rl.out.mono ?_;rintro e w4 ⟨rfl,G⟩;have rm:=zH G;clear G)
  |(go_at_call 99;refine(ay _ _ _).mono ?_;rintro e w9 ⟨rfl,rfl⟩))
 go_ret;rw[o.out,v.out];exact⟨rfl,y.out.trans (rm.out.mono (by omega))⟩
theorem BJ (m:Mo)(g:Fn)(i:Ins)(w:World)(d:i.op=13)(h:dn w m g i):
  zP 189 #[rh (jg m g),rh i.cells] w (Z U (aj m g.vs i)):=by
 have f:ca (aj m g.vs i=bv (ak g.vs i.a).1 7):=by
  unfold ca aj;rw[d];rfl
 obtain⟨R,o⟩:=zE (aj m g.vs i);rw[o] at f⊢;clear o;have G:=zH h;obtain⟨N,q,hN,rn,rr,rv,⟨i0,i1,i2,i3,i4,i6⟩,u,rx,v,J,rB,y,K,A,HB⟩:=bI d h;clear h d;have rl:ca (zP 188 #[rh (jg m g),Z U i.a] q (rh #[re (ak g.vs i.a).1,qT (ak g.vs i.a).2])):=y.out q i.a (by rw[u.out];exact v.out) (A.out rfl);have rI:=jh;clear K A HB y G;go_enter et,eh
 go_wp2_with (first
  |(refine bo rfl 184 _ rfl N rfl 184 (jg m g) (0,0) _ J.out cq rfl (by kernel_rfl) ?_)
  |(go_at_call 188;refine rl.out.mono ?_;rintro e w4 ⟨rfl,D⟩;have rm:=zH D;clear D)
  |(go_at_call 99;refine(ay _ _ _).mono ?_;rintro e w9 ⟨rfl,rfl⟩))
 go_ret;rw[f.out,u.out];exact⟨rfl,v.out.trans (rm.out.mono (by omega))⟩
theorem CW (m:Mo)(g:Fn)(i:Ins)(w:World)(f:i.op=7)(h:dn w m g i):
  zP 189 #[rh (jg m g),rh i.cells] w (Z U (aj m g.vs i)):=by
 have u:ca (aj m g.vs i=bN m g.vs i i.d qS):=by
  unfold ca aj;rw[f];rfl
 obtain⟨R,v⟩:=zE (aj m g.vs i);rw[v] at u⊢;clear v;have o:=zH h;obtain⟨N,y,hN,rr,rv,rx,⟨i0,i1,i2,i3,i4,i6⟩,A,rB,D,K,rl,HT,G,q,HB⟩:=bI f h;clear h f;have rm:ca (zP 227 #[rh (jg m g),rh i.cells,Z U i.d,re qS] y (Z U (bN m g.vs i i.d qS))):=
  jB m g i i.d qS y (o.out.j.below (by rw[A.out];exact D.out)) (q.out rfl) (G.out rfl) (o.out.kn _ (q.out rfl))
 clear G q HB HT o;go_enter et,eh
 go_wp2_with (first
  |(refine bo rfl 184 _ rfl N rfl 184 (jg m g) (0,0) _ K.out cq rfl (by kernel_rfl) ?_)
  |(refine bo rfl 42 _ rfl (N+1) rfl 42 i.cells (0,0) _ rl.out cr rfl (by kernel_rfl) ?_)
  |(go_at_call 227;refine rm.out.mono ?_;rintro e w4 ⟨rfl,J⟩;have rn:=zH J;clear J))
 go_ret;rw[u.out,A.out];exact⟨rfl,D.out.trans (rn.out.mono (by omega))⟩
theorem BL (m:Mo)(g:Fn)(i:Ins)(w:World)(f:i.op=10)(h:dn w m g i):
  zP 189 #[rh (jg m g),rh i.cells] w (Z U (aj m g.vs i)):=by
 have u:ca (aj m g.vs i=bN m g.vs i i.d qv):=by
  unfold ca aj;rw[f];rfl
 obtain⟨R,v⟩:=zE (aj m g.vs i);rw[v] at u⊢;clear v;have o:=zH h;obtain⟨N,y,hN,rr,rv,rx,⟨i0,i1,i2,i3,i4,i6⟩,A,rB,D,K,rl,HT,G,q,HB⟩:=bI f h;clear h f;have rm:ca (zP 227 #[rh (jg m g),rh i.cells,Z U i.d,re qv] y (Z U (bN m g.vs i i.d qv))):=
  jB m g i i.d qv y (o.out.j.below (by rw[A.out];exact D.out)) (q.out rfl) (G.out rfl) (o.out.kn _ (q.out rfl))
 clear G q HB HT o;go_enter et,eh
 go_wp2_with (first
  |(refine bo rfl 184 _ rfl N rfl 184 (jg m g) (0,0) _ K.out cq rfl (by kernel_rfl) ?_)
  |(refine bo rfl 42 _ rfl (N+1) rfl 42 i.cells (0,0) _ rl.out cr rfl (by kernel_rfl) ?_)
  |(go_at_call 227;refine rm.out.mono ?_;rintro e w4 ⟨rfl,J⟩;have rn:=zH J;clear J))
 go_ret;rw[u.out,A.out];exact⟨rfl,D.out.trans (rn.out.mono (by omega))⟩
theorem CX (m:Mo)(g:Fn)(i:Ins)(w:World)(d:i.op=8)(h:dn w m g i):
  zP 189 #[rh (jg m g),rh i.cells] w (Z U (aj m g.vs i)):=by
 have q:ca (aj m g.vs i=bN m g.vs i i.b qS):=by
  unfold ca aj;rw[d];rfl
 obtain⟨R,u⟩:=zE (aj m g.vs i);rw[u] at q⊢;clear u;have f:=zH h;obtain⟨N,v,hN,rn,rr,rv,⟨i0,i1,i2,i3,i4,i6⟩,y,rx,A,J,K,HT,HD,o,D⟩:=bI d h;clear h d;have rl:ca (zP 227 #[rh (jg m g),rh i.cells,Z U i.b,re qS] v (Z U (bN m g.vs i i.b qS))):=
  jB m g i i.b qS v (f.out.j.below (by rw[y.out];exact A.out)) (o.out rfl) (D.out rfl) (f.out.kn _ (o.out rfl))
 clear HD o D HT f;go_enter et,eh
 go_wp2_with (first
  |(refine bo rfl 184 _ rfl N rfl 184 (jg m g) (0,0) _ J.out cq rfl (by kernel_rfl) ?_)
  |(refine bo rfl 42 _ rfl (N+1) rfl 42 i.cells (0,0) _ K.out cr rfl (by kernel_rfl) ?_)
  |(go_at_call 227;refine rl.out.mono ?_;rintro e w4 ⟨rfl,G⟩;have rm:=zH G;clear G))
 go_ret;rw[q.out,y.out];exact⟨rfl,A.out.trans (rm.out.mono (by omega))⟩
theorem BM (m:Mo)(g:Fn)(i:Ins)(w:World)(d:i.op=11)(h:dn w m g i):
  zP 189 #[rh (jg m g),rh i.cells] w (Z U (aj m g.vs i)):=by
 have q:ca (aj m g.vs i=bN m g.vs i i.b qv):=by
  unfold ca aj;rw[d];rfl
 obtain⟨R,u⟩:=zE (aj m g.vs i);rw[u] at q⊢;clear u;have f:=zH h;obtain⟨N,v,hN,rn,rr,rv,⟨i0,i1,i2,i3,i4,i6⟩,y,rx,A,J,K,HT,HD,o,D⟩:=bI d h;clear h d;have rl:ca (zP 227 #[rh (jg m g),rh i.cells,Z U i.b,re qv] v (Z U (bN m g.vs i i.b qv))):=
  jB m g i i.b qv v (f.out.j.below (by rw[y.out];exact A.out)) (o.out rfl) (D.out rfl) (f.out.kn _ (o.out rfl))
 clear HD o D HT f;go_enter et,eh
 go_wp2_with (first
  |(refine bo rfl 184 _ rfl N rfl 184 (jg m g) (0,0) _ J.out cq rfl (by kernel_rfl) ?_)
  |(refine bo rfl 42 _ rfl (N+1) rfl 42 i.cells (0,0) _ K.out cr rfl (by kernel_rfl) ?_)
  |(go_at_call 227;refine rl.out.mono ?_;rintro e w4 ⟨rfl,G⟩;have rm:=zH G;clear G))
 go_ret;rw[q.out,y.out];exact⟨rfl,A.out.trans (rm.out.mono (by omega))⟩
end Go.Proofs.YtjomgckjhcfbgaaGreat
