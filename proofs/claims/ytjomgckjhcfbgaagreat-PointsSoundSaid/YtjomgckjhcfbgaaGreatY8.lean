/- Walks. -/
import Derived.Laws.OwnMore
import Derived.Handy
import Derived.Laws.StructEq
import Derived.Deep.RegionHeld3
import Derived.Deep.WholeRow
import Derived.Laws.ResultCell
import Derived.Test.YtjomgckjhcfbgaaGreatY0
set_option maxRecDepth 100000
set_option maxHeartbeats 64000000
set_option linter.all false
namespace Go.Proofs.YtjomgckjhcfbgaaGreat
open Go.RowKit
open Go.Proofs.Tryz renaming prog→ac,underlying184→cI,underlying42→cJ,underlying38→cQ,underlying32→ey,ntmps189→eV,func189→fx,underlying35→iu,underlying90→ot,ntmps144→qu,func144→rK
open _root_.List renaming getElem?_eq_getElem→am,getElem?_eq_some_iff→ap,mem_of_getElem?→cf,length_append→cw,take_length→de,nil_append→fc,getElem?_map→fj,cons_append→jt,any_eq_true→kq,any_eq_false→lz,append_nil→mj,getElem?_eq_none→my,take_add_one→mT,length_pos_iff→rx
open Go.RowKit.Below renaming refl→aq
open _root_ renaming ByteArray→aE,List→bm,Int→bp,Nat→bx,if_neg→cE,decide_eq_false→cL,if_pos→cR,Array→da,beq_eq_false_iff_ne→dp,decide_eq_true→ef,Option→eA,absurd→fW,False→mb,Bool→nj,of_decide_eq_true→qe
open Go.RowKit renaming Below→bh,Hid→cm
open _root_.Array renaming getElem?_eq_some_iff→bj,all_toList→ld,getElem?_eq_none→nt
open Go renaming heap_setCell_same→bk,cell_of_row→cc,Value→cd,wpList_load_row→ci,run_storeCells_new→ct,storeCells→dr,bodyPost_ret→dv,maxLen→dT,wpQuiet_nil→eh,frozen_of_row→eq,run_underlying→fN,beq_toListBytes→fY,Calls→gd,TypeId→gx,info_parts→gA,Oper→ke,Program→km,heap_alloc2_new→lx,below_drewN→lB,run_loadVar_row→oe,wpList→sL,results→tz
open _root_.Nat renaming lt_of_lt_of_le→bl,le_refl→ce,zero_le→cN,zero_add→cV,le_succ→ip
open Go.Value renaming oneCell'→cj,slice→co,int→eE,ownBlock→eJ,string→tM,slice→tP,pointer→tR,bool→tU,agg→tW,int→Z
open _root_.Option.some renaming inj→cD
open _root_.Int renaming toNat_natCast→cP
open Go.Exit renaming inBlock→db
open Go.Addr renaming add_lit→dc
open _root_.Bool renaming and_eq_true→eN,true→tE,false→tG
open Go.Result renaming andThen→fX,andThen_ok→mA
open Go.Op renaming equalIn→gE
open Go.Builtin renaming append_→jp,firstCells→m7,lenOf→pB
open _root_.ByteArray renaming empty→lp
open Go.Oper renaming wp→lR
open Go.Instr renaming field→nw
open Go.ByteArray renaming toList_eq→pi
open _root_.Option renaming some→tB,none→tD
open Go.Obj renaming cells→ua
open Go.Ending renaming returned→ub
open Go.IntKind renaming i64→U
open Tryz
def nZ (op:bp):nj:=decide (op∈[1,2,3,4,5,7,9,10,12,14,15])
def oH (op:bp):nj:=decide (op∈[3,4,6,7,8,9,10,11,13,14,17,18])
def rz (op:bp):nj:=decide (op∈[4,8,11])
theorem Da (op:bp):(op=1\/op=2\/op=3\/op=4\/op=5\/op=6\/op=7\/op=8\/op=9\/op=10\/op=11\/op=12\/op=13\/op=14\/op=15\/op=17\/op=18)\/(op≠1/\op≠2/\op≠3/\op≠4/\op≠5/\op≠6/\op≠7/\op≠8/\op≠9/\op≠10/\op≠11/\op≠12/\op≠13/\op≠14/\op≠15/\op≠17/\op≠18):=by omega
theorem qI (op:bp)(w:World):zS 193 #[Z U op] w (.tuple #[tU (nZ op),tU (oH op),tU (rz op)]):=by
 rcases Da op with h|h
 ·rcases h with rfl|rfl|rfl|rfl|rfl|rfl|rfl|rfl|rfl|rfl|rfl|rfl|rfl|rfl|rfl|rfl|rfl
  all_goals
   go_enter func193,ntmps193;go_wp2
   go_ret3
   exact⟨rfl,rfl⟩
 ·obtain⟨d,f,q,u,v,A,D,G,J,uc,ud,ue,ur,uv,ux,va,vc⟩:=h
  have e1:(op==1)=tG:=by simpa using d
  have e2:(op==2)=tG:=by simpa using f
  have e3:(op==3)=tG:=by simpa using q
  have e4:(op==4)=tG:=by simpa using u
  have e5:(op==5)=tG:=by simpa using v
  have e6:(op==6)=tG:=by simpa using A
  have e7:(op==7)=tG:=by simpa using D
  have e8:(op==8)=tG:=by simpa using G
  have e9:(op==9)=tG:=by simpa using J
  have vd:(op==10)=tG:=by simpa using uc
  have vf:(op==11)=tG:=by simpa using ud
  have vh:(op==12)=tG:=by simpa using ue
  have vi:(op==13)=tG:=by simpa using ur
  have vj:(op==14)=tG:=by simpa using uv
  have vm:(op==15)=tG:=by simpa using ux
  have vp:(op==17)=tG:=by simpa using va
  have vq:(op==18)=tG:=by simpa using vc
  have HD:cm (nZ op=tG/\oH op=tG/\rz op=tG):=by
   unfold nZ oH rz;refine⟨cL ?_,cL ?_,cL ?_⟩<;>(simp;omega)
  clear d f q u v A D G J uc ud ue ur uv ux va vc;go_enter func193,ntmps193;go_wp2
  go_ret3
  obtain⟨a,b,c⟩:=HD.out;exact⟨by rw[a,b,c];rfl,rfl⟩
def aA (w:World)(f:eA Addr)(xs:bm bp):Prop:=
 xs≠[]->∃g d,f=tB ⟨g,d,tD⟩/\g<w.heap.size/\∀i z,xs[i]?=tB z->w.cell? ⟨g,d+i,tD⟩=tB (Z U z)
theorem aT.at_ {w:World}{base n cap:bx}{d:eA Addr}{xs:bm bp}(h:aT w base (tP d n cap) xs):aA w d xs:=by
 intro f;obtain⟨g,e,_,q,u⟩:=h.shape (rx.2 f);exact⟨g,0,e,q,λi z v=>by rw[cV];exact u i z v⟩
theorem kI.at_ {w:World}{d:eA Addr}{xs:bm bp}(h:kI w d xs):aA w d xs:=by
 intro f;obtain⟨b,q,e,u,v⟩:=h f;exact⟨b,q,e,u,λi z A=>by have:=v i z A 0 _ rfl;simpa using this⟩
theorem aA.below {w w':World}{d:eA Addr}{xs:bm bp}(h:aA w d xs)(f:bh w.heap.size w w'):aA w' d xs:=by
 intro u;obtain⟨g,v,e,q,A⟩:=h u;exact⟨g,v,e,bl q f.size,λi z D=>by rw[f.cell (p:=⟨g,_,tD⟩) q];exact A i z D⟩
theorem Db (w:World)(c:bx)(A:eA Addr)(xs:bm bp)(z:bp)(hn:xs.length<=90000)(h:aA w A xs):
  zS 126 #[Z U z,tP A xs.length c] w (tU (decide (z∈xs))):=by
 have H:=zH h;clear h;go_enter func126,ntmps126
 go_wp2_with fail
 go_loop [5] (λk=>∃j:bx,j<=xs.length/\k= Z U (j:bp)/\z∉xs.take j) (λk=>xs.length-(intOf k).toNat)
 case atStart=>exact⟨0,cN _,rfl,by simp⟩
 case round=>
  obtain⟨j,hj,rfl,d⟩:=hrel
  by_cases u:j<xs.length
  ·obtain⟨y,q⟩:∃y,xs[j]?=tB y:=⟨_,am u⟩
   obtain⟨D,G,rfl,ud,v⟩:=H.out (by intro e;rw[e] at u;simp at u);have d1:w.cell? ⟨D,G+j,tD⟩=tB (Z U y):=v j y q;have ue:(j:bp)<(xs.length:bp):=by omega
   by_cases f:y=z
   ·have J:(y==z)=tE:=by simp[f]
    have HM:cm (decide (z∈xs)=tE):=ef (by rw[<-f];exact cf q);clear q v d f;go_wp2;go_ret;exact⟨by rw[HM.out];rfl,rfl⟩
   ·have J:(y==z)=tG:=by simp[f]
    have HN:cm (z∉xs.take (j+1)):=by
     unfold cm;rw[mT,q];simp[d];exact λe=>f e.symm
    clear q v d f;go_wp2
    go_round
    case rel=>exact⟨j+1,by omega,by go_num,HN.out⟩
    case measure=>simp[intOf];omega
  ·have uc:j=xs.length:=by omega
   subst uc;rw[de] at d;have HM:cm (decide (z∈xs)=tG):=cL d;clear d;go_wp2;go_ret;exact⟨by rw[HM.out];rfl,rfl⟩
theorem aA.nil_of_none {w:World}{xs:bm bp}(h:aA w tD xs):xs=[]:=by
 by_cases e:xs=[]
 ·exact e
 ·obtain⟨g,f,d,_⟩:=h e
  cases d
theorem qW {P:km}(w:World)(base:bx)(t h e:gx)(i:TypeInfo)(size:bx)(d:P.underlying t=tB (.slice e))(f:P.info? e=tB i)
  (v:cd)(n:bx)(xs:bm cd)(q:w.ownsRow base e size v n xs)(c:bx):(jp #[t,t] h #[v,tP tD 0 c]).run P w= .ok v w:=by
 rcases q.2 with⟨rfl,rfl⟩|⟨g,cap,cur,rfl,_,_,u,_⟩
 ·simp[jp,fN d,sizeOf,typeInfo,f,pB,m7]
 ·simp[jp,fN d,sizeOf,typeInfo,f,pB,m7,u,dr]
theorem aP {w:World}{ops:da ke}{rest:bm ke}{o:ke}{a:Act}{Q:Exit->Act->World->Prop}(uc:o.guard=tD)(s x:Operand)
  (ho:o.op= .call {callee:= .builtin .append,args:=#[s,x],argTypes:=#[35,35]})(base:bx)(v:cd)(xs:bm bp)(hs:a.eval s=v)(A:aT w base v xs)
  (D:eA Addr)(d:bm bp)(c:bx)(hx:a.eval x= tP D d.length c)(ud:aA w D d)(vd:xs.length+d.length<=90000)(ue:base<=w.heap.size)
  (h:∀f w',aT w' base f (xs++d)->w.grownBy w' v.ownBlock->sL ac ops Q rest (a.put o.dst f) w'):sL ac ops Q (o::rest) a w:=by
 obtain⟨i0,hi,ur,uv,ux⟩:=gA oh;have hh:∀f w',w'.ownsRow base 3 1 f (xs.length+d.length) (xs.map (eE .i64)++d.map (eE .i64))->w.grownBy w' v.ownBlock->sL ac ops Q rest (a.put o.dst f) w':=λf w' G J=>h f w' (by unfold aT;simpa using G) J;cases D with
 |none=>
  obtain rfl:=ud.nil_of_none;refine wpList_plain uc λK hK=> ?_;have va:=qW (P:=ac) w base 35 o.type 3 i0 1 iu hi v _ _ A c;have vc:a.eval x= tP tD 0 c:=hx;unfold lR;simp[execOp,ho,resolve,invoke,builtin,hs,vc,va,fX];exact hK _ _ (hh _ _ (by have h:=A;unfold aT at h;simpa using h) (World.grownBy.refl w _))
 |some ad=>
  refine wpList_append_own _ uc s x 35 ho base 3 i0 (Z U 0) 1 8 iu hi ur uv ux rfl (by decide) v xs.length _ hs A ad d.length c (d.map (eE .i64)) hx (by simp) (λj u q=> ?_) (by simp;intro _ _;rfl) (by unfold dT;omega) (by omega) ue (λf w' G J _=>hh f w' G J);obtain⟨z,hz,rfl⟩:∃z,d[j]?=tB z/\eE .i64 z=u:=by
   rw[fj] at q;cases hy:d[j]? with
   |none=>rw[hy] at q;simp at q
   |some z=>rw[hy] at q;exact⟨z,rfl,by simpa using q⟩
  obtain⟨g,vf,e,_,hc⟩:=ud (by intro e;rw[e] at hz;simp at hz);obtain rfl:=cD e;rw[dc];exact hc j z hz
def aX (i:Ins):bp×nj:=if nZ i.op=tE then(i.d,tE) else(0,tG)
def readsOf (i:Ins):bm bp:=(if oH i.op=tE then[i.a] else[])++(if rz i.op=tE then[i.b] else[])++(if i.op=15 then i.args else[])
theorem sj (i:Ins)(w:World)(v:i.ok):zP 142 #[tW i.cells] w (.tuple #[Z U (aX i).1,tU (aX i).2]):=by
 obtain⟨op,d,a,b,f,n,A,D,G,J,uc,ln,cl,args⟩:=i;obtain⟨⟨ao,cap,h⟩,ud,n2,ue,q⟩:=v;simp only at h q;subst h q;simp only[Ins.cells,aX];have u:=zH (qI op);cases hd:nZ op with
 |true=>
  go_enter func142,ntmps142
  go_wp2_with (go_at_call 193;refine(u.out _).mono ?_;rintro e w' ⟨rfl,rfl⟩)
  go_ret2
  exact⟨rfl,(aq _ _).alloc (ce _) _⟩
 |false=>
  go_enter func142,ntmps142
  go_wp2_with (go_at_call 193;refine(u.out _).mono ?_;rintro e w' ⟨rfl,rfl⟩)
  go_ret2
  exact⟨rfl,(aq _ _).alloc (ce _) _⟩
theorem below_grown {B:bx}{a w w':World}{v:cd}{xs:bm bp}(h:bh B a w)(d:B<=w.heap.size)(f:aT w B v xs)(q:w.grownBy w' v.ownBlock):bh B a w':=
 h.grown q d (λk u=>(f.lt k u).1)
theorem aA.one (w:World)(z:bp){B:bx}(f:B=w.heap.size):aA (w.alloc (ua #[Z U z] 3)) (tB ⟨B,0,tD⟩) [z]:=by
 subst f;intro _;refine⟨w.heap.size,0,rfl,by simp,λi u d=> ?_⟩;rw[cV,World.cell?_alloc_new];have:i<1:=(ap.1 d).1;obtain rfl:i=0:=by omega
 simp at d;subst d;rfl
theorem Ct {op:bp}(h:rz op=tE):oH op=tE:=by
 unfold rz at h;unfold oH;have:=qe h;refine ef ?_;simp at this⊢;omega
theorem zt (i:Ins)(h:i.args.length<=40):(readsOf i).length<=42:=by
 unfold readsOf;simp only[cw];have:(if oH i.op=tE then[i.a] else[]).length<=1:=by split<;>simp
 have:(if rz i.op=tE then[i.b] else[]).length<=1:=by split<;>simp
 have:(if i.op=15 then i.args else[]).length<=40:=by
  split
  ·exact h
  ·simp
 omega
theorem vg (i:Ins)(w:World)(vp:i.args_in w)(hl:i.args.length<=40):gd ac 144 #[tW i.cells] w (lJ w (readsOf i)):=by
 obtain⟨op,d,a,b,f,n,vf,vy,we,vh,vi,ln,cl,args⟩:=i;obtain⟨⟨_,vj,n2,vm,h2⟩,ao,cap,h1,ux⟩:=vp;simp only at h1 h2 ux hl;subst h1 h2;simp only[Ins.cells,readsOf];have HS:=zH (qI op);have vq:=zH ux.at_;clear ux;obtain⟨N,q⟩:=zE w.heap.size
 by_cases ue:op=15
 ·subst ue
  have e:(if oH 15=tE then[a] else[])++(if rz 15=tE then[b] else[])++(if (15:bp)=15 then args else[])=args:=by
   rw[cE (by decide),cE (by decide),cR rfl];rfl
  rw[e];go_enter rK,qu
  go_wp2_with (first
   |(go_at_call 193;refine(HS.out _).mono ?_;rintro e w' ⟨rfl,rfl⟩)
   |(at_builtin;refine aP rfl (.tmp 28) (.tmp 30) rfl (N+1) (tP tD 0 0) [] rfl (aT.nil _ _) ao args cap rfl (vq.out.below ((aq _ _).alloc (ce _) _)) ?c1 ?c2 ?_))
  case c1=>simp;omega
  case c2=>simp;omega
  intro v' w' A D;obtain⟨J,uc,rfl⟩:=A.isSlice;have u:cm (aT w' (N+1) (tP J args.length uc) args/\bh N w w'):=⟨by simpa using A,by
   refine below_grown (v:= tP tD 0 0) (xs:=[]) ?_ ?_ (aT.nil _ _) D
   ·rw[<-q];exact(aq _ _).alloc (ce _) _
   ·simp;omega⟩
  clear A D
  try simp only[fc]
  go_wp2;go_ret;exact⟨_,_,rfl,by first|exact u.out.1.mono (ip N)|(rw[q];exact u.out.1.mono (ip N)),by first|exact u.out.2|(rw[q];exact u.out.2)⟩
 ·have wg:(op==15)=tG:=by simpa using ue
  rw[cE ue,mj];clear ue;cases ha:oH op with
  |false=>
   have hb:rz op=tG:=by
    cases h:rz op with
    |false=>rfl
    |true=>rw[Ct h] at ha;cases ha
   rw[hb,cE (by decide),cE (by decide)];go_enter rK,qu
   go_wp2_with (go_at_call 193;refine(HS.out _).mono ?_;rintro e w' ⟨rfl,rfl⟩)
   go_ret;exact⟨tD,0,rfl,aT.nil _ _,(aq _ _).alloc (by omega) _⟩
  |true=>
   cases hb:rz op with
   |false=>
    rw[cR rfl,cE (by decide),mj];go_enter rK,qu
    go_wp2_with (first
     |(go_at_call 193;refine(HS.out _).mono ?_;rintro e w' ⟨rfl,rfl⟩)
     |(at_builtin;refine aP rfl (.tmp 14) (.tmp 17) rfl (N+1) (tP tD 0 0) [] rfl (aT.nil _ _) _ [a] 1 rfl (aA.one _ _ (by simp[q])) ?c1 ?c2 ?_))
    case c1=>simp
    case c2=>simp;omega
    intro v' w' A D;obtain⟨J,uc,rfl⟩:=A.isSlice;have u:cm (aT w' (N+1) (tP J [a].length uc) [a]/\bh N w w'):=⟨by simpa using A,by
     refine below_grown (v:= tP tD 0 0) (xs:=[]) ?_ ?_ (aT.nil _ _) D
     ·rw[<-q];exact((aq _ _).alloc (ce _) _).alloc (by simp) _
     ·simp;omega⟩
    have G:Ext (λ_=>mb) ((w.alloc (ua #[Z U op,Z U d,Z U a,Z U b,Z U f,Z U n,tM vf,tP ao args.length cap,tP vj n2 vm,Z U vh,Z U vi,Z U ln,Z U cl] 42)).alloc (ua #[Z U a] 3)) w':=Ext.of_grown D (λk hk=>by simp[eJ] at hk);have va:w'.cell? ⟨N,0,tD⟩=tB (Z U op):=by
     rw[G.cell (a:=⟨N,0,tD⟩) (by simp;omega) (λh=>h),<-q,World.cell?_alloc_lt _ _ _ (by simp),World.cell?_alloc_new];rfl
    clear A D G
    try simp only[fc]
    go_wp2;go_ret;exact⟨_,_,rfl,by first|exact u.out.1.mono (ip N)|(rw[q];exact u.out.1.mono (ip N)),by first|exact u.out.2|(rw[q];exact u.out.2)⟩
   |true=>
    rw[cR rfl,cR rfl];go_enter rK,qu
    go_wp2_with (first
     |(go_at_call 193;refine(HS.out _).mono ?_;rintro e w' ⟨rfl,rfl⟩)
     |(at_builtin;refine aP rfl (.tmp 14) (.tmp 17) rfl (N+1) (tP tD 0 0) [] rfl (aT.nil _ _) _ [a] 1 rfl (aA.one _ _ (by simp[q])) ?c1 ?c2 ?_))
    case c1=>simp
    case c2=>simp;omega
    intro v1 w1 vc vd;obtain⟨ur,uv,rfl⟩:=vc.isSlice;have G:Ext (λ_=>mb) ((w.alloc (ua #[Z U op,Z U d,Z U a,Z U b,Z U f,Z U n,tM vf,tP ao args.length cap,tP vj n2 vm,Z U vh,Z U vi,Z U ln,Z U cl] 42)).alloc (ua #[Z U a] 3)) w1:=Ext.of_grown vd (λk hk=>by simp[eJ] at hk);have wi:w1.cell? ⟨N,3,tD⟩=tB (Z U b):=by
     rw[G.cell (a:=⟨N,3,tD⟩) (by simp;omega) (λh=>h),<-q,World.cell?_alloc_lt _ _ _ (by simp),World.cell?_alloc_new];rfl
    have va:w1.cell? ⟨N,0,tD⟩=tB (Z U op):=by
     rw[G.cell (a:=⟨N,0,tD⟩) (by simp;omega) (λh=>h),<-q,World.cell?_alloc_lt _ _ _ (by simp),World.cell?_alloc_new];rfl
    have ud:cm (aT w1 (N+1) (tP ur [a].length uv) [a]/\bh N w w1):=⟨by simpa using vc,by
     refine below_grown (v:= tP tD 0 0) (xs:=[]) ?_ ?_ (aT.nil _ _) vd
     ·rw[<-q];exact((aq _ _).alloc (ce _) _).alloc (by simp) _
     ·simp;omega⟩
    have vr:N<=w1.heap.size:=by have:=ud.out.2.size;omega
    clear vc vd G
    try simp only[fc]
    go_wp2_with (at_builtin;refine aP rfl (.tmp 20) (.tmp 23) rfl (N+1) (tP ur 1 uv) [a] rfl (ownsRow_below ud.out.1 ((aq _ _).alloc (ce _) _)) _ [b] 1 rfl (aA.one _ _ (by simp)) ?c3 ?c4 ?_)
    case c3=>simp
    case c4=>simp;omega
    intro v' w' A D;obtain⟨J,uc,rfl⟩:=A.isSlice;have vu:N<w1.heap.size:=by
     by_cases e:N<w1.heap.size
     ·exact e
     ·exact fW va (by simp[World.cell?,nt (Nat.le_of_not_lt e)])
    have wj:w'.cell? ⟨N,0,tD⟩=tB (Z U op):=by
     have vx:Ext (λk=>(co ur 1 uv).ownBlock=tB k) (w1.alloc (ua #[Z U b] 3)) w':=Ext.of_grown D (λk hk=> .inl hk);rw[vx.cell (a:=⟨N,0,tD⟩) (by simp;omega) (λh=> ?_),World.cell?_alloc_lt _ _ _ vu]
     ·exact va
     ·have h3:=(ud.out.1.lt N h).1
      omega
    have u:cm (aT w' (N+1) (tP J [a,b].length uc) [a,b]/\bh N w w'):=⟨by simpa using A,by
     refine below_grown (v:= tP ur 1 uv) (xs:=[a]) ?_ ?_ (aT.mono (ownsRow_below ud.out.1 ((aq _ _).alloc (ce _) _)) (ip N)) D
     ·exact ud.out.2.alloc vr _
     ·simp;omega⟩
    clear A D
    try simp only[jt,fc]
    go_wp2;go_ret;exact⟨_,_,rfl,by first|exact u.out.1.mono (ip N)|(rw[q];exact u.out.1.mono (ip N)),by first|exact u.out.2|(rw[q];exact u.out.2)⟩
def fT {α:Type}(p:α->nj)(l:bm α):bp:=if l.findIdx p<l.length then((l.findIdx p:bx):bp) else-1
def Mo.stIx (m:Mo)(nm:aE):bp:=fT (λs=>s.s.nm==nm) m.ss
def Mo.fnIx (m:Mo)(nm:aE):bp:=fT (λf=>f.c.nm==nm) m.fs
def Mo.known (m:Mo)(t:Ty):nj:=if t.1=tE then decide (0<=m.stIx t.2) else t.2==lp
def az (d:bm Vr)(v:bp):Ty:=match d[v.toNat]? with
 |some x=>x.ty
 |none=>bI
def isVar (n:bx)(v:bp):nj:=decide (0<=v)&&decide (v<(n:bp))
def aJ (n:bx)(l:bm bp):nj:=l.all (isVar n)
def bM (b:nj)(f:bp):bp:=if b=tE then 0 else f
def aI (m:Mo)(d:bm Vr)(v f:bp):Ty×bp:=
 if (az d v).1=tG then(bI,7)
 else match m.ss[(m.stIx (az d v).2).toNat]? with
  |none=>(bI,15)
  |some s=>if f<0 then(bI,15) else match s.fs[f.toNat]? with
   |none=>(bI,15)
   |some x=>(x.ty,0)
def bV (m:Mo)(d:bm Vr)(i:Ins)(h:bp)(q:nj):bp:=
 if (aI m d i.a i.f).2≠0 then(aI m d i.a i.f).2
 else bM ((aI m d i.a i.f).1==az d h&&(aI m d i.a i.f).1.1==q) 7
def iF (d f:bm Vr):bx->bm bp->nj
 |_,[]=>tE
 |k,a::r=>az d a==az f (k:bp)&&iF d f (k+1) r
def iG (m:Mo)(vs:bm Vr)(i:Ins):bp:=
 if i.f<0 then 15 else match m.fs[i.f.toNat]? with
  |none=>15
  |some g=>if (i.args.length:bp)≠g.c.par\/(g.vs.length:bp)<g.c.par then 7
   else if iF vs g.vs 0 i.args=tG then 7 else bM (az vs i.d==g.ret) 7
def dX (d:bm Vr)(l:bm bp):bp:=bM (l.all λv=> !(az d v).1) 7
def eO (f:bp)(s:aE)(l:bm aE):bp:=if f≠0 then f else bM (l.any λx=>x==s) 3
def gK:bm aE:=[⟨#[43]⟩,⟨#[45]⟩,⟨#[42]⟩,⟨#[47]⟩,⟨#[37]⟩,⟨#[60]⟩,⟨#[60,61]⟩,⟨#[62]⟩,⟨#[62,61]⟩,⟨#[61,61]⟩,⟨#[33,61]⟩]
def ji:bm aE:=[⟨#[61,61]⟩,⟨#[33,61]⟩]
def ay (m:Mo)(h:bm Vr)(i:Ins):bp:=
 if i.op=1\/i.op=5 then dX h [i.d]
 else if i.op=3 then dX h [i.d,i.a]
 else if i.op=4 then eO (dX h [i.d,i.a,i.b]) i.sign gK
 else if i.op=6 then dX h [i.a]
 else if i.op=2 then bM (az h i.d).1 7
 else if i.op=13 then bM (az h i.a).1 7
 else if i.op=14 then eO (bM (!(az h i.d).1&&(az h i.a).1) 7) i.sign ji
 else if i.op=9 then bM ((az h i.a).1&&az h i.a==az h i.d) 7
 else if i.op=7\/i.op=10 then bV m h i i.d (decide (i.op=10))
 else if i.op=8\/i.op=11 then bV m h i i.b (decide (i.op=11))
 else if i.f<0 then 15 else match m.ss[i.f.toNat]? with
  |none=>15
  |some s=>bM (az h i.d==(tE,s.s.nm)) 7
def aD (m:Mo)(g:Fn)(i:Ins):bp:=
 if i.op<1\/18<i.op then 3
 else if aJ g.vs.length (readsOf i++(if nZ i.op then[i.d] else[]))=tG then 15
 else if i.op=15 then iG m g.vs i
 else if i.op=16 then bM (isVar g.c.ins.length i.tI) 15
 else if i.op=17 then(if isVar g.c.ins.length i.tI&&isVar g.c.ins.length i.els then dX g.vs [i.a] else 15)
 else if i.op=18 then bM (az g.vs i.a==g.ret) 7
 else ay m g.vs i
def aQ {α:Type}(f:α->bp):bm α->bp
 |[]=>0
 |x::r=>if f x=0 then aQ f r else f x
def codeF (m:Mo)(g:Fn):bp:=
 if 300<g.vs.length\/g.c.ins.length<1\/3000<g.c.ins.length then 2
 else if g.c.par<0\/(g.vs.length:bp)<g.c.par then 15
 else if aQ (aD m g) g.c.ins≠0 then aQ (aD m g) g.c.ins
 else bM (match g.c.ins.getLast? with
  |some i=>decide (16<=i.op)
  |none=>tG) 15
def dz (m:Mo):nj:=(m.ss.any λs=>decide (¬(s.fs.map Fd.nm).Nodup))||decide (¬(m.ss.map λs=>s.s.nm).Nodup)||decide (¬(m.fs.map λf=>f.c.nm).Nodup)
def bP (m:Mo):bm Ty:=(m.ss.flatMap λs=>s.fs.map Fd.ty)++(m.fs.flatMap λf=>f.ret::f.vs.map Vr.ty)
def dG:aE:=⟨#[109,97,105,110]⟩
def bf (m:Mo):bp:=
 if 30<m.ss.length\/60<m.fs.length then 2
 else if dz m=tE then 6
 else if (bP m).all m.known=tG then 5
 else if aQ (codeF m) m.fs≠0 then aQ (codeF m) m.fs
 else bM (decide (0<=m.fnIx dG)&&(match m.fs[(m.fnIx dG).toNat]? with
  |some g=>decide (g.c.par=0)&& !g.c.rp
  |none=>tG)) 9
theorem aF (b:nj)(f:bp)(w:World):zS 99 #[tU b,Z U f] w (Z U (bM b f)):=by
 cases b with
 |true=>
  go_enter func99,ntmps99;go_wp2;go_ret;exact⟨rfl,rfl⟩
 |false=>
  go_enter func99,ntmps99;go_wp2;go_ret;exact⟨rfl,rfl⟩
def jg (m:Mo)(g:Fn):da cd:=#[tP m.sA m.ss.length m.sC,tP m.fA m.fs.length m.fC,tM g.c.nm,Z U g.c.par,tP g.c.varsA g.c.nvars g.c.varsC,tU g.c.rp,tM g.c.rto,Z U g.c.rcl,tP g.c.fromA g.c.nfrom g.c.fromC,tP g.c.insA g.c.ins.length g.c.insC]
def wy (t:Ty):cd:= tW #[tU t.1,tM t.2]
theorem kr:∀(b:nj)(s:aE)(w:World),(nw 32 (tW #[tU b,tM s]) 0).run ac w= .ok (tU b) w:=λb s w=>by kernel_rfl
theorem eF {n:bx}{v:bp}:isVar n v=tE↔0<=v/\v<(n:bp):=by simp[isVar]
theorem dU {w:World}{A:eA Addr}{d:bm Vr}(D:aK Vr.cells 3 w w.heap.size A d){v:bp}(G:isVar d.length v=tE):
  ∃(k b f:bx) (x:Vr),v=(k:bp)/\k<d.length/\A=tB ⟨b,f,tD⟩/\b<w.heap.size/\az d v=(x.ptr,x.tgt)/\w.cell? ⟨b,f+k*3,tD⟩=tB (tU x.ptr)/\w.cell? ⟨b,f+k*3+1,tD⟩=tB (tM x.tgt):=by
 obtain⟨h0,h1⟩:=eF.1 G;obtain⟨k,rfl⟩:∃k:bx,v=(k:bp):=⟨v.toNat,by omega⟩
 have h:k<d.length:=by omega
 obtain⟨x,q⟩:∃x,d[k]?=tB x:=⟨_,am h⟩
 obtain⟨b,f,J,hb,u⟩:=D (by intro e;rw[e] at h;simp at h);refine⟨k,b,f,x,rfl,h,J,hb, ?_,u k x q 0 _ rfl,u k x q 1 _ rfl⟩;unfold az;rw[cP,q];rfl
theorem gN (m:Mo)(g:Fn)(v:bp)(w:World)(d:aK Vr.cells 3 w w.heap.size g.c.varsA g.vs)(f:g.c.nvars=g.vs.length)(_:g.vs.length<=dT)(h:isVar g.vs.length v=tE):
  zP 188 #[tW (jg m g),Z U v] w (wy (az g.vs v)):=by
 obtain⟨k,b,A,x,rfl,D,q,G,u,J,q1⟩:=dU d h;have uc:(k:bp)<(g.vs.length:bp):=by omega
 rw[u];unfold wy jg;rw[q,f];clear d h u q f;go_enter func188,ntmps188;go_wp2
 go_returns
 exact⟨rfl,((aq _ _).alloc (ce _) _).alloc (by simp) _⟩
theorem gP (m:Mo)(g:Fn)(v:bp)(w:World):zP 186 #[tW (jg m g),Z U v] w (tU (isVar g.c.ins.length v)):=by
 unfold jg
 by_cases h:0<=v
 ·have d:cm (decide (v<(g.c.ins.length:bp))=isVar g.c.ins.length v):=by
   unfold cm isVar;rw[ef h];rfl
  go_enter func186,ntmps186;go_wp2;go_ret;rw[<-d.out];exact⟨rfl,(aq _ _).alloc (ce _) _⟩
 ·have d:cm (tG=isVar g.c.ins.length v):=by
   unfold cm isVar;rw[cL h];rfl
  go_enter func186,ntmps186;go_wp2;go_ret;rw[<-d.out];exact⟨rfl,(aq _ _).alloc (ce _) _⟩
theorem xS (m:Mo)(g:Fn)(B:bx)(v:bp)(w:World)(f:w.heap[B]?=tB (ua (jg m g) 184 (0,0)))(u:g.c.nvars=g.vs.length):
  zS 224 #[Z U v,tR (tB ⟨B,0,tD⟩)] w (tU (!isVar g.vs.length v)):=by
 have q:w.cell? ⟨B,4,tD⟩=tB (tP g.c.varsA g.vs.length g.c.varsC):=by rw[cc _ _ _ _ _ _ f,<-u];rfl
 clear f u
 by_cases h:v<0
 ·have d:cm (tE= !isVar g.vs.length v):=by
   unfold cm isVar;rw[cL (by omega)];rfl
  go_enter func224,ntmps224;go_wp2;go_ret;rw[<-d.out];exact⟨rfl,rfl⟩
 ·have d:cm (decide ((g.vs.length:bp)<=v)= !isVar g.vs.length v):=by
   unfold cm isVar;rw[Bool.eq_iff_iff];simp;omega
  go_enter func224,ntmps224;go_wp2;go_ret;rw[<-d.out];exact⟨rfl,rfl⟩
theorem su (m:Mo)(g:Fn)(B:bx)(v:bp)(w:World)(d:w.heap[B]?=tB (ua (jg m g) 184 (0,0)))(f:aK Vr.cells 3 w w.heap.size g.c.varsA g.vs)(h:g.c.nvars=g.vs.length)(q:g.vs.length<=dT)(u:isVar g.vs.length v=tE):
  zP 225 #[Z U v,tR (tB ⟨B,0,tD⟩)] w (tU (az g.vs v).1):=by
 have A:=zH (gN m g v w f h q u);unfold wy at A;have G:=zH d;have uc:=kr;have ud:=(bj.1 d).1;clear d f u h q;go_enter func225,ntmps225
 go_wp2_with (first
  |(refine ci rfl 184 _ rfl B rfl 184 (jg m g) (0,0) _ G.out cI rfl (by kernel_rfl) ?_)
  |(go_at_call 188;refine A.out.mono ?_;rintro e w2 ⟨rfl,D⟩;have J:=zH D;clear D))
 go_ret;exact⟨rfl,J.out⟩
theorem jJ {α:Type}{p:α->nj}{xs:bm α}{j:bx}{y:α}(f:∀z∈xs.take j,p z=tG)(q:xs[j]?=tB y)(u:p y=tE):fT p xs=(j:bp):=by
 obtain⟨d,e⟩:=ap.1 q;have h:xs.findIdx p=j:=(List.findIdx_eq d).2 ⟨by rw[e];exact u,λi v=>by
  have:=f xs[i] (by rw[List.mem_take_iff_getElem];exact⟨i,by omega,rfl⟩);simpa using this⟩
 unfold fT;rw[h,cR d]
theorem gQ {α:Type}{p:α->nj}{xs:bm α}(d:∀z∈xs,p z=tG):fT p xs= -1:=by
 have h:xs.findIdx p=xs.length:=List.findIdx_eq_length.2 (by simpa using d);unfold fT;rw[h,cE (by omega)]
theorem sw {α:Type}{p:α->nj}{xs:bm α}:decide (0<=fT p xs)=xs.any p:=by
 unfold fT
 by_cases h:xs.findIdx p<xs.length
 ·rw[cR h,ef (by omega)]
  obtain⟨x,d,f⟩:=List.findIdx_lt_length.1 h;exact(kq.2 ⟨x,d,f⟩).symm
 ·rw[cE h]
  have q:=(List.findIdx_eq_length (p:=p) (xs:=xs)).1 (by have:=List.findIdx_le_length (p:=p) (xs:=xs);omega);symm;rw[cL (by omega),lz];intro x d;have:=q x d;simpa using this
theorem d9 {α:Type}{p:α->nj}{xs:bm α}{j:bx}{y:α}(d:∀z∈xs.take j,p z=tG)(f:xs[j]?=tB y)(h:p y=tG):∀z∈xs.take (j+1),p z=tG:=dE (p:=λz=>p z=tG) d f h
theorem vk (w:World)(ao:eA Addr)(xs:bm bp)(c B:bx)(p:bp->nj)(hn:xs.length<=dT)(h:aA w ao xs)
  (hf:∀W,bh w.heap.size w W->∀z∈xs,zP 224 #[Z U z,tR (tB ⟨B,0,tD⟩)] W (tU (p z))):
  zP 152 #[tP ao xs.length c,.func (.func 224) #[] #[tR (tB ⟨B,0,tD⟩)]] w (Z U (fT p xs)):=by
 have H:=zH h;have HF:=zH hf;unfold dT at hn;clear h hf;go_enter func152,ntmps152
 go_wp2_with fail
 go_loopw [8] (λk wr=>∃j:bx,j<=xs.length/\k= Z U (j:bp)/\(∀z∈xs.take j,p z=tG)/\bh w.heap.size w wr) (λk _=>xs.length-(intOf k).toNat)
 case atStart=>exact⟨0,cN _,rfl,by simp,aq _ _⟩
 case round=>
  obtain⟨j,hj,rfl,u,f⟩:=hrel
  by_cases D:j<xs.length
  ·obtain⟨y,A⟩:∃y,xs[j]?=tB y:=⟨_,am D⟩
   obtain⟨g1,ud,rfl,ur,q1⟩:=H.out.below f (by intro e;rw[e] at D;simp at D);have d1:wr.cell? ⟨g1,ud+j,tD⟩=tB (Z U y):=q1 j y A;have uv:(j:bp)<(xs.length:bp):=by omega
   have G:=zH (HF.out wr f y (cf A));obtain⟨d,J⟩:=zE (p y);rw[J] at G;have q:=zH f;have HZ:=zH u;have HY:=zH A;have HD:=zH J;clear f u A J q1;cases d with
   |true=>
    go_wp2_with (go_at_call 224;refine G.out.mono ?_;rintro e w2 ⟨rfl,v⟩;have uc:=zH v;clear v)
    go_ret;exact⟨by rw[jJ HZ.out HY.out HD.out];rfl,q.out.trans (uc.out.mono q.out.size)⟩
   |false=>
    go_wp2_with (go_at_call 224;refine G.out.mono ?_;rintro e w2 ⟨rfl,v⟩;have uc:=zH v;clear v)
    go_roundw
    case rel=>exact⟨j+1,by omega,by go_num,d9 HZ.out HY.out HD.out,q.out.trans (uc.out.mono q.out.size)⟩
    case measure=>simp[intOf];omega
  ·have ue:j=xs.length:=by omega
   subst ue;rw[de] at u;have HM:=zH (gQ u);have q:=zH f;clear u f;go_wp2;go_ret;exact⟨by rw[HM.out];rfl,q.out⟩
theorem xU (w:World)(ao:eA Addr)(xs:bm bp)(c B:bx)(p:bp->nj)(hn:xs.length<=dT)(h:aA w ao xs)
  (hf:∀W,bh w.heap.size w W->∀z∈xs,zP 225 #[Z U z,tR (tB ⟨B,0,tD⟩)] W (tU (p z))):
  zP 152 #[tP ao xs.length c,.func (.func 225) #[] #[tR (tB ⟨B,0,tD⟩)]] w (Z U (fT p xs)):=by
 have H:=zH h;have HF:=zH hf;unfold dT at hn;clear h hf;go_enter func152,ntmps152
 go_wp2_with fail
 go_loopw [8] (λk wr=>∃j:bx,j<=xs.length/\k= Z U (j:bp)/\(∀z∈xs.take j,p z=tG)/\bh w.heap.size w wr) (λk _=>xs.length-(intOf k).toNat)
 case atStart=>exact⟨0,cN _,rfl,by simp,aq _ _⟩
 case round=>
  obtain⟨j,hj,rfl,u,f⟩:=hrel
  by_cases D:j<xs.length
  ·obtain⟨y,A⟩:∃y,xs[j]?=tB y:=⟨_,am D⟩
   obtain⟨g1,ud,rfl,ur,q1⟩:=H.out.below f (by intro e;rw[e] at D;simp at D);have d1:wr.cell? ⟨g1,ud+j,tD⟩=tB (Z U y):=q1 j y A;have uv:(j:bp)<(xs.length:bp):=by omega
   have G:=zH (HF.out wr f y (cf A));obtain⟨d,J⟩:=zE (p y);rw[J] at G;have q:=zH f;have HZ:=zH u;have HY:=zH A;have HD:=zH J;clear f u A J q1;cases d with
   |true=>
    go_wp2_with (go_at_call 225;refine G.out.mono ?_;rintro e w2 ⟨rfl,v⟩;have uc:=zH v;clear v)
    go_ret;exact⟨by rw[jJ HZ.out HY.out HD.out];rfl,q.out.trans (uc.out.mono q.out.size)⟩
   |false=>
    go_wp2_with (go_at_call 225;refine G.out.mono ?_;rintro e w2 ⟨rfl,v⟩;have uc:=zH v;clear v)
    go_roundw
    case rel=>exact⟨j+1,by omega,by go_num,d9 HZ.out HY.out HD.out,q.out.trans (uc.out.mono q.out.size)⟩
    case measure=>simp[intOf];omega
  ·have ue:j=xs.length:=by omega
   subst ue;rw[de] at u;have HM:=zH (gQ u);have q:=zH f;clear u f;go_wp2;go_ret;exact⟨by rw[HM.out];rfl,q.out⟩
theorem zu (xs:bm bp)(p:bp->nj):(!(xs.any p))=xs.all λv=> !p v:=by
 induction xs with
 |nil=>rfl
 |cons x r ih=>simp[Bool.not_or,ih]
theorem zw {xs:bm bp}{p:bp->nj}:(xs.any λv=> !p v)= !xs.all p:=by
 induction xs with
 |nil=>rfl
 |cons x r ih=>simp[ih,Bool.not_and]
theorem qJ (m:Mo)(g:Fn)(u:eA Addr)(xs:bm bp)(c:bx)(w:World)(hn:g.c.nvars=g.vs.length)(hl:xs.length<=dT)(h:aA w u xs):
  zP 184 #[tW (jg m g),tP u xs.length c] w (tU (aJ g.vs.length xs)):=by
 obtain⟨N,A⟩:=zE w.heap.size;have D:cm (zP 116 #[tP u xs.length c,.func (.func 224) #[] #[tR (tB ⟨N,0,tD⟩)]] (w.alloc (ua (jg m g) 184)) (tU (!aJ g.vs.length xs))):=by
  have G:=zH (vk (w.alloc (ua (jg m g) 184)) u xs c N (λv=> !isVar g.vs.length v) hl (h.below ((aq _ _).alloc (ce _) _)) (λW hW z _=>by
   have hB:W.heap[N]?=tB (ua (jg m g) 184 (0,0)):=by
    rw[hW.block N (by simp[A]),<-A];exact alloc_at _ _
   refine(xS m g N z W hB hn).mono ?_;rintro e w' ⟨rfl,rfl⟩;exact⟨rfl,aq _ _⟩))
  have HE:cm (decide (0<=fT (λv=> !isVar g.vs.length v) xs)= !aJ g.vs.length xs):=by
   unfold cm aJ;rw[sw,zw]
  obtain⟨W1,f⟩:=zE (w.alloc (ua (jg m g) 184));rw[f] at G⊢;obtain⟨z,hz⟩:=zE (fT (λv=> !isVar g.vs.length v) xs);rw[hz] at G HE;clear f h hz;go_enter func116,ntmps116
  go_wp2_with (go_at_call 152;refine G.out.mono ?_;rintro e w2 ⟨rfl,q⟩;have uc:=zH q;clear q)
  go_ret;rw[<-HE.out];exact⟨rfl,uc.out⟩
 clear h hn;obtain⟨W1,f⟩:=zE (w.alloc (ua (jg m g) 184));have ue:=zH f;have ud:cm (bh N w W1):=by rw[<-f,<-A];exact(aq _ _).alloc (ce _) _
 rw[f] at D;obtain⟨J,hJ⟩:=zE (jg m g);rw[hJ] at f⊢;clear hJ ue;obtain⟨d,hd⟩:=zE (aJ g.vs.length xs);rw[hd] at D⊢;clear hd;go_enter func184,ntmps184
 go_wp2_with (go_at_call 116;refine D.out.mono ?_;rintro e w2 ⟨rfl,q⟩;have uc:=zH q;clear q)
 go_ret;exact⟨by cases d<;>rfl,by rw[A];exact ud.out.trans (uc.out.mono (by have:=ud.out.size;omega))⟩
theorem dA (m:Mo)(g:Fn)(D:eA Addr)(xs:bm bp)(c:bx)(w:World)(hr:aK Vr.cells 3 w w.heap.size g.c.varsA g.vs)(hn:g.c.nvars=g.vs.length)(ux:g.vs.length<=dT)(hl:xs.length<=dT)(h:aA w D xs)(hx:∀z∈xs,isVar g.vs.length z=tE):
  zP 187 #[tW (jg m g),tP D xs.length c] w (Z U (dX g.vs xs)):=by
 obtain⟨N,G⟩:=zE w.heap.size;have uc:cm (zP 116 #[tP D xs.length c,.func (.func 225) #[] #[tR (tB ⟨N,0,tD⟩)]] (w.alloc (ua (jg m g) 184)) (tU (xs.any λv=>(az g.vs v).1))):=by
  have ud:bh w.heap.size w (w.alloc (ua (jg m g) 184)):=(aq _ _).alloc (ce _) _;have ue:=zH (xU (w.alloc (ua (jg m g) 184)) D xs c N (λv=>(az g.vs v).1) hl (h.below ud) (λW hW z hz=>by
   have hB:W.heap[N]?=tB (ua (jg m g) 184 (0,0)):=by
    rw[hW.block N (by simp[G]),<-G];exact alloc_at _ _
   exact su m g N z W hB ((hr.grow ud).grow hW) hn ux (hx z hz)))
  have f:cm (decide (0<=fT (λv=>(az g.vs v).1) xs)=(xs.any λv=>(az g.vs v).1)):=sw;obtain⟨W1,q⟩:=zE (w.alloc (ua (jg m g) 184));rw[q] at ue⊢;obtain⟨z,hz⟩:=zE (fT (λv=>(az g.vs v).1) xs);rw[hz] at ue f;obtain⟨d,u⟩:=zE (xs.any λv=>(az g.vs v).1);rw[u] at f⊢;clear q h hz ud u hr hx;go_enter func116,ntmps116
  go_wp2_with (go_at_call 152;refine ue.out.mono ?_;rintro e w2 ⟨rfl,A⟩;have ur:=zH A;clear A)
  go_ret;rw[<-f.out];exact⟨rfl,ur.out⟩
 clear h hn hr hx;have f:cm (bM (!(xs.any λv=>(az g.vs v).1)) 7=dX g.vs xs):=by
  unfold cm dX;congr 1;exact zu xs _
 obtain⟨W1,q⟩:=zE (w.alloc (ua (jg m g) 184));have uv:cm (bh N w W1):=by rw[<-q,<-G];exact(aq _ _).alloc (ce _) _
 rw[q] at uc;obtain⟨J,hJ⟩:=zE (jg m g);rw[hJ] at q⊢;clear hJ;obtain⟨d,u⟩:=zE (xs.any λv=>(az g.vs v).1);rw[u] at uc f;clear u;go_enter func187,ntmps187
 go_wp2_with (first
  |(go_at_call 116;refine uc.out.mono ?_;rintro e w2 ⟨rfl,A⟩;have ur:=zH A;clear A)
  |(go_at_call 99;refine(aF _ _ _).mono ?_;rintro e w3 ⟨rfl,rfl⟩))
 go_ret;exact⟨by rw[<-f.out];cases d<;>rfl,by rw[G];exact uv.out.trans (ur.out.mono (by have:=uv.out.size;omega))⟩
def aR (w:World)(f:eA Addr)(xs:bm aE):Prop:=
 xs≠[]->∃g d,f=tB ⟨g,d,tD⟩/\g<w.heap.size/\∀i z,xs[i]?=tB z->w.cell? ⟨g,d+i,tD⟩=tB (tM z)
theorem aR.below {w w':World}{d:eA Addr}{xs:bm aE}(h:aR w d xs)(f:bh w.heap.size w w'):aR w' d xs:=by
 intro u;obtain⟨g,v,e,q,A⟩:=h u;exact⟨g,v,e,bl q f.size,λi z D=>by rw[f.cell (p:=⟨g,_,tD⟩) q];exact A i z D⟩
theorem sD (w:World)(c:bx)(A:eA Addr)(xs:bm aE)(z:aE)(hn:xs.length<=dT)(h:aR w A xs):
  zS 270 #[tP A xs.length c,tM z] w (Z U (fT (λx=>z==x) xs)):=by
 have H:=zH h;unfold dT at hn;clear h;go_enter func270,ntmps270
 go_wp2_with fail
 go_loop [8] (λk=>∃j:bx,j<=xs.length/\k= Z U (j:bp)/\∀x∈xs.take j,(z==x)=tG) (λk=>xs.length-(intOf k).toNat)
 case atStart=>exact⟨0,cN _,rfl,by simp⟩
 case round=>
  obtain⟨j,hj,rfl,f⟩:=hrel
  by_cases q:j<xs.length
  ·obtain⟨y,u⟩:∃y,xs[j]?=tB y:=⟨_,am q⟩
   obtain⟨g1,uc,rfl,ue,D⟩:=H.out (by intro e;rw[e] at q;simp at q);have d1:w.cell? ⟨g1,uc+j,tD⟩=tB (tM y):=D j y u;have ur:(j:bp)<(xs.length:bp):=by omega
   obtain⟨d,v⟩:=zE (z==y);have hd:(z.toList==y.toList)=d:=by rw[<-fY];exact v
   have G:=zH f;have J:=zH u;have HD:=zH v;clear u D f v;cases d with
   |true=>
    go_wp2;go_ret;exact⟨by rw[jJ G.out J.out HD.out];rfl,rfl⟩
   |false=>
    go_wp2
    go_round
    case rel=>exact⟨j+1,by omega,by go_num,d9 (p:=λx=>z==x) G.out J.out HD.out⟩
    case measure=>simp[intOf];omega
  ·have ud:j=xs.length:=by omega
   subst ud;rw[de] at f;have HM:=zH (gQ (p:=λx=>z==x) f);clear f;go_wp2;go_ret;exact⟨by rw[HM.out];rfl,rfl⟩
theorem oI (f:bp)(s:aE)(xs:bm aE)(u:eA Addr)(c:bx)(w:World)(hn:xs.length<=dT)(h:aR w u xs):
  zS 226 #[Z U f,tM s,tP u xs.length c] w (Z U (eO f s xs)):=by
 by_cases v:f=0
 ·subst v
  have A:cm (zS 252 #[tP u xs.length c,tM s] w (tU (xs.any λx=>x==s))):=by
   have D:=zH (sD w c u xs s hn h);have q:cm (decide (0<=fT (λx=>s==x) xs)=(xs.any λx=>x==s)):=by
    unfold cm;rw[sw];congr 1;funext x;exact BEq.comm
   obtain⟨z,G⟩:=zE (fT (λx=>s==x) xs);rw[G] at D q;clear h G;go_enter func252,ntmps252
   go_wp2_with (go_at_call 270;refine D.out.mono ?_;rintro e w2 ⟨rfl,rfl⟩)
   go_ret;rw[<-q.out];exact⟨rfl,rfl⟩
  have q:cm (bM (xs.any λx=>x==s) 3=eO 0 s xs):=rfl;obtain⟨d,J⟩:=zE (xs.any λx=>x==s);rw[J] at A q;clear h J;go_enter func226,ntmps226
  go_wp2_with (first
   |(go_at_call 252;refine A.out.mono ?_;rintro e w2 ⟨rfl,rfl⟩)
   |(go_at_call 99;refine(aF _ _ _).mono ?_;rintro e w3 ⟨rfl,rfl⟩))
  go_ret;exact⟨by rw[<-q.out];rfl,rfl⟩
 ·have q:cm (eO f s xs=f):=cR v
  have hb:(f==0)=tG:=by rw[dp];exact v
  clear v h;go_enter func226,ntmps226;go_wp2;go_ret;exact⟨by rw[q.out];rfl,rfl⟩
theorem zx (f:Fn)(B:bx)(nm:aE)(w:World)(d:w.heap[B]?=tB (ua #[tM nm] 9 (0,0))):
  zP 138 #[tW f.cells,tR (tB ⟨B,0,tD⟩)] w (tU (f.c.nm==nm)):=by
 have q:=zR d 0 (tM nm);have u:=(bj.1 d).1;have h:cm ((f.c.nm.toList==nm.toList)=(f.c.nm==nm)):=(fY _ _).symm;simp only[Fn.cells,qp.cells];clear d;go_enter func138,ntmps138;go_wp2;go_ret;rw[<-h.out];exact⟨rfl,(aq _ _).alloc (ce _) _⟩
theorem Bq (w:World)(ao:eA Addr)(xs:bm Fn)(c B:bx)(nm:aE)(hn:xs.length<=dT)(h:aK Fn.cells 8 w w.heap.size ao xs)(hB:w.heap[B]?=tB (ua #[tM nm] 9 (0,0))):
  zP 137 #[tP ao xs.length c,.func (.func 138) #[] #[tR (tB ⟨B,0,tD⟩)]] w (Z U (fT (λf=>f.c.nm==nm) xs)):=by
 have H:=zH h;have uv:=zH hB;unfold dT at hn;have ux:=(bj.1 hB).1;clear h hB;go_enter func137,ntmps137
 go_wp2_with fail
 go_loopw [8] (λk wr=>∃j:bx,j<=xs.length/\k= Z U (j:bp)/\(∀f∈xs.take j,(f.c.nm==nm)=tG)/\bh w.heap.size w wr) (λk _=>xs.length-(intOf k).toNat)
 case atStart=>exact⟨0,cN _,rfl,by simp,aq _ _⟩
 case round=>
  obtain⟨j,hj,rfl,A,q⟩:=hrel
  by_cases ud:j<xs.length
  ·obtain⟨f,G⟩:∃y,xs[j]?=tB y:=⟨_,am ud⟩
   obtain⟨J,uc,rfl,vc,q1⟩:=(H.out.grow q) (by intro e;rw[e] at ud;simp at ud)
   have ur:cm (∀k u,f.cells.toList[k]?=tB u->wr.cell? ((⟨J,uc+j*8,tD⟩:Addr).add k)=tB u):=λk u hu=>by rw[dc];exact q1 j f G k u hu
   have d0:wr.cell? ⟨J,uc+j*8,tD⟩=tB (tM f.c.nm):=q1 j f G 0 _ rfl;have vd:(j:bp)<(xs.length:bp):=by omega
   have HC:=zH (zx f B nm wr ((q.block B ux).trans uv.out));obtain⟨d,hd⟩:=zE (f.c.nm==nm);rw[hd] at HC;have v:=zH q;have HZ:=zH A;have HY:=zH G;have HD:=zH hd;clear q A G hd q1;cases d with
   |true=>
    go_wp2_with (first
     |(refine aG rfl 38 _ rfl ⟨J,uc+j*8,tD⟩ rfl f.cells _ ur.out cQ rfl (by kernel_rfl) ?_)
     |(go_at_call 138;refine HC.out.mono ?_;rintro e w2 ⟨rfl,D⟩;have ue:=zH D;clear D))
    go_ret;exact⟨by rw[jJ (p:=λf:Fn=>f.c.nm==nm) HZ.out HY.out HD.out];rfl,v.out.trans (ue.out.mono v.out.size)⟩
   |false=>
    go_wp2_with (first
     |(refine aG rfl 38 _ rfl ⟨J,uc+j*8,tD⟩ rfl f.cells _ ur.out cQ rfl (by kernel_rfl) ?_)
     |(go_at_call 138;refine HC.out.mono ?_;rintro e w2 ⟨rfl,D⟩;have ue:=zH D;clear D))
    go_roundw
    case rel=>exact⟨j+1,by omega,by go_num,d9 (p:=λf:Fn=>f.c.nm==nm) HZ.out HY.out HD.out,v.out.trans (ue.out.mono v.out.size)⟩
    case measure=>simp[intOf];omega
  ·have va:j=xs.length:=by omega
   subst va;rw[de] at A;have HM:=zH (gQ (p:=λf:Fn=>f.c.nm==nm) A);have v:=zH q;clear A q;go_wp2;go_ret;exact⟨by rw[HM.out];rfl,v.out⟩
theorem zy (m:Mo)(nm:aE)(w:World)(u:m.fs.length<=dT)(h:aK Fn.cells 8 w w.heap.size m.fA m.fs):
  zP 98 #[tW m.cells,tM nm] w (Z U (m.fnIx nm)):=by
 obtain⟨N,d⟩:=zE w.heap.size;have f:cm (gd ac 137 #[tP m.fA m.fs.length m.fC,.func (.func 138) #[] #[tR (tB ⟨N+1,0,tD⟩)]] ((w.alloc (ua m.cells 25)).alloc (ua #[tM nm] 9)) λe w'=>e= ub (Z U (m.fnIx nm))/\bh N w w'):=by
  have q:bh w.heap.size w ((w.alloc (ua m.cells 25)).alloc (ua #[tM nm] 9)):=((aq _ _).alloc (ce _) _).alloc (by simp) _;refine(Bq _ m.fA m.fs m.fC (N+1) nm u (h.grow q) (by subst d;exact lx _ _ _)).mono ?_;rintro e w' ⟨rfl,D⟩;exact⟨rfl,by rw[<-d];exact q.trans (D.mono q.size)⟩
 simp only[Mo.cells] at f⊢;clear h u;obtain⟨z,v⟩:=zE (m.fnIx nm);rw[v] at f⊢;clear v;go_enter func98,ntmps98
 go_wp2_with (go_at_call 137;(first|refine f.out.mono ?_|(rw[d];refine f.out.mono ?_));rintro e w2 ⟨rfl,A⟩;have G:=zH A;clear A)
 go_ret;exact⟨rfl,by rw[d];exact G.out⟩
theorem vw (f:St)(B:bx)(nm:aE)(w:World)(d:w.heap[B]?=tB (ua #[tM nm] 9 (0,0))):
  zP 182 #[tW f.cells,tR (tB ⟨B,0,tD⟩)] w (tU (f.s.nm==nm)):=by
 have q:=zR d 0 (tM nm);have u:=(bj.1 d).1;have h:cm ((f.s.nm.toList==nm.toList)=(f.s.nm==nm)):=(fY _ _).symm;simp only[St.cells,DZ.cells];clear d;go_enter func182,ntmps182;go_wp2;go_ret;rw[<-h.out];exact⟨rfl,(aq _ _).alloc (ce _) _⟩
theorem Br (w:World)(ao:eA Addr)(xs:bm St)(c B:bx)(nm:aE)(hn:xs.length<=dT)(h:aK St.cells 4 w w.heap.size ao xs)(hB:w.heap[B]?=tB (ua #[tM nm] 9 (0,0))):
  zP 181 #[tP ao xs.length c,.func (.func 182) #[] #[tR (tB ⟨B,0,tD⟩)]] w (Z U (fT (λf=>f.s.nm==nm) xs)):=by
 have H:=zH h;have uv:=zH hB;unfold dT at hn;have ux:=(bj.1 hB).1;clear h hB;go_enter func181,ntmps181
 go_wp2_with fail
 go_loopw [8] (λk wr=>∃j:bx,j<=xs.length/\k= Z U (j:bp)/\(∀f∈xs.take j,(f.s.nm==nm)=tG)/\bh w.heap.size w wr) (λk _=>xs.length-(intOf k).toNat)
 case atStart=>exact⟨0,cN _,rfl,by simp,aq _ _⟩
 case round=>
  obtain⟨j,hj,rfl,A,q⟩:=hrel
  by_cases ud:j<xs.length
  ·obtain⟨f,G⟩:∃y,xs[j]?=tB y:=⟨_,am ud⟩
   obtain⟨J,uc,rfl,vc,q1⟩:=(H.out.grow q) (by intro e;rw[e] at ud;simp at ud)
   have ur:cm (∀k u,f.cells.toList[k]?=tB u->wr.cell? ((⟨J,uc+j*4,tD⟩:Addr).add k)=tB u):=λk u hu=>by rw[dc];exact q1 j f G k u hu
   have d0:wr.cell? ⟨J,uc+j*4,tD⟩=tB (tM f.s.nm):=q1 j f G 0 _ rfl;have vd:(j:bp)<(xs.length:bp):=by omega
   have HC:=zH (vw f B nm wr ((q.block B ux).trans uv.out));obtain⟨d,hd⟩:=zE (f.s.nm==nm);rw[hd] at HC;have v:=zH q;have HZ:=zH A;have HY:=zH G;have HD:=zH hd;clear q A G hd q1;cases d with
   |true=>
    go_wp2_with (first
     |(refine aG rfl 90 _ rfl ⟨J,uc+j*4,tD⟩ rfl f.cells _ ur.out ot rfl (by kernel_rfl) ?_)
     |(go_at_call 182;refine HC.out.mono ?_;rintro e w2 ⟨rfl,D⟩;have ue:=zH D;clear D))
    go_ret;exact⟨by rw[jJ (p:=λf:St=>f.s.nm==nm) HZ.out HY.out HD.out];rfl,v.out.trans (ue.out.mono v.out.size)⟩
   |false=>
    go_wp2_with (first
     |(refine aG rfl 90 _ rfl ⟨J,uc+j*4,tD⟩ rfl f.cells _ ur.out ot rfl (by kernel_rfl) ?_)
     |(go_at_call 182;refine HC.out.mono ?_;rintro e w2 ⟨rfl,D⟩;have ue:=zH D;clear D))
    go_roundw
    case rel=>exact⟨j+1,by omega,by go_num,d9 (p:=λf:St=>f.s.nm==nm) HZ.out HY.out HD.out,v.out.trans (ue.out.mono v.out.size)⟩
    case measure=>simp[intOf];omega
  ·have va:j=xs.length:=by omega
   subst va;rw[de] at A;have HM:=zH (gQ (p:=λf:St=>f.s.nm==nm) A);have v:=zH q;clear A q;go_wp2;go_ret;exact⟨by rw[HM.out];rfl,v.out⟩
theorem nD (m:Mo)(nm:aE)(w:World)(u:m.ss.length<=dT)(h:aK St.cells 4 w w.heap.size m.sA m.ss):
  zP 135 #[tW m.cells,tM nm] w (Z U (m.stIx nm)):=by
 obtain⟨N,d⟩:=zE w.heap.size;have f:cm (gd ac 181 #[tP m.sA m.ss.length m.sC,.func (.func 182) #[] #[tR (tB ⟨N+1,0,tD⟩)]] ((w.alloc (ua m.cells 25)).alloc (ua #[tM nm] 9)) λe w'=>e= ub (Z U (m.stIx nm))/\bh N w w'):=by
  have q:bh w.heap.size w ((w.alloc (ua m.cells 25)).alloc (ua #[tM nm] 9)):=((aq _ _).alloc (ce _) _).alloc (by simp) _;refine(Br _ m.sA m.ss m.sC (N+1) nm u (h.grow q) (by subst d;exact lx _ _ _)).mono ?_;rintro e w' ⟨rfl,D⟩;exact⟨rfl,by rw[<-d];exact q.trans (D.mono q.size)⟩
 simp only[Mo.cells] at f⊢;clear h u;obtain⟨z,v⟩:=zE (m.stIx nm);rw[v] at f⊢;clear v;go_enter func135,ntmps135
 go_wp2_with (go_at_call 181;(first|refine f.out.mono ?_|(rw[d];refine f.out.mono ?_));rintro e w2 ⟨rfl,A⟩;have G:=zH A;clear A)
 go_ret;exact⟨rfl,by rw[d];exact G.out⟩
structure oJ (w:World)(m:Mo)(g:Fn):Prop where
 mo:m.inn w
 vars:aK Vr.cells 3 w w.heap.size g.c.varsA g.vs
 nv:g.c.nvars=g.vs.length
 vl:g.vs.length<=dT
theorem oJ.below {w w':World}{m:Mo}{g:Fn}(h:oJ w m g)(d:bh w.heap.size w w'):oJ w' m g:=⟨h.mo.below d,h.vars.grow d,h.nv,h.vl⟩
theorem Bt {w:World}{m:Mo}{g:Fn}(h:m.inn w)(d:g.inn w):oJ w m g:=⟨h,d.vars,d.nvars,by have:=d.code.nvars;rw[d.nvars] at this;exact this⟩
theorem nR {α:Type}(p:α->nj)(l:bm α):fT p l= -1\/∃(k:bx) (x:α),fT p l=(k:bp)/\l[k]?=tB x/\p x=tE:=by
 unfold fT
 by_cases h:l.findIdx p<l.length
 ·rw[cR h]
  exact .inr ⟨_,l[l.findIdx p],rfl,am h,List.findIdx_getElem⟩
 ·rw[cE h];exact .inl rfl
theorem zz {m:Mo}{t:Ty}(h:m.known t=tE)(d:t.1=tE):∃(k:bx) (s:St),m.stIx t.2=(k:bp)/\m.ss[k]?=tB s:=by
 unfold Mo.known at h;rw[cR d] at h;have h0:=qe h;rcases nR (λs:St=>s.s.nm==t.2) m.ss with e|⟨k,s,e,f,_⟩
 ·unfold Mo.stIx at h0;omega
 ·exact⟨k,s,e,f⟩
theorem zA (m:Mo)(g:Fn)(b:nj)(s:aE)(w:World)(h:m.inn w):
  zP 96 #[tW (jg m g),tW #[tU b,tM s]] w (tU (m.known (b,s))):=by
 have d:cm (∀W,bh w.heap.size w W->zP 135 #[tW m.cells,tM s] W (Z U (m.stIx s))):=
  λW v=>nD m s W h.ns (h.below v).srow
 clear h;simp only[Mo.cells] at d;unfold jg;cases b with
 |false=>
  have f:cm (s.toList.isEmpty=m.known (tG,s)):=by
   unfold cm Mo.known;rw[cE (by simp)]
   show s.toList.isEmpty=(s==lp)
   rw[fY];have e:lp.toList=[]:=by rw[pi];rfl
   rw[e];cases s.toList<;>rfl
  clear d;go_enter func96,ntmps96;go_wp2;go_ret;rw[<-f.out];exact⟨rfl,((aq _ _).alloc (ce _) _).alloc (by simp) _⟩
 |true=>
  have f:cm (decide (0<=m.stIx s)=m.known (tE,s)):=rfl;obtain⟨z,q⟩:=zE (m.stIx s);rw[q] at f d;clear q;go_enter func96,ntmps96
  go_wp2_with (go_at_call 135;refine(d.out _ (((aq _ _).alloc (ce _) _).alloc (by simp) _)).mono ?_;rintro e w2 ⟨rfl,u⟩;have A:=zH ((((aq w.heap.size w).alloc (ce _) _).alloc (by simp) _).trans (u.mono (by simp;omega)));clear u)
  go_ret;rw[<-f.out];exact⟨rfl,A.out⟩
theorem aO {fn:Func}{p u:Tmp}{d:gx}(h:fn.results=#[.cell p d,.tmp u])(tmps:da cd)(w:World)(g:bx)(t:gx)(f:da cd)(q:bx×bx)(v:da Field)
  (A:tmps.getD p undef= tR (tB ⟨g,0,tD⟩))(D:w.heap[g]?=tB (ua f t q))
  (G:ac.underlying d=tB (.struct v))(J:(ac.info? d).map (·.size)=tB f.size):
  (tz fn tmps).run ac w= .ok (.tuple #[tW f,tmps.getD u undef]) w:=by
 rw[results_cell_tmp h,A];have e:=oe w g t d f q _ D G rfl J;simp only[asAddr,Sem.run_pure,mA,e]
theorem ek {W:World}{b:bx}{x y u v:cd}{t:gx}(h:W.heap[b]?=tB (ua #[x,y] t (0,0))):((W.setCell ⟨b,0,tD⟩ u).setCell ⟨b,1,tD⟩ v).heap[b]?=tB (ua #[u,v] t (0,0)):=by
 have d:=bk W b 0 _ _ u h;have f:=bk _ b 1 _ _ v d;simpa using f
theorem zB (m:Mo)(g:Fn)(v f:bp)(w:World)(h:oJ w m g)(hv:isVar g.vs.length v=tE)(hk:m.known (az g.vs v)=tE):
  zP 253 #[tW (jg m g),Z U v,Z U f] w (.tuple #[wy (aI m g.vs v f).1,Z U (aI m g.vs v f).2]):=by
 have HT:cm (∀W,bh w.heap.size w W->zP 188 #[tW (jg m g),Z U v] W (wy (az g.vs v))):=λW u=>gN m g v W (h.below u).vars h.nv h.vl hv;have HS:cm (∀W s,bh w.heap.size w W->zP 135 #[tW m.cells,tM s] W (Z U (m.stIx s))):=
  λW s u=>nD m s W h.mo.ns (h.mo.below u).srow
 simp only[Mo.cells] at HS;have HF:cm (aI m g.vs v f=(if (az g.vs v).1=tG then(bI,7) else match m.ss[(m.stIx (az g.vs v).2).toNat]? with
  |none=>(bI,15)
  |some s=>if f<0 then(bI,15) else match s.fs[f.toNat]? with
   |none=>(bI,15)
   |some x=>(x.ty,0):Ty×bp)):=rfl
 have HJ:=zH h;have HK:=zH hk;obtain⟨⟨b,s⟩,ht⟩:∃t,az g.vs v=t:=⟨_,rfl⟩
 rw[ht] at HF HT HK;obtain⟨F,hF⟩:=zE (aI m g.vs v f);rw[hF] at HF⊢;unfold wy at HT;clear h hv hk ht hF;have hst:∀(w:World)(c:da cd),c.size=2->(dr ⟨w.heap.size,0,tD⟩ [tU b,tM s] 0).run ac (w.alloc (ua c 32))= .ok () (w.alloc (ua #[tU b,tM s] 32)):=λw c hc=>
  ct (P:=ac) w 32 c #[tU b,tM s] (by show _=tB 2;kernel_rfl) hc (by simp[cj])
 obtain⟨N,hN⟩:=zE w.heap.size;obtain⟨W1,ud⟩:=zE ((w.alloc (ua (jg m g) 184)).alloc (ua #[tU tG,tM ⟨#[]⟩] 32));have vd:=uF ud hN;have we:W1.heap.size=N+2:=by rw[<-ud];simp[hN]
 have wg:=yP ud hN;have wi:=AO ud hN;have wj:=zH vd;have vm:=zH wg;have wk:=zH wi;have D:=zH hN;have ue:=zH we;clear vd wg wi we;go_enter func253,ntmps253
 go_upto_region 2 with(first
  |(refine ci rfl 184 _ rfl N rfl 184 (jg m g) (0,0) _ vm.out cI rfl (by kernel_rfl) ?_)
  |(go_at_call 188;refine(HT.out _ (by rw[D.out];exact wj.out)).mono ?_;rintro e w2 ⟨rfl,wl⟩;have vp:=zH wl;clear wl))
 obtain⟨T,hT⟩:=zE w2.heap.size;obtain⟨d,ur⟩:=zE (w2.alloc (ua #[tU b,tM s] 32));rw[hT,ur];have vf:=zD ur vp;have yb:N+2<=T:=by rw[<-hT,<-ue.out];exact vp.out.size
 have yd:d.heap.size=T+1:=by rw[<-ur,<-hT];simp
 have ws:d.heap[N]?=tB (ua (jg m g) 184 (0,0)):=(vf.block N (by have:=ue.out;omega)).trans vm.out;have vq:d.heap[N+1]?=tB (ua #[tU tG,tM ⟨#[]⟩] 32 (0,0)):=(vf.block (N+1) (by have:=ue.out;omega)).trans wk.out;have wx:d.heap[T]?=tB (ua #[tU b,tM s] 32 (0,0)):=by rw[<-ur,<-hT];exact alloc_at _ _
 have vh:cm (bh N w d):=wj.out.trans (vf.mono (by have:=ue.out;omega));have uv:cm (∀W,bh d.heap.size d W->W.cell? ⟨N,0,tD⟩=tB (tP m.sA m.ss.length m.sC)/\W.cell? ⟨N,1,tD⟩=tB (tP m.fA m.fs.length m.fC)/\W.cell? ⟨T,0,tD⟩=tB (tU b)/\W.cell? ⟨T,1,tD⟩=tB (tM s)/\
   W.cell? ⟨N+1,0,tD⟩=tB (tU tG)/\W.cell? ⟨N+1,1,tD⟩=tB (tM ⟨#[]⟩)/\W.frozen? ⟨N+1,0,tD⟩=tG/\W.frozen? ⟨N+1,1,tD⟩=tG/\N+1<W.heap.size):=by
  intro W u;have q3:=(u.block N (by omega)).trans ws;have q4:=(u.block (N+1) (by omega)).trans vq;have q5:=(u.block T (by omega)).trans wx;refine⟨?_, ?_, ?_, ?_, ?_, ?_, ?_, ?_,(bj.1 q4).1⟩
  ·rw[cc _ _ _ _ _ _ q3];rfl
  ·rw[cc _ _ _ _ _ _ q3];rfl
  ·rw[cc _ _ _ _ _ _ q5];rfl
  ·rw[cc _ _ _ _ _ _ q5];rfl
  ·rw[cc _ _ _ _ _ _ q4];rfl
  ·rw[cc _ _ _ _ _ _ q4];rfl
  ·exact eq _ _ _ _ _ q4
  ·exact eq _ _ _ _ _ q4
 have vr:cm (∀W,bh d.heap.size d W->W.heap[N+1]?=tB (ua #[tU tG,tM ⟨#[]⟩] 32 (0,0))):=λW u=>(u.block (N+1) (by omega)).trans vq;obtain⟨k0,k1,k2,k3,k4,k5,k6,k7,ye⟩:=uv.out d (aq _ _);clear hst ud ur vf ws vq wx vm wk HT hT vp hN ue;cases b with
 |false=>
  have G:cm (F=(bI,7)):=by rw[HF.out];rfl
  clear HF;go_wp2;(try simp only[db,Exit.then]);refine dv (aO rfl _ _ (N+1) 32 _ (0,0) _ rfl (ek (vr.out d (aq _ _))) ey (by kernel_rfl)) rfl ?_;rw[G.out,D.out];exact⟨rfl,(vh.out.setCell (by show N<=N+1;omega) _).setCell (by show N<=N+1;omega) _⟩
 |true=>
  obtain⟨k,st,vu,A⟩:=zz HK.out rfl;obtain⟨b0,vi,hA,xt,xf⟩:=HJ.out.mo.srow (by intro e;rw[e] at A;simp at A);have yi:=(ap.1 A).1;have yk:(k:bp)<(m.ss.length:bp):=by omega
  have xF:b0<N:=by have:=D.out;omega
  have hD:∀W,bh d.heap.size d W->W.cell? ⟨b0,vi+k*4+1,tD⟩=tB (tP st.s.fA st.fs.length st.s.fC):=λW u=>by
   rw[(vh.out.trans (u.mono (by omega))).cell (p:=⟨b0,_,tD⟩) xF];have:=xf k st A 1 _ rfl;rw[(HJ.out.mo.sin st (cf A)).nf] at this;exact this
  have HD:=zH hD;have hd:=hD d (aq _ _);have xj:cm (∀W,bh d.heap.size d W->zP 135 #[tW #[tP (tB ⟨b0,vi,tD⟩) m.ss.length m.sC,tP m.fA m.fs.length m.fC],tM s] W (Z U (k:bp))):=by
   intro W u;have:=HS.out W s (by rw[D.out];exact vh.out.trans (u.mono (by omega)));rw[vu,hA] at this;exact this
  have J:cm (F=(if f<0 then(bI,15) else match st.fs[f.toNat]? with
   |none=>(bI,15)
   |some x=>(x.ty,0):Ty×bp)):=by
   unfold cm;rw[HF.out,cE (by decide)]
   show(match m.ss[(m.stIx s).toNat]? with
    |none=>(bI,15)
    |some s=>if f<0 then(bI,15) else match s.fs[f.toNat]? with
     |none=>(bI,15)
     |some x=>(x.ty,0):Ty×bp)=_
   rw[vu,cP,A]
  have xT:cm (st.inn w):=HJ.out.mo.sin st (cf A);have yp:=zH A;rw[hA] at k0 uv;clear HF HK vu A hA xt xf hD HJ HS;go_wp2
  go_region_held3 (λw'=>w'.cell? ⟨N,0,tD⟩=tB (tP (tB ⟨b0,vi,tD⟩) m.ss.length m.sC)/\w'.cell? ⟨N,1,tD⟩=tB (tP m.fA m.fs.length m.fC)/\w'.cell? ⟨T,0,tD⟩=tB (tU tE)/\w'.cell? ⟨T,1,tD⟩=tB (tM s)/\w'.cell? ⟨b0,vi+k*4+1,tD⟩=tB (tP st.s.fA st.fs.length st.s.fC)/\bh d.heap.size d w')
   (first|(exact hS)|(exact⟨k0,k1,k2,k3,hd,lB (aq _ _) 1⟩))
   (first
    |(go_at_call 135;refine(xj.out _ (by go_split_ands;assumption)).mono ?_;rintro e ux ⟨rfl,xl⟩;have uc:=(lB (aq d.heap.size d) 1).trans xl;have hS:=(let h:=uv.out _ uc;(⟨h.1,h.2.1,h.2.2.1,h.2.2.2.1,HD.out _ uc,uc⟩:_/\_/\_/\_/\_/\_))))
  obtain⟨_,_,_,_,j4,j5,j6,j7,yq⟩:=uv.out ux uc;have xo:=vr.out ux uc;have va:cm (bh N w ux):=vh.out.trans (uc.mono (by omega));have vx:=zH xo;clear hS uc xl k0 k1 k2 k3 k4 k5 k6 k7 hd uv vr xj HD xo
  by_cases vj:f<0
  ·have G:cm (F=(bI,15)):=by unfold cm;rw[J.out,cR vj]
   clear J;go_wp2;(try simp only[db,Exit.then]);refine dv (aO rfl _ _ (N+1) 32 _ (0,0) _ rfl (ek vx.out) ey (by kernel_rfl)) rfl ?_;rw[G.out,D.out];exact⟨rfl,(va.out.setCell (by show N<=N+1;omega) _).setCell (by show N<=N+1;omega) _⟩
  obtain⟨q,rfl⟩:∃q:bx,f=(q:bp):=⟨f.toNat,by omega⟩
  rw[cE vj,cP] at J
  by_cases vc:q<st.fs.length
  ·obtain⟨x,hx⟩:∃x,st.fs[q]?=tB x:=⟨_,am vc⟩
   have G:cm (F=(x.ty,0)):=by unfold cm;rw[J.out,hx]
   obtain⟨b1,xp,hA1,vd,vy⟩:=xT.out.row (by intro e;rw[e] at vc;simp at vc);have xr:b1<N:=by have:=D.out;omega
   have e1:ux.cell? ⟨b1,xp+q*5+1,tD⟩=tB (tU x.ptr):=by rw[va.out.cell (p:=⟨b1,_,tD⟩) xr];exact vy q x hx 1 _ rfl
   have e2:ux.cell? ⟨b1,xp+q*5+2,tD⟩=tB (tM x.tgt):=by rw[va.out.cell (p:=⟨b1,_,tD⟩) xr];exact vy q x hx 2 _ rfl
   have ya:(q:bp)<(st.fs.length:bp):=by omega
   rw[hA1];clear J hx vy vd hA1 vj vc;go_wp2;(try simp only[db,Exit.then]);refine dv (aO rfl _ _ (N+1) 32 _ (0,0) _ rfl (ek vx.out) ey (by kernel_rfl)) rfl ?_;rw[G.out,D.out];exact⟨rfl,(va.out.setCell (by show N<=N+1;omega) _).setCell (by show N<=N+1;omega) _⟩
  ·have G:cm (F=(bI,15)):=by unfold cm;rw[J.out,my (by omega)]
   have ya:¬(q:bp)<(st.fs.length:bp):=by omega
   clear J vj vc;go_wp2;(try simp only[db,Exit.then]);refine dv (aO rfl _ _ (N+1) 32 _ (0,0) _ rfl (ek vx.out) ey (by kernel_rfl)) rfl ?_;rw[G.out,D.out];exact⟨rfl,(va.out.setCell (by show N<=N+1;omega) _).setCell (by show N<=N+1;omega) _⟩
theorem dH (a b:nj)(s t:aE)(w:World):(gE 10000 32 (tW #[tU a,tM s]) (tW #[tU b,tM t])).run ac w= .ok (((a,s):Ty)==(b,t)) w:=by
 have d:ac.underlying 32=tB (.struct (ac.fieldsOf 32)):=by kernel_rfl
 have f:ac.stoodInHeld 32=tG:=by kernel_rfl
 rw[show(10000:bx)=9999+1 from rfl,run_equalIn_agg w 9999 32 _ _ d f];simp only[Program.fieldsOf,ey];have e:(((a,s):Ty)==(b,t))=(a==b&&s.toList==t.toList):=by rw[<-fY];rfl
 rw[e];go_simp
 by_cases h:a=b<;>by_cases q:s.toList=t.toList<;>simp[h,q]
def jC (w:World)(N:bx)(m:Mo)(g:Fn):Prop:=w.cell? ⟨N,0,tD⟩=tB (tP m.sA m.ss.length m.sC)/\w.cell? ⟨N,1,tD⟩=tB (tP m.fA m.fs.length m.fC)/\w.cell? ⟨N,2,tD⟩=tB (tM g.c.nm)/\w.cell? ⟨N,3,tD⟩=tB (Z U g.c.par)/\w.cell? ⟨N,4,tD⟩=tB (tP g.c.varsA g.c.nvars g.c.varsC)/\w.cell? ⟨N,5,tD⟩=tB (tU g.c.rp)/\w.cell? ⟨N,6,tD⟩=tB (tM g.c.rto)/\w.cell? ⟨N,7,tD⟩=tB (Z U g.c.rcl)/\w.cell? ⟨N,8,tD⟩=tB (tP g.c.fromA g.c.nfrom g.c.fromC)/\w.cell? ⟨N,9,tD⟩=tB (tP g.c.insA g.c.ins.length g.c.insC)
theorem jC.of {w:World}{N:bx}{m:Mo}{g:Fn}(h:w.heap[N]?=tB (ua (jg m g) 184 (0,0))):jC w N m g:=by
 refine⟨?_, ?_, ?_, ?_, ?_, ?_, ?_, ?_, ?_, ?_⟩<;>(rw[cc _ _ _ _ _ _ h];rfl)
theorem kP (m:Mo)(g:Fn)(i:Ins)(v:bp)(D:nj)(w:World)(h:oJ w m g)(ha:isVar g.vs.length i.a=tE)(ho:isVar g.vs.length v=tE)(hk:m.known (az g.vs i.a)=tE):
  zP 227 #[tW (jg m g),tW i.cells,Z U v,tU D] w (Z U (bV m g.vs i v D)):=by
 have HT:cm (∀W,bh w.heap.size w W->zP 188 #[tW (jg m g),Z U v] W (wy (az g.vs v))):=λW G=>gN m g v W (h.below G).vars h.nv h.vl ho;have HF:cm (∀W,bh w.heap.size w W->zP 253 #[tW (jg m g),Z U i.a,Z U i.f] W (.tuple #[wy (aI m g.vs i.a i.f).1,Z U (aI m g.vs i.a i.f).2])):=λW G=>zB m g i.a i.f W (h.below G) ha hk;clear h ha ho hk;have HE:cm (bV m g.vs i v D=if (aI m g.vs i.a i.f).2≠0 then(aI m g.vs i.a i.f).2 else bM ((aI m g.vs i.a i.f).1==az g.vs v&&(aI m g.vs i.a i.f).1.1==D) 7):=rfl;obtain⟨R,hR⟩:=zE (bV m g.vs i v D);obtain⟨⟨⟨b,s⟩,z⟩,A⟩:∃F,aI m g.vs i.a i.f=F:=⟨_,rfl⟩
 obtain⟨⟨b2,s2⟩,ht⟩:∃t,az g.vs v=t:=⟨_,rfl⟩
 rw[A,ht,hR] at HE;rw[A] at HF;rw[ht] at HT;rw[hR];unfold wy at HT HF;clear A ht hR;have hst:∀(w:World)(c:da cd),c.size=2->(dr ⟨w.heap.size,0,tD⟩ [tU b,tM s] 0).run ac (w.alloc (ua c 32))= .ok () (w.alloc (ua #[tU b,tM s] 32)):=λw c hc=>
  ct (P:=ac) w 32 c #[tU b,tM s] (by show _=tB 2;kernel_rfl) hc (by simp[cj])
 obtain⟨N,J⟩:=zE w.heap.size;obtain⟨W1,uc⟩:=zE ((w.alloc (ua (jg m g) 184)).alloc (ua i.cells 42));have vh:=uF uc J;have vi:W1.heap.size=N+2:=by rw[<-uc];simp[J]
 have vj:=yP uc J;have ux:=AO uc J;have i2:=zR ux 2 (Z U i.a);have i4:=zR ux 4 (Z U i.f);have vm:=zH vh;have va:=zH vj;have HN:=zH J;have ur:=zH vi;clear vh vj ux vi;go_enter func227,ntmps227
 go_upto_region 2 with(first
  |(refine ci rfl 184 _ rfl N rfl 184 (jg m g) (0,0) _ va.out cI rfl (by kernel_rfl) ?_)
  |(go_at_call 253;refine(HF.out _ (by rw[HN.out];exact vm.out)).mono ?_;rintro e w2 ⟨rfl,vp⟩;have vc:=zH vp;clear vp))
 obtain⟨T,hT⟩:=zE w2.heap.size;obtain⟨q,ud⟩:=zE (w2.alloc (ua #[tU b,tM s] 32));rw[hT,ud];have vd:=zD ud vc;have vu:N+2<=T:=by rw[<-hT,<-ur.out];exact vc.out.size
 have vx:q.heap.size=T+1:=by rw[<-ud,<-hT];simp
 have vq:q.heap[N]?=tB (ua (jg m g) 184 (0,0)):=(vd.block N (by have:=ur.out;omega)).trans va.out;have vr:q.heap[T]?=tB (ua #[tU b,tM s] 32 (0,0)):=by rw[<-ud,<-hT];exact alloc_at _ _
 have uv:cm (bh N w q):=vm.out.trans (vd.mono (by have:=ur.out;omega));have u:cm (∀W,bh q.heap.size q W->jC W N m g/\W.cell? ⟨T,0,tD⟩=tB (tU b)/\W.cell? ⟨T,1,tD⟩=tB (tM s)):=by
  intro W G;have q5:=(G.block T (by omega)).trans vr;refine⟨jC.of ((G.block N (by omega)).trans vq), ?_, ?_⟩
  ·rw[cc _ _ _ _ _ _ q5];rfl
  ·rw[cc _ _ _ _ _ _ q5];rfl
 clear hst uc ud vd vq vr va hT vc J ur i2 i4 HF
 by_cases A:z=0
 ·subst A
  have ue:cm (R=bM (((b,s):Ty)==(b2,s2)&&b==D) 7):=by unfold cm;rw[HE.out,cE (by simp)]
  obtain⟨d,hd⟩:=zE (((b,s):Ty)==(b2,s2));have vy:∀w,(gE 10000 32 (tW #[tU b,tM s]) (tW #[tU b2,tM s2])).run ac w= .ok d w:=λw=>by rw[dH,hd]
  rw[hd] at ue;have vf:cm (∀p:BW q,zP 188 #[tW (jg m g),Z U v] p.w (tW #[tU b2,tM s2])):=
   λp=>HT.out p.w (by rw[HN.out];exact uv.out.trans (p.h.mono (by omega)))
  unfold jg at vf;have k0:∀p:BW q,p.w.cell? ⟨N,0,tD⟩=tB (tP m.sA m.ss.length m.sC):=λp=>(u.out p.w p.h).1.1;have k1:∀p:BW q,p.w.cell? ⟨N,1,tD⟩=tB (tP m.fA m.fs.length m.fC):=λp=>(u.out p.w p.h).1.2.1;have k2:∀p:BW q,p.w.cell? ⟨N,2,tD⟩=tB (tM g.c.nm):=λp=>(u.out p.w p.h).1.2.2.1;have k3:∀p:BW q,p.w.cell? ⟨N,3,tD⟩=tB (Z U g.c.par):=λp=>(u.out p.w p.h).1.2.2.2.1;have k4:∀p:BW q,p.w.cell? ⟨N,4,tD⟩=tB (tP g.c.varsA g.c.nvars g.c.varsC):=λp=>(u.out p.w p.h).1.2.2.2.2.1;have k5:∀p:BW q,p.w.cell? ⟨N,5,tD⟩=tB (tU g.c.rp):=λp=>(u.out p.w p.h).1.2.2.2.2.2.1;have k6:∀p:BW q,p.w.cell? ⟨N,6,tD⟩=tB (tM g.c.rto):=λp=>(u.out p.w p.h).1.2.2.2.2.2.2.1;have k7:∀p:BW q,p.w.cell? ⟨N,7,tD⟩=tB (Z U g.c.rcl):=λp=>(u.out p.w p.h).1.2.2.2.2.2.2.2.1;have k8:∀p:BW q,p.w.cell? ⟨N,8,tD⟩=tB (tP g.c.fromA g.c.nfrom g.c.fromC):=λp=>(u.out p.w p.h).1.2.2.2.2.2.2.2.2.1;have k9:∀p:BW q,p.w.cell? ⟨N,9,tD⟩=tB (tP g.c.insA g.c.ins.length g.c.insC):=λp=>(u.out p.w p.h).1.2.2.2.2.2.2.2.2.2;have t0:∀p:BW q,p.w.cell? ⟨T,0,tD⟩=tB (tU b):=λp=>(u.out p.w p.h).2.1;have t1:∀p:BW q,p.w.cell? ⟨T,1,tD⟩=tB (tM s):=λp=>(u.out p.w p.h).2.2;clear hd HE HT u;cases d with
  |false=>
   go_wp2;refine zQ ?_
   repeat (go_big_quiet_step (first
    |(go_at_call 188;exact aW (vf.out _))
    |(go_at_call 99;exact jF (aF _ _ _))))
   refine eh ?_;rintro _ ⟨p,rfl⟩;go_wp2;go_ret;rw[ue.out,HN.out];exact⟨rfl,uv.out.trans (p.h.mono (by omega))⟩
  |true=>
   go_wp2;refine zQ ?_
   repeat (go_big_quiet_step (first
    |(go_at_call 188;exact aW (vf.out _))
    |(go_at_call 99;exact jF (aF _ _ _))))
   refine eh ?_;rintro _ ⟨p,rfl⟩;go_wp2;go_ret;rw[ue.out,HN.out];exact⟨rfl,uv.out.trans (p.h.mono (by omega))⟩
 ·have ue:cm (R=z):=by unfold cm;rw[HE.out,cR A]
  have we:(z==0)=tG:=by rw[dp];exact A
  clear HE HT u A;go_wp2;go_ret;rw[ue.out,HN.out];exact⟨rfl,uv.out⟩
theorem ku (q u:bm Vr):∀(l:bm bp)(d:bx),iF q u d l=tE↔∀k a,l[k]?=tB a->(az q a==az u ((d+k:bx):bp))=tE
 |[],d=>⟨λ_ k a h=>by simp at h,λ_=>rfl⟩
 |x::r,d=>by
  unfold iF;rw[eN,ku q u r (d+1)];constructor
  ·rintro⟨v,A⟩ k a f
   cases k with
   |zero=>simp at f;subst f;exact v
   |succ k=>
    have:=A k a (by simpa using f);rw[show d+(k+1)=d+1+k by omega];exact this
  ·intro h
   refine⟨h 0 x rfl,λk a f=> ?_⟩;have:=h (k+1) a (by simpa using f);rw[show d+1+k=d+(k+1) by omega];exact this
theorem oK (f:Fn):(f.cells.all λx=>x.oneCell')=tE:=by
 rw[<-ld];simp[Fn.cells,qp.cells,cj]
theorem sF (m:Mo)(g:Fn)(i:Ins)(w:World)(h:oJ w m g)(hi:i.args_in w)(yi:i.args.length<=dT)(hd:isVar g.vs.length i.d=tE)(ha:∀a∈i.args,isVar g.vs.length a=tE):
  zP 185 #[tW (jg m g),tW i.cells] w (Z U (iG m g.vs i)):=by
 have HT:cm (∀W v,bh w.heap.size w W->isVar g.vs.length v=tE->zP 188 #[tW (jg m g),Z U v] W (wy (az g.vs v))):=λW v hW hv=>gN m g v W (h.below hW).vars h.nv h.vl hv;obtain⟨⟨_,At,n2,Ax,yk⟩,ao,cap,yp,xf⟩:=hi;have HA:cm (aA w ao i.args):=xf.at_;have HJ:=zH h;have yq:=zH hd;have yr:=zH ha;have HE:cm (iG m g.vs i=if i.f<0 then 15 else match m.fs[i.f.toNat]? with
  |none=>15
  |some g'=>if (i.args.length:bp)≠g'.c.par\/(g'.vs.length:bp)<g'.c.par then 7
   else if iF g.vs g'.vs 0 i.args=tG then 7 else bM (az g.vs i.d==g'.ret) 7):=rfl
 obtain⟨R,hR⟩:=zE (iG m g.vs i);rw[hR] at HE⊢;clear hR h xf hd ha yk;obtain⟨N,hN⟩:=zE w.heap.size;obtain⟨W1,vi⟩:=zE ((w.alloc (ua (jg m g) 184)).alloc (ua i.cells 42));have xj:=uF vi hN;have vj:W1.heap.size=N+2:=by rw[<-vi];simp[hN]
 have vx:=yP vi hN;have vy:=AO vi hN;have i4:=zR vy 4 (Z U i.f);have k1:=zR vx 1 (tP m.fA m.fs.length m.fC);have uv:=zH xj;have xl:=zH vx;have xo:=zH vy;have HN:=zH hN;have AD:=zH vj;clear xj vx vy
 by_cases vc:i.f<0
 ·have uc:cm (R=15):=by unfold cm;rw[HE.out,cR vc]
  clear HE HT;go_enter func185,ntmps185;go_wp2;go_ret;rw[uc.out];exact⟨rfl,by first|exact uv.out|(rw[HN.out];exact uv.out)⟩
 obtain⟨F,hF⟩:∃F:bx,i.f=(F:bp):=⟨i.f.toNat,by omega⟩
 rw[hF] at i4
 by_cases vd:F<m.fs.length
 ·obtain⟨f,vm⟩:∃f,m.fs[F]?=tB f:=⟨_,am vd⟩
  have ux:cm (R=if (i.args.length:bp)≠f.c.par\/(f.vs.length:bp)<f.c.par then 7 else if iF g.vs f.vs 0 i.args=tG then 7 else bM (az g.vs i.d==f.ret) 7):=by
   unfold cm;rw[HE.out,cE vc,hF,cP,vm]
  have we:=HJ.out.mo.fin f (cf vm);have yv:=zH we;obtain⟨fb,xp,wg,yy,xr⟩:=HJ.out.mo.frow (by intro e;rw[e] at vd;simp at vd);have yW:fb<N:=by omega
  have zc:cm (∀k u,f.cells.toList[k]?=tB u->W1.cell? ((⟨fb,xp+F*8,tD⟩:Addr).add k)=tB u):=λk u hu=>by
   rw[dc,uv.out.cell (p:=⟨fb,_,tD⟩) yW];exact xr F f vm k u hu
  have zd:(F:bp)<(m.fs.length:bp):=by omega
  obtain⟨G,vf⟩:=zE (W1.alloc (ua f.cells 38));have hst:∀(c:da cd),c.size=8->(dr ⟨N+2,0,tD⟩ f.cells.toList 0).run ac (W1.alloc (ua c 38))= .ok () G:=λc hc=>by
   rw[<-vf,<-vj];exact ct (P:=ac) W1 38 c f.cells (by show _=tB 8;kernel_rfl) hc (oK f)
  have vp:=iq vf;have xt:G.heap[N+2]?=tB (ua f.cells 38 (0,0)):=by rw[<-vf,<-vj];exact alloc_at _ _
  have AE:G.heap.size=N+3:=by rw[<-vf];simp[vj]
  have ud:cm (bh N w G):=uv.out.trans (vp.mono (by omega));have vq:cm (∀W,bh G.heap.size G W->jC W N m g/\W.cell? ⟨N+1,1,tD⟩=tB (Z U i.d)/\W.cell? ⟨N+1,7,tD⟩=tB (tP ao i.args.length cap)/\
    W.cell? ⟨N+2,1,tD⟩=tB (Z U f.c.par)/\W.cell? ⟨N+2,2,tD⟩=tB (tP f.c.varsA f.vs.length f.c.varsC)/\W.cell? ⟨N+2,3,tD⟩=tB (tU f.c.rp)/\W.cell? ⟨N+2,4,tD⟩=tB (tM f.c.rto)):=by
   intro W hW;have q1:=(hW.block N (by omega)).trans ((vp.block N (by omega)).trans xl.out);have q2:=(hW.block (N+1) (by omega)).trans ((vp.block (N+1) (by omega)).trans xo.out);have q3:=(hW.block (N+2) (by omega)).trans xt;refine⟨jC.of q1, ?_, ?_, ?_, ?_, ?_, ?_⟩
   ·rw[cc _ _ _ _ _ _ q2];rfl
   ·rw[cc _ _ _ _ _ _ q2,<-yp];rfl
   ·rw[cc _ _ _ _ _ _ q3];rfl
   ·rw[cc _ _ _ _ _ _ q3,<-we.nvars];rfl
   ·rw[cc _ _ _ _ _ _ q3];rfl
   ·rw[cc _ _ _ _ _ _ q3];rfl
  obtain⟨_,j1,j7,c1,c2,c3,c4⟩:=vq.out G (aq _ _);have wi:cm (∀(W:World)(v:bp),bh G.heap.size G W->isVar f.vs.length v=tE->∃(k b J:bx) (x:Vr),v=(k:bp)/\k<f.vs.length/\f.c.varsA=tB ⟨b,J,tD⟩/\b<G.heap.size/\az f.vs v=(x.ptr,x.tgt)/\W.cell? ⟨b,J+k*3,tD⟩=tB (tU x.ptr)/\W.cell? ⟨b,J+k*3+1,tD⟩=tB (tM x.tgt)):=by
   intro W v hW hv;have xF:bh w.heap.size w W:=by rw[HN.out];exact ud.out.trans (hW.mono (by omega))
   obtain⟨k,b,J,x,r1,r2,r3,r4,r5,r6,r7⟩:=dU (yv.out.vars) hv;exact⟨k,b,J,x,r1,r2,r3,by omega,r5,by rw[xF.cell (p:=⟨b,_,tD⟩) r4];exact r6,by rw[xF.cell (p:=⟨b,_,tD⟩) r4];exact r7⟩
  have AF:=zH wg;rw[wg] at k1;have AG:i.args.length<=9223372036854775807:=by unfold dT at yi;omega
  clear HE vc hF vd vm we wg xr vp xt xl xo yy;go_enter func185,ntmps185
  go_upto_region 4 with(first
   |(refine aG rfl 38 _ rfl ⟨fb,xp+F*8,tD⟩ rfl f.cells _ zc.out cQ rfl (by kernel_rfl) ?_))
  clear hst vf i4 k1
  by_cases vh:(i.args.length:bp)=f.c.par
  ·by_cases vr:(f.vs.length:bp)<f.c.par
   ·have uc:cm (R=7):=by unfold cm;rw[ux.out,cR (.inr vr)]
    rw[<-vh] at vr c1;clear ux HT;go_wp2;go_ret;rw[uc.out,HN.out];exact⟨rfl,ud.out⟩
   ·have wj:cm (R=if iF g.vs f.vs 0 i.args=tG then 7 else bM (az g.vs i.d==f.ret) 7):=by
     unfold cm;rw[ux.out,cE (λh=>by rcases h with h|h;exact h vh;exact vr h)]
    rw[<-vh] at vr c1;have AH:i.args.length<=f.vs.length:=by omega
    clear ux vh
    go_upto_region 7 with(fail)
    go_loopw [44] (λc wr=>∃j:bx,j<=i.args.length/\c= Z U (j:bp)/\(∀k a,k<j->i.args[k]?=tB a->(az g.vs a==az f.vs (k:bp))=tE)/\bh G.heap.size G wr) (λc _=>i.args.length-(intOf c).toNat)
    case atStart=>exact⟨0,cN _,rfl,λk a hk=>fW hk (by omega),aq _ _⟩
    case round=>
     obtain⟨j,hj,rfl,wk,hb⟩:=hrel;have A:=zH hb;have xT:=zH wk
     by_cases vu:j<i.args.length
     ·obtain⟨y,hy⟩:∃y,i.args[j]?=tB y:=⟨_,am vu⟩
      obtain⟨ab,zj,zp,AI,ya⟩:=(HA.out.below (by rw[HN.out];exact ud.out.trans (hb.mono (by omega)))) (by intro e;rw[e] at vu;simp at vu)
      have d1:wr.cell? ⟨ab,zj+j,tD⟩=tB (Z U y):=ya j y hy;have yb:isVar g.vs.length y=tE:=yr.out y (cf hy);obtain⟨D,b,J,x,AK,AM,wl,zr,ws,_,_⟩:=wi.out wr (j:bp) hb (eF.2 ⟨by omega,by omega⟩);obtain rfl:D=j:=by omega
      have HX:cm (∀p:BW wr,p.w.cell? ⟨b,J+D*3,tD⟩=tB (tU x.ptr)/\p.w.cell? ⟨b,J+D*3+1,tD⟩=tB (tM x.tgt)):=by
       intro p;obtain⟨k2,b2,zv,x2,q1,q2,q3,q4,q5,q6,q7⟩:=wi.out p.w (D:bp) (A.out.trans (p.h.mono A.out.size)) (eF.2 ⟨by omega,by omega⟩);obtain rfl:D=k2:=by omega
       rw[wl] at q3;obtain⟨rfl,rfl⟩:b=b2/\J=zv:=by simpa using q3
       rw[ws] at q5;obtain⟨e1,e2⟩:x.ptr=x2.ptr/\x.tgt=x2.tgt:=by simpa using q5
       rw[e1,e2];exact⟨q6,q7⟩
      have x0:∀p:BW wr,p.w.cell? ⟨b,J+D*3,tD⟩=tB (tU x.ptr):=λp=>(HX.out p).1;have x1:∀p:BW wr,p.w.cell? ⟨b,J+D*3+1,tD⟩=tB (tM x.tgt):=λp=>(HX.out p).2;have AN:b<wr.heap.size:=bl zr hb.size;obtain⟨⟨tb,ts⟩,ue⟩:∃t,az g.vs y=t:=⟨_,rfl⟩
      have va:cm (∀p:BW wr,zP 188 #[tW (jg m g),Z U y] p.w (tW #[tU tb,tM ts])):=λp=>by
       have:=HT.out p.w y (by rw[HN.out];exact(ud.out.trans (A.out.mono (by omega))).trans (p.h.mono (by have:=A.out.size;omega))) yb;rw[ue] at this;exact this
      unfold jg at va;obtain⟨d,ur⟩:=zE (((tb,ts):Ty)==(x.ptr,x.tgt));have An:∀w,(gE 10000 32 (tW #[tU tb,tM ts]) (tW #[tU x.ptr,tM x.tgt])).run ac w= .ok d w:=λw=>by rw[dH,ur]
      have yd:cm ((az g.vs y==az f.vs (D:bp))=d):=by unfold cm;rw[ue,ws];exact ur
      have HY:=zH hy;have q:cm (∀p:BW wr,_):=λp:BW wr=>vq.out p.w (A.out.trans (p.h.mono A.out.size));have k0:∀p:BW wr,p.w.cell? ⟨N,0,tD⟩=tB (tP m.sA m.ss.length m.sC):=λp=>(q.out p).1.1;have k1:∀p:BW wr,p.w.cell? ⟨N,1,tD⟩=tB (tP m.fA m.fs.length m.fC):=λp=>(q.out p).1.2.1;have k2:∀p:BW wr,p.w.cell? ⟨N,2,tD⟩=tB (tM g.c.nm):=λp=>(q.out p).1.2.2.1;have k3:∀p:BW wr,p.w.cell? ⟨N,3,tD⟩=tB (Z U g.c.par):=λp=>(q.out p).1.2.2.2.1;have k4:∀p:BW wr,p.w.cell? ⟨N,4,tD⟩=tB (tP g.c.varsA g.c.nvars g.c.varsC):=λp=>(q.out p).1.2.2.2.2.1;have k5:∀p:BW wr,p.w.cell? ⟨N,5,tD⟩=tB (tU g.c.rp):=λp=>(q.out p).1.2.2.2.2.2.1;have k6:∀p:BW wr,p.w.cell? ⟨N,6,tD⟩=tB (tM g.c.rto):=λp=>(q.out p).1.2.2.2.2.2.2.1;have k7:∀p:BW wr,p.w.cell? ⟨N,7,tD⟩=tB (Z U g.c.rcl):=λp=>(q.out p).1.2.2.2.2.2.2.2.1;have k8:∀p:BW wr,p.w.cell? ⟨N,8,tD⟩=tB (tP g.c.fromA g.c.nfrom g.c.fromC):=λp=>(q.out p).1.2.2.2.2.2.2.2.2.1;have k9:∀p:BW wr,p.w.cell? ⟨N,9,tD⟩=tB (tP g.c.insA g.c.ins.length g.c.insC):=λp=>(q.out p).1.2.2.2.2.2.2.2.2.2;have AS:∀p:BW wr,p.w.cell? ⟨N+2,2,tD⟩=tB (tP (tB ⟨b,J,tD⟩) f.vs.length f.c.varsC):=λp=>by rw[<-wl];exact(q.out p).2.2.2.2.1
      have AT:(D:bp)<(i.args.length:bp):=by omega
      have AW:(D:bp)<(f.vs.length:bp):=by omega
      subst zp;clear wk hb hy ya yb wl ws ue ur vu q;cases d with
      |true=>
       go_wp2_with fail
       refine zQ ?_
       repeat (go_big_quiet_step (first
        |(go_at_call 188;exact aW (va.out _))))
       refine eh ?_;rintro _ ⟨p,rfl⟩;go_wp2;go_roundw
       case rel=>
        refine⟨D+1,by omega,by go_num,λk a hk wx=> ?_,A.out.trans (p.h.mono A.out.size)⟩
        by_cases e:k=D
        ·subst e
         rw[HY.out] at wx;obtain rfl:=cD wx;exact yd.out
        ·exact xT.out k a (by omega) wx
       case measure=>simp[intOf];omega
      |false=>
       have uc:cm (R=7):=by
        unfold cm;rw[wj.out,cR];cases hc:iF g.vs f.vs 0 i.args with
        |false=>rfl
        |true=>
         have:=(ku _ _ _ _).1 hc D y HY.out;rw[cV,yd.out] at this;cases this
       go_wp2_with fail
       refine zQ ?_
       repeat (go_big_quiet_step (first
        |(go_at_call 188;exact aW (va.out _))))
       refine eh ?_;rintro _ ⟨p,rfl⟩;go_wp2;go_ret;rw[uc.out,HN.out];exact⟨rfl,(ud.out.trans (A.out.mono (by omega))).trans (p.h.mono (by have:=A.out.size;omega))⟩
     ·have As:j=i.args.length:=by omega
      subst As;have ye:cm (R=bM (az g.vs i.d==f.ret) 7):=by
       unfold cm;rw[wj.out,cE];rw[(ku _ _ _ _).2 (λk a hk=>by rw[cV];exact xT.out k a (ap.1 hk).1 hk)];decide
      obtain⟨⟨tb,ts⟩,ue⟩:∃t,az g.vs i.d=t:=⟨_,rfl⟩
      have va:cm (∀p:BW wr,zP 188 #[tW (jg m g),Z U i.d] p.w (tW #[tU tb,tM ts])):=λp=>by
       have:=HT.out p.w i.d (by rw[HN.out];exact(ud.out.trans (A.out.mono (by omega))).trans (p.h.mono (by have:=A.out.size;omega))) yq.out;rw[ue] at this;exact this
      unfold jg at va;obtain⟨d,ur⟩:=zE (((tb,ts):Ty)==(f.c.rp,f.c.rto));have An:∀w,(gE 10000 32 (tW #[tU tb,tM ts]) (tW #[tU f.c.rp,tM f.c.rto])).run ac w= .ok d w:=λw=>by rw[dH,ur]
      have uc:cm (R=bM d 7):=by unfold cm;rw[ye.out,ue,<-ur];rfl
      have q:cm (∀p:BW wr,_):=λp:BW wr=>vq.out p.w (A.out.trans (p.h.mono A.out.size));have k0:∀p:BW wr,p.w.cell? ⟨N,0,tD⟩=tB (tP m.sA m.ss.length m.sC):=λp=>(q.out p).1.1;have k1:∀p:BW wr,p.w.cell? ⟨N,1,tD⟩=tB (tP m.fA m.fs.length m.fC):=λp=>(q.out p).1.2.1;have k2:∀p:BW wr,p.w.cell? ⟨N,2,tD⟩=tB (tM g.c.nm):=λp=>(q.out p).1.2.2.1;have k3:∀p:BW wr,p.w.cell? ⟨N,3,tD⟩=tB (Z U g.c.par):=λp=>(q.out p).1.2.2.2.1;have k4:∀p:BW wr,p.w.cell? ⟨N,4,tD⟩=tB (tP g.c.varsA g.c.nvars g.c.varsC):=λp=>(q.out p).1.2.2.2.2.1;have k5:∀p:BW wr,p.w.cell? ⟨N,5,tD⟩=tB (tU g.c.rp):=λp=>(q.out p).1.2.2.2.2.2.1;have k6:∀p:BW wr,p.w.cell? ⟨N,6,tD⟩=tB (tM g.c.rto):=λp=>(q.out p).1.2.2.2.2.2.2.1;have k7:∀p:BW wr,p.w.cell? ⟨N,7,tD⟩=tB (Z U g.c.rcl):=λp=>(q.out p).1.2.2.2.2.2.2.2.1;have k8:∀p:BW wr,p.w.cell? ⟨N,8,tD⟩=tB (tP g.c.fromA g.c.nfrom g.c.fromC):=λp=>(q.out p).1.2.2.2.2.2.2.2.2.1;have k9:∀p:BW wr,p.w.cell? ⟨N,9,tD⟩=tB (tP g.c.insA g.c.ins.length g.c.insC):=λp=>(q.out p).1.2.2.2.2.2.2.2.2.2;have g1:∀p:BW wr,p.w.cell? ⟨N+1,1,tD⟩=tB (Z U i.d):=λp=>(q.out p).2.1;have g3:∀p:BW wr,p.w.cell? ⟨N+2,3,tD⟩=tB (tU f.c.rp):=λp=>(q.out p).2.2.2.2.2.1;have g4:∀p:BW wr,p.w.cell? ⟨N+2,4,tD⟩=tB (tM f.c.rto):=λp=>(q.out p).2.2.2.2.2.2;clear wk hb ue ur q wj ye wi HT vq
      go_wp2_with fail
      refine zQ ?_
      repeat (go_big_quiet_step (first
       |(go_at_call 188;exact aW (va.out _))
       |(go_at_call 99;exact jF (aF _ _ _))))
      refine eh ?_;rintro _ ⟨p,rfl⟩;go_wp2;go_ret;rw[uc.out,HN.out];exact⟨rfl,(ud.out.trans (A.out.mono (by omega))).trans (p.h.mono (by have:=A.out.size;omega))⟩
  ·have uc:cm (R=7):=by unfold cm;rw[ux.out,cR (.inl vh)]
   clear ux HT;go_wp2;go_ret;rw[uc.out,HN.out];exact⟨rfl,ud.out⟩
 ·have uc:cm (R=15):=by unfold cm;rw[HE.out,cE vc,hF,cP,my (by omega)]
  have zd:¬((F:bp)<(m.fs.length:bp)):=by omega
  clear HE HT vd vc hF;go_enter func185,ntmps185;go_wp2;go_ret;rw[uc.out];exact⟨rfl,by first|exact uv.out|(rw[HN.out];exact uv.out)⟩
structure dQ (w:World)(m:Mo)(g:Fn)(i:Ins):Prop where
 j:oJ w m g
 d:nZ i.op=tE->isVar g.vs.length i.d=tE
 a:oH i.op=tE->isVar g.vs.length i.a=tE
 b:rz i.op=tE->isVar g.vs.length i.b=tE
 kn:∀v,isVar g.vs.length v=tE->m.known (az g.vs v)=tE
theorem zC {w:World}{z:bp}:aA (w.alloc (ua #[Z U z] 3)) (tB ⟨w.heap.size,0,tD⟩) [z]:=aA.one w z rfl
theorem Hw {w:World}{y z:bp}:aA (w.alloc (ua #[Z U y,Z U z] 3)) (tB ⟨w.heap.size,0,tD⟩) [y,z]:=by
 intro _;refine⟨w.heap.size,0,rfl,by simp,λk u d=> ?_⟩;rw[cV,World.cell?_alloc_new];have:k<2:=(ap.1 d).1;obtain rfl|rfl:k=0\/k=1:=by omega
 ·simp at d;subst d;rfl
 ·simp at d;subst d;rfl
theorem cu {m:Mo}{g:Fn}{i:Ins}{w:World}{k:bp}(G:i.op=k)(h:dQ w m g i):∃N q,w.heap.size=N/\(w.alloc (ua (jg m g) 184)).alloc (ua i.cells 42)=q/\q.heap.size=N+2/\N+1<q.heap.size/\
  (q.cell? ⟨N+1,0,tD⟩=tB (Z U k)/\q.cell? ⟨N+1,1,tD⟩=tB (Z U i.d)/\q.cell? ⟨N+1,2,tD⟩=tB (Z U i.a)/\q.cell? ⟨N+1,3,tD⟩=tB (Z U i.b)/\q.cell? ⟨N+1,4,tD⟩=tB (Z U i.f)/\q.cell? ⟨N+1,6,tD⟩=tB (tM i.sign))/\
  cm (w.heap.size=N)/\cm (q.heap.size=N+2)/\cm (bh N w q)/\cm (q.heap[N]?=tB (ua (jg m g) 184 (0,0)))/\cm (q.heap[N+1]?=tB (ua i.cells 42 (0,0)))/\
  cm (∀W v,bh w.heap.size w W->isVar g.vs.length v=tE->zP 188 #[tW (jg m g),Z U v] W (wy (az g.vs v)))/\cm (nZ k=tE->isVar g.vs.length i.d=tE)/\cm (oH k=tE->isVar g.vs.length i.a=tE)/\cm (rz k=tE->isVar g.vs.length i.b=tE):=by
 obtain⟨N,A⟩:=zE w.heap.size;obtain⟨q,D⟩:=zE ((w.alloc (ua (jg m g) 184)).alloc (ua i.cells 42));have J:q.heap.size=N+2:=by rw[<-D];simp[A]
 have u:=AO D A;refine⟨N,q,A,D,J,by omega,⟨?_,zR u 1 _,zR u 2 _,zR u 3 _,zR u 4 _,zR u 6 _⟩,A,J,uF D A,yP D A,u,λW v hW hv=>gN m g v W (h.j.below hW).vars h.j.nv h.j.vl hv, ?_, ?_, ?_⟩
 ·rw[cc _ _ _ _ _ _ u,<-G];rfl
 ·rw[<-G];exact h.d
 ·rw[<-G];exact h.a
 ·rw[<-G];exact h.b
theorem FH (m:Mo)(g:Fn)(i:Ins)(w:World)(f:i.op=1)(h:dQ w m g i):
  zP 189 #[tW (jg m g),tW i.cells] w (Z U (ay m g.vs i)):=by
 have q:cm (ay m g.vs i=dX g.vs [i.d]):=by
  unfold cm ay;rw[f];rfl
 obtain⟨R,A⟩:=zE (ay m g.vs i);rw[A] at q⊢;clear A;have D:=zH h;obtain⟨N,u,hN,va,vc,vd,⟨i0,i1,i2,i3,i4,i6⟩,G,J,ue,ur,vf,HT,HD,HA,HB⟩:=cu f h;clear h f;have uc:cm (bh N w (u.alloc (ua #[Z U i.d] 3))):=ue.out.alloc (by omega) _;have uv:cm (zP 187 #[tW (jg m g),tP (tB ⟨N+2,0,tD⟩) 1 1] (u.alloc (ua #[Z U i.d] 3)) (Z U R)):=by
  have v:=D.out.j.below (by rw[G.out];exact uc.out);have:=dA m g (tB ⟨N+2,0,tD⟩) [i.d] 1 (u.alloc (ua #[Z U i.d] 3)) v.vars v.nv v.vl (by unfold dT;simp) (by rw[<-J.out];exact zC) (by simp;exact HD.out rfl);rw[<-q.out] at this;exact this
 clear q HD HA HB HT D;go_enter fx,eV
 go_wp2_with (first
  |(refine ci rfl 184 _ rfl N rfl 184 (jg m g) (0,0) _ ur.out cI rfl (by kernel_rfl) ?_)
  |(go_at_call 187;refine uv.out.mono ?_;rintro e w4 ⟨rfl,ud⟩;have ux:=zH ud;clear ud))
 go_ret;refine⟨rfl, ?_⟩;rw[G.out];exact uc.out.trans (ux.out.mono (by have:=J.out;simp;omega))
theorem FI (m:Mo)(g:Fn)(i:Ins)(w:World)(f:i.op=5)(h:dQ w m g i):
  zP 189 #[tW (jg m g),tW i.cells] w (Z U (ay m g.vs i)):=by
 have q:cm (ay m g.vs i=dX g.vs [i.d]):=by
  unfold cm ay;rw[f];rfl
 obtain⟨R,A⟩:=zE (ay m g.vs i);rw[A] at q⊢;clear A;have D:=zH h;obtain⟨N,u,hN,va,vc,vd,⟨i0,i1,i2,i3,i4,i6⟩,G,J,ue,ur,vf,HT,HD,HA,HB⟩:=cu f h;clear h f;have uc:cm (bh N w (u.alloc (ua #[Z U i.d] 3))):=ue.out.alloc (by omega) _;have uv:cm (zP 187 #[tW (jg m g),tP (tB ⟨N+2,0,tD⟩) 1 1] (u.alloc (ua #[Z U i.d] 3)) (Z U R)):=by
  have v:=D.out.j.below (by rw[G.out];exact uc.out);have:=dA m g (tB ⟨N+2,0,tD⟩) [i.d] 1 (u.alloc (ua #[Z U i.d] 3)) v.vars v.nv v.vl (by unfold dT;simp) (by rw[<-J.out];exact zC) (by simp;exact HD.out rfl);rw[<-q.out] at this;exact this
 clear q HD HA HB HT D;go_enter fx,eV
 go_wp2_with (first
  |(refine ci rfl 184 _ rfl N rfl 184 (jg m g) (0,0) _ ur.out cI rfl (by kernel_rfl) ?_)
  |(go_at_call 187;refine uv.out.mono ?_;rintro e w4 ⟨rfl,ud⟩;have ux:=zH ud;clear ud))
 go_ret;refine⟨rfl, ?_⟩;rw[G.out];exact uc.out.trans (ux.out.mono (by have:=J.out;simp;omega))
theorem FJ (m:Mo)(g:Fn)(i:Ins)(w:World)(d:i.op=6)(h:dQ w m g i):
  zP 189 #[tW (jg m g),tW i.cells] w (Z U (ay m g.vs i)):=by
 have f:cm (ay m g.vs i=dX g.vs [i.a]):=by
  unfold cm ay;rw[d];rfl
 obtain⟨R,v⟩:=zE (ay m g.vs i);rw[v] at f⊢;clear v;have A:=zH h;obtain⟨N,q,hN,va,vc,vd,⟨i0,i1,i2,i3,i4,i6⟩,D,G,ue,ur,vf,HT,HD,J,HB⟩:=cu d h;clear h d;have uc:cm (bh N w (q.alloc (ua #[Z U i.a] 3))):=ue.out.alloc (by omega) _;have uv:cm (zP 187 #[tW (jg m g),tP (tB ⟨N+2,0,tD⟩) 1 1] (q.alloc (ua #[Z U i.a] 3)) (Z U R)):=by
  have u:=A.out.j.below (by rw[D.out];exact uc.out);have:=dA m g (tB ⟨N+2,0,tD⟩) [i.a] 1 (q.alloc (ua #[Z U i.a] 3)) u.vars u.nv u.vl (by unfold dT;simp) (by rw[<-G.out];exact zC) (by simp;exact J.out rfl);rw[<-f.out] at this;exact this
 clear f HD J HB HT A;go_enter fx,eV
 go_wp2_with (first
  |(refine ci rfl 184 _ rfl N rfl 184 (jg m g) (0,0) _ ur.out cI rfl (by kernel_rfl) ?_)
  |(go_at_call 187;refine uv.out.mono ?_;rintro e w4 ⟨rfl,ud⟩;have ux:=zH ud;clear ud))
 go_ret;refine⟨rfl, ?_⟩;rw[D.out];exact uc.out.trans (ux.out.mono (by have:=G.out;simp;omega))
theorem FK (m:Mo)(g:Fn)(i:Ins)(w:World)(f:i.op=3)(h:dQ w m g i):
  zP 189 #[tW (jg m g),tW i.cells] w (Z U (ay m g.vs i)):=by
 have q:cm (ay m g.vs i=dX g.vs [i.d,i.a]):=by
  unfold cm ay;rw[f];rfl
 obtain⟨R,A⟩:=zE (ay m g.vs i);rw[A] at q⊢;clear A;have D:=zH h;obtain⟨N,u,hN,va,vc,vd,⟨i0,i1,i2,i3,i4,i6⟩,G,J,ue,ur,vf,HT,HD,HA,HB⟩:=cu f h;clear h f;have uc:cm (bh N w (u.alloc (ua #[Z U i.d,Z U i.a] 3))):=ue.out.alloc (by omega) _;have uv:cm (zP 187 #[tW (jg m g),tP (tB ⟨N+2,0,tD⟩) 2 2] (u.alloc (ua #[Z U i.d,Z U i.a] 3)) (Z U R)):=by
  have v:=D.out.j.below (by rw[G.out];exact uc.out);have:=dA m g (tB ⟨N+2,0,tD⟩) [i.d,i.a] 2 (u.alloc (ua #[Z U i.d,Z U i.a] 3)) v.vars v.nv v.vl (by unfold dT;simp) (by rw[<-J.out];exact Hw) (by simp;exact⟨HD.out rfl,HA.out rfl⟩);rw[<-q.out] at this;exact this
 clear q HD HA HB HT D;go_enter fx,eV
 go_wp2_with (first
  |(refine ci rfl 184 _ rfl N rfl 184 (jg m g) (0,0) _ ur.out cI rfl (by kernel_rfl) ?_)
  |(go_at_call 187;refine uv.out.mono ?_;rintro e w4 ⟨rfl,ud⟩;have ux:=zH ud;clear ud))
 go_ret;refine⟨rfl, ?_⟩;rw[G.out];exact uc.out.trans (ux.out.mono (by have:=J.out;simp;omega))
theorem FN (m:Mo)(g:Fn)(i:Ins)(w:World)(f:i.op=2)(h:dQ w m g i):
  zP 189 #[tW (jg m g),tW i.cells] w (Z U (ay m g.vs i)):=by
 have q:cm (ay m g.vs i=bM (az g.vs i.d).1 7):=by
  unfold cm ay;rw[f];rfl
 obtain⟨R,u⟩:=zE (ay m g.vs i);rw[u] at q⊢;clear u;have ud:=zH h;obtain⟨N,v,hN,ux,va,vc,⟨i0,i1,i2,i3,i4,i6⟩,A,vd,D,ue,vf,G,J,HA,HB⟩:=cu f h;clear h f;have ur:cm (zP 188 #[tW (jg m g),Z U i.d] v (tW #[tU (az g.vs i.d).1,tM (az g.vs i.d).2])):=G.out v i.d (by rw[A.out];exact D.out) (J.out rfl);have vh:=kr;clear J HA HB G ud;go_enter fx,eV
 go_wp2_with (first
  |(refine ci rfl 184 _ rfl N rfl 184 (jg m g) (0,0) _ ue.out cI rfl (by kernel_rfl) ?_)
  |(go_at_call 188;refine ur.out.mono ?_;rintro e w4 ⟨rfl,uc⟩;have uv:=zH uc;clear uc)
  |(go_at_call 99;refine(aF _ _ _).mono ?_;rintro e w9 ⟨rfl,rfl⟩))
 go_ret;rw[q.out,A.out];exact⟨rfl,D.out.trans (uv.out.mono (by omega))⟩
theorem Ew (m:Mo)(g:Fn)(i:Ins)(w:World)(d:i.op=13)(h:dQ w m g i):
  zP 189 #[tW (jg m g),tW i.cells] w (Z U (ay m g.vs i)):=by
 have f:cm (ay m g.vs i=bM (az g.vs i.a).1 7):=by
  unfold cm ay;rw[d];rfl
 obtain⟨R,q⟩:=zE (ay m g.vs i);rw[q] at f⊢;clear q;have uc:=zH h;obtain⟨N,u,hN,uv,ux,va,⟨i0,i1,i2,i3,i4,i6⟩,v,vc,A,ud,vd,D,HD,G,HB⟩:=cu d h;clear h d;have ue:cm (zP 188 #[tW (jg m g),Z U i.a] u (tW #[tU (az g.vs i.a).1,tM (az g.vs i.a).2])):=D.out u i.a (by rw[v.out];exact A.out) (G.out rfl);have vf:=kr;clear HD G HB D uc;go_enter fx,eV
 go_wp2_with (first
  |(refine ci rfl 184 _ rfl N rfl 184 (jg m g) (0,0) _ ud.out cI rfl (by kernel_rfl) ?_)
  |(go_at_call 188;refine ue.out.mono ?_;rintro e w4 ⟨rfl,J⟩;have ur:=zH J;clear J)
  |(go_at_call 99;refine(aF _ _ _).mono ?_;rintro e w9 ⟨rfl,rfl⟩))
 go_ret;rw[f.out,v.out];exact⟨rfl,A.out.trans (ur.out.mono (by omega))⟩
theorem FO (m:Mo)(g:Fn)(i:Ins)(w:World)(f:i.op=7)(h:dQ w m g i):
  zP 189 #[tW (jg m g),tW i.cells] w (Z U (ay m g.vs i)):=by
 have v:cm (ay m g.vs i=bV m g.vs i i.d tG):=by
  unfold cm ay;rw[f];rfl
 obtain⟨R,A⟩:=zE (ay m g.vs i);rw[A] at v⊢;clear A;have q:=zH h;obtain⟨N,D,hN,ux,va,vc,⟨i0,i1,i2,i3,i4,i6⟩,G,vd,J,ud,ue,HT,HD,u,HB⟩:=cu f h;clear h f;have ur:cm (zP 227 #[tW (jg m g),tW i.cells,Z U i.d,tU tG] D (Z U (bV m g.vs i i.d tG))):=
  kP m g i i.d tG D (q.out.j.below (by rw[G.out];exact J.out)) (u.out rfl) (HD.out rfl) (q.out.kn _ (u.out rfl))
 clear HD u HB HT q;go_enter fx,eV
 go_wp2_with (first
  |(refine ci rfl 184 _ rfl N rfl 184 (jg m g) (0,0) _ ud.out cI rfl (by kernel_rfl) ?_)
  |(refine ci rfl 42 _ rfl (N+1) rfl 42 i.cells (0,0) _ ue.out cJ rfl (by kernel_rfl) ?_)
  |(go_at_call 227;refine ur.out.mono ?_;rintro e w4 ⟨rfl,uc⟩;have uv:=zH uc;clear uc))
 go_ret;rw[v.out,G.out];exact⟨rfl,J.out.trans (uv.out.mono (by omega))⟩
theorem Ey (m:Mo)(g:Fn)(i:Ins)(w:World)(f:i.op=10)(h:dQ w m g i):
  zP 189 #[tW (jg m g),tW i.cells] w (Z U (ay m g.vs i)):=by
 have v:cm (ay m g.vs i=bV m g.vs i i.d tE):=by
  unfold cm ay;rw[f];rfl
 obtain⟨R,A⟩:=zE (ay m g.vs i);rw[A] at v⊢;clear A;have q:=zH h;obtain⟨N,D,hN,ux,va,vc,⟨i0,i1,i2,i3,i4,i6⟩,G,vd,J,ud,ue,HT,HD,u,HB⟩:=cu f h;clear h f;have ur:cm (zP 227 #[tW (jg m g),tW i.cells,Z U i.d,tU tE] D (Z U (bV m g.vs i i.d tE))):=
  kP m g i i.d tE D (q.out.j.below (by rw[G.out];exact J.out)) (u.out rfl) (HD.out rfl) (q.out.kn _ (u.out rfl))
 clear HD u HB HT q;go_enter fx,eV
 go_wp2_with (first
  |(refine ci rfl 184 _ rfl N rfl 184 (jg m g) (0,0) _ ud.out cI rfl (by kernel_rfl) ?_)
  |(refine ci rfl 42 _ rfl (N+1) rfl 42 i.cells (0,0) _ ue.out cJ rfl (by kernel_rfl) ?_)
  |(go_at_call 227;refine ur.out.mono ?_;rintro e w4 ⟨rfl,uc⟩;have uv:=zH uc;clear uc))
 go_ret;rw[v.out,G.out];exact⟨rfl,J.out.trans (uv.out.mono (by omega))⟩
theorem FP (m:Mo)(g:Fn)(i:Ins)(w:World)(d:i.op=8)(h:dQ w m g i):
  zP 189 #[tW (jg m g),tW i.cells] w (Z U (ay m g.vs i)):=by
 have u:cm (ay m g.vs i=bV m g.vs i i.b tG):=by
  unfold cm ay;rw[d];rfl
 obtain⟨R,v⟩:=zE (ay m g.vs i);rw[v] at u⊢;clear v;have f:=zH h;obtain⟨N,A,hN,ux,va,vc,⟨i0,i1,i2,i3,i4,i6⟩,D,vd,G,ud,ue,HT,HD,q,J⟩:=cu d h;clear h d;have ur:cm (zP 227 #[tW (jg m g),tW i.cells,Z U i.b,tU tG] A (Z U (bV m g.vs i i.b tG))):=
  kP m g i i.b tG A (f.out.j.below (by rw[D.out];exact G.out)) (q.out rfl) (J.out rfl) (f.out.kn _ (q.out rfl))
 clear HD q J HT f;go_enter fx,eV
 go_wp2_with (first
  |(refine ci rfl 184 _ rfl N rfl 184 (jg m g) (0,0) _ ud.out cI rfl (by kernel_rfl) ?_)
  |(refine ci rfl 42 _ rfl (N+1) rfl 42 i.cells (0,0) _ ue.out cJ rfl (by kernel_rfl) ?_)
  |(go_at_call 227;refine ur.out.mono ?_;rintro e w4 ⟨rfl,uc⟩;have uv:=zH uc;clear uc))
 go_ret;rw[u.out,D.out];exact⟨rfl,G.out.trans (uv.out.mono (by omega))⟩
theorem Ez (m:Mo)(g:Fn)(i:Ins)(w:World)(d:i.op=11)(h:dQ w m g i):
  zP 189 #[tW (jg m g),tW i.cells] w (Z U (ay m g.vs i)):=by
 have u:cm (ay m g.vs i=bV m g.vs i i.b tE):=by
  unfold cm ay;rw[d];rfl
 obtain⟨R,v⟩:=zE (ay m g.vs i);rw[v] at u⊢;clear v;have f:=zH h;obtain⟨N,A,hN,ux,va,vc,⟨i0,i1,i2,i3,i4,i6⟩,D,vd,G,ud,ue,HT,HD,q,J⟩:=cu d h;clear h d;have ur:cm (zP 227 #[tW (jg m g),tW i.cells,Z U i.b,tU tE] A (Z U (bV m g.vs i i.b tE))):=
  kP m g i i.b tE A (f.out.j.below (by rw[D.out];exact G.out)) (q.out rfl) (J.out rfl) (f.out.kn _ (q.out rfl))
 clear HD q J HT f;go_enter fx,eV
 go_wp2_with (first
  |(refine ci rfl 184 _ rfl N rfl 184 (jg m g) (0,0) _ ud.out cI rfl (by kernel_rfl) ?_)
  |(refine ci rfl 42 _ rfl (N+1) rfl 42 i.cells (0,0) _ ue.out cJ rfl (by kernel_rfl) ?_)
  |(go_at_call 227;refine ur.out.mono ?_;rintro e w4 ⟨rfl,uc⟩;have uv:=zH uc;clear uc))
 go_ret;rw[u.out,D.out];exact⟨rfl,G.out.trans (uv.out.mono (by omega))⟩
end Go.Proofs.YtjomgckjhcfbgaaGreat
