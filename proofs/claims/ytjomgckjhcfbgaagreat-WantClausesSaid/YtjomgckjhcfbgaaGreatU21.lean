/- Walks. -/
import Derived.Test.YtjomgckjhcfbgaaGreatU20
set_option maxRecDepth 100000
set_option maxHeartbeats 64000000
set_option linter.all false
namespace Go.Proofs.YtjomgckjhcfbgaaGreat
open Go.RowKit
open Go.Proofs.Tryz renaming prog→am,underlying42→cD,underlying38→cQ,underlying3→dl,underlying32→eM,underlying25→fx,underlying88→iu,underlying9→iv,underlying40→nh,underlying4→nj,underlying90→oB
open _root_.List renaming getElem?_eq_getElem→ap,getElem?_eq_some_iff→bl,length_append→bo,mem_of_getElem?→cd,take_length→cR,map_append→dp,eq_nil_of_length_eq_zero→dr,range→du,length_map→dy,length_take→ee,append_nil→ej,append_assoc→eq,mem_filter→gC,take_add_one→ju,take_append_drop→ke,any_eq_true→kh,mem_of_mem_take→kA,range_succ→lp,take_zero→lz,getElem?_take→mz,mem_range→oc,sum_append→oe,map_nil→pm,exists_cons_of_length_eq_add_one→qk
open Go.RowKit.Below renaming refl→aq
open _root_ renaming Int→aw,Nat→bh,List→bj,if_neg→bx,decide_eq_false→cv,Option→cG,if_pos→cI,beq_eq_false_iff_ne→cT,decide_eq_true→cV,beq_false_of_ne→ef,Array→eA,absurd→fL,beq_self_eq_true→iS,if_true→lj,False→me,Bool→mm,decide_eq_true_eq→oE,and_true→pf,bne_iff_ne→pp
open Go.RowKit renaming Below→aE,Hid→cj,intOf→de
open Go renaming heap_setCell_same→bk,cell_of_row→bw,run_storeCells_new→cx,Value→cA,wpQuiet_nil→dj,storeCells→dt,bodyPost_ret→er,maxLen→eC,Addr→fS,Calls→ge,TypeId→gt,info_parts→kB,wpList_append_lies→n5,MemPlace→n9
open _root_.Array renaming getElem?_eq_some_iff→br
open _root_.Nat renaming le_refl→cg,lt_of_lt_of_le→cH,zero_add→cL,zero_le→cN,le_trans→eJ,min_eq_left→gR,le_succ→i5
open Go.Value renaming slice→ci,oneCell'→ct,ownBlock→et,int→eS,string→tS,slice→tU,pointer→tW,bool→ua,agg→ub,int→Z
open _root_.Option.some renaming inj→cE,injEq→dd
open Go.Lib renaming hid→cP
open Go.Addr renaming add_lit→cY
open Go.Exit renaming inBlock→dk
open Go.IntKind renaming i64→dT,signed→ep,wrap→eK,bits→eL,i64→U
open Go.DataW renaming trod_int→eE,trod_struct→ft,trod→kO,trod_string→mp
open _root_.Prod renaming fst→eN,snd→fh
open Go.Addr.mk renaming injEq→eR
open _root_.Int renaming toNat_natCast→eW
open _root_.Bool renaming and_eq_true→fj,eq_iff_iff→tf,true→tP,false→tR
open Go.Value.slice renaming injEq→fm
open _root_.Option renaming some→tG,none→tM
open Go.Obj renaming cells→uc
open Go.Ending renaming returned→ud
open Tryz
theorem EW:(am.info? 50).map (λi=>(i.zero,i.size,i.bytes))=tG (tG (tU tM 0 0),1,24):=by kernel_rfl
def jh (w:World)(base n m:bh)(S:bh->bj bh)(v:cA):Prop:=
 ∃d:bh->bh,w.ownsRow base 50 1 v m ((du m).map λu=>ci (tG ⟨d u,0,tM⟩) n n)/\∀u,u<m->base<=d u/\w.heap[d u]?=tG (uc (seenCells n (S u)) 4 (0,0))
theorem jh.nil (w:World)(base n:bh)(S:bh->bj bh):jh w base n 0 S (tU tM 0 0):=
 ⟨λ_=>0,World.ownsRow_nil _ _ _ _,λu d=>by omega⟩
theorem jh.below {w w':World}{base n m:bh}{S:bh->bj bh}{v:cA}(h:jh w base n m S v)(f:aE w.heap.size w w'):jh w' base n m S v:=by
 obtain⟨g,j,d⟩:=h;exact⟨g,ownsRow_below j f,λu e=>⟨(d u e).1,(f.block _ (br.1 (d u e).2).1).trans (d u e).2⟩⟩
theorem jh.isSlice {w:World}{base n m:bh}{S:bh->bj bh}{v:cA}(h:jh w base n m S v):∃ao cap,v= tU ao m cap:=by
 obtain⟨j,d,_⟩:=h;rcases d.2 with⟨e,f⟩|⟨g,cap,o,e,_⟩
 ·exact⟨tM,0,by rw[e,f]⟩
 ·exact⟨_,_,e⟩
theorem jh.read {w:World}{base n m cap:bh}{ao:cG fS}{S:bh->bj bh}(h:jh w base n m S (tU ao m cap)){u:bh}(d:u<m):
  ∃g b,ao=tG ⟨g,0,tM⟩/\g<w.heap.size/\b<w.heap.size/\w.cell? ⟨g,u,tM⟩=tG (tU (tG ⟨b,0,tM⟩) n n)/\∀x,x<n->w.cell? ⟨b,x,tM⟩=tG (ua (decide (x∈S u))):=by
 obtain⟨j,t,o⟩:=h;rcases t.2 with⟨_,f⟩|⟨g,A,v,e,E,q,G,J,K,y⟩
 ·omega
 ·simp only[fm] at e
  refine⟨g,j u,e.1,(br.1 q).1,(br.1 (o u d).2).1, ?_,λx z=> ?_⟩
  ·rw[bw _ _ _ _ _ _ q]
   have f:(v.toList.take (m*1))[u]?=tG (tU (tG ⟨j u,0,tM⟩) n n):=by rw[y];simp[d]
   rw[mz,cI (by omega)] at f;simpa using f
  ·rw[bw _ _ _ _ _ _ (o u d).2];exact dm _ z
theorem jh.own_ne {w:World}{base n m:bh}{S:bh->bj bh}{v:cA}{h:bh->bh}(j:w.ownsRow base 50 1 v m ((du m).map λu=>ci (tG ⟨h u,0,tM⟩) n n)){b:bh}{o:eA cA}(q:w.heap[b]?=tG (uc o 4 (0,0))):v.ownBlock≠tG b:=by
 intro d;rcases j.2 with⟨e,_⟩|⟨g,t,x,e,y,f,_⟩
 ·subst e;simp[et] at d
 ·subst e
  simp[et] at d;subst d;rw[q] at f;simp at f
theorem jh.app {w w':World}{base n m b g cap:bh}{S:bh->bj bh}{v:cA}{d:bh->bh}(j:w.ownsRow base 50 1 v m ((du m).map λu=>ci (tG ⟨d u,0,tM⟩) n n))(h:∀u,u<m->base<=d u/\w.heap[d u]?=tG (uc (seenCells n (S u)) 4 (0,0)))(o:w.heap[b]?=tG (uc (seenCells n (S m)) 4 (0,0)))(t:base<=b)
  (q:Ext (λk=>v.ownBlock=tG k) w w')
  (x:w'.ownsRow base 50 1 (tU (tG ⟨g,0,tM⟩) (m+1) cap) (m+1) ((du m).map (λu=>ci (tG ⟨d u,0,tM⟩) n n)++[tU (tG ⟨b,0,tM⟩) n n])):jh w' base n (m+1) S (tU (tG ⟨g,0,tM⟩) (m+1) cap):=by
 have y:∀u,u<m->v.ownBlock≠tG (d u):=λu f=>jh.own_ne (S:=S) j (h u f).2;refine⟨λu=>if u=m then b else d u, ?_,λu f=> ?_⟩
 ·have:=x
  have e:(du (m+1)).map (λu=>ci (tG ⟨if u=m then b else d u,0,tM⟩) n n)=(du m).map (λu=>ci (tG ⟨d u,0,tM⟩) n n)++[tU (tG ⟨b,0,tM⟩) n n]:=by
   rw[lp,dp];congr 1
   ·apply List.map_congr_left
    intro u f;rw[bx (by have:=oc.1 f;omega)]
   ·simp
  rw[e];exact this
 ·by_cases e:u=m
  ·subst e
   simp only[cI];exact⟨t,q.heap o (jh.own_ne (S:=S) j o)⟩
  ·simp only[bx e]
   exact⟨(h u (by omega)).1,q.heap (h u (by omega)).2 (y u (by omega))⟩
theorem vU (c:dx)(w:World)(TT:bh->bj bh)(vm:c.inn w)(vp:∀i∈c.ins,i.args.length<=40)(hn:c.ins.length<=400)(wk:c.nvars<=400)(hT:∀v,zm (jW c.ins v) (c.ins.length+1) (dG c.ins v c.ins.length) 0=tG (TT v))(vq:∀v,(TT v).length<=90000):
  ge am 62 #[ub c.cells] w λe w'=>∃ao cap,e= ud (tU ao c.nvars cap)/\jh w' w.heap.size c.ins.length c.nvars (λv=>zg c.ins (TT v) c.ins.length) (tU ao c.nvars cap)/\aE w.heap.size w w':=by
 have vr:=cP vm;obtain⟨C,hC⟩:∃C,c=C:=⟨_,rfl⟩
 have uv:cj (∀v W,C.inn W->ge am 112 #[ub C.cells,Z U ((v:bh):aw)] W (kH W C.ins.length (zg C.ins (TT v) C.ins.length))):=by
  intro v W h;rw[<-hC] at h⊢;exact uq c W v (TT v) h vp hn (hT v) (vq v)
 clear vp hT;obtain⟨nm,o,q,nvars,t,x,y,z,A,E,G,J,K,ins⟩:=c;simp only at hn wk;simp only[dx.cells];obtain⟨n,R⟩:∃n,ins.length=n:=⟨_,rfl⟩
 have vt:C.cells=#[tS nm,Z U o,tU q nvars t,ua x,tS y,Z U z,tU A E G,tU J n K]:=by rw[<-hC,<-R];rfl
 rw[vt,show C.ins=ins by rw[<-hC],R] at uv;obtain⟨i0,wl,ws,xf,xj⟩:=kB EW;obtain⟨N,hN⟩:∃N,w.heap.size=N:=⟨_,rfl⟩
 obtain⟨d,ue⟩:∃d,w.alloc (uc #[tS nm,Z U o,tU q nvars t,ua x,tS y,Z U z,tU A E G,tU J n K] 38)=d:=⟨_,rfl⟩
 have vu:aE N w d:=by rw[<-ue,<-hN];exact(aq _ _).alloc (cg _) _
 have vx:d.heap[N]?=tG (uc #[tS nm,Z U o,tU q nvars t,ua x,tS y,Z U z,tU A E G,tU J n K] 38 (0,0)):=by
  rw[<-ue,<-hN];exact alloc_at _ _
 have xo:d.heap.size=N+1:=by rw[<-ue];simp[hN]
 have HK:cj (∀W,aE (N+1) d W->(W.cell? ⟨N,0,tM⟩=tG (tS nm)/\W.cell? ⟨N,1,tM⟩=tG (Z U o)/\W.cell? ⟨N,2,tM⟩=tG (tU q nvars t)/\W.cell? ⟨N,3,tM⟩=tG (ua x)/\W.cell? ⟨N,4,tM⟩=tG (tS y)/\W.cell? ⟨N,5,tM⟩=tG (Z U z)/\W.cell? ⟨N,6,tM⟩=tG (tU A E G)/\W.cell? ⟨N,7,tM⟩=tG (tU J n K))/\
   C.inn W/\aE N w W/\N+1<=W.heap.size):=by
  intro W hx;have h4:=(hx.block N (by omega)).trans vx;have f:aE N w W:=vu.trans (hx.mono (by omega));refine⟨⟨?_, ?_, ?_, ?_, ?_, ?_, ?_, ?_⟩,by rw[<-hC];exact vr.out.below (by rw[hN];exact f),f,by have:=hx.size;omega⟩<;>(rw[bw _ _ _ _ _ _ h4];rfl)
 have xp:=cP ue;obtain⟨S,hS⟩:∃S,(λv=>zg ins (TT v) n)=S:=⟨_,rfl⟩
 have xt:cj (∀v W,C.inn W->ge am 112 #[ub #[tS nm,Z U o,tU q nvars t,ua x,tS y,Z U z,tU A E G,tU J n K],Z U ((v:bh):aw)] W (kH W n (S v))):=by
  rw[<-hS];exact uv
 rw[R,hS];rw[R] at hn;clear vx xo ue R vu vt hC vr uv hS vq vm;go_enter func62,ntmps62
 go_wp2_with fail
 rw[xp.out]
 go_loopw [3,4] (λva c wr=>∃j:bh,j<=nvars/\c= Z U (j:aw)/\jh wr (N+1) n j S va/\aE (N+1) d wr) (λ_ c _=>nvars-(de c).toNat)
 case atStart=>exact⟨0,cN _,rfl,jh.nil _ _ _ _,aq _ _⟩
 case round=>
  obtain⟨j,hj,rfl,up,f⟩:=hrel;obtain⟨⟨k0,k1,k2,k3,k4,k5,k6,k7⟩,ux,vc,xF⟩:=HK.out wr f;obtain⟨ao,cap,rfl⟩:=up.isSlice
  by_cases zc:j<nvars
  ·have xT:=cP (xt.out j wr ux)
   have zj:(j:aw)<(nvars:aw):=by omega
   have yb:=cP up;have HB:=cP f;clear up f ux vc
   go_wp2_with (first
    |(go_at_call 112;refine xT.out.mono ?_;rintro e w2 ⟨b,rfl,zp,vd,ur⟩;have yd:=cP (yb.out.below ur);have ye:=cP (HB.out.trans (ur.mono xF));have yi:=cP vd;have zs:=ur.size;have zv:b<w2.heap.size:=(br.1 vd).1;obtain⟨bs,vy,we⟩:=yd.out;have vf:=cP vy;have yk:=cP we;clear ur vd vy we)
    |(at_builtin;refine n5 _ rfl _ _ 97 rfl (N+1) 50 i0 (tU tM 0 0) 1 24 underlying97 wl ws xf xj rfl (by decide) _ j _ rfl (ownsRow_below vf.out ((aq w2.heap.size w2).alloc (cg _) _)) ⟨w2.heap.size,0,tM⟩ 1 1 [tU (tG ⟨b,0,tM⟩) n n] rfl rfl (gD _ _ _) (by simp[ct]) (by decide) ?c1 ?c2 ?c3 _ rfl ?_))
   case c1=>unfold eC;omega
   case c2=>omega
   case c3=>rw[World.size_alloc];omega
   intro g5 yp w5 wg wj yq yr;have vh:Ext (λk=>(ci ao j cap).ownBlock=tG k) w2 w5:=((Ext.refl _ w2).alloc _).trans (Ext.of_grown (M:=λk=>(ci ao j cap).ownBlock=tG k) wj (λk hk=> .inl hk)) (λj hj=> .inl hj);have HR:cj (jh w5 (N+1) n (j+1) S (tU (tG ⟨g5,0,tM⟩) (j+1) yp)/\aE (N+1) d w5):=
    ⟨jh.app vf.out yk.out yi.out (by omega) vh wg,ye.out.trans (vh.below (B:=N+1) (by omega) (λk hk=>(vf.out.lt k hk).1))⟩
   clear wg wj yq yr vh;go_wp2;exact⟨⟨j+1,by omega,by simp,HR.out.1,HR.out.2⟩,by simp[de];omega⟩
  ·have yv:j=nvars:=by omega
   subst yv;have HP:cj (jh wr N n j S (tU ao j cap)/\aE N w wr):=⟨by
    obtain⟨bs,h1,h2⟩:=up;refine⟨bs,⟨h1.1, ?_⟩,λu hu=>⟨by have:=(h2 u hu).1;omega,(h2 u hu).2⟩⟩;rcases h1.2 with h|⟨g,yy,yW,e,hg,h3⟩
    ·exact .inl h
    ·exact .inr ⟨g,yy,yW,e,by omega,h3⟩,vc⟩
   clear up f ux vc;go_wp2;go_ret;refine⟨ao,cap,rfl, ?_⟩
   first|exact HP.out|(rw[hN];exact HP.out)
theorem jh.ext {w w':World}{base n m:bh}{S:bh->bj bh}{v:cA}{M:bh->Prop}(h:jh w base n m S v)(f:Ext M w w')(g:∀k,M k->k<base):jh w' base n m S v:=by
 obtain⟨o,j,d⟩:=h;exact⟨o,ah j f (λk q t=>by have:=(j.lt k q).1;have:=g k t;omega),λu e=>⟨(d u e).1,f.heap (d u e).2 (λh=>by have:=g _ h;have:=(d u e).1;omega)⟩⟩
def ut (w:World)(base:bh)(d:bj Ins)(e:bh)(v:cA):Prop:=
 ∃S:bh->bj bh,jh w base d.length e S v/\∀(u x:bh),u<e->x<d.length->decide (x∈S u)=kZ d x (u:aw)
theorem ut.ext {w w':World}{base d:bh}{e:bj Ins}{v:cA}{M:bh->Prop}(h:ut w base e d v)(f:Ext M w w')(g:∀k,M k->k<base):ut w' base e d v:=by
 obtain⟨S,j,o⟩:=h;exact⟨S,j.ext f g,o⟩
theorem ut.read {w:World}{base d cap:bh}{e:bj Ins}{ao:cG fS}(h:ut w base e d (tU ao d cap)){v:aw}{x:bh}(o:isVar d v=tP)(j:x<e.length):
  ∃(u g b:bh),v=(u:aw)/\u<d/\ao=tG ⟨g,0,tM⟩/\g<w.heap.size/\b<w.heap.size/\w.cell? ⟨g,u,tM⟩=tG (tU (tG ⟨b,0,tM⟩) e.length e.length)/\w.cell? ⟨b,x,tM⟩=tG (ua (kZ e x v)):=by
 obtain⟨S,q,t⟩:=h;obtain⟨J,K⟩:=bP.1 o;obtain⟨u,rfl⟩:∃u:bh,v=(u:aw):=⟨v.toNat,by omega⟩
 have f:u<d:=by omega
 obtain⟨g,b,y,z,A,E,G⟩:=q.read f;exact⟨u,g,b,rfl,f,y,z,A,E,by rw[G x j,t u x f j]⟩
theorem Dn (c:dx)(w:World)(h:c.inn w)(j:∀i∈c.ins,i.args.length<=40)(o:c.ins.length<=400)(q:c.nvars<=400):
  ge am 62 #[ub c.cells] w λe w'=>∃ao cap,e= ud (tU ao c.nvars cap)/\ut w' w.heap.size c.ins c.nvars (tU ao c.nvars cap)/\aE w.heap.size w w':=by
 refine(vU c w (λv=>(DW c.ins v).choose) h j o q (λv=>(DW c.ins v).choose_spec.1) (λv=>by have:=(DW c.ins v).choose_spec.2.2.1;omega)).mono ?_;rintro e w' ⟨ao,cap,t,z,A⟩;refine⟨ao,cap,t,⟨_,z,λu x G E=> ?_⟩,A⟩;have g:=(DW c.ins u).choose_spec.2.1;rw[tf,decide_eq_true_iff,Bh,eW];unfold zg iW eF;rw[gC];simp only[oc,kh,oE];constructor
 ·rintro⟨_,y,d,f⟩
  exact⟨y,d,(g y).1 f⟩
 ·rintro⟨y,d,f⟩
  exact⟨E,y,d,(g y).2 f⟩
section
variable {T:bh}{m:Mo}{lv:cG fS×bh}{N:aw}{C:bj (bj aw)}{Y:bj (aw×aw)}{B:bh}{S:bh->Prop}{s:Gu}{w w' W w2 w9:World}
def qU (T:bh)(m:Mo)(lv:cG fS×bh)(N:aw)(C:bj (bj aw))(Y:bj (aw×aw))(B:bh)(S:bh->Prop)(y:aw×aw)(w:World)(L:bj (bj aw))(W:World):Prop:=
 fD T m lv N (C++L) (Y++L.map λ_=>y) B S w W
theorem qU.start {y:aw×aw}(h:fD T m lv N C Y B S w W):qU T m lv N C Y B S y w [] W:=by
 unfold qU;simpa using h
theorem qU.grow {y:aw×aw}{L:bj (bj aw)}(h:qU T m lv N C Y B S y w L W)(d:aE W.heap.size W w'):qU T m lv N C Y B S y w L w':=by
 unfold qU at h⊢;exact h.trans λf e=>e.same d
theorem Hu {xs:bj aw}(w:World):dH (w.alloc (uc (xs.map (eS .i64)).toArray 3)) (tG ⟨w.heap.size,0,tM⟩) xs:=by
 intro e;refine⟨w.heap.size,0,rfl,by simp,λi x hi k u d=> ?_⟩;cases k with
 |succ k=>simp at d
 |zero=>
  obtain rfl:eS .i64 x=u:=by simpa using d
  rw[bw _ _ _ _ _ _ (alloc_at _ _)];simp[hi]
theorem aQ {y:aw×aw}{L:bj (bj aw)}(h:qU T m lv N C Y B S y w L W)(xs:bj aw)(n:bh)(o:n=xs.length)(f:eA cA)(t:f=(xs.map (eS .i64)).toArray)(R:C.length+L.length+1<=1000000)(ue:Y.length+L.length+1<=1000000):
  ge am 61 #[tW (tG ⟨T,0,tM⟩),Z U y.1,Z U y.2,tU (tG ⟨W.heap.size,0,tM⟩) n n] (W.alloc (uc f 3)) λe w'=>e= ud (.tuple #[])/\qU T m lv N C Y B S y w (L++[xs]) w':=by
 subst o t;obtain⟨s1,d,g,n1⟩:=h;have j:aE W.heap.size W (W.alloc (uc (xs.map (eS .i64)).toArray 3)):=(aq _ _).alloc (cg _) _;refine(Dj _ (d.grow j) xs _ _ (Hu W) (λ_ a u=> ?_) y.1 y.2 (by simp;omega) (by simp;omega)).mono ?_
 ·obtain rfl:=cE u
  exact⟨by have:=d.lo;have:=aa d.row;show B<=W.heap.size;omega,λv=>Nat.lt_irrefl _ (d.lt v).2⟩
 ·rintro e w' ⟨rfl,x⟩
  refine⟨rfl, ?_⟩;unfold qU;rw[dp,<-eq,<-eq];obtain⟨z,A,E,G⟩:=x.below j;refine⟨z,A,g.trans E (λq J=>n1 q J),λk K=> ?_⟩;rcases G k K with h|h
  ·exact n1 k h
  ·exact .inr (eJ g.size h)
theorem DX {y:aw×aw}{L:bj (bj aw)}(h:qU T m lv N C Y B S y w L W)(f v:aw)(d:m.ptrs.length<=1000000):
  zS 113 #[tW (tG ⟨T,0,tM⟩),Z U f,Z U v] W (Z U (aG 0 m.ptrs (f,v))):=by
 obtain⟨g,e,_,_⟩:=h;exact Gp W e f v d
end
theorem Bu (P:bj (aw×aw))(x:aw×aw):0<=aG 0 P x/\aG 0 P x<=2*(P.length:aw):=by
 by_cases h:x∈P
 ·have:=mG (k:=0) h;omega
 ·rw[kD h];omega
theorem qU.ext {T:bh}{m:Mo}{lv:cG fS×bh}{N:aw}{C:bj (bj aw)}{Y:bj (aw×aw)}{B:bh}{S:bh->Prop}{y:aw×aw}{w W:World}{L:bj (bj aw)}(h:qU T m lv N C Y B S y w L W):Ext S w W:=by
 obtain⟨_,_,e,_⟩:=h;exact e
theorem BI {W:World}{d:fS}{v:cA}(h:W.cell? d=tG v)(e:d.block<W.heap.size)(p:BW W):p.w.cell? d=tG v:=by rw[p.h.cell e];exact h
theorem BJ {z:aw}(h:0<=z/\z<=1000000):dT.wrap (-z)= -z/\dT.wrap (z+1)=z+1/\dT.wrap (-(z+1))= -(z+1):=by
 refine⟨?_, ?_, ?_⟩<;>(simp[eK,eL,ep];omega)
theorem ak.known {W:World}{b d:bh}{xs:bj aw}(h:ak W (tG ⟨b,d,tM⟩) xs)(f:xs≠[]):b<W.heap.size/\∀(i:bh)(z:aw),xs[i]?=tG z->W.cell? ⟨b,d+i,tM⟩=tG (Z U z):=by
 obtain⟨o,q,e,g,j⟩:=h f;simp only[dd,eR,pf] at e;obtain⟨rfl,rfl⟩:=e;exact⟨g,j⟩
section
variable {T:bh}{m:Mo}{lv:cG fS×bh}{N:aw}{C:bj (bj aw)}{Y:bj (aw×aw)}{B:bh}{s:Gu}
theorem Bv (w:World)(h:Rb T m lv N C Y B s w)(hp:m.ptrs.length<=20000)(f:aw)(k:bh)(i:Ins)(ga:cG fS)(gc:bh)(AW:i.argsV= tU ga i.args.length gc)(B7:∃ao n cap,i.modeV= tU ao n cap)
  (yy:∀W,Ext (lg T C.length Y.length s) w W->ak W ga i.args)(B8:i.args.length<=40)(ao:cG fS)(nv cap bt:bh)(G:bj Ins)(yW:∀W,Ext (lg T C.length Y.length s) w W->ut W bt G nv (tU ao nv cap))
  (hk:k<G.length)(DG:G.length<=400)(DH:nv<=400)(hv:∀a∈i.args,isVar nv a=tP)(hl:C.length+200<=1000000)(DM:Y.length+200<=1000000):
  ge am 114 #[tW (tG ⟨T,0,tM⟩),Z U f,Z U (k:aw),ub i.cells,tU ao nv cap] w λe w'=>e= ud (.tuple #[])/\
   fD T m lv N (C++fI (aG 0 m.ptrs) f (λv=>kZ G k v) i) (Y++(fI (aG 0 m.ptrs) f (λv=>kZ G k v) i).map λ_=>(f,(k:aw))) B (lg T C.length Y.length s) w w':=by
 obtain⟨F,hF⟩:=zE (aG 0 m.ptrs);have vr:∀x,0<=F x/\F x<=1000000:=λx=>by have:=Bu m.ptrs x;rw[hF] at this;omega
 obtain⟨D,hD⟩:=zE w.heap.size;obtain⟨W1,vu⟩:=zE (w.alloc (uc i.cells 42));have xT:aE w.heap.size w W1:=il vu;have r1:W1.heap[D]?=tG (uc i.cells 42 (0,0)):=by rw[<-vu,<-hD];exact alloc_at _ _
 have zc:¬lg T C.length Y.length s D:=λhs=>by have:=(h.lt hs).2;omega
 have zj:=qU.start (y:=(f,(k:aw))) ((h.grow xT).same (aq _ _));obtain⟨S,hS⟩:=zE (lg T C.length Y.length s);rw[hS] at yy yW zc zj⊢;have HO:cj (∀L W,qU T m lv N C Y B S (f,(k:aw)) W1 L W->∀g v,zS 113 #[tW (tG ⟨T,0,tM⟩),Z U g,Z U v] W (Z U (F (g,v)))):=λL W t g v=>by
  rw[<-hF];exact DX t g v (by omega)
 have zp:cj (∀W,Ext S W1 W->Ext S w W):=λW K=>(Ext.of_below_size xT).trans K (λq hq=> .inl hq);have yb:cj (∀W,Ext S W1 W->ak W ga i.args):=λW K=>yy W (zp.out W K);have HT:cj (∀W,Ext S W1 W->ut W bt G nv (tU ao nv cap)):=λW K=>yW W (zp.out W K);have yd:cj (∀w',qU T m lv N C Y B S (f,(k:aw)) W1 (fI F f (λv=>kZ G k v) i) w'->fD T m lv N (C++fI F f (λv=>kZ G k v) i) (Y++(fI F f (λv=>kZ G k v) i).map λ_=>(f,(k:aw))) B S w w'):=λw' t=>fD.below xT t;rw[hF];clear yy yW zp h;obtain⟨J,zs⟩:=zE (λv=>kZ G k v);have B9:cj (∀v,kZ G k v=J v):=λv=>by rw[<-zs]
 rw[zs] at yd⊢;obtain⟨mo,mn,mc,A0⟩:=B7;obtain⟨o,vx⟩:=zE (iV F (λv=>F (f,v)) J i 0);have Cd:cj (o []=[]):=by unfold cj;rw[<-vx];rfl
 have A1:cj (∀(l:bj aw)(a:aw),o (l++[a])=o l++l8 (λv=>F (f,v)) (F (i.f,((l.length:bh):aw))) (dE J i.d i.args l.length a) a):=λl a=>by
  rw[<-vx,nX,cL]
 have A2:cj (∀l:bj aw,(o l).length<=3*l.length):=λl=>by rw[<-vx];exact mI _ _
 have A3:fI F f J i=o i.args++(if 0<F (f,i.d) then[[-(F (f,i.d)),F (i.f,-1)],[F (f,i.d),-(F (i.f,-1))],[-(F (f,i.d)+1),F (i.f,-1)+1],[F (f,i.d)+1,-(F (i.f,-1)+1)]] else[]):=by
  rw[<-vx];rfl
 obtain⟨CG,zv⟩:=zE (fI F f J i);rw[zv] at yd⊢;have uv:=zH (zv.symm.trans A3);obtain⟨op,d,a,bb,A,nn,DO,argsV,modeV,DP,DQ,ln,cl,args⟩:=i;simp only at AW A0 B8 hv yb A1 uv;subst AW A0;simp only[Ins.cells] at r1 vu⊢;have HC:cj (∀W,Ext S W1 W->W.cell? ⟨D,1,tM⟩=tG (Z U d)/\W.cell? ⟨D,4,tM⟩=tG (Z U A)/\W.cell? ⟨D,7,tM⟩=tG (tU ga args.length gc)/\D<W.heap.size):=λW K=>by
  have t:=K.heap r1 zc;exact⟨zR t 1 _,zR t 4 _,zR t 7 _,aa t⟩
 have Cl:=zH zj;have Cp:=zH vu;obtain⟨c1,c4,c7,_⟩:=HC.out W1 (Ext.refl _ _);clear r1 zc zj hS vx A3 zv zs hF;go_enter func114,ntmps114
 go_upto_region 1 with(fail)
 clear vu Cp xT
 go_wp2_with fail
 go_loopw [10] (λc wr=>∃j:bh,j<=args.length/\c= Z U (j:aw)/\qU T m lv N C Y B S (f,(k:aw)) W1 (o (args.take j)) wr) (λc _=>args.length-(de c).toNat)
 case atStart=>exact⟨0,cN _,rfl,by rw[lz,Cd.out];exact Cl.out⟩
 case round=>
  rename World=>wr;obtain⟨j,hj,rfl,t⟩:=hrel;have ye:=t.ext;obtain⟨c1,c4,c7,_⟩:=HC.out wr ye;have R:=zH t
  by_cases vh:j<args.length
  ·have DS:(j:aw)<(args.length:aw):=by omega
   obtain⟨a,ha⟩:∃a,args[j]?=tG a:=⟨_,ap vh⟩
   have CA:args≠[]:=by intro e;rw[e] at vh;simp at vh
   obtain⟨ag,yi,yk,ux,E⟩:=yb.out wr ye CA;subst yk;have A4:=hv a (cd ha);have A5:args.take (j+1)=args.take j++[a]:=by rw[ju,ha];rfl
   have An:o (args.take (j+1))=o (args.take j)++(if F (A,(j:aw))=0 then[] else[[-(F (A,(j:aw))),F (f,a)]]++(if dE J d args j a=tP then[[-(F (A,(j:aw)))]] else[])++[[-(F (A,(j:aw))+1),F (f,a),F (f,a)+1]]):=by
    rw[A5,A1.out,ee,gR (by omega)];rfl
   obtain⟨z,hz⟩:=zE (F (A,(j:aw)));obtain⟨oa,yp⟩:=zE (F (f,a));have vy:=vr (A,(j:aw));have A6:=vr (f,a);have vm:cj (∀(p:BW wr) g v,zS 113 #[tW (tG ⟨T,0,tM⟩),Z U g,Z U v] p.w (Z U (F (g,v)))):=λp g v=>HO.out _ _ (R.out.grow p.h) g v;have o1:cj (∀p:BW wr,zS 113 #[tW (tG ⟨T,0,tM⟩),Z U f,Z U a] p.w (Z U oa)):=λp=>by rw[<-yp];exact vm.out p _ _
   have o2:cj (∀p:BW wr,zS 113 #[tW (tG ⟨T,0,tM⟩),Z U A,Z U (j:aw)] p.w (Z U z)):=λp=>by rw[<-hz];exact vm.out p _ _
   have k4:∀p:BW wr,p.w.cell? ⟨D,4,tM⟩=tG (Z U A):=λp=>(HC.out p.w (R.out.grow p.h).ext).2.1;have k7:∀p:BW wr,p.w.cell? ⟨D,7,tM⟩=tG (tU (tG ⟨ag,yi,tM⟩) args.length gc):=λp=>(HC.out p.w (R.out.grow p.h).ext).2.2.1;have ka:∀p:BW wr,p.w.cell? ⟨ag,yi+j,tM⟩=tG (Z U a):=BI (E j a ha) ux;rw[hz,yp] at An;rw[hz] at vy;rw[yp] at A6;have At:=zH An;have HA:=zH ha;have CC:=zH A4;clear t ye E ux ha A4 A5 An hz yp vm
   go_upto_region 4 with(fail)
   clear c1 c4 c7;refine zQ ?_
   iterate 8 (go_big_quiet_step ((go_at_call 113;exact eO (o1.out _))))
   iterate 7 (go_big_quiet_step ((go_at_call 113;exact eO (o2.out _))))
   refine dj ?_;rintro _ ⟨p,rfl⟩;have vp:=R.out.grow p.h;obtain⟨w5,we⟩:=zE p.w;rw[we] at vp⊢;have ue:=zH vp;clear o1 o2 k4 k7 ka we p R vp
   by_cases up:z=0
   ·have b0:(z==0)=tP:=by rw[up];rfl
    have vc:cj (o (args.take (j+1))=o (args.take j)):=by unfold cj;rw[At.out,cI up,ej]
    clear up At vy;go_wp2;go_roundw
    case rel=>exact⟨j+1,by omega,by go_num,by rw[vc.out];exact ue.out⟩
    case measure=>simp[de];omega
   have b0:(z==0)=tR:=by rw[cT];exact up
   have vc:cj (o (args.take (j+1))=o (args.take j)++([[-z,oa]]++(if dE J d args j a=tP then[[-z]] else[])++[[-(z+1),oa,oa+1]])):=by unfold cj;rw[At.out,bx up]
   obtain⟨u,D0,D1,CD,D2,CH,Bk,Ax,wg,ur⟩:=(HT.out w5 ue.out.ext).read CC.out hk;subst CD CH;rw[B9.out] at ur;have D3:(u:aw)<(nv:aw):=by omega
   have D4:(k:aw)<(G.length:aw):=by omega
   obtain⟨x1,x4,x7,wj⟩:=HC.out w5 ue.out.ext;obtain⟨Ek,EV,yk,ux,E⟩:=yb.out w5 ue.out.ext (by intro e;rw[e] at vh;simp at vh);simp only[dd,eR,pf] at yk;obtain⟨rfl,rfl⟩:=yk;have xa:=E j _ HA.out
   go_upto_region 6 with(fail)
   go_cut [13] (λAD wc=>AD= ua (J (u:aw)&&decide ((u:aw)≠d))/\aE w5.heap.size w5 wc)
   case first=>
    have k7:=BI x7 wj;have k1:=BI x1 wj;have k3:=BI wg Bk;have ka:=BI xa ux;cases vd:J (u:aw) with
    |true=>
     rw[vd] at ur;have k4:=BI ur Ax
     by_cases vt:(u:aw)=d
     ·have t1:((u:aw)==d)=tP:=by rw[vt];exact iS _
      have t2:((u:aw) != d)=tR:=by rw[bne,t1];rfl
      have vq:cj (decide ((u:aw)≠d)=tR):=cv (λh=>h vt);have wk:=zH vd;clear vt vd x1 x4 x7 wg ur xa E;refine zQ ?_
      repeat (go_big_quiet_step (fail))
      refine dj ?_;rintro _ ⟨q,rfl⟩;have hq:=q.h;go_wp2
      go_meet
      case rel=>exact⟨by rw[vq.out,wk.out];rfl,hq⟩
     ·have t1:((u:aw)==d)=tR:=ef vt
      have t2:((u:aw) != d)=tP:=by rw[bne,t1];rfl
      have vq:cj (decide ((u:aw)≠d)=tP):=cV vt;have wk:=zH vd;clear vt vd x1 x4 x7 wg ur xa E;refine zQ ?_
      repeat (go_big_quiet_step (fail))
      refine dj ?_;rintro _ ⟨q,rfl⟩;have hq:=q.h;go_wp2
      go_meet
      case rel=>exact⟨by rw[vq.out,wk.out];rfl,hq⟩
    |false=>
     rw[vd] at ur;have k4:=BI ur Ax;have wk:=zH vd;clear vd x1 x4 x7 wg ur xa E;refine zQ ?_
     repeat (go_big_quiet_step (fail))
     refine dj ?_;rintro _ ⟨q,rfl⟩;have hq:=q.h;go_wp2
     go_meet
     case rel=>exact⟨by rw[wk.out];rfl,hq⟩
   case rest=>
   obtain⟨rfl,Bm⟩:=hcut;have Bs:=zH (ue.out.grow Bm);obtain⟨y0,AE⟩:=zE (J (u:aw)&&decide ((u:aw)≠d));obtain⟨PQ,AF⟩:=zE (λq:bh=>decide (q≠j)&&args.getD q 0==(u:aw));have CM:cj (dE J d args j (u:aw)=(y0||(du args.length).any PQ)):=by
    unfold cj dE;rw[<-AE,<-AF];exact(Bool.or_comm _ _).trans (by rw[Bool.and_comm (decide _)])
   have CN:cj (∀q,PQ q=(decide (q≠j)&&args.getD q 0==(u:aw))):=λq=>by rw[<-AF]
   rw[AE];have CT:cj (∀W,aE wc.heap.size wc W->W.cell? ⟨D,7,tM⟩=tG (tU (tG ⟨ag,yi,tM⟩) args.length gc)/\D<W.heap.size/\ag<W.heap.size/\∀(i:bh)(z:aw),args[i]?=tG z->W.cell? ⟨ag,yi+i,tM⟩=tG (Z U z)):=λW K=>by
    have hx:=(Bs.out.grow K).ext;obtain⟨_,_,h7,hl⟩:=HC.out W hx;obtain⟨ha,hb⟩:=(yb.out W hx).known (by intro e;rw[e] at vh;simp at vh);exact⟨h7,hl,ha,hb⟩
   clear AF AE Bm x1 x4 x7 wj xa E ux Bk Ax wg ur ue
   go_upto_region 8 with(fail)
   go_loopw [13,14] (λAD AH wl=>∃q:bh,q<=args.length/\AH= Z U (q:aw)/\AD= ua (y0||(du q).any PQ)/\aE wc.heap.size wc wl) (λ_ AH _=>args.length-(de AH).toNat)
   case atStart=>exact⟨0,cN _,rfl,by simp,aq _ _⟩
   case round=>
    rename World=>wl;obtain⟨q,hq,rfl,rfl,ws⟩:=hrel;obtain⟨h7,wj,ux,E⟩:=CT.out wl ws;have By:=zH ws
    by_cases C4:q<args.length
    ·have E0:(q:aw)<(args.length:aw):=by omega
     obtain⟨a2,AI⟩:∃a2,args[q]?=tG a2:=⟨_,ap C4⟩
     have HQ:cj ((du (q+1)).any PQ=((du q).any PQ||(decide (q≠j)&&a2==(u:aw)))):=by
      unfold cj;rw[lp,List.any_append];simp[CN.out,AI]
     obtain⟨y1,AK⟩:=zE (y0||(du q).any PQ);have C5:=zH AK;rw[AK];have k7:=BI h7 wj;have ka:=BI (E q a2 AI) ux;have kj:=BI (E j _ HA.out) ux;clear ws AI E AK;have BE:∀(y2:mm)(W:World),y2=(y1||(decide (q≠j)&&a2==(u:aw)))->aE wl.heap.size wl W->∃q':bh,q'<=args.length/\eS .i64 ((q:aw)+1)= Z U (q':aw)/\ua y2= ua (y0||(du q').any PQ)/\aE wc.heap.size wc W:=λy2 W h2 K=>
      ⟨q+1,by omega,by go_num,by rw[HQ.out,h2,<-C5.out,Bool.or_assoc],By.out.trans (K.mono By.out.size)⟩
     have AM:=zH BE;clear BE
     go_upto_region 10 with(fail)
     clear h7;cases y1 with
     |true=>
      refine zQ ?_
      repeat (go_big_quiet_step (fail))
      refine dj ?_;rintro _ ⟨p,rfl⟩;have hp:=p.h;go_wp2;go_roundw
      case rel=>exact AM.out _ _ rfl hp
      case measure=>simp[de];omega
     |false=>
      by_cases xf:q=j
      ·have t1:((q:aw)==(j:aw))=tP:=by rw[xf];exact iS _
       have t2:((q:aw) != (j:aw))=tR:=by rw[bne,t1];rfl
       have vq:cj (decide (q≠j)=tR):=cv (λh=>h xf);clear xf;refine zQ ?_
       repeat (go_big_quiet_step (fail))
       refine dj ?_;rintro _ ⟨p,rfl⟩;have hp:=p.h;go_wp2;go_roundw
       case rel=>exact AM.out _ _ (by rw[vq.out];rfl) hp
       case measure=>simp[de];omega
      ·have t1:((q:aw)==(j:aw))=tR:=ef (by omega)
       have t2:((q:aw) != (j:aw))=tP:=by rw[bne,t1];rfl
       have vq:cj (decide (q≠j)=tP):=cV xf;clear xf;obtain⟨y3,C6⟩:=zE (a2==(u:aw));have C7:=zH C6;refine zQ ?_
       repeat (go_big_quiet_step (fail))
       refine dj ?_;rintro _ ⟨p,rfl⟩;have hp:=p.h;go_wp2;go_roundw
       case rel=>exact AM.out _ _ (by rw[vq.out,C7.out];rfl) hp
       case measure=>simp[de];omega
    ·have Dd:q=args.length:=by omega
     subst Dd;have BT:=zH (Bs.out.grow ws);have BY:cj (dE J d args j (u:aw)=(y0||(du args.length).any PQ)):=CM.out;obtain⟨y4,B5⟩:=zE (y0||(du args.length).any PQ);rw[B5] at BY⊢;rw[BY.out] at vc;have Dg:=(BJ vy).1;have Do:=(BJ vy).2.1;have Ds:=(BJ vy).2.2;have E2:=(BJ A6).2.1;have xj:=zH (A2.out (args.take j));obtain⟨LL,xo⟩:=zE (o (args.take j));rw[xo] at vc BT xj;have DA:LL.length<=120:=by
      have:=xj.out;rw[ee] at this;omega
     clear ws E B5 xo
     go_upto_region 12 with(go_at_call 61;refine(aQ (y:=(f,(k:aw))) BT.out [-z,oa] 2 rfl _ rfl (by omega) (by omega)).mono ?_;rintro e w6 ⟨rfl,xp⟩;have yq:=zH xp;clear xp)
     cases y4 with
     |true=>
      rw[cI rfl] at vc
      go_upto_region 14 with(go_at_call 61;refine(aQ (y:=(f,(k:aw))) yq.out [-z] 1 rfl _ rfl (by simp;omega) (by simp;omega)).mono ?_;rintro e w7 ⟨rfl,xt⟩;have AN:=zH xt;clear xt)
      go_wp2_with (go_at_call 61;refine(aQ (y:=(f,(k:aw))) AN.out [-(z+1),oa,oa+1] 3 rfl _ rfl (by simp;omega) (by simp;omega)).mono ?_;rintro e w8 ⟨rfl,vf⟩;have xF:=zH vf;clear vf)
      go_roundw
      case rel=>exact⟨j+1,by omega,by go_num,by rw[vc.out];simpa using xF.out⟩
      case measure=>simp[de];omega
     |false=>
      rw[bx Bool.false_ne_true] at vc
      go_wp2_with (go_at_call 61;refine(aQ (y:=(f,(k:aw))) yq.out [-(z+1),oa,oa+1] 3 rfl _ rfl (by simp;omega) (by simp;omega)).mono ?_;rintro e w8 ⟨rfl,vf⟩;have xF:=zH vf;clear vf)
      go_roundw
      case rel=>exact⟨j+1,by omega,by go_num,by rw[vc.out];simpa using xF.out⟩
      case measure=>simp[de];omega
  ·have DB:j=args.length:=by omega
   subst DB;rw[cR] at R;obtain⟨zd,AS⟩:=zE (F (f,d));obtain⟨zr,AT⟩:=zE (F (A,-1));have yr:=vr (f,d);have yv:=vr (A,-1);rw[AS] at yr uv;rw[AT] at yv uv;have vm:cj (∀(p:BW wr) g v,zS 113 #[tW (tG ⟨T,0,tM⟩),Z U g,Z U v] p.w (Z U (F (g,v)))):=λp g v=>HO.out _ _ (R.out.grow p.h) g v;have o1:cj (∀p:BW wr,zS 113 #[tW (tG ⟨T,0,tM⟩),Z U f,Z U d] p.w (Z U zd)):=λp=>by rw[<-AS];exact vm.out p _ _
   have o2:cj (∀p:BW wr,zS 113 #[tW (tG ⟨T,0,tM⟩),Z U A,Z U (-1)] p.w (Z U zr)):=λp=>by rw[<-AT];exact vm.out p _ _
   have k1:∀p:BW wr,p.w.cell? ⟨D,1,tM⟩=tG (Z U d):=λp=>(HC.out p.w (R.out.grow p.h).ext).1;have k4:∀p:BW wr,p.w.cell? ⟨D,4,tM⟩=tG (Z U A):=λp=>(HC.out p.w (R.out.grow p.h).ext).2.1;have E3:=zH vr;clear t ye AS AT vm vr
   go_upto_region 15 with(fail)
   clear c1 c4 c7;refine zQ ?_
   iterate 5 (go_big_quiet_step ((go_at_call 113;exact eO (o1.out _))))
   iterate 6 (go_big_quiet_step ((go_at_call 113;exact eO (o2.out _))))
   refine dj ?_;rintro _ ⟨p,rfl⟩;have vp:=R.out.grow p.h;obtain⟨w5,we⟩:=zE p.w;rw[we] at vp⊢;have ue:=zH vp;have xj:=zH (A2.out args);obtain⟨LL,xo⟩:=zE (o args);rw[xo] at uv ue xj;have DA:LL.length<=120:=by
    have:=xj.out;omega
   clear o1 o2 k1 k4 we p R vp xo
   by_cases up:0<zd
   ·rw[cI up] at uv
    have t0:decide (0<zd)=tP:=cV up;have Dg:=(BJ yr).1;have Do:=(BJ yr).2.1;have Ds:=(BJ yr).2.2;have E4:=(BJ yv).1;have E6:=(BJ yv).2.1;have E7:=(BJ yv).2.2
    go_upto_region 18 with(go_at_call 61;refine(aQ (y:=(f,(k:aw))) ue.out [-zd,zr] 2 rfl _ rfl (by omega) (by omega)).mono ?_;rintro e w6 ⟨rfl,xp⟩;have yq:=zH xp;clear xp)
    go_upto_region 19 with(go_at_call 61;refine(aQ (y:=(f,(k:aw))) yq.out [zd,-zr] 2 rfl _ rfl (by simp;omega) (by simp;omega)).mono ?_;rintro e w7 ⟨rfl,xt⟩;have AN:=zH xt;clear xt)
    go_upto_region 20 with(go_at_call 61;refine(aQ (y:=(f,(k:aw))) AN.out [-(zd+1),zr+1] 2 rfl _ rfl (by simp;omega) (by simp;omega)).mono ?_;rintro e w8 ⟨rfl,vf⟩;have xF:=zH vf;clear vf)
    go_wp2_with (go_at_call 61;refine(aQ (y:=(f,(k:aw))) xF.out [zd+1,-(zr+1)] 2 rfl _ rfl (by simp;omega) (by simp;omega)).mono ?_;rintro e w9 ⟨rfl,B6⟩;have DE:=zH B6;clear B6)
    go_end0
    exact⟨rfl,yd.out _ (by rw[uv.out];simpa using DE.out)⟩
   ·rw[bx up,ej] at uv
    have t0:decide (0<zd)=tR:=cv up;go_wp2
    go_end0
    exact⟨rfl,yd.out _ (by rw[uv.out];exact ue.out)⟩
end
theorem Bw {w:World}{b:bh}{d:eA cA}{t:gt}(h:w.heap[b]?=tG (uc d t (0,0))):∀j u,d.toList[j]?=tG u->w.cell? ((⟨b,0,tM⟩:fS).add j)=tG u:=by
 intro j u e;rw[cY,cL,bw _ _ _ _ _ _ h];simpa using e
section
variable {T:bh}{m:Mo}{lv:cG fS×bh}{N:aw}{C:bj (bj aw)}{Y:bj (aw×aw)}{B:bh}{s:Gu}
theorem Bz (w:World)(h:Rb T m lv N C Y B s w)(hp:m.ptrs.length<=20000)(f k:bh)(g:Fn)(i:Ins)(hg:m.fs[f]?=tG g)(hi:g.c.ins[k]?=tG i)
  (we:∀W,Ext (lg T C.length Y.length s) w W->m.inn W)(zv:i.args.length<=40)(ao:cG fS)(K cap bt:bh)(yp:∀W,Ext (lg T C.length Y.length s) w W->ut W bt g.c.ins K (tU ao K cap))
  (Bm:g.c.ins.length<=400)(Bs:K<=400)(An:i.op=9->isVar K i.a=tP)(At:i.op=11->isVar K i.b=tP)(Ax:i.op=15->∀a∈i.args,isVar K a=tP)(hl:C.length+200<=1000000)(By:Y.length+200<=1000000):
  ge am 63 #[tW (tG ⟨T,0,tM⟩),Z U (f:aw),Z U (k:aw),tU ao K cap] w λe w'=>e= ud (.tuple #[])/\
   fD T m lv N (C++aA (aG 0 m.ptrs) (f:aw) (λv=>kZ g.c.ins k v) i) (Y++(aA (aG 0 m.ptrs) (f:aw) (λv=>kZ g.c.ins k v) i).map λ_=>((f:aw),(k:aw))) B (lg T C.length Y.length s) w w':=by
 have yq:=we w (Ext.refl _ _);have vr:=yq.fin g (cd hg);have vm:=(bl.1 hi).1;have AD:=(bl.1 hg).1;obtain⟨BE,ga,gc,yr,_⟩:=vr.code.args i (cd hi);obtain⟨mo,mn,mc,AE⟩:∃mo mn mc,i.modeV= tU mo mn mc:=by
  obtain⟨mo,mc,h1,_⟩:=vr.mds k i (g.mds[k]'(by rw[vr.nmds];exact vm)) hi (ap _);exact⟨mo,_,mc,h1⟩
 obtain⟨F,hF⟩:=zE (aG 0 m.ptrs);have AF:∀x,0<=F x/\F x<=1000000:=λx=>by have:=Bu m.ptrs x;rw[hF] at this;omega
 obtain⟨D,hD⟩:=zE w.heap.size;obtain⟨W1,wg⟩:=zE (w.alloc (uc i.cells 42));have vt:aE w.heap.size w W1:=il wg;have r1:W1.heap[D]?=tG (uc i.cells 42 (0,0)):=by rw[<-wg,<-hD];exact alloc_at _ _
 have wj:¬lg T C.length Y.length s D:=λhs=>by have:=(h.lt hs).2;omega
 have yv:=qU.start (y:=((f:aw),(k:aw))) ((h.grow vt).same (aq _ _));obtain⟨fb,fo,BT,_,AH⟩:=yq.frow (by intro e;rw[e] at AD;simp at AD);have cf:=AH f g hg 7 _ rfl;obtain⟨ib,io,BY,_,AI⟩:=vr.code.row (by intro e;rw[e] at vm;simp at vm);have AK:cj (∀q u,i.cells.toList[q]?=tG u->w.cell? ((⟨ib,io+k*13,tM⟩:fS).add q)=tG u):=λq u hu=>by rw[cY];exact AI k i hi q u hu
 have c1:w.cell? ⟨T,1,tM⟩=tG (tU m.fA m.fs.length m.fC):=(rowAt h.row 1 rfl).1;have B5:=aa h.row;have hst:∀c:eA cA,c.size=13->(dt ⟨w.heap.size,0,tM⟩ i.cells.toList).run am (w.alloc (uc c 42))= .ok () (w.alloc (uc i.cells 42)):=λc hc=>
  cx (P:=am) w 42 c i.cells (by show _=tG 13;kernel_rfl) hc (nz BE)
 rw[wg,hD] at hst;rw[BT] at c1;rw[BY] at cf;obtain⟨S,hS⟩:=zE (lg T C.length Y.length s);rw[hS] at we yp wj yv⊢;have yy:cj (∀W,Ext S W1 W->Ext S w W):=λW hW=>(Ext.of_below_size vt).trans hW (λq hq=> .inl hq);have B6:cj (∀W,Ext S W1 W->m.inn W):=λW hW=>we W (yy.out W hW);have HT:cj (∀W,Ext S W1 W->ut W bt g.c.ins K (tU ao K cap)):=λW hW=>yp W (yy.out W hW);have HO:cj (∀L W,qU T m lv N C Y B S ((f:aw),(k:aw)) W1 L W->∀g v,zS 113 #[tW (tG ⟨T,0,tM⟩),Z U g,Z U v] W (Z U (F (g,v)))):=λL W hr g v=>by
  rw[<-hF];exact DX hr g v (by omega)
 rw[hF];obtain⟨BH,wk⟩:=zE (λv=>kZ g.c.ins k v);have AM:cj (∀v,kZ g.c.ins k v=BH v):=λv=>by rw[<-wk]
 rw[wk];have AN:cj (∀W,qU T m lv N C Y B S ((f:aw),(k:aw)) W1 [] W->(∀a∈i.args,isVar K a=tP)->ge am 114 #[tW (tG ⟨T,0,tM⟩),Z U (f:aw),Z U (k:aw),ub i.cells,tU ao K cap] W λe w'=>e= ud (.tuple #[])/\qU T m lv N C Y B S ((f:aw),(k:aw)) W1 (fI F f BH i) w'):=λW hr hv=>by
  obtain⟨s1,h1,e1,n1⟩:=hr;simp only[pm,ej] at h1 n1;have AS:∀W',Ext (lg T C.length Y.length s1) W W'->Ext S W1 W':=λW' hx=>e1.trans hx (λq hq=>n1 q hq);rw[<-hF,<-wk];refine(Bv W h1 hp f k i ga gc yr ⟨mo,mn,mc,AE⟩ (λW' hx=> ?_) zv ao K cap bt g.c.ins (λW' hx=>HT.out W' (AS W' hx)) vm Bm Bs hv hl By).mono ?_
  ·obtain⟨_,CT,C4,yW,B7⟩:=((B6.out W' (AS W' hx)).fin g (cd hg)).code.args i (cd hi)
   rw[yr] at yW;simp only[fm] at yW;obtain⟨rfl,_,rfl⟩:=yW;exact B7.at_
  ·rintro e w' ⟨rfl,s2,q1,q2,q3⟩
   refine⟨rfl,s2,q1,e1.trans q2 (λq hq=>n1 q hq),λq hq=> ?_⟩;rcases q3 q hq with h|h
   ·exact n1 q h
   ·exact .inr (eJ e1.size h)
 obtain⟨E,zc⟩:=zE (aA F (f:aw) BH i);have up:cj (∀w',qU T m lv N C Y B S ((f:aw),(k:aw)) W1 E w'->fD T m lv N (C++E) (Y++E.map λ_=>((f:aw),(k:aw))) B S w w'):=λw' hr=>fD.below vt hr;rw[zc];have ux:=zH zc;clear we yp yy h yq vr AH AI hF wk zc hS yr AE;obtain⟨op,d,a,bb,ff,nn,AT,AW,modeV,A0,A1,ln,cl,args⟩:=i;simp only at zv An At Ax;simp only[Ins.cells] at r1;have HC:cj (∀W,Ext S W1 W->W.cell? ⟨D,0,tM⟩=tG (Z U op)/\W.cell? ⟨D,1,tM⟩=tG (Z U d)/\W.cell? ⟨D,2,tM⟩=tG (Z U a)/\W.cell? ⟨D,3,tM⟩=tG (Z U bb)/\D<W.heap.size):=λW hW=>by
  have hr:=hW.heap r1 wj;exact⟨zR hr 0 _,zR hr 1 _,zR hr 2 _,zR hr 3 _,aa hr⟩
 have B8:cj (∀W,Ext S W1 W->∀j u,(Ins.cells ⟨op,d,a,bb,ff,nn,AT,AW,modeV,A0,A1,ln,cl,args⟩).toList[j]?=tG u->W.cell? ((⟨D,0,tM⟩:fS).add j)=tG u):=λW hW=>Bw (hW.heap r1 wj);have vp:=zH yv;have C5:(k:aw)<(g.c.ins.length:aw):=by omega
 have C6:(f:aw)<(m.fs.length:aw):=by omega
 have C7:=zH vt;have wl:cj (∀x,0<=F x/\F x<=1000000):=AF;clear r1 wj yv vt AF wg hi hg;go_enter func63,ntmps63
 go_upto_region 1 with(refine au rfl 42 _ rfl ⟨ib,io+k*13,tM⟩ rfl _ _ AK.out cD rfl (by kernel_rfl) ?_)
 clear hst hD AK c1 cf B5;obtain⟨A,ws⟩:=zE (F ((f:aw),d));obtain⟨o,xf⟩:=zE (F ((f:aw),a));obtain⟨xx,xj⟩:=zE (F ((f:aw),bb));have A2:=wl.out ((f:aw),d);have A3:=wl.out ((f:aw),a);have A4:=wl.out ((f:aw),bb);rw[ws] at A2;rw[xf] at A3;rw[xj] at A4;have xo:cj (∀(p:BW W1) g v,zS 113 #[tW (tG ⟨T,0,tM⟩),Z U g,Z U v] p.w (Z U (F (g,v)))):=λp g v=>HO.out _ _ (vp.out.grow p.h) g v;have o1:cj (∀p:BW W1,zS 113 #[tW (tG ⟨T,0,tM⟩),Z U (f:aw),Z U d] p.w (Z U A)):=λp=>by rw[<-ws];exact xo.out p _ _
 have o2:cj (∀p:BW W1,zS 113 #[tW (tG ⟨T,0,tM⟩),Z U (f:aw),Z U a] p.w (Z U o)):=λp=>by rw[<-xf];exact xo.out p _ _
 have o3:cj (∀p:BW W1,zS 113 #[tW (tG ⟨T,0,tM⟩),Z U (f:aw),Z U bb] p.w (Z U xx)):=λp=>by rw[<-xj];exact xo.out p _ _
 have k1:∀p:BW W1,p.w.cell? ⟨D,1,tM⟩=tG (Z U d):=λp=>(HC.out p.w (vp.out.grow p.h).ext).2.1;have k2:∀p:BW W1,p.w.cell? ⟨D,2,tM⟩=tG (Z U a):=λp=>(HC.out p.w (vp.out.grow p.h).ext).2.2.1;have k3:∀p:BW W1,p.w.cell? ⟨D,3,tM⟩=tG (Z U bb):=λp=>(HC.out p.w (vp.out.grow p.h).ext).2.2.2.1;have vu:=zH ws;have vf:=zH xf;have vx:=zH xj;clear ws xf xj xo;refine zQ ?_
 iterate 5 (go_big_quiet_step ((go_at_call 113;exact eO (o1.out _))))
 iterate 5 (go_big_quiet_step ((go_at_call 113;exact eO (o2.out _))))
 iterate 8 (go_big_quiet_step ((go_at_call 113;exact eO (o3.out _))))
 refine dj ?_;rintro _ ⟨p,rfl⟩;have xp:=vp.out.grow p.h;obtain⟨w5,A5⟩:=zE p.w;rw[A5] at xp⊢;have uv:=zH xp;obtain⟨c0,_⟩:=HC.out w5 xp.ext;clear o1 o2 o3 k1 k2 k3 A5 p vp xp;obtain⟨d1,d2,d3⟩:=BJ A2;obtain⟨a1,a2,a3⟩:=BJ A3;obtain⟨b1,b2,b3⟩:=BJ A4
 by_cases xt:op=12
 ·subst xt
  have t:cj (E=[[A]]):=by unfold cj;rw[<-ux.out];unfold aA;simp[vu.out,vf.out,vx.out,lj]
  go_wp2_with (go_at_call 61;refine(aQ (y:=((f:aw),(k:aw))) uv.out [A] 1 rfl _ rfl (by simp;omega) (by simp;omega)).mono ?_;rintro e v6 ⟨rfl,z⟩;have G:=zH z;clear z)
  go_end0
  exact⟨rfl,up.out _ (by rw[t.out];simpa using G.out)⟩
 by_cases xF:op=13
 ·subst xF
  have t:cj (E=[[o]]):=by unfold cj;rw[<-ux.out];unfold aA;simp[vu.out,vf.out,vx.out,lj]
  go_wp2_with (go_at_call 61;refine(aQ (y:=((f:aw),(k:aw))) uv.out [o] 1 rfl _ rfl (by simp;omega) (by simp;omega)).mono ?_;rintro e v6 ⟨rfl,z⟩;have G:=zH z;clear z)
  go_end0
  exact⟨rfl,up.out _ (by rw[t.out];simpa using G.out)⟩
 by_cases xT:op=10
 ·subst xT
  have t:cj (E=[[-A,o,o+1],[-(A+1),o,o+1]]):=by unfold cj;rw[<-ux.out];unfold aA;simp[vu.out,vf.out,vx.out,lj]
  go_upto_region 14 with(go_at_call 61;refine(aQ (y:=((f:aw),(k:aw))) uv.out [-A,o,o+1] 3 rfl _ rfl (by simp;omega) (by simp;omega)).mono ?_;rintro e v6 ⟨rfl,z⟩;have G:=zH z;clear z)
  go_wp2_with (go_at_call 61;refine(aQ (y:=((f:aw),(k:aw))) G.out [-(A+1),o,o+1] 3 rfl _ rfl (by simp;omega) (by simp;omega)).mono ?_;rintro e v7 ⟨rfl,J⟩;have R:=zH J;clear J)
  go_end0
  exact⟨rfl,up.out _ (by rw[t.out];simpa using R.out)⟩
 by_cases e8:op=8
 ·subst e8
  have t:cj (E=[[o,o+1]]):=by unfold cj;rw[<-ux.out];unfold aA;simp[vu.out,vf.out,vx.out,lj]
  go_wp2_with (go_at_call 61;refine(aQ (y:=((f:aw),(k:aw))) uv.out [o,o+1] 2 rfl _ rfl (by simp;omega) (by simp;omega)).mono ?_;rintro e v6 ⟨rfl,z⟩;have G:=zH z;clear z)
  go_end0
  exact⟨rfl,up.out _ (by rw[t.out];simpa using G.out)⟩
 by_cases e9:op=9
 ·subst e9
  have vc:E=[[-A,o]]++(if a≠d/\BH a=tP then[[-A]] else[])++[[-(A+1),o,o+1]]:=by rw[<-ux.out];unfold aA;simp[vu.out,vf.out]
  have zj:=An rfl;have t:=zH vc;clear vc
  go_upto_region 9 with(go_at_call 61;refine(aQ (y:=((f:aw),(k:aw))) uv.out [-A,o] 2 rfl _ rfl (by simp;omega) (by simp;omega)).mono ?_;rintro e v6 ⟨rfl,z⟩;have G:=zH z;clear z)
  obtain⟨u,B9,Cd,zp,Cl,zs,Cp,CA,CC,vh⟩:=(HT.out v6 G.out.ext).read zj vm;subst zp zs;rw[AM.out] at vh;have CD:(u:aw)<(K:aw):=by omega
  obtain⟨_,x1,x2,_,CH⟩:=HC.out v6 G.out.ext;clear c0;cases ue:BH (u:aw) with
  |true=>
   rw[ue] at vh
   by_cases vq:(u:aw)=d
   ·have t1:((u:aw)==d)=tP:=by rw[vq];exact iS _
    have t2:((u:aw) != d)=tR:=by rw[bne,t1];rfl
    have ur:cj (E=[[-A,o]]++[[-(A+1),o,o+1]]):=by unfold cj;rw[t.out,bx (λh=>h.1 vq),ej]
    clear vq ue t;have t:=ur
    go_wp2_with (go_at_call 61;refine(aQ (y:=((f:aw),(k:aw))) G.out [-(A+1),o,o+1] 3 rfl _ rfl (by simp;omega) (by simp;omega)).mono ?_;rintro e v7 ⟨rfl,J⟩;have R:=zH J;clear J)
    go_end0
    exact⟨rfl,up.out _ (by rw[t.out];simpa using R.out)⟩
   ·have t1:((u:aw)==d)=tR:=ef vq
    have t2:((u:aw) != d)=tP:=by rw[bne,t1];rfl
    have ur:cj (E=[[-A,o]]++[[-A]]++[[-(A+1),o,o+1]]):=by unfold cj;rw[t.out,cI ⟨vq,ue⟩]
    clear vq ue t;have t:=ur
    go_upto_region 11 with(go_at_call 61;refine(aQ (y:=((f:aw),(k:aw))) G.out [-A] 1 rfl _ rfl (by simp;omega) (by simp;omega)).mono ?_;rintro e v7 ⟨rfl,J⟩;have R:=zH J;clear J)
    go_wp2_with (go_at_call 61;refine(aQ (y:=((f:aw),(k:aw))) R.out [-(A+1),o,o+1] 3 rfl _ rfl (by simp;omega) (by simp;omega)).mono ?_;rintro e v8 ⟨rfl,vd⟩;have vy:=zH vd;clear vd)
    go_end0
    exact⟨rfl,up.out _ (by rw[t.out];simpa using vy.out)⟩
  |false=>
   rw[ue] at vh;have ur:cj (E=[[-A,o]]++[[-(A+1),o,o+1]]):=by unfold cj;rw[t.out,bx (λh=>by rw[ue] at h;exact fL h.2 (by simp)),ej]
   clear ue t;have t:=ur
   go_wp2_with (go_at_call 61;refine(aQ (y:=((f:aw),(k:aw))) G.out [-(A+1),o,o+1] 3 rfl _ rfl (by simp;omega) (by simp;omega)).mono ?_;rintro e v7 ⟨rfl,J⟩;have R:=zH J;clear J)
   go_end0
   exact⟨rfl,up.out _ (by rw[t.out];simpa using R.out)⟩
 by_cases yb:op=11
 ·subst yb
  have vc:E=[[xx],[o,o+1]]++(if BH bb=tP then[[-xx]] else[]):=by rw[<-ux.out];unfold aA;simp[vx.out,vf.out]
  have zj:=At rfl;have t:=zH vc;clear vc
  go_upto_region 19 with(go_at_call 61;refine(aQ (y:=((f:aw),(k:aw))) uv.out [xx] 1 rfl _ rfl (by simp;omega) (by simp;omega)).mono ?_;rintro e v6 ⟨rfl,z⟩;have G:=zH z;clear z)
  go_upto_region 20 with(go_at_call 61;refine(aQ (y:=((f:aw),(k:aw))) G.out [o,o+1] 2 rfl _ rfl (by simp;omega) (by simp;omega)).mono ?_;rintro e v7 ⟨rfl,J⟩;have R:=zH J;clear J)
  obtain⟨u,B9,Cd,zp,Cl,zs,Cp,CA,CC,vh⟩:=(HT.out v7 R.out.ext).read zj vm;subst zp zs;rw[AM.out] at vh;have CD:(u:aw)<(K:aw):=by omega
  obtain⟨_,_,_,x3,CH⟩:=HC.out v7 R.out.ext;clear c0;cases ue:BH (u:aw) with
  |true=>
   rw[ue] at vh;have ur:cj (E=[[xx],[o,o+1]]++[[-xx]]):=by unfold cj;rw[t.out,cI ue]
   clear ue t;have t:=ur
   go_wp2_with (go_at_call 61;refine(aQ (y:=((f:aw),(k:aw))) R.out [-xx] 1 rfl _ rfl (by simp;omega) (by simp;omega)).mono ?_;rintro e v8 ⟨rfl,vd⟩;have vy:=zH vd;clear vd)
   go_end0
   exact⟨rfl,up.out _ (by rw[t.out];simpa using vy.out)⟩
  |false=>
   rw[ue] at vh;have ur:cj (E=[[xx],[o,o+1]]):=by unfold cj;rw[t.out,bx (λh=>by rw[ue] at h;exact fL h (by simp)),ej]
   clear ue t;have t:=ur;go_wp2
   go_end0
   exact⟨rfl,up.out _ (by rw[t.out];simpa using R.out)⟩
 by_cases yd:op=15
 ·subst yd
  have t:cj (E=fI F f BH ⟨15,d,a,bb,ff,nn,AT,AW,modeV,A0,A1,ln,cl,args⟩):=by unfold cj;rw[<-ux.out];unfold aA;simp
  have CM:=zH (AN.out w5 uv.out (Ax rfl));have CN:=zH (B8.out w5 uv.out.ext);clear AN
  go_wp2_with (first
   |(refine au rfl 42 _ rfl ⟨D,0,tM⟩ rfl _ _ CN.out cD rfl (by kernel_rfl) ?_)
   |(go_at_call 114;refine CM.out.mono ?_;rintro e v6 ⟨rfl,z⟩;have G:=zH z;clear z))
  go_end0
  exact⟨rfl,up.out _ (by rw[t.out];exact G.out)⟩
 by_cases ye:op=18
 ·subst ye
  obtain⟨xr,yi⟩:=zE (F ((f:aw),-1));have A6:=wl.out ((f:aw),-1);rw[yi] at A6;have vc:E=if xr=0 then[] else[[-xr,o],[xr,-o],[-(xr+1),o+1]]:=by rw[<-ux.out];unfold aA qj;simp[yi,vf.out]
  have t:=zH vc;have Bk:=zH (HO.out _ _ uv.out (f:aw) (-1));rw[yi] at Bk;clear vc yi;obtain⟨r1,r2,r3⟩:=BJ A6
  go_upto_region 26 with(go_at_call 113;refine Bk.out.mono ?_;rintro e v6 ⟨rfl,rfl⟩)
  by_cases yk:xr=0
  ·have t0:decide (0<xr)=tR:=cv (by omega)
   have ur:cj (E=[]):=by unfold cj;rw[t.out,cI yk]
   clear yk;go_wp2
   go_end0
   exact⟨rfl,up.out _ (by rw[ur.out];exact uv.out)⟩
  ·have t0:decide (0<xr)=tP:=cV (by omega)
   have ur:cj (E=[[-xr,o],[xr,-o],[-(xr+1),o+1]]):=by unfold cj;rw[t.out,bx yk]
   clear yk t;have t:=ur
   go_upto_region 28 with(go_at_call 61;refine(aQ (y:=((f:aw),(k:aw))) uv.out [-xr,o] 2 rfl _ rfl (by simp;omega) (by simp;omega)).mono ?_;rintro e v6 ⟨rfl,z⟩;have G:=zH z;clear z)
   go_upto_region 29 with(go_at_call 61;refine(aQ (y:=((f:aw),(k:aw))) G.out [xr,-o] 2 rfl _ rfl (by simp;omega) (by simp;omega)).mono ?_;rintro e v7 ⟨rfl,J⟩;have R:=zH J;clear J)
   go_wp2_with (go_at_call 61;refine(aQ (y:=((f:aw),(k:aw))) R.out [-(xr+1),o+1] 2 rfl _ rfl (by simp;omega) (by simp;omega)).mono ?_;rintro e v8 ⟨rfl,vd⟩;have vy:=zH vd;clear vd)
   go_end0
   exact⟨rfl,up.out _ (by rw[t.out];simpa using vy.out)⟩
 have t:cj (E=[]):=by unfold cj;rw[<-ux.out];unfold aA;simp[xt,xF,e9,xT,e8,yb,yd,ye]
 have t12:(op==12)=tR:=ef xt;have t13:(op==13)=tR:=ef xF;have t9:(op==9)=tR:=ef e9;have t10:(op==10)=tR:=ef xT;have t8:(op==8)=tR:=ef e8;have t11:(op==11)=tR:=ef yb;have t15:(op==15)=tR:=ef yd;have t18:(op==18)=tR:=ef ye;clear xt xF e9 xT e8 yb yd ye;go_wp2
 go_end0
 exact⟨rfl,up.out _ (by rw[t.out];exact uv.out)⟩
end
section
variable {T:bh}{m:Mo}{lv:cG fS×bh}{N:aw}{B:bh}{s:Gu}{w w' W w2 w9:World}
theorem Rb.fresh {e f:World}{m:Mo}{ao:cG fS}{cap:bh}{T B:bh}(g:e.ownsRow B 67 2 (tU ao m.ptrs.length cap) m.ptrs.length (m.ptrs.flatMap encZ))(o:e.heap.size=T)(q:B<=T)
  (j:e.alloc (uc #[tU m.sA m.ss.length m.sC,tU m.fA m.fs.length m.fC,tU ao m.ptrs.length cap,Z U 0,tU tM 0 0,tU tM 0 0] 134)=f):
  Rb T m (ao,cap) 0 [] [] B ⟨tM,0,tM,0,[]⟩ f:=by
 have t:f.heap[T]?=tG (uc #[tU m.sA m.ss.length m.sC,tU m.fA m.fs.length m.fC,tU ao m.ptrs.length cap,Z U 0,tU tM 0 0,tU tM 0 0] 134 (0,0)):=by rw[<-j,<-o];exact alloc_at _ _
 have u:aE e.heap.size e f:=il j;refine⟨t,ownsRow_below g u,World.ownsRow_nil _ _ _ _,World.ownsRow_nil _ _ _ _,⟨rfl,λk c v=>by simp at v⟩, ?_, ?_, ?_, ?_,q,by simp,by simp⟩
 ·intro k d;simp[et] at d
 ·intro k d;simp[et] at d
 ·intro k d;simp[et] at d
 ·intro k d h
  have:=(g.lt k d).2;rcases h with h|h|h
  ·omega
  ·simp[et] at h
  ·simp[et] at h
theorem Rb.setN (h:Rb T m lv N [] [] B s w)(f:aw):Rb T m lv f [] [] B s (w.setCell ⟨T,3,tM⟩ (Z U f)):=by
 obtain⟨WF,g⟩:=zE (w.setCell ⟨T,3,tM⟩ (Z U f));have j:Ext (·=T) w WF:=by rw[<-g];exact Ext.set1 w T 3 _
 have o:WF.heap[T]?=tG (uc (I7 m lv m.ptrs.length f s 0 0) 134 (0,0)):=by
  rw[<-g];exact bk w T 3 _ _ _ h.row
 rw[g];exact⟨o,ah h.prow j (λk d e=>h.d4 k d (.inl e)),ah h.frow j (λk d e=>h.d1 k d e),ah h.yrow j (λk d e=>h.d2 k d e),⟨h.cls.1,λk c q=>by simp at q⟩,h.d1,h.d2,h.d3,h.d4,h.lo,h.lC,h.lY⟩
theorem Rb.clsIn {C:bj (bj aw)}{Y:bj (aw×aw)}(h:Rb T m lv N C Y B s w):eH B w s.fA C:=λk c d=>by
 have v:k<C.length:=(bl.1 d).1;obtain⟨ao,cap,j,o,q⟩:=h.cls.2 k c d;obtain⟨g,f,x,t⟩:=mM h.frow j;refine⟨g,ao,cap,f, ?_,by simpa using t,o,λa u e=>(q u a e).1⟩;exact h.frow.lt g (by rw[f];rfl)
theorem fD.step {C C2:bj (bj aw)}{Y Y2:bj (aw×aw)}{S:bh->Prop}{d:World}{e:Gu}(f:Ext S w d)(n1:∀k,lg T C.length Y.length e k->S k\/w.heap.size<=k)(g:fD T m lv N C2 Y2 B (lg T C.length Y.length e) d w'):fD T m lv N C2 Y2 B S w w':=by
 obtain⟨j,o,t,u⟩:=g;refine⟨j,o,f.trans t (λq v=>n1 q v),λk x=> ?_⟩;rcases u k x with h|h
 ·exact n1 k h
 ·exact .inr (eJ f.size h)
theorem zzB {w:Go.World}{b b':Nat}{e:Go.TypeId}{k:Nat}{v:Go.Value}{n:Nat}{l:List Go.Value}(h:w.ownsRow b e k v n l)(hb:b'≤b):w.ownsRow b' e k v n l:=by
 refine ⟨h.1, ?_⟩
 rcases h.2 with h | ⟨g, cap, cur, h1, h2, h3⟩
 · exact .inl h
 · exact .inr ⟨g, cap, cur, h1, by omega, h3⟩
theorem BA {f:aw}:∀(l:bj (aw×aw))(k:bh),(bB f k l).map fh=((bB f k l).map eN).map λ_=>(f,(-1:aw))
 |[],_=>rfl
 |p::r,k=>by
  unfold bB;rw[dp,dp,dp,BA r (k+1)]
  by_cases h:p.1=f
  ·rw[cI h];rfl
  ·rw[bx h];rfl
def BB (m:Mo)(w:World)(e:Ending)(w':World):Prop:=
 ∃d h f g,e= ud (.tuple #[ub #[Z U (2*(m.ptrs.length:aw)),tU d (m.wants (bq m)).length h],tU f (m.wants (bq m)).length g])/\eH w.heap.size w' d ((m.wants (bq m)).map eN)/\
  w'.ownsRow w.heap.size 61 2 (tU f (m.wants (bq m)).length g) (m.wants (bq m)).length (((m.wants (bq m)).map fh).flatMap qh)/\aE w.heap.size w w'
theorem EX (m:Mo)(w:World)(ws:qp w m)(hR:eU m=0):
  ge am 18 #[ub m.cells] w (BB m w):=by
 have hm:=ws.ri.mo;obtain⟨t,vh⟩:=zE w.heap.size;obtain⟨W1,ur⟩:=zE ((w.alloc (uc m.cells 25)).alloc (uc #[Z U 0,tU tM 0 0] 52));have vt:=E8 ur;have yp:=vY ur vh;have uv:=zl ur vh;have DH:W1.heap.size=t+2:=by rw[<-ur];simp[vh]
 have y:=zH ws;have HR:=zH hR;have yq:=zH vt;have vu:cj (∀W,aE W1.heap.size W1 W->m.inn W):=λW hW=>hm.below (vt.trans (hW.mono vt.size));have HK:cj (∀W,aE W1.heap.size W1 W->W.cell? ⟨t,0,tM⟩=tG (tU m.sA m.ss.length m.sC)/\W.cell? ⟨t,1,tM⟩=tG (tU m.fA m.fs.length m.fC)/\t<W.heap.size/\t+1<W.heap.size/\W.heap[t+1]?=tG (uc #[Z U 0,tU tM 0 0] 52 (0,0))):=λW hW=>by
  have h:=(hW.block t (by omega)).trans yp;have h2:=(hW.block (t+1) (by omega)).trans uv;exact⟨zR h 0 _,zR h 1 _,aa h,aa h2,h2⟩
 have AM:cj (∀W,aE W1.heap.size W1 W->∀j u,(#[tU m.sA m.ss.length m.sC,tU m.fA m.fs.length m.fC]:eA cA).toList[j]?=tG u->W.cell? ((⟨t,0,tM⟩:fS).add j)=tG u):=λW hW=>Bw ((hW.block t (by omega)).trans yp);obtain⟨B,hB⟩:=zE W1.heap.size;have DM:cj (w.heap.size<=B/\t+2=B):=⟨by rw[<-hB];exact vt.size,by omega⟩
 have yr:=zH λ(W:World) (hW:aE W1.heap.size W1 W)=>vR m W (vu.out W hW) (by have:=ws.np;omega);rw[hB] at AM HK vu yr;have HB:=zH hB;have DO:=zH vh;have DP:=zH ur;clear hm ws hR yp uv DH vt;simp only[Mo.cells] at ur yr⊢;go_enter func18,ntmps18
 go_upto_region 1 with(fail)
 (try rw[vh]);(try rw[ur]);clear ur DP vh;obtain⟨S1,AN⟩:=zE ((λw'=>aE B W1 w'):World->Prop);have ux:cj (∀W,S1 W↔aE B W1 W):=λW=>by rw[<-AN]
 have vx:S1 W1.drew:=(ux.out _).2 (aq _ _).drew;have yv:cj (∀W,S1 W->∀j u,(#[tU m.sA m.ss.length m.sC,tU m.fA m.fs.length m.fC]:eA cA).toList[j]?=tG u->W.cell? ((⟨t,0,tM⟩:fS).add j)=tG u):=λW h=>AM.out W ((ux.out W).1 h);have AS:cj (∀W,S1 W->True):=λ_ _=>trivial;clear AN;refine aj 5 S1 (by kernel_rfl) ?_;refine zL 0 rfl 25 ⟨t,0,tM⟩ yv.out fx ?_;(try go_simp);refine zL 1 rfl 25 ⟨t,0,tM⟩ yv.out fx ?_;(try go_simp);refine zO 2 rfl λK' hK=> ?_;go_simp;go_at_call 22;refine(yr.out _ ((ux.out _).1 vx)).mono ?_;rintro e w2 ⟨z,A,rfl,AT,AW⟩;have xf:aE B W1 W1.drew:=(aq _ _).drew;have vm:aE B W1 w2:=xf.trans (AW.mono (by rw[<-HB.out];exact xf.size));refine hK _ _ ((ux.out _).2 vm) ?_;clear hK;have DQ:S1 w2:=(ux.out _).2 vm;(try go_simp);refine zT 3 rfl AS.out ?_;(try go_simp);refine zO 4 rfl λK' hK=> ?_;go_simp;obtain⟨T,hT⟩:=zE w2.heap.size;obtain⟨W3,xj⟩:=zE (w2.alloc (uc #[tU m.sA m.ss.length m.sC,tU m.fA m.fs.length m.fC,tU z m.ptrs.length A,Z U 0,tU tM 0 0,tU tM 0 0] 134));rw[hT,xj];have xo:aE B W1 W3:=by rw[<-xj];exact vm.alloc (by rw[<-HB.out];exact vm.size) _
 have A0:B<=T:=by rw[<-hT,<-HB.out];exact vm.size
 have vp:=zH (Rb.fresh (m:=m) (T:=T) (B:=B) (zzB AT (by rw[<-HB.out];exact eJ xf.size (i5 _))) hT A0 xj);refine hK _ _ ((ux.out _).2 xo) ?_;clear hK;have DS:S1 W3:=(ux.out _).2 xo;(try go_simp);refine zK rfl λK' hK=> ?_;go_simp;refine hK _ _ ?_;clear hK;refine⟨by kernel_rfl, ?_⟩;have D0:=zH xo;have c2:W3.cell? ⟨T,2,tM⟩=tG (tU z m.ptrs.length A):=(rowAt vp.out.row 2 rfl).1;have c3:W3.cell? ⟨T,3,tM⟩=tG (Z U 0):=(rowAt vp.out.row 3 rfl).1;have f3:W3.frozen? ⟨T,3,tM⟩=tR:=(rowAt vp.out.row 3 rfl).2;have vy:=aa vp.out.row;have D1:dT.wrap (2*(m.ptrs.length:aw))=2*(m.ptrs.length:aw):=by have:=y.out.np;simp[eK,eL,ep];omega
 have h4:=vp.out.setN (2*(m.ptrs.length:aw));have yy:aE B W1 (W3.setCell ⟨T,3,tM⟩ (Z U (2*(m.ptrs.length:aw)))):=D0.out.setCell A0 _;obtain⟨W4,yW⟩:=zE (W3.setCell ⟨T,3,tM⟩ (Z U (2*(m.ptrs.length:aw))));rw[yW] at h4 yy;have A1:=zH h4;have A2:=zH yy;have A3:=zH yW;clear AT AW xf vm DQ DS xj xo h4 yy vx ux yv AS vp hT
 go_upto_region 3 with(fail)
 (try rw[A3.out]);clear yW A3 c2 c3 f3 vy D1;obtain⟨d,A4⟩:=zE m.ptrs;obtain⟨E,A5⟩:=zE ((λj=>iq m.ptrs (bq m) 0 (m.fs.take j)):bh->bj (bj aw×(aw×aw)));have we:cj (∀j,E j=iq m.ptrs (bq m) 0 (m.fs.take j)):=λj=>by rw[<-A5]
 have xp:=zH A4;obtain⟨S0,vx⟩:=zE ((λk=>B<=k):bh->Prop);have xt:cj (∀k,S0 k↔B<=k):=λk=>by rw[<-vx]
 have D2:cj (fD T m (z,A) (2*(m.ptrs.length:aw)) ((E 0).map eN) ((E 0).map fh) B S0 W4 W4):=by
  unfold cj;rw[we.out,lz];exact⟨_,A1.out,Ext.refl _ _,λk o=> .inl ((xt.out k).2 (A1.out.lt o).1)⟩
 have A6:cj (∀{C:bj (bj aw)}{Y:bj (aw×aw)}{W:World},fD T m (z,A) (2*(m.ptrs.length:aw)) C Y B S0 W4 W->aE B W1 W):=λ{C Y W} h=>by
  obtain⟨_,_,e,_⟩:=h;exact A2.out.trans (e.below (by rw[<-HB.out];exact A2.out.size) (λk o=>(xt.out k).1 o))
 clear A5 A4 vx
 go_wp2_with fail
 go_loopw [5] (λc wr=>∃j:bh,j<=m.fs.length/\c= Z U (j:aw)/\fD T m (z,A) (2*(m.ptrs.length:aw)) ((E j).map eN) ((E j).map fh) B S0 W4 wr) (λc _=>m.fs.length-(de c).toNat)
 case atStart=>exact⟨0,cN _,rfl,D2.out⟩
 case round=>
  rename World=>wr;obtain⟨j,hj,rfl,R⟩:=hrel;have ue:=A6.out R;obtain⟨x0,x1,xl,xF,_⟩:=HK.out wr ue;have zc:=zH R;have zj:=zH ue;have GE:=y.out.nf
  by_cases wg:j<m.fs.length
  ·have GF:(j:aw)<(m.fs.length:aw):=by omega
   obtain⟨g,hg⟩:∃g,m.fs[j]?=tG g:=⟨_,ap wg⟩
   have Bk:=cd hg;have Bm:E (j+1)=E j++(bB (j:aw) 0 d++bZ d (j:aw) (bq m j) 0 g.c.ins):=by
    rw[we.out,we.out,aH hg,oh,cL,ee,gR (by omega),xp.out]
   have D3:(E j).length+(m.ptrs.length+124*g.c.ins.length)+900<=1000000:=by
    have K:=mK (P:=m.ptrs) (beh:=bq m) (m.fs.take j) 0 (λg hg i hi=>y.out.ri.al g (kA hg) i hi);rw[we.out];have h2:=y.out.nt;have h3:aO (m.fs.take (j+1))<=aO m.fs:=by
     have e:aO m.fs=aO (m.fs.take (j+1))+aO (m.fs.drop (j+1)):=by
      unfold aO;rw[<-oe,<-dp,ke]
     omega
    have h5:aO (m.fs.take (j+1))=aO (m.fs.take j)+g.c.ins.length:=by
     unfold aO;rw[aH hg,dp,oe];simp
    have h4:m.ptrs.length*((m.fs.take j).length+1)<=m.ptrs.length*m.fs.length:=Nat.mul_le_mul_left _ (by rw[ee];omega);rw[Nat.mul_succ] at h4;omega
   have Bs:=zH Bm;have HG:=zH hg;have up:=zH Bk;obtain⟨G,By⟩:=zE (E j);rw[By] at zc Bs D3;have D4:cj (qU T m (z,A) (2*(m.ptrs.length:aw)) (G.map eN) (G.map fh) B S0 ((j:aw),-1) W4 ((bB (j:aw) 0 (d.take 0)).map eN) wr):=by
    unfold cj;rw[lz];exact qU.start zc.out
   have zp:cj (m.ptrs.length=d.length):=by unfold cj;rw[xp.out]
   have BE:cj ((G.map eN).length=G.length/\(G.map fh).length=G.length):=⟨dy _,dy _⟩
   clear R ue Bm hg Bk By
   go_upto_region 6 with(fail)
   clear x0 x1 xl xF
   go_wp2_with fail
   go_loopw [6] (λc wy=>∃i:bh,i<=m.ptrs.length/\c= Z U (i:aw)/\qU T m (z,A) (2*(m.ptrs.length:aw)) (G.map eN) (G.map fh) B S0 ((j:aw),-1) W4 ((bB (j:aw) 0 (d.take i)).map eN) wy) (λc _=>m.ptrs.length-(de c).toNat)
   case atStart=>exact⟨0,cN _,rfl,D4.out⟩
   case round=>
    rename World=>wy;obtain⟨i,hi,rfl,R⟩:=hrel;have zs:=zH R;have Ek:=jo (f:=(j:aw)) (d.take i) 0;rw[ee] at Ek;obtain⟨s1,K,_,_⟩:=R;have c2:wy.cell? ⟨T,2,tM⟩=tG (tU z m.ptrs.length A):=(rowAt K.row 2 rfl).1;have vy:=aa K.row
    by_cases EV:i<m.ptrs.length
    ·have GO:(i:aw)<(m.ptrs.length:aw):=by omega
     obtain⟨p,hp⟩:∃p,m.ptrs[i]?=tG p:=⟨_,ap EV⟩
     obtain⟨e1,_⟩:=Bo hp;obtain⟨gl,zv,GP,d1⟩:=mM K.prow e1;have xT:cj (bB (j:aw) 0 (d.take (i+1))=bB (j:aw) 0 (d.take i)++(if p.1=(j:aw) then[([-(2*(i:aw)+1),-(2*(i:aw)+2)],((j:aw),(-1:aw)))] else[])):=by
      unfold cj;rw[xp.out] at hp;rw[aH hp,og,cL,ee,gR (by rw[<-zp.out];omega)]
     have GS:dT.wrap (2*(i:aw))=2*(i:aw):=by have:=y.out.np;simp[eK,eL,ep];omega
     have GT:dT.wrap (2*(i:aw)+1)=2*(i:aw)+1:=by have:=y.out.np;simp[eK,eL,ep];omega
     have GW:dT.wrap (2*(i:aw)+2)=2*(i:aw)+2:=by have:=y.out.np;simp[eK,eL,ep];omega
     have G4:dT.wrap (-(2*(i:aw)+1))= -(2*(i:aw)+1):=(BJ ⟨by omega,by have:=y.out.np;omega⟩).1;have Hb:dT.wrap (-(2*(i:aw)+2))= -(2*(i:aw)+2):=(BJ ⟨by omega,by have:=y.out.np;omega⟩).1;simp only at zv;rw[zv] at c2;clear e1 K hp zv
     by_cases vq:p.1=(j:aw)
     ·have t0:(p.1==(j:aw))=tP:=by rw[vq];exact iS _
      have vd:=xT.out;rw[cI vq] at vd;have An:=zH vd;clear vd xT vq
      go_upto_region 10 with(fail)
      go_wp2_with (go_at_call 61;refine(aQ zs.out [-(2*(i:aw)+1),-(2*(i:aw)+2)] 2 rfl _ rfl (by rw[BE.out.1,dy];omega) (by rw[BE.out.2,dy];omega)).mono ?_;rintro e w6 ⟨rfl,BT⟩;have E0:=zH BT;clear BT)
      go_roundw
      case rel=>exact⟨i+1,by omega,by go_num,by rw[An.out,dp];exact E0.out⟩
      case measure=>simp[de];omega
     ·have t0:(p.1==(j:aw))=tR:=ef vq
      have vd:=xT.out;rw[bx vq,ej] at vd;have An:=zH vd;clear vd xT vq;go_wp2;go_roundw
      case rel=>exact⟨i+1,by omega,by go_num,by rw[An.out];exact zs.out⟩
      case measure=>simp[de];omega
    ·have BY:i=d.length:=by rw[<-zp.out];omega
     have At:fD T m (z,A) (2*(m.ptrs.length:aw)) ((G++bB (j:aw) 0 d).map eN) ((G++bB (j:aw) 0 d).map fh) B S0 W4 wy:=by
      have:=zs.out;rw[BY,cR] at this;unfold qU at this;rw[dp,dp (f:=fh),BA];exact this
     have ue:=A6.out At;obtain⟨x0,x1,xl,xF,_⟩:=HK.out wy ue;have vc:=vu.out wy ue;have vf:=vc.fin g up.out;obtain⟨fb,fo,Ax,E2,vr⟩:=vc.frow (by intro e;rw[e] at wg;simp at wg);have B5:cj (∀k u,g.c.cells.toList[k]?=tG u->wy.cell? ((⟨fb,fo+j*8,tM⟩:fS).add k)=tG u):=λk u hu=>by rw[cY];exact vr j g HG.out k u hu
     have B6:=zH (Dn g.c wy vf.code (y.out.ri.al g up.out) (y.out.ni g up.out) (by rw[vf.nvars];exact y.out.nv g up.out));rw[Ax] at x1;have Hc:=zH Ax;clear Ax;have E3:=zH At;have B7:=zH ue;have E4:cj (g.c.nvars=g.vs.length):=vf.nvars;clear K At ue vc vf vr BY
     go_upto_region 12 with(first
      |(refine au rfl 38 _ rfl ⟨fb,fo+j*8,tM⟩ rfl g.c.cells _ B5.out cQ rfl (by kernel_rfl) ?_)
      |(go_at_call 62;refine B6.out.mono ?_;rintro e wt ⟨ta,tc,rfl,B8,B9⟩;have E6:=zH B8;have AD:=zH B9;clear B8 B9))
     obtain⟨sT,AE,Cd,_⟩:=E3.out;have yb:=AE.grow AD.out;have Cl:Ext S0 W4 wt:=Cd.trans (Ext.of_below_size (M:=λ_=>me) AD.out) (λ_ h=>h.elim);obtain⟨ST,wj⟩:=zE (lg T ((G++bB (j:aw) 0 d).map eN).length ((G++bB (j:aw) 0 d).map fh).length sT);have Cp:cj (∀k,ST k->B<=k/\k<wt.heap.size):=λk o=>yb.lt (by rw[wj];exact o);have E7:cj (∀k,ST k->k<wy.heap.size):=λk o=>(AE.lt (by rw[wj];exact o)).2;have CA:cj (∀k,lg T ((G++bB (j:aw) 0 d).map eN).length ((G++bB (j:aw) 0 d).map fh).length sT k->ST k):=λk o=>by rw[<-wj];exact o
     have CC:cj (aE B W1 wt):=B7.out.trans (AD.out.mono (by have:=B7.out.size;rw[HB.out] at this;exact this));obtain⟨UV,yd⟩:=zE (G++bB (j:aw) 0 d);rw[yd] at yb wj CA;have Fc:=zH yb;have Hh:=jo (f:=(j:aw)) d 0;have Hi:UV.length<=G.length+m.ptrs.length:=by
      rw[<-yd,bo,zp.out];omega
     have Fi:cj (E (j+1)=UV++bZ d (j:aw) (bq m j) 0 g.c.ins):=by
      unfold cj;rw[Bs.out,<-yd,eq]
     have Fk:cj (fD T m (z,A) (2*(m.ptrs.length:aw)) ((UV++bZ d (j:aw) (bq m j) 0 (g.c.ins.take 0)).map eN) ((UV++bZ d (j:aw) (bq m j) 0 (g.c.ins.take 0)).map fh) B ST wt wt):=by
      unfold cj;rw[lz]
      show fD _ _ _ _ ((UV++[]).map _) ((UV++[]).map _) _ _ _ _
      rw[ej];exact⟨sT,Fc.out,Ext.refl _ _,λk o=> .inl (CA.out k o)⟩
     have Fl:cj (∀W,fD T m (z,A) (2*(m.ptrs.length:aw)) ((E (j+1)).map eN) ((E (j+1)).map fh) B ST wt W->fD T m (z,A) (2*(m.ptrs.length:aw)) ((E (j+1)).map eN) ((E (j+1)).map fh) B S0 W4 W):=λW h=>by
      obtain⟨s2,q1,q2,q3⟩:=h;refine⟨s2,q1,Cl.trans q2 (λk o=> .inl ((xt.out k).2 (Cp.out k o).1)),λk o=> .inl ((xt.out k).2 (q1.lt o).1)⟩
     have CD:cj (∀W,Ext ST wt W->aE B W1 W):=λW e=>
      CC.out.trans (e.below (by rw[<-HB.out];exact CC.out.size) (λk o=>(Cp.out k o).1))
     have Fm:cj (∀W,Ext ST wt W->ut W wy.heap.size g.c.ins g.c.nvars (tU ta g.c.nvars tc)):=λW hW=>E6.out.ext hW (λk o=>E7.out k o);clear yb Cl AE Cd wj yd B6 B5 x0 x1 xl xF c2 vy
     go_wp2_with fail
     go_loopw [8] (λc wz=>∃k:bh,k<=g.c.ins.length/\c= Z U (k:aw)/\fD T m (z,A) (2*(m.ptrs.length:aw)) ((UV++bZ d (j:aw) (bq m j) 0 (g.c.ins.take k)).map eN) ((UV++bZ d (j:aw) (bq m j) 0 (g.c.ins.take k)).map fh) B ST wt wz) (λc _=>g.c.ins.length-(de c).toNat)
     case atStart=>exact⟨0,cN _,rfl,Fk.out⟩
     case round=>
      rename World=>wz;obtain⟨k,o,rfl,R⟩:=hrel;have ue:=CD.out wz (by obtain⟨_,_,e,_⟩:=R;exact e);obtain⟨x0,x1,xl,xF,_⟩:=HK.out wz ue;have vc:=vu.out wz ue;have vf:=vc.fin g up.out;obtain⟨Hj,Hk,CH,E2,vr⟩:=vc.frow (by intro e;rw[e] at wg;simp at wg);rw[CH] at x1;have x7:=vr j g HG.out 7 _ rfl;clear CH;have CM:(g.c.ins.take k).length=k:=by rw[ee];omega
      have Fo:=zH R;have Hn:=y.out.ni g up.out
      by_cases Fr:k<g.c.ins.length
      ·have Hp:(k:aw)<(g.c.ins.length:aw):=by omega
       obtain⟨J,AF⟩:∃J,g.c.ins[k]?=tG J:=⟨_,ap Fr⟩
       have CN:=cd AF;obtain⟨_,_,_,_,h5,_⟩:=gL HR.out;have CT:=(jG (h5 g up.out)).2.2.2.2.2 J CN;obtain⟨_,_,q3,q4,q5⟩:=iO CT;have wk:=E4.out;have h9:J.op=9->isVar g.c.nvars J.a=tP:=λe=>by rw[wk];exact q3 J.a (by unfold readsOf;rw[e];simp[sP])
       have Ft:J.op=11->isVar g.c.nvars J.b=tP:=λe=>by rw[wk];exact q3 J.b (by unfold readsOf;rw[e];simp[sP,rM])
       have FA:J.op=15->∀v∈J.args,isVar g.c.nvars v=tP:=λe v hv=>by rw[wk];exact q3 v (by unfold readsOf;rw[cI e];simp[hv])
       have ye:=mJ (P:=d) (f:=(j:aw)) (beh:=bq m j) (g.c.ins.take k) 0 (λx hx=>y.out.ri.al g up.out x (kA hx));rw[CM] at ye;have AH:bZ d (j:aw) (bq m j) 0 (g.c.ins.take (k+1))=bZ d (j:aw) (bq m j) 0 (g.c.ins.take k)++(fT d (j:aw) (bq m j k) J).map (λc=>(c,((j:aw),(k:aw)))):=by
        rw[aH AF,nZ,cL,CM]
       have C4:(λv=>kZ g.c.ins k v)=bq m j k:=by funext v;unfold bq;rw[HG.out]
       obtain⟨XK,wl⟩:=zE (UV++bZ d (j:aw) (bq m j) 0 (g.c.ins.take k));obtain⟨IC,hIC⟩:=zE (aA (aG 0 m.ptrs) (j:aw) (λv=>kZ g.c.ins k v) J);have AI:fT d (j:aw) (bq m j k) J=IC:=by rw[<-hIC,ug,C4,xp.out]
       have hC:(UV++bZ d (j:aw) (bq m j) 0 (g.c.ins.take (k+1))).map eN=XK.map eN++IC:=by
        rw[AH,<-eq,wl,AI,dp,List.map_map];congr 1;exact List.map_id _
       have hY:(UV++bZ d (j:aw) (bq m j) 0 (g.c.ins.take (k+1))).map fh=XK.map fh++IC.map (λ_=>((j:aw),(k:aw))):=by
        rw[AH,<-eq,wl,AI,dp,List.map_map];rfl
       rw[wl] at R;have Hs:XK.length+300<=1000000:=by rw[<-wl,bo];omega
       have FF:cj (ge am 63 #[tW (tG ⟨T,0,tM⟩),Z U (j:aw),Z U (k:aw),tU ta g.c.nvars tc] wz λe w'=>e= ud (.tuple #[])/\fD T m (z,A) (2*(m.ptrs.length:aw)) ((UV++bZ d (j:aw) (bq m j) 0 (g.c.ins.take (k+1))).map eN) ((UV++bZ d (j:aw) (bq m j) 0 (g.c.ins.take (k+1))).map fh) B ST wt w'):=by
        obtain⟨s1,K,e1,n1⟩:=R;have C5:∀W',Ext (lg T (XK.map eN).length (XK.map fh).length s1) wz W'->Ext ST wt W':=λW' hx=>e1.trans hx (λq hq=>n1 q hq);have C6:=Bz wz K y.out.np j k g J HG.out AF (λW' hx=>vu.out W' (CD.out W' (C5 W' hx))) (y.out.ri.al g up.out J CN) ta g.c.nvars tc wy.heap.size (λW' hx=>Fm.out W' (C5 W' hx)) (y.out.ni g up.out) (by rw[wk];exact y.out.nv g up.out) h9 Ft FA (by rw[dy];omega) (by rw[dy];omega);rw[hIC] at C6;refine C6.mono ?_;rintro e w' ⟨he,FG⟩;refine⟨he, ?_⟩;rw[hC,hY];exact fD.step e1 n1 FG
       clear R ue vc vf vr q3 q4 q5 CT h5 hC hY wl hIC AI C4 AH wk
       go_wp2_with (go_at_call 63;refine FF.out.mono ?_;rintro e w9 ⟨rfl,C7⟩;have F0:=zH C7;clear C7)
       go_roundw
       case rel=>exact⟨k+1,by omega,by go_num,F0.out⟩
       case measure=>simp[de];omega
      ·have Dd:k=g.c.ins.length:=by omega
       have Dg:fD T m (z,A) (2*(m.ptrs.length:aw)) ((E (j+1)).map eN) ((E (j+1)).map fh) B S0 W4 wz:=by
        refine Fl.out _ ?_;have:=Fo.out;rw[Dd,cR,<-Fi.out] at this;exact this
       have F1:=zH Dg;clear R ue vc vf vr Dg Dd;go_wp2;go_roundw
       case rel=>exact⟨j+1,by omega,by go_num,F1.out⟩
       case measure=>simp[de];omega
  ·have Do:j=m.fs.length:=by omega
   have Ds:fD T m (z,A) (2*(m.ptrs.length:aw)) ((m.wants (bq m)).map eN) ((m.wants (bq m)).map fh) B S0 W4 wr:=by
    have:=zc.out;rw[Do,we.out,cR] at this;exact this
   have Ge:=zH Ds;clear R Ds Do
   go_upto_region 16 with(fail)
   obtain⟨s1,K,_,_⟩:=Ge.out;have DA:=zH (HK.out wr zj.out).2.2.2.2;have uv:=DA.out;have c0:wr.cell? ⟨t+1,0,tM⟩=tG (Z U 0):=(rowAt uv 0 rfl).1;have c1:wr.cell? ⟨t+1,1,tM⟩=tG (tU tM 0 0):=(rowAt uv 1 rfl).1;have f0:wr.frozen? ⟨t+1,0,tM⟩=tR:=(rowAt uv 0 rfl).2;have f1:wr.frozen? ⟨t+1,1,tM⟩=tR:=(rowAt uv 1 rfl).2;have c3:wr.cell? ⟨T,3,tM⟩=tG (Z U (2*(m.ptrs.length:aw))):=(rowAt K.row 3 rfl).1;have c4:wr.cell? ⟨T,4,tM⟩=tG (tU s1.fA ((m.wants (bq m)).map eN).length s1.fC):=(rowAt K.row 4 rfl).1;have c5:wr.cell? ⟨T,5,tM⟩=tG (tU s1.yA ((m.wants (bq m)).map fh).length s1.yC):=(rowAt K.row 5 rfl).1;have vy:=aa K.row;have H1:=zH K;clear uv K
   go_region
   obtain⟨WF,yi⟩:=zE (((wr.setCell ⟨t+1,0,tM⟩ (Z U (2*(m.ptrs.length:aw)))).setCell ⟨t+1,1,tM⟩ (tU s1.fA (m.wants (bq m)).length s1.fC)).drew);have Gk:WF.heap[t+1]?=tG (uc #[Z U (2*(m.ptrs.length:aw)),tU s1.fA (m.wants (bq m)).length s1.fC] 52 (0,0)):=by rw[<-yi];exact bf DA.out
   have yk:Ext (·=t+1) wr WF:=by rw[<-yi];exact((Ext.set1 wr (t+1) 0 _).trans (Ext.set1 _ (t+1) 1 _) (λk o=> .inl o)).drew
   rw[yi];obtain⟨DB,Hv⟩:=DM.out;have GB:((m.wants (bq m)).map eN).length=(m.wants (bq m)).length:=dy _;have DE:((m.wants (bq m)).map fh).length=(m.wants (bq m)).length:=dy _;have ye:eH w.heap.size WF s1.fA ((m.wants (bq m)).map eN):=(H1.out.clsIn.ext yk (λk o _ e=>by omega)).mono DB;have AK:=ah H1.out.yrow yk (λk o e=>by have:=(H1.out.yrow.lt k o).1;omega);rw[DE] at AK;have DG:aE w.heap.size w WF:=by
    refine(yq.out.trans (zj.out.mono (by have:=yq.out.size;omega))).trans (yk.below ?_ (λk o=> ?_))
    ·have:=yq.out.size;have:=zj.out.size;omega
    ·have:=DO.out;omega
   have HC:=zH ye;have HY:=zH (zzB AK DB);have GC:=zH DG;clear yi yk GB DE ye AK DG c0 c1 f0 f1 c3 c4 c5 vy;go_wp2;(try simp only[dk,Exit.then]);refine er (aN (P:=am) rfl _ _ (t+1) 52 _ (0,0) _ rfl Gk underlying52 (by kernel_rfl)) rfl ?_;exact⟨_,_,_,_,rfl,HC.out,HY.out,GC.out⟩
end
theorem vV (B1 B2:bh)(J K:cG fS)(C:bj (bj aw))(ca cb:bh)(w:World)(h1:eH B1 w J C)(h2:eH B2 w K C)(hc:∀c∈C,c.length<=80000)(hl:C.length<=1000000):
  zP 64 #[tU J C.length ca,tU K C.length cb] w (ua tP):=by
 have HA:cj (∀W,aE w.heap.size w W->∀(k:bh)(c:bj aw),C[k]?=tG c->∃g ao cap,J=tG ⟨g,0,tM⟩/\W.cell? ⟨g,k,tM⟩=tG (tU ao c.length cap)/\g<W.heap.size/\ak W ao c):=λW f k c q=>by
  obtain⟨g,ao,cap,d,t,v,y,_⟩:=(h1.below f) k c q;exact⟨g,ao,cap,d,v,t.2,y.at_⟩
 have vf:cj (∀(k:bh)(c:bj aw),C[k]?=tG c->∀g,J=tG ⟨g,0,tM⟩->g<w.heap.size):=λk c q g hg=>by
  obtain⟨g',ao,cap,d,t,v,y,_⟩:=h1 k c q;rw[hg] at d;simp only[dd,eR,pf] at d;rw[d];exact t.2
 have vh:cj (∀(k:bh)(c:bj aw),C[k]?=tG c->∀g,K=tG ⟨g,0,tM⟩->g<w.heap.size):=λk c q g hg=>by
  obtain⟨g',ao,cap,d,t,v,y,_⟩:=h2 k c q;rw[hg] at d;simp only[dd,eR,pf] at d;rw[d];exact t.2
 have HB:cj (∀W,aE w.heap.size w W->∀(k:bh)(c:bj aw),C[k]?=tG c->∃g ao cap,K=tG ⟨g,0,tM⟩/\W.cell? ⟨g,k,tM⟩=tG (tU ao c.length cap)/\g<W.heap.size/\ak W ao c):=λW f k c q=>by
  obtain⟨g,ao,cap,d,t,v,y,_⟩:=(h2.below f) k c q;exact⟨g,ao,cap,d,v,t.2,y.at_⟩
 clear h1 h2;go_enter func64,ntmps64;have e0:((C.length:aw) != (C.length:aw))=tR:=by simp
 go_upto_region 3 with(fail)
 go_wp2_with fail
 go_loopw [5] (λc wr=>∃k:bh,k<=C.length/\c= Z U (k:aw)/\aE w.heap.size w wr) (λc _=>C.length-(de c).toNat)
 case atStart=>exact⟨0,cN _,rfl,aq _ _⟩
 case round=>
  rename World=>wr;obtain⟨k,q,rfl,z⟩:=hrel;have A:=zH z
  by_cases vm:k<C.length
  ·have ws:(k:aw)<(C.length:aw):=by omega
   obtain⟨c,o⟩:∃c,C[k]?=tG c:=⟨_,ap vm⟩
   have xf:=hc c (cd o);have vp:=zH (vf.out k c o);have vq:=zH (vh.out k c o);obtain⟨g,ao,cap,rfl,c1,vr,_⟩:=HA.out wr z k c o;obtain⟨g2,ur,vt,rfl,c2,vu,_⟩:=HB.out wr z k c o;have d:((c.length:aw) != (c.length:aw))=tR:=by simp
   have vx:cj (∀W,aE w.heap.size w W->W.cell? ⟨g,k,tM⟩=tG (tU ao c.length cap)/\W.cell? ⟨g2,k,tM⟩=tG (tU ur c.length vt)/\ak W ao c/\ak W ur c):=λW f=>by
    obtain⟨g',a',p',x1,R,x3,x4⟩:=HA.out W f k c o;obtain⟨xj,xo,xp,y1,y2,y3,y4⟩:=HB.out W f k c o;simp only[dd,eR,pf] at x1 y1;subst x1 y1;obtain⟨g3,a3,p3,z1,z2,z3,z4⟩:=HA.out w (aq _ _) k c o;obtain⟨g4,a4,p4,u1,u2,u3,u4⟩:=HB.out w (aq _ _) k c o;simp only[dd,eR,pf] at z1 u1;subst z1 u1;rw[f.cell z3] at R;rw[f.cell u3] at y2;have q1:=c1;have q2:=c2;rw[A.out.cell z3] at q1;rw[A.out.cell u3] at q2;rw[q1] at R;rw[q2] at y2;simp only[dd,fm] at R y2;obtain⟨rfl,_,rfl⟩:=R;obtain⟨rfl,_,rfl⟩:=y2;exact⟨by rw[f.cell z3];exact q1,by rw[f.cell u3];exact q2,x4,y4⟩
   clear z o
   go_upto_region 8 with(fail)
   have k1:=BI c1 vr;have k2:=BI c2 vu;clear c1 c2;refine zQ ?_
   repeat (go_big_quiet_step (fail))
   refine dj ?_;rintro _ ⟨p,rfl⟩;have E:aE w.heap.size w p.w:=A.out.trans (p.h.mono A.out.size);obtain⟨w5,uv⟩:=zE p.w;rw[uv] at E⊢;have HP:=zH E;clear k1 k2 uv p E
   go_wp2_with fail
   go_loopw [6] (λs G=>∃j:bh,j<=c.length/\s= Z U (j:aw)/\aE w.heap.size w G) (λs _=>c.length-(de s).toNat)
   case atStart=>exact⟨0,cN _,rfl,HP.out⟩
   case round=>
    rename World=>G;obtain⟨j,hj,rfl,u⟩:=hrel;have ue:=zH u;obtain⟨c1,c2,ha,hb⟩:=vx.out G u;have vy:g<G.heap.size:=cH (vp.out g rfl) u.size;have we:g2<G.heap.size:=cH (vq.out g2 rfl) u.size
    by_cases up:j<c.length
    ·have xt:(j:aw)<(c.length:aw):=by omega
     obtain⟨x,hx⟩:∃x,c[j]?=tG x:=⟨_,ap up⟩
     have ux:c≠[]:=by intro e;rw[e] at up;simp at up
     obtain⟨b1,o1,rfl,wg,vc⟩:=ha ux;obtain⟨b2,o2,rfl,wj,vd⟩:=hb ux;have k1:=BI c1 vy;have k2:=BI c2 we;have k3:=BI (vc j x hx) wg;have k4:=BI (vd j x hx) wj;have t:(x != x)=tR:=by simp
     clear hx vc vd u
     go_upto_region 11 with(fail)
     clear c1 c2;refine zQ ?_
     repeat (go_big_quiet_step (fail))
     refine dj ?_;rintro _ ⟨p,rfl⟩;have E:aE w.heap.size w p.w:=ue.out.trans (p.h.mono ue.out.size);go_wp2;go_roundw
     case rel=>exact⟨j+1,by omega,by go_num,E⟩
     case measure=>simp[de];omega
    ·have wk:j=c.length:=by omega
     subst wk;clear ha hb u;go_wp2;go_roundw
     case rel=>exact⟨k+1,by omega,by go_num,ue.out⟩
     case measure=>simp[de];omega
  ·have wl:k=C.length:=by omega
   subst wl;clear z;go_wp2;go_ret;exact⟨rfl,A.out⟩
theorem zh (N:aw)(v x:bh)(f g:cG fS)(C:bj (bj aw))(h j:bh)(w:World)(E:eH v w f C)(G:eH x w g C)(J:∀c∈C,c.length<=80000)(K:C.length<=1000000):
  zP 19 #[ub #[Z U N,tU f C.length h],ub #[Z U N,tU g C.length j]] w (ua tP):=by
 obtain⟨D,q⟩:=zE w.heap.size;obtain⟨W1,d⟩:=zE ((w.alloc (uc #[Z U N,tU f C.length h] 48)).alloc (uc #[Z U N,tU g C.length j] 52));have o:=E8 d;have t:=vY d q;have u:=zl d q;have R:W1.heap.size=D+2:=by rw[<-d];simp[q]
 have HL:=zH (vV v x f g C h j W1 (E.below o) (G.below o) J K);have c0:=zR t 0 (Z U N);have c1:=zR t 1 (tU f C.length h);have d0:=zR u 0 (Z U N);have d1:=zR u 1 (tU g C.length j);have up:D<W1.heap.size:=by omega
 have ur:D+1<W1.heap.size:=by omega
 have y:=zH d;have z:=zH o;have e0:(N==N)=tP:=iS _;clear t u R d o;go_enter func19,ntmps19
 go_upto_region 1 with(fail)
 rw[y.out];clear y
 go_wp2_with (go_at_call 64;refine HL.out.mono ?_;rintro e w2 ⟨rfl,A⟩;have ue:=zH (z.out.trans (A.mono z.out.size));clear A)
 go_ret;exact⟨rfl,ue.out⟩
theorem Dp (m:Mo)(w:World)(h:iG w m)(g:eU m≠0):
  zP 15 #[ub m.cells] w (.tuple #[tW tM,Z U (eU m)]):=by
 obtain⟨x,y⟩:=zE w.heap.size;obtain⟨q,d⟩:=zE (w.alloc (uc m.cells 25));have j:=il d;have f:q.heap[x]?=tG (uc m.cells 25 (0,0)):=by rw[<-d,<-y];exact alloc_at _ _
 have o:=zH (qL m q (h.below j));obtain⟨F,hF⟩:=zE (eU m);rw[hF] at o g⊢;have A:(F != 0)=tP:=by rw[pp];exact g
 have c0:=zR f 0 (tU m.sA m.ss.length m.sC);have c1:=zR f 1 (tU m.fA m.fs.length m.fC);have E:=aa f;have t:=zH d;have u:=zH j;unfold Mo.cells at o t⊢;clear h g j f d hF;go_enter func15,ntmps15
 go_upto_region 1 with(fail)
 rw[t.out]
 go_wp2_with (go_at_call 53;refine o.out.mono ?_;rintro e w2 ⟨rfl,v⟩;have z:=zH (u.out.trans (v.mono u.out.size));clear v)
 go_ret2
 exact⟨rfl,z.out⟩
section
variable {T Bb MB:bh}{lv:cG fS×bh}{P:bj (aw×aw)}{N:aw}{F:aw×aw->aw}{C:bj (bj aw)}{Y:bj (aw×aw)}{at_:aw×aw}{B:bh}{tg:bh->bh}{s:ow}{w w':World}
theorem zi (w:World)(h:Wn T Bb MB lv P N F C Y at_ B tg s w)(k:aw)(e:k<0\/(Y.length:aw)<=k):
  zP 21 #[tW (tG ⟨T,0,tM⟩),Z U k] w (.tuple #[Z U 0,Z U 0,ua tR]):=by
 have g:=aa h.row;have j:=h.lY;have c3:w.cell? ⟨T,3,tM⟩=tG (tU s.yA Y.length s.yC):=(rowAt h.row 3 rfl).1;clear h
 by_cases d:k<0
 ·go_enter func21,ntmps21
  have f:decide (k<0)=tP:=cV d;go_wp2
  go_ret3
  exact⟨rfl,aq _ _⟩
 ·go_enter func21,ntmps21
  have f:decide (k<0)=tR:=cv d;have o:decide ((Y.length:aw)<=k)=tP:=cV (by omega);clear e;go_wp2
  go_ret3
  exact⟨rfl,aq _ _⟩
end
section
open Go.RowKit Go.ChangeShapes Go.WideShapes Go.Deep
section
variable {H:Type}{enc:gt×cA->H}{w:World}{base:bh}{spare:bh->mm}{held:mm}
def Ins.mode_in (w:World)(i:Ins):Prop:=∃(l:bj aw) (ao:cG fS) (cap:bh),i.modeV= tU ao l.length cap/\dH w ao l
theorem EY {n:bh}{d:bj cA}{x:DataW H×bj n9}(h:kO enc am w base spare held n 42 d=tG x):∃i:Ins,i.cells.toList=d/\i.args_in w/\i.mode_in w:=by
 obtain⟨i,e,g⟩:=Fe h;refine⟨i,e,g, ?_⟩;obtain⟨xs,m,_,_,u,j,o⟩:=ft cD h;have v:xs.length=12:=j;have q:=(o 8 _ rfl).trans (ap (show 8<xs.length by omega));obtain⟨A,L,C,f,_,t,_⟩:=jM q;refine⟨L,A,C, ?_,t⟩;rw[<-e] at f;simpa[Ins.cells,show am.cellsOf 35=1 from by kernel_rfl] using f
theorem Hw {n:bh}{j:bj cA}{x:DataW H×bj n9}(h:kO enc am w base spare held n 92 j=tG x):∃f:Fd,f.cells.toList=j/\f.nm.size<=eC:=by
 obtain⟨xs,m,_,_,o,K,d⟩:=ft underlying92 h;have R:am.cellsOf 92=5:=by kernel_rfl
 have vh:xs.length=3:=K;rw[R] at o;obtain⟨c0,vm,e0,ue⟩:=zU o;obtain⟨c1,vp,e1,up⟩:=zU ue;obtain⟨c2,vq,e2,ur⟩:=zU up;obtain⟨c3,vr,e3,uv⟩:=zU ur;obtain⟨c4,vt,e4,ux⟩:=zU uv;obtain rfl:=dr ux;subst e4 e3 e2 e1 e0;have z1:am.cellsOf 4=1:=by kernel_rfl
 have q:am.cellsOf 9=1:=by kernel_rfl
 have t:am.cellsOf 3=1:=by kernel_rfl
 have u:am.cellsOf 32=2:=by kernel_rfl
 have v:am.cellsOf 40=2:=by kernel_rfl
 have g0:=(d 0 _ rfl).trans (ap (show 0<xs.length by omega));obtain⟨nm,r0,_,vc⟩:=mp iv g0;obtain rfl:c0= .string nm:=by simpa[q] using r0
 have g1:=(d 1 _ rfl).trans (ap (show 1<xs.length by omega));obtain⟨e,m',_,_,_,vd,y⟩:=ft eM g1;have vu:e.length=2:=vd;have p0:=(y 0 _ rfl).trans (ap (show 0<e.length by omega));have p1:=(y 1 _ rfl).trans (ap (show 1<e.length by omega));obtain⟨z,s0,_⟩:=DataW.trod_bool nj p0;obtain⟨A,s1,_,_⟩:=mp iv p1;obtain rfl:c1= .bool z:=by simpa[z1,u] using s0
 obtain rfl:c2= .string A:=by simpa[q,u] using s1
 have g2:=(d 2 _ rfl).trans (ap (show 2<xs.length by omega));obtain⟨g,vx,_,_,_,vf,E⟩:=ft nh g2;have vy:g.length=2:=vf;have u0:=(E 0 _ rfl).trans (ap (show 0<g.length by omega));have u1:=(E 1 _ rfl).trans (ap (show 1<g.length by omega));obtain⟨G,v0,_,_⟩:=eE dl u0;obtain⟨J,v1,_,_⟩:=eE dl u1;obtain rfl:c3= .int .i64 G:=by simpa[t,v] using v0
 obtain rfl:c4= .int .i64 J:=by simpa[t,v] using v1
 exact⟨⟨nm,z,A,G,J⟩,rfl,vc⟩
theorem Hy {n:bh}{d:bj cA}{x:DataW H×bj n9}(h:kO enc am w base spare held n 90 d=tG x):∃s:St,s.cells.toList=d/\s.inn w:=by
 obtain⟨xs,m,_,_,j,y,e⟩:=ft oB h;have z:am.cellsOf 90=4:=by kernel_rfl
 have vd:xs.length=3:=y;rw[z] at j;obtain⟨c0,vf,A,E⟩:=zU j;obtain⟨c1,vh,G,J⟩:=zU E;obtain⟨c2,vm,K,R⟩:=zU J;obtain⟨c3,vp,e3,ue⟩:=zU R;obtain rfl:=dr ue;subst e3 K G A;have z2:am.cellsOf 9=1:=by kernel_rfl
 have o:am.cellsOf 3=1:=by kernel_rfl
 have q:am.cellsOf 40=2:=by kernel_rfl
 have z6:am.cellsOf 88=1:=by kernel_rfl
 have g0:=(e 0 _ rfl).trans (ap (show 0<xs.length by omega));obtain⟨nm,r0,_,up⟩:=mp iv g0;obtain rfl:c0= .string nm:=by simpa[z2] using r0
 have g1:=(e 1 _ rfl).trans (ap (show 1<xs.length by omega));obtain⟨fA,fs,fC,r1,ur,uv,ux⟩:=open_row Fd.cells (λf:Fd=>f.nm.size<=eC) 5 (by decide) iu (by kernel_rfl) (λn d x hx=>Hw hx) g1;obtain rfl:c1= .slice fA fs.length fC:=by simpa[z6] using r1
 have g2:=(e 2 _ rfl).trans (ap (show 2<xs.length by omega));obtain⟨g,vq,_,_,_,vc,t⟩:=ft nh g2;have vr:g.length=2:=vc;have u0:=(t 0 _ rfl).trans (ap (show 0<g.length by omega));have u1:=(t 1 _ rfl).trans (ap (show 1<g.length by omega));obtain⟨u,v0,_,_⟩:=eE dl u0;obtain⟨v,v1,_,_⟩:=eE dl u1;obtain rfl:c2= .int .i64 u:=by simpa[o,q] using v0
 obtain rfl:c3= .int .i64 v:=by simpa[o,q] using v1
 exact⟨⟨⟨nm,fA,fs.length,fC,u,v⟩,fs⟩,rfl,rfl,uv,ur,up,ux⟩
end
end
section
open Go.RowKit Go.ChangeShapes Go.WideShapes Go.Deep
theorem zk {x:aw}(h:(Lit.int .i64 x).wf=tP):bN x:=by
 simp only[Lit.wf,fj,oE] at h;exact h
def Ins.wfs (i:Ins):Prop:=bN i.d/\bN i.a/\bN i.b/\bN i.f
section
variable {H:Type}{enc:gt×cA->H}{w:World}{base:bh}{spare:bh->mm}{held:mm}
theorem EZ {n:bh}{g:bj cA}{x:DataW H×bj n9}(h:kO enc am w base spare held n 42 g=tG x):∃i:Ins,i.cells.toList=g/\(i.args_in w/\i.wfs)/\i.mode_in w:=by
 obtain⟨i,j,o,q⟩:=EY h;refine⟨i,j,⟨o, ?_⟩,q⟩;obtain⟨xs,m,_,_,ue,t,e⟩:=ft cD h;have up:xs.length=12:=t;have z:am.cellsOf 3=1:=by kernel_rfl
 have u:=(e 1 _ rfl).trans (ap (show 1<xs.length by omega));have v:=(e 2 _ rfl).trans (ap (show 2<xs.length by omega));have y:=(e 3 _ rfl).trans (ap (show 3<xs.length by omega));have A:=(e 4 _ rfl).trans (ap (show 4<xs.length by omega));obtain⟨d,r1,_,E⟩:=eE dl u;obtain⟨a,r2,_,w2⟩:=eE dl v;obtain⟨b,r3,_,G⟩:=eE dl y;obtain⟨f,r4,_,J⟩:=eE dl A;rw[<-j] at r1 r2 r3 r4;have K:i.d=d:=by simpa[Ins.cells,z] using r1
 have R:i.a=a:=by simpa[Ins.cells,z] using r2
 have e3:i.b=b:=by simpa[Ins.cells,z] using r3
 have e4:i.f=f:=by simpa[Ins.cells,z] using r4
 unfold Ins.wfs;rw[K,R,e3,e4];exact⟨zk E,zk w2,zk G,zk J⟩
theorem Gr {n:bh}{g:bj cA}{x:DataW H×bj n9}(h:kO enc am w base spare held n 38 g=tG x):∃f:Fn,f.cells.toList=g/\f.inn w/\∀i∈f.c.ins,i.wfs:=by
 obtain⟨xs,m,_,_,z,ux,e⟩:=ft cQ h;have hc:am.cellsOf 38=8:=by kernel_rfl
 have wl:xs.length=6:=ux;rw[hc] at z;obtain⟨c0,ws,e0,vc⟩:=zU z;obtain⟨c1,xf,e1,vd⟩:=zU vc;obtain⟨c2,xj,e2,vf⟩:=zU vd;obtain⟨c3,xo,e3,vh⟩:=zU vf;obtain⟨c4,xp,e4,vm⟩:=zU vh;obtain⟨c5,xt,e5,vp⟩:=zU vm;obtain⟨c6,xF,e6,vq⟩:=zU vp;obtain⟨c7,xT,e7,vr⟩:=zU vq;obtain rfl:=dr vr;subst e7 e6 e5 e4 e3 e2 e1 e0;have g0:=(e 0 _ rfl).trans (ap (show 0<xs.length by omega));obtain⟨nm,r0,_,vt⟩:=mp iv g0;obtain rfl:c0= .string nm:=by simpa[show am.cellsOf 9=1 from by kernel_rfl] using r0
 have g1:=(e 1 _ rfl).trans (ap (show 1<xs.length by omega));obtain⟨A,r1,_,_⟩:=eE dl g1;obtain rfl:c1= .int .i64 A:=by simpa[show am.cellsOf 3=1 from by kernel_rfl] using r1
 have g2:=(e 2 _ rfl).trans (ap (show 2<xs.length by omega));obtain⟨E,o,G,r2,vu,J,_⟩:=open_row Vr.cells (λ_=>True) 3 (by decide) underlying30 (by kernel_rfl) (λn g x d=>Dr d) g2;obtain rfl:c2= .slice E o.length G:=by simpa[show am.cellsOf 30=1 from by kernel_rfl] using r2
 have g3:=(e 3 _ rfl).trans (ap (show 3<xs.length by omega));obtain⟨v,K,_⟩:=Dr g3;have z4:am.cellsOf 34=3:=by kernel_rfl
 simp[Vr.cells,z4] at K;obtain⟨rfl,rfl,rfl⟩:=K;have g4:=(e 4 _ rfl).trans (ap (show 4<xs.length by omega));obtain⟨R,q,ue,r4,vx,up,_⟩:=jM g4;obtain rfl:c6= .slice R q.length ue:=by simpa[show am.cellsOf 35=1 from by kernel_rfl] using r4
 have g5:=(e 5 _ rfl).trans (ap (show 5<xs.length by omega));obtain⟨ur,ins,uv,r5,vy,we,t⟩:=open_row Ins.cells (λi=>(i.args_in w/\i.wfs)/\i.mode_in w) 13 (by decide) underlying36 (by kernel_rfl) (λn g x d=>EZ d) g5;obtain rfl:c7= .slice ur ins.length uv:=by simpa[show am.cellsOf 36=1 from by kernel_rfl] using r5
 obtain⟨wg,wj,wk⟩:=ll (λk (l:bj aw)=>∀i,ins[k]?=tG i->∃ao cap,i.modeV= .slice ao l.length cap/\dH w ao l) ins.length (λk hk=>by
  obtain⟨i,hi⟩:∃i,ins[k]?=tG i:=⟨_,ap hk⟩
  obtain⟨l,ao,cap,u,y⟩:=(t i (cd hi)).2;exact⟨l,λj hj=>by rw[hi] at hj;obtain rfl:=cE hj;exact⟨ao,cap,u,y⟩⟩)
 exact⟨⟨⟨nm,A,E,o.length,G,v.ptr,v.tgt,v.cls,R,q.length,ue,ur,uv,ins⟩,o,q,wg⟩,rfl,⟨⟨we,λx d=>(t x d).1.1,vy,⟨o,rfl,J⟩,vu,vx,⟨q,rfl,up⟩⟩,vt,rfl,J,rfl,up,wj,λk i l u y=>wk k l y i u⟩,λx d=>(t x d).1.2⟩
theorem open_moW {r:Reach}{E:bh}{v:cA}{d:DataW H}{p:bj n9}(G:Value.okWide am w r E 25 v)(h:DataW.Trod enc am w base spare held 25 v d p):
  ∃m:Mo,v= .agg m.cells/\m.inn w/\∀g∈m.fs,∀i∈g.c.ins,i.wfs:=by
 obtain⟨o,fuel,J,K⟩:=Ii fx G h;obtain⟨xs,m,_,_,q,R,j⟩:=ft fx K;have hc:am.cellsOf 25=2:=by kernel_rfl
 have vh:xs.length=2:=R;rw[hc] at q;obtain⟨c0,ue,t⟩:=qk (show o.toList.length=1+1 from by rw[q]);have up:ue.length=1:=by rw[t] at q;simpa using q
 obtain⟨c1,vm,e1,ur⟩:=zU up;obtain rfl:=dr ur;subst e1;have g0:=(j 0 _ rfl).trans (ap (show 0<xs.length by omega));have g1:=(j 1 _ rfl).trans (ap (show 1<xs.length by omega));obtain⟨sA,u,sC,z,uv,ux,vc⟩:=open_row St.cells (λs=>s.inn w) 4 (by decide) underlying22 (by kernel_rfl) (λn o x y=>Hy y) g0;obtain⟨fA,fs,fC,r1,vd,vf,A⟩:=open_row Fn.cells (λf=>f.inn w/\∀i∈f.c.ins,i.wfs) 8 (by decide) underlying23 (by kernel_rfl) (λn o x y=>Gr y) g1;rw[t] at z r1;obtain rfl:c0= .slice sA u.length sC:=by simpa[show am.cellsOf 22=1 from by kernel_rfl] using z
 obtain rfl:c1= .slice fA fs.length fC:=by simpa[show am.cellsOf 22=1 from by kernel_rfl,show am.cellsOf 23=1 from by kernel_rfl] using r1
 have e:o=(⟨sA,sC,fA,fC,u,fs⟩:Mo).cells:=Array.ext' t;exact⟨⟨sA,sC,fA,fC,u,fs⟩,by rw[J,e],⟨ux,vf,vc,λf j=>(A f j).1,uv,vd⟩,λf j=>(A f j).2⟩
end
end
end Go.Proofs.YtjomgckjhcfbgaaGreat
