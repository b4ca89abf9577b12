/- Walks. -/
import Derived.Test.YtjomgckjhcfbgaaGreatX6
set_option maxRecDepth 100000
set_option maxHeartbeats 64000000
set_option linter.all false
namespace Go.Proofs.YtjomgckjhcfbgaaGreat
open Go.RowKit
open Go.Proofs.Tryz renaming prog→ac
open _root_ renaming ByteArray→aw,List→bm,Int→cj
open _root_.List renaming mem_singleton→cA,map_cons→kc
open Go renaming Calls→ft
open _root_.List.cons renaming injEq→qk
open _root_.Option renaming some→qt
open _root_.Bool renaming true→qv
open Go.Value renaming string→qT
open Tryz
def Al:aw:=⟨#[115,116,114,117,99,116,32,83,32,123,32,83,32,42,110,59,32,125,59,32,105,110,116,32,109,97,105,110,40,41,32,123,32,83,32,42,97,32,61,32,110,101,119,32,83,59,32,83,32,42,98,32,61,32,97,59,32,114,101,116,117,114,110,32,48,59,32,125]⟩
def DN:bm xG:=[(2,⟨#[115,116,114,117,99,116]⟩,0),(1,⟨#[83]⟩,0),(4,⟨#[123]⟩,0),(1,⟨#[83]⟩,0),(4,⟨#[42]⟩,0),(1,⟨#[110]⟩,0),(4,⟨#[59]⟩,0),(4,⟨#[125]⟩,0),(4,⟨#[59]⟩,0),(2,⟨#[105,110,116]⟩,0),(1,⟨#[109,97,105,110]⟩,0),(4,⟨#[40]⟩,0),(4,⟨#[41]⟩,0),(4,⟨#[123]⟩,0),(1,⟨#[83]⟩,0),(4,⟨#[42]⟩,0),(1,⟨#[97]⟩,0),(4,⟨#[61]⟩,0),(2,⟨#[110,101,119]⟩,0),(1,⟨#[83]⟩,0),(4,⟨#[59]⟩,0),(1,⟨#[83]⟩,0),(4,⟨#[42]⟩,0),(1,⟨#[98]⟩,0),(4,⟨#[61]⟩,0),(1,⟨#[97]⟩,0),(4,⟨#[59]⟩,0),(2,⟨#[114,101,116,117,114,110]⟩,0),(3,⟨#[48]⟩,0),(4,⟨#[59]⟩,0),(4,⟨#[125]⟩,0)]
theorem Ei:jW Al 32 (eP Al Al.size 0)=qt DN:=by kernel_rfl
def QB (l:bm nP):Prop:=∃d c1 f c3 h c2:cj,l=[⟨1,(qv,bS),BH,[⟨7,0,bS,d,c1⟩]⟩,⟨1,(qv,bS),ED,[⟨2,0,BH,f,c3⟩]⟩,⟨8,bq,⟨#[]⟩,[⟨1,0,⟨#[]⟩,h,c2⟩]⟩]
def KB (p:Pg)(V:bm Ty)(I:bm eX):Prop:=p.snm=bS/\p.nm=nU/\p.ret=bq/\p.fs.map Fd.shp=[(Eg,(qv,bS))]/\V=[(qv,bS),(qv,bS),bq]/\∃d c0 f c1 h c2 o c3:cj,I=[⟨12,0,0,0,0,d,c0⟩,⟨9,1,0,0,0,f,c1⟩,⟨1,2,0,0,0,h,c2⟩,⟨18,0,2,0,0,o,c3⟩]
theorem CP (T:bm Tok)(h:T.map Tok.sig=DN++[(5,⟨#[]⟩,0)]):∃o,QB o/\o8 T bS [(Eg,(qv,bS))] nU bq o:=by
 obtain⟨d,f,q⟩:=CO _ T h;have u:T=[⟨2,⟨#[115,116,114,117,99,116]⟩,0,d 0,f 0⟩,⟨1,⟨#[83]⟩,0,d 1,f 1⟩,⟨4,⟨#[123]⟩,0,d 2,f 2⟩,⟨1,⟨#[83]⟩,0,d 3,f 3⟩,⟨4,⟨#[42]⟩,0,d 4,f 4⟩,⟨1,⟨#[110]⟩,0,d 5,f 5⟩,⟨4,⟨#[59]⟩,0,d 6,f 6⟩,⟨4,⟨#[125]⟩,0,d 7,f 7⟩,⟨4,⟨#[59]⟩,0,d 8,f 8⟩,⟨2,⟨#[105,110,116]⟩,0,d 9,f 9⟩,⟨1,⟨#[109,97,105,110]⟩,0,d 10,f 10⟩,⟨4,⟨#[40]⟩,0,d 11,f 11⟩,⟨4,⟨#[41]⟩,0,d 12,f 12⟩,⟨4,⟨#[123]⟩,0,d 13,f 13⟩,⟨1,⟨#[83]⟩,0,d 14,f 14⟩,⟨4,⟨#[42]⟩,0,d 15,f 15⟩,⟨1,⟨#[97]⟩,0,d 16,f 16⟩,⟨4,⟨#[61]⟩,0,d 17,f 17⟩,⟨2,⟨#[110,101,119]⟩,0,d 18,f 18⟩,⟨1,⟨#[83]⟩,0,d 19,f 19⟩,⟨4,⟨#[59]⟩,0,d 20,f 20⟩,⟨1,⟨#[83]⟩,0,d 21,f 21⟩,⟨4,⟨#[42]⟩,0,d 22,f 22⟩,⟨1,⟨#[98]⟩,0,d 23,f 23⟩,⟨4,⟨#[61]⟩,0,d 24,f 24⟩,⟨1,⟨#[97]⟩,0,d 25,f 25⟩,⟨4,⟨#[59]⟩,0,d 26,f 26⟩,⟨2,⟨#[114,101,116,117,114,110]⟩,0,d 27,f 27⟩,⟨3,⟨#[48]⟩,0,d 28,f 28⟩,⟨4,⟨#[59]⟩,0,d 29,f 29⟩,⟨4,⟨#[125]⟩,0,d 30,f 30⟩,⟨5,⟨#[]⟩,0,d 31,f 31⟩]:=q;clear h q;subst u;refine⟨_,⟨d 18,f 18,d 25,f 25,d 28,f 28,rfl⟩, ?_⟩;refine⟨?_,by simp, ?_⟩
 ·exact Ak (A:=[⟨2,⟨#[115,116,114,117,99,116]⟩,0,d 0,f 0⟩,⟨1,⟨#[83]⟩,0,d 1,f 1⟩,⟨4,⟨#[123]⟩,0,d 2,f 2⟩,⟨1,⟨#[83]⟩,0,d 3,f 3⟩,⟨4,⟨#[42]⟩,0,d 4,f 4⟩,⟨1,⟨#[110]⟩,0,d 5,f 5⟩,⟨4,⟨#[59]⟩,0,d 6,f 6⟩,⟨4,⟨#[125]⟩,0,d 7,f 7⟩,⟨4,⟨#[59]⟩,0,d 8,f 8⟩,⟨2,⟨#[105,110,116]⟩,0,d 9,f 9⟩,⟨1,⟨#[109,97,105,110]⟩,0,d 10,f 10⟩,⟨4,⟨#[40]⟩,0,d 11,f 11⟩,⟨4,⟨#[41]⟩,0,d 12,f 12⟩,⟨4,⟨#[123]⟩,0,d 13,f 13⟩,⟨1,⟨#[83]⟩,0,d 14,f 14⟩,⟨4,⟨#[42]⟩,0,d 15,f 15⟩,⟨1,⟨#[97]⟩,0,d 16,f 16⟩,⟨4,⟨#[61]⟩,0,d 17,f 17⟩,⟨2,⟨#[110,101,119]⟩,0,d 18,f 18⟩,⟨1,⟨#[83]⟩,0,d 19,f 19⟩,⟨4,⟨#[59]⟩,0,d 20,f 20⟩,⟨1,⟨#[83]⟩,0,d 21,f 21⟩,⟨4,⟨#[42]⟩,0,d 22,f 22⟩,⟨1,⟨#[98]⟩,0,d 23,f 23⟩,⟨4,⟨#[61]⟩,0,d 24,f 24⟩,⟨1,⟨#[97]⟩,0,d 25,f 25⟩,⟨4,⟨#[59]⟩,0,d 26,f 26⟩,⟨2,⟨#[114,101,116,117,114,110]⟩,0,d 27,f 27⟩,⟨3,⟨#[48]⟩,0,d 28,f 28⟩,⟨4,⟨#[59]⟩,0,d 29,f 29⟩,⟨4,⟨#[125]⟩,0,d 30,f 30⟩]) (e:=⟨5,⟨#[]⟩,0,d 31,f 31⟩) rfl rfl
 ·refine⟨7,10,30,_,_,_,_,_,_,_,_,_,_,_,_,rfl,rfl,rfl,rfl,rfl,rfl,rfl,.cons 3 5 7 (qv,bS) ⟨1,⟨#[110]⟩,0,d 5,f 5⟩ ⟨4,⟨#[59]⟩,0,d 6,f 6⟩ [] (.ptr ⟨1,⟨#[83]⟩,0,d 3,f 3⟩ ⟨4,⟨#[42]⟩,0,d 4,f 4⟩ rfl rfl rfl rfl) rfl rfl rfl rfl (.nil 7),rfl,rfl,rfl,rfl,rfl,rfl,.int _ rfl rfl,rfl,rfl,rfl,rfl,rfl,rfl,rfl,rfl,rfl, ?_,rfl,rfl,rfl,rfl⟩
  exact .cons 14 21 30 _ _ (.decl ⟨1,⟨#[83]⟩,0,d 14,f 14⟩ ⟨4,⟨#[42]⟩,0,d 15,f 15⟩ ⟨1,⟨#[97]⟩,0,d 16,f 16⟩ ⟨4,⟨#[61]⟩,0,d 17,f 17⟩ ⟨4,⟨#[59]⟩,0,d 20,f 20⟩ ⟨7,0,⟨#[83]⟩,d 18,f 18⟩ 20 rfl rfl rfl rfl rfl rfl rfl rfl rfl (.new ⟨2,⟨#[110,101,119]⟩,0,d 18,f 18⟩ ⟨1,⟨#[83]⟩,0,d 19,f 19⟩ rfl rfl rfl rfl rfl) rfl rfl) (.cons 21 27 30 _ _ (.decl ⟨1,⟨#[83]⟩,0,d 21,f 21⟩ ⟨4,⟨#[42]⟩,0,d 22,f 22⟩ ⟨1,⟨#[98]⟩,0,d 23,f 23⟩ ⟨4,⟨#[61]⟩,0,d 24,f 24⟩ ⟨4,⟨#[59]⟩,0,d 26,f 26⟩ ⟨2,0,⟨#[97]⟩,d 25,f 25⟩ 26 rfl rfl rfl rfl rfl rfl rfl rfl rfl (.var ⟨1,⟨#[97]⟩,0,d 25,f 25⟩ ⟨4,⟨#[59]⟩,0,d 26,f 26⟩ rfl rfl rfl rfl) rfl rfl) (.cons 27 30 30 _ _ (.ret ⟨2,⟨#[114,101,116,117,114,110]⟩,0,d 27,f 27⟩ ⟨4,⟨#[59]⟩,0,d 29,f 29⟩ ⟨1,0,⟨#[]⟩,d 28,f 28⟩ 29 rfl rfl (.num ⟨3,⟨#[48]⟩,0,d 28,f 28⟩ rfl rfl) rfl rfl) (.nil 30)))
theorem EE {p:Pg}(h:QB (p.ss.map Sm.shp)):∃s1 d f:Sm,∃o c1 q c3 u c2:cj,p.ss=[s1,d,f]/\s1.kind=1/\s1.ty=(qv,bS)/\s1.nm=BH/\s1.es=[⟨7,0,bS,o,c1⟩]/\d.kind=1/\d.ty=(qv,bS)/\d.nm=ED/\d.es=[⟨2,0,BH,q,c3⟩]/\f.kind=8/\f.es=[⟨1,0,⟨#[]⟩,u,c2⟩]:=by
 obtain⟨o,c1,q,c3,u,c2,h⟩:=h
 match hss:p.ss,h with
 |[s1,d,f],h=>
  simp only[kc,List.map_nil,qk,and_true,Sm.shp,nP.mk.injEq] at h;obtain⟨⟨v,y,A,D⟩,⟨G,J,K,R⟩,rl,rn,rr,rm⟩:=h;exact⟨s1,d,f,o,c1,q,c3,u,c2,rfl,v,y,A,D,G,J,K,R,rl,rm⟩
 |[],h=>simp at h
 |[_],h=>simp at h
 |[_,_],h=>simp at h
 |_::_::_::_::_,h=>simp at h
theorem wG (w:World):ft ac 52 #[qT Al] w (wB w KB):=by
 refine uM Al DN 32 QB bS nU [(Eg,(qv,bS))] bq KB w (by decide) (yj (by kernel_rfl)) (by decide) Ei (λT h=>CP T h) (λp hq o h2 D G=> ?_);obtain⟨s1,J,q,u,c1,v,c3,y,c2,d,A,t1,n1,e1,K,t2,n2,e2,R,e3⟩:=EE hq;obtain⟨fd,rl,rm,rn⟩:=uN h2;have rr:s1∈p.ss:=by rw[d];simp
 have rv:J∈p.ss:=by rw[d];simp
 have rx:q∈p.ss:=by rw[d];simp
 have rB:l5 p bS=0:=by unfold l5;rw[o];rfl
 have hS:(⟨s1.nm,s1.ty.1,s1.ty.2,0,0⟩:Fd)=⟨BH,qv,bS,0,0⟩:=by rw[n1,t1]
 refine⟨⟨⟨fd,rl,by rw[rm,o]⟩,D,by rw[G];rfl, ?_,by rw[d];simp,λj hj=> ?_,by rw[d];simp,by rw[d];simp[gB,R]⟩,by rw[D];decide,by rw[o];decide,λf hf=> ?_,by rw[rl];simp,[(qv,bS),(qv,bS),bq],[⟨12,0,0,0,0,u,c1⟩,⟨9,1,0,0,0,v,c3⟩,⟨1,2,0,0,0,y,c2⟩,⟨18,0,2,0,0,q.ln,q.cl⟩],⟨o,D,G,h2,rfl,u,c1,v,c3,y,c2,q.ln,q.cl,rfl⟩,by simp,by simp,λm L=> ?_⟩
 ·rw[d]
  refine .cons _ _ _ _ (.inr (.inr ⟨A,_,e1,.inr (.inr ⟨rfl,o,t1⟩),by rw[t1,o],rfl,rfl⟩)) (.cons _ _ _ _ (.inr (.inr ⟨K,_,e2,.inr (.inl ⟨rfl,⟨BH,qv,bS,0,0⟩, ?_,by rw[t2];rfl⟩),by rw[t2,o], ?_,rfl⟩)) (.cons _ _ _ _ (.inl ⟨R,_,e3,.inl ⟨rfl,G⟩,rfl⟩) (.nil _)))
  ·rw[hS];rfl
  ·rw[hS,n2];rfl
 ·rw[d] at hj⊢
  match j,hj with
  |0,_=>rfl
  |1,_=>simp[gB,A]
  |2,_=>simp[gB,A,K]
 ·rw[rl,cA] at hf
  rw[hf,rn];decide
 ·refine BI _ d ?_
  have g1:=pz (m:=m) (L:=L) (X:=X0 p) (V:=[]) (I:=[]) (S:=[]) (s:=s1) (e:=⟨7,0,bS,u,c1⟩) rfl rr A e1 (by simp) (by simp) (yl s1.ty bS u c1 rB (by simp) (by simp));rw[t1,n1] at g1;have g2:=pz (m:=m) (p:=p) (L:=L) (X:=X0 p) (V:=[(qv,bS)]) (I:=[⟨12,0,0,0,0,u,c1⟩]) (S:=[(BH,0)]) (s:=J) (e:=⟨2,0,BH,v,c3⟩) rfl rv K e2 (by simp) (by simp) (wF J.ty BH v c3 0 (BH,0) rfl rfl (Eh _ _ rfl) (qv,bS) (by simp) rfl (by simp) (by simp));rw[t2,n2] at g2;have g3:=Aj (m:=m) (p:=p) (L:=L) (X:=X0 p) (V:=[(qv,bS),(qv,bS)]) (I:=[⟨12,0,0,0,0,u,c1⟩,⟨9,1,0,0,0,v,c3⟩]) (S:=[(BH,0),(ED,1)]) (s:=q) (e:=⟨1,0,⟨#[]⟩,y,c2⟩) rfl rx R e3 (by simp) (ym 0 y c2 (by simp) (by simp));exact .cons _ _ _ _ _ _ _ _ _ _ g1 (.cons _ _ _ _ _ _ _ _ _ _ g2 (.cons _ _ _ _ _ _ _ _ _ _ g3 (.nil _ _ _)))
end Go.Proofs.YtjomgckjhcfbgaaGreat
