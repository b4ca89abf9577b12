/- Walks. -/
import Derived.Test.YtjomgckjhcfbgaaGreatV6
set_option maxRecDepth 100000
set_option maxHeartbeats 64000000
set_option linter.all false
namespace Go.Proofs.YtjomgckjhcfbgaaGreat
open Go.RowKit
open Go.Proofs.Tryz renaming prog→ac
open _root_ renaming ByteArray→ap,List→bh,Int→ct
open _root_.List renaming mem_singleton→co,map_cons→kj
open Go renaming Calls→et
open _root_.List.cons renaming injEq→nx
open _root_.Option renaming some→oa
open _root_.Bool renaming true→oc
open Go.Value renaming string→oe
open Tryz
def xz:ap:=⟨#[115,116,114,117,99,116,32,83,32,123,32,83,32,42,110,59,32,125,59,32,105,110,116,32,109,97,105,110,40,41,32,123,32,83,32,42,97,32,61,32,110,101,119,32,83,59,32,83,32,42,98,32,61,32,97,59,32,114,101,116,117,114,110,32,48,59,32,125]⟩
def AQ:bh uH:=[(2,⟨#[115,116,114,117,99,116]⟩,0),(1,⟨#[83]⟩,0),(4,⟨#[123]⟩,0),(1,⟨#[83]⟩,0),(4,⟨#[42]⟩,0),(1,⟨#[110]⟩,0),(4,⟨#[59]⟩,0),(4,⟨#[125]⟩,0),(4,⟨#[59]⟩,0),(2,⟨#[105,110,116]⟩,0),(1,⟨#[109,97,105,110]⟩,0),(4,⟨#[40]⟩,0),(4,⟨#[41]⟩,0),(4,⟨#[123]⟩,0),(1,⟨#[83]⟩,0),(4,⟨#[42]⟩,0),(1,⟨#[97]⟩,0),(4,⟨#[61]⟩,0),(2,⟨#[110,101,119]⟩,0),(1,⟨#[83]⟩,0),(4,⟨#[59]⟩,0),(1,⟨#[83]⟩,0),(4,⟨#[42]⟩,0),(1,⟨#[98]⟩,0),(4,⟨#[61]⟩,0),(1,⟨#[97]⟩,0),(4,⟨#[59]⟩,0),(2,⟨#[114,101,116,117,114,110]⟩,0),(3,⟨#[48]⟩,0),(4,⟨#[59]⟩,0),(4,⟨#[125]⟩,0)]
theorem Bp:iP xz 32 (dD xz xz.size 0)=oa AQ:=by kernel_rfl
def QB (l:bh lv):Prop:=∃a c1 b c3 d c2:ct,l=[⟨1,(oc,bS),yG,[⟨7,0,bS,a,c1⟩]⟩,⟨1,(oc,bS),BM,[⟨2,0,yG,b,c3⟩]⟩,⟨8,bG,⟨#[]⟩,[⟨1,0,⟨#[]⟩,d,c2⟩]⟩]
def KB (p:Pg)(V:bh Ty)(I:bh dF):Prop:=p.snm=bS/\p.nm=lD/\p.ret=bG/\p.fs.map Fd.shp=[(Bn,(oc,bS))]/\V=[(oc,bS),(oc,bS),bG]/\∃a c0 b c1 d c2 f c3:ct,I=[⟨12,0,0,0,0,a,c0⟩,⟨9,1,0,0,0,b,c1⟩,⟨1,2,0,0,0,d,c2⟩,⟨18,0,2,0,0,f,c3⟩]
theorem zC (T:bh Tok)(h:T.map Tok.sig=AQ++[(5,⟨#[]⟩,0)]):∃d,QB d/\mX T bS [(Bn,(oc,bS))] lD bG d:=by
 obtain⟨a,b,f⟩:=zB _ T h;have g:T=[⟨2,⟨#[115,116,114,117,99,116]⟩,0,a 0,b 0⟩,⟨1,⟨#[83]⟩,0,a 1,b 1⟩,⟨4,⟨#[123]⟩,0,a 2,b 2⟩,⟨1,⟨#[83]⟩,0,a 3,b 3⟩,⟨4,⟨#[42]⟩,0,a 4,b 4⟩,⟨1,⟨#[110]⟩,0,a 5,b 5⟩,⟨4,⟨#[59]⟩,0,a 6,b 6⟩,⟨4,⟨#[125]⟩,0,a 7,b 7⟩,⟨4,⟨#[59]⟩,0,a 8,b 8⟩,⟨2,⟨#[105,110,116]⟩,0,a 9,b 9⟩,⟨1,⟨#[109,97,105,110]⟩,0,a 10,b 10⟩,⟨4,⟨#[40]⟩,0,a 11,b 11⟩,⟨4,⟨#[41]⟩,0,a 12,b 12⟩,⟨4,⟨#[123]⟩,0,a 13,b 13⟩,⟨1,⟨#[83]⟩,0,a 14,b 14⟩,⟨4,⟨#[42]⟩,0,a 15,b 15⟩,⟨1,⟨#[97]⟩,0,a 16,b 16⟩,⟨4,⟨#[61]⟩,0,a 17,b 17⟩,⟨2,⟨#[110,101,119]⟩,0,a 18,b 18⟩,⟨1,⟨#[83]⟩,0,a 19,b 19⟩,⟨4,⟨#[59]⟩,0,a 20,b 20⟩,⟨1,⟨#[83]⟩,0,a 21,b 21⟩,⟨4,⟨#[42]⟩,0,a 22,b 22⟩,⟨1,⟨#[98]⟩,0,a 23,b 23⟩,⟨4,⟨#[61]⟩,0,a 24,b 24⟩,⟨1,⟨#[97]⟩,0,a 25,b 25⟩,⟨4,⟨#[59]⟩,0,a 26,b 26⟩,⟨2,⟨#[114,101,116,117,114,110]⟩,0,a 27,b 27⟩,⟨3,⟨#[48]⟩,0,a 28,b 28⟩,⟨4,⟨#[59]⟩,0,a 29,b 29⟩,⟨4,⟨#[125]⟩,0,a 30,b 30⟩,⟨5,⟨#[]⟩,0,a 31,b 31⟩]:=f;clear h f;subst g;refine⟨_,⟨a 18,b 18,a 25,b 25,a 28,b 28,rfl⟩, ?_⟩;refine⟨?_,by simp, ?_⟩
 ·exact xy (A:=[⟨2,⟨#[115,116,114,117,99,116]⟩,0,a 0,b 0⟩,⟨1,⟨#[83]⟩,0,a 1,b 1⟩,⟨4,⟨#[123]⟩,0,a 2,b 2⟩,⟨1,⟨#[83]⟩,0,a 3,b 3⟩,⟨4,⟨#[42]⟩,0,a 4,b 4⟩,⟨1,⟨#[110]⟩,0,a 5,b 5⟩,⟨4,⟨#[59]⟩,0,a 6,b 6⟩,⟨4,⟨#[125]⟩,0,a 7,b 7⟩,⟨4,⟨#[59]⟩,0,a 8,b 8⟩,⟨2,⟨#[105,110,116]⟩,0,a 9,b 9⟩,⟨1,⟨#[109,97,105,110]⟩,0,a 10,b 10⟩,⟨4,⟨#[40]⟩,0,a 11,b 11⟩,⟨4,⟨#[41]⟩,0,a 12,b 12⟩,⟨4,⟨#[123]⟩,0,a 13,b 13⟩,⟨1,⟨#[83]⟩,0,a 14,b 14⟩,⟨4,⟨#[42]⟩,0,a 15,b 15⟩,⟨1,⟨#[97]⟩,0,a 16,b 16⟩,⟨4,⟨#[61]⟩,0,a 17,b 17⟩,⟨2,⟨#[110,101,119]⟩,0,a 18,b 18⟩,⟨1,⟨#[83]⟩,0,a 19,b 19⟩,⟨4,⟨#[59]⟩,0,a 20,b 20⟩,⟨1,⟨#[83]⟩,0,a 21,b 21⟩,⟨4,⟨#[42]⟩,0,a 22,b 22⟩,⟨1,⟨#[98]⟩,0,a 23,b 23⟩,⟨4,⟨#[61]⟩,0,a 24,b 24⟩,⟨1,⟨#[97]⟩,0,a 25,b 25⟩,⟨4,⟨#[59]⟩,0,a 26,b 26⟩,⟨2,⟨#[114,101,116,117,114,110]⟩,0,a 27,b 27⟩,⟨3,⟨#[48]⟩,0,a 28,b 28⟩,⟨4,⟨#[59]⟩,0,a 29,b 29⟩,⟨4,⟨#[125]⟩,0,a 30,b 30⟩]) (e:=⟨5,⟨#[]⟩,0,a 31,b 31⟩) rfl rfl
 ·refine⟨7,10,30,_,_,_,_,_,_,_,_,_,_,_,_,rfl,rfl,rfl,rfl,rfl,rfl,rfl,.cons 3 5 7 (oc,bS) ⟨1,⟨#[110]⟩,0,a 5,b 5⟩ ⟨4,⟨#[59]⟩,0,a 6,b 6⟩ [] (.ptr ⟨1,⟨#[83]⟩,0,a 3,b 3⟩ ⟨4,⟨#[42]⟩,0,a 4,b 4⟩ rfl rfl rfl rfl) rfl rfl rfl rfl (.nil 7),rfl,rfl,rfl,rfl,rfl,rfl,.int _ rfl rfl,rfl,rfl,rfl,rfl,rfl,rfl,rfl,rfl,rfl, ?_,rfl,rfl,rfl,rfl⟩
  exact .cons 14 21 30 _ _ (.decl ⟨1,⟨#[83]⟩,0,a 14,b 14⟩ ⟨4,⟨#[42]⟩,0,a 15,b 15⟩ ⟨1,⟨#[97]⟩,0,a 16,b 16⟩ ⟨4,⟨#[61]⟩,0,a 17,b 17⟩ ⟨4,⟨#[59]⟩,0,a 20,b 20⟩ ⟨7,0,⟨#[83]⟩,a 18,b 18⟩ 20 rfl rfl rfl rfl rfl rfl rfl rfl rfl (.new ⟨2,⟨#[110,101,119]⟩,0,a 18,b 18⟩ ⟨1,⟨#[83]⟩,0,a 19,b 19⟩ rfl rfl rfl rfl rfl) rfl rfl) (.cons 21 27 30 _ _ (.decl ⟨1,⟨#[83]⟩,0,a 21,b 21⟩ ⟨4,⟨#[42]⟩,0,a 22,b 22⟩ ⟨1,⟨#[98]⟩,0,a 23,b 23⟩ ⟨4,⟨#[61]⟩,0,a 24,b 24⟩ ⟨4,⟨#[59]⟩,0,a 26,b 26⟩ ⟨2,0,⟨#[97]⟩,a 25,b 25⟩ 26 rfl rfl rfl rfl rfl rfl rfl rfl rfl (.var ⟨1,⟨#[97]⟩,0,a 25,b 25⟩ ⟨4,⟨#[59]⟩,0,a 26,b 26⟩ rfl rfl rfl rfl) rfl rfl) (.cons 27 30 30 _ _ (.ret ⟨2,⟨#[114,101,116,117,114,110]⟩,0,a 27,b 27⟩ ⟨4,⟨#[59]⟩,0,a 29,b 29⟩ ⟨1,0,⟨#[]⟩,a 28,b 28⟩ 29 rfl rfl (.num ⟨3,⟨#[48]⟩,0,a 28,b 28⟩ rfl rfl) rfl rfl) (.nil 30)))
theorem BN {p:Pg}(h:QB (p.ss.map Sm.shp)):∃s1 a b:Sm,∃d c1 f c3 g c2:ct,p.ss=[s1,a,b]/\s1.kind=1/\s1.ty=(oc,bS)/\s1.nm=yG/\s1.es=[⟨7,0,bS,d,c1⟩]/\a.kind=1/\a.ty=(oc,bS)/\a.nm=BM/\a.es=[⟨2,0,yG,f,c3⟩]/\b.kind=8/\b.es=[⟨1,0,⟨#[]⟩,g,c2⟩]:=by
 obtain⟨d,c1,f,c3,g,c2,h⟩:=h
 match hss:p.ss,h with
 |[s1,a,b],h=>
  simp only[kj,List.map_nil,nx,and_true,Sm.shp,lv.mk.injEq] at h;obtain⟨⟨j,o,q,u⟩,⟨v,y,A,D⟩,G,K,N,J⟩:=h;exact⟨s1,a,b,d,c1,f,c3,g,c2,rfl,j,o,q,u,v,y,A,D,G,J⟩
 |[],h=>simp at h
 |[_],h=>simp at h
 |[_,_],h=>simp at h
 |_::_::_::_::_,h=>simp at h
theorem tJ (w:World):et ac 52 #[oe xz] w (tF w KB):=by
 refine rH xz AQ 32 QB bS lD [(Bn,(oc,bS))] bG KB w (by decide) (vw (by kernel_rfl)) (by decide) Bp (λT h=>zC T h) (λp hq b K v y=> ?_);obtain⟨s1,A,d,g,c1,o,c3,q,c2,a,u,t1,n1,N,D,t2,n2,R,G,Y⟩:=BN hq;obtain⟨fd,J,oR,oS⟩:=rJ K;have oT:s1∈p.ss:=by rw[a];simp
 have oX:A∈p.ss:=by rw[a];simp
 have oY:d∈p.ss:=by rw[a];simp
 have pb:jR p bS=0:=by unfold jR;rw[b];rfl
 have hS:(⟨s1.nm,s1.ty.1,s1.ty.2,0,0⟩:Fd)=⟨yG,oc,bS,0,0⟩:=by rw[n1,t1]
 refine⟨⟨⟨fd,J,by rw[oR,b]⟩,v,by rw[y];rfl, ?_,by rw[a];simp,λj hj=> ?_,by rw[a];simp,by rw[a];simp[ek,G]⟩,by rw[v];decide,by rw[b];decide,λf hf=> ?_,by rw[J];simp,[(oc,bS),(oc,bS),bG],[⟨12,0,0,0,0,g,c1⟩,⟨9,1,0,0,0,o,c3⟩,⟨1,2,0,0,0,q,c2⟩,⟨18,0,2,0,0,d.ln,d.cl⟩],⟨b,v,y,K,rfl,g,c1,o,c3,q,c2,d.ln,d.cl,rfl⟩,by simp,by simp,λm L=> ?_⟩
 ·rw[a]
  refine .cons _ _ _ _ (.inr (.inr ⟨u,_,N,.inr (.inr ⟨rfl,b,t1⟩),by rw[t1,b],rfl,rfl⟩)) (.cons _ _ _ _ (.inr (.inr ⟨D,_,R,.inr (.inl ⟨rfl,⟨yG,oc,bS,0,0⟩, ?_,by rw[t2];rfl⟩),by rw[t2,b], ?_,rfl⟩)) (.cons _ _ _ _ (.inl ⟨G,_,Y,.inl ⟨rfl,y⟩,rfl⟩) (.nil _)))
  ·rw[hS];rfl
  ·rw[hS,n2];rfl
 ·rw[a] at hj⊢
  match j,hj with
  |0,_=>rfl
  |1,_=>simp[ek,u]
  |2,_=>simp[ek,u,D]
 ·rw[J,co] at hf
  rw[hf,oS];decide
 ·refine yH _ a ?_
  have g1:=ng (m:=m) (L:=L) (X:=X0 p) (V:=[]) (I:=[]) (S:=[]) (s:=s1) (e:=⟨7,0,bS,g,c1⟩) rfl oT u N (by simp) (by simp) (vB s1.ty bS g c1 pb (by simp) (by simp));rw[t1,n1] at g1;have g2:=ng (m:=m) (p:=p) (L:=L) (X:=X0 p) (V:=[(oc,bS)]) (I:=[⟨12,0,0,0,0,g,c1⟩]) (S:=[(yG,0)]) (s:=A) (e:=⟨2,0,yG,o,c3⟩) rfl oX D R (by simp) (by simp) (tH A.ty yG o c3 0 (yG,0) rfl rfl (Bo _ _ rfl) (oc,bS) (by simp) rfl (by simp) (by simp));rw[t2,n2] at g2;have g3:=xx (m:=m) (p:=p) (L:=L) (X:=X0 p) (V:=[(oc,bS),(oc,bS)]) (I:=[⟨12,0,0,0,0,g,c1⟩,⟨9,1,0,0,0,o,c3⟩]) (S:=[(yG,0),(BM,1)]) (s:=d) (e:=⟨1,0,⟨#[]⟩,q,c2⟩) rfl oY G Y (by simp) (vD 0 q c2 (by simp) (by simp));exact .cons _ _ _ _ _ _ _ _ _ _ g1 (.cons _ _ _ _ _ _ _ _ _ _ g2 (.cons _ _ _ _ _ _ _ _ _ _ g3 (.nil _ _ _)))
end Go.Proofs.YtjomgckjhcfbgaaGreat
