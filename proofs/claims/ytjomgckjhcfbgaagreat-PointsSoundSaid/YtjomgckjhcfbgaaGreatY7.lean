/- Walks. -/
import Derived.Test.YtjomgckjhcfbgaaGreatY6
set_option maxRecDepth 100000
set_option maxHeartbeats 64000000
set_option linter.all false
namespace Go.Proofs.YtjomgckjhcfbgaaGreat
open Go.RowKit
open Go.Proofs.Tryz renaming prog→ac
open _root_ renaming ByteArray→aE,List→bm,Int→bp,and_true→pc
open _root_.List renaming mem_singleton→cH,map_cons→lP
open Go renaming Calls→gd
open _root_.List.cons renaming injEq→tn
open _root_.Option renaming some→tB
open _root_.Bool renaming true→tE
open Go.Value renaming string→tM
open Tryz
def C9:aE:=⟨#[115,116,114,117,99,116,32,83,32,123,32,83,32,42,110,59,32,125,59,32,105,110,116,32,109,97,105,110,40,41,32,123,32,83,32,42,97,32,61,32,110,101,119,32,83,59,32,83,32,42,98,32,61,32,97,59,32,114,101,116,117,114,110,32,48,59,32,125]⟩
def GN:bm AC:=[(2,⟨#[115,116,114,117,99,116]⟩,0),(1,⟨#[83]⟩,0),(4,⟨#[123]⟩,0),(1,⟨#[83]⟩,0),(4,⟨#[42]⟩,0),(1,⟨#[110]⟩,0),(4,⟨#[59]⟩,0),(4,⟨#[125]⟩,0),(4,⟨#[59]⟩,0),(2,⟨#[105,110,116]⟩,0),(1,⟨#[109,97,105,110]⟩,0),(4,⟨#[40]⟩,0),(4,⟨#[41]⟩,0),(4,⟨#[123]⟩,0),(1,⟨#[83]⟩,0),(4,⟨#[42]⟩,0),(1,⟨#[97]⟩,0),(4,⟨#[61]⟩,0),(2,⟨#[110,101,119]⟩,0),(1,⟨#[83]⟩,0),(4,⟨#[59]⟩,0),(1,⟨#[83]⟩,0),(4,⟨#[42]⟩,0),(1,⟨#[98]⟩,0),(4,⟨#[61]⟩,0),(1,⟨#[97]⟩,0),(4,⟨#[59]⟩,0),(2,⟨#[114,101,116,117,114,110]⟩,0),(3,⟨#[48]⟩,0),(4,⟨#[59]⟩,0),(4,⟨#[125]⟩,0)]
theorem Hu:l5 C9 32 (fZ C9 C9.size 0)=tB GN:=by kernel_rfl
def QB (l:bm qD):Prop:=∃d c1 f c3 h c2:bp,l=[⟨1,(tE,bS),Eu,[⟨7,0,bS,d,c1⟩]⟩,⟨1,(tE,bS),IG,[⟨2,0,Eu,f,c3⟩]⟩,⟨8,bI,⟨#[]⟩,[⟨1,0,⟨#[]⟩,h,c2⟩]⟩]
def KB (p:Pg)(V:bm Ty)(I:bm gB):Prop:=p.snm=bS/\p.nm=qG/\p.ret=bI/\p.fs.map Fd.shp=[(Hr,(tE,bS))]/\V=[(tE,bS),(tE,bS),bI]/\∃d c0 f c1 h c2 q c3:bp,I=[⟨12,0,0,0,0,d,c0⟩,⟨9,1,0,0,0,f,c1⟩,⟨1,2,0,0,0,h,c2⟩,⟨18,0,2,0,0,q,c3⟩]
theorem FE (T:bm Tok)(h:T.map Tok.sig=GN++[(5,⟨#[]⟩,0)]):∃q,QB q/\rV T bS [(Hr,(tE,bS))] qG bI q:=by
 obtain⟨d,f,u⟩:=FD _ T h;have v:T=[⟨2,⟨#[115,116,114,117,99,116]⟩,0,d 0,f 0⟩,⟨1,⟨#[83]⟩,0,d 1,f 1⟩,⟨4,⟨#[123]⟩,0,d 2,f 2⟩,⟨1,⟨#[83]⟩,0,d 3,f 3⟩,⟨4,⟨#[42]⟩,0,d 4,f 4⟩,⟨1,⟨#[110]⟩,0,d 5,f 5⟩,⟨4,⟨#[59]⟩,0,d 6,f 6⟩,⟨4,⟨#[125]⟩,0,d 7,f 7⟩,⟨4,⟨#[59]⟩,0,d 8,f 8⟩,⟨2,⟨#[105,110,116]⟩,0,d 9,f 9⟩,⟨1,⟨#[109,97,105,110]⟩,0,d 10,f 10⟩,⟨4,⟨#[40]⟩,0,d 11,f 11⟩,⟨4,⟨#[41]⟩,0,d 12,f 12⟩,⟨4,⟨#[123]⟩,0,d 13,f 13⟩,⟨1,⟨#[83]⟩,0,d 14,f 14⟩,⟨4,⟨#[42]⟩,0,d 15,f 15⟩,⟨1,⟨#[97]⟩,0,d 16,f 16⟩,⟨4,⟨#[61]⟩,0,d 17,f 17⟩,⟨2,⟨#[110,101,119]⟩,0,d 18,f 18⟩,⟨1,⟨#[83]⟩,0,d 19,f 19⟩,⟨4,⟨#[59]⟩,0,d 20,f 20⟩,⟨1,⟨#[83]⟩,0,d 21,f 21⟩,⟨4,⟨#[42]⟩,0,d 22,f 22⟩,⟨1,⟨#[98]⟩,0,d 23,f 23⟩,⟨4,⟨#[61]⟩,0,d 24,f 24⟩,⟨1,⟨#[97]⟩,0,d 25,f 25⟩,⟨4,⟨#[59]⟩,0,d 26,f 26⟩,⟨2,⟨#[114,101,116,117,114,110]⟩,0,d 27,f 27⟩,⟨3,⟨#[48]⟩,0,d 28,f 28⟩,⟨4,⟨#[59]⟩,0,d 29,f 29⟩,⟨4,⟨#[125]⟩,0,d 30,f 30⟩,⟨5,⟨#[]⟩,0,d 31,f 31⟩]:=u;clear h u;subst v;refine⟨_,⟨d 18,f 18,d 25,f 25,d 28,f 28,rfl⟩, ?_⟩;refine⟨?_,by simp, ?_⟩
 ·exact C8 (A:=[⟨2,⟨#[115,116,114,117,99,116]⟩,0,d 0,f 0⟩,⟨1,⟨#[83]⟩,0,d 1,f 1⟩,⟨4,⟨#[123]⟩,0,d 2,f 2⟩,⟨1,⟨#[83]⟩,0,d 3,f 3⟩,⟨4,⟨#[42]⟩,0,d 4,f 4⟩,⟨1,⟨#[110]⟩,0,d 5,f 5⟩,⟨4,⟨#[59]⟩,0,d 6,f 6⟩,⟨4,⟨#[125]⟩,0,d 7,f 7⟩,⟨4,⟨#[59]⟩,0,d 8,f 8⟩,⟨2,⟨#[105,110,116]⟩,0,d 9,f 9⟩,⟨1,⟨#[109,97,105,110]⟩,0,d 10,f 10⟩,⟨4,⟨#[40]⟩,0,d 11,f 11⟩,⟨4,⟨#[41]⟩,0,d 12,f 12⟩,⟨4,⟨#[123]⟩,0,d 13,f 13⟩,⟨1,⟨#[83]⟩,0,d 14,f 14⟩,⟨4,⟨#[42]⟩,0,d 15,f 15⟩,⟨1,⟨#[97]⟩,0,d 16,f 16⟩,⟨4,⟨#[61]⟩,0,d 17,f 17⟩,⟨2,⟨#[110,101,119]⟩,0,d 18,f 18⟩,⟨1,⟨#[83]⟩,0,d 19,f 19⟩,⟨4,⟨#[59]⟩,0,d 20,f 20⟩,⟨1,⟨#[83]⟩,0,d 21,f 21⟩,⟨4,⟨#[42]⟩,0,d 22,f 22⟩,⟨1,⟨#[98]⟩,0,d 23,f 23⟩,⟨4,⟨#[61]⟩,0,d 24,f 24⟩,⟨1,⟨#[97]⟩,0,d 25,f 25⟩,⟨4,⟨#[59]⟩,0,d 26,f 26⟩,⟨2,⟨#[114,101,116,117,114,110]⟩,0,d 27,f 27⟩,⟨3,⟨#[48]⟩,0,d 28,f 28⟩,⟨4,⟨#[59]⟩,0,d 29,f 29⟩,⟨4,⟨#[125]⟩,0,d 30,f 30⟩]) (e:=⟨5,⟨#[]⟩,0,d 31,f 31⟩) rfl rfl
 ·refine⟨7,10,30,_,_,_,_,_,_,_,_,_,_,_,_,rfl,rfl,rfl,rfl,rfl,rfl,rfl,.cons 3 5 7 (tE,bS) ⟨1,⟨#[110]⟩,0,d 5,f 5⟩ ⟨4,⟨#[59]⟩,0,d 6,f 6⟩ [] (.ptr ⟨1,⟨#[83]⟩,0,d 3,f 3⟩ ⟨4,⟨#[42]⟩,0,d 4,f 4⟩ rfl rfl rfl rfl) rfl rfl rfl rfl (.nil 7),rfl,rfl,rfl,rfl,rfl,rfl,.int _ rfl rfl,rfl,rfl,rfl,rfl,rfl,rfl,rfl,rfl,rfl, ?_,rfl,rfl,rfl,rfl⟩
  exact .cons 14 21 30 _ _ (.decl ⟨1,⟨#[83]⟩,0,d 14,f 14⟩ ⟨4,⟨#[42]⟩,0,d 15,f 15⟩ ⟨1,⟨#[97]⟩,0,d 16,f 16⟩ ⟨4,⟨#[61]⟩,0,d 17,f 17⟩ ⟨4,⟨#[59]⟩,0,d 20,f 20⟩ ⟨7,0,⟨#[83]⟩,d 18,f 18⟩ 20 rfl rfl rfl rfl rfl rfl rfl rfl rfl (.new ⟨2,⟨#[110,101,119]⟩,0,d 18,f 18⟩ ⟨1,⟨#[83]⟩,0,d 19,f 19⟩ rfl rfl rfl rfl rfl) rfl rfl) (.cons 21 27 30 _ _ (.decl ⟨1,⟨#[83]⟩,0,d 21,f 21⟩ ⟨4,⟨#[42]⟩,0,d 22,f 22⟩ ⟨1,⟨#[98]⟩,0,d 23,f 23⟩ ⟨4,⟨#[61]⟩,0,d 24,f 24⟩ ⟨4,⟨#[59]⟩,0,d 26,f 26⟩ ⟨2,0,⟨#[97]⟩,d 25,f 25⟩ 26 rfl rfl rfl rfl rfl rfl rfl rfl rfl (.var ⟨1,⟨#[97]⟩,0,d 25,f 25⟩ ⟨4,⟨#[59]⟩,0,d 26,f 26⟩ rfl rfl rfl rfl) rfl rfl) (.cons 27 30 30 _ _ (.ret ⟨2,⟨#[114,101,116,117,114,110]⟩,0,d 27,f 27⟩ ⟨4,⟨#[59]⟩,0,d 29,f 29⟩ ⟨1,0,⟨#[]⟩,d 28,f 28⟩ 29 rfl rfl (.num ⟨3,⟨#[48]⟩,0,d 28,f 28⟩ rfl rfl) rfl rfl) (.nil 30)))
theorem II {p:Pg}(h:QB (p.ss.map Sm.shp)):∃s1 d f:Sm,∃q c1 u c3 v c2:bp,p.ss=[s1,d,f]/\s1.kind=1/\s1.ty=(tE,bS)/\s1.nm=Eu/\s1.es=[⟨7,0,bS,q,c1⟩]/\d.kind=1/\d.ty=(tE,bS)/\d.nm=IG/\d.es=[⟨2,0,Eu,u,c3⟩]/\f.kind=8/\f.es=[⟨1,0,⟨#[]⟩,v,c2⟩]:=by
 obtain⟨q,c1,u,c3,v,c2,h⟩:=h
 match hss:p.ss,h with
 |[s1,d,f],h=>
  simp only[lP,List.map_nil,tn,pc,Sm.shp,qD.mk.injEq] at h;obtain⟨⟨A,D,G,J⟩,⟨b1,b2,b3,b4⟩,uc,ue,ur,ud⟩:=h;exact⟨s1,d,f,q,c1,u,c3,v,c2,rfl,A,D,G,J,b1,b2,b3,b4,uc,ud⟩
 |[],h=>simp at h
 |[_],h=>simp at h
 |[_,_],h=>simp at h
 |_::_::_::_::_,h=>simp at h
theorem zq (w:World):gd ac 52 #[tM C9] w (zn w KB):=by
 refine xQ C9 GN 32 QB bS qG [(Hr,(tE,bS))] bI KB w (by decide) (Bn (by kernel_rfl)) (by decide) Hu (λT h=>FE T h) (λp hq q h2 J h4=> ?_);obtain⟨s1,s2,u,v,c1,A,c3,D,c2,d,G,t1,n1,e1,k2,t2,n2,e2,k3,e3⟩:=II hq;obtain⟨fd,uc,ud,ue⟩:=xR h2;have ur:s1∈p.ss:=by rw[d];simp
 have uv:s2∈p.ss:=by rw[d];simp
 have ux:u∈p.ss:=by rw[d];simp
 have va:ow p bS=0:=by unfold ow;rw[q];rfl
 have hS:(⟨s1.nm,s1.ty.1,s1.ty.2,0,0⟩:Fd)=⟨Eu,tE,bS,0,0⟩:=by rw[n1,t1]
 refine⟨⟨⟨fd,uc,by rw[ud,q]⟩,J,by rw[h4];rfl, ?_,by rw[d];simp,λj hj=> ?_,by rw[d];simp,by rw[d];simp[iE,k3]⟩,by rw[J];decide,by rw[q];decide,λf hf=> ?_,by rw[uc];simp,[(tE,bS),(tE,bS),bI],[⟨12,0,0,0,0,v,c1⟩,⟨9,1,0,0,0,A,c3⟩,⟨1,2,0,0,0,D,c2⟩,⟨18,0,2,0,0,u.ln,u.cl⟩],⟨q,J,h4,h2,rfl,v,c1,A,c3,D,c2,u.ln,u.cl,rfl⟩,by simp,by simp,λm L=> ?_⟩
 ·rw[d]
  refine .cons _ _ _ _ (.inr (.inr ⟨G,_,e1,.inr (.inr ⟨rfl,q,t1⟩),by rw[t1,q],rfl,rfl⟩)) (.cons _ _ _ _ (.inr (.inr ⟨k2,_,e2,.inr (.inl ⟨rfl,⟨Eu,tE,bS,0,0⟩, ?_,by rw[t2];rfl⟩),by rw[t2,q], ?_,rfl⟩)) (.cons _ _ _ _ (.inl ⟨k3,_,e3,.inl ⟨rfl,h4⟩,rfl⟩) (.nil _)))
  ·rw[hS];rfl
  ·rw[hS,n2];rfl
 ·rw[d] at hj⊢
  match j,hj with
  |0,_=>rfl
  |1,_=>simp[iE,G]
  |2,_=>simp[iE,G,k2]
 ·rw[uc,cH] at hf
  rw[hf,ue];decide
 ·refine Ev _ d ?_
  have g1:=rY (m:=m) (L:=L) (X:=X0 p) (V:=[]) (I:=[]) (S:=[]) (s:=s1) (e:=⟨7,0,bS,v,c1⟩) rfl ur G e1 (by simp) (by simp) (Bo s1.ty bS v c1 va (by simp) (by simp));rw[t1,n1] at g1;have g2:=rY (m:=m) (p:=p) (L:=L) (X:=X0 p) (V:=[(tE,bS)]) (I:=[⟨12,0,0,0,0,v,c1⟩]) (S:=[(Eu,0)]) (s:=s2) (e:=⟨2,0,Eu,A,c3⟩) rfl uv k2 e2 (by simp) (by simp) (zo s2.ty Eu A c3 0 (Eu,0) rfl rfl (Ht _ _ rfl) (tE,bS) (by simp) rfl (by simp) (by simp));rw[t2,n2] at g2;have g3:=CZ (m:=m) (p:=p) (L:=L) (X:=X0 p) (V:=[(tE,bS),(tE,bS)]) (I:=[⟨12,0,0,0,0,v,c1⟩,⟨9,1,0,0,0,A,c3⟩]) (S:=[(Eu,0),(IG,1)]) (s:=u) (e:=⟨1,0,⟨#[]⟩,D,c2⟩) rfl ux k3 e3 (by simp) (Bp 0 D c2 (by simp) (by simp));exact .cons _ _ _ _ _ _ _ _ _ _ g1 (.cons _ _ _ _ _ _ _ _ _ _ g2 (.cons _ _ _ _ _ _ _ _ _ _ g3 (.nil _ _ _)))
end Go.Proofs.YtjomgckjhcfbgaaGreat
