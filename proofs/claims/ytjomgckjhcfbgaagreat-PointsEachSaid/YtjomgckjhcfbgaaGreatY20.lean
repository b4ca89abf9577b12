/- Walks. -/
import Derived.Deep.AppendLies
import Derived.Test.YtjomgckjhcfbgaaGreatY0
set_option maxRecDepth 100000
set_option maxHeartbeats 64000000
set_option linter.all false
namespace Go.Proofs.YtjomgckjhcfbgaaGreat
open Go.RowKit
open _root_.List renaming getElem?_eq_some_iff→ap,getElem?_take→pS
open _root_.Array renaming getElem?_eq_some_iff→bj
open _root_ renaming List→bm,Nat→bx,if_neg→cE,if_pos→cR,Option→eA,False→mb,Bool→nj
open Go renaming cell_of_row→cc,Value→cd,TypeId→gx
open Go.Value.slice renaming injEq→gj
open _root_.Option renaming some→tB,none→tD
open _root_.Bool renaming true→tE
open Go.Value renaming slice→tP
open Tryz
section
variable {α:Type}{enc:α->bm cd}{size:bx}{st e:gx}{w w' w5:World}{R n:bx}{F:bx->Prop}{rows:bx->bm α}
theorem qO {M:bx->Prop}{base d m:bx}{v:cd}{xs:bm cd}(h:w.ownsRow base e d v m xs)(q:Ext M w w')(u:∀k,v.ownBlock=tB k->¬M k):w'.ownsRow base e d v m xs:=by
 refine⟨h.1, ?_⟩;rcases h.2 with A|⟨g,cap,cur,f,D,G,J⟩
 ·exact .inl A
 ·exact .inr ⟨g,cap,cur,f,D,q.heap G (u g (by rw[f];rfl)),J⟩
end
theorem DJ {w wA w5:World}{v:cd}(d:Ext (λ_=>mb) w wA)(f:wA.grownBy w5 v.ownBlock):Ext (λk=>v.ownBlock=tB k) w w5:=
 (d.mono (λ_ h=>h.elim)).trans (Ext.of_grown (M:=λk=>v.ownBlock=tB k) f (λ_ q=> .inl q)) (λ_ u=> .inl u)
section
variable {w:World}{e:gx}{size:bx}
theorem di {base m cap:bx}{f:eA Addr}{xs:bm cd}(h:w.ownsRow base e size (tP f m cap) m xs){j:bx}{u:cd}(d:xs[j]?=tB u):∃g,f=tB ⟨g,0,tD⟩/\g<w.heap.size/\w.cell? ⟨g,j,tD⟩=tB u:=by
 rcases h.2 with⟨q,v⟩|⟨g,J,cur,q,v,A,h4,h5,h6,D⟩
 ·have:=h.1
  subst v;have:=(ap.1 d).1;omega
 ·have G:f=tB ⟨g,0,tD⟩:=by simp only[gj] at q;exact q.1
  refine⟨g,G,(bj.1 A).1, ?_⟩;rw[cc _ _ _ _ _ _ A];rw[<-D,pS] at d
  split at d
  ·simpa using d
  ·simp at d
end
structure Gd where
 enc:bx->bx->cd
 ok:World->bx->bx->(bx->nj)->Prop
 keep:∀{w w':World}{b P:bx}{x:bx->nj},ok w b P x->w'.heap[b]?=w.heap[b]? ->ok w' b P x
 lt:∀{w:World}{b P:bx}{x:bx->nj},ok w b P x->b<w.heap.size
 congr:∀{w:World}{b P:bx}{x y:bx->nj},ok w b P x->(∀n,n<P->x n=y n)->ok w b P y
 one:∀b P,(enc b P).oneCell'=tE
structure FR where
 tv:cd
 locs:bm bx
 fl:bx
 P:bx
abbrev Tag:=bx->bx×bx×bx
structure kF (K:Gd)(E2:gx)(w:World)(f:bx)(tv:cd)(locs:bm bx)(P:bx)(x:bx->bx->nj)(tag:Tag):Prop where
 own:w.ownsRow 0 E2 1 tv locs.length (locs.map λb=>K.enc b P)
 leaf:∀(u b:bx),locs[u]?=tB b->K.ok w b P (x u)/\tag b=(4,f,u)
 tr:∀k,tv.ownBlock=tB k->tag k=(3,f,0)
section
variable {K:Gd}{E1 E2:gx}{B:bx}{w w':World}{vv fv tv:cd}{rows:bm FR}{x y:bx->bx->bx->nj}{tag tag':Tag}
def gU (tag:Tag)(a b:bx)(c:bx×bx×bx):Tag:=λk=>if a<=k/\k<b then c else tag k
theorem gV {a b k:bx}{c:bx×bx×bx}(h:k<a):gU tag a b c k=tag k:=by unfold gU;rw[cE (by omega)]
theorem nY {a b k:bx}{c:bx×bx×bx}(h:a<=k)(d:k<b):gU tag a b c k=c:=by unfold gU;rw[cR ⟨h,d⟩]
theorem pK {e:gx}{d m base:bx}{xs:bm cd}{v:cd}{c:bx×bx×bx}{M:bx->Prop}(h:w.ownsRow base e d v m xs)(q:Ext M w w')(u:∀k,v.ownBlock=tB k->tag k=c)(A:∀k,M k->k<w.heap.size->tag k≠c):w'.ownsRow base e d v m xs:=
 qO h q λk f D=>A k D (h.lt k f).2 (u k f)
theorem Cb {b P:bx}{z:bx->nj}{c:bx×bx×bx}{M:bx->Prop}(h:K.ok w b P z)(d:Ext M w w')(f:tag b=c)(q:∀k,M k->k<w.heap.size->tag k≠c):K.ok w' b P z:=
 K.keep h (d.block b (K.lt h) λu=>q b u (K.lt h) f)
theorem kF.ext {f P:bx}{v:bm bx}{z:bx->bx->nj}{M:bx->Prop}(h:kF K E2 w f tv v P z tag)(A:Ext M w w')(D:∀k,M k->k<w.heap.size->tag k≠(3,f,0)/\∀u,tag k≠(4,f,u))(G:∀k,k<w.heap.size->tag' k=tag k):kF K E2 w' f tv v P z tag':=by
 refine⟨pK h.own A h.tr λk d q=>(D k d q).1,λu b hb=> ?_,λk d=>(G k (h.own.lt k d).2).trans (h.tr k d)⟩;obtain⟨J,h2⟩:=h.leaf u b hb;exact⟨Cb J A h2 λk d q=>(D k d q).2 u,(G b (K.lt J)).trans h2⟩
end
end Go.Proofs.YtjomgckjhcfbgaaGreat
