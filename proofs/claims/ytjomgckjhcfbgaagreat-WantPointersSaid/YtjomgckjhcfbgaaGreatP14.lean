/- Walks. -/
import Derived.Test.YtjomgckjhcfbgaaGreatProg
import Derived.Laws.BitsAllLaws
import Derived.Laws.Bits64
import Derived.RegionTactic
import Derived.Deep.QuietTactic
import Derived.BigQuiet
import Derived.Lib.Walk
import Derived.Lib.SliceRun
import Derived.Test.YtjomgckjhcfbgaaGreatP10
set_option maxRecDepth 100000
set_option maxHeartbeats 64000000
set_option linter.all false
namespace Go.Proofs.YtjomgckjhcfbgaaGreat
open Go.RowKit
open Go.Proofs.Tryz renaming prog→am,underlying42→cA,underlying35→gv,ntmps191→n9,func191→oE,ntmps152→pc,func152→pL,underlying199→qn
open _root_.List renaming getElem?_eq_getElem→ap,length_append→bm,getElem?_eq_some_iff→bo,mem_of_getElem?→ci,take_length→cL,eq_nil_of_length_eq_zero→cV,length_take→ee,length_cons→eh,append_assoc→ei,map_append→et,mem_map→fL,mem_cons→fW,range→gb,replicate→ju,any_eq_false→j8,length_nil→ks,take_add_one→kA,map_cons→li,foldl_append→lp,range_succ→lE,getElem?_take→lO,foldl_cons→my,mem_cons_of_mem→mS,take_of_length_le→ox,map_nil→oT,sum_append→qv
open Go.RowKit.Below renaming refl→aq,heap_alloc→cE
open _root_ renaming Int→aw,Nat→bj,List→bp,if_neg→bw,decide_eq_false→cm,Option→cC,if_pos→cH,beq_eq_false_iff_ne→cN,decide_eq_true→cR,Array→dl,absurd→fz,False→lj,Bool→ml,bne_iff_ne→oe
open Go.RowKit renaming Below→aE,Hid→cg,intOf→dp
open _root_.Array renaming getElem?_eq_some_iff→br,replicate→fk,getElem?_eq_none→fY,getElem?_setIfInBounds→gj,getElem?_eq_getElem→n8,ext_getElem?→pN
open Go renaming cell_of_row→bt,Value→cw,frozen_of_row→de,maxLen→du,Addr→fg,Calls→fj,TypeId→fX,heap_setCell_same→gi,below_drewN→hU,heap_alloc2_new→im,info_parts→m6,u64_and_nat→oB,wpList_append_lies→sn,heap_setCell_other→sq
open _root_.Nat renaming le_refl→cd,lt_of_lt_of_le→cD,zero_add→cI,zero_le→cM,le_succ→iu,min_eq_left→ix,lt_of_le_of_lt→ld,testBit_or→ly,div_eq_of_lt→mb,add_mul_div_left→mm,testBit_two_pow_mul_add→na,mod_eq_of_lt→ot,eq_of_testBit_eq→pn,mod_lt→pT,add_comm→qr,testBit_and→rI,and_two_pow_sub_one_eq_mod→sk,testBit_two_pow_sub_succ→td
open Go.Value renaming oneCell'→cn,slice→cv,ownBlock→eL,int→eS,string→tm,slice→tn,pointer→tr,bool→tt,agg→tv,int→Z
open _root_.Option.some renaming inj→cy,injEq→dj
open Go.Addr renaming add_lit→cU
open Go.IntKind renaming i64→dt,u64→iz,wrap_i64→lx,i64→U
open Go.Addr.mk renaming injEq→eV
open Go.Value.slice renaming injEq→fy
open _root_.Int renaming natCast_add→jt
open _root_.Bool renaming or_false→sT,true→ti,false→tj
open Go.Lib renaming run_eql_slice_nil→te
open _root_.Option renaming some→tf,none→th
open Go.Obj renaming cells→tA
open Go.Ending renaming returned→tB
open Tryz
def jX (B:bj):bp bj->bj
 |[]=>0
 |d::r=>d+B*jX B r
def iq:bj->bj->bp bj
 |_,0=>[]
 |x,n+1=>x%2::iq (x/2) n
def om (x n:bj):bj:=(iq x n).sum
theorem zw:∀(n x:bj),jX 2 (iq x n)=x%2^n
 |0,x=>by simp[jX,iq,Nat.mod_one]
 |n+1,x=>by
  simp only[jX,iq,zw n (x/2)];rw[Nat.pow_succ,Nat.mul_comm (2^n) 2,Nat.mod_mul]
theorem oo:∀(n x:bj),(iq x n).length=n
 |0,_=>rfl
 |n+1,x=>by simp[iq,oo n]
theorem zx:∀(n x:bj),∀d∈iq x n,d<2
 |0,_=>by simp[iq]
 |n+1,x=>by
  intro d e;simp only[iq,fW] at e;rcases e with rfl|e
  ·omega
  ·exact zx n _ d e
theorem and_split (w a x b y:bj)(d:a<2^w)(hb:b<2^w):(a+2^w*x)&&&(b+2^w*y)=(a&&& b)+2^w*(x&&& y):=by
 have e:a&&& b<2^w:=Nat.and_lt_two_pow _ hb;apply pn;intro j;rw[rI,qr a,qr b,qr (a&&& b),na _ d,na _ hb,na _ e]
 split<;>simp[rI]
def ev:bp bj->bp bj
 |a::_::r=>a::ev r
 |_=>[]
def od:bp bj->bp bj
 |_::b::r=>b::od r
 |_=>[]
def pr:bp bj->bp bj
 |a::b::r=>(a+b)::pr r
 |_=>[]
theorem xD:∀(n:bj)(l:bp bj),l.length=2*n->(pr l).sum=l.sum
 |0,l,h=>by rw[cV h];rfl
 |n+1,[],h=>by simp at h
 |n+1,[a],h=>by simp at h;omega
 |n+1,a::b::r,h=>by simp[pr,xD n r (by simp at h;omega)];omega
theorem lM:∀(n:bj)(l:bp bj),l.length=2*n->(pr l).length=n
 |0,l,h=>by rw[cV h];rfl
 |n+1,[],h=>by simp at h
 |n+1,[a],h=>by simp at h;omega
 |n+1,a::b::r,h=>by simp[pr,lM n r (by simp at h;omega)]
theorem Cn {k:bj}:∀(l:bp bj),(∀d∈l,d<=k)->∀d∈pr l,d<=2*k
 |[],_=>by simp[pr]
 |[a],_=>by simp[pr]
 |a::b::r,h=>by
  intro d e;simp only[pr,fW] at e;rcases e with rfl|e
  ·have:=h a (by simp);have:=h b (by simp);omega
  ·exact Cn r (λx f=>h x (by simp[f])) d e
def mask (w:bj):bj->bj
 |0=>0
 |n+1=>(2^w-1)+2^w*(0+2^w*mask w n)
theorem zy {w a:bj}(h:a<2^w):a&&&(2^w-1)=a:=by rw[sk];exact ot h
theorem qV (w:bj):∀(n:bj)(l:bp bj),l.length=2*n->(∀d∈l,d<2^w)->jX (2^w) l&&& mask w n=jX (2^w*2^w) (ev l)
 |0,l,h,_=>by rw[cV h];simp[jX,ev]
 |n+1,[],h,_=>by simp at h
 |n+1,[a],h,_=>by simp at h;omega
 |n+1,a::b::r,h,e=>by
  have f:=e a (by simp);have hb:=e b (by simp);have g:0<2^w:=Nat.two_pow_pos w;simp only[jX,ev,mask];rw[and_split w _ _ _ _ f (by omega),and_split w _ _ _ _ hb g,zy f,Nat.and_zero,cI,qV w n r (by simp at h;omega) (λx j=>e x (by simp[j])),Nat.mul_assoc]
theorem xE (w:bj):∀(n:bj)(l:bp bj),l.length=2*n->(∀d∈l,d<2^w)->(jX (2^w) l/2^w)&&& mask w n=jX (2^w*2^w) (od l)
 |0,l,h,_=>by rw[cV h];simp[jX,od]
 |n+1,[],h,_=>by simp at h
 |n+1,[a],h,_=>by simp at h;omega
 |n+1,a::b::r,h,f=>by
  have j:=f a (by simp);have hb:=f b (by simp);have g:0<2^w:=Nat.two_pow_pos w;simp only[jX,od,mask];rw[mm _ _ g,mb j,cI,and_split w _ _ _ _ hb (by omega),zy hb];have o:jX (2^w) r&&&(0+2^w*mask w n)=2^w*jX (2^w*2^w) (od r):=by
   have e:jX (2^w) r=jX (2^w) r%2^w+2^w*(jX (2^w) r/2^w):=(Nat.mod_add_div _ _).symm;rw[e,and_split w _ _ _ _ (pT _ g) g,Nat.and_zero,cI,xE w n r (by simp at h;omega) (λx q=>f x (by simp[q]))]
  rw[o,Nat.mul_assoc]
theorem Er {B:bj}:∀(n:bj)(l:bp bj),l.length=2*n->jX B (od l)+jX B (ev l)=jX B (pr l)
 |0,l,h=>by rw[cV h];rfl
 |n+1,[],h=>by simp at h
 |n+1,[a],h=>by simp at h;omega
 |n+1,a::b::r,h=>by
  have:=Er (B:=B) n r (by simp at h;omega);simp only[jX,ev,od,pr,<-this,Nat.mul_add];omega
def nb:bp bj->bp bj
 |[]=>[]
 |[a]=>[a]
 |a::b::r=>(a+b)::nb (b::r)
theorem Es {B:bj}(e:0<B):∀(l:bp bj),(∀d∈l,d<B)->jX B l/B+jX B l=jX B (nb l)
 |[],_=>by simp[jX,nb]
 |[a],h=>by simp[jX,nb,mb (h a (by simp))]
 |a::b::r,h=>by
  have ih:=Es e (b::r) (λx f=>h x (mS _ f));have g:=h a (by simp);have hb:=h b (by simp);have j:jX B (a::b::r)/B=jX B (b::r):=by
   show(a+B*jX B (b::r))/B=_
   rw[mm _ _ e,mb g,cI]
  have o:jX B (b::r)/B=jX B r:=by
   show(b+B*jX B r)/B=_
   rw[mm _ _ e,mb hb,cI]
  rw[j];rw[o] at ih
  show(b+B*jX B r)+(a+B*jX B (b::r))=(a+b)+B*jX B (nb (b::r))
  rw[<-ih,Nat.mul_add];omega
theorem F4:∀(n:bj)(l:bp bj),l.length=2*n->ev (nb l)=pr l
 |0,l,h=>by rw[cV h];rfl
 |n+1,[],h=>by simp at h
 |n+1,[a],h=>by simp at h;omega
 |n+1,[a,b],_=>rfl
 |n+1,a::b::c::r,h=>by
  have:=F4 n (c::r) (by simp at h⊢;omega);simp only[nb,ev,pr];rw[this]
theorem vM:∀(l:bp bj),(nb l).length=l.length
 |[]=>rfl
 |[_]=>rfl
 |a::b::r=>by simp[nb,vM (b::r)]
theorem F5 {k:bj}:∀(l:bp bj),(∀d∈l,d<=k)->∀d∈nb l,d<=2*k
 |[],_=>by simp[nb]
 |[a],h=>by intro d e;simp[nb] at e;subst e;have:=h d (by simp);omega
 |a::b::r,h=>by
  intro d e;simp only[nb,fW] at e;rcases e with rfl|e
  ·have:=h a (by simp);have:=h b (by simp);omega
  ·exact F5 (b::r) (λx f=>h x (mS _ f)) d e
def jl (x:bj):bj:=((x/2)&&& 6148914691236517205)+(x&&& 6148914691236517205)
def kL (x:bj):bj:=((x/4)&&& 3689348814741910323)+(x&&& 3689348814741910323)
def sw (x:bj):bj:=(x/16+x)&&& 1085102592571150095
def uL (x:bj):bj:=x+x/256
def xG (x:bj):bj:=x+x/65536
def xH (x:bj):bj:=x+x/4294967296
theorem Hf:mask 1 32=6148914691236517205:=by decide
theorem Hg:mask 2 16=3689348814741910323:=by decide
theorem Hl:mask 4 8=1085102592571150095:=by decide
theorem Gj (x:bj)(hx:x<18446744073709551616):∃h j q t u v z A,sw (kL (jl x))=h+256*(j+256*(q+256*(t+256*(u+256*(v+256*(z+256*A))))))/\h+j+q+t+u+v+z+A=om x 64/\
  h<=8/\j<=8/\q<=8/\t<=8/\u<=8/\v<=8/\z<=8/\A<=8:=by
 have h0:jX (2^1) (iq x 64)=x:=by
  rw[Nat.pow_one,zw];exact ot (by simpa using hx)
 have E:=oo 64 x;have d0:∀d∈iq x 64,d<2^1:=λd f=>by have:=zx 64 x d f;omega
 obtain⟨a,J⟩:∃a,a=pr (iq x 64):=⟨_,rfl⟩
 have G:a.length=2*16:=by rw[J];exact lM 32 _ E
 have s1:jl x=jX (2^2) a:=by
  have e:=qV 1 32 _ E d0;have o:=xE 1 32 _ E d0;rw[h0,Hf] at e o;unfold jl;rw[show x/2=x/2^1 from rfl,o,e,Er 32 _ E,J]
 have K:∀d∈a,d<=2:=λd f=>by
  rw[J] at f;exact Cn (k:=1) _ (λy hy=>by have:=d0 y hy;omega) d f
 obtain⟨b,hb⟩:∃b,b=pr a:=⟨_,rfl⟩
 have lb:b.length=2*8:=by rw[hb];exact lM 16 _ G
 have s2:kL (jl x)=jX (2^4) b:=by
  have e:=qV 2 16 _ G (λd f=>by have:=K d f;omega);have o:=xE 2 16 _ G (λd f=>by have:=K d f;omega);rw[<-s1,Hg] at e o;unfold kL;rw[show jl x/4=jl x/2^2 from rfl,o,e,Er 16 _ G,hb]
 have R:∀d∈b,d<=4:=λd f=>by rw[hb] at f;exact Cn (k:=2) _ K d f
 have W:sw (kL (jl x))=jX (2^8) (pr b):=by
  unfold sw;have h1:=Es (B:=2^4) (by decide) b (λd f=>by have:=R d f;omega);rw[<-s2] at h1;rw[show kL (jl x)/16=kL (jl x)/2^4 from rfl,h1];have e:=qV 4 8 (nb b) (by rw[vM,lb]) (λd f=>by have:=F5 (k:=4) b R d f;omega);rw[Hl] at e;rw[e,F4 8 b lb]
 have lc:(pr b).length=8:=lM 8 _ lb;have g:∀d∈pr b,d<=8:=λd f=>Cn (k:=4) _ R d f;have sc:(pr b).sum=om x 64:=by
  rw[xD 8 b lb,hb,xD 16 a G,J,xD 32 _ E];rfl
 obtain⟨c,hc⟩:∃c,c=pr b:=⟨_,rfl⟩
 rw[<-hc] at W lc g sc
 match c,lc with
 |[h,j,q,t,u,v,z,A],_=>
  refine⟨h,j,q,t,u,v,z,A, ?_, ?_,g _ (by simp),g _ (by simp),g _ (by simp),g _ (by simp),g _ (by simp),g _ (by simp),g _ (by simp),g _ (by simp)⟩
  ·rw[W];simp[jX]
  ·rw[<-sc];simp;omega
theorem xI {a b:bj}(q:bj)(h:a<b):(a+b*q)/b=q:=by
 rw[mm _ _ (by omega),mb h,cI]
theorem Hm (q d e f g h j o:bj):(q+256*(d+256*(e+256*(f+256*(g+256*(h+256*(j+256*o)))))))+(d+256*(e+256*(f+256*(g+256*(h+256*(j+256*o))))))=
  (q+d)+256*((d+e)+256*((e+f)+256*((f+g)+256*((g+h)+256*((h+j)+256*((j+o)+256*o)))))):=by omega
theorem FH {y d e f g j o t u:bj}(v:y=d+256*(e+256*(f+256*(g+256*(j+256*(o+256*(t+256*u)))))))(h:d<256):
  uL y=(d+e)+256*((e+f)+256*((f+g)+256*((g+j)+256*((j+o)+256*((o+t)+256*((t+u)+256*u)))))):=by
 have q:y/256=e+256*(f+256*(g+256*(j+256*(o+256*(t+256*u))))):=by rw[v,xI (a:=d) (b:=256) _ h]
 unfold uL;rw[q,v];exact Hm _ _ _ _ _ _ _ _
theorem Ho (f0 f1 t:bj):f0+256*(f1+256*t)=(f0+256*f1)+65536*t:=by omega
theorem Hq (f0 f1 f2 f3 f4 f5 f6 f7:bj):(f0+256*(f1+256*(f2+256*(f3+256*(f4+256*(f5+256*(f6+256*f7)))))))+(f2+256*(f3+256*(f4+256*(f5+256*(f6+256*f7)))))=
  (f0+f2)+256*((f1+f3)+256*((f2+f4)+256*((f3+f5)+256*((f4+f6)+256*((f5+f7)+256*(f6+256*f7)))))):=by omega
theorem FI {y f0 f1 f2 f3 f4 f5 f6 f7:bj}(d:y=f0+256*(f1+256*(f2+256*(f3+256*(f4+256*(f5+256*(f6+256*f7)))))))(h0:f0<256)(f:f1<256):
  xG y=(f0+f2)+256*((f1+f3)+256*((f2+f4)+256*((f3+f5)+256*((f4+f6)+256*((f5+f7)+256*(f6+256*f7)))))):=by
 have q:y/65536=f2+256*(f3+256*(f4+256*(f5+256*(f6+256*f7)))):=by
  have e:f0+256*f1<65536:=by clear d;omega
  rw[d,Ho,xI (a:=f0+256*f1) (b:=65536) _ e]
 unfold xG;rw[q,d];exact Hq _ _ _ _ _ _ _ _
theorem Hr (f0 f1 f2 f3 t:bj):f0+256*(f1+256*(f2+256*(f3+256*t)))=(f0+256*(f1+256*(f2+256*f3)))+4294967296*t:=by omega
theorem G6 (f0 d t s:bj):(f0+256*t)+(d+256*s)=(f0+d)+128*(2*(t+s)):=by omega
theorem FJ {y f0 f1 f2 f3 f4 f5 f6 f7:bj}(d:y=f0+256*(f1+256*(f2+256*(f3+256*(f4+256*(f5+256*(f6+256*f7)))))))(h0:f0<256)(g:f1<256)(h:f2<256)(j:f3<256)(e:f0+f4<128):
  xH y%128=f0+f4/\xH y=y+(f4+256*(f5+256*(f6+256*f7))):=by
 have q:y/4294967296=f4+256*(f5+256*(f6+256*f7)):=by
  have f:f0+256*(f1+256*(f2+256*f3))<4294967296:=by clear d;omega
  rw[d,Hr,xI (a:=f0+256*(f1+256*(f2+256*f3))) (b:=4294967296) _ f]
 unfold xH;rw[q];refine⟨?_,rfl⟩;rw[d,G6,Nat.add_mul_mod_self_left,ot e]
theorem Co {f0 f1 f2 f3 f4 f5 f6 f7:bj}(h0:f0<=64)(d:f1<=64)(e:f2<=64)(f:f3<=64)(g:f4<=64)(h:f5<=64)(j:f6<=64)(o:f7<=64):
  f0+256*(f1+256*(f2+256*(f3+256*(f4+256*(f5+256*(f6+256*f7))))))<=4629771061636907072:=by omega
theorem FK (x:bj)(J:x<18446744073709551616):xH (xG (uL (sw (kL (jl x)))))%128=om x 64/\uL (sw (kL (jl x)))<18446744073709551616/\xG (uL (sw (kL (jl x))))<18446744073709551616/\xH (xG (uL (sw (kL (jl x)))))<9223372036854775808:=by
 obtain⟨z,v,u,g,j,o,q,t,h,d,b0,b1,b2,b3,b4,b5,b6,b7⟩:=Gj x J;have e:=Co (f0:=z+v) (f1:=v+u) (f2:=u+g) (f3:=g+j) (f4:=j+o) (f5:=o+q) (f6:=q+t) (f7:=t) (by clear h d;omega) (by clear h d;omega) (by clear h d;omega) (by clear h d;omega) (by clear h d;omega) (by clear h d;omega) (by clear h d;omega) (by clear h d;omega);have f:=Co (f0:=z+v+(u+g)) (f1:=v+u+(g+j)) (f2:=u+g+(j+o)) (f3:=g+j+(o+q)) (f4:=j+o+(q+t)) (f5:=o+q+t) (f6:=q+t) (f7:=t) (by clear h d e;omega) (by clear h d e;omega) (by clear h d e;omega) (by clear h d e;omega) (by clear h d e;omega) (by clear h d e;omega) (by clear h d e;omega) (by clear h d e;omega);have y:j+o+(q+t)+256*(o+q+t+256*(q+t+256*t))<=1000000000000:=by clear h d e f;omega
 have K:z<256:=by clear h d e f y;omega
 have r1:z+v<256:=by clear h d e f y;omega
 have r2:v+u<256:=by clear h d e f y;omega
 have r3:z+v+(u+g)<256:=by clear h d e f y;omega
 have r4:v+u+(g+j)<256:=by clear h d e f y;omega
 have r5:u+g+(j+o)<256:=by clear h d e f y;omega
 have r6:g+j+(o+q)<256:=by clear h d e f y;omega
 have R:z+v+(u+g)+(j+o+(q+t))<128:=by clear h d e f y;omega
 have W:z+v+(u+g)+(j+o+(q+t))=om x 64:=by rw[<-d];clear h d e f y;omega
 have A:=FH h K;have E:=FI A r1 r2;have G:=FJ E r3 r4 r5 r6 R;rw[<-A] at e;rw[<-E] at f;refine⟨G.1.trans W,ld e (by decide),ld f (by decide), ?_⟩;rw[G.2];exact ld (Nat.add_le_add f y) (by decide)
theorem kZ (a b:bj):a&&& b<=b:=Nat.and_le_right
theorem Gl {n:bj}(h:n<18446744073709551616):iz.wrap (n:aw)=(n:aw):=by
 rw[IntKind.wrap_u64];omega
theorem r1 {x:bj}(d:x<18446744073709551616):iz.wrap (bits .and .u64 ((x:aw)/2) 6148914691236517205+bits .and .u64 (x:aw) 6148914691236517205)=(jl x:aw)/\jl x<=12297829382473034410:=by
 have h:=kZ (x/2) 6148914691236517205;have j:=kZ x 6148914691236517205;have e:jl x<=12297829382473034410:=by unfold jl;omega
 refine⟨?_,e⟩;have f:=oB (x/2) 6148914691236517205 (by omega) (by decide);have g:=oB x 6148914691236517205 d (by decide);rw[show((x:aw)/2)=((x/2:bj):aw) from rfl,show(6148914691236517205:aw)=((6148914691236517205:bj):aw) from rfl,f,g,<-jt];exact Gl (by show jl x<_;omega)
theorem r2 {x:bj}(d:x<18446744073709551616):iz.wrap (bits .and .u64 ((x:aw)/4) 3689348814741910323+bits .and .u64 (x:aw) 3689348814741910323)=(kL x:aw)/\kL x<=7378697629483820646:=by
 have h:=kZ (x/4) 3689348814741910323;have j:=kZ x 3689348814741910323;have e:kL x<=7378697629483820646:=by unfold kL;omega
 refine⟨?_,e⟩;have f:=oB (x/4) 3689348814741910323 (by omega) (by decide);have g:=oB x 3689348814741910323 d (by decide);rw[show((x:aw)/4)=((x/4:bj):aw) from rfl,show(3689348814741910323:aw)=((3689348814741910323:bj):aw) from rfl,f,g,<-jt];exact Gl (by show kL x<_;omega)
theorem r3 {x:bj}(e:x<=7378697629483820646):bits .and .u64 (iz.wrap ((x:aw)/16+(x:aw))) 1085102592571150095=(sw x:aw)/\sw x<=1085102592571150095:=by
 refine⟨?_,kZ _ _⟩;have d:x/16+x<18446744073709551616:=by omega
 rw[show((x:aw)/16)=((x/16:bj):aw) from rfl,show(1085102592571150095:aw)=((1085102592571150095:bj):aw) from rfl,<-jt,Gl d];exact oB (x/16+x) 1085102592571150095 d (by decide)
theorem r4 {x:bj}(d:uL x<18446744073709551616):iz.wrap ((x:aw)+(x:aw)/256)=(uL x:aw):=by
 rw[show((x:aw)/256)=((x/256:bj):aw) from rfl,<-jt];exact Gl d
theorem r5 {x:bj}(d:xG x<18446744073709551616):iz.wrap ((x:aw)+(x:aw)/65536)=(xG x:aw):=by
 rw[show((x:aw)/65536)=((x/65536:bj):aw) from rfl,<-jt];exact Gl d
theorem r6 {x:bj}(d:xH x<18446744073709551616):iz.wrap ((x:aw)+(x:aw)/4294967296)=(xH x:aw):=by
 rw[show((x:aw)/4294967296)=((x/4294967296:bj):aw) from rfl,<-jt];exact Gl d
theorem Gm (a:bj)(e:a<9223372036854775808):bits .and .i64 (a:aw) 127=((a%128:bj):aw):=by
 have d:a&&& 127=a%128:=sk a 7
 show dt.wrap ((BitVec.ofInt 64 (a:aw)&&& BitVec.ofInt 64 ((127:bj):aw)).toNat:aw)=_
 rw[BitVec.toNat_and,BitVec.ofInt_natCast,BitVec.ofInt_natCast,BitVec.toNat_ofNat,BitVec.toNat_ofNat,ot (show a<2^64 by omega),show(127:bj)%2^64=127 from rfl,d,lx];omega
theorem Bw (x:bj)(w:World)(e:x<18446744073709551616):zS 194 #[.int .u64 (x:aw)] w (Z U (om x 64:bj)):=by
 obtain⟨u,f⟩:=r1 e;obtain⟨v,g⟩:=r2 (x:=jl x) (ld f (by decide));obtain⟨y,q⟩:=r3 (x:=kL (jl x)) g;obtain⟨h,j,o,d⟩:=FK x e;have z:=r4 j;have A:=r5 o;have E:=r6 (Nat.lt_trans d (by decide));have t:=Gm _ d;rw[h] at t;have G:wrap64 ((xH (xG (uL (sw (kL (jl x))))):bj):aw)=((xH (xG (uL (sw (kL (jl x))))):bj):aw):=by
  unfold wrap64;omega
 clear f g q h j o d;go_enter func194,ntmps194;go_wp2;go_ret;exact⟨rfl,rfl⟩
def di (n:bj)(f:bj->bj):dl cw:=((gb n).map λi=>eS .u64 (f i:aw)).toArray
theorem lg (n:bj)(f:bj->bj):(di n f).size=n:=by simp[di]
theorem mH {n i:bj}(f:bj->bj)(h:i<n):(di n f)[i]?=tf (.int .u64 (f i:aw)):=by
 simp[di,h]
def bP (w:World)(B n:bj)(f:bj->bj):Prop:=∃d,w.heap[B]?=tf (tA d 245 (0,0))/\n<=d.size/\∀i,i<n->d[i]?=tf (.int .u64 (f i:aw))
theorem bP.cell {w:World}{B n i:bj}{f:bj->bj}(h:bP w B n f)(hi:i<n):w.cell? ⟨B,i,th⟩=tf (.int .u64 (f i:aw)):=by
 obtain⟨g,d,_,e⟩:=h;rw[bt _ _ _ _ _ _ d];exact e i hi
theorem bP.frozen {w:World}{B n i:bj}{f:bj->bj}(h:bP w B n f):w.frozen? ⟨B,i,th⟩=tj:=by
 obtain⟨e,d,_⟩:=h;exact de _ _ _ _ _ d
theorem bP.lt {w:World}{B n:bj}{f:bj->bj}(h:bP w B n f):B<w.heap.size:=by
 obtain⟨e,d,_⟩:=h;exact(br.1 d).1
theorem bP.congr {w:World}{B n:bj}{f g:bj->bj}(h:bP w B n f)(e:∀i,i<n->f i=g i):bP w B n g:=by
 obtain⟨d,j,o,q⟩:=h;exact⟨d,j,o,λi hi=>by rw[<-e i hi];exact q i hi⟩
theorem bP.keep {w w':World}{B n:bj}{f:bj->bj}(h:bP w B n f)(e:w'.heap[B]?=w.heap[B]?):bP w' B n f:=by
 obtain⟨d,g,j,o⟩:=h;exact⟨d,e.trans g,j,o⟩
theorem bP.ext {w w':World}{B n:bj}{f:bj->bj}{M:bj->Prop}(h:bP w B n f)(d:Ext M w w')(e:¬M B):bP w' B n f:=
 h.keep (d.block B h.lt e)
theorem bP.below {w w':World}{B n m:bj}{f:bj->bj}(h:bP w B n f)(d:aE m w w')(e:B<m):bP w' B n f:=
 h.keep (d.block B e)
theorem bP.set {w:World}{B n i v:bj}{f:bj->bj}(h:bP w B n f):bP (w.setCell ⟨B,i,th⟩ (.int .u64 (v:aw))) B n (λx=>if x=i then v else f x):=by
 obtain⟨u,d,g,o⟩:=h;refine⟨_,gi _ _ _ _ _ _ d,by simpa using g,λj q=> ?_⟩;rw[gj]
 by_cases e:i=j
 ·subst e;rw[cH rfl,cH (by omega)];simp
 ·rw[bw e];have t:¬j=i:=λh=>e h.symm
  simp only[bw t];exact o j q
theorem bP.of_cells {w:World}{B n:bj}{f:bj->bj}(h:w.heap[B]?=tf (tA (di n f) 245 (0,0))):bP w B n f:=
 ⟨_,h,by rw[lg];exact cd _,λ_ hi=>mH f hi⟩
theorem bP.of_owns {w:World}{base n g cap:bj}{f:bj->bj}(h:w.ownsRow base 245 1 (tn (tf ⟨g,0,th⟩) n cap) n ((gb n).map λi=>eS .u64 (f i:aw))):bP w g n f:=by
 rcases h.2 with⟨d,_⟩|⟨t,u,j,d,v,o,x,y,z,q⟩
 ·cases d
 ·simp only[fy,dj,eV] at d
  obtain⟨⟨rfl,_,_⟩,_,rfl⟩:=d;refine⟨j,o,by omega,λi hi=> ?_⟩;have e:(j.toList.take (n*1))[i]?=tf (.int .u64 (f i:aw)):=by rw[q];simp[hi]
  rw[lO,cH (by omega)] at e;simpa using e
def aZ (f:bj->bj)(v:bj):ml:=(f (v/64)).testBit (v%64)
theorem Gn (a k:bj)(d:a<18446744073709551616):(bits .and .u64 ((a:aw)/2^k) 1==1)=a.testBit k:=by
 have e:((a:aw)/2^k)=((a/2^k:bj):aw):=by rw[Int.natCast_ediv,Int.natCast_pow];rfl
 have f:a/2^k<18446744073709551616:=ld (Nat.div_le_self _ _) d;rw[e,show(1:aw)=((1:bj):aw) from rfl,oB _ _ f (by decide),Nat.and_one_is_mod,Nat.testBit_eq_decide_div_mod_eq]
 by_cases h:a/2^k%2=1
 ·rw[h];rfl
 ·have h0:a/2^k%2=0:=by omega
  rw[h0];rfl
theorem xJ (w:World)(B n cp v:bj)(f:bj->bj)(d:bP w B n f)(hf:∀i,f i<18446744073709551616)(e:v/64<n)(h:n<=90000):
  zS 148 #[tn (tf ⟨B,0,th⟩) n cp,Z U (v:aw)] w (tt (aZ f v)):=by
 have j:w.cell? ⟨B,v/64,th⟩=tf (.int .u64 (f (v/64):aw)):=d.cell e;have g:=hf (v/64);have o:((v/64:bj):aw)<(n:aw):=by omega
 have q:v<9000000:=by omega
 have t:(bits .and .u64 ((f (v/64):aw)/2^(v%64)) 1==1)=aZ f v:=Gn _ _ g;clear d hf;go_enter func148,ntmps148;go_wp2;go_ret;exact⟨rfl,rfl⟩
theorem lh {k:bj}(h:k<64):2^k<18446744073709551616:=cD (Nat.pow_lt_pow_right (by decide) h) (by decide)
theorem zz {k:bj}(h:k<64):iz.wrap (2^k)=((2^k:bj):aw):=by
 have e:((2:aw)^k)=((2^k:bj):aw):=by rw[Int.natCast_pow];rfl
 rw[e];exact Gl (lh h)
theorem GL (a k:bj)(d:a<18446744073709551616)(h:k<64):bits .or .u64 (a:aw) (iz.wrap (2^k))=((a|||2^k:bj):aw):=by
 rw[zz h];exact u64_or_nat _ _ d (lh h)
theorem Dc (a k:bj)(d:a<18446744073709551616)(h:k<64):bits .andNot .u64 (a:aw) (iz.wrap (2^k))=((a&&&(18446744073709551615-2^k):bj):aw):=by
 rw[zz h];exact u64_andNot_nat _ _ d (lh h)
def qW (w:World)(B n:bj)(g:bj->bj)(e:Ending)(w':World):Prop:=
 e= tB (.tuple #[])/\bP w' B n g/\Ext (·=B) w w'
theorem xK (w:World)(B n cp v:bj)(f:bj->bj)(d:bP w B n f)(hf:∀i,f i<18446744073709551616)(e:v/64<n)(j:n<=90000):
  fj am 145 #[tn (tf ⟨B,0,th⟩) n cp,Z U (v:aw)] w (qW w B n (λx=>if x=v/64 then f (v/64)|||2^(v%64) else f x)):=by
 have o:w.cell? ⟨B,v/64,th⟩=tf (.int .u64 (f (v/64):aw)):=d.cell e;have q:w.frozen? ⟨B,v/64,th⟩=tj:=d.frozen;have g:=hf (v/64);have t:((v/64:bj):aw)<(n:aw):=by omega
 have u:v<9000000:=by omega
 have y:=GL (f (v/64)) (v%64) g (pT _ (by decide));have h:cg (qW w B n (λx=>if x=v/64 then f (v/64)|||2^(v%64) else f x) (tB (.tuple #[])) (w.setCell ⟨B,v/64,th⟩ (.int .u64 ((f (v/64)|||2^(v%64):bj):aw))).drew):=
  ⟨rfl,d.set.keep rfl,(Ext.set1 _ _ _ _).drew⟩
 clear d hf;go_enter func145,ntmps145;go_wp2
 go_region
 all_goals (go_end0;exact h.out)
theorem uM (w:World)(B n cp v:bj)(f:bj->bj)(d:bP w B n f)(hf:∀i,f i<18446744073709551616)(e:v/64<n)(j:n<=90000):
  fj am 143 #[tn (tf ⟨B,0,th⟩) n cp,Z U (v:aw)] w (qW w B n (λx=>if x=v/64 then f (v/64)&&&(18446744073709551615-2^(v%64)) else f x)):=by
 have o:w.cell? ⟨B,v/64,th⟩=tf (.int .u64 (f (v/64):aw)):=d.cell e;have q:w.frozen? ⟨B,v/64,th⟩=tj:=d.frozen;have g:=hf (v/64);have t:((v/64:bj):aw)<(n:aw):=by omega
 have u:v<9000000:=by omega
 have y:=Dc (f (v/64)) (v%64) g (pT _ (by decide));have h:cg (qW w B n (λx=>if x=v/64 then f (v/64)&&&(18446744073709551615-2^(v%64)) else f x) (tB (.tuple #[])) (w.setCell ⟨B,v/64,th⟩ (.int .u64 ((f (v/64)&&&(18446744073709551615-2^(v%64)):bj):aw))).drew):=
  ⟨rfl,d.set.keep rfl,(Ext.set1 _ _ _ _).drew⟩
 clear d hf;go_enter func143,ntmps143;go_wp2
 go_region
 all_goals (go_end0;exact h.out)
theorem FL (f:bj->bj)(v u:bj):aZ (λx=>if x=v/64 then f (v/64)|||2^(v%64) else f x) u=(aZ f u||decide (u=v)):=by
 unfold aZ
 by_cases h:u/64=v/64
 ·simp only[cH h]
  rw[ly,Nat.testBit_two_pow,<-h];congr 1
  by_cases e:v%64=u%64
  ·rw[cR e,cR (by omega)]
  ·rw[cm e,cm (by intro d;subst d;exact e rfl)]
 ·simp only[bw h]
  rw[cm (by intro e;subst e;exact h rfl),sT]
theorem Et (f:bj->bj)(v u:bj):aZ (λx=>if x=v/64 then f (v/64)&&&(18446744073709551615-2^(v%64)) else f x) u=(aZ f u&&decide (u≠v)):=by
 unfold aZ
 by_cases h:u/64=v/64
 ·simp only[cH h]
  have g:v%64<64:=pT _ (by decide);have j:18446744073709551615-2^(v%64)=2^64-(2^(v%64)+1):=by omega
  rw[rI,j,td (lh g),<-h,Nat.testBit_two_pow];congr 1;rw[cR (show u%64<64 from pT _ (by decide)),Bool.true_and]
  by_cases e:v%64=u%64
  ·rw[cR e,cm (by intro d;exact d (by omega))];rfl
  ·rw[cm e,cR (by intro d;subst d;exact e rfl)];rfl
 ·simp only[bw h]
  rw[cR (by intro e;subst e;exact h rfl),Bool.and_true]
def dJ (n:bj)(f:bj->bj):bj:=((gb n).map λi=>om (f i) 64).sum
theorem xL:∀(n x:bj),om x n<=n
 |0,_=>by simp[om,iq]
 |n+1,x=>by
  have h:=xL n (x/2);unfold om at h⊢;simp only[iq,List.sum_cons];omega
theorem kD (n:bj)(f:bj->bj):dJ (n+1) f=dJ n f+om (f n) 64:=by
 unfold dJ;rw[lE,et,qv];simp
theorem Bz (n:bj)(f:bj->bj):dJ n f<=64*n:=by
 induction n with
 |zero=>simp[dJ]
 |succ n ih=>rw[kD];have:=xL 64 (f n);omega
theorem sD (w:World)(B n cp:bj)(f:bj->bj)(d:bP w B n f)(hf:∀i,f i<18446744073709551616)(x:n<=90000):
  zS 146 #[tn (tf ⟨B,0,th⟩) n cp] w (Z U (dJ n f:bj)):=by
 have g:=zH d;have h:=zH hf;clear d hf;go_enter func146,ntmps146
 go_wp2_with fail
 go_loop [2,7] (λt c=>∃j:bj,j<=n/\c= Z U (j:aw)/\t= Z U ((dJ j f:bj):aw)) (λ_ c=>n-(dp c).toNat)
 case atStart=>exact⟨0,cM _,rfl,rfl⟩
 case round=>
  obtain⟨j,y,rfl,rfl⟩:=hrel;have z:=Bz j f
  by_cases o:j<n
  ·have A:w.cell? ⟨B,j,th⟩=tf (.int .u64 (f j:aw)):=g.out.cell o
   have q:=zH (Bw (f j) w (h.out j));have E:=xL 64 (f j);have G:(j:aw)<(n:aw):=by omega
   have u:cg (dJ (j+1) f=dJ j f+om (f j) 64):=kD j f
   go_wp2_with (go_at_call 194;refine q.out.mono ?_;rintro e w' ⟨rfl,rfl⟩)
   go_round
   case rel=>exact⟨j+1,by omega,by go_num,by rw[u.out];go_num⟩
   case measure=>simp[dp];omega
  ·have v:j=n:=by omega
   subst v;go_wp2;go_ret;exact⟨rfl,rfl⟩
def BA (x r:bj):ml:=(x&&&(18446744073709551615-r)) != 0
def gW (f g:bj->bj)(j:bj):bj->bj:=λi=>if i<j then f i|||g i else f i
def eB (f g:bj->bj)(j:bj):ml:=(gb j).any λi=>BA (g i) (f i)
theorem zA (f g:bj->bj)(j:bj):eB f g (j+1)=(eB f g j||BA (g j) (f j)):=by
 unfold eB;rw[lE,List.any_append];simp
theorem Gp (x r:bj)(d:x<18446744073709551616)(e:r<18446744073709551616):(bits .andNot .u64 (x:aw) (r:aw) != 0)=BA x r:=by
 rw[u64_andNot_nat _ _ d e];unfold BA
 by_cases h:x&&&(18446744073709551615-r)=0
 ·rw[h];rfl
 ·have:((x&&&(18446744073709551615-r):bj):aw)≠0:=by omega
  rw[oe.2 this,oe.2 h]
def F6 (w:World)(B n:bj)(f g:bj->bj)(b c:cw)(wr:World):Prop:=
 ∃j:bj,j<=n/\c= Z U (j:aw)/\b= tt (eB f g j)/\bP wr B n (gW f g j)/\Ext (·=B) w wr
def Joined (w:World)(B n:bj)(f g:bj->bj)(e:Ending)(w':World):Prop:=
 e= tB (tt (eB f g n))/\bP w' B n (gW f g n)/\Ext (·=B) w w'
theorem uN (w:World)(B X n cp A:bj)(f g:bj->bj)(E:X≠B)(o:bP w B n f)(q:bP w X n g)(hf:∀i,f i<18446744073709551616)(t:∀i,g i<18446744073709551616)(W:n<=90000):
  fj am 105 #[tn (tf ⟨B,0,th⟩) n cp,tn (tf ⟨X,0,th⟩) n A] w (Joined w B n f g):=by
 have G:=zH o;have J:=zH q;have u:=zH hf;have v:=zH t;clear o hf t q;go_enter func105,ntmps105
 go_wp2_with fail
 go_loopw [5,10] (λb c wr=>F6 w B n f g b c wr) (λ_ c _=>n-(dp c).toNat)
 case atStart=>exact⟨0,cM _,rfl,rfl,G.out.congr (λi _=>by simp[gW]),Ext.refl _ _⟩
 case round=>
  obtain⟨j,x,rfl,rfl,d,e⟩:=hrel
  by_cases y:j<n
  ·have c1:wr.cell? ⟨B,j,th⟩=tf (.int .u64 (f j:aw)):=by rw[d.cell y];simp[gW]
   have c2:wr.cell? ⟨X,j,th⟩=tf (.int .u64 (g j:aw)):=(J.out.ext e E).cell y;have c3:wr.frozen? ⟨B,j,th⟩=tj:=d.frozen;have e1:=Gp (g j) (f j) (v.out j) (u.out j);have e2:=u64_or_nat (f j) (g j) (u.out j) (v.out j);have tD:(j:aw)<(n:aw):=by omega
   have h:cg (F6 w B n f g (tt (eB f g j||BA (g j) (f j))) (Z U ((j:aw)+1)) (wr.setCell ⟨B,j,th⟩ (.int .u64 ((f j|||g j:bj):aw)))):=by
    refine⟨j+1,by omega,by simp,by rw[zA],d.set.congr (λi _=> ?_),e.trans (Ext.set1 _ _ _ _) (λj x=> .inl x)⟩;unfold gW
    by_cases hi:i=j
    ·subst hi;rw[cH rfl,cH (by omega)]
    ·rw[bw hi]
     by_cases z:i<j
     ·rw[cH z,cH (by omega)]
     ·rw[bw z,bw (by omega)]
   clear d e;cases hb:eB f g j with
   |true=>
    rw[hb] at h;clear hb;go_wp2;exact⟨h.out,by simp[dp];omega⟩
   |false=>
    rw[hb] at h;clear hb;simp only[Bool.false_or] at h;go_wp2;exact⟨h.out,by simp[dp];omega⟩
  ·have K:j=n:=by omega
   subst K;have R:cg (Joined w B j f g (tB (tt (eB f g j))) wr):=⟨rfl,d,e⟩
   clear d e;go_wp2;go_ret;exact R.out
def Eu (base:bj)(w:World)(xs:bp aw)(e:Ending)(w':World):Prop:=
 ∃ao cap,e= tB (tn ao xs.length cap)/\aU w' base (tn ao xs.length cap) xs/\aE base w w'
theorem oq {w:World}{g:bj}{a b:cw}{t:fX}(h:w.heap[g]?=tf (tA #[a,b] t (0,0))):
  w.cell? ⟨g,0,th⟩=tf a/\w.cell? ⟨g,1,th⟩=tf b/\w.frozen? ⟨g,0,th⟩=tj/\w.frozen? ⟨g,1,th⟩=tj:=by
 refine⟨?_, ?_,de w g _ _ t h,de w g _ _ t h⟩<;>rw[bt w g _ _ t _ h]<;>rfl
theorem zB (base g:bj)(a b:aw)(w:World)(f:base<=g)(h:w.heap[g]?=tf (tA #[Z U a,Z U b] 3 (0,0)))(d:a≠b):
  fj am 228 #[tn (tf ⟨g,0,th⟩) 2 2] w (Eu base w [a,b]):=by
 obtain⟨h0,o,f0,f1⟩:=oq h;have j:=zH h;have hb:(b==a)=tj:=cN.2 (λe=>d e.symm);clear h d;go_enter func228,ntmps228;go_wp2;refine wp_loop_rounds 2 ?_;rw[rounds_succ];go_wp2
 go_quiet (fail)
 go_wp2;rw[rounds_succ];go_wp2;go_ret;refine⟨_,_,rfl, ?_,hU (aq _ _) _⟩;exact⟨rfl,.inr ⟨g,2,_,rfl,f,j.out,cd _,by decide,rfl,rfl⟩⟩
theorem zC (base g:bj)(a:aw)(w:World)(d:base<=g)(h:w.heap[g]?=tf (tA #[Z U a,Z U a] 3 (0,0))):
  fj am 228 #[tn (tf ⟨g,0,th⟩) 2 2] w (Eu base w [a]):=by
 obtain⟨h0,q,f0,f1⟩:=oq h;have e:=zH h;clear h;obtain⟨f,hi,j,t,u⟩:=m6 iQ;have o:∀n,(w.drewN n).heap[g]?=tf (tA #[Z U a,Z U a] 3 (0,0)):=λ_=>e.out;go_enter func228,ntmps228;go_wp2;refine wp_loop_rounds 1 ?_;rw[rounds_succ];go_wp2
 go_quiet (fail)
 go_wp2;refine wp_loop_rounds 1 ?_;rw[rounds_succ]
 go_wp2_with (refine nA _ rfl (.tmp 56) 35 3 rfl f (Z U 0) gv hi j rfl rfl g 1 1 1 rfl #[Z U a,Z U a] 3 (o _) (cd 2) (by decide) ?_)
 go_ret;refine⟨_,_,rfl, ?_,below_setRow (hU (aq _ _) _) d _⟩;exact⟨rfl,.inr ⟨g,2,_,rfl,d,setRow_heap _ _ _ _ _ _ e.out,iu 1,by decide,rfl,rfl⟩⟩
theorem FM (i:Ins)(at_:aw)(w:World)(h0:0<=at_)(x:at_<100000):
  fj am 191 #[tv i.cells,Z U at_] w (iT w (iR i at_)):=by
 obtain⟨op,d,a,b,f,n,y,z,A,tI,t,E,G,args⟩:=i;simp only[Ins.cells,iR]
 by_cases g:op=16
 ·subst g
  rw[cH rfl];go_enter oE,n9;go_wp2;go_ret;exact⟨_,_,rfl,aU.lit1 (by simp) (by simp),((aq _ _).alloc (cd _) _).alloc (by simp) _⟩
 by_cases h:op=17
 ·subst h
  by_cases j:tI=t
  ·subst j
   rw[bw (by decide),cH rfl,cH rfl];go_enter oE,n9
   go_wp2_with (go_at_call 228;refine(zC w.heap.size (w.heap.size+1) tI _ (by omega) (im _ _ _)).mono ?_;rintro e u ⟨ao,cap,rfl,q,hbel⟩)
   go_ret;exact⟨_,_,rfl,q,(((aq _ _).alloc (cd _) _).alloc (by simp) _).trans hbel⟩
  ·rw[bw (by decide),cH rfl,bw j]
   have v:=zH j;clear j;go_enter oE,n9
   go_wp2_with (go_at_call 228;refine(zB w.heap.size (w.heap.size+1) tI t _ (by omega) (im _ _ _) v.out).mono ?_;rintro e u ⟨ao,cap,rfl,q,hbel⟩)
   go_ret;exact⟨_,_,rfl,q,(((aq _ _).alloc (cd _) _).alloc (by simp) _).trans hbel⟩
 by_cases o:op=18
 ·subst o
  rw[bw (by decide),bw (by decide),cH rfl];go_enter oE,n9;go_wp2;go_ret;exact⟨_,_,rfl,aU.nil _ _,((aq _ _).alloc (cd _) _)⟩
 ·rw[bw g,bw h,bw o]
  have J:(op==16)=tj:=cN.2 g;have K:(op==17)=tj:=cN.2 h;have R:(op==18)=tj:=cN.2 o;clear g h o;go_enter oE,n9;go_wp2;go_ret;exact⟨_,_,rfl,aU.lit1 (by simp) (by simp),((aq _ _).alloc (cd _) _).alloc (by simp) _⟩
theorem sF (x:aw)(d n f:bj)(g:cC fg)(w:World)(j:w.cell? ⟨d,7,th⟩=tf (tn g n f))(e:eP n x=ti):
  zS 192 #[Z U x,tr (tf ⟨d,0,th⟩)] w (tt tj):=by
 have h0:0<=x/\x<n:=by simpa[eP] using e
 obtain⟨h0,h⟩:=h0;have d0:decide (x<0)=tj:=by simpa using h0
 have d1:decide ((n:aw)<=x)=tj:=by simpa using h
 clear e;go_enter func192,ntmps192;go_wp2;go_ret;exact⟨rfl,rfl⟩
theorem vN (x:aw)(e n f:bj)(g:cC fg)(w:World)(j:w.cell? ⟨e,7,th⟩=tf (tn g n f))(d:eP n x=tj):
  zS 192 #[Z U x,tr (tf ⟨e,0,th⟩)] w (tt ti):=by
 by_cases h0:0<=x
 ·have h:n<=x:=by simp[eP] at d;exact d h0
  clear d;go_enter func192,ntmps192;go_wp2;go_ret;exact⟨rfl,rfl⟩
 ·have h:x<0:=by omega
  clear d h0;go_enter func192,ntmps192;go_wp2;go_ret;exact⟨rfl,rfl⟩
def Cq (w:World)(ao:cC fg)(xs:bp aw):Prop:=
 0<xs.length->∃b d,ao=tf ⟨b,d,th⟩/\∀(k:bj)(z:aw),xs[k]?=tf z->w.cell? ⟨b,d+k,th⟩=tf (Z U z)
theorem Ev (d n g:bj)(h:cC fg)(ao:cC fg)(cap:bj)(xs:bp aw)(w:World)(t:w.cell? ⟨d,7,th⟩=tf (tn h n g))(E:xs.length<=100000)
  (j:Cq w ao xs)(o:∀x∈xs,eP n x=ti):
  zS 152 #[tn ao xs.length cap,.func (.func 192) #[] #[tr (tf ⟨d,0,th⟩)]] w (Z U (-1)):=by
 have u:=zH j;have v:=zH o;clear j o;go_enter pL,pc;go_wp2
 go_loop [8] (λi=>∃k:bj,k<=xs.length/\i= Z U (k:aw)) (λi=>xs.length-(dp i).toNat)
 case atStart=>exact⟨0,cM _,rfl⟩
 case round=>
  obtain⟨k,G,rfl⟩:=hrel
  by_cases y:k<xs.length
  ·obtain⟨b,J,rfl,q⟩:=u.out (by omega)
   obtain⟨z,f⟩:∃z,xs[k]?=tf z:=⟨_,ap y⟩
   have K:=q k z f;have A:cg (eP n z=ti):=v.out z (ci f);clear q f
   go_wp2_with (go_at_call 192;refine(sF _ d n g h _ t A.out).mono ?_;rintro e R ⟨rfl,rfl⟩)
   go_round
   case rel=>exact⟨k+1,by omega,by go_num⟩
   case measure=>simp[dp];omega
  ·go_wp2
   go_ret;exact⟨rfl,rfl⟩
theorem Ew (f n g:bj)(h:cC fg)(ao:cC fg)(cap:bj)(xs:bp aw)(i:bj)(y:aw)(w:World)(o:w.cell? ⟨f,7,th⟩=tf (tn h n g))(hl:xs.length<=100000)
  (q:Cq w ao xs)(t:∀x∈xs.take i,eP n x=ti)(hi:xs[i]?=tf y)(u:eP n y=tj):
  zS 152 #[tn ao xs.length cap,.func (.func 192) #[] #[tr (tf ⟨f,0,th⟩)]] w (Z U (i:aw)):=by
 have tD:i<xs.length:=(bo.1 hi).1;have A:=zH q;have E:=zH t;have G:=zH hi;have J:=zH u;clear q t hi u;go_enter pL,pc;go_wp2
 go_loop [8] (λv=>∃k:bj,k<=i/\v= Z U (k:aw)) (λv=>xs.length-(dp v).toNat)
 case atStart=>exact⟨0,cM _,rfl⟩
 case round=>
  obtain⟨k,hk,rfl⟩:=hrel;have K:k<xs.length:=by omega
  obtain⟨b,tE,rfl,j⟩:=A.out (by omega);obtain⟨z,d⟩:∃z,xs[k]?=tf z:=⟨_,ap K⟩
  have tG:=j k z d
  by_cases R:k<i
  ·have W:cg (eP n z=ti):=E.out z (ci (i:=k) (by rw[lO,cH R];exact d))
   clear j d
   go_wp2_with (go_at_call 192;refine(sF _ f n g h _ o W.out).mono ?_;rintro e w1 ⟨rfl,rfl⟩)
   go_round
   case rel=>exact⟨k+1,by omega,by go_num⟩
   case measure=>simp[dp];omega
  ·obtain rfl:i=k:=by omega
   have e:z=y:=by have:=G.out;rw[d] at this;exact cy this
   subst e;clear j d
   go_wp2_with (go_at_call 192;refine(vN _ f n g h _ o J.out).mono ?_;rintro e w1 ⟨rfl,rfl⟩)
   go_ret;exact⟨rfl,rfl⟩
theorem dO {n:bj}{xs:bp aw}{j:bj}{z:aw}(d:xs[j]?=tf z):
  (xs.take (j+1)).filter (eP n)=(xs.take j).filter (eP n)++(if eP n z then[z] else[]):=by
 rw[aS d,List.filter_append,List.filter_cons]
 split<;>simp
def eU (w:World)(g cap:bj)(n:bj)(xs:bp aw)(j:bj):Prop:=
 ∃d,w.heap[g]?=tf (tA d 3 (0,0))/\d.size=cap/\d.toList.take ((xs.take j).filter (eP n)).length=((xs.take j).filter (eP n)).map (eS .i64)/\∀(k:bj)(z:aw),j<=k->xs[k]?=tf z->d[k]?=tf (Z U z)
theorem eU.cell {w:World}{g cap n:bj}{xs:bp aw}{j:bj}(h:eU w g cap n xs j){z:aw}(d:xs[j]?=tf z):w.cell? ⟨g,j,th⟩=tf (Z U z):=by
 obtain⟨e,f,_,_,o⟩:=h;rw[bt w g j e _ _ f];exact o j z (cd _) d
theorem eU.skip {w:World}{g cap n:bj}{xs:bp aw}{j:bj}(h:eU w g cap n xs j){z:aw}(d:xs[j]?=tf z)(f:eP n z=tj):eU w g cap n xs (j+1):=by
 obtain⟨o,q,t,u,v⟩:=h;have e:(xs.take (j+1)).filter (eP n)=(xs.take j).filter (eP n):=by rw[dO d,f];simp
 exact⟨o,q,t,by rw[e];exact u,λk z x d=>v k z (by omega) d⟩
theorem eU.put {w:World}{g cap n:bj}{xs:bp aw}{j:bj}(h:eU w g cap n xs j)(y:xs.length<=cap){z:aw}(d:xs[j]?=tf z)(o:eP n z=ti)(A:((xs.take j).filter (eP n)).length<j):
  eU (w.setCell ⟨g,((xs.take j).filter (eP n)).length,th⟩ (Z U z)) g cap n xs (j+1):=by
 obtain⟨f,q,t,u,v⟩:=h;have e:(xs.take (j+1)).filter (eP n)=(xs.take j).filter (eP n)++[z]:=by rw[dO d,o];simp
 have E:j<xs.length:=(bo.1 d).1;refine⟨_,gi w g _ f _ _ q,by simpa using t, ?_,λk z G d=> ?_⟩
 ·rw[e]
  simp only[bm,eh,ks,Array.toList_setIfInBounds,et,li,oT];generalize hF:(xs.take j).filter (eP n)=F at*;have x:F.length<f.toList.length:=by have:=f.length_toList;omega
  rw[kA,List.take_set,u,List.getElem?_set_self (by exact x)];rw[List.set_eq_of_length_le (by simp)];rfl
 ·rw[gj,bw (by omega)]
  exact v k z (by omega) d
theorem Ey (base d n j:bj)(o:cC fg)(ao:cC fg)(cap:bj)(xs:bp aw)(w:World)(t:w.cell? ⟨d,7,th⟩=tf (tn o n j))(u:xs.length<=100000)
  (f:aU w base (tn ao xs.length cap) xs)(h:∀x∈xs,eP n x=ti):
  fj am 190 #[tn ao xs.length cap,.func (.func 192) #[] #[tr (tf ⟨d,0,th⟩)]] w (Eu base w (xs.filter (eP n))):=by
 have q:Cq w ao xs:=λh0=>by
  obtain⟨g,e,_,_,v⟩:=f.shape h0;exact⟨g,0,e,λk z y=>by rw[cI];exact v k z y⟩
 have e:xs.filter (eP n)=xs:=List.filter_eq_self.2 h;rw[e];have A:=zH f;have E:=zH (Ev d n j o ao cap xs w t u q h);clear f q h e;go_enter func190,ntmps190
 go_wp2_with (go_at_call 152;refine E.out.mono ?_;rintro e G ⟨rfl,rfl⟩)
 go_ret;exact⟨_,_,rfl,A.out,aq _ _⟩
theorem eU.start {w:World}{base:bj}{g cap n:bj}{xs:bp aw}{i:bj}{y:aw}(h:aU w base (tn (tf ⟨g,0,th⟩) xs.length cap) xs)(j:∀x∈xs.take i,eP n x=ti)(hi:xs[i]?=tf y)(u:eP n y=tj):
  eU w g cap n xs (i+1)/\((xs.take (i+1)).filter (eP n)).length=i/\xs.length<=cap/\base<=g/\cap<=du:=by
 have J:i<xs.length:=(bo.1 hi).1;have e:(xs.take (i+1)).filter (eP n)=xs.take i:=by
  rw[dO hi,u,List.filter_eq_self.2 j];simp
 rcases h.2 with⟨d,_⟩|⟨K,R,o,d,v,A,E,G,W,t⟩
 ·simp at d
 ·simp only[fy,dj,eV,and_true,true_and] at d
  obtain⟨rfl,rfl⟩:=d;have j:∀(k:bj)(z:aw),xs[k]?=tf z->o[k]?=tf (Z U z):=λk z f=>by
   have hk:k<xs.length:=(bo.1 f).1;have q:(o.toList.take (xs.length*1))[k]?=tf (Z U z):=by rw[t];simp[f]
   rw[lO,cH (by omega)] at q;simpa using q
  refine⟨⟨o,A,by omega, ?_,λk z _ f=>j k z f⟩,by rw[e,ee];omega,E,v,G⟩;rw[e,ee,ix (by omega)];have q:=congrArg (List.take i) t;rw[List.take_take,ix (by omega)] at q;rw[q,List.map_take]
theorem eU.finish {w:World}{base g cap n:bj}{xs:bp aw}(h:eU w g cap n xs xs.length)(o:base<=g)(t:xs.length<=cap)(q:cap<=du)(m:bj)(u:(xs.filter (eP n)).length+m<=xs.length):
  ∃d,w.heap[g]?=tf (tA d 3 (0,0))/\d.size=cap/\
   aU (w.setRow g (d.toList.take (xs.filter (eP n)).length++ju m (eS .i64 0)++d.toList.drop ((xs.filter (eP n)).length+m)).toArray) base (tn (tf ⟨g,0,th⟩) (xs.filter (eP n)).length cap) (xs.filter (eP n)):=by
 obtain⟨d,e,f,j,v⟩:=h;rw[ox (cd _)] at j;have x:d.toList.length=cap:=by rw[Array.length_toList];exact f
 refine⟨d,e,f,by simp,.inr ⟨g,cap,_,rfl,o,setRow_heap _ _ _ _ _ _ e,by omega,q, ?_, ?_⟩⟩
 ·simp only[List.size_toArray,bm,ee,List.length_replicate,List.length_drop];omega
 ·rw[j,ei,Nat.mul_one]
  exact List.take_left' (by simp)
theorem Ez (base d n o:bj)(q:cC fg)(g:bj)(cap:bj)(xs:bp aw)(i:bj)(y:aw)(w:World)(hc:w.cell? ⟨d,7,th⟩=tf (tn q n o))(hl:xs.length<=100000)
  (tW:d<base)(K:aU w base (tn (tf ⟨g,0,th⟩) xs.length cap) xs)(R:∀x∈xs.take i,eP n x=ti)(hi:xs[i]?=tf y)(W:eP n y=tj):
  fj am 190 #[tn (tf ⟨g,0,th⟩) xs.length cap,.func (.func 192) #[] #[tr (tf ⟨d,0,th⟩)]] w (Eu base w (xs.filter (eP n))):=by
 have uv:i<xs.length:=(bo.1 hi).1;have hr:Cq w (tf ⟨g,0,th⟩) xs:=λh0=>by
  obtain⟨g',e,_,_,ua⟩:=K.shape h0;exact⟨g',0,e,λk z t=>by rw[cI];exact ua k z t⟩
 obtain⟨tD,tE,tG,hg,tM⟩:=eU.start K R hi W;have HI:=zH (Ew d n o q (tf ⟨g,0,th⟩) cap xs i y w hc hl hr R hi W);have ub:=zH tD;have uc:=zH tM;clear tM;have tP:=zH tE;obtain⟨i0,ud,ue,ux,vc⟩:=m6 iQ;have vd:((i:aw)== -1)=tj:=cN.2 (by omega);clear K hr R hi W tD tE;go_enter func190,ntmps190
 go_wp2_with (go_at_call 152;refine HI.out.mono ?_;rintro e w1 ⟨rfl,rfl⟩)
 go_loopw [5,6] (λvi vj wr=>∃j:bj,j<=xs.length/\i<j/\vj= Z U (j:aw)/\vi= Z U ((((xs.take j).filter (eP n)).length:bj):aw)/\((xs.take j).filter (eP n)).length<j/\eU wr g cap n xs j/\aE base w wr) (λ_ vj _=>xs.length-(dp vj).toNat)
 case atStart=>exact⟨i+1,by omega,by omega,by go_num,by rw[tP.out],by rw[tP.out];omega,ub.out,aq _ _⟩
 case round=>
  obtain⟨j,hj,vf,rfl,rfl,up,v,hb⟩:=hrel;have tR:wr.cell? ⟨d,7,th⟩=tf (tn q n o):=(hb.cell (p:=⟨d,7,th⟩) tW).trans hc
  by_cases ur:j<xs.length
  ·obtain⟨z,t⟩:∃z,xs[j]?=tf z:=⟨_,ap ur⟩
   have vh:=v.cell t;have A:=zH t;have E:=zH v;clear t v
   by_cases G:eP n z=ti
   ·have f:=zH G
    clear G;have vm:wr.frozen? ⟨g,((xs.take j).filter (eP n)).length,th⟩=tj:=by
     obtain⟨J,h1,_⟩:=E.out;exact de _ _ _ _ _ h1
    obtain⟨u,vp⟩:∃u,wr.cell? ⟨g,((xs.take j).filter (eP n)).length,th⟩=tf u:=by
     obtain⟨J,h1,h2,_⟩:=E.out;rw[bt _ _ _ _ _ _ h1];exact⟨_,n8 (by omega)⟩
    have h:cg (eU (wr.setCell ⟨g,((xs.take j).filter (eP n)).length,th⟩ (Z U z)) g cap n xs (j+1)/\((xs.take (j+1)).filter (eP n)).length=((xs.take j).filter (eP n)).length+1):=
     ⟨E.out.put tG A.out f.out up,by rw[dO A.out,f.out];simp⟩
    go_wp2_with (go_at_call 192;refine(sF _ d n o q _ tR f.out).mono ?_;rintro e w1 ⟨rfl,rfl⟩)
    go_roundw
    case rel=>exact⟨j+1,by omega,by omega,by go_num,by rw[h.out.2];go_num,by rw[h.out.2];omega,h.out.1,hb.setCell (by exact hg) _⟩
    case measure=>simp[dp];omega
   ·have f:cg (eP n z=tj):=by unfold cg;simpa using G
    clear G;have h:cg (eU wr g cap n xs (j+1)/\((xs.take (j+1)).filter (eP n)).length=((xs.take j).filter (eP n)).length):=
     ⟨E.out.skip A.out f.out,by rw[dO A.out,f.out];simp⟩
    go_wp2_with (go_at_call 192;refine(vN _ d n o q _ tR f.out).mono ?_;rintro e w1 ⟨rfl,rfl⟩)
    go_roundw
    case rel=>exact⟨j+1,by omega,by omega,by go_num,by rw[h.out.2],by rw[h.out.2];omega,h.out.1,hb⟩
    case measure=>simp[dp];omega
  ·obtain rfl:j=xs.length:=by omega
   rw[ox (cd _)] at*;obtain⟨J,tS,vq,tU⟩:=v.finish hg tG uc.out (xs.length-(xs.filter (eP n)).length) (by omega);have HC:=zH tS;have HF:=zH tU;have HS:cg (0<xs.length-(xs.filter (eP n)).length):=by unfold cg;omega
   have HT:cg ((xs.filter (eP n)).length+(xs.length-(xs.filter (eP n)).length)<=J.size):=by unfold cg;omega
   have vr:¬cap=(xs.filter (eP n)).length:=by omega
   clear tS tU v
   go_wp2_with (refine nA _ rfl (.tmp 38) 35 3 rfl i0 (Z U 0) gv ud ue rfl rfl g (xs.filter (eP n)).length (xs.length-(xs.filter (eP n)).length) (cap-(xs.filter (eP n)).length) rfl J 3 HC.out HT.out HS.out ?_)
   go_ret;exact⟨_,_,rfl,by have:=HF.out;rwa [ei] at this,below_setRow hb hg _⟩
theorem De (p:aw->ml)(xs:bp aw):(∀x∈xs,p x=ti)\/∃i y,(∀x∈xs.take i,p x=ti)/\xs[i]?=tf y/\p y=tj:=by
 induction xs with
 |nil=>exact .inl (by simp)
 |cons a l ih=>
  by_cases d:p a=ti
  ·rcases ih with h|⟨i,y,e,f,g⟩
   ·exact .inl (by simpa[d] using h)
   ·exact .inr ⟨i+1,y,by simpa[d] using e,by simpa using f,g⟩
  ·exact .inr ⟨0,a,by simp,by simp,by simpa using d⟩
theorem Df (x:Ins)(at_:aw):(iR x at_).length<=2:=by
 unfold iR;repeat' split
 all_goals simp
theorem Dh (c:dP)(at_:bj)(x:Ins)(w:World)(o:dL w w.heap.size c.insA c.ins)(f:c.ins[at_]?=tf x)(hn:c.ins.length<=90000):
  fj am 140 #[tv c.cells,Z U (at_:aw)] w (iT w ((iR x at_).filter (eP c.ins.length))):=by
 obtain⟨nm,tP,tR,tS,tU,rp,tW,ua,ub,uc,ud,insA,q,ins⟩:=c;simp only at o f hn;have E:at_<ins.length:=(bo.1 f).1;have ue:(at_:aw)<(ins.length:aw):=by omega
 obtain⟨b,G,rfl,hb,J⟩:=o (by intro e;rw[e] at E;simp at E);have K:∀W,aE w.heap.size w W->∀j u,x.cells.toList[j]?=tf u->W.cell? ((⟨b,G+at_*13,th⟩:fg).add j)=tf u:=λW hW j u hu=>by
  rw[cU,hW.cell (p:=⟨b,_,th⟩) hb];exact J at_ x f j u hu
 have R:=zH K;have tE:(iR x (at_:aw)).length<=2:=Df _ _;obtain⟨xs,t⟩:=zE (iR x (at_:aw));rw[t] at tE⊢;have tD:=zH t;clear J K f o t;simp only[dP.cells];go_enter func140,ntmps140
 go_wp2_with (first|(refine ay rfl 42 _ rfl _ rfl x.cells _ (R.out _ ((aq _ _).alloc (cd _) _)) cA rfl (by kernel_rfl) ?_)|(go_at_call 191;refine(FM x _ _ (by omega) (by omega)).mono ?_;rintro e d ⟨ao,cap,rfl,v,hbel⟩))
 rw[tD.out] at v⊢;clear tD;have z:d.cell? ⟨w.heap.size,7,th⟩=tf (tn (tf ⟨b,G,th⟩) ins.length q):=by
  rw[hbel.cell (p:=⟨w.heap.size,7,th⟩) (by simp),World.cell?_alloc_new];rfl
 have HD:cg (fj am 190 #[tn ao xs.length cap,.func (.func 192) #[] #[tr (tf ⟨w.heap.size,0,th⟩)]] d (Eu (w.heap.size+1) d (xs.filter (eP ins.length)))):=by
  have A:aU d (w.heap.size+1) (tn ao xs.length cap) xs:=v.mono (by simp);rcases De (eP ins.length) xs with h|⟨i,y,h1,h2,h3⟩
  ·exact Ey _ w.heap.size ins.length q _ ao cap xs d z (by omega) A h
  ·obtain⟨g,rfl,_⟩:=A.shape (by have:=(bo.1 h2).1;omega)
   exact Ez _ w.heap.size ins.length q _ g cap xs i y d z (by omega) (by omega) A h1 h2 h3
 have HB:cg (aE w.heap.size w d):=((aq _ _).alloc (cd _) _).trans (hbel.mono (by simp));clear v hbel z R
 go_wp2_with (go_at_call 190;refine HD.out.mono ?_;rintro e w2 ⟨up,ur,rfl,tG,tM⟩)
 go_ret;exact⟨_,_,rfl,tG.mono (by omega),HB.out.trans (tM.mono (by omega))⟩
theorem BB (c:dP)(x:bj)(w:World)(d:dL w w.heap.size c.insA c.ins)(e:x<c.ins.length)(f:c.ins.length<=90000):
  fj am 140 #[tv c.cells,Z U (x:aw)] w (iT w (ints (dm c.ins x))):=by
 have h:c.ins[x]?=tf c.ins[x]:=ap e;rw[Ar h];exact Dh c x _ w d h f
def iw (w:World)(R n base:bj)(A:bj->Prop)(f:bj->bp bj):Prop:=
 ∃vals:dl cw,(∀(i:bj)(v:cw)(k:bj),vals[i]?=tf v->v.ownBlock=tf k->¬A k)/\vals.size=n/\w.heap[R]?=tf (tA vals 35 (0,0))/\R<base/\(∀i v,vals[i]?=tf v->aU w base v (ints (f i)))/\
  ∀(i j k:bj)(d e:cw),i≠j->vals[i]?=tf d->vals[j]?=tf e->d.ownBlock=tf k->e.ownBlock≠tf k
theorem iw.ext {w w':World}{R n base:bj}{A:bj->Prop}{d:bj->bp bj}{M:bj->Prop}(h:iw w R n base A d)(e:Ext M w w')(f:∀k,k=R\/base<=k->k<w.heap.size->¬M k):iw w' R n base A d:=by
 obtain⟨vals,u,x,j,y,z,E⟩:=h;refine⟨vals,u,x,e.heap j (f R (.inl rfl) (br.1 j).1),y,λi v G=> ?_,E⟩;have o:=z i v G;refine⟨o.1, ?_⟩;rcases o.2 with J|⟨g,cap,K,W,q,t,e4⟩
 ·exact .inl J
 ·exact .inr ⟨g,cap,K,W,q,e.heap t (f g (.inr q) (br.1 t).1),e4⟩
theorem iw.fresh {w:World}{R n base:bj}{A A':bj->Prop}{d:bj->bp bj}(h:iw w R n base A d)(f:∀k,A' k->w.heap.size<=k):iw w R n base A' d:=by
 obtain⟨vals,y,g,j,o,e,q⟩:=h;exact⟨vals,λi v k t u x=>by have:=((e i v t).lt k u).2;have:=f k x;omega,g,j,o,e,q⟩
theorem iw.weaken {w:World}{R n base:bj}{A A':bj->Prop}{d:bj->bp bj}(h:iw w R n base A d)(e:∀k,A' k->A k):iw w R n base A' d:=by
 obtain⟨vals,f,g⟩:=h;exact⟨vals,λi v k j o q=>f i v k j o (e k q),g⟩
theorem iw.app {w y:World}{R n base i x g cap:bj}{q:bj->bp bj}{f:cw}{vals:dl cw}{A:bj->Prop}(ub:∀k,A k->k<w.heap.size)(hA:∀(i:bj)(v:cw)(k:bj),vals[i]?=tf v->v.ownBlock=tf k->¬A k)(uc:vals.size=n)(hR:w.heap[R]?=tf (tA vals 35 (0,0)))(hb:R<base)
  (K:∀i v,vals[i]?=tf v->aU w base v (ints (q i)))(W:∀(i j k:bj)(f vj:cw),i≠j->vals[i]?=tf f->vals[j]?=tf vj->f.ownBlock=tf k->vj.ownBlock≠tf k)
  (hi:vals[i]?=tf f)(hx:Ext (λk=>f.ownBlock=tf k) w y)(tS:aU y base (tn (tf ⟨g,0,th⟩) ((q i).length+1) cap) (ints (q i++[x])))
  (tU:f.ownBlock=tf g\/w.heap.size<=g):
  iw (y.setCell ⟨R,i,th⟩ (tn (tf ⟨g,0,th⟩) ((q i).length+1) cap)) R n base A (λj=>if j=i then q i++[x] else q j):=by
 have ur:R<w.heap.size:=(br.1 hR).1;have ud:¬f.ownBlock=tf R:=λe=>by have:=((K i f hi).lt R e).1;omega
 have ue:=hx.heap hR ud;have tW:Ext (·=R) y (y.setCell ⟨R,i,th⟩ (tn (tf ⟨g,0,th⟩) ((q i).length+1) cap)):=Ext.set1 _ _ _ _;have G:i<vals.size:=(br.1 hi).1;refine⟨_, ?_,by simpa using uc,gi _ _ _ _ _ _ ue,hb,λj v d=> ?_, ?_⟩
 ·intro j v k d hk tD
  rw[gj] at d
  by_cases e:i=j
  ·subst e
   rw[cH rfl,cH G] at d;obtain rfl:=cy d;have z:g=k:=by simpa[eL] using hk
   subst z;rcases tU with o|o
   ·exact hA i f g hi o tD
   ·have:=ub g tD;omega
  ·rw[bw e] at d
   exact hA j v k d hk tD
 ·rw[gj] at d
  by_cases e:i=j
  ·subst e
   rw[cH rfl,cH G] at d;obtain rfl:=cy d
   show aU _ _ _ (ints (if i=i then _ else _))
   rw[cH rfl];refine⟨tS.1, ?_⟩;rcases tS.2 with o|⟨E,tE,tG,J,z,e3,e4⟩
   ·exact .inl o
   ·exact .inr ⟨E,tE,tG,J,z,tW.heap e3 (by omega),e4⟩
  ·rw[bw e] at d
   show aU _ _ _ (ints (if j=i then _ else _))
   rw[bw (λh:j=i=>e h.symm)];have ho:=K j v d;refine⟨ho.1, ?_⟩;rcases ho.2 with o|⟨E,tE,tG,J,z,e3,e4⟩
   ·exact .inl o
   ·have up:¬f.ownBlock=tf E:=λh=>W i j E f v e hi d h (by rw[J];rfl)
    exact .inr ⟨E,tE,tG,J,z,tW.heap (hx.heap e3 up) (by omega),e4⟩
 ·intro a b k va vb tM u t tP tR
  rw[gj] at u t;have ua:∀(j:bj)(v:cw),j≠i->vals[j]?=tf v->v.ownBlock≠tf g:=by
   intro j v hj d h;rcases tU with o|o
   ·exact W i j g f v (λe=>hj e.symm) hi d o h
   ·have:=((K j v d).lt g h).2;omega
  by_cases ea:i=a
  ·subst ea
   rw[cH rfl,cH G] at u;obtain rfl:=cy u;rw[bw tM] at t;have:g=k:=by simpa[eL] using tP
   subst this;exact ua b vb (λe=>tM e.symm) t tR
  ·rw[bw ea] at u
   by_cases eb:i=b
   ·subst eb
    rw[cH rfl,cH G] at t;obtain rfl:=cy t;have:g=k:=by simpa[eL] using tR
    subst this;exact ua a va (λe=>ea e.symm) u tP
   ·rw[bw eb] at t
    exact W a b k va vb tM u t tP tR
def eX (at_:bj)(d:bj->bp bj)(x:bj):bj->bp bj:=λj=>if j=x then d x++[at_] else d j
def gM (d:bp Ins)(e:bj->bp bj)(at_:bj):bj->bp bj:=(dm d at_).foldl (eX at_) e
def aP (d:bp Ins):bj->bp bj:=(gb d.length).foldl (gM d) (λ_=>[])
def BC (w:World)(n:bj)(d:bj->bp bj)(e:Ending)(w':World):Prop:=
 ∃R,e= tB (tn (tf ⟨R,0,th⟩) n n)/\w.heap.size<=R/\iw w' R n (R+1) (λ_=>lj) d/\aE w.heap.size w w'
def GM (d:bp Ins)(R:bj)(e:World)(c:cw)(wr:World):Prop:=
 ∃j:bj,j<=d.length/\c= Z U (j:aw)/\iw wr R d.length (R+1) (λ_=>lj) ((gb j).foldl (gM d) (λ_=>[]))/\(∀i,((gb j).foldl (gM d) (λ_=>[]) i).length<=2*j)/\Ext (λk=>R<=k) e wr
def Gq (d:bp Ins)(R:bj)(f w2:World)(at_:bj)(e:bj->bp bj)(A:bj->Prop)(c:cw)(wr:World):Prop:=
 ∃q:bj,q<=(dm d at_).length/\c= Z U (q:aw)/\iw wr R d.length (R+1) A (((dm d at_).take q).foldl (eX at_) e)/\(∀i,(((dm d at_).take q).foldl (eX at_) e i).length<=(e i).length+q)/\
  Ext (λk=>R<=k) f wr/\∀k,A k->k<wr.heap.size/\wr.heap[k]?=w2.heap[k]?
theorem Di:(am.info? 35).map (λi=>(i.zero,i.size,i.bytes))=tf (tf (tn th 0 0),1,24):=by kernel_rfl
theorem xM (c:dP)(w:World)(ur:dL w w.heap.size c.insA c.ins)(hn:c.ins.length<=90000):
  fj am 103 #[tv c.cells] w (BC w c.ins.length (aP c.ins)):=by
 obtain⟨nm,G,J,K,R,W,tD,tE,tG,tM,tP,insA,tR,ins⟩:=c;simp only at hn ur;simp only[dP.cells];obtain⟨i0,hi,vt,vu,vx⟩:=m6 Di;have vy:=zH ur;clear ur;go_enter func103,ntmps103
 go_wp2_with (at_make;refine iU rfl (.tmp 9) (.tmp 9) 46 rfl 35 i0 (tn th 0 0) underlying46 hi vt vu rfl .i64 .i64 _ _ ins.length rfl rfl rfl rfl (by rw[vx];omega) (by unfold du;omega) ?_)
 obtain⟨N,hN⟩:=zE w.heap.size;obtain⟨g,tS⟩:=zE ((w.alloc (tA #[tm nm,Z U G,tn J K R,tt W,tm tD,Z U tE,tn tG tM tP,tn insA ins.length tR] 38)).alloc (tA (fk ins.length (cv th 0 0)) 35));have we:Ext (λ_=>lj) w g:=by rw[<-tS];exact((Ext.refl _ w).alloc _).alloc _
 have wg:g.heap[N]?=tf (tA #[tm nm,Z U G,tn J K R,tt W,tm tD,Z U tE,tn tG tM tP,tn insA ins.length tR] 38 (0,0)):=by
  rw[<-tS,<-hN,cE _ _ _ (by simp)];exact alloc_at _ _
 have wj:g.heap[N+1]?=tf (tA (fk ins.length (cv th 0 0)) 35 (0,0)):=by
  rw[<-tS,<-hN];have:=alloc_at (w.alloc (tA #[tm nm,Z U G,tn J K R,tt W,tm tD,Z U tE,tn tG tM tP,tn insA ins.length tR] 38)) (tA (fk ins.length (cv th 0 0)) 35)
  rwa [World.size_alloc] at this
 have wk:g.heap.size=N+2:=by rw[<-tS];simp[hN]
 have wl:iw g (N+1) ins.length (N+2) (λ_=>lj) (λ_=>[]):=by
  have q:∀(i:bj)(v:cw),(fk ins.length (cv th 0 0))[i]?=tf v->v=cv th 0 0:=by
   intro i v h;rw[Array.getElem?_replicate] at h
   split at h
   ·exact(cy h).symm
   ·simp at h
  refine⟨_,λ_ _ _ _ _ h=>h,by simp,wj,by omega,λi v h=>by rw[q i v h];exact aU.nil _ _,λi j k f vj _ u _ h3=>by rw[q i f u] at h3;simp[eL] at h3⟩
 rw[tS,hN];have tW:=zH we;have HC:=zH wg;have zp:=zH wl;have HS:=zH wk;clear tS we wg wj wk wl hi vt vu vx
 go_loopw [14] (λc wr=>GM ins (N+1) g c wr) (λc _=>ins.length-(dp c).toNat)
 case atStart=>exact⟨0,cM _,rfl,zp.out,λ_=>by simp,Ext.refl _ _⟩
 case round=>
  obtain⟨j,hj,rfl,o,uv,z⟩:=hrel
  by_cases zr:j<ins.length
  ·have ux:=z.heap HC.out (by omega)
   have d:∀q v,((⟨nm,G,J,K,R,W,tD,tE,tG,tM,tP,insA,tR,ins⟩:dP).cells)[q]?=tf v->wr.cell? ⟨N,q,th⟩=tf v:=λq v h=>by rw[bt _ _ _ _ _ _ ux];exact h
   have k0:wr.cell? ⟨N,0,th⟩=tf (tm nm):=d 0 _ rfl;have k1:wr.cell? ⟨N,1,th⟩=tf (Z U G):=d 1 _ rfl;have k2:wr.cell? ⟨N,2,th⟩=tf (tn J K R):=d 2 _ rfl;have k3:wr.cell? ⟨N,3,th⟩=tf (tt W):=d 3 _ rfl;have k4:wr.cell? ⟨N,4,th⟩=tf (tm tD):=d 4 _ rfl;have k5:wr.cell? ⟨N,5,th⟩=tf (Z U tE):=d 5 _ rfl;have k6:wr.cell? ⟨N,6,th⟩=tf (tn tG tM tP):=d 6 _ rfl;have k7:wr.cell? ⟨N,7,th⟩=tf (tn insA ins.length tR):=d 7 _ rfl;have ws:dL wr wr.heap.size insA ins:=((vy.out.ext tW.out (cd _) (λ_ _ _ h=>h)).ext z (by have:=tW.out.size;omega) (λa vc ha h=>by
    obtain⟨b,A4,e,A5,_⟩:=vy.out vc;rw[ha] at e;obtain rfl:=cy e;simp only at h;omega)).mono (by have:=z.size;have:=tW.out.size;omega)
   have xf:=zH (BB ⟨nm,G,J,K,R,W,tD,tE,tG,tM,tP,insA,tR,ins⟩ j wr ws zr hn);have xj:=zH z;have zs:=zH o;have xl:=zH uv;have A6:(j:aw)<(ins.length:aw):=by omega
   clear z o uv ux d ws
   go_wp2_with (go_at_call 140;refine xf.out.mono ?_;rintro e w2 ⟨zv,An,rfl,ua,xo⟩)
   obtain⟨t,vd⟩:∃t,t=(gb j).foldl (gM ins) (λ_=>[]):=⟨_,rfl⟩
   obtain⟨A,hA⟩:∃A:bj->Prop,A=λk=>(cv zv (ints (dm ins j)).length An).ownBlock=tf k:=⟨_,rfl⟩
   have vf:Ext (λ_=>lj) wr w2:=Ext.of_below_size xo;have At:cg (Gq ins (N+1) g w2 j t A (Z U 0) w2):=by
    refine⟨0,cM _,rfl, ?_,λi=>by simp,xj.out.trans vf (λ_ h=>h.elim),λk d=> ?_⟩
    ·rw[vd]
     exact(zs.out.fresh (A':=A) (λk d=>by rw[hA] at d;exact(ua.lt k d).1)).ext vf (λ_ _ _ h=>h)
    ·rw[hA] at d;exact⟨(ua.lt k d).2,rfl⟩
   have xp:=zH ua;have HA:=zH hA;have vh:=zH vd;clear ua xo vf hA vd k0 k1 k2 k3 k4 k5 k6 k7 xf
   go_loopw [21] (λc Ax=>Gq ins (N+1) g w2 j t A c Ax) (λc _=>(dm ins j).length-(dp c).toNat)
   case atStart=>exact At.out
   case round=>
    obtain⟨q,hq,rfl,o,E,ub,uc⟩:=hrel;have xr:(ints (dm ins j)).length=(dm ins j).length:=by simp[ints]
    by_cases AD:q<(dm ins j).length
    ·obtain⟨y,hy⟩:∃y,(dm ins j)[q]?=tf y:=⟨_,ap AD⟩
     have Bk:y<ins.length:=rf (ci hy);obtain⟨g2,rfl,Bm,Bs,xt⟩:=xp.out.shape (by omega);have hA2:A g2:=by rw[HA.out];rfl
     have xF:=uc g2 hA2;have By:wr.cell? ⟨g2,q,th⟩=tf (Z U (y:aw)):=by rw[World.cell?_of_block (w:=w2) xF.2];exact xt q y (by simp[ints,hy])
     obtain⟨vals,xT,ya,ud,BE,ue,yb⟩:=o;obtain⟨f,up⟩:∃f,vals[y]?=tf f:=⟨_,n8 (by omega)⟩
     have ux:wr.cell? ⟨N+1,y,th⟩=tf f:=by rw[bt _ _ _ _ _ _ ud];exact up
     have BT:(y:aw)<(ins.length:aw):=by omega
     have BY:(q:aw)<((dm ins j).length:aw):=by omega
     have B4:q<2:=by have:=jZ ins j;omega
     obtain⟨rs,vm⟩:∃rs,rs=((dm ins j).take q).foldl (eX j) t:=⟨_,rfl⟩
     rw[<-vm] at ue E;have yd:((dm ins j).take (q+1)).foldl (eX j) t=eX j rs y:=by rw[kA,hy,vm,lp];rfl
     have ye:=ue y f up;have AE:(ints (rs y)).length=(rs y).length:=by simp[ints]
     have B5:(rs y).length<=180002:=by have u:=E y;have h2:=xl.out y;rw[<-vh.out] at h2;omega
     obtain⟨j0,AF,AH,AI,AK⟩:=m6 iQ;rw[xr];have yi:=zH xT;have yk:=zH ud;have AM:=zH ue;have AN:=zH yb;have vp:=zH up;have vq:=zH ye;have yp:=zH yd;have AS:=zH E;have AT:=zH ub;have yq:=zH uc;have AW:=zH ya;have B6:N+1<wr.heap.size:=(br.1 ud).1;clear xT ud ue yb up ye yd E ub uc xt xF vm ya
     go_wp2_with (at_builtin;refine sn _ rfl _ _ 35 rfl (N+2) 3 j0 (Z U 0) 1 8 gv AF AH AI AK rfl (by decide) f (ints (rs y)).length _ rfl (ownsRow_below vq.out ((aq wr.heap.size wr).alloc (cd _) _)) ⟨wr.heap.size,0,th⟩ 1 1 [Z U (j:aw)] rfl rfl (lF _ _ _) (by simp[cn]) (by decide) ?c1 ?c2 ?c3 _ rfl ?_)
     case c1=>unfold du;omega
     case c2=>omega
     case c3=>rw[World.size_alloc];omega
     intro g3 yr w4 yv yy yW A1;have vc:f.ownBlock≠tf (N+1):=λe=>by have:=(vq.out.lt _ e).1;omega
     have tU:Ext (λk=>f.ownBlock=tf k) wr w4:=((Ext.refl _ wr).alloc _).trans (Ext.of_grown (M:=λk=>f.ownBlock=tf k) yy (λk d=> .inl d)) (λj hj=> .inl hj);have vr:=tU.heap yk.out vc;have B7:w4.cell? ⟨N+1,y,th⟩=tf f:=by rw[bt _ _ _ _ _ _ vr];exact vp.out
     have B8:w4.frozen? ⟨N+1,y,th⟩=tj:=de _ _ _ _ _ vr;have zc:aU w4 (N+2) (tn (tf ⟨g3,0,th⟩) ((rs y).length+1) yr) (ints (rs y++[j])):=by
      have e:ints (rs y++[j])=ints (rs y)++[(j:aw)]:=by simp[ints]
      rw[e];refine aU.app ?_;simpa[AE] using yv
     have zd:=iw.app (x:=j) (i:=y) (λk d=>(yq.out k d).1) yi.out AW.out yk.out (by omega) AM.out AN.out vp.out tU zc (yW.imp id (λh=>by rw[h];simp));have zj:∀k,f.ownBlock=tf k->N+2<=k:=λk h=>(vq.out.lt k h).1;have HR:cg (Gq ins (N+1) g w2 j t A (Z U ((q:aw)+1)) (w4.setCell ⟨N+1,y,th⟩ (tn (tf ⟨g3,0,th⟩) ((rs y).length+1) yr))):=by
      refine⟨q+1,by omega,by simp,by rw[yp.out];exact zd,λi=> ?_, ?_,λk d=> ?_⟩
      ·rw[yp.out]
       have u:=AS.out i;unfold eX
       by_cases e:i=y
       ·subst e;rw[cH rfl];simp;omega
       ·rw[bw e];omega
      ·exact(AT.out.trans tU (λk d=> .inl (by have:=zj k d;omega))).trans (Ext.set1 _ _ _ _) (λk d=> .inl (by omega))
      ·have u:=yq.out k d
       have h2:¬f.ownBlock=tf k:=λh=>yi.out y f k vp.out h d;have h3:=tU.size;refine⟨by rw[World.size_setCell];omega, ?_⟩;have h4:k≠N+1:=by
        intro e;subst e;have:=(xp.out.lt (N+1) (by have h5:=d;rw[HA.out] at h5;exact h5)).1;have:=xj.out.size;have:=HS.out;omega
       rw[sq _ _ _ _ (by exact h4),tU.block k u.1 h2];exact u.2
     clear yv yy yW A1 tU zc zd zj vr;go_wp2;exact⟨HR.out,by simp[dp];omega⟩
    ·have A2:q=(dm ins j).length:=by omega
     subst A2;rw[cL] at o E;rw[xr];have hst:(gb (j+1)).foldl (gM ins) (λ_=>[])=(dm ins j).foldl (eX j) t:=by rw[lE,lp,<-vh.out];rfl
     have hR:GM ins (N+1) g (Z U ((j:aw)+1)) wr:=by
      refine⟨j+1,by omega,by simp,by rw[hst];exact o.weaken (λ_ h=>h.elim),λi=> ?_,ub⟩;rw[hst];have u:=E i;have h2:=xl.out i;rw[<-vh.out] at h2;have:=jZ ins j;omega
     have HR:=zH hR;clear hR o E ub uc hst;go_wp2;exact⟨HR.out,by simp[dp];omega⟩
  ·have A3:j=ins.length:=by omega
   subst A3;have HP:cg (BC w ins.length (aP ins) (tB (tn (tf ⟨N+1,0,th⟩) ins.length ins.length)) wr):=
    ⟨N+1,rfl,by omega,o,((tW.out.mono (M':=λk=>w.heap.size<=k) (λ_ h=>h.elim)).trans z (λk d=> .inl (by omega))).below (cd _) (λ_ h=>h)⟩
   clear o uv z;go_wp2;go_ret;exact HP.out
theorem qp (f:bp Ins)(at_:bj)(i:bj):∀(e:bp bj)(d:bj->bp bj),(e.foldl (eX at_) d i).length<=(d i).length+e.length
 |[],_=>by simp
 |y::r,d=>by
  have h:=qp f at_ i r (eX at_ d y);have g:(eX at_ d y i).length<=(d i).length+1:=by unfold eX;split<;>simp_all
  simp only[my,eh];omega
theorem xN (d:bp Ins)(i:bj):(aP d i).length<=2*d.length:=by
 have f:∀n,(((gb n).foldl (gM d) (λ_=>[])) i).length<=2*n:=by
  intro n
  induction n with
  |zero=>simp
  |succ n ih=>
   rw[lE,lp];simp only[my,List.foldl_nil];have h:=qp d n i (dm d n) ((gb n).foldl (gM d) (λ_=>[]));have g:=jZ d n;have e:∀X,gM d X n i=(dm d n).foldl (eX n) X i:=λ_=>rfl;rw[e];omega
 exact f d.length
theorem kK (a k:bj)(z:bj):∀(e:bp bj)(d:bj->bp bj),z∈e.foldl (eX a) d k↔z∈d k\/(z=a/\k∈e)
 |[],_=>by simp
 |y::r,d=>by
  rw[my,kK a k z r];unfold eX
  by_cases h:k=y
  ·subst h;simp;grind
  ·simp[h]
theorem gp (d:bp Ins)(z k:bj):z∈aP d k↔z<d.length/\k∈dm d z:=by
 have g:∀n,z∈((gb n).foldl (gM d) (λ_=>[])) k↔z<n/\k∈dm d z:=by
  intro n
  induction n with
  |zero=>simp
  |succ n ih=>
   rw[lE,lp];simp only[my,List.foldl_nil];have e:∀X,gM d X n k=(dm d n).foldl (eX n) X k:=λ_=>rfl;rw[e,kK,ih];constructor
   ·rintro(⟨h,f⟩|⟨rfl,f⟩)
    ·exact⟨by omega,f⟩
    ·exact⟨by omega,f⟩
   ·rintro⟨h,f⟩
    by_cases e:z=n
    ·exact .inr ⟨e,by rw[<-e];exact f⟩
    ·exact .inl ⟨by omega,f⟩
 exact g d.length
inductive qw (ins:bp Ins) (v:bj):bj->Prop
 |read {x:bj} {i:Ins}:ins[x]?=tf i->(v:aw)∈readsOf i->qw ins v x
 |pass {x y:bj} {i:Ins}:ins[x]?=tf i->¬((az i).2=ti/\(az i).1=(v:aw))->y∈dm ins x->qw ins v y->qw ins v x
def eD (d:bp Ins)(v x:bj):Prop:=∃y,y∈dm d x/\qw d v y
def Fits (e:bp Ins)(d:bj):Prop:=∀i∈e,(∀r∈readsOf i,0<=r/\r<(d:aw))/\((az i).2=ti->0<=(az i).1/\(az i).1<(d:aw))
def zF (f:bj->bj)(v:bj):bj->bj:=λx=>if x=v/64 then f (v/64)&&&(18446744073709551615-2^(v%64)) else f x
def qM (f:bj->bj)(v:bj):bj->bj:=λx=>if x=v/64 then f (v/64)|||2^(v%64) else f x
def stepW (i:Ins)(f:bj->bj):bj->bj:=((readsOf i).map Int.toNat).foldl qM (if (az i).2=ti then zF f (az i).1.toNat else f)
theorem Cr {a b:bj}(d:a<18446744073709551616)(hb:b<18446744073709551616):a|||b<18446744073709551616:=
 Nat.or_lt_two_pow (n:=64) d hb
theorem FN {f:bj->bj}(hf:∀i,f i<18446744073709551616)(v:bj):∀i,qM f v i<18446744073709551616:=by
 intro i;unfold qM
 split
 ·exact Cr (hf _) (lh (pT _ (by decide)))
 ·exact hf i
theorem zG {f:bj->bj}(hf:∀i,f i<18446744073709551616)(v:bj):∀i,zF f v i<18446744073709551616:=by
 intro i;unfold zF
 split
 ·exact ld Nat.and_le_left (hf _)
 ·exact hf i
theorem sG:∀(l:bp bj){f:bj->bj}(_:∀i,f i<18446744073709551616),∀i,l.foldl qM f i<18446744073709551616
 |[],_,hf=>hf
 |v::l,_,hf=>sG l (FN hf v)
theorem EA {f g:bj->bj}(hf:∀i,f i<18446744073709551616)(d:∀i,g i<18446744073709551616)(n:bj):∀i,gW f g n i<18446744073709551616:=by
 intro i;unfold gW
 split
 ·exact Cr (hf i) (d i)
 ·exact hf i
theorem ll (i:Ins){f:bj->bj}(hf:∀i,f i<18446744073709551616):∀j,stepW i f j<18446744073709551616:=by
 unfold stepW;refine sG _ ?_
 split
 ·exact zG hf _
 ·exact hf
theorem EB (f:bj->bj)(v u:bj):aZ (qM f v) u=(aZ f u||decide (u=v)):=FL f v u
theorem Dj (f:bj->bj)(v u:bj):aZ (zF f v) u=(aZ f u&&decide (u≠v)):=Et f v u
theorem vO (u:bj):∀(l:bp bj)(f:bj->bj),aZ (l.foldl qM f) u=(aZ f u||decide (u∈l))
 |[],f=>by simp
 |v::l,f=>by
  rw[my,vO u l,EB]
  by_cases h:u=v
  ·subst h;simp
  ·simp[h]
theorem oW (i:Ins)(f:bj->bj)(u:bj):aZ (stepW i f) u=ti↔u∈(readsOf i).map Int.toNat\/(aZ f u=ti/\¬((az i).2=ti/\u=(az i).1.toNat)):=by
 unfold stepW;rw[vO]
 by_cases h:(az i).2=ti
 ·rw[cH h,Dj];simp[h];exact Or.comm
 ·rw[bw h];simp[h];exact Or.comm
theorem zI {f g:bj->bj}{v:bj}(h:f (v/64)=g (v/64)):aZ f v=aZ g v:=by unfold aZ;rw[h]
theorem zJ {x r:bj}(f:x<18446744073709551616)(g:r<18446744073709551616):BA x r=ti↔r|||x≠r:=by
 unfold BA;have o:18446744073709551615-r=2^64-(r+1):=by omega
 have d:∀j,(x&&&(18446744073709551615-r)).testBit j=(x.testBit j&& !r.testBit j):=by
  intro j;rw[rI,o,td (show r<2^64 from g)]
  by_cases q:j<64
  ·simp[q]
  ·have:x.testBit j=tj:=Nat.testBit_lt_two_pow (cD (show x<2^64 from f) (Nat.pow_le_pow_right (by decide) (by omega)))
   simp[this]
 rw[oe];refine Iff.intro (λh e=>h ?_) (λh e=>h ?_)
 rotate_left
 ·apply pn
  intro j;have:=d j;rw[e,Nat.zero_testBit] at this;rw[ly]
  revert this
  cases x.testBit j<;>cases r.testBit j<;>simp
 ·apply pn
  intro j;rw[d j,Nat.zero_testBit];have:(r|||x).testBit j=r.testBit j:=by rw[e]
  rw[ly] at this
  revert this
  cases x.testBit j<;>cases r.testBit j<;>simp
theorem mW {f g:bj->bj}(hf:∀i,f i<18446744073709551616)(d:∀i,g i<18446744073709551616)(n:bj):eB f g n=tj↔∀i,i<n->f i|||g i=f i:=by
 unfold eB;rw[j8];constructor
 ·intro h i hi
  have:=h i (by simpa using hi);rw[zJ (d i) (hf i)] at this;exact Classical.not_not.1 this
 ·intro h i hi
  rw[zJ (d i) (hf i)];exact not_not_intro (h i (by simpa using hi))
theorem BD {f g:bj->bj}(hf:∀i,f i<18446744073709551616)(d:∀i,g i<18446744073709551616){n:bj}(h:eB f g n=tj):gW f g n=f:=by
 rw[mW hf d] at h
 funext i
 unfold gW
 split
 ·rename_i hi;exact h i hi
 ·rfl
theorem Dk {f g:bj->bj}{n v:bj}(h:aZ (gW f g n) v=ti):aZ f v=ti\/aZ g v=ti:=by
 unfold aZ gW at h
 split at h
 ·rw[ly] at h;simpa[aZ] using h
 ·exact .inl h
def sH (n:bj)(f:bj->bj):bj:=((gb n).map f).sum
theorem lQ (n:bj)(f:bj->bj):sH (n+1) f=sH n f+f n:=by unfold sH;rw[lE,et,qv];simp
theorem qX:∀(n:bj)(f g:bj->bj),(∀i,i<n->f i<=g i)->sH n f<=sH n g
 |0,_,_,_=>cd _
 |n+1,f,g,h=>by rw[lQ,lQ];exact Nat.add_le_add (qX n f g λi hi=>h i (by omega)) (h n (by omega))
theorem xO:∀(n:bj)(f g:bj->bj)(j:bj),(∀i,i<n->f i<=g i)->j<n->f j<g j->sH n f<sH n g
 |0,_,_,_,_,o,_=>by omega
 |n+1,f,g,j,h,o,d=>by
  rw[lQ,lQ]
  by_cases e:j=n
  ·subst e;exact Nat.add_lt_add_of_le_of_lt (qX _ f g λi hi=>h i (by omega)) d
  ·exact Nat.add_lt_add_of_lt_of_le (xO n f g j (λi hi=>h i (by omega)) (by omega) d) (h n (by omega))
def bM (n k:bj)(b:bj->bj->bj):bj:=sH n λx=>sH k λi=>18446744073709551616-b x i
def jB (b:bj->bj->bj)(x:bj)(g:bj->bj)(k:bj):bj->bj->bj:=λy=>if y=x then gW (b x) g k else b y
theorem Dl {n k x:bj}{b:bj->bj->bj}{g:bj->bj}(hb:∀y i,b y i<18446744073709551616)(o:∀i,g i<18446744073709551616)(q:x<n):
  bM n k (jB b x g k)<=bM n k b/\(eB (b x) g k=ti->bM n k (jB b x g k)<bM n k b):=by
 have d:∀y i,b y i<=jB b x g k y i:=by
  intro y i;unfold jB
  split
  ·rename_i e;subst e;unfold gW;split
   ·exact Nat.left_le_or
   ·exact cd _
  ·exact cd _
 have f:∀y,sH k (λi=>18446744073709551616-jB b x g k y i)<=sH k (λi=>18446744073709551616-b y i):=λy=>qX _ _ _ λi _=>by have:=d y i;omega
 refine⟨qX _ _ _ λy _=>f y,λh=>xO _ _ _ x (λy _=>f y) q ?_⟩;have t:¬∀i,i<k->b x i|||g i=b x i:=by rw[<-mW (hb x) o,h];simp
 obtain⟨i,u⟩:=Classical.not_forall.1 t;obtain⟨hi,A⟩:=Classical.not_imp.1 u;refine xO _ _ _ i (λj _=>by have:=d x j;omega) hi ?_;have v:jB b x g k x i=b x i|||g i:=by unfold jB gW;rw[cH rfl,cH hi]
 have z:=d x i;have E:=hb x i;rw[v] at z⊢;omega
def jR (d:bp Ins)(b:bj->bj->bj):Prop:=∀x v,x<d.length->aZ (b x) v=ti->eD d v x
theorem sI {d:bp Ins}{j y v:bj}{i:Ins}{b:bj->bj->bj}(hf:Fits d j)(o:jR d b)(f:d[y]?=tf i)(h:aZ (stepW i (b y)) v=ti):qw d v y:=by
 have q:=hf i (ci f);rw[oW] at h;rcases h with h|⟨t,u⟩
 ·obtain⟨r,g,e⟩:=fL.1 h
  have:=q.1 r g;exact .read f (by rw[<-e,Int.toNat_of_nonneg this.1];exact g)
 ·obtain⟨z,x,A⟩:=o y v (bo.1 f).1 t
  refine .pass f (λ⟨E,h4⟩=>u ⟨E, ?_⟩) x A;rw[h4];rfl
theorem BF {d:bp Ins}{o k x y:bj}{i:Ins}{b:bj->bj->bj}(hf:Fits d o)(f:jR d b)(q:d[y]?=tf i)(t:x∈aP d y){g:bj->bj->bj}(u:jR d g):jR d (jB b x (stepW i (g y)) k):=by
 intro z v j h;unfold jB at h
 split at h
 ·rename_i e
  subst e;rcases Dk h with h|h
  ·exact f _ v j h
  ·exact⟨y,((gp d z y).1 t).2,sI hf u q h⟩
 ·exact f z v j h
theorem Gr {d:bp Ins}{f k:bj}(hk:f<=64*k)(hf:Fits d f){b a:bj->bj->bj}(A:jR d b)
  (R:∀y i,d[y]?=tf i->∀j,j<k->a y j=stepW i (b y) j)
  (E:∀y x,y<d.length->x∈aP d y->∀j,j<k->b x j|||a y j=b x j):
  ∀x v,x<d.length->v<f->(aZ (b x) v=ti↔eD d v x)/\(aZ (a x) v=ti↔qw d v x):=by
 have ev:∀y i v,d[y]?=tf i->v<f->aZ (a y) v=aZ (stepW i (b y)) v:=λy i v t e=>zI (R y i t _ (by omega));have G:∀v x,qw d v x->v<f->aZ (a x) v=ti:=by
  intro v x h
  induction h with
  |read g u=>
   intro e;rw[ev _ _ _ g e,oW];exact .inl (fL.2 ⟨_,u,by simp⟩)
  |@pass x y i g u J h4 ih=>
   intro e;rw[ev _ _ _ g e,oW]
   right
   have W:=hf i (ci g);refine⟨?_,λ⟨K,h6⟩=>u ⟨K,by have:=(W.2 K).1;omega⟩⟩;have z:=E y x (rf J) ((gp d x y).2 ⟨(bo.1 g).1,J⟩) (v/64) (by omega);have o:=ih e;unfold aZ at o⊢;rw[<-z,ly,o];simp
 have tD:∀x v,x<d.length->v<f->eD d v x->aZ (b x) v=ti:=by
  rintro x v q e ⟨y,t,tE⟩;have z:=E y x (rf t) ((gp d x y).2 ⟨q,t⟩) (v/64) (by omega);have o:=G v y tE e;unfold aZ at o⊢;rw[<-z,ly,o];simp
 intro x v q e;refine⟨⟨A x v q,tD x v q e⟩,⟨λh=> ?_,λh=>G v x h e⟩⟩;obtain⟨i,hi⟩:∃i,d[x]?=tf i:=⟨_,ap q⟩
 rw[ev x i v hi e] at h;exact sI hf A hi h
theorem vP:(am.info? 245).map (λi=>(i.zero,i.size,i.bytes))=tf (tf (.int .u64 0),1,8):=by kernel_rfl
theorem xP:(am.info? 199).map (λi=>(i.zero,i.size,i.bytes))=tf (tf (tn th 0 0),1,24):=by kernel_rfl
def dK (n k R j:bj):dl cw:=((gb n).map λi=>if i<j then cv (tf ⟨R+1+i,0,th⟩) k k else tn th 0 0).toArray
theorem sJ (n:bj):(ju n (eS .u64 0)).toArray=di n (λ_=>0):=by
 apply pN;intro j
 by_cases d:j<n
 ·rw[mH _ d];simp[d]
 ·rw[fY (by simp;omega),fY (by rw[lg];omega)]
theorem gq (n k R j:bj):(dK n k R j).size=n:=by simp[dK]
theorem dR {n i:bj}(k R j:bj)(h:i<n):(dK n k R j)[i]?=tf (if i<j then cv (tf ⟨R+1+i,0,th⟩) k k else tn th 0 0):=by
 simp[dK,h]
theorem zM {n k R j:bj}(e:j<n):(dK n k R j).setIfInBounds j (tn (tf ⟨R+1+j,0,th⟩) k k)=dK n k R (j+1):=by
 apply pN;intro i;rw[gj]
 by_cases hi:i<n
 ·rw[dR _ _ _ hi,dR _ _ _ hi]
  by_cases h:j=i
  ·subst h;simp[gq,e]
  ·rw[bw h]
   by_cases d:i<j
   ·rw[cH d,cH (by omega)]
   ·rw[bw d,bw (by omega)]
 ·rw[fY (by rw[gq];omega),fY (by rw[gq];omega),bw (by omega)]
def EC (w:World)(n k R:bj)(c:cw)(wr:World):Prop:=
 ∃j:bj,j<=n/\c= Z U (j:aw)/\wr.heap.size=R+1+j/\wr.heap[R]?=tf (tA (dK n k R j) 199 (0,0))/\(∀i,i<j->wr.heap[R+1+i]?=tf (tA (di k (λ_=>0)) 245 (0,0)))/\aE R w wr
def sK (w:World)(n k R:bj)(e:Ending)(w':World):Prop:=
 e= tB (tn (tf ⟨R,0,th⟩) n n)/\w'.heap[R]?=tf (tA (dK n k R n) 199 (0,0))/\(∀i,i<n->w'.heap[R+1+i]?=tf (tA (di k (λ_=>0)) 245 (0,0)))/\w'.heap.size=R+1+n/\aE R w w'
theorem sM (w:World)(n d:bj)(hn:n<=90000)(u:d<=90000):
  fj am 102 #[Z U (n:aw),Z U (d:aw)] w (sK w n ((d+63)/64) w.heap.size):=by
 obtain⟨K,hi,W,tD,tE⟩:=m6 xP;obtain⟨j0,hj,tG,tM,tP⟩:=m6 vP;obtain⟨R,o⟩:=zE w.heap.size;go_enter func102,ntmps102
 go_wp2_with (at_make;refine iU rfl (.tmp 7) (.tmp 7) 193 rfl 199 K (tn th 0 0) underlying193 hi W tD rfl .i64 .i64 _ _ n rfl rfl rfl rfl (by rw[tE];omega) (by unfold du;omega) ?_)
 obtain⟨W1,q⟩:=zE (w.alloc (tA (fk n (cv th 0 0)) 199));have v:=ik q o;have tR:W1.heap.size=R+1:=by rw[<-q];simp[o]
 have x:W1.heap[R]?=tf (tA (dK n ((d+63)/64) R 0) 199 (0,0)):=by
  have e:fk n (cv th 0 0)=dK n ((d+63)/64) R 0:=by
   apply pN;intro i
   by_cases hi:i<n
   ·rw[dR _ _ _ hi];simp[hi]
   ·rw[fY (by simp;omega),fY (by rw[gq];omega)]
  rw[<-e,<-q,<-o];exact alloc_at _ _
 rw[q]
 try rw[o]
 have H0:cg (EC w n ((d+63)/64) R (Z U 0) W1):=⟨0,cM _,rfl,by omega,x,λi h=>by omega,v⟩
 clear q v tR x
 go_loopw [11] (λc wr=>EC w n ((d+63)/64) R c wr) (λc _=>n-(dp c).toNat)
 case atStart=>exact H0.out
 case round=>
  obtain⟨j,ua,rfl,g,f,t,hb⟩:=hrel
  by_cases y:j<n
  ·obtain⟨k,u⟩:∃k,k=(d+63)/64:=⟨_,rfl⟩
   have z:((d:aw)+63)/64=(k:aw):=by omega
   have ub:k<=2000:=by omega
   have A:=zH z;rw[<-u] at f t;have c1:wr.cell? ⟨R,j,th⟩=tf (tn th 0 0):=by rw[bt _ _ _ _ _ _ f,dR _ _ _ y];simp
   have c2:wr.frozen? ⟨R,j,th⟩=tj:=de _ _ _ _ _ f;have uc:(j:aw)<(n:aw):=by omega
   have ud:R<wr.heap.size:=by omega
   have HS:cg (EC w n ((d+63)/64) R (Z U ((j:aw)+1)) ((wr.setCell ⟨R,j,th⟩ (tn (tf ⟨wr.heap.size,0,th⟩) k k)).alloc (tA (fk k (eS .u64 0)) 245))):=by
    rw[<-u];have tS:Ext (·=R) wr (wr.setCell ⟨R,j,th⟩ (tn (tf ⟨wr.heap.size,0,th⟩) k k)):=Ext.set1 _ _ _ _;have E:Ext (λ_=>lj) (wr.setCell ⟨R,j,th⟩ (tn (tf ⟨wr.heap.size,0,th⟩) k k)) ((wr.setCell ⟨R,j,th⟩ (tn (tf ⟨wr.heap.size,0,th⟩) k k)).alloc (tA (fk k (eS .u64 0)) 245)):=(Ext.refl _ _).alloc _;refine⟨j+1,by omega,by simp,by rw[World.size_alloc,World.size_setCell];omega, ?_,λi hi=> ?_, ?_⟩
    ·refine E.heap ?_ (λh=>h)
     rw[gi _ _ _ _ _ _ f,g,zM y]
    ·by_cases tU:i<j
     ·exact E.heap (tS.heap (t i tU) (by omega)) (λh=>h)
     ·have:i=j:=by omega
      subst this;have G:=alloc_at (wr.setCell ⟨R,i,th⟩ (tn (tf ⟨wr.heap.size,0,th⟩) k k)) (tA (fk k (eS .u64 0)) 245);rw[World.size_setCell,g] at G;rw[<-sJ,List.toArray_replicate,<-G,g]
    ·exact(hb.setCell (by show R<=R;omega) _).alloc (by rw[World.size_setCell];omega) _
   clear f t hb u z g
   go_wp2_with (at_make;refine iU rfl (.tmp 18) (.tmp 18) 199 rfl 245 j0 (.int .u64 0) qn hj tG tM rfl .i64 .i64 _ _ k rfl rfl A.out A.out (by rw[tP];omega) (by unfold du;omega) ?_)
   exact⟨HS.out,by simp[dp];omega⟩
  ·have tW:j=n:=by omega
   subst tW;have J:cg (sK w j ((d+63)/64) R (tB (tn (tf ⟨R,0,th⟩) j j)) wr):=⟨rfl,f,t,g,hb⟩
   clear f t hb g;go_wp2;go_ret
   first|exact J.out|(rw[o];exact J.out)
theorem sN (w:World)(B n cp:bj)(f:bj->bj)(h:bP w B n f)(hn:n<=90000):
  fj am 141 #[tn (tf ⟨B,0,th⟩) n cp] w λe w'=>∃g cap,e= tB (tn (tf ⟨g,0,th⟩) n cap)/\w.heap.size<=g/\bP w' g n f/\aE w.heap.size w w':=by
 obtain⟨J,d,K,R,W⟩:=m6 vP;have q:∀(w:World)(a:cC fg)(n c o t:bj),(binOp .eql 199 (tn a n c) (tn th o t)).run am w= .ok (tt a.isNone) w:=λw a n c o t=>te w _ _ a n c o t qn;have A:=zH h;clear h;go_enter func141,ntmps141
 go_wp2_with (at_builtin;refine wpList_append_own _ rfl _ _ 199 rfl w.heap.size 245 J (.int .u64 0) 1 8 qn d K R W rfl (by decide) _ _ _ rfl (World.ownsRow_made w #[] 0 (cd _) (cM _) rfl) ⟨B,0,th⟩ n cp ((gb n).map λi=>eS .u64 (f i:aw)) rfl ?qc1 ?qc2 ?qc3 ?qc4 ?qc5 ?qc6 ?_)
 case qc1=>simp
 case qc2=>
  intro j u d;have y:j<n:=by have:=(bo.1 d).1;simpa using this
  rw[cU,cI];refine Lib.cell?_alloc_some _ ?_;rw[A.out.cell y];simpa[y] using d
 case qc3=>intro u hu;obtain⟨x,_,rfl⟩:=fL.1 hu;rfl
 case qc4=>unfold du;omega
 case qc5=>omega
 case qc6=>simp
 intro v' z tD tE E;go_wp2;go_ret;have G:z.ownsRow w.heap.size 245 1 v' n ((gb n).map λi=>eS .u64 (f i:aw)):=by simpa using tD
 have hbel:aE w.heap.size w z:=((aq _ w).alloc (cd _) _).grown tE (by simp) (by intro k hk;simp[eL] at hk;omega);rcases G.2 with⟨v,_⟩|⟨g,cap,tG,v,e2,_⟩
 ·exact fz v (by first|exact E|(intro e;exact fz (E.1 e).1 (by simp)))
 ·subst v
  exact⟨g,cap,rfl,e2,bP.of_owns G,hbel⟩
def gu (c:dP)(d RB:bj):dl cw:=#[tm c.nm,Z U c.par,tn c.varsA c.nvars c.varsC,tt c.rp,tm c.rto,Z U c.rcl,tn c.fromA c.nfrom c.fromC,tn c.insA c.ins.length c.insC,tn (tf ⟨d,0,th⟩) c.ins.length c.ins.length,tn (tf ⟨RB,0,th⟩) c.ins.length c.ins.length]
def Dm (T d RB n g:bj):Prop:=g=T\/g=d\/(RB<=g/\g<=RB+n)
structure eY (w:World)(T RA RB k:bj)(c:dP)(a b:bj->bj->bj):Prop where
 tab:w.heap[T]?=tf (tA (gu c RA RB) 196 (0,0))
 ahead:∃cur,w.heap[RA]?=tf (tA cur 199 (0,0))/\cur.size=c.ins.length/\∀x,x<c.ins.length->∃g cp,cur[x]?=tf (tn (tf ⟨g,0,th⟩) k cp)/\¬Dm T RA RB c.ins.length g/\bP w g k (a x)
 behind:w.heap[RB]?=tf (tA (dK c.ins.length k RB c.ins.length) 199 (0,0))
 words:∀x,x<c.ins.length->bP w (RB+1+x) k (b x)
 s1:T≠RA
 s2:¬(RB<=T/\T<=RB+c.ins.length)
 s3:¬(RB<=RA/\RA<=RB+c.ins.length)
theorem eY.keep {w w':World}{T o RB k:bj}{c:dP}{a b:bj->bj->bj}{M:bj->Prop}(h:eY w T o RB k c a b)(d:Ext M w w')(e:∀j,¬M j):eY w' T o RB k c a b:=by
 obtain⟨q,t,u,v⟩:=h.ahead;exact⟨d.heap h.tab (e _),⟨q,d.heap t (e _),u,λx f=>let ⟨g,cp,a,b,c⟩:=v x f;⟨g,cp,a,b,c.ext d (e _)⟩⟩,d.heap h.behind (e _),λx f=>(h.words x f).ext d (e _),h.s1,h.s2,h.s3⟩
theorem eY.put {w:World}{T d RB k x g cp:bj}{c:dP}{a b:bj->bj->bj}{f:bj->bj}(h:eY w T d RB k c a b)(R:x<c.ins.length)(q:¬Dm T d RB c.ins.length g)(u:bP w g k f):
  eY (w.setCell ⟨d,x,th⟩ (tn (tf ⟨g,0,th⟩) k cp)) T d RB k c (λy=>if y=x then f else a y) b:=by
 have j:Ext (·=d) w (w.setCell ⟨d,x,th⟩ (tn (tf ⟨g,0,th⟩) k cp)):=Ext.set1 _ _ _ _;obtain⟨W,v,z,A⟩:=h.ahead;refine⟨j.heap h.tab h.s1,⟨_,gi _ _ _ _ _ _ v,by simpa using z,λy o=> ?_⟩,j.heap h.behind (λe=>h.s3 ⟨by omega,by omega⟩),λy o=>(h.words y o).ext j (λe=>h.s3 ⟨by omega,by omega⟩),h.s1,h.s2,h.s3⟩;rw[gj]
 by_cases e:x=y
 ·subst e
  rw[cH rfl,cH (by omega),cH rfl];exact⟨g,cp,rfl,q,u.ext j (λe=>q (.inr (.inl e)))⟩
 ·rw[bw e,bw (λh=>e h.symm)]
  obtain⟨E,G,J,t,K⟩:=A y o;exact⟨E,G,J,t,K.ext j (λe=>t (.inr (.inl e)))⟩
theorem eY.grow {w w':World}{T j RB k x:bj}{c:dP}{a b:bj->bj->bj}{f:bj->bj}(h:eY w T j RB k c a b)(K:x<c.ins.length)(q:bP w' (RB+1+x) k f)(d:Ext (·=RB+1+x) w w'):
  eY w' T j RB k c a (λy=>if y=x then f else b y):=by
 obtain⟨t,u,v,z⟩:=h.ahead;refine⟨d.heap h.tab (λe=>h.s2 ⟨by omega,by omega⟩),⟨t,d.heap u (λe=>h.s3 ⟨by omega,by omega⟩),v,λy g=> ?_⟩,d.heap h.behind (by omega),λy g=> ?_,h.s1,h.s2,h.s3⟩
 ·obtain⟨A,E,G,o,J⟩:=z y g
  exact⟨A,E,G,o,J.ext d (λe=>o (.inr (.inr ⟨by omega,by omega⟩)))⟩
 ·by_cases e:y=x
  ·subst e;rw[cH rfl];exact q
  ·rw[bw e];exact(h.words y g).ext d (by omega)
def Stepped (w:World)(T d RB k:bj)(c:dP)(a b:bj->bj->bj)(x:bj)(i:Ins)(e:Ending)(w':World):Prop:=
 e= tB (tt (decide (0<dJ k (stepW i (b x)))))/\eY w' T d RB k c (λy=>if y=x then stepW i (b x) else a y) b/\Ext (·=d) w w'
end Go.Proofs.YtjomgckjhcfbgaaGreat
