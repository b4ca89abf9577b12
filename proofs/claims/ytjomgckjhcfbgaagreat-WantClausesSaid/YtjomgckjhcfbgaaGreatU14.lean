/- Walks. -/
import Derived.Test.YtjomgckjhcfbgaaGreatProg
import Derived.Laws.BitsAllLaws
import Derived.Laws.Bits64
import Derived.RegionTactic
import Derived.Deep.QuietTactic
import Derived.BigQuiet
import Derived.Lib.Walk
import Derived.Lib.SliceRun
import Derived.Test.YtjomgckjhcfbgaaGreatU10
set_option maxRecDepth 100000
set_option maxHeartbeats 64000000
set_option linter.all false
namespace Go.Proofs.YtjomgckjhcfbgaaGreat
open Go.RowKit
open Go.Proofs.Tryz renaming prog→am,underlying42→cD,underlying35→gb,ntmps198→ph,ntmps191→pi,func198→pD,func191→pH,ntmps152→pS,func152→qT,underlying199→rk,underlying46→rn
open _root_.List renaming getElem?_eq_getElem→ap,getElem?_eq_some_iff→bl,length_append→bo,mem_of_getElem?→cd,take_length→cR,map_append→dp,eq_nil_of_length_eq_zero→dr,range→du,length_take→ee,append_assoc→eq,length_cons→eV,mem_cons→gh,mem_map→gi,mem_cons_of_mem→ie,take_add_one→ju,foldl_append→jx,replicate→km,filter_cons→ks,range_succ→lp,any_eq_false→lx,filter_append→mj,getElem?_take→mz,map_cons→mA,length_nil→mC,take_of_length_le→m5,foldl_cons→nw,sum_append→oe,map_nil→pm,length_filter_le→td
open Go.RowKit.Below renaming refl→aq,heap_alloc→cJ
open _root_ renaming Int→aw,Nat→bh,List→bj,if_neg→bx,decide_eq_false→cv,Option→cG,if_pos→cI,beq_eq_false_iff_ne→cT,decide_eq_true→cV,Array→eA,absurd→fL,False→me,Bool→mm,decide_eq_true_eq→oE,and_true→pf,decide_eq_false_iff_not→pl,bne_iff_ne→pp
open Go.RowKit renaming Below→aE,Hid→cj,intOf→de
open _root_.Array renaming getElem?_eq_some_iff→br,getElem?_eq_none→em,replicate→eI,getElem?_setIfInBounds→gd,ext_getElem?→gS,getElem?_eq_getElem→mx
open Go renaming cell_of_row→bw,Value→cA,frozen_of_row→ei,maxLen→eC,Addr→fS,Calls→ge,heap_setCell_same→gj,TypeId→gt,below_drewN→hU,heap_alloc2_new→jp,info_parts→kB,wpList_append_lies→n5,u64_and_nat→pB
open _root_.Nat renaming le_refl→cg,lt_of_lt_of_le→cH,zero_add→cL,zero_le→cN,le_trans→eJ,min_eq_left→gR,le_succ→i5,lt_of_le_of_lt→my,testBit_or→mN,div_eq_of_lt→m8,add_mul_div_left→na,testBit_two_pow_mul_add→ob,mod_eq_of_lt→po,eq_of_testBit_eq→qq,mod_lt→rd,add_comm→rl,testBit_and→sr,and_two_pow_sub_one_eq_mod→sY,testBit_two_pow_sub_succ→tD
open Go.Value renaming slice→ci,oneCell'→ct,ownBlock→et,int→eS,string→tS,slice→tU,pointer→tW,bool→ua,agg→ub,int→Z
open _root_.Option.some renaming inj→cE,injEq→dd
open Go.Addr renaming add_lit→cY
open Go.IntKind renaming i64→dT,u64→jz,i64→U
open Go.Addr.mk renaming injEq→eR
open Go.Value.slice renaming injEq→fm
open _root_.Int renaming natCast_add→ld
open _root_.Bool renaming or_false→tv,true→tP,false→tR
open _root_.Option renaming some→tG,none→tM
open Go.Obj renaming cells→uc
open Go.Ending renaming returned→ud
open Tryz
def kF (B:bh):bj bh->bh
 |[]=>0
 |d::r=>d+B*kF B r
def iU:bh->bh->bj bh
 |_,0=>[]
 |x,n+1=>x%2::iU (x/2) n
def pu (x n:bh):bh:=(iU x n).sum
theorem AC:∀(n x:bh),kF 2 (iU x n)=x%2^n
 |0,x=>by simp[kF,iU,Nat.mod_one]
 |n+1,x=>by
  simp only[kF,iU,AC n (x/2)];rw[Nat.pow_succ,Nat.mul_comm (2^n) 2,Nat.mod_mul]
theorem pz:∀(n x:bh),(iU x n).length=n
 |0,_=>rfl
 |n+1,x=>by simp[iU,pz n]
theorem AJ:∀(n x:bh),∀d∈iU x n,d<2
 |0,_=>by simp[iU]
 |n+1,x=>by
  intro d e;simp only[iU,gh] at e;rcases e with rfl|e
  ·omega
  ·exact AJ n _ d e
theorem and_split (w a x b y:bh)(e:a<2^w)(d:b<2^w):(a+2^w*x)&&&(b+2^w*y)=(a&&& b)+2^w*(x&&& y):=by
 have f:a&&& b<2^w:=Nat.and_lt_two_pow _ d;apply qq;intro j;rw[sr,rl a,rl b,rl (a&&& b),ob _ e,ob _ d,ob _ f]
 split<;>simp[sr]
def ev:bj bh->bj bh
 |a::_::r=>a::ev r
 |_=>[]
def od:bj bh->bj bh
 |_::b::r=>b::od r
 |_=>[]
def pr:bj bh->bj bh
 |a::b::r=>(a+b)::pr r
 |_=>[]
theorem yB:∀(n:bh)(l:bj bh),l.length=2*n->(pr l).sum=l.sum
 |0,l,h=>by rw[dr h];rfl
 |n+1,[],h=>by simp at h
 |n+1,[a],h=>by simp at h;omega
 |n+1,a::b::r,h=>by simp[pr,yB n r (by simp at h;omega)];omega
theorem mE:∀(n:bh)(l:bj bh),l.length=2*n->(pr l).length=n
 |0,l,h=>by rw[dr h];rfl
 |n+1,[],h=>by simp at h
 |n+1,[a],h=>by simp at h;omega
 |n+1,a::b::r,h=>by simp[pr,mE n r (by simp at h;omega)]
theorem DJ {k:bh}:∀(l:bj bh),(∀d∈l,d<=k)->∀d∈pr l,d<=2*k
 |[],_=>by simp[pr]
 |[a],_=>by simp[pr]
 |a::b::r,h=>by
  intro d e;simp only[pr,gh] at e;rcases e with rfl|e
  ·have:=h a (by simp);have:=h b (by simp);omega
  ·exact DJ r (λx f=>h x (by simp[f])) d e
def mask (w:bh):bh->bh
 |0=>0
 |n+1=>(2^w-1)+2^w*(0+2^w*mask w n)
theorem AL {w a:bh}(h:a<2^w):a&&&(2^w-1)=a:=by rw[sY];exact po h
theorem rP (w:bh):∀(n:bh)(l:bj bh),l.length=2*n->(∀d∈l,d<2^w)->kF (2^w) l&&& mask w n=kF (2^w*2^w) (ev l)
 |0,l,h,_=>by rw[dr h];simp[kF,ev]
 |n+1,[],h,_=>by simp at h
 |n+1,[a],h,_=>by simp at h;omega
 |n+1,a::b::r,h,e=>by
  have f:=e a (by simp);have g:=e b (by simp);have j:0<2^w:=Nat.two_pow_pos w;simp only[kF,ev,mask];rw[and_split w _ _ _ _ f (by omega),and_split w _ _ _ _ g j,AL f,Nat.and_zero,cL,rP w n r (by simp at h;omega) (λx o=>e x (by simp[o])),Nat.mul_assoc]
theorem yD (w:bh):∀(n:bh)(l:bj bh),l.length=2*n->(∀d∈l,d<2^w)->(kF (2^w) l/2^w)&&& mask w n=kF (2^w*2^w) (od l)
 |0,l,h,_=>by rw[dr h];simp[kF,od]
 |n+1,[],h,_=>by simp at h
 |n+1,[a],h,_=>by simp at h;omega
 |n+1,a::b::r,h,f=>by
  have o:=f a (by simp);have j:=f b (by simp);have g:0<2^w:=Nat.two_pow_pos w;simp only[kF,od,mask];rw[na _ _ g,m8 o,cL,and_split w _ _ _ _ j (by omega),AL j];have q:kF (2^w) r&&&(0+2^w*mask w n)=2^w*kF (2^w*2^w) (od r):=by
   have e:kF (2^w) r=kF (2^w) r%2^w+2^w*(kF (2^w) r/2^w):=(Nat.mod_add_div _ _).symm;rw[e,and_split w _ _ _ _ (rd _ g) g,Nat.and_zero,cL,yD w n r (by simp at h;omega) (λx t=>f x (by simp[t]))]
  rw[q,Nat.mul_assoc]
theorem FU {B:bh}:∀(n:bh)(l:bj bh),l.length=2*n->kF B (od l)+kF B (ev l)=kF B (pr l)
 |0,l,h=>by rw[dr h];rfl
 |n+1,[],h=>by simp at h
 |n+1,[a],h=>by simp at h;omega
 |n+1,a::b::r,h=>by
  have:=FU (B:=B) n r (by simp at h;omega);simp only[kF,ev,od,pr,<-this,Nat.mul_add];omega
def nb:bj bh->bj bh
 |[]=>[]
 |[a]=>[a]
 |a::b::r=>(a+b)::nb (b::r)
theorem FV {B:bh}(e:0<B):∀(l:bj bh),(∀d∈l,d<B)->kF B l/B+kF B l=kF B (nb l)
 |[],_=>by simp[kF,nb]
 |[a],h=>by simp[kF,nb,m8 (h a (by simp))]
 |a::b::r,h=>by
  have ih:=FV e (b::r) (λx f=>h x (ie _ f));have g:=h a (by simp);have j:=h b (by simp);have o:kF B (a::b::r)/B=kF B (b::r):=by
   show(a+B*kF B (b::r))/B=_
   rw[na _ _ e,m8 g,cL]
  have q:kF B (b::r)/B=kF B r:=by
   show(b+B*kF B r)/B=_
   rw[na _ _ e,m8 j,cL]
  rw[o];rw[q] at ih
  show(b+B*kF B r)+(a+B*kF B (b::r))=(a+b)+B*kF B (nb (b::r))
  rw[<-ih,Nat.mul_add];omega
theorem Ia:∀(n:bh)(l:bj bh),l.length=2*n->ev (nb l)=pr l
 |0,l,h=>by rw[dr h];rfl
 |n+1,[],h=>by simp at h
 |n+1,[a],h=>by simp at h;omega
 |n+1,[a,b],_=>rfl
 |n+1,a::b::c::r,h=>by
  have:=Ia n (c::r) (by simp at h⊢;omega);simp only[nb,ev,pr];rw[this]
theorem wM:∀(l:bj bh),(nb l).length=l.length
 |[]=>rfl
 |[_]=>rfl
 |a::b::r=>by simp[nb,wM (b::r)]
theorem Ib {k:bh}:∀(l:bj bh),(∀d∈l,d<=k)->∀d∈nb l,d<=2*k
 |[],_=>by simp[nb]
 |[a],h=>by intro d e;simp[nb] at e;subst e;have:=h d (by simp);omega
 |a::b::r,h=>by
  intro d e;simp only[nb,gh] at e;rcases e with rfl|e
  ·have:=h a (by simp);have:=h b (by simp);omega
  ·exact Ib (b::r) (λx f=>h x (ie _ f)) d e
def jL (x:bh):bh:=((x/2)&&& 6148914691236517205)+(x&&& 6148914691236517205)
def kY (x:bh):bh:=((x/4)&&& 3689348814741910323)+(x&&& 3689348814741910323)
def tC (x:bh):bh:=(x/16+x)&&& 1085102592571150095
def vB (x:bh):bh:=x+x/256
def yE (x:bh):bh:=x+x/65536
def yF (x:bh):bh:=x+x/4294967296
theorem Jm:mask 1 32=6148914691236517205:=by decide
theorem Jn:mask 2 16=3689348814741910323:=by decide
theorem Jo:mask 4 8=1085102592571150095:=by decide
theorem Ir (x:bh)(hx:x<18446744073709551616):∃h j q t u v z A,tC (kY (jL x))=h+256*(j+256*(q+256*(t+256*(u+256*(v+256*(z+256*A))))))/\h+j+q+t+u+v+z+A=pu x 64/\
  h<=8/\j<=8/\q<=8/\t<=8/\u<=8/\v<=8/\z<=8/\A<=8:=by
 have h0:kF (2^1) (iU x 64)=x:=by
  rw[Nat.pow_one,AC];exact po (by simpa using hx)
 have E:=pz 64 x;have d0:∀d∈iU x 64,d<2^1:=λd f=>by have:=AJ 64 x d f;omega
 obtain⟨a,J⟩:∃a,a=pr (iU x 64):=⟨_,rfl⟩
 have G:a.length=2*16:=by rw[J];exact mE 32 _ E
 have s1:jL x=kF (2^2) a:=by
  have e:=rP 1 32 _ E d0;have o:=yD 1 32 _ E d0;rw[h0,Jm] at e o;unfold jL;rw[show x/2=x/2^1 from rfl,o,e,FU 32 _ E,J]
 have R:∀d∈a,d<=2:=λd f=>by
  rw[J] at f;exact DJ (k:=1) _ (λy hy=>by have:=d0 y hy;omega) d f
 obtain⟨b,K⟩:∃b,b=pr a:=⟨_,rfl⟩
 have lb:b.length=2*8:=by rw[K];exact mE 16 _ G
 have s2:kY (jL x)=kF (2^4) b:=by
  have e:=rP 2 16 _ G (λd f=>by have:=R d f;omega);have o:=yD 2 16 _ G (λd f=>by have:=R d f;omega);rw[<-s1,Jn] at e o;unfold kY;rw[show jL x/4=jL x/2^2 from rfl,o,e,FU 16 _ G,K]
 have db:∀d∈b,d<=4:=λd f=>by rw[K] at f;exact DJ (k:=2) _ R d f
 have s3:tC (kY (jL x))=kF (2^8) (pr b):=by
  unfold tC;have h1:=FV (B:=2^4) (by decide) b (λd f=>by have:=db d f;omega);rw[<-s2] at h1;rw[show kY (jL x)/16=kY (jL x)/2^4 from rfl,h1];have e:=rP 4 8 (nb b) (by rw[wM,lb]) (λd f=>by have:=Ib (k:=4) b db d f;omega);rw[Jo] at e;rw[e,Ia 8 b lb]
 have lc:(pr b).length=8:=mE 8 _ lb;have g:∀d∈pr b,d<=8:=λd f=>DJ (k:=4) _ db d f;have sc:(pr b).sum=pu x 64:=by
  rw[yB 8 b lb,K,yB 16 a G,J,yB 32 _ E];rfl
 obtain⟨c,hc⟩:∃c,c=pr b:=⟨_,rfl⟩
 rw[<-hc] at s3 lc g sc
 match c,lc with
 |[h,j,q,t,u,v,z,A],_=>
  refine⟨h,j,q,t,u,v,z,A, ?_, ?_,g _ (by simp),g _ (by simp),g _ (by simp),g _ (by simp),g _ (by simp),g _ (by simp),g _ (by simp),g _ (by simp)⟩
  ·rw[s3];simp[kF]
  ·rw[<-sc];simp;omega
theorem yG {a b:bh}(q:bh)(h:a<b):(a+b*q)/b=q:=by
 rw[na _ _ (by omega),m8 h,cL]
theorem Jp (q d e f g h j o:bh):(q+256*(d+256*(e+256*(f+256*(g+256*(h+256*(j+256*o)))))))+(d+256*(e+256*(f+256*(g+256*(h+256*(j+256*o))))))=
  (q+d)+256*((d+e)+256*((e+f)+256*((f+g)+256*((g+h)+256*((h+j)+256*((j+o)+256*o)))))):=by omega
theorem G5 {y d e f g j o t u:bh}(v:y=d+256*(e+256*(f+256*(g+256*(j+256*(o+256*(t+256*u)))))))(h:d<256):
  vB y=(d+e)+256*((e+f)+256*((f+g)+256*((g+j)+256*((j+o)+256*((o+t)+256*((t+u)+256*u)))))):=by
 have q:y/256=e+256*(f+256*(g+256*(j+256*(o+256*(t+256*u))))):=by rw[v,yG (a:=d) (b:=256) _ h]
 unfold vB;rw[q,v];exact Jp _ _ _ _ _ _ _ _
theorem Jq (f0 f1 t:bh):f0+256*(f1+256*t)=(f0+256*f1)+65536*t:=by omega
theorem Jr (f0 f1 f2 f3 f4 f5 f6 f7:bh):(f0+256*(f1+256*(f2+256*(f3+256*(f4+256*(f5+256*(f6+256*f7)))))))+(f2+256*(f3+256*(f4+256*(f5+256*(f6+256*f7)))))=
  (f0+f2)+256*((f1+f3)+256*((f2+f4)+256*((f3+f5)+256*((f4+f6)+256*((f5+f7)+256*(f6+256*f7)))))):=by omega
theorem G6 {y f0 f1 f2 f3 f4 f5 f6 f7:bh}(d:y=f0+256*(f1+256*(f2+256*(f3+256*(f4+256*(f5+256*(f6+256*f7)))))))(h0:f0<256)(f:f1<256):
  yE y=(f0+f2)+256*((f1+f3)+256*((f2+f4)+256*((f3+f5)+256*((f4+f6)+256*((f5+f7)+256*(f6+256*f7)))))):=by
 have q:y/65536=f2+256*(f3+256*(f4+256*(f5+256*(f6+256*f7)))):=by
  have e:f0+256*f1<65536:=by clear d;omega
  rw[d,Jq,yG (a:=f0+256*f1) (b:=65536) _ e]
 unfold yE;rw[q,d];exact Jr _ _ _ _ _ _ _ _
theorem Js (f0 f1 f2 f3 t:bh):f0+256*(f1+256*(f2+256*(f3+256*t)))=(f0+256*(f1+256*(f2+256*f3)))+4294967296*t:=by omega
theorem Je (f0 d t s:bh):(f0+256*t)+(d+256*s)=(f0+d)+128*(2*(t+s)):=by omega
theorem G7 {y f0 f1 f2 f3 f4 f5 f6 f7:bh}(d:y=f0+256*(f1+256*(f2+256*(f3+256*(f4+256*(f5+256*(f6+256*f7)))))))(h0:f0<256)(g:f1<256)(h:f2<256)(j:f3<256)(e:f0+f4<128):
  yF y%128=f0+f4/\yF y=y+(f4+256*(f5+256*(f6+256*f7))):=by
 have q:y/4294967296=f4+256*(f5+256*(f6+256*f7)):=by
  have f:f0+256*(f1+256*(f2+256*f3))<4294967296:=by clear d;omega
  rw[d,Js,yG (a:=f0+256*(f1+256*(f2+256*f3))) (b:=4294967296) _ f]
 unfold yF;rw[q];refine⟨?_,rfl⟩;rw[d,Je,Nat.add_mul_mod_self_left,po e]
theorem DK {f0 f1 f2 f3 f4 f5 f6 f7:bh}(h0:f0<=64)(d:f1<=64)(e:f2<=64)(f:f3<=64)(g:f4<=64)(h:f5<=64)(j:f6<=64)(o:f7<=64):
  f0+256*(f1+256*(f2+256*(f3+256*(f4+256*(f5+256*(f6+256*f7))))))<=4629771061636907072:=by omega
theorem G9 (x:bh)(J:x<18446744073709551616):yF (yE (vB (tC (kY (jL x)))))%128=pu x 64/\vB (tC (kY (jL x)))<18446744073709551616/\yE (vB (tC (kY (jL x))))<18446744073709551616/\yF (yE (vB (tC (kY (jL x)))))<9223372036854775808:=by
 obtain⟨z,v,u,g,j,o,q,t,h,d,b0,b1,b2,b3,b4,b5,b6,b7⟩:=Ir x J;have e:=DK (f0:=z+v) (f1:=v+u) (f2:=u+g) (f3:=g+j) (f4:=j+o) (f5:=o+q) (f6:=q+t) (f7:=t) (by clear h d;omega) (by clear h d;omega) (by clear h d;omega) (by clear h d;omega) (by clear h d;omega) (by clear h d;omega) (by clear h d;omega) (by clear h d;omega);have f:=DK (f0:=z+v+(u+g)) (f1:=v+u+(g+j)) (f2:=u+g+(j+o)) (f3:=g+j+(o+q)) (f4:=j+o+(q+t)) (f5:=o+q+t) (f6:=q+t) (f7:=t) (by clear h d e;omega) (by clear h d e;omega) (by clear h d e;omega) (by clear h d e;omega) (by clear h d e;omega) (by clear h d e;omega) (by clear h d e;omega) (by clear h d e;omega);have y:j+o+(q+t)+256*(o+q+t+256*(q+t+256*t))<=1000000000000:=by clear h d e f;omega
 have K:z<256:=by clear h d e f y;omega
 have r1:z+v<256:=by clear h d e f y;omega
 have r2:v+u<256:=by clear h d e f y;omega
 have r3:z+v+(u+g)<256:=by clear h d e f y;omega
 have r4:v+u+(g+j)<256:=by clear h d e f y;omega
 have r5:u+g+(j+o)<256:=by clear h d e f y;omega
 have r6:g+j+(o+q)<256:=by clear h d e f y;omega
 have R:z+v+(u+g)+(j+o+(q+t))<128:=by clear h d e f y;omega
 have r8:z+v+(u+g)+(j+o+(q+t))=pu x 64:=by rw[<-d];clear h d e f y;omega
 have A:=G5 h K;have E:=G6 A r1 r2;have G:=G7 E r3 r4 r5 r6 R;rw[<-A] at e;rw[<-E] at f;refine⟨G.1.trans r8,my e (by decide),my f (by decide), ?_⟩;rw[G.2];exact my (Nat.add_le_add f y) (by decide)
theorem lU (a b:bh):a&&& b<=b:=Nat.and_le_right
theorem Iu {n:bh}(h:n<18446744073709551616):jz.wrap (n:aw)=(n:aw):=by
 rw[IntKind.wrap_u64];omega
theorem r1 {x:bh}(d:x<18446744073709551616):jz.wrap (bits .and .u64 ((x:aw)/2) 6148914691236517205+bits .and .u64 (x:aw) 6148914691236517205)=(jL x:aw)/\jL x<=12297829382473034410:=by
 have h:=lU (x/2) 6148914691236517205;have j:=lU x 6148914691236517205;have e:jL x<=12297829382473034410:=by unfold jL;omega
 refine⟨?_,e⟩;have f:=pB (x/2) 6148914691236517205 (by omega) (by decide);have g:=pB x 6148914691236517205 d (by decide);rw[show((x:aw)/2)=((x/2:bh):aw) from rfl,show(6148914691236517205:aw)=((6148914691236517205:bh):aw) from rfl,f,g,<-ld];exact Iu (by show jL x<_;omega)
theorem r2 {x:bh}(d:x<18446744073709551616):jz.wrap (bits .and .u64 ((x:aw)/4) 3689348814741910323+bits .and .u64 (x:aw) 3689348814741910323)=(kY x:aw)/\kY x<=7378697629483820646:=by
 have h:=lU (x/4) 3689348814741910323;have j:=lU x 3689348814741910323;have e:kY x<=7378697629483820646:=by unfold kY;omega
 refine⟨?_,e⟩;have f:=pB (x/4) 3689348814741910323 (by omega) (by decide);have g:=pB x 3689348814741910323 d (by decide);rw[show((x:aw)/4)=((x/4:bh):aw) from rfl,show(3689348814741910323:aw)=((3689348814741910323:bh):aw) from rfl,f,g,<-ld];exact Iu (by show kY x<_;omega)
theorem r3 {x:bh}(e:x<=7378697629483820646):bits .and .u64 (jz.wrap ((x:aw)/16+(x:aw))) 1085102592571150095=(tC x:aw)/\tC x<=1085102592571150095:=by
 refine⟨?_,lU _ _⟩;have d:x/16+x<18446744073709551616:=by omega
 rw[show((x:aw)/16)=((x/16:bh):aw) from rfl,show(1085102592571150095:aw)=((1085102592571150095:bh):aw) from rfl,<-ld,Iu d];exact pB (x/16+x) 1085102592571150095 d (by decide)
theorem r4 {x:bh}(d:vB x<18446744073709551616):jz.wrap ((x:aw)+(x:aw)/256)=(vB x:aw):=by
 rw[show((x:aw)/256)=((x/256:bh):aw) from rfl,<-ld];exact Iu d
theorem r5 {x:bh}(d:yE x<18446744073709551616):jz.wrap ((x:aw)+(x:aw)/65536)=(yE x:aw):=by
 rw[show((x:aw)/65536)=((x/65536:bh):aw) from rfl,<-ld];exact Iu d
theorem r6 {x:bh}(d:yF x<18446744073709551616):jz.wrap ((x:aw)+(x:aw)/4294967296)=(yF x:aw):=by
 rw[show((x:aw)/4294967296)=((x/4294967296:bh):aw) from rfl,<-ld];exact Iu d
theorem Iw (a:bh)(e:a<9223372036854775808):bits .and .i64 (a:aw) 127=((a%128:bh):aw):=by
 have d:a&&& 127=a%128:=sY a 7
 show dT.wrap ((BitVec.ofInt 64 (a:aw)&&& BitVec.ofInt 64 ((127:bh):aw)).toNat:aw)=_
 rw[BitVec.toNat_and,BitVec.ofInt_natCast,BitVec.ofInt_natCast,BitVec.toNat_ofNat,BitVec.toNat_ofNat,po (show a<2^64 by omega),show(127:bh)%2^64=127 from rfl,d,IntKind.wrap_i64];omega
theorem CQ (x:bh)(w:World)(e:x<18446744073709551616):zS 194 #[.int .u64 (x:aw)] w (Z U (pu x 64:bh)):=by
 obtain⟨u,f⟩:=r1 e;obtain⟨v,g⟩:=r2 (x:=jL x) (my f (by decide));obtain⟨y,q⟩:=r3 (x:=kY (jL x)) g;obtain⟨h,j,o,d⟩:=G9 x e;have z:=r4 j;have A:=r5 o;have E:=r6 (Nat.lt_trans d (by decide));have t:=Iw _ d;rw[h] at t;have G:wrap64 ((yF (yE (vB (tC (kY (jL x))))):bh):aw)=((yF (yE (vB (tC (kY (jL x))))):bh):aw):=by
  unfold wrap64;omega
 clear f g q h j o d;go_enter func194,ntmps194;go_wp2;go_ret;exact⟨rfl,rfl⟩
def dK (n:bh)(f:bh->bh):eA cA:=((du n).map λi=>eS .u64 (f i:aw)).toArray
theorem lW (n:bh)(f:bh->bh):(dK n f).size=n:=by simp[dK]
theorem nE {n i:bh}(f:bh->bh)(h:i<n):(dK n f)[i]?=tG (.int .u64 (f i:aw)):=by
 simp[dK,h]
def bW (w:World)(B n:bh)(f:bh->bh):Prop:=∃d,w.heap[B]?=tG (uc d 245 (0,0))/\n<=d.size/\∀i,i<n->d[i]?=tG (.int .u64 (f i:aw))
theorem bW.cell {w:World}{B n i:bh}{f:bh->bh}(h:bW w B n f)(hi:i<n):w.cell? ⟨B,i,tM⟩=tG (.int .u64 (f i:aw)):=by
 obtain⟨g,d,_,e⟩:=h;rw[bw _ _ _ _ _ _ d];exact e i hi
theorem bW.frozen {w:World}{B n i:bh}{f:bh->bh}(h:bW w B n f):w.frozen? ⟨B,i,tM⟩=tR:=by
 obtain⟨e,d,_⟩:=h;exact ei _ _ _ _ _ d
theorem bW.lt {w:World}{B n:bh}{f:bh->bh}(h:bW w B n f):B<w.heap.size:=by
 obtain⟨e,d,_⟩:=h;exact(br.1 d).1
theorem bW.congr {w:World}{B n:bh}{f g:bh->bh}(h:bW w B n f)(e:∀i,i<n->f i=g i):bW w B n g:=by
 obtain⟨d,j,o,q⟩:=h;exact⟨d,j,o,λi hi=>by rw[<-e i hi];exact q i hi⟩
theorem bW.keep {w w':World}{B n:bh}{f:bh->bh}(h:bW w B n f)(e:w'.heap[B]?=w.heap[B]?):bW w' B n f:=by
 obtain⟨d,g,j,o⟩:=h;exact⟨d,e.trans g,j,o⟩
theorem bW.ext {w w':World}{B n:bh}{f:bh->bh}{M:bh->Prop}(h:bW w B n f)(d:Ext M w w')(e:¬M B):bW w' B n f:=
 h.keep (d.block B h.lt e)
theorem bW.below {w w':World}{B n m:bh}{f:bh->bh}(h:bW w B n f)(d:aE m w w')(e:B<m):bW w' B n f:=
 h.keep (d.block B e)
theorem bW.set {w:World}{B n i v:bh}{f:bh->bh}(h:bW w B n f):bW (w.setCell ⟨B,i,tM⟩ (.int .u64 (v:aw))) B n (λx=>if x=i then v else f x):=by
 obtain⟨u,d,g,o⟩:=h;refine⟨_,gj _ _ _ _ _ _ d,by simpa using g,λj q=> ?_⟩;rw[gd]
 by_cases e:i=j
 ·subst e;rw[cI rfl,cI (by omega)];simp
 ·rw[bx e];have t:¬j=i:=λh=>e h.symm
  simp only[bx t];exact o j q
theorem bW.of_cells {w:World}{B n:bh}{f:bh->bh}(h:w.heap[B]?=tG (uc (dK n f) 245 (0,0))):bW w B n f:=
 ⟨_,h,by rw[lW];exact cg _,λ_ hi=>nE f hi⟩
theorem bW.of_owns {w:World}{base n g cap:bh}{f:bh->bh}(h:w.ownsRow base 245 1 (tU (tG ⟨g,0,tM⟩) n cap) n ((du n).map λi=>eS .u64 (f i:aw))):bW w g n f:=by
 rcases h.2 with⟨d,_⟩|⟨t,u,j,d,v,o,x,y,z,q⟩
 ·cases d
 ·simp only[fm,dd,eR] at d
  obtain⟨⟨rfl,_,_⟩,_,rfl⟩:=d;refine⟨j,o,by omega,λi hi=> ?_⟩;have e:(j.toList.take (n*1))[i]?=tG (.int .u64 (f i:aw)):=by rw[q];simp[hi]
  rw[mz,cI (by omega)] at e;simpa using e
def bn (f:bh->bh)(v:bh):mm:=(f (v/64)).testBit (v%64)
theorem Iy (a k:bh)(d:a<18446744073709551616):(bits .and .u64 ((a:aw)/2^k) 1==1)=a.testBit k:=by
 have e:((a:aw)/2^k)=((a/2^k:bh):aw):=by rw[Int.natCast_ediv,Int.natCast_pow];rfl
 have f:a/2^k<18446744073709551616:=my (Nat.div_le_self _ _) d;rw[e,show(1:aw)=((1:bh):aw) from rfl,pB _ _ f (by decide),Nat.and_one_is_mod,Nat.testBit_eq_decide_div_mod_eq]
 by_cases h:a/2^k%2=1
 ·rw[h];rfl
 ·have h0:a/2^k%2=0:=by omega
  rw[h0];rfl
theorem yH (w:World)(B n cp v:bh)(f:bh->bh)(d:bW w B n f)(e:∀i,f i<18446744073709551616)(g:v/64<n)(j:n<=90000):
  zS 148 #[tU (tG ⟨B,0,tM⟩) n cp,Z U (v:aw)] w (ua (bn f v)):=by
 have o:w.cell? ⟨B,v/64,tM⟩=tG (.int .u64 (f (v/64):aw)):=d.cell g;have h:=e (v/64);have q:((v/64:bh):aw)<(n:aw):=by omega
 have t:v<9000000:=by omega
 have u:(bits .and .u64 ((f (v/64):aw)/2^(v%64)) 1==1)=bn f v:=Iy _ _ h;clear d e;go_enter func148,ntmps148;go_wp2;go_ret;exact⟨rfl,rfl⟩
theorem lX {k:bh}(h:k<64):2^k<18446744073709551616:=cH (Nat.pow_lt_pow_right (by decide) h) (by decide)
theorem AO {k:bh}(h:k<64):jz.wrap (2^k)=((2^k:bh):aw):=by
 have e:((2:aw)^k)=((2^k:bh):aw):=by rw[Int.natCast_pow];rfl
 rw[e];exact Iu (lX h)
theorem IZ (a k:bh)(d:a<18446744073709551616)(h:k<64):bits .or .u64 (a:aw) (jz.wrap (2^k))=((a|||2^k:bh):aw):=by
 rw[AO h];exact u64_or_nat _ _ d (lX h)
theorem Ey (a k:bh)(d:a<18446744073709551616)(h:k<64):bits .andNot .u64 (a:aw) (jz.wrap (2^k))=((a&&&(18446744073709551615-2^k):bh):aw):=by
 rw[AO h];exact u64_andNot_nat _ _ d (lX h)
def rQ (w:World)(B n:bh)(g:bh->bh)(e:Ending)(w':World):Prop:=
 e= ud (.tuple #[])/\bW w' B n g/\Ext (·=B) w w'
theorem yI (w:World)(B n cp v:bh)(f:bh->bh)(d:bW w B n f)(e:∀i,f i<18446744073709551616)(g:v/64<n)(o:n<=90000):
  ge am 145 #[tU (tG ⟨B,0,tM⟩) n cp,Z U (v:aw)] w (rQ w B n (λx=>if x=v/64 then f (v/64)|||2^(v%64) else f x)):=by
 have q:w.cell? ⟨B,v/64,tM⟩=tG (.int .u64 (f (v/64):aw)):=d.cell g;have t:w.frozen? ⟨B,v/64,tM⟩=tR:=d.frozen;have h:=e (v/64);have u:((v/64:bh):aw)<(n:aw):=by omega
 have y:v<9000000:=by omega
 have z:=IZ (f (v/64)) (v%64) h (rd _ (by decide));have j:cj (rQ w B n (λx=>if x=v/64 then f (v/64)|||2^(v%64) else f x) (ud (.tuple #[])) (w.setCell ⟨B,v/64,tM⟩ (.int .u64 ((f (v/64)|||2^(v%64):bh):aw))).drew):=
  ⟨rfl,d.set.keep rfl,(Ext.set1 _ _ _ _).drew⟩
 clear d e;go_enter func145,ntmps145;go_wp2
 go_region
 all_goals (go_end0;exact j.out)
theorem vD (w:World)(B n cp v:bh)(f:bh->bh)(d:bW w B n f)(e:∀i,f i<18446744073709551616)(g:v/64<n)(o:n<=90000):
  ge am 143 #[tU (tG ⟨B,0,tM⟩) n cp,Z U (v:aw)] w (rQ w B n (λx=>if x=v/64 then f (v/64)&&&(18446744073709551615-2^(v%64)) else f x)):=by
 have q:w.cell? ⟨B,v/64,tM⟩=tG (.int .u64 (f (v/64):aw)):=d.cell g;have t:w.frozen? ⟨B,v/64,tM⟩=tR:=d.frozen;have h:=e (v/64);have u:((v/64:bh):aw)<(n:aw):=by omega
 have y:v<9000000:=by omega
 have z:=Ey (f (v/64)) (v%64) h (rd _ (by decide));have j:cj (rQ w B n (λx=>if x=v/64 then f (v/64)&&&(18446744073709551615-2^(v%64)) else f x) (ud (.tuple #[])) (w.setCell ⟨B,v/64,tM⟩ (.int .u64 ((f (v/64)&&&(18446744073709551615-2^(v%64)):bh):aw))).drew):=
  ⟨rfl,d.set.keep rfl,(Ext.set1 _ _ _ _).drew⟩
 clear d e;go_enter func143,ntmps143;go_wp2
 go_region
 all_goals (go_end0;exact j.out)
theorem Ha (f:bh->bh)(v u:bh):bn (λx=>if x=v/64 then f (v/64)|||2^(v%64) else f x) u=(bn f u||decide (u=v)):=by
 unfold bn
 by_cases h:u/64=v/64
 ·simp only[cI h]
  rw[mN,Nat.testBit_two_pow,<-h];congr 1
  by_cases e:v%64=u%64
  ·rw[cV e,cV (by omega)]
  ·rw[cv e,cv (by intro d;subst d;exact e rfl)]
 ·simp only[bx h]
  rw[cv (by intro e;subst e;exact h rfl),tv]
theorem FW (f:bh->bh)(v u:bh):bn (λx=>if x=v/64 then f (v/64)&&&(18446744073709551615-2^(v%64)) else f x) u=(bn f u&&decide (u≠v)):=by
 unfold bn
 by_cases h:u/64=v/64
 ·simp only[cI h]
  have g:v%64<64:=rd _ (by decide);have j:18446744073709551615-2^(v%64)=2^64-(2^(v%64)+1):=by omega
  rw[sr,j,tD (lX g),<-h,Nat.testBit_two_pow];congr 1;rw[cV (show u%64<64 from rd _ (by decide)),Bool.true_and]
  by_cases e:v%64=u%64
  ·rw[cV e,cv (by intro d;exact d (by omega))];rfl
  ·rw[cv e,cV (by intro d;subst d;exact e rfl)];rfl
 ·simp only[bx h]
  rw[cV (by intro e;subst e;exact h rfl),Bool.and_true]
def dY (n:bh)(f:bh->bh):bh:=((du n).map λi=>pu (f i) 64).sum
theorem yJ:∀(n x:bh),pu x n<=n
 |0,_=>by simp[pu,iU]
 |n+1,x=>by
  have h:=yJ n (x/2);unfold pu at h⊢;simp only[iU,List.sum_cons];omega
theorem kQ (n:bh)(f:bh->bh):dY (n+1) f=dY n f+pu (f n) 64:=by
 unfold dY;rw[lp,dp,oe];simp
theorem CR (n:bh)(f:bh->bh):dY n f<=64*n:=by
 induction n with
 |zero=>simp[dY]
 |succ n ih=>rw[kQ];have:=yJ 64 (f n);omega
theorem tF (w:World)(B n cp:bh)(f:bh->bh)(d:bW w B n f)(g:∀i,f i<18446744073709551616)(y:n<=90000):
  zS 146 #[tU (tG ⟨B,0,tM⟩) n cp] w (Z U (dY n f:bh)):=by
 have h:=zH d;have o:=zH g;clear d g;go_enter func146,ntmps146
 go_wp2_with fail
 go_loop [2,7] (λt c=>∃j:bh,j<=n/\c= Z U (j:aw)/\t= Z U ((dY j f:bh):aw)) (λ_ c=>n-(de c).toNat)
 case atStart=>exact⟨0,cN _,rfl,rfl⟩
 case round=>
  obtain⟨j,z,rfl,rfl⟩:=hrel;have A:=CR j f
  by_cases q:j<n
  ·have E:w.cell? ⟨B,j,tM⟩=tG (.int .u64 (f j:aw)):=h.out.cell q
   have u:=zH (CQ (f j) w (o.out j));have G:=yJ 64 (f j);have J:(j:aw)<(n:aw):=by omega
   have v:cj (dY (j+1) f=dY j f+pu (f j) 64):=kQ j f
   go_wp2_with (go_at_call 194;refine u.out.mono ?_;rintro e w' ⟨rfl,rfl⟩)
   go_round
   case rel=>exact⟨j+1,by omega,by go_num,by rw[v.out];go_num⟩
   case measure=>simp[de];omega
  ·have x:j=n:=by omega
   subst x;go_wp2;go_ret;exact⟨rfl,rfl⟩
def CS (x r:bh):mm:=(x&&&(18446744073709551615-r)) != 0
def iN (f g:bh->bh)(j:bh):bh->bh:=λi=>if i<j then f i|||g i else f i
def fw (f g:bh->bh)(j:bh):mm:=(du j).any λi=>CS (g i) (f i)
theorem AP (f g:bh->bh)(j:bh):fw f g (j+1)=(fw f g j||CS (g j) (f j)):=by
 unfold fw;rw[lp,List.any_append];simp
theorem Iz (x r:bh)(d:x<18446744073709551616)(e:r<18446744073709551616):(bits .andNot .u64 (x:aw) (r:aw) != 0)=CS x r:=by
 rw[u64_andNot_nat _ _ d e];unfold CS
 by_cases h:x&&&(18446744073709551615-r)=0
 ·rw[h];rfl
 ·have:((x&&&(18446744073709551615-r):bh):aw)≠0:=by omega
  rw[pp.2 this,pp.2 h]
def Ic (w:World)(B n:bh)(f g:bh->bh)(b c:cA)(wr:World):Prop:=
 ∃j:bh,j<=n/\c= Z U (j:aw)/\b= ua (fw f g j)/\bW wr B n (iN f g j)/\Ext (·=B) w wr
def Joined (w:World)(B n:bh)(f g:bh->bh)(e:Ending)(w':World):Prop:=
 e= ud (ua (fw f g n))/\bW w' B n (iN f g n)/\Ext (·=B) w w'
theorem vE (w:World)(B X n cp G:bh)(f g:bh->bh)(J:X≠B)(q:bW w B n f)(t:bW w X n g)(u:∀i,f i<18446744073709551616)(v:∀i,g i<18446744073709551616)(hn:n<=90000):
  ge am 105 #[tU (tG ⟨B,0,tM⟩) n cp,tU (tG ⟨X,0,tM⟩) n G] w (Joined w B n f g):=by
 have K:=zH q;have R:=zH t;have x:=zH u;have y:=zH v;clear q u v t;go_enter func105,ntmps105
 go_wp2_with fail
 go_loopw [5,10] (λb c wr=>Ic w B n f g b c wr) (λ_ c _=>n-(de c).toNat)
 case atStart=>exact⟨0,cN _,rfl,rfl,K.out.congr (λi _=>by simp[iN]),Ext.refl _ _⟩
 case round=>
  obtain⟨j,z,rfl,rfl,d,e⟩:=hrel
  by_cases A:j<n
  ·have c1:wr.cell? ⟨B,j,tM⟩=tG (.int .u64 (f j:aw)):=by rw[d.cell A];simp[iN]
   have c2:wr.cell? ⟨X,j,tM⟩=tG (.int .u64 (g j:aw)):=(R.out.ext e J).cell A;have c3:wr.frozen? ⟨B,j,tM⟩=tR:=d.frozen;have e1:=Iz (g j) (f j) (y.out j) (x.out j);have e2:=u64_or_nat (f j) (g j) (x.out j) (y.out j);have up:(j:aw)<(n:aw):=by omega
   have h:cj (Ic w B n f g (ua (fw f g j||CS (g j) (f j))) (Z U ((j:aw)+1)) (wr.setCell ⟨B,j,tM⟩ (.int .u64 ((f j|||g j:bh):aw)))):=by
    refine⟨j+1,by omega,by simp,by rw[AP],d.set.congr (λi _=> ?_),e.trans (Ext.set1 _ _ _ _) (λj z=> .inl z)⟩;unfold iN
    by_cases hi:i=j
    ·subst hi;rw[cI rfl,cI (by omega)]
    ·rw[bx hi]
     by_cases E:i<j
     ·rw[cI E,cI (by omega)]
     ·rw[bx E,bx (by omega)]
   clear d e;cases o:fw f g j with
   |true=>
    rw[o] at h;clear o;go_wp2;exact⟨h.out,by simp[de];omega⟩
   |false=>
    rw[o] at h;clear o;simp only[Bool.false_or] at h;go_wp2;exact⟨h.out,by simp[de];omega⟩
  ·have ue:j=n:=by omega
   subst ue;have HP:cj (Joined w B j f g (ud (ua (fw f g j))) wr):=⟨rfl,d,e⟩
   clear d e;go_wp2;go_ret;exact HP.out
theorem CU (i:Ins)(at_:aw)(w:World)(h0:0<=at_)(q:at_<100000):
  ge am 198 #[ub i.cells,Z U at_] w (fK w (fJ i at_)):=by
 obtain⟨op,d,a,b,f,n,t,u,v,tI,o,x,y,args⟩:=i;simp only[Ins.cells,fJ]
 by_cases e:op=16
 ·subst e
  rw[cI rfl];go_enter pD,ph;go_wp2;go_ret;exact⟨_,_,rfl,aL.lit1 (by simp) (by simp),((aq _ _).alloc (cg _) _).alloc (by simp) _⟩
 by_cases g:op=17
 ·subst g
  by_cases h:tI=o
  ·subst h
   rw[bx (by decide),cI rfl,cI rfl];go_enter pD,ph;go_wp2;go_ret;exact⟨_,_,rfl,aL.lit1 (by simp) (by simp),((aq _ _).alloc (cg _) _).alloc (by simp) _⟩
  ·have z:(tI==o)=tR:=cT.2 h
   rw[bx (by decide),cI rfl,bx h];clear h;go_enter pD,ph;go_wp2;go_ret;exact⟨_,_,rfl,aL.lit2 (by simp) (by simp),((aq _ _).alloc (cg _) _).alloc (by simp) _⟩
 by_cases j:op=18
 ·subst j
  rw[bx (by decide),bx (by decide),cI rfl];go_enter pD,ph;go_wp2;go_ret;exact⟨_,_,rfl,aL.nil _ _,((aq _ _).alloc (cg _) _)⟩
 ·rw[bx e,bx g,bx j]
  have A:(op==16)=tR:=cT.2 e;have E:(op==17)=tR:=cT.2 g;have G:(op==18)=tR:=cT.2 j;clear e g j;go_enter pD,ph;go_wp2;go_ret;exact⟨_,_,rfl,aL.lit1 (by simp) (by simp),((aq _ _).alloc (cg _) _).alloc (by simp) _⟩
def FX (base:bh)(w:World)(xs:bj aw)(e:Ending)(w':World):Prop:=
 ∃ao cap,e= ud (tU ao xs.length cap)/\aL w' base (tU ao xs.length cap) xs/\aE base w w'
theorem pE {w:World}{g:bh}{a b:cA}{t:gt}(h:w.heap[g]?=tG (uc #[a,b] t (0,0))):
  w.cell? ⟨g,0,tM⟩=tG a/\w.cell? ⟨g,1,tM⟩=tG b/\w.frozen? ⟨g,0,tM⟩=tR/\w.frozen? ⟨g,1,tM⟩=tR:=by
 refine⟨?_, ?_,ei w g _ _ t h,ei w g _ _ t h⟩<;>rw[bw w g _ _ t _ h]<;>rfl
theorem AQ (base g:bh)(a b:aw)(w:World)(f:base<=g)(h:w.heap[g]?=tG (uc #[Z U a,Z U b] 3 (0,0)))(d:a≠b):
  ge am 228 #[tU (tG ⟨g,0,tM⟩) 2 2] w (FX base w [a,b]):=by
 obtain⟨h0,o,f0,f1⟩:=pE h;have j:=zH h;have q:(b==a)=tR:=cT.2 (λe=>d e.symm);clear h d;go_enter func228,ntmps228;go_wp2;refine wp_loop_rounds 2 ?_;rw[rounds_succ];go_wp2
 go_quiet (fail)
 go_wp2;rw[rounds_succ];go_wp2;go_ret;refine⟨_,_,rfl, ?_,hU (aq _ _) _⟩;exact⟨rfl,.inr ⟨g,2,_,rfl,f,j.out,cg _,by decide,rfl,rfl⟩⟩
theorem AR (base g:bh)(a:aw)(w:World)(d:base<=g)(h:w.heap[g]?=tG (uc #[Z U a,Z U a] 3 (0,0))):
  ge am 228 #[tU (tG ⟨g,0,tM⟩) 2 2] w (FX base w [a]):=by
 obtain⟨h0,q,f0,f1⟩:=pE h;have e:=zH h;clear h;obtain⟨f,hi,j,t,u⟩:=kB fe;have o:∀n,(w.drewN n).heap[g]?=tG (uc #[Z U a,Z U a] 3 (0,0)):=λ_=>e.out;go_enter func228,ntmps228;go_wp2;refine wp_loop_rounds 1 ?_;rw[rounds_succ];go_wp2
 go_quiet (fail)
 go_wp2;refine wp_loop_rounds 1 ?_;rw[rounds_succ]
 go_wp2_with (refine oz _ rfl (.tmp 56) 35 3 rfl f (Z U 0) gb hi j rfl rfl g 1 1 1 rfl #[Z U a,Z U a] 3 (o _) (cg 2) (by decide) ?_)
 go_ret;refine⟨_,_,rfl, ?_,below_setRow (hU (aq _ _) _) d _⟩;exact⟨rfl,.inr ⟨g,2,_,rfl,d,setRow_heap _ _ _ _ _ _ e.out,i5 1,by decide,rfl,rfl⟩⟩
theorem Hd (i:Ins)(at_:aw)(w:World)(h0:0<=at_)(y:at_<100000):
  ge am 191 #[ub i.cells,Z U at_] w (fK w (fJ i at_)):=by
 obtain⟨op,d,a,b,f,n,z,A,E,tI,u,G,J,args⟩:=i;simp only[Ins.cells,fJ]
 by_cases g:op=16
 ·subst g
  rw[cI rfl];go_enter pH,pi;go_wp2;go_ret;exact⟨_,_,rfl,aL.lit1 (by simp) (by simp),((aq _ _).alloc (cg _) _).alloc (by simp) _⟩
 by_cases h:op=17
 ·subst h
  by_cases j:tI=u
  ·subst j
   rw[bx (by decide),cI rfl,cI rfl];go_enter pH,pi
   go_wp2_with (go_at_call 228;refine(AR w.heap.size (w.heap.size+1) tI _ (by omega) (jp _ _ _)).mono ?_;rintro e v ⟨ao,cap,rfl,q,t⟩)
   go_ret;exact⟨_,_,rfl,q,(((aq _ _).alloc (cg _) _).alloc (by simp) _).trans t⟩
  ·rw[bx (by decide),cI rfl,bx j]
   have x:=zH j;clear j;go_enter pH,pi
   go_wp2_with (go_at_call 228;refine(AQ w.heap.size (w.heap.size+1) tI u _ (by omega) (jp _ _ _) x.out).mono ?_;rintro e v ⟨ao,cap,rfl,q,t⟩)
   go_ret;exact⟨_,_,rfl,q,(((aq _ _).alloc (cg _) _).alloc (by simp) _).trans t⟩
 by_cases o:op=18
 ·subst o
  rw[bx (by decide),bx (by decide),cI rfl];go_enter pH,pi;go_wp2;go_ret;exact⟨_,_,rfl,aL.nil _ _,((aq _ _).alloc (cg _) _)⟩
 ·rw[bx g,bx h,bx o]
  have K:(op==16)=tR:=cT.2 g;have R:(op==17)=tR:=cT.2 h;have ue:(op==18)=tR:=cT.2 o;clear g h o;go_enter pH,pi;go_wp2;go_ret;exact⟨_,_,rfl,aL.lit1 (by simp) (by simp),((aq _ _).alloc (cg _) _).alloc (by simp) _⟩
theorem tH (x:aw)(d n f:bh)(g:cG fS)(w:World)(j:w.cell? ⟨d,7,tM⟩=tG (tU g n f))(e:eB n x=tP):
  zS 192 #[Z U x,tW (tG ⟨d,0,tM⟩)] w (ua tR):=by
 have h0:0<=x/\x<n:=by simpa[eB] using e
 obtain⟨h0,h⟩:=h0;have d0:decide (x<0)=tR:=by simpa using h0
 have d1:decide ((n:aw)<=x)=tR:=by simpa using h
 clear e;go_enter func192,ntmps192;go_wp2;go_ret;exact⟨rfl,rfl⟩
theorem wN (x:aw)(e n f:bh)(g:cG fS)(w:World)(j:w.cell? ⟨e,7,tM⟩=tG (tU g n f))(d:eB n x=tR):
  zS 192 #[Z U x,tW (tG ⟨e,0,tM⟩)] w (ua tP):=by
 by_cases h0:0<=x
 ·have h:n<=x:=by simp[eB] at d;exact d h0
  clear d;go_enter func192,ntmps192;go_wp2;go_ret;exact⟨rfl,rfl⟩
 ·have h:x<0:=by omega
  clear d h0;go_enter func192,ntmps192;go_wp2;go_ret;exact⟨rfl,rfl⟩
def DL (w:World)(ao:cG fS)(xs:bj aw):Prop:=
 0<xs.length->∃b d,ao=tG ⟨b,d,tM⟩/\∀(k:bh)(z:aw),xs[k]?=tG z->w.cell? ⟨b,d+k,tM⟩=tG (Z U z)
theorem FY (d n g:bh)(h:cG fS)(ao:cG fS)(cap:bh)(xs:bj aw)(w:World)(t:w.cell? ⟨d,7,tM⟩=tG (tU h n g))(E:xs.length<=100000)
  (j:DL w ao xs)(o:∀x∈xs,eB n x=tP):
  zS 152 #[tU ao xs.length cap,.func (.func 192) #[] #[tW (tG ⟨d,0,tM⟩)]] w (Z U (-1)):=by
 have u:=zH j;have v:=zH o;clear j o;go_enter qT,pS;go_wp2
 go_loop [8] (λi=>∃k:bh,k<=xs.length/\i= Z U (k:aw)) (λi=>xs.length-(de i).toNat)
 case atStart=>exact⟨0,cN _,rfl⟩
 case round=>
  obtain⟨k,G,rfl⟩:=hrel
  by_cases y:k<xs.length
  ·obtain⟨b,J,rfl,q⟩:=u.out (by omega)
   obtain⟨z,f⟩:∃z,xs[k]?=tG z:=⟨_,ap y⟩
   have K:=q k z f;have A:cj (eB n z=tP):=v.out z (cd f);clear q f
   go_wp2_with (go_at_call 192;refine(tH _ d n g h _ t A.out).mono ?_;rintro e R ⟨rfl,rfl⟩)
   go_round
   case rel=>exact⟨k+1,by omega,by go_num⟩
   case measure=>simp[de];omega
  ·go_wp2
   go_ret;exact⟨rfl,rfl⟩
theorem FZ (f n g:bh)(h:cG fS)(ao:cG fS)(cap:bh)(xs:bj aw)(i:bh)(y:aw)(w:World)(o:w.cell? ⟨f,7,tM⟩=tG (tU h n g))(hl:xs.length<=100000)
  (q:DL w ao xs)(t:∀x∈xs.take i,eB n x=tP)(hi:xs[i]?=tG y)(u:eB n y=tR):
  zS 152 #[tU ao xs.length cap,.func (.func 192) #[] #[tW (tG ⟨f,0,tM⟩)]] w (Z U (i:aw)):=by
 have ue:i<xs.length:=(bl.1 hi).1;have A:=zH q;have E:=zH t;have G:=zH hi;have J:=zH u;clear q t hi u;go_enter qT,pS;go_wp2
 go_loop [8] (λv=>∃k:bh,k<=i/\v= Z U (k:aw)) (λv=>xs.length-(de v).toNat)
 case atStart=>exact⟨0,cN _,rfl⟩
 case round=>
  obtain⟨k,hk,rfl⟩:=hrel;have K:k<xs.length:=by omega
  obtain⟨b,up,rfl,j⟩:=A.out (by omega);obtain⟨z,d⟩:∃z,xs[k]?=tG z:=⟨_,ap K⟩
  have ur:=j k z d
  by_cases R:k<i
  ·have HZ:cj (eB n z=tP):=E.out z (cd (i:=k) (by rw[mz,cI R];exact d))
   clear j d
   go_wp2_with (go_at_call 192;refine(tH _ f n g h _ o HZ.out).mono ?_;rintro e w1 ⟨rfl,rfl⟩)
   go_round
   case rel=>exact⟨k+1,by omega,by go_num⟩
   case measure=>simp[de];omega
  ·obtain rfl:i=k:=by omega
   have e:z=y:=by have:=G.out;rw[d] at this;exact cE this
   subst e;clear j d
   go_wp2_with (go_at_call 192;refine(wN _ f n g h _ o J.out).mono ?_;rintro e w1 ⟨rfl,rfl⟩)
   go_ret;exact⟨rfl,rfl⟩
theorem eu {n:bh}{xs:bj aw}{j:bh}{z:aw}(d:xs[j]?=tG z):
  (xs.take (j+1)).filter (eB n)=(xs.take j).filter (eB n)++(if eB n z then[z] else[]):=by
 rw[aH d,mj,ks]
 split<;>simp
def fP (w:World)(g cap:bh)(n:bh)(xs:bj aw)(j:bh):Prop:=
 ∃d,w.heap[g]?=tG (uc d 3 (0,0))/\d.size=cap/\d.toList.take ((xs.take j).filter (eB n)).length=((xs.take j).filter (eB n)).map (eS .i64)/\∀(k:bh)(z:aw),j<=k->xs[k]?=tG z->d[k]?=tG (Z U z)
theorem fP.cell {w:World}{g cap n:bh}{xs:bj aw}{j:bh}(h:fP w g cap n xs j){z:aw}(d:xs[j]?=tG z):w.cell? ⟨g,j,tM⟩=tG (Z U z):=by
 obtain⟨e,f,_,_,o⟩:=h;rw[bw w g j e _ _ f];exact o j z (cg _) d
theorem fP.skip {w:World}{g cap n:bh}{xs:bj aw}{j:bh}(h:fP w g cap n xs j){z:aw}(d:xs[j]?=tG z)(f:eB n z=tR):fP w g cap n xs (j+1):=by
 obtain⟨o,q,t,u,v⟩:=h;have e:(xs.take (j+1)).filter (eB n)=(xs.take j).filter (eB n):=by rw[eu d,f];simp
 exact⟨o,q,t,by rw[e];exact u,λk z x d=>v k z (by omega) d⟩
theorem fP.put {w:World}{g cap n:bh}{xs:bj aw}{j:bh}(h:fP w g cap n xs j)(y:xs.length<=cap){z:aw}(d:xs[j]?=tG z)(o:eB n z=tP)(A:((xs.take j).filter (eB n)).length<j):
  fP (w.setCell ⟨g,((xs.take j).filter (eB n)).length,tM⟩ (Z U z)) g cap n xs (j+1):=by
 obtain⟨f,q,t,u,v⟩:=h;have e:(xs.take (j+1)).filter (eB n)=(xs.take j).filter (eB n)++[z]:=by rw[eu d,o];simp
 have E:j<xs.length:=(bl.1 d).1;refine⟨_,gj w g _ f _ _ q,by simpa using t, ?_,λk z G d=> ?_⟩
 ·rw[e]
  simp only[bo,eV,mC,Array.toList_setIfInBounds,dp,mA,pm];generalize hF:(xs.take j).filter (eB n)=F at*;have x:F.length<f.toList.length:=by have:=f.length_toList;omega
  rw[ju,List.take_set,u,List.getElem?_set_self (by exact x)];rw[List.set_eq_of_length_le (by simp)];rfl
 ·rw[gd,bx (by omega)]
  exact v k z (by omega) d
theorem F3 (base d n j:bh)(o:cG fS)(ao:cG fS)(cap:bh)(xs:bj aw)(w:World)(t:w.cell? ⟨d,7,tM⟩=tG (tU o n j))(u:xs.length<=100000)
  (f:aL w base (tU ao xs.length cap) xs)(h:∀x∈xs,eB n x=tP):
  ge am 190 #[tU ao xs.length cap,.func (.func 192) #[] #[tW (tG ⟨d,0,tM⟩)]] w (FX base w (xs.filter (eB n))):=by
 have q:DL w ao xs:=λh0=>by
  obtain⟨g,e,_,_,v⟩:=f.shape h0;exact⟨g,0,e,λk z y=>by rw[cL];exact v k z y⟩
 have e:xs.filter (eB n)=xs:=List.filter_eq_self.2 h;rw[e];have A:=zH f;have E:=zH (FY d n j o ao cap xs w t u q h);clear f q h e;go_enter func190,ntmps190
 go_wp2_with (go_at_call 152;refine E.out.mono ?_;rintro e G ⟨rfl,rfl⟩)
 go_ret;exact⟨_,_,rfl,A.out,aq _ _⟩
theorem fP.start {w:World}{base:bh}{g cap n:bh}{xs:bj aw}{i:bh}{y:aw}(h:aL w base (tU (tG ⟨g,0,tM⟩) xs.length cap) xs)(j:∀x∈xs.take i,eB n x=tP)(hi:xs[i]?=tG y)(u:eB n y=tR):
  fP w g cap n xs (i+1)/\((xs.take (i+1)).filter (eB n)).length=i/\xs.length<=cap/\base<=g/\cap<=eC:=by
 have J:i<xs.length:=(bl.1 hi).1;have e:(xs.take (i+1)).filter (eB n)=xs.take i:=by
  rw[eu hi,u,List.filter_eq_self.2 j];simp
 rcases h.2 with⟨d,_⟩|⟨K,R,o,d,v,A,E,G,h6,t⟩
 ·simp at d
 ·simp only[fm,dd,eR,pf,true_and] at d
  obtain⟨rfl,rfl⟩:=d;have j:∀(k:bh)(z:aw),xs[k]?=tG z->o[k]?=tG (Z U z):=λk z f=>by
   have hk:k<xs.length:=(bl.1 f).1;have q:(o.toList.take (xs.length*1))[k]?=tG (Z U z):=by rw[t];simp[f]
   rw[mz,cI (by omega)] at q;simpa using q
  refine⟨⟨o,A,by omega, ?_,λk z _ f=>j k z f⟩,by rw[e,ee];omega,E,v,G⟩;rw[e,ee,gR (by omega)];have q:=congrArg (List.take i) t;rw[List.take_take,gR (by omega)] at q;rw[q,List.map_take]
theorem fP.finish {w:World}{base g cap n:bh}{xs:bj aw}(h:fP w g cap n xs xs.length)(o:base<=g)(t:xs.length<=cap)(q:cap<=eC)(m:bh)(u:(xs.filter (eB n)).length+m<=xs.length):
  ∃d,w.heap[g]?=tG (uc d 3 (0,0))/\d.size=cap/\
   aL (w.setRow g (d.toList.take (xs.filter (eB n)).length++km m (eS .i64 0)++d.toList.drop ((xs.filter (eB n)).length+m)).toArray) base (tU (tG ⟨g,0,tM⟩) (xs.filter (eB n)).length cap) (xs.filter (eB n)):=by
 obtain⟨d,e,f,j,v⟩:=h;rw[m5 (cg _)] at j;have x:d.toList.length=cap:=by rw[Array.length_toList];exact f
 refine⟨d,e,f,by simp,.inr ⟨g,cap,_,rfl,o,setRow_heap _ _ _ _ _ _ e,by omega,q, ?_, ?_⟩⟩
 ·simp only[List.size_toArray,bo,ee,List.length_replicate,List.length_drop];omega
 ·rw[j,eq,Nat.mul_one]
  exact List.take_left' (by simp)
theorem F4 (base d n o:bh)(q:cG fS)(g:bh)(cap:bh)(xs:bj aw)(i:bh)(y:aw)(w:World)(hc:w.cell? ⟨d,7,tM⟩=tG (tU q n o))(hl:xs.length<=100000)
  (vm:d<base)(R:aL w base (tU (tG ⟨g,0,tM⟩) xs.length cap) xs)(ue:∀x∈xs.take i,eB n x=tP)(hi:xs[i]?=tG y)(hy:eB n y=tR):
  ge am 190 #[tU (tG ⟨g,0,tM⟩) xs.length cap,.func (.func 192) #[] #[tW (tG ⟨d,0,tM⟩)]] w (FX base w (xs.filter (eB n))):=by
 have we:i<xs.length:=(bl.1 hi).1;have hr:DL w (tG ⟨g,0,tM⟩) xs:=λh0=>by
  obtain⟨g',e,_,_,vp⟩:=R.shape h0;exact⟨g',0,e,λk z t=>by rw[cL];exact vp k z t⟩
 obtain⟨up,ur,uv,hg,ux⟩:=fP.start R ue hi hy;have HI:=zH (FZ d n o q (tG ⟨g,0,tM⟩) cap xs i y w hc hl hr ue hi hy);have vq:=zH up;have vr:=zH ux;clear ux;have vc:=zH ur;obtain⟨i0,vt,vu,wg,wj⟩:=kB fe;have wk:((i:aw)== -1)=tR:=cT.2 (by omega);clear R hr ue hi hy up ur;go_enter func190,ntmps190
 go_wp2_with (go_at_call 152;refine HI.out.mono ?_;rintro e w1 ⟨rfl,rfl⟩)
 go_loopw [5,6] (λvi vj wr=>∃j:bh,j<=xs.length/\i<j/\vj= Z U (j:aw)/\vi= Z U ((((xs.take j).filter (eB n)).length:bh):aw)/\((xs.take j).filter (eB n)).length<j/\fP wr g cap n xs j/\aE base w wr) (λ_ vj _=>xs.length-(de vj).toNat)
 case atStart=>exact⟨i+1,by omega,by omega,by go_num,by rw[vc.out],by rw[vc.out];omega,vq.out,aq _ _⟩
 case round=>
  obtain⟨j,hj,wl,rfl,rfl,vx,v,A⟩:=hrel;have vd:wr.cell? ⟨d,7,tM⟩=tG (tU q n o):=(A.cell (p:=⟨d,7,tM⟩) vm).trans hc
  by_cases vy:j<xs.length
  ·obtain⟨z,t⟩:∃z,xs[j]?=tG z:=⟨_,ap vy⟩
   have ws:=v.cell t;have E:=zH t;have G:=zH v;clear t v
   by_cases J:eB n z=tP
   ·have f:=zH J
    clear J;have xf:wr.frozen? ⟨g,((xs.take j).filter (eB n)).length,tM⟩=tR:=by
     obtain⟨K,h1,_⟩:=G.out;exact ei _ _ _ _ _ h1
    obtain⟨u,xj⟩:∃u,wr.cell? ⟨g,((xs.take j).filter (eB n)).length,tM⟩=tG u:=by
     obtain⟨K,h1,h2,_⟩:=G.out;rw[bw _ _ _ _ _ _ h1];exact⟨_,mx (by omega)⟩
    have h:cj (fP (wr.setCell ⟨g,((xs.take j).filter (eB n)).length,tM⟩ (Z U z)) g cap n xs (j+1)/\((xs.take (j+1)).filter (eB n)).length=((xs.take j).filter (eB n)).length+1):=
     ⟨G.out.put uv E.out f.out vx,by rw[eu E.out,f.out];simp⟩
    go_wp2_with (go_at_call 192;refine(tH _ d n o q _ vd f.out).mono ?_;rintro e w1 ⟨rfl,rfl⟩)
    go_roundw
    case rel=>exact⟨j+1,by omega,by omega,by go_num,by rw[h.out.2];go_num,by rw[h.out.2];omega,h.out.1,A.setCell (by exact hg) _⟩
    case measure=>simp[de];omega
   ·have f:cj (eB n z=tR):=by unfold cj;simpa using J
    clear J;have h:cj (fP wr g cap n xs (j+1)/\((xs.take (j+1)).filter (eB n)).length=((xs.take j).filter (eB n)).length):=
     ⟨G.out.skip E.out f.out,by rw[eu E.out,f.out];simp⟩
    go_wp2_with (go_at_call 192;refine(wN _ d n o q _ vd f.out).mono ?_;rintro e w1 ⟨rfl,rfl⟩)
    go_roundw
    case rel=>exact⟨j+1,by omega,by omega,by go_num,by rw[h.out.2],by rw[h.out.2];omega,h.out.1,A⟩
    case measure=>simp[de];omega
  ·obtain rfl:j=xs.length:=by omega
   rw[m5 (cg _)] at*;obtain⟨K,vf,xo,vh⟩:=v.finish hg uv vr.out (xs.length-(xs.filter (eB n)).length) (by omega);have HC:=zH vf;have HF:=zH vh;have HS:cj (0<xs.length-(xs.filter (eB n)).length):=by unfold cj;omega
   have HT:cj ((xs.filter (eB n)).length+(xs.length-(xs.filter (eB n)).length)<=K.size):=by unfold cj;omega
   have xp:¬cap=(xs.filter (eB n)).length:=by omega
   clear vf vh v
   go_wp2_with (refine oz _ rfl (.tmp 38) 35 3 rfl i0 (Z U 0) gb vt vu rfl rfl g (xs.filter (eB n)).length (xs.length-(xs.filter (eB n)).length) (cap-(xs.filter (eB n)).length) rfl K 3 HC.out HT.out HS.out ?_)
   go_ret;exact⟨_,_,rfl,by have:=HF.out;rwa [eq] at this,below_setRow A hg _⟩
theorem Ez (p:aw->mm)(xs:bj aw):(∀x∈xs,p x=tP)\/∃i y,(∀x∈xs.take i,p x=tP)/\xs[i]?=tG y/\p y=tR:=by
 induction xs with
 |nil=>exact .inl (by simp)
 |cons a l ih=>
  by_cases d:p a=tP
  ·rcases ih with h|⟨i,y,e,f,g⟩
   ·exact .inl (by simpa[d] using h)
   ·exact .inr ⟨i+1,y,by simpa[d] using e,by simpa using f,g⟩
  ·exact .inr ⟨0,a,by simp,by simp,by simpa using d⟩
theorem EA (x:Ins)(at_:aw):(fJ x at_).length<=2:=by
 unfold fJ;repeat' split
 all_goals simp
theorem EB (c:dx)(at_:bh)(x:Ins)(w:World)(o:cZ w w.heap.size c.insA c.ins)(f:c.ins[at_]?=tG x)(hn:c.ins.length<=90000):
  ge am 140 #[ub c.cells,Z U (at_:aw)] w (fK w ((fJ x at_).filter (eB c.ins.length))):=by
 obtain⟨nm,ux,vc,vd,vf,rp,vh,vm,vp,vq,vr,insA,q,ins⟩:=c;simp only at o f hn;have G:at_<ins.length:=(bl.1 f).1;have vt:(at_:aw)<(ins.length:aw):=by omega
 obtain⟨b,J,rfl,hb,K⟩:=o (by intro e;rw[e] at G;simp at G);have R:∀W,aE w.heap.size w W->∀j u,x.cells.toList[j]?=tG u->W.cell? ((⟨b,J+at_*13,tM⟩:fS).add j)=tG u:=λW hW j u hu=>by
  rw[cY,hW.cell (p:=⟨b,_,tM⟩) hb];exact K at_ x f j u hu
 have HC:=zH R;have up:(fJ x (at_:aw)).length<=2:=EA _ _;obtain⟨xs,t⟩:=zE (fJ x (at_:aw));rw[t] at up⊢;have ue:=zH t;clear K R f o t;simp only[dx.cells];go_enter func140,ntmps140
 go_wp2_with (first|(refine au rfl 42 _ rfl _ rfl x.cells _ (HC.out _ ((aq _ _).alloc (cg _) _)) cD rfl (by kernel_rfl) ?_)|(go_at_call 191;refine(Hd x _ _ (by omega) (by omega)).mono ?_;rintro e d ⟨ao,cap,rfl,v,z⟩))
 rw[ue.out] at v⊢;clear ue;have A:d.cell? ⟨w.heap.size,7,tM⟩=tG (tU (tG ⟨b,J,tM⟩) ins.length q):=by
  rw[z.cell (p:=⟨w.heap.size,7,tM⟩) (by simp),World.cell?_alloc_new];rfl
 have HD:cj (ge am 190 #[tU ao xs.length cap,.func (.func 192) #[] #[tW (tG ⟨w.heap.size,0,tM⟩)]] d (FX (w.heap.size+1) d (xs.filter (eB ins.length)))):=by
  have E:aL d (w.heap.size+1) (tU ao xs.length cap) xs:=v.mono (by simp);rcases Ez (eB ins.length) xs with h|⟨i,y,h1,h2,h3⟩
  ·exact F3 _ w.heap.size ins.length q _ ao cap xs d A (by omega) E h
  ·obtain⟨g,rfl,_⟩:=E.shape (by have:=(bl.1 h2).1;omega)
   exact F4 _ w.heap.size ins.length q _ g cap xs i y d A (by omega) (by omega) E h1 h2 h3
 have HB:cj (aE w.heap.size w d):=((aq _ _).alloc (cg _) _).trans (z.mono (by simp));clear v z A HC
 go_wp2_with (go_at_call 190;refine HD.out.mono ?_;rintro e w2 ⟨vu,vx,rfl,ur,uv⟩)
 go_ret;exact⟨_,_,rfl,ur.mono (by omega),HB.out.trans (uv.mono (by omega))⟩
theorem CV (c:dx)(at_:bh)(x:Ins)(w:World)(J:cZ w w.heap.size c.insA c.ins)(A:c.ins[at_]?=tG x)(hn:c.ins.length<=100000):
  ge am 151 #[ub c.cells,Z U (at_:aw)] w (fK w ((fJ x at_).filter (eB c.ins.length))):=by
 obtain⟨nm,wl,ws,xf,xj,rp,xo,xp,xt,xF,xT,insA,ur,ins⟩:=c;simp only at J A hn;have uv:at_<ins.length:=(bl.1 A).1;have yb:(at_:aw)<(ins.length:aw):=by omega
 obtain⟨b,K,rfl,hb,ux⟩:=J (by intro e;rw[e] at uv;simp at uv);have vc:∀W,aE w.heap.size w W->∀j u,x.cells.toList[j]?=tG u->W.cell? ((⟨b,K+at_*13,tM⟩:fS).add j)=tG u:=λW hW j u hu=>by
  rw[cY,hW.cell (p:=⟨b,_,tM⟩) hb];exact ux at_ x A j u hu
 have HC:=zH vc;have HX:=zH A;clear ux vc A;obtain⟨i0,hi,vq,vr,vt⟩:=kB fe;obtain⟨xs,R⟩:=zE (fJ x (at_:aw));rw[R];have ue:=zH R;clear R;simp only[dx.cells];go_enter func151,ntmps151
 go_wp2_with (first|((refine au rfl 42 _ rfl _ rfl x.cells _ (HC.out _ ((aq _ _).alloc (cg _) _)) cD rfl (by kernel_rfl) ?_))|(go_at_call 198;refine(CU x _ _ (by omega) (by omega)).mono ?_;rintro e d ⟨ao,cap,rfl,up,G⟩))
 rw[ue.out] at up⊢;have yd:xs.length<=2:=by
  rw[<-ue.out];unfold fJ;repeat' split
  all_goals simp
 clear ue;have vd:aE w.heap.size w d:=((aq _ _).alloc (cg _) _).trans (G.mono (by simp));have vu:w.heap.size<d.heap.size:=by have:=G.size;simp at this;omega
 have vf:d.cell? ⟨w.heap.size,7,tM⟩=tG (tU (tG ⟨b,K,tM⟩) ins.length ur):=by
  rw[G.cell (p:=⟨w.heap.size,7,tM⟩) (by simp),World.cell?_alloc_new];rfl
 have HO:=zH up;have HB:=zH vd;clear up G vd HC HX J
 go_loopw [5,7] (λv i wr=>∃k:bh,k<=xs.length/\i= Z U (k:aw)/\aL wr d.heap.size v ((xs.take k).filter (eB ins.length))/\aE d.heap.size d wr) (λ_ i _=>xs.length-(de i).toNat)
 case atStart=>exact⟨0,cN _,rfl,aL.nil _ _,aq _ _⟩
 case round=>
  obtain⟨k,hk,rfl,h,o⟩:=hrel;have vx:wr.cell? ⟨w.heap.size,7,tM⟩=tG (tU (tG ⟨b,K,tM⟩) ins.length ur):=by
   rw[o.cell (p:=⟨w.heap.size,7,tM⟩) vu];exact vf
  by_cases vy:k<xs.length
  ·obtain⟨g,rfl,ye,we,E⟩:=HO.out.shape (by omega)
   obtain⟨z,t⟩:∃z,xs[k]?=tG z:=⟨_,ap vy⟩
   have wg:wr.cell? ⟨g,k,tM⟩=tG (Z U z):=by
    rw[o.cell (p:=⟨g,k,tM⟩) we];exact E k z t
   have yi:(k:aw)<(xs.length:aw):=by omega
   by_cases h0:0<=z
   ·by_cases h1:z<(ins.length:aw)
    ·have q:eB ins.length z=tP:=by simp only[eB,oE];omega
     have f:=zH h;have HZ:=zH t;have HI:=zH q;have yk:((xs.take k).filter (eB ins.length)).length<=k:=eJ (td _ _) (List.length_take_le _ _);have HG:=zH E;clear h t q E;go_wp2
     go_quiet (fail)
     go_wp2_with (at_builtin;refine wpList_append_own _ rfl _ _ 35 rfl d.heap.size 3 i0 (Z U 0) 1 8 gb hi vq vr vt rfl (by decide) _ _ _ rfl ((mW _ f.out).alloc _) ⟨wr.heap.size,0,tM⟩ 1 1 [Z U z] rfl rfl (cell_one_new _ _ _) (by simp[ct]) ?c3 ?c4 ?c5 ?_)
     case c3=>simp only[eC];omega
     case c4=>omega
     case c5=>rw[World.size_alloc];exact Nat.le_succ_of_le o.size
     intro v' w2 vh vm _;have y:cj (aL w2 d.heap.size v' ((xs.take (k+1)).filter (eB ins.length))/\aE d.heap.size d w2):=
      ⟨by rw[aH HZ.out,mj,ks,HI.out];exact aL.app vh,below_grow (hU o nq) o.size (mW nq f.out) vm⟩
     clear vh vm o vx vf wg;go_wp2;go_roundw
     case rel=>exact⟨k+1,by omega,by go_num,y.out.1,y.out.2⟩
     case measure=>simp[de];omega
    ·have q:eB ins.length z=tR:=by simp only[eB,pl];omega
     have y:cj ((xs.take (k+1)).filter (eB ins.length)=(xs.take k).filter (eB ins.length)):=by
      unfold cj;rw[aH t,mj,ks,q];simp
     have f:=zH h;have hd:decide (z<(ins.length:aw))=tR:=by simpa using h1
     clear h t q E h1;go_wp2
     go_quiet (fail)
     go_wp2;go_roundw
     case rel=>exact⟨k+1,by omega,by go_num,by rw[y.out];exact f.out,hU o _⟩
     case measure=>simp[de];omega
   ·have q:eB ins.length z=tR:=by simp only[eB,pl];omega
    have y:cj ((xs.take (k+1)).filter (eB ins.length)=(xs.take k).filter (eB ins.length)):=by
     unfold cj;rw[aH t,mj,ks,q];simp
    have f:=zH h;have hd:decide (0<=z)=tR:=by simpa using h0
    clear h t q E;go_wp2
    go_quiet (fail)
    go_wp2;go_roundw
    case rel=>exact⟨k+1,by omega,by go_num,by rw[y.out];exact f.out,hU o _⟩
    case measure=>simp[de];omega
  ·have vp:xs.take k=xs:=m5 (by omega)
   rw[vp] at h;have f:=zH h;clear vp h;go_wp2;go_ret;have hs:∃ao cap,u5= tU ao (xs.filter (eB ins.length)).length cap:=f.out.isSlice;obtain⟨wj,wk,e⟩:=hs;rw[e] at f⊢;exact⟨wj,wk,rfl,f.out.mono (base':=w.heap.size) (by omega),HB.out.trans (o.mono (B':=w.heap.size) (by omega))⟩
theorem CW (c:dx)(x:bh)(w:World)(d:cZ w w.heap.size c.insA c.ins)(e:x<c.ins.length)(f:c.ins.length<=90000):
  ge am 140 #[ub c.cells,Z U (x:aw)] w (fK w (ints (aU c.ins x))):=by
 have h:c.ins[x]?=tG c.ins[x]:=ap e;rw[rW h];exact EB c x _ w d h f
def gK (w:World)(R n base:bh)(A:bh->Prop)(f:bh->bj bh):Prop:=
 ∃vals:eA cA,(∀(i:bh)(v:cA)(k:bh),vals[i]?=tG v->v.ownBlock=tG k->¬A k)/\vals.size=n/\w.heap[R]?=tG (uc vals 35 (0,0))/\R<base/\(∀i v,vals[i]?=tG v->aL w base v (ints (f i)))/\
  ∀(i j k:bh)(d e:cA),i≠j->vals[i]?=tG d->vals[j]?=tG e->d.ownBlock=tG k->e.ownBlock≠tG k
theorem gK.ext {w w':World}{R n base:bh}{A:bh->Prop}{d:bh->bj bh}{M:bh->Prop}(h:gK w R n base A d)(e:Ext M w w')(f:∀k,k=R\/base<=k->k<w.heap.size->¬M k):gK w' R n base A d:=by
 obtain⟨vals,u,x,j,y,z,E⟩:=h;refine⟨vals,u,x,e.heap j (f R (.inl rfl) (br.1 j).1),y,λi v G=> ?_,E⟩;have o:=z i v G;refine⟨o.1, ?_⟩;rcases o.2 with J|⟨g,cap,K,e1,q,t,e4⟩
 ·exact .inl J
 ·exact .inr ⟨g,cap,K,e1,q,e.heap t (f g (.inr q) (br.1 t).1),e4⟩
theorem gK.fresh {w:World}{R n base:bh}{A A':bh->Prop}{d:bh->bj bh}(h:gK w R n base A d)(f:∀k,A' k->w.heap.size<=k):gK w R n base A' d:=by
 obtain⟨vals,y,g,j,o,e,q⟩:=h;exact⟨vals,λi v k t u x=>by have:=((e i v t).lt k u).2;have:=f k x;omega,g,j,o,e,q⟩
theorem gK.weaken {w:World}{R n base:bh}{A A':bh->Prop}{d:bh->bj bh}(h:gK w R n base A d)(e:∀k,A' k->A k):gK w R n base A' d:=by
 obtain⟨vals,f,g⟩:=h;exact⟨vals,λi v k j o q=>f i v k j o (e k q),g⟩
theorem gK.app {w y:World}{R n base i x g cap:bh}{q:bh->bj bh}{f:cA}{vals:eA cA}{A:bh->Prop}(vq:∀k,A k->k<w.heap.size)(hA:∀(i:bh)(v:cA)(k:bh),vals[i]?=tG v->v.ownBlock=tG k->¬A k)(vr:vals.size=n)(hR:w.heap[R]?=tG (uc vals 35 (0,0)))(hb:R<base)
  (K:∀i v,vals[i]?=tG v->aL w base v (ints (q i)))(ue:∀(i j k:bh)(f vj:cA),i≠j->vals[i]?=tG f->vals[j]?=tG vj->f.ownBlock=tG k->vj.ownBlock≠tG k)
  (hi:vals[i]?=tG f)(hx:Ext (λk=>f.ownBlock=tG k) w y)(vf:aL y base (tU (tG ⟨g,0,tM⟩) ((q i).length+1) cap) (ints (q i++[x])))
  (vh:f.ownBlock=tG g\/w.heap.size<=g):
  gK (y.setCell ⟨R,i,tM⟩ (tU (tG ⟨g,0,tM⟩) ((q i).length+1) cap)) R n base A (λj=>if j=i then q i++[x] else q j):=by
 have vy:R<w.heap.size:=(br.1 hR).1;have vt:¬f.ownBlock=tG R:=λe=>by have:=((K i f hi).lt R e).1;omega
 have vu:=hx.heap hR vt;have vm:Ext (·=R) y (y.setCell ⟨R,i,tM⟩ (tU (tG ⟨g,0,tM⟩) ((q i).length+1) cap)):=Ext.set1 _ _ _ _;have G:i<vals.size:=(br.1 hi).1;refine⟨_, ?_,by simpa using vr,gj _ _ _ _ _ _ vu,hb,λj v d=> ?_, ?_⟩
 ·intro j v k d hk up
  rw[gd] at d
  by_cases e:i=j
  ·subst e
   rw[cI rfl,cI G] at d;obtain rfl:=cE d;have z:g=k:=by simpa[et] using hk
   subst z;rcases vh with o|o
   ·exact hA i f g hi o up
   ·have:=vq g up;omega
  ·rw[bx e] at d
   exact hA j v k d hk up
 ·rw[gd] at d
  by_cases e:i=j
  ·subst e
   rw[cI rfl,cI G] at d;obtain rfl:=cE d
   show aL _ _ _ (ints (if i=i then _ else _))
   rw[cI rfl];refine⟨vf.1, ?_⟩;rcases vf.2 with o|⟨E,ur,uv,J,z,e3,e4⟩
   ·exact .inl o
   ·exact .inr ⟨E,ur,uv,J,z,vm.heap e3 (by omega),e4⟩
  ·rw[bx e] at d
   show aL _ _ _ (ints (if j=i then _ else _))
   rw[bx (λh:j=i=>e h.symm)];have ho:=K j v d;refine⟨ho.1, ?_⟩;rcases ho.2 with o|⟨E,ur,uv,J,z,e3,e4⟩
   ·exact .inl o
   ·have vx:¬f.ownBlock=tG E:=λh=>ue i j E f v e hi d h (by rw[J];rfl)
    exact .inr ⟨E,ur,uv,J,z,vm.heap (hx.heap e3 vx) (by omega),e4⟩
 ·intro a b k va vb ux u t vc vd
  rw[gd] at u t;have vp:∀(j:bh)(v:cA),j≠i->vals[j]?=tG v->v.ownBlock≠tG g:=by
   intro j v hj d h;rcases vh with o|o
   ·exact ue i j g f v (λe=>hj e.symm) hi d o h
   ·have:=((K j v d).lt g h).2;omega
  by_cases ea:i=a
  ·subst ea
   rw[cI rfl,cI G] at u;obtain rfl:=cE u;rw[bx ux] at t;have:g=k:=by simpa[et] using vc
   subst this;exact vp b vb (λe=>ux e.symm) t vd
  ·rw[bx ea] at u
   by_cases eb:i=b
   ·subst eb
    rw[cI rfl,cI G] at t;obtain rfl:=cE t;have:g=k:=by simpa[et] using vd
    subst this;exact vp a va (λe=>ea e.symm) u vc
   ·rw[bx eb] at t
    exact ue a b k va vb ux u t vc vd
def dU (at_:bh)(d:bh->bj bh)(x:bh):bh->bj bh:=λj=>if j=x then d x++[at_] else d j
def gu (d:bj Ins)(e:bh->bj bh)(at_:bh):bh->bj bh:=(aU d at_).foldl (dU at_) e
def aB (d:bj Ins):bh->bj bh:=(du d.length).foldl (gu d) (λ_=>[])
def tJ (w:World)(n:bh)(d:bh->bj bh)(e:Ending)(w':World):Prop:=
 ∃R,e= ud (tU (tG ⟨R,0,tM⟩) n n)/\w.heap.size<=R/\gK w' R n (R+1) (λ_=>me) d/\aE w.heap.size w w'
def He (d:bj Ins)(R:bh)(e:World)(c:cA)(wr:World):Prop:=
 ∃j:bh,j<=d.length/\c= Z U (j:aw)/\gK wr R d.length (R+1) (λ_=>me) ((du j).foldl (gu d) (λ_=>[]))/\(∀i,((du j).foldl (gu d) (λ_=>[]) i).length<=2*j)/\Ext (λk=>R<=k) e wr
def AU (d:bj Ins)(R:bh)(f w2:World)(at_:bh)(e:bh->bj bh)(A:bh->Prop)(c:cA)(wr:World):Prop:=
 ∃q:bh,q<=(aU d at_).length/\c= Z U (q:aw)/\gK wr R d.length (R+1) A (((aU d at_).take q).foldl (dU at_) e)/\(∀i,(((aU d at_).take q).foldl (dU at_) e i).length<=(e i).length+q)/\
  Ext (λk=>R<=k) f wr/\∀k,A k->k<wr.heap.size/\wr.heap[k]?=w2.heap[k]?
theorem wO:(am.info? 35).map (λi=>(i.zero,i.size,i.bytes))=tG (tG (tU tM 0 0),1,24):=by kernel_rfl
theorem yK (c:dx)(w:World)(vx:cZ w w.heap.size c.insA c.ins)(hn:c.ins.length<=90000):
  ge am 103 #[ub c.cells] w (tJ w c.ins.length (aB c.ins)):=by
 obtain⟨nm,G,J,K,R,rp,ue,up,ur,uv,ux,insA,vc,ins⟩:=c;simp only at hn vx;simp only[dx.cells];obtain⟨i0,hi,xp,xt,xF⟩:=kB wO;have xT:=zH vx;clear vx;go_enter func103,ntmps103
 go_wp2_with (at_make;refine d9 rfl (.tmp 9) (.tmp 9) 46 rfl 35 i0 (tU tM 0 0) rn hi xp xt rfl .i64 .i64 _ _ ins.length rfl rfl rfl rfl (by rw[xF];omega) (by unfold eC;omega) ?_)
 obtain⟨N,hN⟩:=zE w.heap.size;obtain⟨g,vd⟩:=zE ((w.alloc (uc #[tS nm,Z U G,tU J K R,ua rp,tS ue,Z U up,tU ur uv ux,tU insA ins.length vc] 38)).alloc (uc (eI ins.length (ci tM 0 0)) 35));have yb:Ext (λ_=>me) w g:=by rw[<-vd];exact((Ext.refl _ w).alloc _).alloc _
 have yd:g.heap[N]?=tG (uc #[tS nm,Z U G,tU J K R,ua rp,tS ue,Z U up,tU ur uv ux,tU insA ins.length vc] 38 (0,0)):=by
  rw[<-vd,<-hN,cJ _ _ _ (by simp)];exact alloc_at _ _
 have ye:g.heap[N+1]?=tG (uc (eI ins.length (ci tM 0 0)) 35 (0,0)):=by
  rw[<-vd,<-hN];have:=alloc_at (w.alloc (uc #[tS nm,Z U G,tU J K R,ua rp,tS ue,Z U up,tU ur uv ux,tU insA ins.length vc] 38)) (uc (eI ins.length (ci tM 0 0)) 35)
  rwa [World.size_alloc] at this
 have yi:g.heap.size=N+2:=by rw[<-vd];simp[hN]
 have yk:gK g (N+1) ins.length (N+2) (λ_=>me) (λ_=>[]):=by
  have q:∀(i:bh)(v:cA),(eI ins.length (ci tM 0 0))[i]?=tG v->v=ci tM 0 0:=by
   intro i v h;rw[Array.getElem?_replicate] at h
   split at h
   ·exact(cE h).symm
   ·simp at h
  refine⟨_,λ_ _ _ _ _ h=>h,by simp,ye,by omega,λi v h=>by rw[q i v h];exact aL.nil _ _,λi j k f vj _ u _ h3=>by rw[q i f u] at h3;simp[et] at h3⟩
 rw[vd,hN];have vh:=zH yb;have HC:=zH yd;have A0:=zH yk;have HS:=zH yi;clear vd yb yd ye yi yk hi xp xt xF
 go_loopw [14] (λc wr=>He ins (N+1) g c wr) (λc _=>ins.length-(de c).toNat)
 case atStart=>exact⟨0,cN _,rfl,A0.out,λ_=>by simp,Ext.refl _ _⟩
 case round=>
  obtain⟨j,hj,rfl,o,vy,z⟩:=hrel
  by_cases A1:j<ins.length
  ·have we:=z.heap HC.out (by omega)
   have d:∀q v,((⟨nm,G,J,K,R,rp,ue,up,ur,uv,ux,insA,vc,ins⟩:dx).cells)[q]?=tG v->wr.cell? ⟨N,q,tM⟩=tG v:=λq v h=>by rw[bw _ _ _ _ _ _ we];exact h
   have k0:wr.cell? ⟨N,0,tM⟩=tG (tS nm):=d 0 _ rfl;have k1:wr.cell? ⟨N,1,tM⟩=tG (Z U G):=d 1 _ rfl;have k2:wr.cell? ⟨N,2,tM⟩=tG (tU J K R):=d 2 _ rfl;have k3:wr.cell? ⟨N,3,tM⟩=tG (ua rp):=d 3 _ rfl;have k4:wr.cell? ⟨N,4,tM⟩=tG (tS ue):=d 4 _ rfl;have k5:wr.cell? ⟨N,5,tM⟩=tG (Z U up):=d 5 _ rfl;have k6:wr.cell? ⟨N,6,tM⟩=tG (tU ur uv ux):=d 6 _ rfl;have k7:wr.cell? ⟨N,7,tM⟩=tG (tU insA ins.length vc):=d 7 _ rfl;have yp:cZ wr wr.heap.size insA ins:=((xT.out.ext vh.out (cg _) (λ_ _ _ h=>h)).ext z (by have:=vh.out.size;omega) (λa wg ha h=>by
    obtain⟨b,Cp,e,CA,_⟩:=xT.out wg;rw[ha] at e;obtain rfl:=cE e;simp only at h;omega)).mono (by have:=z.size;have:=vh.out.size;omega)
   have yq:=zH (CW ⟨nm,G,J,K,R,rp,ue,up,ur,uv,ux,insA,vc,ins⟩ j wr yp A1 hn);have yr:=zH z;have A2:=zH o;have yv:=zH vy;have CC:(j:aw)<(ins.length:aw):=by omega
   clear z o vy we d yp
   go_wp2_with (go_at_call 140;refine yq.out.mono ?_;rintro e w2 ⟨A3,A4,rfl,vm,yy⟩)
   obtain⟨t,wj⟩:∃t,t=(du j).foldl (gu ins) (λ_=>[]):=⟨_,rfl⟩
   obtain⟨A,hA⟩:∃A:bh->Prop,A=λk=>(ci A3 (ints (aU ins j)).length A4).ownBlock=tG k:=⟨_,rfl⟩
   have wk:Ext (λ_=>me) wr w2:=Ext.of_below_size yy;have A5:cj (AU ins (N+1) g w2 j t A (Z U 0) w2):=by
    refine⟨0,cN _,rfl, ?_,λi=>by simp,yr.out.trans wk (λ_ h=>h.elim),λk d=> ?_⟩
    ·rw[wj]
     exact(A2.out.fresh (A':=A) (λk d=>by rw[hA] at d;exact(vm.lt k d).1)).ext wk (λ_ _ _ h=>h)
    ·rw[hA] at d;exact⟨(vm.lt k d).2,rfl⟩
   have yW:=zH vm;have HA:=zH hA;have wl:=zH wj;clear vm yy wk hA wj k0 k1 k2 k3 k4 k5 k6 k7 yq
   go_loopw [21] (λc A6=>AU ins (N+1) g w2 j t A c A6) (λc _=>(aU ins j).length-(de c).toNat)
   case atStart=>exact A5.out
   case round=>
    obtain⟨q,hq,rfl,o,E,vp,vq⟩:=hrel;have zc:(ints (aU ins j)).length=(aU ins j).length:=by simp[ints]
    by_cases Bk:q<(aU ins j).length
    ·obtain⟨y,hy⟩:∃y,(aU ins j)[q]?=tG y:=⟨_,ap Bk⟩
     have CD:y<ins.length:=lh (cd hy);obtain⟨g2,rfl,CH,CM,zj⟩:=yW.out.shape (by omega);have hA2:A g2:=by rw[HA.out];rfl
     have zp:=vq g2 hA2;have CN:wr.cell? ⟨g2,q,tM⟩=tG (Z U (y:aw)):=by rw[World.cell?_of_block (w:=w2) zp.2];exact zj q y (by simp[ints,hy])
     obtain⟨vals,zs,zv,vr,CT,vt,An⟩:=o;obtain⟨f,vu⟩:∃f,vals[y]?=tG f:=⟨_,mx (by omega)⟩
     have we:wr.cell? ⟨N+1,y,tM⟩=tG f:=by rw[bw _ _ _ _ _ _ vr];exact vu
     have C4:(y:aw)<(ins.length:aw):=by omega
     have C5:(q:aw)<((aU ins j).length:aw):=by omega
     have C6:q<2:=by have:=fF ins j;omega
     obtain⟨rs,ws⟩:∃rs,rs=((aU ins j).take q).foldl (dU j) t:=⟨_,rfl⟩
     rw[<-ws] at vt E;have At:((aU ins j).take (q+1)).foldl (dU j) t=dU j rs y:=by rw[ju,hy,ws,jx];rfl
     have Ax:=vt y f vu;have Bm:(ints (rs y)).length=(rs y).length:=by simp[ints]
     have C7:(rs y).length<=180002:=by have u:=E y;have h2:=yv.out y;rw[<-wl.out] at h2;omega
     obtain⟨j0,Bs,By,BE,BT⟩:=kB fe;rw[zc];have AD:=zH zs;have AE:=zH vr;have BY:=zH vt;have B5:=zH An;have xf:=zH vu;have xj:=zH Ax;have AF:=zH At;have B6:=zH E;have B7:=zH vp;have AH:=zH vq;have B8:=zH zv;have Dd:N+1<wr.heap.size:=(br.1 vr).1;clear zs vr vt An vu Ax At E vp vq zj zp ws zv
     go_wp2_with (at_builtin;refine n5 _ rfl _ _ 35 rfl (N+2) 3 j0 (Z U 0) 1 8 gb Bs By BE BT rfl (by decide) f (ints (rs y)).length _ rfl (ownsRow_below xj.out ((aq wr.heap.size wr).alloc (cg _) _)) ⟨wr.heap.size,0,tM⟩ 1 1 [Z U (j:aw)] rfl rfl (gD _ _ _) (by simp[ct]) (by decide) ?c1 ?c2 ?c3 _ rfl ?_)
     case c1=>unfold eC;omega
     case c2=>omega
     case c3=>rw[World.size_alloc];omega
     intro g3 AI w4 AK AM AN B9;have wg:f.ownBlock≠tG (N+1):=λe=>by have:=(xj.out.lt _ e).1;omega
     have vf:Ext (λk=>f.ownBlock=tG k) wr w4:=((Ext.refl _ wr).alloc _).trans (Ext.of_grown (M:=λk=>f.ownBlock=tG k) AM (λk d=> .inl d)) (λj hj=> .inl hj);have xo:=vf.heap AE.out wg;have Dg:w4.cell? ⟨N+1,y,tM⟩=tG f:=by rw[bw _ _ _ _ _ _ xo];exact xf.out
     have Do:w4.frozen? ⟨N+1,y,tM⟩=tR:=ei _ _ _ _ _ xo;have AS:aL w4 (N+2) (tU (tG ⟨g3,0,tM⟩) ((rs y).length+1) AI) (ints (rs y++[j])):=by
      have e:ints (rs y++[j])=ints (rs y)++[(j:aw)]:=by simp[ints]
      rw[e];refine aL.app ?_;simpa[Bm] using AK
     have AT:=gK.app (x:=j) (i:=y) (λk d=>(AH.out k d).1) AD.out B8.out AE.out (by omega) BY.out B5.out xf.out vf AS (AN.imp id (λh=>by rw[h];simp));have AW:∀k,f.ownBlock=tG k->N+2<=k:=λk h=>(xj.out.lt k h).1;have HR:cj (AU ins (N+1) g w2 j t A (Z U ((q:aw)+1)) (w4.setCell ⟨N+1,y,tM⟩ (tU (tG ⟨g3,0,tM⟩) ((rs y).length+1) AI))):=by
      refine⟨q+1,by omega,by simp,by rw[AF.out];exact AT,λi=> ?_, ?_,λk d=> ?_⟩
      ·rw[AF.out]
       have u:=B6.out i;unfold dU
       by_cases e:i=y
       ·subst e;rw[cI rfl];simp;omega
       ·rw[bx e];omega
      ·exact(B7.out.trans vf (λk d=> .inl (by have:=AW k d;omega))).trans (Ext.set1 _ _ _ _) (λk d=> .inl (by omega))
      ·have u:=AH.out k d
       have h2:¬f.ownBlock=tG k:=λh=>AD.out y f k xf.out h d;have h3:=vf.size;refine⟨by rw[World.size_setCell];omega, ?_⟩;have h4:k≠N+1:=by
        intro e;subst e;have:=(yW.out.lt (N+1) (by have h5:=d;rw[HA.out] at h5;exact h5)).1;have:=yr.out.size;have:=HS.out;omega
       rw[heap_setCell_other _ _ _ _ (by exact h4),vf.block k u.1 h2];exact u.2
     clear AK AM AN B9 vf AS AT AW xo;go_wp2;exact⟨HR.out,by simp[de];omega⟩
    ·have Cd:q=(aU ins j).length:=by omega
     subst Cd;rw[cR] at o E;rw[zc];have hst:(du (j+1)).foldl (gu ins) (λ_=>[])=(aU ins j).foldl (dU j) t:=by rw[lp,jx,<-wl.out];rfl
     have hR:He ins (N+1) g (Z U ((j:aw)+1)) wr:=by
      refine⟨j+1,by omega,by simp,by rw[hst];exact o.weaken (λ_ h=>h.elim),λi=> ?_,vp⟩;rw[hst];have u:=E i;have h2:=yv.out i;rw[<-wl.out] at h2;have:=fF ins j;omega
     have HR:=zH hR;clear hR o E vp vq hst;go_wp2;exact⟨HR.out,by simp[de];omega⟩
  ·have Cl:j=ins.length:=by omega
   subst Cl;have HP:cj (tJ w ins.length (aB ins) (ud (tU (tG ⟨N+1,0,tM⟩) ins.length ins.length)) wr):=
    ⟨N+1,rfl,by omega,o,((vh.out.mono (M':=λk=>w.heap.size<=k) (λ_ h=>h.elim)).trans z (λk d=> .inl (by omega))).below (cg _) (λ_ h=>h)⟩
   clear o vy z;go_wp2;go_ret;exact HP.out
theorem qM (f:bj Ins)(at_:bh)(i:bh):∀(e:bj bh)(d:bh->bj bh),(e.foldl (dU at_) d i).length<=(d i).length+e.length
 |[],_=>by simp
 |y::r,d=>by
  have h:=qM f at_ i r (dU at_ d y);have g:(dU at_ d y i).length<=(d i).length+1:=by unfold dU;split<;>simp_all
  simp only[nw,eV];omega
theorem pF (d:bj Ins)(i:bh):(aB d i).length<=2*d.length:=by
 have f:∀n,(((du n).foldl (gu d) (λ_=>[])) i).length<=2*n:=by
  intro n
  induction n with
  |zero=>simp
  |succ n ih=>
   rw[lp,jx];simp only[nw,List.foldl_nil];have h:=qM d n i (aU d n) ((du n).foldl (gu d) (λ_=>[]));have g:=fF d n;have e:∀X,gu d X n i=(aU d n).foldl (dU n) X i:=λ_=>rfl;rw[e];omega
 exact f d.length
theorem kX (a k:bh)(z:bh):∀(e:bj bh)(d:bh->bj bh),z∈e.foldl (dU a) d k↔z∈d k\/(z=a/\k∈e)
 |[],_=>by simp
 |y::r,d=>by
  rw[nw,kX a k z r];unfold dU
  by_cases h:k=y
  ·subst h;simp;grind
  ·simp[h]
theorem di (d:bj Ins)(z k:bh):z∈aB d k↔z<d.length/\k∈aU d z:=by
 have g:∀n,z∈((du n).foldl (gu d) (λ_=>[])) k↔z<n/\k∈aU d z:=by
  intro n
  induction n with
  |zero=>simp
  |succ n ih=>
   rw[lp,jx];simp only[nw,List.foldl_nil];have e:∀X,gu d X n k=(aU d n).foldl (dU n) X k:=λ_=>rfl;rw[e,kX,ih];constructor
   ·rintro(⟨h,f⟩|⟨rfl,f⟩)
    ·exact⟨by omega,f⟩
    ·exact⟨by omega,f⟩
   ·rintro⟨h,f⟩
    by_cases e:z=n
    ·exact .inr ⟨e,by rw[<-e];exact f⟩
    ·exact .inl ⟨by omega,f⟩
 exact g d.length
inductive nG (ins:bj Ins) (v:bh):bh->Prop
 |read {x:bh} {i:Ins}:ins[x]?=tG i->(v:aw)∈readsOf i->nG ins v x
 |pass {x y:bh} {i:Ins}:ins[x]?=tG i->¬((az i).2=tP/\(az i).1=(v:aw))->y∈aU ins x->nG ins v y->nG ins v x
def eF (d:bj Ins)(v x:bh):Prop:=∃y,y∈aU d x/\nG d v y
def Fits (e:bj Ins)(d:bh):Prop:=∀i∈e,(∀r∈readsOf i,0<=r/\r<(d:aw))/\((az i).2=tP->0<=(az i).1/\(az i).1<(d:aw))
def AV (f:bh->bh)(v:bh):bh->bh:=λx=>if x=v/64 then f (v/64)&&&(18446744073709551615-2^(v%64)) else f x
def ru (f:bh->bh)(v:bh):bh->bh:=λx=>if x=v/64 then f (v/64)|||2^(v%64) else f x
def stepW (i:Ins)(f:bh->bh):bh->bh:=((readsOf i).map Int.toNat).foldl ru (if (az i).2=tP then AV f (az i).1.toNat else f)
theorem DN {a b:bh}(d:a<18446744073709551616)(e:b<18446744073709551616):a|||b<18446744073709551616:=
 Nat.or_lt_two_pow (n:=64) d e
theorem Hf {f:bh->bh}(d:∀i,f i<18446744073709551616)(v:bh):∀i,ru f v i<18446744073709551616:=by
 intro i;unfold ru
 split
 ·exact DN (d _) (lX (rd _ (by decide)))
 ·exact d i
theorem AX {f:bh->bh}(d:∀i,f i<18446744073709551616)(v:bh):∀i,AV f v i<18446744073709551616:=by
 intro i;unfold AV
 split
 ·exact my Nat.and_le_left (d _)
 ·exact d i
theorem tK:∀(l:bj bh){f:bh->bh}(_:∀i,f i<18446744073709551616),∀i,l.foldl ru f i<18446744073709551616
 |[],_,d=>d
 |v::l,_,d=>tK l (Hf d v)
theorem F5 {f g:bh->bh}(d:∀i,f i<18446744073709551616)(e:∀i,g i<18446744073709551616)(n:bh):∀i,iN f g n i<18446744073709551616:=by
 intro i;unfold iN
 split
 ·exact DN (d i) (e i)
 ·exact d i
theorem lZ (i:Ins){f:bh->bh}(d:∀i,f i<18446744073709551616):∀j,stepW i f j<18446744073709551616:=by
 unfold stepW;refine tK _ ?_
 split
 ·exact AX d _
 ·exact d
theorem F6 (f:bh->bh)(v u:bh):bn (ru f v) u=(bn f u||decide (u=v)):=Ha f v u
theorem EC (f:bh->bh)(v u:bh):bn (AV f v) u=(bn f u&&decide (u≠v)):=FW f v u
theorem wP (u:bh):∀(l:bj bh)(f:bh->bh),bn (l.foldl ru f) u=(bn f u||decide (u∈l))
 |[],f=>by simp
 |v::l,f=>by
  rw[nw,wP u l,F6]
  by_cases h:u=v
  ·subst h;simp
  ·simp[h]
theorem qg (i:Ins)(f:bh->bh)(u:bh):bn (stepW i f) u=tP↔u∈(readsOf i).map Int.toNat\/(bn f u=tP/\¬((az i).2=tP/\u=(az i).1.toNat)):=by
 unfold stepW;rw[wP]
 by_cases h:(az i).2=tP
 ·rw[cI h,EC];simp[h];exact Or.comm
 ·rw[bx h];simp[h];exact Or.comm
theorem AY {f g:bh->bh}{v:bh}(h:f (v/64)=g (v/64)):bn f v=bn g v:=by unfold bn;rw[h]
theorem AZ {x r:bh}(f:x<18446744073709551616)(g:r<18446744073709551616):CS x r=tP↔r|||x≠r:=by
 unfold CS;have o:18446744073709551615-r=2^64-(r+1):=by omega
 have d:∀j,(x&&&(18446744073709551615-r)).testBit j=(x.testBit j&& !r.testBit j):=by
  intro j;rw[sr,o,tD (show r<2^64 from g)]
  by_cases q:j<64
  ·simp[q]
  ·have:x.testBit j=tR:=Nat.testBit_lt_two_pow (cH (show x<2^64 from f) (Nat.pow_le_pow_right (by decide) (by omega)))
   simp[this]
 rw[pp];refine Iff.intro (λh e=>h ?_) (λh e=>h ?_)
 rotate_left
 ·apply qq
  intro j;have:=d j;rw[e,Nat.zero_testBit] at this;rw[mN]
  revert this
  cases x.testBit j<;>cases r.testBit j<;>simp
 ·apply qq
  intro j;rw[d j,Nat.zero_testBit];have:(r|||x).testBit j=r.testBit j:=by rw[e]
  rw[mN] at this
  revert this
  cases x.testBit j<;>cases r.testBit j<;>simp
theorem nT {f g:bh->bh}(d:∀i,f i<18446744073709551616)(e:∀i,g i<18446744073709551616)(n:bh):fw f g n=tR↔∀i,i<n->f i|||g i=f i:=by
 unfold fw;rw[lx];constructor
 ·intro h i hi
  have:=h i (by simpa using hi);rw[AZ (e i) (d i)] at this;exact Classical.not_not.1 this
 ·intro h i hi
  rw[AZ (e i) (d i)];exact not_not_intro (h i (by simpa using hi))
theorem CX {f g:bh->bh}(d:∀i,f i<18446744073709551616)(e:∀i,g i<18446744073709551616){n:bh}(h:fw f g n=tR):iN f g n=f:=by
 rw[nT d e] at h
 funext i
 unfold iN
 split
 ·rename_i hi;exact h i hi
 ·rfl
theorem ED {f g:bh->bh}{n v:bh}(h:bn (iN f g n) v=tP):bn f v=tP\/bn g v=tP:=by
 unfold bn iN at h
 split at h
 ·rw[mN] at h;simpa[bn] using h
 ·exact .inl h
def tL (n:bh)(f:bh->bh):bh:=((du n).map f).sum
theorem mF (n:bh)(f:bh->bh):tL (n+1) f=tL n f+f n:=by unfold tL;rw[lp,dp,oe];simp
theorem rR:∀(n:bh)(f g:bh->bh),(∀i,i<n->f i<=g i)->tL n f<=tL n g
 |0,_,_,_=>cg _
 |n+1,f,g,h=>by rw[mF,mF];exact Nat.add_le_add (rR n f g λi hi=>h i (by omega)) (h n (by omega))
theorem yL:∀(n:bh)(f g:bh->bh)(j:bh),(∀i,i<n->f i<=g i)->j<n->f j<g j->tL n f<tL n g
 |0,_,_,_,_,o,_=>by omega
 |n+1,f,g,j,h,o,d=>by
  rw[mF,mF]
  by_cases e:j=n
  ·subst e;exact Nat.add_lt_add_of_le_of_lt (rR _ f g λi hi=>h i (by omega)) d
  ·exact Nat.add_lt_add_of_lt_of_le (yL n f g j (λi hi=>h i (by omega)) (by omega) d) (h n (by omega))
def bT (n k:bh)(b:bh->bh->bh):bh:=tL n λx=>tL k λi=>18446744073709551616-b x i
def jP (b:bh->bh->bh)(x:bh)(g:bh->bh)(k:bh):bh->bh->bh:=λy=>if y=x then iN (b x) g k else b y
theorem EE {n k x:bh}{b:bh->bh->bh}{g:bh->bh}(f:∀y i,b y i<18446744073709551616)(q:∀i,g i<18446744073709551616)(t:x<n):
  bT n k (jP b x g k)<=bT n k b/\(fw (b x) g k=tP->bT n k (jP b x g k)<bT n k b):=by
 have d:∀y i,b y i<=jP b x g k y i:=by
  intro y i;unfold jP
  split
  ·rename_i e;subst e;unfold iN;split
   ·exact Nat.left_le_or
   ·exact cg _
  ·exact cg _
 have o:∀y,tL k (λi=>18446744073709551616-jP b x g k y i)<=tL k (λi=>18446744073709551616-b y i):=λy=>rR _ _ _ λi _=>by have:=d y i;omega
 refine⟨rR _ _ _ λy _=>o y,λh=>yL _ _ _ x (λy _=>o y) t ?_⟩;have u:¬∀i,i<k->b x i|||g i=b x i:=by rw[<-nT (f x) q,h];simp
 obtain⟨i,v⟩:=Classical.not_forall.1 u;obtain⟨hi,E⟩:=Classical.not_imp.1 v;refine yL _ _ _ i (λj _=>by have:=d x j;omega) hi ?_;have z:jP b x g k x i=b x i|||g i:=by unfold jP iN;rw[cI rfl,cI hi]
 have A:=d x i;have G:=f x i;rw[z] at A⊢;omega
def kC (d:bj Ins)(b:bh->bh->bh):Prop:=∀x v,x<d.length->bn (b x) v=tP->eF d v x
theorem tN {d:bj Ins}{j y v:bh}{i:Ins}{b:bh->bh->bh}(o:Fits d j)(q:kC d b)(f:d[y]?=tG i)(h:bn (stepW i (b y)) v=tP):nG d v y:=by
 have t:=o i (cd f);rw[qg] at h;rcases h with h|⟨u,x⟩
 ·obtain⟨r,g,e⟩:=gi.1 h
  have:=t.1 r g;exact .read f (by rw[<-e,Int.toNat_of_nonneg this.1];exact g)
 ·obtain⟨z,A,E⟩:=q y v (bl.1 f).1 u
  refine .pass f (λ⟨G,h4⟩=>x ⟨G, ?_⟩) A E;rw[h4];rfl
theorem CY {d:bj Ins}{o k x y:bh}{i:Ins}{b:bh->bh->bh}(q:Fits d o)(f:kC d b)(t:d[y]?=tG i)(u:x∈aB d y){g:bh->bh->bh}(A:kC d g):kC d (jP b x (stepW i (g y)) k):=by
 intro z v j h;unfold jP at h
 split at h
 ·rename_i e
  subst e;rcases ED h with h|h
  ·exact f _ v j h
  ·exact⟨y,((di d z y).1 u).2,tN q A t h⟩
 ·exact f z v j h
theorem IA {d:bj Ins}{f k:bh}(hk:f<=64*k)(A:Fits d f){b a:bh->bh->bh}(E:kC d b)
  (ha:∀y i,d[y]?=tG i->∀j,j<k->a y j=stepW i (b y) j)
  (G:∀y x,y<d.length->x∈aB d y->∀j,j<k->b x j|||a y j=b x j):
  ∀x v,x<d.length->v<f->(bn (b x) v=tP↔eF d v x)/\(bn (a x) v=tP↔nG d v x):=by
 have ev:∀y i v,d[y]?=tG i->v<f->bn (a y) v=bn (stepW i (b y)) v:=λy i v t e=>AY (ha y i t _ (by omega));have J:∀v x,nG d v x->v<f->bn (a x) v=tP:=by
  intro v x h
  induction h with
  |read g u=>
   intro e;rw[ev _ _ _ g e,qg];exact .inl (gi.2 ⟨_,u,by simp⟩)
  |@pass x y i g u K h4 ih=>
   intro e;rw[ev _ _ _ g e,qg]
   right
   have ue:=A i (cd g);refine⟨?_,λ⟨R,h6⟩=>u ⟨R,by have:=(ue.2 R).1;omega⟩⟩;have z:=G y x (lh K) ((di d x y).2 ⟨(bl.1 g).1,K⟩) (v/64) (by omega);have o:=ih e;unfold bn at o⊢;rw[<-z,mN,o];simp
 have up:∀x v,x<d.length->v<f->eF d v x->bn (b x) v=tP:=by
  rintro x v q e ⟨y,t,ur⟩;have z:=G y x (lh t) ((di d x y).2 ⟨q,t⟩) (v/64) (by omega);have o:=J v y ur e;unfold bn at o⊢;rw[<-z,mN,o];simp
 intro x v q e;refine⟨⟨E x v q,up x v q e⟩,⟨λh=> ?_,λh=>J v x h e⟩⟩;obtain⟨i,hi⟩:∃i,d[x]?=tG i:=⟨_,ap q⟩
 rw[ev x i v hi e] at h;exact tN A E hi h
theorem wQ:(am.info? 245).map (λi=>(i.zero,i.size,i.bytes))=tG (tG (.int .u64 0),1,8):=by kernel_rfl
theorem yM:(am.info? 199).map (λi=>(i.zero,i.size,i.bytes))=tG (tG (tU tM 0 0),1,24):=by kernel_rfl
def dZ (n k R j:bh):eA cA:=((du n).map λi=>if i<j then ci (tG ⟨R+1+i,0,tM⟩) k k else tU tM 0 0).toArray
theorem tO (n:bh):(km n (eS .u64 0)).toArray=dK n (λ_=>0):=by
 apply gS;intro j
 by_cases d:j<n
 ·rw[nE _ d];simp[d]
 ·rw[em (by simp;omega),em (by rw[lW];omega)]
theorem gZ (n k R j:bh):(dZ n k R j).size=n:=by simp[dZ]
theorem eG {n i:bh}(k R j:bh)(h:i<n):(dZ n k R j)[i]?=tG (if i<j then ci (tG ⟨R+1+i,0,tM⟩) k k else tU tM 0 0):=by
 simp[dZ,h]
theorem A7 {n k R j:bh}(e:j<n):(dZ n k R j).setIfInBounds j (tU (tG ⟨R+1+j,0,tM⟩) k k)=dZ n k R (j+1):=by
 apply gS;intro i;rw[gd]
 by_cases hi:i<n
 ·rw[eG _ _ _ hi,eG _ _ _ hi]
  by_cases h:j=i
  ·subst h;simp[gZ,e]
  ·rw[bx h]
   by_cases d:i<j
   ·rw[cI d,cI (by omega)]
   ·rw[bx d,bx (by omega)]
 ·rw[em (by rw[gZ];omega),em (by rw[gZ];omega),bx (by omega)]
def F7 (w:World)(n k R:bh)(c:cA)(wr:World):Prop:=
 ∃j:bh,j<=n/\c= Z U (j:aw)/\wr.heap.size=R+1+j/\wr.heap[R]?=tG (uc (dZ n k R j) 199 (0,0))/\(∀i,i<j->wr.heap[R+1+i]?=tG (uc (dK k (λ_=>0)) 245 (0,0)))/\aE R w wr
def tQ (w:World)(n k R:bh)(e:Ending)(w':World):Prop:=
 e= ud (tU (tG ⟨R,0,tM⟩) n n)/\w'.heap[R]?=tG (uc (dZ n k R n) 199 (0,0))/\(∀i,i<n->w'.heap[R+1+i]?=tG (uc (dK k (λ_=>0)) 245 (0,0)))/\w'.heap.size=R+1+n/\aE R w w'
theorem tT (w:World)(n d:bh)(hn:n<=90000)(u:d<=90000):
  ge am 102 #[Z U (n:aw),Z U (d:aw)] w (tQ w n ((d+63)/64) w.heap.size):=by
 obtain⟨i0,hi,ue,up,ur⟩:=kB yM;obtain⟨j0,hj,uv,ux,vc⟩:=kB wQ;obtain⟨R,o⟩:=zE w.heap.size;go_enter func102,ntmps102
 go_wp2_with (at_make;refine d9 rfl (.tmp 7) (.tmp 7) 193 rfl 199 i0 (tU tM 0 0) underlying193 hi ue up rfl .i64 .i64 _ _ n rfl rfl rfl rfl (by rw[ur];omega) (by unfold eC;omega) ?_)
 obtain⟨W1,q⟩:=zE (w.alloc (uc (eI n (ci tM 0 0)) 199));have x:=iR q o;have vd:W1.heap.size=R+1:=by rw[<-q];simp[o]
 have y:W1.heap[R]?=tG (uc (dZ n ((d+63)/64) R 0) 199 (0,0)):=by
  have e:eI n (ci tM 0 0)=dZ n ((d+63)/64) R 0:=by
   apply gS;intro i
   by_cases hi:i<n
   ·rw[eG _ _ _ hi];simp[hi]
   ·rw[em (by simp;omega),em (by rw[gZ];omega)]
  rw[<-e,<-q,<-o];exact alloc_at _ _
 rw[q]
 try rw[o]
 have H0:cj (F7 w n ((d+63)/64) R (Z U 0) W1):=⟨0,cN _,rfl,by omega,y,λi h=>by omega,x⟩
 clear q x vd y
 go_loopw [11] (λc wr=>F7 w n ((d+63)/64) R c wr) (λc _=>n-(de c).toNat)
 case atStart=>exact H0.out
 case round=>
  obtain⟨j,vp,rfl,g,f,t,v⟩:=hrel
  by_cases z:j<n
  ·obtain⟨k,u⟩:∃k,k=(d+63)/64:=⟨_,rfl⟩
   have A:((d:aw)+63)/64=(k:aw):=by omega
   have vq:k<=2000:=by omega
   have E:=zH A;rw[<-u] at f t;have c1:wr.cell? ⟨R,j,tM⟩=tG (tU tM 0 0):=by rw[bw _ _ _ _ _ _ f,eG _ _ _ z];simp
   have c2:wr.frozen? ⟨R,j,tM⟩=tR:=ei _ _ _ _ _ f;have vr:(j:aw)<(n:aw):=by omega
   have vt:R<wr.heap.size:=by omega
   have HS:cj (F7 w n ((d+63)/64) R (Z U ((j:aw)+1)) ((wr.setCell ⟨R,j,tM⟩ (tU (tG ⟨wr.heap.size,0,tM⟩) k k)).alloc (uc (eI k (eS .u64 0)) 245))):=by
    rw[<-u];have vf:Ext (·=R) wr (wr.setCell ⟨R,j,tM⟩ (tU (tG ⟨wr.heap.size,0,tM⟩) k k)):=Ext.set1 _ _ _ _;have G:Ext (λ_=>me) (wr.setCell ⟨R,j,tM⟩ (tU (tG ⟨wr.heap.size,0,tM⟩) k k)) ((wr.setCell ⟨R,j,tM⟩ (tU (tG ⟨wr.heap.size,0,tM⟩) k k)).alloc (uc (eI k (eS .u64 0)) 245)):=(Ext.refl _ _).alloc _;refine⟨j+1,by omega,by simp,by rw[World.size_alloc,World.size_setCell];omega, ?_,λi hi=> ?_, ?_⟩
    ·refine G.heap ?_ (λh=>h)
     rw[gj _ _ _ _ _ _ f,g,A7 z]
    ·by_cases vh:i<j
     ·exact G.heap (vf.heap (t i vh) (by omega)) (λh=>h)
     ·have:i=j:=by omega
      subst this;have J:=alloc_at (wr.setCell ⟨R,i,tM⟩ (tU (tG ⟨wr.heap.size,0,tM⟩) k k)) (uc (eI k (eS .u64 0)) 245);rw[World.size_setCell,g] at J;rw[<-tO,List.toArray_replicate,<-J,g]
    ·exact(v.setCell (by show R<=R;omega) _).alloc (by rw[World.size_setCell];omega) _
   clear f t v u A g
   go_wp2_with (at_make;refine d9 rfl (.tmp 18) (.tmp 18) 199 rfl 245 j0 (.int .u64 0) rk hj uv ux rfl .i64 .i64 _ _ k rfl rfl E.out E.out (by rw[vc];omega) (by unfold eC;omega) ?_)
   exact⟨HS.out,by simp[de];omega⟩
  ·have vm:j=n:=by omega
   subst vm;have K:cj (tQ w j ((d+63)/64) R (ud (tU (tG ⟨R,0,tM⟩) j j)) wr):=⟨rfl,f,t,g,v⟩
   clear f t v g;go_wp2;go_ret
   first|exact K.out|(rw[o];exact K.out)
theorem tV (w:World)(B n cp:bh)(f:bh->bh)(h:bW w B n f)(hn:n<=90000):
  ge am 141 #[tU (tG ⟨B,0,tM⟩) n cp] w λe w'=>∃g cap,e= ud (tU (tG ⟨g,0,tM⟩) n cap)/\w.heap.size<=g/\bW w' g n f/\aE w.heap.size w w':=by
 obtain⟨J,d,K,R,ue⟩:=kB wQ;have q:∀(w:World)(a:cG fS)(n c o t:bh),(binOp .eql 199 (tU a n c) (tU tM o t)).run am w= .ok (ua a.isNone) w:=λw a n c o t=>Lib.run_eql_slice_nil w _ _ a n c o t rk;have A:=zH h;clear h;go_enter func141,ntmps141
 go_wp2_with (at_builtin;refine wpList_append_own _ rfl _ _ 199 rfl w.heap.size 245 J (.int .u64 0) 1 8 rk d K R ue rfl (by decide) _ _ _ rfl (World.ownsRow_made w #[] 0 (cg _) (cN _) rfl) ⟨B,0,tM⟩ n cp ((du n).map λi=>eS .u64 (f i:aw)) rfl ?qc1 ?qc2 ?qc3 ?qc4 ?qc5 ?qc6 ?_)
 case qc1=>simp
 case qc2=>
  intro j u d;have y:j<n:=by have:=(bl.1 d).1;simpa using this
  rw[cY,cL];refine Lib.cell?_alloc_some _ ?_;rw[A.out.cell y];simpa[y] using d
 case qc3=>intro u hu;obtain⟨x,_,rfl⟩:=gi.1 hu;rfl
 case qc4=>unfold eC;omega
 case qc5=>omega
 case qc6=>simp
 intro v' z up ur E;go_wp2;go_ret;have G:z.ownsRow w.heap.size 245 1 v' n ((du n).map λi=>eS .u64 (f i:aw)):=by simpa using up
 have uv:aE w.heap.size w z:=((aq _ w).alloc (cg _) _).grown ur (by simp) (by intro k hk;simp[et] at hk;omega);rcases G.2 with⟨v,_⟩|⟨g,cap,ux,v,e2,_⟩
 ·exact fL v (by first|exact E|(intro e;exact fL (E.1 e).1 (by simp)))
 ·subst v
  exact⟨g,cap,rfl,e2,bW.of_owns G,uv⟩
def ig (c:dx)(d RB:bh):eA cA:=#[tS c.nm,Z U c.par,tU c.varsA c.nvars c.varsC,ua c.rp,tS c.rto,Z U c.rcl,tU c.fromA c.nfrom c.fromC,tU c.insA c.ins.length c.insC,tU (tG ⟨d,0,tM⟩) c.ins.length c.ins.length,tU (tG ⟨RB,0,tM⟩) c.ins.length c.ins.length]
def EF (T d RB n g:bh):Prop:=g=T\/g=d\/(RB<=g/\g<=RB+n)
structure fQ (w:World)(T RA RB k:bh)(c:dx)(a b:bh->bh->bh):Prop where
 tab:w.heap[T]?=tG (uc (ig c RA RB) 196 (0,0))
 ahead:∃cur,w.heap[RA]?=tG (uc cur 199 (0,0))/\cur.size=c.ins.length/\∀x,x<c.ins.length->∃g cp,cur[x]?=tG (tU (tG ⟨g,0,tM⟩) k cp)/\¬EF T RA RB c.ins.length g/\bW w g k (a x)
 behind:w.heap[RB]?=tG (uc (dZ c.ins.length k RB c.ins.length) 199 (0,0))
 words:∀x,x<c.ins.length->bW w (RB+1+x) k (b x)
 s1:T≠RA
 s2:¬(RB<=T/\T<=RB+c.ins.length)
 s3:¬(RB<=RA/\RA<=RB+c.ins.length)
theorem fQ.keep {w w':World}{T o RB k:bh}{c:dx}{a b:bh->bh->bh}{M:bh->Prop}(h:fQ w T o RB k c a b)(d:Ext M w w')(e:∀j,¬M j):fQ w' T o RB k c a b:=by
 obtain⟨q,t,u,v⟩:=h.ahead;exact⟨d.heap h.tab (e _),⟨q,d.heap t (e _),u,λx f=>let ⟨g,cp,a,b,c⟩:=v x f;⟨g,cp,a,b,c.ext d (e _)⟩⟩,d.heap h.behind (e _),λx f=>(h.words x f).ext d (e _),h.s1,h.s2,h.s3⟩
theorem fQ.put {w:World}{T d RB k x g cp:bh}{c:dx}{a b:bh->bh->bh}{f:bh->bh}(h:fQ w T d RB k c a b)(R:x<c.ins.length)(q:¬EF T d RB c.ins.length g)(u:bW w g k f):
  fQ (w.setCell ⟨d,x,tM⟩ (tU (tG ⟨g,0,tM⟩) k cp)) T d RB k c (λy=>if y=x then f else a y) b:=by
 have j:Ext (·=d) w (w.setCell ⟨d,x,tM⟩ (tU (tG ⟨g,0,tM⟩) k cp)):=Ext.set1 _ _ _ _;obtain⟨ue,v,z,A⟩:=h.ahead;refine⟨j.heap h.tab h.s1,⟨_,gj _ _ _ _ _ _ v,by simpa using z,λy o=> ?_⟩,j.heap h.behind (λe=>h.s3 ⟨by omega,by omega⟩),λy o=>(h.words y o).ext j (λe=>h.s3 ⟨by omega,by omega⟩),h.s1,h.s2,h.s3⟩;rw[gd]
 by_cases e:x=y
 ·subst e
  rw[cI rfl,cI (by omega),cI rfl];exact⟨g,cp,rfl,q,u.ext j (λe=>q (.inr (.inl e)))⟩
 ·rw[bx e,bx (λh=>e h.symm)]
  obtain⟨E,G,J,t,K⟩:=A y o;exact⟨E,G,J,t,K.ext j (λe=>t (.inr (.inl e)))⟩
theorem fQ.grow {w w':World}{T j RB k x:bh}{c:dx}{a b:bh->bh->bh}{f:bh->bh}(h:fQ w T j RB k c a b)(K:x<c.ins.length)(q:bW w' (RB+1+x) k f)(d:Ext (·=RB+1+x) w w'):
  fQ w' T j RB k c a (λy=>if y=x then f else b y):=by
 obtain⟨t,u,v,z⟩:=h.ahead;refine⟨d.heap h.tab (λe=>h.s2 ⟨by omega,by omega⟩),⟨t,d.heap u (λe=>h.s3 ⟨by omega,by omega⟩),v,λy g=> ?_⟩,d.heap h.behind (by omega),λy g=> ?_,h.s1,h.s2,h.s3⟩
 ·obtain⟨A,E,G,o,J⟩:=z y g
  exact⟨A,E,G,o,J.ext d (λe=>o (.inr (.inr ⟨by omega,by omega⟩)))⟩
 ·by_cases e:y=x
  ·subst e;rw[cI rfl];exact q
  ·rw[bx e];exact(h.words y g).ext d (by omega)
def Stepped (w:World)(T d RB k:bh)(c:dx)(a b:bh->bh->bh)(x:bh)(i:Ins)(e:Ending)(w':World):Prop:=
 e= ud (ua (decide (0<dY k (stepW i (b x)))))/\fQ w' T d RB k c (λy=>if y=x then stepW i (b x) else a y) b/\Ext (·=d) w w'
end Go.Proofs.YtjomgckjhcfbgaaGreat
