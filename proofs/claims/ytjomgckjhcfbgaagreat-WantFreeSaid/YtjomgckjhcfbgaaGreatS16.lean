/- Walks. -/
import Derived.Test.YtjomgckjhcfbgaaGreatProg
import Derived.Laws.BitsAllLaws
import Derived.Laws.Bits64
import Derived.RegionTactic
import Derived.Deep.QuietTactic
import Derived.BigQuiet
import Derived.Test.YtjomgckjhcfbgaaGreatS12
set_option maxRecDepth 100000
set_option maxHeartbeats 64000000
set_option linter.all false
namespace Go.Proofs.YtjomgckjhcfbgaaGreat
open Go.RowKit
open _root_.List renaming getElem?_eq_getElem→GN,getElem?_eq_some_iff→GQ,length_append→GU,mem_of_getElem?→GV,take_length→Ha,eq_nil_of_length_eq_zero→Hm,append_assoc→Hr,length_take→Ht
open _root_.Array renaming getElem?_eq_some_iff→GR
open _root_.Nat renaming lt_of_lt_of_le→Hd,le_refl→He,zero_add→Hf,zero_le→Hg
open _root_.Option renaming some.inj→Hl
open Go.World renaming size_alloc→Hu
open Go.RowKit.Below renaming refl→Hw,heap_alloc→Hy
open Go renaming World→H5
open Go.RowKit renaming Below→H9,Hid→Ia
open Tryz
def jS (B:Nat):List Nat→Nat
 |[]=>0
 |d::r=>d+B*jS B r
def ik:Nat→Nat→List Nat
 |_,0=>[]
 |x,n+1=>x%2::ik (x/2) n
def nM (x n:Nat):Nat:=(ik x n).sum
theorem zb:∀(n x:Nat),jS 2 (ik x n)=x%2^n
 |0,x=>by simp[jS,ik,Nat.mod_one]
 |n+1,x=>by
  simp only[jS,ik,zb n (x/2)];rw[Nat.pow_succ,Nat.mul_comm (2^n) 2,Nat.mod_mul]
theorem nN:∀(n x:Nat),(ik x n).length=n
 |0,_=>rfl
 |n+1,x=>by simp[ik,nN n]
theorem ze:∀(n x:Nat),∀d∈ik x n,d<2
 |0,_=>by simp[ik]
 |n+1,x=>by
  intro d hd;simp only[ik,List.mem_cons] at hd;rcases hd with rfl|hd
  ·omega
  ·exact ze n _ d hd
theorem and_split (w a x b y:Nat)(ha:a<2^w)(hb:b<2^w):(a+2^w*x)&&&(b+2^w*y)=(a&&& b)+2^w*(x&&& y):=by
 have hab:a&&& b<2^w:=Nat.and_lt_two_pow _ hb;apply Nat.eq_of_testBit_eq;intro j;rw[Nat.testBit_and,Nat.add_comm a,Nat.add_comm b,Nat.add_comm (a&&& b),Nat.testBit_two_pow_mul_add _ ha,Nat.testBit_two_pow_mul_add _ hb,Nat.testBit_two_pow_mul_add _ hab]
 split<;>simp[Nat.testBit_and]
def ev:List Nat→List Nat
 |a::_::r=>a::ev r
 |_=>[]
def od:List Nat→List Nat
 |_::b::r=>b::od r
 |_=>[]
def pr:List Nat→List Nat
 |a::b::r=>(a+b)::pr r
 |_=>[]
theorem xe:∀(n:Nat)(l:List Nat),l.length=2*n→(pr l).sum=l.sum
 |0,l,h=>by rw[Hm h];rfl
 |n+1,[],h=>by simp at h
 |n+1,[a],h=>by simp at h;omega
 |n+1,a::b::r,h=>by simp[pr,xe n r (by simp at h;omega)];omega
theorem lD:∀(n:Nat)(l:List Nat),l.length=2*n→(pr l).length=n
 |0,l,h=>by rw[Hm h];rfl
 |n+1,[],h=>by simp at h
 |n+1,[a],h=>by simp at h;omega
 |n+1,a::b::r,h=>by simp[pr,lD n r (by simp at h;omega)]
theorem BO {k:Nat}:∀(l:List Nat),(∀d∈l,d≤k)→∀d∈pr l,d≤2*k
 |[],_=>by simp[pr]
 |[a],_=>by simp[pr]
 |a::b::r,h=>by
  intro d hd;simp only[pr,List.mem_cons] at hd;rcases hd with rfl|hd
  ·have:=h a (by simp);have:=h b (by simp);omega
  ·exact BO r (fun x hx=>h x (by simp[hx])) d hd
def mask (w:Nat):Nat→Nat
 |0=>0
 |n+1=>(2^w-1)+2^w*(0+2^w*mask w n)
theorem zf {w a:Nat}(h:a<2^w):a&&&(2^w-1)=a:=by rw[Nat.and_two_pow_sub_one_eq_mod];exact Nat.mod_eq_of_lt h
theorem qg (w:Nat):∀(n:Nat)(l:List Nat),l.length=2*n→(∀d∈l,d<2^w)→jS (2^w) l&&& mask w n=jS (2^w*2^w) (ev l)
 |0,l,h,_=>by rw[Hm h];simp[jS,ev]
 |n+1,[],h,_=>by simp at h
 |n+1,[a],h,_=>by simp at h;omega
 |n+1,a::b::r,h,hd=>by
  have ha:=hd a (by simp);have hb:=hd b (by simp);have hp:0<2^w:=Nat.two_pow_pos w;simp only[jS,ev,mask];rw[and_split w _ _ _ _ ha (by omega),and_split w _ _ _ _ hb hp,zf ha,Nat.and_zero,Hf,qg w n r (by simp at h;omega) (fun x hx=>hd x (by simp[hx])),Nat.mul_assoc]
theorem xg (w:Nat):∀(n:Nat)(l:List Nat),l.length=2*n→(∀d∈l,d<2^w)→(jS (2^w) l/2^w)&&& mask w n=jS (2^w*2^w) (od l)
 |0,l,h,_=>by rw[Hm h];simp[jS,od]
 |n+1,[],h,_=>by simp at h
 |n+1,[a],h,_=>by simp at h;omega
 |n+1,a::b::r,h,hd=>by
  have ha:=hd a (by simp);have hb:=hd b (by simp);have hp:0<2^w:=Nat.two_pow_pos w;simp only[jS,od,mask];rw[Nat.add_mul_div_left _ _ hp,Nat.div_eq_of_lt ha,Hf,and_split w _ _ _ _ hb (by omega),zf hb];have hr:jS (2^w) r&&&(0+2^w*mask w n)=2^w*jS (2^w*2^w) (od r):=by
   have e:jS (2^w) r=jS (2^w) r%2^w+2^w*(jS (2^w) r/2^w):=(Nat.mod_add_div _ _).symm;rw[e,and_split w _ _ _ _ (Nat.mod_lt _ hp) hp,Nat.and_zero,Hf,xg w n r (by simp at h;omega) (fun x hx=>hd x (by simp[hx]))]
  rw[hr,Nat.mul_assoc]
theorem D6 {B:Nat}:∀(n:Nat)(l:List Nat),l.length=2*n→jS B (od l)+jS B (ev l)=jS B (pr l)
 |0,l,h=>by rw[Hm h];rfl
 |n+1,[],h=>by simp at h
 |n+1,[a],h=>by simp at h;omega
 |n+1,a::b::r,h=>by
  have:=D6 (B:=B) n r (by simp at h;omega);simp only[jS,ev,od,pr,←this,Nat.mul_add];omega
def nb:List Nat→List Nat
 |[]=>[]
 |[a]=>[a]
 |a::b::r=>(a+b)::nb (b::r)
theorem D7 {B:Nat}(hB:0<B):∀(l:List Nat),(∀d∈l,d<B)→jS B l/B+jS B l=jS B (nb l)
 |[],_=>by simp[jS,nb]
 |[a],h=>by simp[jS,nb,Nat.div_eq_of_lt (h a (by simp))]
 |a::b::r,h=>by
  have ih:=D7 hB (b::r) (fun x hx=>h x (List.mem_cons_of_mem _ hx));have ha:=h a (by simp);have hb:=h b (by simp);have e1:jS B (a::b::r)/B=jS B (b::r):=by
   show(a+B*jS B (b::r))/B=_
   rw[Nat.add_mul_div_left _ _ hB,Nat.div_eq_of_lt ha,Hf]
  have e2:jS B (b::r)/B=jS B r:=by
   show(b+B*jS B r)/B=_
   rw[Nat.add_mul_div_left _ _ hB,Nat.div_eq_of_lt hb,Hf]
  rw[e1];rw[e2] at ih
  show(b+B*jS B r)+(a+B*jS B (b::r))=(a+b)+B*jS B (nb (b::r))
  rw[←ih,Nat.mul_add];omega
theorem Fz:∀(n:Nat)(l:List Nat),l.length=2*n→ev (nb l)=pr l
 |0,l,h=>by rw[Hm h];rfl
 |n+1,[],h=>by simp at h
 |n+1,[a],h=>by simp at h;omega
 |n+1,[a,b],_=>rfl
 |n+1,a::b::c::r,h=>by
  have:=Fz n (c::r) (by simp at h⊢;omega);simp only[nb,ev,pr];rw[this]
theorem uU:∀(l:List Nat),(nb l).length=l.length
 |[]=>rfl
 |[_]=>rfl
 |a::b::r=>by simp[nb,uU (b::r)]
theorem FC {k:Nat}:∀(l:List Nat),(∀d∈l,d≤k)→∀d∈nb l,d≤2*k
 |[],_=>by simp[nb]
 |[a],h=>by intro d hd;simp[nb] at hd;subst hd;have:=h d (by simp);omega
 |a::b::r,h=>by
  intro d hd;simp only[nb,List.mem_cons] at hd;rcases hd with rfl|hd
  ·have:=h a (by simp);have:=h b (by simp);omega
  ·exact FC (b::r) (fun x hx=>h x (List.mem_cons_of_mem _ hx)) d hd
def jl (x:Nat):Nat:=((x/2)&&& 6148914691236517205)+(x&&& 6148914691236517205)
def kF (x:Nat):Nat:=((x/4)&&& 3689348814741910323)+(x&&& 3689348814741910323)
def qZ (x:Nat):Nat:=(x/16+x)&&& 1085102592571150095
def tV (x:Nat):Nat:=x+x/256
def xh (x:Nat):Nat:=x+x/65536
def xk (x:Nat):Nat:=x+x/4294967296
theorem GD:mask 1 32=6148914691236517205:=by decide
theorem GG:mask 2 16=3689348814741910323:=by decide
theorem GH:mask 4 8=1085102592571150095:=by decide
theorem FR (x:Nat)(hx:x<18446744073709551616):∃e0 e1 e2 e3 e4 e5 e6 e7,qZ (kF (jl x))=e0+256*(e1+256*(e2+256*(e3+256*(e4+256*(e5+256*(e6+256*e7))))))∧e0+e1+e2+e3+e4+e5+e6+e7=nM x 64∧
  e0≤8∧e1≤8∧e2≤8∧e3≤8∧e4≤8∧e5≤8∧e6≤8∧e7≤8:=by
 have h0:jS (2^1) (ik x 64)=x:=by
  rw[Nat.pow_one,zb];exact Nat.mod_eq_of_lt (by simpa using hx)
 have l0:=nN 64 x;have d0:∀d∈ik x 64,d<2^1:=fun d hd=>by have:=ze 64 x d hd;omega
 obtain⟨a,ha⟩:∃a,a=pr (ik x 64):=⟨_,rfl⟩
 have la:a.length=2*16:=by rw[ha];exact lD 32 _ l0
 have s1:jl x=jS (2^2) a:=by
  have e:=qg 1 32 _ l0 d0;have o:=xg 1 32 _ l0 d0;rw[h0,GD] at e o;unfold jl;rw[show x/2=x/2^1 from rfl,o,e,D6 32 _ l0,ha]
 have da:∀d∈a,d≤2:=fun d hd=>by
  rw[ha] at hd;exact BO (k:=1) _ (fun y hy=>by have:=d0 y hy;omega) d hd
 obtain⟨b,hb⟩:∃b,b=pr a:=⟨_,rfl⟩
 have lb:b.length=2*8:=by rw[hb];exact lD 16 _ la
 have s2:kF (jl x)=jS (2^4) b:=by
  have e:=qg 2 16 _ la (fun d hd=>by have:=da d hd;omega);have o:=xg 2 16 _ la (fun d hd=>by have:=da d hd;omega);rw[←s1,GG] at e o;unfold kF;rw[show jl x/4=jl x/2^2 from rfl,o,e,D6 16 _ la,hb]
 have db:∀d∈b,d≤4:=fun d hd=>by rw[hb] at hd;exact BO (k:=2) _ da d hd
 have s3:qZ (kF (jl x))=jS (2^8) (pr b):=by
  unfold qZ;have h1:=D7 (B:=2^4) (by decide) b (fun d hd=>by have:=db d hd;omega);rw[←s2] at h1;rw[show kF (jl x)/16=kF (jl x)/2^4 from rfl,h1];have e:=qg 4 8 (nb b) (by rw[uU,lb]) (fun d hd=>by have:=FC (k:=4) b db d hd;omega);rw[GH] at e;rw[e,Fz 8 b lb]
 have lc:(pr b).length=8:=lD 8 _ lb;have dc:∀d∈pr b,d≤8:=fun d hd=>BO (k:=4) _ db d hd;have sc:(pr b).sum=nM x 64:=by
  rw[xe 8 b lb,hb,xe 16 a la,ha,xe 32 _ l0];rfl
 obtain⟨c,hc⟩:∃c,c=pr b:=⟨_,rfl⟩
 rw[←hc] at s3 lc dc sc
 match c,lc with
 |[e0,e1,e2,e3,e4,e5,e6,e7],_=>
  refine⟨e0,e1,e2,e3,e4,e5,e6,e7, ?_, ?_,dc _ (by simp),dc _ (by simp),dc _ (by simp),dc _ (by simp),dc _ (by simp),dc _ (by simp),dc _ (by simp),dc _ (by simp)⟩
  ·rw[s3];simp[jS]
  ·rw[←sc];simp;omega
theorem xm {a b:Nat}(q:Nat)(h:a<b):(a+b*q)/b=q:=by
 rw[Nat.add_mul_div_left _ _ (by omega),Nat.div_eq_of_lt h,Hf]
theorem GI (e0 e1 e2 e3 e4 e5 e6 e7:Nat):(e0+256*(e1+256*(e2+256*(e3+256*(e4+256*(e5+256*(e6+256*e7)))))))+(e1+256*(e2+256*(e3+256*(e4+256*(e5+256*(e6+256*e7))))))=
  (e0+e1)+256*((e1+e2)+256*((e2+e3)+256*((e3+e4)+256*((e4+e5)+256*((e5+e6)+256*((e6+e7)+256*e7)))))):=by omega
theorem EY {y e0 e1 e2 e3 e4 e5 e6 e7:Nat}(hy:y=e0+256*(e1+256*(e2+256*(e3+256*(e4+256*(e5+256*(e6+256*e7)))))))(h:e0<256):
  tV y=(e0+e1)+256*((e1+e2)+256*((e2+e3)+256*((e3+e4)+256*((e4+e5)+256*((e5+e6)+256*((e6+e7)+256*e7)))))):=by
 have q:y/256=e1+256*(e2+256*(e3+256*(e4+256*(e5+256*(e6+256*e7))))):=by rw[hy,xm (a:=e0) (b:=256) _ h]
 unfold tV;rw[q,hy];exact GI _ _ _ _ _ _ _ _
theorem GJ (f0 f1 t:Nat):f0+256*(f1+256*t)=(f0+256*f1)+65536*t:=by omega
theorem GK (f0 f1 f2 f3 f4 f5 f6 f7:Nat):(f0+256*(f1+256*(f2+256*(f3+256*(f4+256*(f5+256*(f6+256*f7)))))))+(f2+256*(f3+256*(f4+256*(f5+256*(f6+256*f7)))))=
  (f0+f2)+256*((f1+f3)+256*((f2+f4)+256*((f3+f5)+256*((f4+f6)+256*((f5+f7)+256*(f6+256*f7)))))):=by omega
theorem EZ {y f0 f1 f2 f3 f4 f5 f6 f7:Nat}(hy:y=f0+256*(f1+256*(f2+256*(f3+256*(f4+256*(f5+256*(f6+256*f7)))))))(h0:f0<256)(h1:f1<256):
  xh y=(f0+f2)+256*((f1+f3)+256*((f2+f4)+256*((f3+f5)+256*((f4+f6)+256*((f5+f7)+256*(f6+256*f7)))))):=by
 have q:y/65536=f2+256*(f3+256*(f4+256*(f5+256*(f6+256*f7)))):=by
  have hlt:f0+256*f1<65536:=by clear hy;omega
  rw[hy,GJ,xm (a:=f0+256*f1) (b:=65536) _ hlt]
 unfold xh;rw[q,hy];exact GK _ _ _ _ _ _ _ _
theorem GL (f0 f1 f2 f3 t:Nat):f0+256*(f1+256*(f2+256*(f3+256*t)))=(f0+256*(f1+256*(f2+256*f3)))+4294967296*t:=by omega
theorem Gv (f0 g0 t s:Nat):(f0+256*t)+(g0+256*s)=(f0+g0)+128*(2*(t+s)):=by omega
theorem E5 {y f0 f1 f2 f3 f4 f5 f6 f7:Nat}(hy:y=f0+256*(f1+256*(f2+256*(f3+256*(f4+256*(f5+256*(f6+256*f7)))))))(h0:f0<256)(h1:f1<256)(h2:f2<256)(h3:f3<256)(h4:f0+f4<128):
  xk y%128=f0+f4∧xk y=y+(f4+256*(f5+256*(f6+256*f7))):=by
 have q:y/4294967296=f4+256*(f5+256*(f6+256*f7)):=by
  have hlt:f0+256*(f1+256*(f2+256*f3))<4294967296:=by clear hy;omega
  rw[hy,GL,xm (a:=f0+256*(f1+256*(f2+256*f3))) (b:=4294967296) _ hlt]
 unfold xk;rw[q];refine⟨?_,rfl⟩;rw[hy,Gv,Nat.add_mul_mod_self_left,Nat.mod_eq_of_lt h4]
theorem BP {f0 f1 f2 f3 f4 f5 f6 f7:Nat}(h0:f0≤64)(h1:f1≤64)(h2:f2≤64)(h3:f3≤64)(h4:f4≤64)(h5:f5≤64)(h6:f6≤64)(h7:f7≤64):
  f0+256*(f1+256*(f2+256*(f3+256*(f4+256*(f5+256*(f6+256*f7))))))≤4629771061636907072:=by omega
theorem E8 (x:Nat)(hx:x<18446744073709551616):xk (xh (tV (qZ (kF (jl x)))))%128=nM x 64∧tV (qZ (kF (jl x)))<18446744073709551616∧xh (tV (qZ (kF (jl x))))<18446744073709551616∧xk (xh (tV (qZ (kF (jl x)))))<9223372036854775808:=by
 obtain⟨e0,e1,e2,e3,e4,e5,e6,e7,h,hs,b0,b1,b2,b3,b4,b5,b6,b7⟩:=FR x hx;have l4:=BP (f0:=e0+e1) (f1:=e1+e2) (f2:=e2+e3) (f3:=e3+e4) (f4:=e4+e5) (f5:=e5+e6) (f6:=e6+e7) (f7:=e7) (by clear h hs;omega) (by clear h hs;omega) (by clear h hs;omega) (by clear h hs;omega) (by clear h hs;omega) (by clear h hs;omega) (by clear h hs;omega) (by clear h hs;omega);have l5:=BP (f0:=e0+e1+(e2+e3)) (f1:=e1+e2+(e3+e4)) (f2:=e2+e3+(e4+e5)) (f3:=e3+e4+(e5+e6)) (f4:=e4+e5+(e6+e7)) (f5:=e5+e6+e7) (f6:=e6+e7) (f7:=e7) (by clear h hs l4;omega) (by clear h hs l4;omega) (by clear h hs l4;omega) (by clear h hs l4;omega) (by clear h hs l4;omega) (by clear h hs l4;omega) (by clear h hs l4;omega) (by clear h hs l4;omega);have l6:e4+e5+(e6+e7)+256*(e5+e6+e7+256*(e6+e7+256*e7))≤1000000000000:=by clear h hs l4 l5;omega
 have r0:e0<256:=by clear h hs l4 l5 l6;omega
 have r1:e0+e1<256:=by clear h hs l4 l5 l6;omega
 have r2:e1+e2<256:=by clear h hs l4 l5 l6;omega
 have r3:e0+e1+(e2+e3)<256:=by clear h hs l4 l5 l6;omega
 have r4:e1+e2+(e3+e4)<256:=by clear h hs l4 l5 l6;omega
 have r5:e2+e3+(e4+e5)<256:=by clear h hs l4 l5 l6;omega
 have r6:e3+e4+(e5+e6)<256:=by clear h hs l4 l5 l6;omega
 have r7:e0+e1+(e2+e3)+(e4+e5+(e6+e7))<128:=by clear h hs l4 l5 l6;omega
 have r8:e0+e1+(e2+e3)+(e4+e5+(e6+e7))=nM x 64:=by rw[←hs];clear h hs l4 l5 l6;omega
 have q4:=EY h r0;have q5:=EZ q4 r1 r2;have q6:=E5 q5 r3 r4 r5 r6 r7;rw[←q4] at l4;rw[←q5] at l5;refine⟨q6.1.trans r8,Nat.lt_of_le_of_lt l4 (by decide),Nat.lt_of_le_of_lt l5 (by decide), ?_⟩;rw[q6.2];exact Nat.lt_of_le_of_lt (Nat.add_le_add l5 l6) (by decide)
theorem kT (a b:Nat):a&&& b≤b:=Nat.and_le_right
theorem FT {n:Nat}(h:n<18446744073709551616):IntKind.u64.wrap (n:Int)=(n:Int):=by
 rw[IntKind.wrap_u64];omega
theorem r1 {x:Nat}(hx:x<18446744073709551616):IntKind.u64.wrap (bits .and .u64 ((x:Int)/2) 6148914691236517205+bits .and .u64 (x:Int) 6148914691236517205)=(jl x:Int)∧jl x≤12297829382473034410:=by
 have h1:=kT (x/2) 6148914691236517205;have h2:=kT x 6148914691236517205;have hp:jl x≤12297829382473034410:=by unfold jl;omega
 refine⟨?_,hp⟩;have e1:=u64_and_nat (x/2) 6148914691236517205 (by omega) (by decide);have e2:=u64_and_nat x 6148914691236517205 hx (by decide);rw[show((x:Int)/2)=((x/2:Nat):Int) from rfl,show(6148914691236517205:Int)=((6148914691236517205:Nat):Int) from rfl,e1,e2,←Int.natCast_add];exact FT (by show jl x<_;omega)
theorem r2 {x:Nat}(hx:x<18446744073709551616):IntKind.u64.wrap (bits .and .u64 ((x:Int)/4) 3689348814741910323+bits .and .u64 (x:Int) 3689348814741910323)=(kF x:Int)∧kF x≤7378697629483820646:=by
 have h1:=kT (x/4) 3689348814741910323;have h2:=kT x 3689348814741910323;have hp:kF x≤7378697629483820646:=by unfold kF;omega
 refine⟨?_,hp⟩;have e1:=u64_and_nat (x/4) 3689348814741910323 (by omega) (by decide);have e2:=u64_and_nat x 3689348814741910323 hx (by decide);rw[show((x:Int)/4)=((x/4:Nat):Int) from rfl,show(3689348814741910323:Int)=((3689348814741910323:Nat):Int) from rfl,e1,e2,←Int.natCast_add];exact FT (by show kF x<_;omega)
theorem r3 {x:Nat}(hx:x≤7378697629483820646):bits .and .u64 (IntKind.u64.wrap ((x:Int)/16+(x:Int))) 1085102592571150095=(qZ x:Int)∧qZ x≤1085102592571150095:=by
 refine⟨?_,kT _ _⟩;have hs:x/16+x<18446744073709551616:=by omega
 rw[show((x:Int)/16)=((x/16:Nat):Int) from rfl,show(1085102592571150095:Int)=((1085102592571150095:Nat):Int) from rfl,←Int.natCast_add,FT hs];exact u64_and_nat (x/16+x) 1085102592571150095 hs (by decide)
theorem r4 {x:Nat}(hx:tV x<18446744073709551616):IntKind.u64.wrap ((x:Int)+(x:Int)/256)=(tV x:Int):=by
 rw[show((x:Int)/256)=((x/256:Nat):Int) from rfl,←Int.natCast_add];exact FT hx
theorem r5 {x:Nat}(hx:xh x<18446744073709551616):IntKind.u64.wrap ((x:Int)+(x:Int)/65536)=(xh x:Int):=by
 rw[show((x:Int)/65536)=((x/65536:Nat):Int) from rfl,←Int.natCast_add];exact FT hx
theorem r6 {x:Nat}(hx:xk x<18446744073709551616):IntKind.u64.wrap ((x:Int)+(x:Int)/4294967296)=(xk x:Int):=by
 rw[show((x:Int)/4294967296)=((x/4294967296:Nat):Int) from rfl,←Int.natCast_add];exact FT hx
theorem FU (a:Nat)(ha:a<9223372036854775808):bits .and .i64 (a:Int) 127=((a%128:Nat):Int):=by
 have h127:a&&& 127=a%128:=Nat.and_two_pow_sub_one_eq_mod a 7
 show IntKind.i64.wrap ((BitVec.ofInt 64 (a:Int)&&& BitVec.ofInt 64 ((127:Nat):Int)).toNat:Int)=_
 rw[BitVec.toNat_and,BitVec.ofInt_natCast,BitVec.ofInt_natCast,BitVec.toNat_ofNat,BitVec.toNat_ofNat,Nat.mod_eq_of_lt (show a<2^64 by omega),show(127:Nat)%2^64=127 from rfl,h127,IntKind.wrap_i64];omega
theorem Bf (x:Nat)(w:H5)(hx:x<18446744073709551616):zS 194 #[.int .u64 (x:Int)] w (.int .i64 (nM x 64:Nat)):=by
 obtain⟨a1,b1⟩:=r1 hx;obtain⟨a2,b2⟩:=r2 (x:=jl x) (Nat.lt_of_le_of_lt b1 (by decide));obtain⟨a3,b3⟩:=r3 (x:=kF (jl x)) b2;obtain⟨hp,p4,p5,p6⟩:=E8 x hx;have a4:=r4 p4;have a5:=r5 p5;have a6:=r6 (Nat.lt_trans p6 (by decide));have a7:=FU _ p6;rw[hp] at a7;have a8:wrap64 ((xk (xh (tV (qZ (kF (jl x))))):Nat):Int)=((xk (xh (tV (qZ (kF (jl x))))):Nat):Int):=by
  unfold wrap64;omega
 clear b1 b2 b3 hp p4 p5 p6;go_enter func194,ntmps194;go_wp2;go_ret;exact⟨rfl,rfl⟩
def dm (n:Nat)(f:Nat→Nat):Array Value:=((List.range n).map fun i=>Value.int .u64 (f i:Int)).toArray
theorem kU (n:Nat)(f:Nat→Nat):(dm n f).size=n:=by simp[dm]
theorem mg {n i:Nat}(f:Nat→Nat)(h:i<n):(dm n f)[i]?=some (.int .u64 (f i:Int)):=by
 simp[dm,h]
def bP (w:H5)(B n:Nat)(f:Nat→Nat):Prop:=∃cur,w.heap[B]?=some (.cells cur 245 (0,0))∧n≤cur.size∧∀i,i<n→cur[i]?=some (.int .u64 (f i:Int))
theorem bP.cell {w:H5}{B n i:Nat}{f:Nat→Nat}(h:bP w B n f)(hi:i<n):w.cell? ⟨B,i,none⟩=some (.int .u64 (f i:Int)):=by
 obtain⟨cur,h1,_,h3⟩:=h;rw[cell_of_row _ _ _ _ _ _ h1];exact h3 i hi
theorem bP.frozen {w:H5}{B n i:Nat}{f:Nat→Nat}(h:bP w B n f):w.frozen? ⟨B,i,none⟩=false:=by
 obtain⟨cur,h1,_⟩:=h;exact frozen_of_row _ _ _ _ _ h1
theorem bP.lt {w:H5}{B n:Nat}{f:Nat→Nat}(h:bP w B n f):B<w.heap.size:=by
 obtain⟨cur,h1,_⟩:=h;exact(GR.1 h1).1
theorem bP.congr {w:H5}{B n:Nat}{f g:Nat→Nat}(h:bP w B n f)(e:∀i,i<n→f i=g i):bP w B n g:=by
 obtain⟨cur,h1,h2,h3⟩:=h;exact⟨cur,h1,h2,fun i hi=>by rw[←e i hi];exact h3 i hi⟩
theorem bP.keep {w w':H5}{B n:Nat}{f:Nat→Nat}(h:bP w B n f)(e:w'.heap[B]?=w.heap[B]?):bP w' B n f:=by
 obtain⟨cur,h1,h2,h3⟩:=h;exact⟨cur,e.trans h1,h2,h3⟩
theorem bP.ext {w w':H5}{B n:Nat}{f:Nat→Nat}{M:Nat→Prop}(h:bP w B n f)(hx:Ext M w w')(hM:¬M B):bP w' B n f:=
 h.keep (hx.block B h.lt hM)
theorem bP.below {w w':H5}{B n m:Nat}{f:Nat→Nat}(h:bP w B n f)(hx:H9 m w w')(hM:B<m):bP w' B n f:=
 h.keep (hx.block B hM)
theorem bP.set {w:H5}{B n i v:Nat}{f:Nat→Nat}(h:bP w B n f):bP (w.setCell ⟨B,i,none⟩ (.int .u64 (v:Int))) B n (fun x=>if x=i then v else f x):=by
 obtain⟨cur,h1,h2,h3⟩:=h;refine⟨_,heap_setCell_same _ _ _ _ _ _ h1,by simpa using h2,fun j hj=> ?_⟩;rw[Array.getElem?_setIfInBounds]
 by_cases e:i=j
 ·subst e;rw[if_pos rfl,if_pos (by omega)];simp
 ·rw[if_neg e];have e':¬j=i:=fun h=>e h.symm
  simp only[if_neg e'];exact h3 j hj
theorem bP.of_cells {w:H5}{B n:Nat}{f:Nat→Nat}(h:w.heap[B]?=some (.cells (dm n f) 245 (0,0))):bP w B n f:=
 ⟨_,h,by rw[kU];exact He _,fun _ hi=>mg f hi⟩
theorem bP.of_owns {w:H5}{base n g cap:Nat}{f:Nat→Nat}(h:w.ownsRow base 245 1 (.slice (some ⟨g,0,none⟩) n cap) n ((List.range n).map fun i=>Value.int .u64 (f i:Int))):bP w g n f:=by
 rcases h.2 with⟨h1,_⟩|⟨g',cap',cur,h1,h2,h3,h4,h5,h6,h7⟩
 ·cases h1
 ·simp only[Value.slice.injEq,Option.some.injEq,Addr.mk.injEq] at h1
  obtain⟨⟨rfl,_,_⟩,_,rfl⟩:=h1;refine⟨cur,h3,by omega,fun i hi=> ?_⟩;have e:(cur.toList.take (n*1))[i]?=some (.int .u64 (f i:Int)):=by rw[h7];simp[hi]
  rw[List.getElem?_take,if_pos (by omega)] at e;simpa using e
def aY (f:Nat→Nat)(v:Nat):Bool:=(f (v/64)).testBit (v%64)
theorem FV (a k:Nat)(ha:a<18446744073709551616):(bits .and .u64 ((a:Int)/2^k) 1==1)=a.testBit k:=by
 have e:((a:Int)/2^k)=((a/2^k:Nat):Int):=by rw[Int.natCast_ediv,Int.natCast_pow];rfl
 have hl:a/2^k<18446744073709551616:=Nat.lt_of_le_of_lt (Nat.div_le_self _ _) ha;rw[e,show(1:Int)=((1:Nat):Int) from rfl,u64_and_nat _ _ hl (by decide),Nat.and_one_is_mod,Nat.testBit_eq_decide_div_mod_eq]
 by_cases h:a/2^k%2=1
 ·rw[h];rfl
 ·have h0:a/2^k%2=0:=by omega
  rw[h0];rfl
theorem xn (w:H5)(B n cp v:Nat)(f:Nat→Nat)(hrow:bP w B n f)(hf:∀i,f i<18446744073709551616)(hv:v/64<n)(hn:n≤90000):
  zS 148 #[.slice (some ⟨B,0,none⟩) n cp,.int .i64 (v:Int)] w (.bool (aY f v)):=by
 have hc:w.cell? ⟨B,v/64,none⟩=some (.int .u64 (f (v/64):Int)):=hrow.cell hv;have hlt:=hf (v/64);have hvI:((v/64:Nat):Int)<(n:Int):=by omega
 have hvb:v<9000000:=by omega
 have hq:(bits .and .u64 ((f (v/64):Int)/2^(v%64)) 1==1)=aY f v:=FV _ _ hlt;clear hrow hf;go_enter func148,ntmps148;go_wp2;go_ret;exact⟨rfl,rfl⟩
theorem kV {k:Nat}(h:k<64):2^k<18446744073709551616:=Hd (Nat.pow_lt_pow_right (by decide) h) (by decide)
theorem zg {k:Nat}(h:k<64):IntKind.u64.wrap (2^k)=((2^k:Nat):Int):=by
 have e:((2:Int)^k)=((2^k:Nat):Int):=by rw[Int.natCast_pow];rfl
 rw[e];exact FT (kV h)
theorem Gj (a k:Nat)(ha:a<18446744073709551616)(h:k<64):bits .or .u64 (a:Int) (IntKind.u64.wrap (2^k))=((a|||2^k:Nat):Int):=by
 rw[zg h];exact u64_or_nat _ _ ha (kV h)
theorem CJ (a k:Nat)(ha:a<18446744073709551616)(h:k<64):bits .andNot .u64 (a:Int) (IntKind.u64.wrap (2^k))=((a&&&(18446744073709551615-2^k):Nat):Int):=by
 rw[zg h];exact u64_andNot_nat _ _ ha (kV h)
def qh (w:H5)(B n:Nat)(g:Nat→Nat)(e:Ending)(w':H5):Prop:=
 e= .returned (.tuple #[])∧bP w' B n g∧Ext (·=B) w w'
theorem xq (w:H5)(B n cp v:Nat)(f:Nat→Nat)(hrow:bP w B n f)(hf:∀i,f i<18446744073709551616)(hv:v/64<n)(hn:n≤90000):
  Calls prog 145 #[.slice (some ⟨B,0,none⟩) n cp,.int .i64 (v:Int)] w (qh w B n (fun x=>if x=v/64 then f (v/64)|||2^(v%64) else f x)):=by
 have hc:w.cell? ⟨B,v/64,none⟩=some (.int .u64 (f (v/64):Int)):=hrow.cell hv;have hfz:w.frozen? ⟨B,v/64,none⟩=false:=hrow.frozen;have hlt:=hf (v/64);have hvI:((v/64:Nat):Int)<(n:Int):=by omega
 have hvb:v<9000000:=by omega
 have ho:=Gj (f (v/64)) (v%64) hlt (Nat.mod_lt _ (by decide));have HP:Ia (qh w B n (fun x=>if x=v/64 then f (v/64)|||2^(v%64) else f x) (.returned (.tuple #[])) (w.setCell ⟨B,v/64,none⟩ (.int .u64 ((f (v/64)|||2^(v%64):Nat):Int))).drew):=
  ⟨rfl,hrow.set.keep rfl,(Ext.set1 _ _ _ _).drew⟩
 clear hrow hf;go_enter func145,ntmps145;go_wp2
 go_region
 all_goals (go_end0;exact HP.out)
theorem tX (w:H5)(B n cp v:Nat)(f:Nat→Nat)(hrow:bP w B n f)(hf:∀i,f i<18446744073709551616)(hv:v/64<n)(hn:n≤90000):
  Calls prog 143 #[.slice (some ⟨B,0,none⟩) n cp,.int .i64 (v:Int)] w (qh w B n (fun x=>if x=v/64 then f (v/64)&&&(18446744073709551615-2^(v%64)) else f x)):=by
 have hc:w.cell? ⟨B,v/64,none⟩=some (.int .u64 (f (v/64):Int)):=hrow.cell hv;have hfz:w.frozen? ⟨B,v/64,none⟩=false:=hrow.frozen;have hlt:=hf (v/64);have hvI:((v/64:Nat):Int)<(n:Int):=by omega
 have hvb:v<9000000:=by omega
 have ho:=CJ (f (v/64)) (v%64) hlt (Nat.mod_lt _ (by decide));have HP:Ia (qh w B n (fun x=>if x=v/64 then f (v/64)&&&(18446744073709551615-2^(v%64)) else f x) (.returned (.tuple #[])) (w.setCell ⟨B,v/64,none⟩ (.int .u64 ((f (v/64)&&&(18446744073709551615-2^(v%64)):Nat):Int))).drew):=
  ⟨rfl,hrow.set.keep rfl,(Ext.set1 _ _ _ _).drew⟩
 clear hrow hf;go_enter func143,ntmps143;go_wp2
 go_region
 all_goals (go_end0;exact HP.out)
theorem E9 (f:Nat→Nat)(v u:Nat):aY (fun x=>if x=v/64 then f (v/64)|||2^(v%64) else f x) u=(aY f u||decide (u=v)):=by
 unfold aY
 by_cases h:u/64=v/64
 ·simp only[if_pos h]
  rw[Nat.testBit_or,Nat.testBit_two_pow,←h];congr 1
  by_cases e:v%64=u%64
  ·rw[decide_eq_true e,decide_eq_true (by omega)]
  ·rw[decide_eq_false e,decide_eq_false (by intro e2;subst e2;exact e rfl)]
 ·simp only[if_neg h]
  rw[decide_eq_false (by intro e;subst e;exact h rfl),Bool.or_false]
theorem D8 (f:Nat→Nat)(v u:Nat):aY (fun x=>if x=v/64 then f (v/64)&&&(18446744073709551615-2^(v%64)) else f x) u=(aY f u&&decide (u≠v)):=by
 unfold aY
 by_cases h:u/64=v/64
 ·simp only[if_pos h]
  have hk:v%64<64:=Nat.mod_lt _ (by decide);have e1:18446744073709551615-2^(v%64)=2^64-(2^(v%64)+1):=by omega
  rw[Nat.testBit_and,e1,Nat.testBit_two_pow_sub_succ (kV hk),←h,Nat.testBit_two_pow];congr 1;rw[decide_eq_true (show u%64<64 from Nat.mod_lt _ (by decide)),Bool.true_and]
  by_cases e:v%64=u%64
  ·rw[decide_eq_true e,decide_eq_false (by intro e2;exact e2 (by omega))];rfl
  ·rw[decide_eq_false e,decide_eq_true (by intro e2;subst e2;exact e rfl)];rfl
 ·simp only[if_neg h]
  rw[decide_eq_true (by intro e;subst e;exact h rfl),Bool.and_true]
def dK (n:Nat)(f:Nat→Nat):Nat:=((List.range n).map fun i=>nM (f i) 64).sum
theorem xu:∀(n x:Nat),nM x n≤n
 |0,_=>by simp[nM,ik]
 |n+1,x=>by
  have h:=xu n (x/2);unfold nM at h⊢;simp only[ik,List.sum_cons];omega
theorem ko (n:Nat)(f:Nat→Nat):dK (n+1) f=dK n f+nM (f n) 64:=by
 unfold dK;rw[List.range_succ,List.map_append,List.sum_append];simp
theorem Bg (n:Nat)(f:Nat→Nat):dK n f≤64*n:=by
 induction n with
 |zero=>simp[dK]
 |succ n ih=>rw[ko];have:=xu 64 (f n);omega
theorem rf (w:H5)(B n cp:Nat)(f:Nat→Nat)(hrow:bP w B n f)(hf:∀i,f i<18446744073709551616)(hn:n≤90000):
  zS 146 #[.slice (some ⟨B,0,none⟩) n cp] w (.int .i64 (dK n f:Nat)):=by
 have HROW:=zH hrow;have HF:=zH hf;clear hrow hf;go_enter func146,ntmps146
 go_wp2_with fail
 go_loop [2,7] (fun t c=>∃j:Nat,j≤n∧c= .int .i64 (j:Int)∧t= .int .i64 ((dK j f:Nat):Int)) (fun _ c=>n-(intOf c).toNat)
 case atStart=>exact⟨0,Hg _,rfl,rfl⟩
 case round=>
  obtain⟨j,hj,rfl,rfl⟩:=hrel;have hle:=Bg j f
  by_cases hjl:j<n
  ·have hc:w.cell? ⟨B,j,none⟩=some (.int .u64 (f j:Int)):=HROW.out.cell hjl
   have HO:=zH (Bf (f j) w (HF.out j));have hp:=xu 64 (f j);have hjI:(j:Int)<(n:Int):=by omega
   have HS:Ia (dK (j+1) f=dK j f+nM (f j) 64):=ko j f
   go_wp2_with (go_at_call 194;refine HO.out.mono ?_;rintro e w' ⟨rfl,rfl⟩)
   go_round
   case rel=>exact⟨j+1,by omega,by go_num,by rw[HS.out];go_num⟩
   case measure=>simp[intOf];omega
  ·have hje:j=n:=by omega
   subst hje;go_wp2;go_ret;exact⟨rfl,rfl⟩
def Bh (x r:Nat):Bool:=(x&&&(18446744073709551615-r)) != 0
def gW (f g:Nat→Nat)(j:Nat):Nat→Nat:=fun i=>if i<j then f i|||g i else f i
def eB (f g:Nat→Nat)(j:Nat):Bool:=(List.range j).any fun i=>Bh (g i) (f i)
theorem zh (f g:Nat→Nat)(j:Nat):eB f g (j+1)=(eB f g j||Bh (g j) (f j)):=by
 unfold eB;rw[List.range_succ,List.any_append];simp
theorem FW (x r:Nat)(hx:x<18446744073709551616)(hr:r<18446744073709551616):(bits .andNot .u64 (x:Int) (r:Int) != 0)=Bh x r:=by
 rw[u64_andNot_nat _ _ hx hr];unfold Bh
 by_cases h:x&&&(18446744073709551615-r)=0
 ·rw[h];rfl
 ·have:((x&&&(18446744073709551615-r):Nat):Int)≠0:=by omega
  rw[bne_iff_ne.2 this,bne_iff_ne.2 h]
def FD (w:H5)(B n:Nat)(f g:Nat→Nat)(b c:Value)(wr:H5):Prop:=
 ∃j:Nat,j≤n∧c= .int .i64 (j:Int)∧b= .bool (eB f g j)∧bP wr B n (gW f g j)∧Ext (·=B) w wr
def Joined (w:H5)(B n:Nat)(f g:Nat→Nat)(e:Ending)(w':H5):Prop:=
 e= .returned (.bool (eB f g n))∧bP w' B n (gW f g n)∧Ext (·=B) w w'
theorem tY (w:H5)(B X n cp cq:Nat)(f g:Nat→Nat)(hBX:X≠B)(hrow:bP w B n f)(hrx:bP w X n g)(hf:∀i,f i<18446744073709551616)(hg:∀i,g i<18446744073709551616)(hn:n≤90000):
  Calls prog 105 #[.slice (some ⟨B,0,none⟩) n cp,.slice (some ⟨X,0,none⟩) n cq] w (Joined w B n f g):=by
 have HROW:=zH hrow;have HRX:=zH hrx;have HF:=zH hf;have HG:=zH hg;clear hrow hf hg hrx;go_enter func105,ntmps105
 go_wp2_with fail
 go_loopw [5,10] (fun b c wr=>FD w B n f g b c wr) (fun _ c _=>n-(intOf c).toNat)
 case atStart=>exact⟨0,Hg _,rfl,rfl,HROW.out.congr (fun i _=>by simp[gW]),Ext.refl _ _⟩
 case round=>
  obtain⟨j,hj,rfl,rfl,hr,hx⟩:=hrel
  by_cases hjl:j<n
  ·have c1:wr.cell? ⟨B,j,none⟩=some (.int .u64 (f j:Int)):=by rw[hr.cell hjl];simp[gW]
   have c2:wr.cell? ⟨X,j,none⟩=some (.int .u64 (g j:Int)):=(HRX.out.ext hx hBX).cell hjl;have c3:wr.frozen? ⟨B,j,none⟩=false:=hr.frozen;have e1:=FW (g j) (f j) (HG.out j) (HF.out j);have e2:=u64_or_nat (f j) (g j) (HF.out j) (HG.out j);have hjI:(j:Int)<(n:Int):=by omega
   have HS:Ia (FD w B n f g (.bool (eB f g j||Bh (g j) (f j))) (.int .i64 ((j:Int)+1)) (wr.setCell ⟨B,j,none⟩ (.int .u64 ((f j|||g j:Nat):Int)))):=by
    refine⟨j+1,by omega,by simp,by rw[zh],hr.set.congr (fun i _=> ?_),hx.trans (Ext.set1 _ _ _ _) (fun j hj=> .inl hj)⟩;unfold gW
    by_cases hi:i=j
    ·subst hi;rw[if_pos rfl,if_pos (by omega)]
    ·rw[if_neg hi]
     by_cases hij:i<j
     ·rw[if_pos hij,if_pos (by omega)]
     ·rw[if_neg hij,if_neg (by omega)]
   clear hr hx;cases hb:eB f g j with
   |true=>
    rw[hb] at HS;clear hb;go_wp2;exact⟨HS.out,by simp[intOf];omega⟩
   |false=>
    rw[hb] at HS;clear hb;simp only[Bool.false_or] at HS;go_wp2;exact⟨HS.out,by simp[intOf];omega⟩
  ·have hje:j=n:=by omega
   subst hje;have HP:Ia (Joined w B j f g (.returned (.bool (eB f g j))) wr):=⟨rfl,hr,hx⟩
   clear hr hx;go_wp2;go_ret;exact HP.out
def D9 (base:Nat)(w:H5)(xs:List Int)(e:Ending)(w':H5):Prop:=
 ∃ao cap,e= .returned (.slice ao xs.length cap)∧aU w' base (.slice ao xs.length cap) xs∧H9 base w w'
theorem nO {w:H5}{g:Nat}{a b:Value}{t:TypeId}(h:w.heap[g]?=some (.cells #[a,b] t (0,0))):
  w.cell? ⟨g,0,none⟩=some a∧w.cell? ⟨g,1,none⟩=some b∧w.frozen? ⟨g,0,none⟩=false∧w.frozen? ⟨g,1,none⟩=false:=by
 refine⟨?_, ?_,frozen_of_row w g _ _ t h,frozen_of_row w g _ _ t h⟩<;>rw[cell_of_row w g _ _ t _ h]<;>rfl
theorem zi (base g:Nat)(a b:Int)(w:H5)(hg:base≤g)(h:w.heap[g]?=some (.cells #[.int .i64 a,.int .i64 b] 3 (0,0)))(hne:a≠b):
  Calls prog 228 #[.slice (some ⟨g,0,none⟩) 2 2] w (D9 base w [a,b]):=by
 obtain⟨h0,h1,f0,f1⟩:=nO h;have HH:=zH h;have hb:(b==a)=false:=beq_eq_false_iff_ne.2 (fun e=>hne e.symm);clear h hne;go_enter func228,ntmps228;go_wp2;refine wp_loop_rounds 2 ?_;rw[rounds_succ];go_wp2
 go_quiet (fail)
 go_wp2;rw[rounds_succ];go_wp2;go_ret;refine⟨_,_,rfl, ?_,below_drewN (Hw _ _) _⟩;exact⟨rfl,.inr ⟨g,2,_,rfl,hg,HH.out,He _,by decide,rfl,rfl⟩⟩
theorem zk (base g:Nat)(a:Int)(w:H5)(hg:base≤g)(h:w.heap[g]?=some (.cells #[.int .i64 a,.int .i64 a] 3 (0,0))):
  Calls prog 228 #[.slice (some ⟨g,0,none⟩) 2 2] w (D9 base w [a]):=by
 obtain⟨h0,h1,f0,f1⟩:=nO h;have HH:=zH h;clear h;obtain⟨i0,hi,hz0,hz1,hz2⟩:=info_parts iP;have HHd:∀n,(w.drewN n).heap[g]?=some (.cells #[.int .i64 a,.int .i64 a] 3 (0,0)):=fun _=>HH.out;go_enter func228,ntmps228;go_wp2;refine wp_loop_rounds 1 ?_;rw[rounds_succ];go_wp2
 go_quiet (fail)
 go_wp2;refine wp_loop_rounds 1 ?_;rw[rounds_succ]
 go_wp2_with (refine mQ _ rfl (.tmp 56) 35 3 rfl i0 (.int .i64 0) underlying35 hi hz0 rfl rfl g 1 1 1 rfl #[.int .i64 a,.int .i64 a] 3 (HHd _) (He 2) (by decide) ?_)
 go_ret;refine⟨_,_,rfl, ?_,below_setRow (below_drewN (Hw _ _) _) hg _⟩;exact⟨rfl,.inr ⟨g,2,_,rfl,hg,setRow_heap _ _ _ _ _ _ HH.out,Nat.le_succ 1,by decide,rfl,rfl⟩⟩
theorem Fa (i:Ins)(at_:Int)(w:H5)(h0:0≤at_)(h1:at_<100000):
  Calls prog 191 #[.agg i.cells,.int .i64 at_] w (iR w (iQ i at_)):=by
 obtain⟨op,d,a,b,f,n,sign,argsV,modeV,tI,els,ln,cl,args⟩:=i;simp only[Ins.cells,iQ]
 by_cases c16:op=16
 ·subst c16
  rw[if_pos rfl];go_enter func191,ntmps191;go_wp2;go_ret;exact⟨_,_,rfl,aU.lit1 (by simp) (by simp),((Hw _ _).alloc (He _) _).alloc (by simp) _⟩
 by_cases c17:op=17
 ·subst c17
  by_cases ce:tI=els
  ·subst ce
   rw[if_neg (by decide),if_pos rfl,if_pos rfl];go_enter func191,ntmps191
   go_wp2_with (go_at_call 228;refine(zk w.heap.size (w.heap.size+1) tI _ (by omega) (heap_alloc2_new _ _ _)).mono ?_;rintro e w1 ⟨ao,cap,rfl,hown,hbel⟩)
   go_ret;exact⟨_,_,rfl,hown,(((Hw _ _).alloc (He _) _).alloc (by simp) _).trans hbel⟩
  ·rw[if_neg (by decide),if_pos rfl,if_neg ce]
   have HE:=zH ce;clear ce;go_enter func191,ntmps191
   go_wp2_with (go_at_call 228;refine(zi w.heap.size (w.heap.size+1) tI els _ (by omega) (heap_alloc2_new _ _ _) HE.out).mono ?_;rintro e w1 ⟨ao,cap,rfl,hown,hbel⟩)
   go_ret;exact⟨_,_,rfl,hown,(((Hw _ _).alloc (He _) _).alloc (by simp) _).trans hbel⟩
 by_cases c18:op=18
 ·subst c18
  rw[if_neg (by decide),if_neg (by decide),if_pos rfl];go_enter func191,ntmps191;go_wp2;go_ret;exact⟨_,_,rfl,aU.nil _ _,((Hw _ _).alloc (He _) _)⟩
 ·rw[if_neg c16,if_neg c17,if_neg c18]
  have b16:(op==16)=false:=beq_eq_false_iff_ne.2 c16;have b17:(op==17)=false:=beq_eq_false_iff_ne.2 c17;have b18:(op==18)=false:=beq_eq_false_iff_ne.2 c18;clear c16 c17 c18;go_enter func191,ntmps191;go_wp2;go_ret;exact⟨_,_,rfl,aU.lit1 (by simp) (by simp),((Hw _ _).alloc (He _) _).alloc (by simp) _⟩
theorem rq (x:Int)(bc n insC:Nat)(insA:Option Addr)(w:H5)(hc:w.cell? ⟨bc,7,none⟩=some (.slice insA n insC))(hx:eQ n x=true):
  zS 192 #[.int .i64 x,.pointer (some ⟨bc,0,none⟩)] w (.bool false):=by
 have h0:0≤x∧x<n:=by simpa[eQ] using hx
 obtain⟨h0,h1⟩:=h0;have d0:decide (x<0)=false:=by simpa using h0
 have d1:decide ((n:Int)≤x)=false:=by simpa using h1
 clear hx;go_enter func192,ntmps192;go_wp2;go_ret;exact⟨rfl,rfl⟩
theorem uV (x:Int)(bc n insC:Nat)(insA:Option Addr)(w:H5)(hc:w.cell? ⟨bc,7,none⟩=some (.slice insA n insC))(hx:eQ n x=false):
  zS 192 #[.int .i64 x,.pointer (some ⟨bc,0,none⟩)] w (.bool true):=by
 by_cases h0:0≤x
 ·have h1:n≤x:=by simp[eQ] at hx;exact hx h0
  clear hx;go_enter func192,ntmps192;go_wp2;go_ret;exact⟨rfl,rfl⟩
 ·have h1:x<0:=by omega
  clear hx h0;go_enter func192,ntmps192;go_wp2;go_ret;exact⟨rfl,rfl⟩
def BQ (w:H5)(ao:Option Addr)(xs:List Int):Prop:=
 0<xs.length→∃b off,ao=some ⟨b,off,none⟩∧∀(k:Nat)(z:Int),xs[k]?=some z→w.cell? ⟨b,off+k,none⟩=some (.int .i64 z)
theorem Ea (bc n insC:Nat)(insA:Option Addr)(ao:Option Addr)(cap:Nat)(xs:List Int)(w:H5)(hc:w.cell? ⟨bc,7,none⟩=some (.slice insA n insC))(hl:xs.length≤100000)
  (hr:BQ w ao xs)(hall:∀x∈xs,eQ n x=true):
  zS 152 #[.slice ao xs.length cap,.func (.func 192) #[] #[.pointer (some ⟨bc,0,none⟩)]] w (.int .i64 (-1)):=by
 have HR:=zH hr;have HA:=zH hall;clear hr hall;go_enter func152,ntmps152;go_wp2
 go_loop [8] (fun i=>∃k:Nat,k≤xs.length∧i= .int .i64 (k:Int)) (fun i=>xs.length-(intOf i).toNat)
 case atStart=>exact⟨0,Hg _,rfl⟩
 case round=>
  obtain⟨k,hk,rfl⟩:=hrel
  by_cases hkl:k<xs.length
  ·obtain⟨b,off,rfl,hcell⟩:=HR.out (by omega)
   obtain⟨z,hz⟩:∃z,xs[k]?=some z:=⟨_,GN hkl⟩
   have hzc:=hcell k z hz;have HZ:Ia (eQ n z=true):=HA.out z (GV hz);clear hcell hz
   go_wp2_with (go_at_call 192;refine(rq _ bc n insC insA _ hc HZ.out).mono ?_;rintro e w1 ⟨rfl,rfl⟩)
   go_round
   case rel=>exact⟨k+1,by omega,by go_num⟩
   case measure=>simp[intOf];omega
  ·go_wp2
   go_ret;exact⟨rfl,rfl⟩
theorem Eb (bc n insC:Nat)(insA:Option Addr)(ao:Option Addr)(cap:Nat)(xs:List Int)(i:Nat)(y:Int)(w:H5)(hc:w.cell? ⟨bc,7,none⟩=some (.slice insA n insC))(hl:xs.length≤100000)
  (hr:BQ w ao xs)(hall:∀x∈xs.take i,eQ n x=true)(hi:xs[i]?=some y)(hy:eQ n y=false):
  zS 152 #[.slice ao xs.length cap,.func (.func 192) #[] #[.pointer (some ⟨bc,0,none⟩)]] w (.int .i64 (i:Int)):=by
 have hil:i<xs.length:=(GQ.1 hi).1;have HR:=zH hr;have HA:=zH hall;have HI:=zH hi;have HY:=zH hy;clear hr hall hi hy;go_enter func152,ntmps152;go_wp2
 go_loop [8] (fun v=>∃k:Nat,k≤i∧v= .int .i64 (k:Int)) (fun v=>xs.length-(intOf v).toNat)
 case atStart=>exact⟨0,Hg _,rfl⟩
 case round=>
  obtain⟨k,hk,rfl⟩:=hrel;have hkl:k<xs.length:=by omega
  obtain⟨b,off,rfl,hcell⟩:=HR.out (by omega);obtain⟨z,hz⟩:∃z,xs[k]?=some z:=⟨_,GN hkl⟩
  have hzc:=hcell k z hz
  by_cases hki:k<i
  ·have HZ:Ia (eQ n z=true):=HA.out z (GV (i:=k) (by rw[List.getElem?_take,if_pos hki];exact hz))
   clear hcell hz
   go_wp2_with (go_at_call 192;refine(rq _ bc n insC insA _ hc HZ.out).mono ?_;rintro e w1 ⟨rfl,rfl⟩)
   go_round
   case rel=>exact⟨k+1,by omega,by go_num⟩
   case measure=>simp[intOf];omega
  ·obtain rfl:i=k:=by omega
   have e:z=y:=by have:=HI.out;rw[hz] at this;exact Hl this
   subst e;clear hcell hz
   go_wp2_with (go_at_call 192;refine(uV _ bc n insC insA _ hc HY.out).mono ?_;rintro e w1 ⟨rfl,rfl⟩)
   go_ret;exact⟨rfl,rfl⟩
theorem dP {n:Nat}{xs:List Int}{j:Nat}{z:Int}(hz:xs[j]?=some z):
  (xs.take (j+1)).filter (eQ n)=(xs.take j).filter (eQ n)++(if eQ n z then[z] else[]):=by
 rw[aS hz,List.filter_append,List.filter_cons]
 split<;>simp
def eX (w:H5)(g cap:Nat)(n:Nat)(xs:List Int)(j:Nat):Prop:=
 ∃cur,w.heap[g]?=some (.cells cur 3 (0,0))∧cur.size=cap∧cur.toList.take ((xs.take j).filter (eQ n)).length=((xs.take j).filter (eQ n)).map (Value.int .i64)∧∀(k:Nat)(z:Int),j≤k→xs[k]?=some z→cur[k]?=some (.int .i64 z)
theorem eX.cell {w:H5}{g cap n:Nat}{xs:List Int}{j:Nat}(h:eX w g cap n xs j){z:Int}(hz:xs[j]?=some z):w.cell? ⟨g,j,none⟩=some (.int .i64 z):=by
 obtain⟨cur,h1,_,_,h4⟩:=h;rw[cell_of_row w g j cur _ _ h1];exact h4 j z (He _) hz
theorem eX.skip {w:H5}{g cap n:Nat}{xs:List Int}{j:Nat}(h:eX w g cap n xs j){z:Int}(hz:xs[j]?=some z)(hn:eQ n z=false):eX w g cap n xs (j+1):=by
 obtain⟨cur,h1,h2,h3,h4⟩:=h;have e:(xs.take (j+1)).filter (eQ n)=(xs.take j).filter (eQ n):=by rw[dP hz,hn];simp
 exact⟨cur,h1,h2,by rw[e];exact h3,fun k z hk hz=>h4 k z (by omega) hz⟩
theorem eX.put {w:H5}{g cap n:Nat}{xs:List Int}{j:Nat}(h:eX w g cap n xs j)(hcap:xs.length≤cap){z:Int}(hz:xs[j]?=some z)(hn:eQ n z=true)(hlt:((xs.take j).filter (eQ n)).length<j):
  eX (w.setCell ⟨g,((xs.take j).filter (eQ n)).length,none⟩ (.int .i64 z)) g cap n xs (j+1):=by
 obtain⟨cur,h1,h2,h3,h4⟩:=h;have e:(xs.take (j+1)).filter (eQ n)=(xs.take j).filter (eQ n)++[z]:=by rw[dP hz,hn];simp
 have hj:j<xs.length:=(GQ.1 hz).1;refine⟨_,heap_setCell_same w g _ cur _ _ h1,by simpa using h2, ?_,fun k z hk hz=> ?_⟩
 ·rw[e]
  simp only[GU,List.length_cons,List.length_nil,Array.toList_setIfInBounds,List.map_append,List.map_cons,List.map_nil];generalize hF:(xs.take j).filter (eQ n)=F at*;have hs:F.length<cur.toList.length:=by have:=cur.length_toList;omega
  rw[List.take_add_one,List.take_set,h3,List.getElem?_set_self (by exact hs)];rw[List.set_eq_of_length_le (by simp)];rfl
 ·rw[Array.getElem?_setIfInBounds,if_neg (by omega)]
  exact h4 k z (by omega) hz
theorem Ec (base bc n insC:Nat)(insA:Option Addr)(ao:Option Addr)(cap:Nat)(xs:List Int)(w:H5)(hc:w.cell? ⟨bc,7,none⟩=some (.slice insA n insC))(hl:xs.length≤100000)
  (hown:aU w base (.slice ao xs.length cap) xs)(hall:∀x∈xs,eQ n x=true):
  Calls prog 190 #[.slice ao xs.length cap,.func (.func 192) #[] #[.pointer (some ⟨bc,0,none⟩)]] w (D9 base w (xs.filter (eQ n))):=by
 have hr:BQ w ao xs:=fun h0=>by
  obtain⟨g,e,_,_,hcell⟩:=hown.shape h0;exact⟨g,0,e,fun k z hz=>by rw[Hf];exact hcell k z hz⟩
 have e:xs.filter (eQ n)=xs:=List.filter_eq_self.2 hall;rw[e];have HO:=zH hown;have HI:=zH (Ea bc n insC insA ao cap xs w hc hl hr hall);clear hown hr hall e;go_enter func190,ntmps190
 go_wp2_with (go_at_call 152;refine HI.out.mono ?_;rintro e w1 ⟨rfl,rfl⟩)
 go_ret;exact⟨_,_,rfl,HO.out,Hw _ _⟩
theorem eX.start {w:H5}{base:Nat}{g cap n:Nat}{xs:List Int}{i:Nat}{y:Int}(h:aU w base (.slice (some ⟨g,0,none⟩) xs.length cap) xs)(hall:∀x∈xs.take i,eQ n x=true)(hi:xs[i]?=some y)(hy:eQ n y=false):
  eX w g cap n xs (i+1)∧((xs.take (i+1)).filter (eQ n)).length=i∧xs.length≤cap∧base≤g∧cap≤maxLen:=by
 have hil:i<xs.length:=(GQ.1 hi).1;have e:(xs.take (i+1)).filter (eQ n)=xs.take i:=by
  rw[dP hi,hy,List.filter_eq_self.2 hall];simp
 rcases h.2 with⟨h1,_⟩|⟨g',cap',cur,h1,h2,h3,h4,h5,h6,h7⟩
 ·simp at h1
 ·simp only[Value.slice.injEq,Option.some.injEq,Addr.mk.injEq,and_true,true_and] at h1
  obtain⟨rfl,rfl⟩:=h1;have hall:∀(k:Nat)(z:Int),xs[k]?=some z→cur[k]?=some (.int .i64 z):=fun k z hz=>by
   have hk:k<xs.length:=(GQ.1 hz).1;have q:(cur.toList.take (xs.length*1))[k]?=some (.int .i64 z):=by rw[h7];simp[hz]
   rw[List.getElem?_take,if_pos (by omega)] at q;simpa using q
  refine⟨⟨cur,h3,by omega, ?_,fun k z _ hz=>hall k z hz⟩,by rw[e,Ht];omega,h4,h2,h5⟩;rw[e,Ht,Nat.min_eq_left (by omega)];have q:=congrArg (List.take i) h7;rw[List.take_take,Nat.min_eq_left (by omega)] at q;rw[q,List.map_take]
theorem eX.finish {w:H5}{base g cap n:Nat}{xs:List Int}(h:eX w g cap n xs xs.length)(hg:base≤g)(hcap:xs.length≤cap)(hm:cap≤maxLen)(m:Nat)(hm2:(xs.filter (eQ n)).length+m≤xs.length):
  ∃cur,w.heap[g]?=some (.cells cur 3 (0,0))∧cur.size=cap∧
   aU (w.setRow g (cur.toList.take (xs.filter (eQ n)).length++List.replicate m (Value.int .i64 0)++cur.toList.drop ((xs.filter (eQ n)).length+m)).toArray) base (.slice (some ⟨g,0,none⟩) (xs.filter (eQ n)).length cap) (xs.filter (eQ n)):=by
 obtain⟨cur,h1,h2,h3,h4⟩:=h;rw[List.take_of_length_le (He _)] at h3;have hs:cur.toList.length=cap:=by rw[Array.length_toList];exact h2
 refine⟨cur,h1,h2,by simp,.inr ⟨g,cap,_,rfl,hg,setRow_heap _ _ _ _ _ _ h1,by omega,hm, ?_, ?_⟩⟩
 ·simp only[List.size_toArray,GU,Ht,List.length_replicate,List.length_drop];omega
 ·rw[h3,Hr,Nat.mul_one]
  exact List.take_left' (by simp)
theorem Ed (base bc n insC:Nat)(insA:Option Addr)(g:Nat)(cap:Nat)(xs:List Int)(i:Nat)(y:Int)(w:H5)(hc:w.cell? ⟨bc,7,none⟩=some (.slice insA n insC))(hl:xs.length≤100000)
  (hbc:bc<base)(hown:aU w base (.slice (some ⟨g,0,none⟩) xs.length cap) xs)(hall:∀x∈xs.take i,eQ n x=true)(hi:xs[i]?=some y)(hy:eQ n y=false):
  Calls prog 190 #[.slice (some ⟨g,0,none⟩) xs.length cap,.func (.func 192) #[] #[.pointer (some ⟨bc,0,none⟩)]] w (D9 base w (xs.filter (eQ n))):=by
 have hil:i<xs.length:=(GQ.1 hi).1;have hr:BQ w (some ⟨g,0,none⟩) xs:=fun h0=>by
  obtain⟨g',e,_,_,hcell⟩:=hown.shape h0;exact⟨g',0,e,fun k z hz=>by rw[Hf];exact hcell k z hz⟩
 obtain⟨hd0,hdl,hcap,hg,hcm⟩:=eX.start hown hall hi hy;have HI:=zH (Eb bc n insC insA (some ⟨g,0,none⟩) cap xs i y w hc hl hr hall hi hy);have HD0:=zH hd0;have HCM:=zH hcm;clear hcm;have HDL:=zH hdl;obtain⟨i0,hti,hz0,hz1,hz2⟩:=info_parts iP;have hm1:((i:Int)== -1)=false:=beq_eq_false_iff_ne.2 (by omega);clear hown hr hall hi hy hd0 hdl;go_enter func190,ntmps190
 go_wp2_with (go_at_call 152;refine HI.out.mono ?_;rintro e w1 ⟨rfl,rfl⟩)
 go_loopw [5,6] (fun vi vj wr=>∃j:Nat,j≤xs.length∧i<j∧vj= .int .i64 (j:Int)∧vi= .int .i64 ((((xs.take j).filter (eQ n)).length:Nat):Int)∧((xs.take j).filter (eQ n)).length<j∧eX wr g cap n xs j∧H9 base w wr) (fun _ vj _=>xs.length-(intOf vj).toNat)
 case atStart=>exact⟨i+1,by omega,by omega,by go_num,by rw[HDL.out],by rw[HDL.out];omega,HD0.out,Hw _ _⟩
 case round=>
  obtain⟨j,hj,hij,rfl,rfl,hjl,hdr,hb⟩:=hrel;have hcr:wr.cell? ⟨bc,7,none⟩=some (.slice insA n insC):=(hb.cell (p:=⟨bc,7,none⟩) hbc).trans hc
  by_cases hjx:j<xs.length
  ·obtain⟨z,hz⟩:∃z,xs[j]?=some z:=⟨_,GN hjx⟩
   have hzc:=hdr.cell hz;have HZ:=zH hz;have HR:=zH hdr;clear hz hdr
   by_cases hn:eQ n z=true
   ·have HN:=zH hn
    clear hn;have hfz:wr.frozen? ⟨g,((xs.take j).filter (eQ n)).length,none⟩=false:=by
     obtain⟨cur,h1,_⟩:=HR.out;exact frozen_of_row _ _ _ _ _ h1
    obtain⟨u,hcu⟩:∃u,wr.cell? ⟨g,((xs.take j).filter (eQ n)).length,none⟩=some u:=by
     obtain⟨cur,h1,h2,_⟩:=HR.out;rw[cell_of_row _ _ _ _ _ _ h1];exact⟨_,Array.getElem?_eq_getElem (by omega)⟩
    have HP:Ia (eX (wr.setCell ⟨g,((xs.take j).filter (eQ n)).length,none⟩ (.int .i64 z)) g cap n xs (j+1)∧((xs.take (j+1)).filter (eQ n)).length=((xs.take j).filter (eQ n)).length+1):=
     ⟨HR.out.put hcap HZ.out HN.out hjl,by rw[dP HZ.out,HN.out];simp⟩
    go_wp2_with (go_at_call 192;refine(rq _ bc n insC insA _ hcr HN.out).mono ?_;rintro e w1 ⟨rfl,rfl⟩)
    go_roundw
    case rel=>exact⟨j+1,by omega,by omega,by go_num,by rw[HP.out.2];go_num,by rw[HP.out.2];omega,HP.out.1,hb.setCell (by exact hg) _⟩
    case measure=>simp[intOf];omega
   ·have HN:Ia (eQ n z=false):=by unfold Ia;simpa using hn
    clear hn;have HP:Ia (eX wr g cap n xs (j+1)∧((xs.take (j+1)).filter (eQ n)).length=((xs.take j).filter (eQ n)).length):=
     ⟨HR.out.skip HZ.out HN.out,by rw[dP HZ.out,HN.out];simp⟩
    go_wp2_with (go_at_call 192;refine(uV _ bc n insC insA _ hcr HN.out).mono ?_;rintro e w1 ⟨rfl,rfl⟩)
    go_roundw
    case rel=>exact⟨j+1,by omega,by omega,by go_num,by rw[HP.out.2],by rw[HP.out.2];omega,HP.out.1,hb⟩
    case measure=>simp[intOf];omega
  ·obtain rfl:j=xs.length:=by omega
   rw[List.take_of_length_le (He _)] at*;obtain⟨cur,hcur,hcs,hfin⟩:=hdr.finish hg hcap HCM.out (xs.length-(xs.filter (eQ n)).length) (by omega);have HC:=zH hcur;have HF:=zH hfin;have HS:Ia (0<xs.length-(xs.filter (eQ n)).length):=by unfold Ia;omega
   have HT:Ia ((xs.filter (eQ n)).length+(xs.length-(xs.filter (eQ n)).length)≤cur.size):=by unfold Ia;omega
   have hne:¬cap=(xs.filter (eQ n)).length:=by omega
   clear hcur hfin hdr
   go_wp2_with (refine mQ _ rfl (.tmp 38) 35 3 rfl i0 (.int .i64 0) underlying35 hti hz0 rfl rfl g (xs.filter (eQ n)).length (xs.length-(xs.filter (eQ n)).length) (cap-(xs.filter (eQ n)).length) rfl cur 3 HC.out HT.out HS.out ?_)
   go_ret;exact⟨_,_,rfl,by have:=HF.out;rwa [Hr] at this,below_setRow hb hg _⟩
theorem CK (p:Int→Bool)(xs:List Int):(∀x∈xs,p x=true)∨∃i y,(∀x∈xs.take i,p x=true)∧xs[i]?=some y∧p y=false:=by
 induction xs with
 |nil=>exact .inl (by simp)
 |cons a l ih=>
  by_cases ha:p a=true
  ·rcases ih with h|⟨i,y,h1,h2,h3⟩
   ·exact .inl (by simpa[ha] using h)
   ·exact .inr ⟨i+1,y,by simpa[ha] using h1,by simpa using h2,h3⟩
  ·exact .inr ⟨0,a,by simp,by simp,by simpa using ha⟩
theorem CO (x:Ins)(at_:Int):(iQ x at_).length≤2:=by
 unfold iQ;repeat' split
 all_goals simp
theorem CP (c:dQ)(at_:Nat)(x:Ins)(w:H5)(hc:dM w w.heap.size c.insA c.ins)(hx:c.ins[at_]?=some x)(hn:c.ins.length≤90000):
  Calls prog 140 #[.agg c.cells,.int .i64 (at_:Int)] w (iR w ((iQ x at_).filter (eQ c.ins.length))):=by
 obtain⟨nm,par,varsA,nvars,varsC,rp,rto,rcl,fromA,nfrom,fromC,insA,insC,ins⟩:=c;simp only at hc hx hn;have hlt:at_<ins.length:=(GQ.1 hx).1;have hltI:(at_:Int)<(ins.length:Int):=by omega
 obtain⟨b,off,rfl,hb,hcell⟩:=hc (by intro e;rw[e] at hlt;simp at hlt);have hcell':∀W,H9 w.heap.size w W→∀j u,x.cells.toList[j]?=some u→W.cell? ((⟨b,off+at_*13,none⟩:Addr).add j)=some u:=fun W hW j u hu=>by
  rw[Addr.add_lit,hW.cell (p:=⟨b,_,none⟩) hb];exact hcell at_ x hx j u hu
 have HC:=zH hcell';have hxl:(iQ x (at_:Int)).length≤2:=CO _ _;obtain⟨xs,hxs⟩:=zE (iQ x (at_:Int));rw[hxs] at hxl⊢;have HXS:=zH hxs;clear hcell hcell' hx hc hxs;simp only[dQ.cells];go_enter func140,ntmps140
 go_wp2_with (first|(refine ay rfl 42 _ rfl _ rfl x.cells _ (HC.out _ ((Hw _ _).alloc (He _) _)) underlying42 rfl (by kernel_rfl) ?_)|(go_at_call 191;refine(Fa x _ _ (by omega) (by omega)).mono ?_;rintro e w1 ⟨ao,cap,rfl,hown,hbel⟩))
 rw[HXS.out] at hown⊢;clear HXS;have hcc:w1.cell? ⟨w.heap.size,7,none⟩=some (.slice (some ⟨b,off,none⟩) ins.length insC):=by
  rw[hbel.cell (p:=⟨w.heap.size,7,none⟩) (by simp),World.cell?_alloc_new];rfl
 have HD:Ia (Calls prog 190 #[.slice ao xs.length cap,.func (.func 192) #[] #[.pointer (some ⟨w.heap.size,0,none⟩)]] w1 (D9 (w.heap.size+1) w1 (xs.filter (eQ ins.length)))):=by
  have hown':aU w1 (w.heap.size+1) (.slice ao xs.length cap) xs:=hown.mono (by simp);rcases CK (eQ ins.length) xs with h|⟨i,y,h1,h2,h3⟩
  ·exact Ec _ w.heap.size ins.length insC _ ao cap xs w1 hcc (by omega) hown' h
  ·obtain⟨g,rfl,_⟩:=hown'.shape (by have:=(GQ.1 h2).1;omega)
   exact Ed _ w.heap.size ins.length insC _ g cap xs i y w1 hcc (by omega) (by omega) hown' h1 h2 h3
 have HB:Ia (H9 w.heap.size w w1):=((Hw _ _).alloc (He _) _).trans (hbel.mono (by simp));clear hown hbel hcc HC
 go_wp2_with (go_at_call 190;refine HD.out.mono ?_;rintro e w2 ⟨ao2,cap2,rfl,hown2,hbel2⟩)
 go_ret;exact⟨_,_,rfl,hown2.mono (by omega),HB.out.trans (hbel2.mono (by omega))⟩
theorem Bi (c:dQ)(x:Nat)(w:H5)(hc:dM w w.heap.size c.insA c.ins)(hx:x<c.ins.length)(hn:c.ins.length≤90000):
  Calls prog 140 #[.agg c.cells,.int .i64 (x:Int)] w (iR w (ints (dw c.ins x))):=by
 have h:c.ins[x]?=some c.ins[x]:=GN hx;rw[Ac h];exact CP c x _ w hc h hn
def il (w:H5)(R n base:Nat)(A:Nat→Prop)(rows:Nat→List Nat):Prop:=
 ∃vals:Array Value,(∀(i:Nat)(v:Value)(k:Nat),vals[i]?=some v→v.ownBlock=some k→¬A k)∧vals.size=n∧w.heap[R]?=some (.cells vals 35 (0,0))∧R<base∧(∀i v,vals[i]?=some v→aU w base v (ints (rows i)))∧
  ∀(i j k:Nat)(vi vj:Value),i≠j→vals[i]?=some vi→vals[j]?=some vj→vi.ownBlock=some k→vj.ownBlock≠some k
theorem il.ext {w w':H5}{R n base:Nat}{A:Nat→Prop}{rows:Nat→List Nat}{M:Nat→Prop}(h:il w R n base A rows)(hx:Ext M w w')(hM:∀k,k=R∨base≤k→k<w.heap.size→¬M k):il w' R n base A rows:=by
 obtain⟨vals,hA,h1,h2,h3,h4,h5⟩:=h;refine⟨vals,hA,h1,hx.heap h2 (hM R (.inl rfl) (GR.1 h2).1),h3,fun i v hv=> ?_,h5⟩;have ho:=h4 i v hv;refine⟨ho.1, ?_⟩;rcases ho.2 with h'|⟨g,cap,cur,e1,e2,e3,e4⟩
 ·exact .inl h'
 ·exact .inr ⟨g,cap,cur,e1,e2,hx.heap e3 (hM g (.inr e2) (GR.1 e3).1),e4⟩
theorem il.fresh {w:H5}{R n base:Nat}{A A':Nat→Prop}{rows:Nat→List Nat}(h:il w R n base A rows)(hA':∀k,A' k→w.heap.size≤k):il w R n base A' rows:=by
 obtain⟨vals,hA,h1,h2,h3,h4,h5⟩:=h;exact⟨vals,fun i v k hv hk hAk=>by have:=((h4 i v hv).lt k hk).2;have:=hA' k hAk;omega,h1,h2,h3,h4,h5⟩
theorem il.weaken {w:H5}{R n base:Nat}{A A':Nat→Prop}{rows:Nat→List Nat}(h:il w R n base A rows)(hA':∀k,A' k→A k):il w R n base A' rows:=by
 obtain⟨vals,hA,h1⟩:=h;exact⟨vals,fun i v k hv hk hAk=>hA i v k hv hk (hA' k hAk),h1⟩
theorem il.app {w w1:H5}{R n base i x g cap:Nat}{rows:Nat→List Nat}{vi:Value}{vals:Array Value}{A:Nat→Prop}(hAl:∀k,A k→k<w.heap.size)(hA:∀(i:Nat)(v:Value)(k:Nat),vals[i]?=some v→v.ownBlock=some k→¬A k)(hvals:vals.size=n)(hR:w.heap[R]?=some (.cells vals 35 (0,0)))(hb:R<base)
  (hown:∀i v,vals[i]?=some v→aU w base v (ints (rows i)))(hdis:∀(i j k:Nat)(vi vj:Value),i≠j→vals[i]?=some vi→vals[j]?=some vj→vi.ownBlock=some k→vj.ownBlock≠some k)
  (hi:vals[i]?=some vi)(hx:Ext (fun k=>vi.ownBlock=some k) w w1)(hnew:aU w1 base (.slice (some ⟨g,0,none⟩) ((rows i).length+1) cap) (ints (rows i++[x])))
  (hat:vi.ownBlock=some g∨w.heap.size≤g):
  il (w1.setCell ⟨R,i,none⟩ (.slice (some ⟨g,0,none⟩) ((rows i).length+1) cap)) R n base A (fun j=>if j=i then rows i++[x] else rows j):=by
 have hRlt:R<w.heap.size:=(GR.1 hR).1;have hRn:¬vi.ownBlock=some R:=fun e=>by have:=((hown i vi hi).lt R e).1;omega
 have hR1:=hx.heap hR hRn;have hx2:Ext (·=R) w1 (w1.setCell ⟨R,i,none⟩ (.slice (some ⟨g,0,none⟩) ((rows i).length+1) cap)):=Ext.set1 _ _ _ _;have hil:i<vals.size:=(GR.1 hi).1;refine⟨_, ?_,by simpa using hvals,heap_setCell_same _ _ _ _ _ _ hR1,hb,fun j v hv=> ?_, ?_⟩
 ·intro j v k hv hk hAk
  rw[Array.getElem?_setIfInBounds] at hv
  by_cases e:i=j
  ·subst e
   rw[if_pos rfl,if_pos hil] at hv;obtain rfl:=Hl hv;have e2:g=k:=by simpa[Value.ownBlock] using hk
   subst e2;rcases hat with h'|h'
   ·exact hA i vi g hi h' hAk
   ·have:=hAl g hAk;omega
  ·rw[if_neg e] at hv
   exact hA j v k hv hk hAk
 ·rw[Array.getElem?_setIfInBounds] at hv
  by_cases e:i=j
  ·subst e
   rw[if_pos rfl,if_pos hil] at hv;obtain rfl:=Hl hv
   show aU _ _ _ (ints (if i=i then _ else _))
   rw[if_pos rfl];refine⟨hnew.1, ?_⟩;rcases hnew.2 with h'|⟨g',cap',cur,e1,e2,e3,e4⟩
   ·exact .inl h'
   ·exact .inr ⟨g',cap',cur,e1,e2,hx2.heap e3 (by omega),e4⟩
  ·rw[if_neg e] at hv
   show aU _ _ _ (ints (if j=i then _ else _))
   rw[if_neg (fun h:j=i=>e h.symm)];have ho:=hown j v hv;refine⟨ho.1, ?_⟩;rcases ho.2 with h'|⟨g',cap',cur,e1,e2,e3,e4⟩
   ·exact .inl h'
   ·have hg':¬vi.ownBlock=some g':=fun h=>hdis i j g' vi v e hi hv h (by rw[e1];rfl)
    exact .inr ⟨g',cap',cur,e1,e2,hx2.heap (hx.heap e3 hg') (by omega),e4⟩
 ·intro a b k va vb hab ha hb' hka hkb
  rw[Array.getElem?_setIfInBounds] at ha hb';have hgl:∀(j:Nat)(v:Value),j≠i→vals[j]?=some v→v.ownBlock≠some g:=by
   intro j v hj hv h;rcases hat with h'|h'
   ·exact hdis i j g vi v (fun e=>hj e.symm) hi hv h' h
   ·have:=((hown j v hv).lt g h).2;omega
  by_cases ea:i=a
  ·subst ea
   rw[if_pos rfl,if_pos hil] at ha;obtain rfl:=Hl ha;rw[if_neg hab] at hb';have:g=k:=by simpa[Value.ownBlock] using hka
   subst this;exact hgl b vb (fun e=>hab e.symm) hb' hkb
  ·rw[if_neg ea] at ha
   by_cases eb:i=b
   ·subst eb
    rw[if_pos rfl,if_pos hil] at hb';obtain rfl:=Hl hb';have:g=k:=by simpa[Value.ownBlock] using hkb
    subst this;exact hgl a va (fun e=>ea e.symm) ha hka
   ·rw[if_neg eb] at hb'
    exact hdis a b k va vb hab ha hb' hka hkb
def eY (at_:Nat)(rows:Nat→List Nat)(x:Nat):Nat→List Nat:=fun j=>if j=x then rows x++[at_] else rows j
def gM (ins:List Ins)(rows:Nat→List Nat)(at_:Nat):Nat→List Nat:=(dw ins at_).foldl (eY at_) rows
def aO (ins:List Ins):Nat→List Nat:=(List.range ins.length).foldl (gM ins) (fun _=>[])
def Bj (w:H5)(n:Nat)(rows:Nat→List Nat)(e:Ending)(w':H5):Prop:=
 ∃R,e= .returned (.slice (some ⟨R,0,none⟩) n n)∧w.heap.size≤R∧il w' R n (R+1) (fun _=>False) rows∧H9 w.heap.size w w'
def Gl (ins:List Ins)(R:Nat)(W0:H5)(c:Value)(wr:H5):Prop:=
 ∃j:Nat,j≤ins.length∧c= .int .i64 (j:Int)∧il wr R ins.length (R+1) (fun _=>False) ((List.range j).foldl (gM ins) (fun _=>[]))∧(∀i,((List.range j).foldl (gM ins) (fun _=>[]) i).length≤2*j)∧Ext (fun k=>R≤k) W0 wr
def FX (ins:List Ins)(R:Nat)(W0 w2:H5)(at_:Nat)(rows:Nat→List Nat)(A:Nat→Prop)(c:Value)(wr:H5):Prop:=
 ∃q:Nat,q≤(dw ins at_).length∧c= .int .i64 (q:Int)∧il wr R ins.length (R+1) A (((dw ins at_).take q).foldl (eY at_) rows)∧(∀i,(((dw ins at_).take q).foldl (eY at_) rows i).length≤(rows i).length+q)∧
  Ext (fun k=>R≤k) W0 wr∧∀k,A k→k<wr.heap.size∧wr.heap[k]?=w2.heap[k]?
theorem CQ:(prog.info? 35).map (fun i=>(i.zero,i.size,i.bytes))=some (some (.slice none 0 0),1,24):=by kernel_rfl
theorem xw (c:dQ)(w:H5)(hins:dM w w.heap.size c.insA c.ins)(hn:c.ins.length≤90000):
  Calls prog 103 #[.agg c.cells] w (Bj w c.ins.length (aO c.ins)):=by
 obtain⟨nm,par,varsA,nvars,varsC,rp,rto,rcl,fromA,nfrom,fromC,insA,insC,ins⟩:=c;simp only at hn hins;simp only[dQ.cells];obtain⟨i0,hi,hz0,hz1,hz2⟩:=info_parts CQ;have HINS:=zH hins;clear hins;go_enter func103,ntmps103
 go_wp2_with (at_make;refine iT rfl (.tmp 9) (.tmp 9) 46 rfl 35 i0 (.slice none 0 0) underlying46 hi hz0 hz1 rfl .i64 .i64 _ _ ins.length rfl rfl rfl rfl (by rw[hz2];omega) (by unfold maxLen;omega) ?_)
 obtain⟨N,hN⟩:=zE w.heap.size;obtain⟨W0,hW0⟩:=zE ((w.alloc (.cells #[.string nm,.int .i64 par,.slice varsA nvars varsC,.bool rp,.string rto,.int .i64 rcl,.slice fromA nfrom fromC,.slice insA ins.length insC] 38)).alloc (.cells (Array.replicate ins.length (Value.slice none 0 0)) 35));have hx0:Ext (fun _=>False) w W0:=by rw[←hW0];exact((Ext.refl _ w).alloc _).alloc _
 have hcode:W0.heap[N]?=some (.cells #[.string nm,.int .i64 par,.slice varsA nvars varsC,.bool rp,.string rto,.int .i64 rcl,.slice fromA nfrom fromC,.slice insA ins.length insC] 38 (0,0)):=by
  rw[←hW0,←hN,Hy _ _ _ (by simp)];exact alloc_at _ _
 have hrow:W0.heap[N+1]?=some (.cells (Array.replicate ins.length (Value.slice none 0 0)) 35 (0,0)):=by
  rw[←hW0,←hN];have:=alloc_at (w.alloc (.cells #[.string nm,.int .i64 par,.slice varsA nvars varsC,.bool rp,.string rto,.int .i64 rcl,.slice fromA nfrom fromC,.slice insA ins.length insC] 38)) (.cells (Array.replicate ins.length (Value.slice none 0 0)) 35)
  rwa [Hu] at this
 have hs0:W0.heap.size=N+2:=by rw[←hW0];simp[hN]
 have hR0:il W0 (N+1) ins.length (N+2) (fun _=>False) (fun _=>[]):=by
  have q:∀(i:Nat)(v:Value),(Array.replicate ins.length (Value.slice none 0 0))[i]?=some v→v=Value.slice none 0 0:=by
   intro i v h;rw[Array.getElem?_replicate] at h
   split at h
   ·exact(Hl h).symm
   ·simp at h
  refine⟨_,fun _ _ _ _ _ h=>h,by simp,hrow,by omega,fun i v h=>by rw[q i v h];exact aU.nil _ _,fun i j k vi vj _ h1 _ h3=>by rw[q i vi h1] at h3;simp[Value.ownBlock] at h3⟩
 rw[hW0,hN];have HX0:=zH hx0;have HC:=zH hcode;have HR0:=zH hR0;have HS:=zH hs0;clear hW0 hx0 hcode hrow hs0 hR0 hi hz0 hz1 hz2
 go_loopw [14] (fun c wr=>Gl ins (N+1) W0 c wr) (fun c _=>ins.length-(intOf c).toNat)
 case atStart=>exact⟨0,Hg _,rfl,HR0.out,fun _=>by simp,Ext.refl _ _⟩
 case round=>
  obtain⟨j,hj,rfl,hrows,hlen,hx⟩:=hrel
  by_cases hjl:j<ins.length
  ·have hci:=hx.heap HC.out (by omega)
   have hk:∀q v,((⟨nm,par,varsA,nvars,varsC,rp,rto,rcl,fromA,nfrom,fromC,insA,insC,ins⟩:dQ).cells)[q]?=some v→wr.cell? ⟨N,q,none⟩=some v:=fun q v h=>by rw[cell_of_row _ _ _ _ _ _ hci];exact h
   have k0:wr.cell? ⟨N,0,none⟩=some (.string nm):=hk 0 _ rfl;have k1:wr.cell? ⟨N,1,none⟩=some (.int .i64 par):=hk 1 _ rfl;have k2:wr.cell? ⟨N,2,none⟩=some (.slice varsA nvars varsC):=hk 2 _ rfl;have k3:wr.cell? ⟨N,3,none⟩=some (.bool rp):=hk 3 _ rfl;have k4:wr.cell? ⟨N,4,none⟩=some (.string rto):=hk 4 _ rfl;have k5:wr.cell? ⟨N,5,none⟩=some (.int .i64 rcl):=hk 5 _ rfl;have k6:wr.cell? ⟨N,6,none⟩=some (.slice fromA nfrom fromC):=hk 6 _ rfl;have k7:wr.cell? ⟨N,7,none⟩=some (.slice insA ins.length insC):=hk 7 _ rfl;have hinsr:dM wr wr.heap.size insA ins:=((HINS.out.ext HX0.out (He _) (fun _ _ _ h=>h)).ext hx (by have:=HX0.out.size;omega) (fun a hne ha h=>by
    obtain⟨b,off,e,hbb,_⟩:=HINS.out hne;rw[ha] at e;obtain rfl:=Hl e;simp only at h;omega)).mono (by have:=hx.size;have:=HX0.out.size;omega)
   have HNX:=zH (Bi ⟨nm,par,varsA,nvars,varsC,rp,rto,rcl,fromA,nfrom,fromC,insA,insC,ins⟩ j wr hinsr hjl hn);have HXX:=zH hx;have HRO:=zH hrows;have HLE:=zH hlen;have hjI:(j:Int)<(ins.length:Int):=by omega
   clear hx hrows hlen hci hk hinsr
   go_wp2_with (go_at_call 140;refine HNX.out.mono ?_;rintro e w2 ⟨ao2,cap2,rfl,hown2,hb2⟩)
   obtain⟨rows,hrw⟩:∃rows,rows=(List.range j).foldl (gM ins) (fun _=>[]):=⟨_,rfl⟩
   obtain⟨A,hA⟩:∃A:Nat→Prop,A=fun k=>(Value.slice ao2 (ints (dw ins j)).length cap2).ownBlock=some k:=⟨_,rfl⟩
   have hx2:Ext (fun _=>False) wr w2:=Ext.of_below_size hb2;have HJ0:Ia (FX ins (N+1) W0 w2 j rows A (.int .i64 0) w2):=by
    refine⟨0,Hg _,rfl, ?_,fun i=>by simp,HXX.out.trans hx2 (fun _ h=>h.elim),fun k hk=> ?_⟩
    ·rw[hrw]
     exact(HRO.out.fresh (A':=A) (fun k hk=>by rw[hA] at hk;exact(hown2.lt k hk).1)).ext hx2 (fun _ _ _ h=>h)
    ·rw[hA] at hk;exact⟨(hown2.lt k hk).2,rfl⟩
   have HO2:=zH hown2;have HA:=zH hA;have HRW:=zH hrw;clear hown2 hb2 hx2 hA hrw k0 k1 k2 k3 k4 k5 k6 k7 HNX
   go_loopw [21] (fun c wr2=>FX ins (N+1) W0 w2 j rows A c wr2) (fun c _=>(dw ins j).length-(intOf c).toNat)
   case atStart=>exact HJ0.out
   case round=>
    obtain⟨q,hq,rfl,hrows,hle,hxw,hys⟩:=hrel;have hyl:(ints (dw ins j)).length=(dw ins j).length:=by simp[ints]
    by_cases hql:q<(dw ins j).length
    ·obtain⟨y,hy⟩:∃y,(dw ins j)[q]?=some y:=⟨_,GN hql⟩
     have hyn:y<ins.length:=qo (GV hy);obtain⟨g2,rfl,hg21,hg22,hgc2⟩:=HO2.out.shape (by omega);have hA2:A g2:=by rw[HA.out];rfl
     have hy3:=hys g2 hA2;have hcy:wr.cell? ⟨g2,q,none⟩=some (.int .i64 (y:Int)):=by rw[World.cell?_of_block (w:=w2) hy3.2];exact hgc2 q y (by simp[ints,hy])
     obtain⟨vals,hva,hv1,hv2,hv3,hv4,hv5⟩:=hrows;obtain⟨vi,hvi⟩:∃vi,vals[y]?=some vi:=⟨_,Array.getElem?_eq_getElem (by omega)⟩
     have hci:wr.cell? ⟨N+1,y,none⟩=some vi:=by rw[cell_of_row _ _ _ _ _ _ hv2];exact hvi
     have hyI:(y:Int)<(ins.length:Int):=by omega
     have hqI:(q:Int)<((dw ins j).length:Int):=by omega
     have hq2:q<2:=by have:=jU ins j;omega
     obtain⟨rs,hrs⟩:∃rs,rs=((dw ins j).take q).foldl (eY j) rows:=⟨_,rfl⟩
     rw[←hrs] at hv4 hle;have hsn:((dw ins j).take (q+1)).foldl (eY j) rows=eY j rs y:=by rw[List.take_add_one,hy,hrs,List.foldl_append];rfl
     have hown:=hv4 y vi hvi;have hll:(ints (rs y)).length=(rs y).length:=by simp[ints]
     have hrb:(rs y).length≤180002:=by have h1:=hle y;have h2:=HLE.out y;rw[←HRW.out] at h2;omega
     obtain⟨j0,hj1,hj0,hj2,hj3⟩:=info_parts iP;rw[hyl];have HVA:=zH hva;have HV2:=zH hv2;have HV4:=zH hv4;have HV5:=zH hv5;have HVI:=zH hvi;have HOWN:=zH hown;have HSN:=zH hsn;have HLE2:=zH hle;have HXW:=zH hxw;have HYS:=zH hys;have HV1:=zH hv1;have hNR:N+1<wr.heap.size:=(GR.1 hv2).1;clear hva hv2 hv4 hv5 hvi hown hsn hle hxw hys hgc2 hy3 hrs hv1
     go_wp2_with (at_builtin;refine wpList_append_lies _ rfl _ _ 35 rfl (N+2) 3 j0 (.int .i64 0) 1 8 underlying35 hj1 hj0 hj2 hj3 rfl (by decide) vi (ints (rs y)).length _ rfl (ownsRow_below HOWN.out ((Hw wr.heap.size wr).alloc (He _) _)) ⟨wr.heap.size,0,none⟩ 1 1 [.int .i64 (j:Int)] rfl rfl (lh _ _ _) (by simp[Value.oneCell']) (by decide) ?c1 ?c2 ?c3 _ rfl ?_)
     case c1=>unfold maxLen;omega
     case c2=>omega
     case c3=>rw[Hu];omega
     intro g3 cap3 w4 hown4 hgrow4 hat4 hlt4;have hne:vi.ownBlock≠some (N+1):=fun e=>by have:=(HOWN.out.lt _ e).1;omega
     have hx4:Ext (fun k=>vi.ownBlock=some k) wr w4:=((Ext.refl _ wr).alloc _).trans (Ext.of_grown (M:=fun k=>vi.ownBlock=some k) hgrow4 (fun k hk=> .inl hk)) (fun j hj=> .inl hj);have hr4:=hx4.heap HV2.out hne;have hc4:w4.cell? ⟨N+1,y,none⟩=some vi:=by rw[cell_of_row _ _ _ _ _ _ hr4];exact HVI.out
     have hf4:w4.frozen? ⟨N+1,y,none⟩=false:=frozen_of_row _ _ _ _ _ hr4;have hnew:aU w4 (N+2) (.slice (some ⟨g3,0,none⟩) ((rs y).length+1) cap3) (ints (rs y++[j])):=by
      have e:ints (rs y++[j])=ints (rs y)++[(j:Int)]:=by simp[ints]
      rw[e];refine aU.app ?_;simpa[hll] using hown4
     have happ:=il.app (x:=j) (i:=y) (fun k hk=>(HYS.out k hk).1) HVA.out HV1.out HV2.out (by omega) HV4.out HV5.out HVI.out hx4 hnew (hat4.imp id (fun h=>by rw[h];simp));have hbl:∀k,vi.ownBlock=some k→N+2≤k:=fun k h=>(HOWN.out.lt k h).1;have HR:Ia (FX ins (N+1) W0 w2 j rows A (.int .i64 ((q:Int)+1)) (w4.setCell ⟨N+1,y,none⟩ (.slice (some ⟨g3,0,none⟩) ((rs y).length+1) cap3))):=by
      refine⟨q+1,by omega,by simp,by rw[HSN.out];exact happ,fun i=> ?_, ?_,fun k hk=> ?_⟩
      ·rw[HSN.out]
       have h1:=HLE2.out i;unfold eY
       by_cases e:i=y
       ·subst e;rw[if_pos rfl];simp;omega
       ·rw[if_neg e];omega
      ·exact(HXW.out.trans hx4 (fun k hk=> .inl (by have:=hbl k hk;omega))).trans (Ext.set1 _ _ _ _) (fun k hk=> .inl (by omega))
      ·have h1:=HYS.out k hk
       have h2:¬vi.ownBlock=some k:=fun h=>HVA.out y vi k HVI.out h hk;have h3:=hx4.size;refine⟨by rw[World.size_setCell];omega, ?_⟩;have h4:k≠N+1:=by
        intro e;subst e;have:=(HO2.out.lt (N+1) (by have h5:=hk;rw[HA.out] at h5;exact h5)).1;have:=HXX.out.size;have:=HS.out;omega
       rw[heap_setCell_other _ _ _ _ (by exact h4),hx4.block k h1.1 h2];exact h1.2
     clear hown4 hgrow4 hat4 hlt4 hx4 hnew happ hbl hr4;go_wp2;exact⟨HR.out,by simp[intOf];omega⟩
    ·have hqe:q=(dw ins j).length:=by omega
     subst hqe;rw[Ha] at hrows hle;rw[hyl];have hst:(List.range (j+1)).foldl (gM ins) (fun _=>[])=(dw ins j).foldl (eY j) rows:=by rw[List.range_succ,List.foldl_append,←HRW.out];rfl
     have hR:Gl ins (N+1) W0 (.int .i64 ((j:Int)+1)) wr:=by
      refine⟨j+1,by omega,by simp,by rw[hst];exact hrows.weaken (fun _ h=>h.elim),fun i=> ?_,hxw⟩;rw[hst];have h1:=hle i;have h2:=HLE.out i;rw[←HRW.out] at h2;have:=jU ins j;omega
     have HR:=zH hR;clear hR hrows hle hxw hys hst;go_wp2;exact⟨HR.out,by simp[intOf];omega⟩
  ·have hje:j=ins.length:=by omega
   subst hje;have HP:Ia (Bj w ins.length (aO ins) (.returned (.slice (some ⟨N+1,0,none⟩) ins.length ins.length)) wr):=
    ⟨N+1,rfl,by omega,hrows,((HX0.out.mono (M':=fun k=>w.heap.size≤k) (fun _ h=>h.elim)).trans hx (fun k hk=> .inl (by omega))).below (He _) (fun _ h=>h)⟩
   clear hrows hlen hx;go_wp2;go_ret;exact HP.out
theorem pI (ins:List Ins)(at_:Nat)(i:Nat):∀(ys:List Nat)(rows:Nat→List Nat),(ys.foldl (eY at_) rows i).length≤(rows i).length+ys.length
 |[],_=>by simp
 |y::r,rows=>by
  have h:=pI ins at_ i r (eY at_ rows y);have h2:(eY at_ rows y i).length≤(rows i).length+1:=by unfold eY;split<;>simp_all
  simp only[List.foldl_cons,List.length_cons];omega
theorem xx (ins:List Ins)(i:Nat):(aO ins i).length≤2*ins.length:=by
 have key:∀n,(((List.range n).foldl (gM ins) (fun _=>[])) i).length≤2*n:=by
  intro n
  induction n with
  |zero=>simp
  |succ n ih=>
   rw[List.range_succ,List.foldl_append];simp only[List.foldl_cons,List.foldl_nil];have h:=pI ins n i (dw ins n) ((List.range n).foldl (gM ins) (fun _=>[]));have h2:=jU ins n;have e:∀X,gM ins X n i=(dw ins n).foldl (eY n) X i:=fun _=>rfl;rw[e];omega
 exact key ins.length
theorem kE (a k:Nat)(z:Nat):∀(ys:List Nat)(rows:Nat→List Nat),z∈ys.foldl (eY a) rows k↔z∈rows k∨(z=a∧k∈ys)
 |[],_=>by simp
 |y::r,rows=>by
  rw[List.foldl_cons,kE a k z r];unfold eY
  by_cases h:k=y
  ·subst h;simp;grind
  ·simp[h]
theorem gq (ins:List Ins)(z k:Nat):z∈aO ins k↔z<ins.length∧k∈dw ins z:=by
 have key:∀n,z∈((List.range n).foldl (gM ins) (fun _=>[])) k↔z<n∧k∈dw ins z:=by
  intro n
  induction n with
  |zero=>simp
  |succ n ih=>
   rw[List.range_succ,List.foldl_append];simp only[List.foldl_cons,List.foldl_nil];have e:∀X,gM ins X n k=(dw ins n).foldl (eY n) X k:=fun _=>rfl;rw[e,kE,ih];constructor
   ·rintro(⟨h1,h2⟩|⟨rfl,h2⟩)
    ·exact⟨by omega,h2⟩
    ·exact⟨by omega,h2⟩
   ·rintro⟨h1,h2⟩
    by_cases e:z=n
    ·exact .inr ⟨e,by rw[←e];exact h2⟩
    ·exact .inl ⟨by omega,h2⟩
 exact key ins.length
inductive pJ (ins:List Ins) (v:Nat):Nat→Prop
 |read {x:Nat} {i:Ins}:ins[x]?=some i→(v:Int)∈readsOf i→pJ ins v x
 |pass {x y:Nat} {i:Ins}:ins[x]?=some i→¬((az i).2=true∧(az i).1=(v:Int))→y∈dw ins x→pJ ins v y→pJ ins v x
def eD (ins:List Ins)(v x:Nat):Prop:=∃y,y∈dw ins x∧pJ ins v y
def Fits (ins:List Ins)(nv:Nat):Prop:=∀i∈ins,(∀r∈readsOf i,0≤r∧r<(nv:Int))∧((az i).2=true→0≤(az i).1∧(az i).1<(nv:Int))
def zl (f:Nat→Nat)(v:Nat):Nat→Nat:=fun x=>if x=v/64 then f (v/64)&&&(18446744073709551615-2^(v%64)) else f x
def qb (f:Nat→Nat)(v:Nat):Nat→Nat:=fun x=>if x=v/64 then f (v/64)|||2^(v%64) else f x
def stepW (i:Ins)(f:Nat→Nat):Nat→Nat:=((readsOf i).map Int.toNat).foldl qb (if (az i).2=true then zl f (az i).1.toNat else f)
theorem BR {a b:Nat}(ha:a<18446744073709551616)(hb:b<18446744073709551616):a|||b<18446744073709551616:=
 Nat.or_lt_two_pow (n:=64) ha hb
theorem Fb {f:Nat→Nat}(hf:∀i,f i<18446744073709551616)(v:Nat):∀i,qb f v i<18446744073709551616:=by
 intro i;unfold qb
 split
 ·exact BR (hf _) (kV (Nat.mod_lt _ (by decide)))
 ·exact hf i
theorem zm {f:Nat→Nat}(hf:∀i,f i<18446744073709551616)(v:Nat):∀i,zl f v i<18446744073709551616:=by
 intro i;unfold zl
 split
 ·exact Nat.lt_of_le_of_lt Nat.and_le_left (hf _)
 ·exact hf i
theorem ru:∀(l:List Nat){f:Nat→Nat}(_:∀i,f i<18446744073709551616),∀i,l.foldl qb f i<18446744073709551616
 |[],_,hf=>hf
 |v::l,_,hf=>ru l (Fb hf v)
theorem Ee {f g:Nat→Nat}(hf:∀i,f i<18446744073709551616)(hg:∀i,g i<18446744073709551616)(n:Nat):∀i,gW f g n i<18446744073709551616:=by
 intro i;unfold gW
 split
 ·exact BR (hf i) (hg i)
 ·exact hf i
theorem kW (i:Ins){f:Nat→Nat}(hf:∀i,f i<18446744073709551616):∀j,stepW i f j<18446744073709551616:=by
 unfold stepW;refine ru _ ?_
 split
 ·exact zm hf _
 ·exact hf
theorem Ef (f:Nat→Nat)(v u:Nat):aY (qb f v) u=(aY f u||decide (u=v)):=E9 f v u
theorem CR (f:Nat→Nat)(v u:Nat):aY (zl f v) u=(aY f u&&decide (u≠v)):=D8 f v u
theorem uW (u:Nat):∀(l:List Nat)(f:Nat→Nat),aY (l.foldl qb f) u=(aY f u||decide (u∈l))
 |[],f=>by simp
 |v::l,f=>by
  rw[List.foldl_cons,uW u l,Ef]
  by_cases h:u=v
  ·subst h;simp
  ·simp[h]
theorem oH (i:Ins)(f:Nat→Nat)(u:Nat):aY (stepW i f) u=true↔u∈(readsOf i).map Int.toNat∨(aY f u=true∧¬((az i).2=true∧u=(az i).1.toNat)):=by
 unfold stepW;rw[uW]
 by_cases h:(az i).2=true
 ·rw[if_pos h,CR];simp[h];exact Or.comm
 ·rw[if_neg h];simp[h];exact Or.comm
theorem zo {f g:Nat→Nat}{v:Nat}(h:f (v/64)=g (v/64)):aY f v=aY g v:=by unfold aY;rw[h]
theorem zq {x r:Nat}(hx:x<18446744073709551616)(hr:r<18446744073709551616):Bh x r=true↔r|||x≠r:=by
 unfold Bh;have e1:18446744073709551615-r=2^64-(r+1):=by omega
 have tb:∀j,(x&&&(18446744073709551615-r)).testBit j=(x.testBit j&& !r.testBit j):=by
  intro j;rw[Nat.testBit_and,e1,Nat.testBit_two_pow_sub_succ (show r<2^64 from hr)]
  by_cases hj:j<64
  ·simp[hj]
  ·have:x.testBit j=false:=Nat.testBit_lt_two_pow (Hd (show x<2^64 from hx) (Nat.pow_le_pow_right (by decide) (by omega)))
   simp[this]
 rw[bne_iff_ne];refine Iff.intro (fun h e=>h ?_) (fun h e=>h ?_)
 rotate_left
 ·apply Nat.eq_of_testBit_eq
  intro j;have:=tb j;rw[e,Nat.zero_testBit] at this;rw[Nat.testBit_or]
  revert this
  cases x.testBit j<;>cases r.testBit j<;>simp
 ·apply Nat.eq_of_testBit_eq
  intro j;rw[tb j,Nat.zero_testBit];have:(r|||x).testBit j=r.testBit j:=by rw[e]
  rw[Nat.testBit_or] at this
  revert this
  cases x.testBit j<;>cases r.testBit j<;>simp
theorem mI {f g:Nat→Nat}(hf:∀i,f i<18446744073709551616)(hg:∀i,g i<18446744073709551616)(n:Nat):eB f g n=false↔∀i,i<n→f i|||g i=f i:=by
 unfold eB;rw[List.any_eq_false];constructor
 ·intro h i hi
  have:=h i (by simpa using hi);rw[zq (hg i) (hf i)] at this;exact Classical.not_not.1 this
 ·intro h i hi
  rw[zq (hg i) (hf i)];exact not_not_intro (h i (by simpa using hi))
theorem Bl {f g:Nat→Nat}(hf:∀i,f i<18446744073709551616)(hg:∀i,g i<18446744073709551616){n:Nat}(h:eB f g n=false):gW f g n=f:=by
 rw[mI hf hg] at h
 funext i
 unfold gW
 split
 ·rename_i hi;exact h i hi
 ·rfl
theorem CS {f g:Nat→Nat}{n v:Nat}(h:aY (gW f g n) v=true):aY f v=true∨aY g v=true:=by
 unfold aY gW at h
 split at h
 ·rw[Nat.testBit_or] at h;simpa[aY] using h
 ·exact .inl h
def ry (n:Nat)(f:Nat→Nat):Nat:=((List.range n).map f).sum
theorem lF (n:Nat)(f:Nat→Nat):ry (n+1) f=ry n f+f n:=by unfold ry;rw[List.range_succ,List.map_append,List.sum_append];simp
theorem qi:∀(n:Nat)(f g:Nat→Nat),(∀i,i<n→f i≤g i)→ry n f≤ry n g
 |0,_,_,_=>He _
 |n+1,f,g,h=>by rw[lF,lF];exact Nat.add_le_add (qi n f g fun i hi=>h i (by omega)) (h n (by omega))
theorem xz:∀(n:Nat)(f g:Nat→Nat)(j:Nat),(∀i,i<n→f i≤g i)→j<n→f j<g j→ry n f<ry n g
 |0,_,_,_,_,hj,_=>by omega
 |n+1,f,g,j,h,hj,hlt=>by
  rw[lF,lF]
  by_cases e:j=n
  ·subst e;exact Nat.add_lt_add_of_le_of_lt (qi _ f g fun i hi=>h i (by omega)) hlt
  ·exact Nat.add_lt_add_of_lt_of_le (xz n f g j (fun i hi=>h i (by omega)) (by omega) hlt) (h n (by omega))
def bL (n k:Nat)(b:Nat→Nat→Nat):Nat:=ry n fun x=>ry k fun i=>18446744073709551616-b x i
def jw (b:Nat→Nat→Nat)(x:Nat)(g:Nat→Nat)(k:Nat):Nat→Nat→Nat:=fun y=>if y=x then gW (b x) g k else b y
theorem CU {n k x:Nat}{b:Nat→Nat→Nat}{g:Nat→Nat}(hb:∀y i,b y i<18446744073709551616)(hg:∀i,g i<18446744073709551616)(hx:x<n):
  bL n k (jw b x g k)≤bL n k b∧(eB (b x) g k=true→bL n k (jw b x g k)<bL n k b):=by
 have le1:∀y i,b y i≤jw b x g k y i:=by
  intro y i;unfold jw
  split
  ·rename_i e;subst e;unfold gW;split
   ·exact Nat.left_le_or
   ·exact He _
  ·exact He _
 have le2:∀y,ry k (fun i=>18446744073709551616-jw b x g k y i)≤ry k (fun i=>18446744073709551616-b y i):=fun y=>qi _ _ _ fun i _=>by have:=le1 y i;omega
 refine⟨qi _ _ _ fun y _=>le2 y,fun h=>xz _ _ _ x (fun y _=>le2 y) hx ?_⟩;have h2:¬∀i,i<k→b x i|||g i=b x i:=by rw[←mI (hb x) hg,h];simp
 obtain⟨i,h3⟩:=Classical.not_forall.1 h2;obtain⟨hi,h4⟩:=Classical.not_imp.1 h3;refine xz _ _ _ i (fun j _=>by have:=le1 x j;omega) hi ?_;have h5:jw b x g k x i=b x i|||g i:=by unfold jw gW;rw[if_pos rfl,if_pos hi]
 have h6:=le1 x i;have h7:=hb x i;rw[h5] at h6⊢;omega
def jP (ins:List Ins)(b:Nat→Nat→Nat):Prop:=∀x v,x<ins.length→aY (b x) v=true→eD ins v x
theorem rz {ins:List Ins}{nv y v:Nat}{i:Ins}{b:Nat→Nat→Nat}(hf:Fits ins nv)(hs:jP ins b)(hy:ins[y]?=some i)(h:aY (stepW i (b y)) v=true):pJ ins v y:=by
 have hfi:=hf i (GV hy);rw[oH] at h;rcases h with h|⟨h1,h2⟩
 ·obtain⟨r,hr,e⟩:=List.mem_map.1 h
  have:=hfi.1 r hr;exact .read hy (by rw[←e,Int.toNat_of_nonneg this.1];exact hr)
 ·obtain⟨z,hz,hza⟩:=hs y v (GQ.1 hy).1 h1
  refine .pass hy (fun⟨h3,h4⟩=>h2 ⟨h3, ?_⟩) hz hza;rw[h4];rfl
theorem Bn {ins:List Ins}{nv k x y:Nat}{i:Ins}{b:Nat→Nat→Nat}(hf:Fits ins nv)(hs:jP ins b)(hy:ins[y]?=some i)(hx:x∈aO ins y){b0:Nat→Nat→Nat}(hs0:jP ins b0):jP ins (jw b x (stepW i (b0 y)) k):=by
 intro z v hz h;unfold jw at h
 split at h
 ·rename_i e
  subst e;rcases CS h with h|h
  ·exact hs _ v hz h
  ·exact⟨y,((gq ins z y).1 hx).2,rz hf hs0 hy h⟩
 ·exact hs z v hz h
theorem FY {ins:List Ins}{nv k:Nat}(hk:nv≤64*k)(hf:Fits ins nv){b a:Nat→Nat→Nat}(hs:jP ins b)
  (ha:∀y i,ins[y]?=some i→∀j,j<k→a y j=stepW i (b y) j)
  (hc:∀y x,y<ins.length→x∈aO ins y→∀j,j<k→b x j|||a y j=b x j):
  ∀x v,x<ins.length→v<nv→(aY (b x) v=true↔eD ins v x)∧(aY (a x) v=true↔pJ ins v x):=by
 have ev:∀y i v,ins[y]?=some i→v<nv→aY (a y) v=aY (stepW i (b y)) v:=fun y i v hy hv=>zo (ha y i hy _ (by omega));have key:∀v x,pJ ins v x→v<nv→aY (a x) v=true:=by
  intro v x h
  induction h with
  |read h1 h2=>
   intro hv;rw[ev _ _ _ h1 hv,oH];exact .inl (List.mem_map.2 ⟨_,h2,by simp⟩)
  |@pass x y i h1 h2 h3 h4 ih=>
   intro hv;rw[ev _ _ _ h1 hv,oH]
   right
   have hfi:=hf i (GV h1);refine⟨?_,fun⟨h5,h6⟩=>h2 ⟨h5,by have:=(hfi.2 h5).1;omega⟩⟩;have h7:=hc y x (qo h3) ((gq ins x y).2 ⟨(GQ.1 h1).1,h3⟩) (v/64) (by omega);have h8:=ih hv;unfold aY at h8⊢;rw[←h7,Nat.testBit_or,h8];simp
 have key2:∀x v,x<ins.length→v<nv→eD ins v x→aY (b x) v=true:=by
  rintro x v hx hv ⟨y,hy,hya⟩;have h7:=hc y x (qo hy) ((gq ins x y).2 ⟨hx,hy⟩) (v/64) (by omega);have h8:=key v y hya hv;unfold aY at h8⊢;rw[←h7,Nat.testBit_or,h8];simp
 intro x v hx hv;refine⟨⟨hs x v hx,key2 x v hx hv⟩,⟨fun h=> ?_,fun h=>key v x h hv⟩⟩;obtain⟨i,hi⟩:∃i,ins[x]?=some i:=⟨_,GN hx⟩
 rw[ev x i v hi hv] at h;exact rz hf hs hi h
theorem uX:(prog.info? 245).map (fun i=>(i.zero,i.size,i.bytes))=some (some (.int .u64 0),1,8):=by kernel_rfl
theorem xA:(prog.info? 199).map (fun i=>(i.zero,i.size,i.bytes))=some (some (.slice none 0 0),1,24):=by kernel_rfl
def dL (n k R j:Nat):Array Value:=((List.range n).map fun i=>if i<j then Value.slice (some ⟨R+1+i,0,none⟩) k k else .slice none 0 0).toArray
theorem rA (n:Nat):(List.replicate n (Value.int .u64 0)).toArray=dm n (fun _=>0):=by
 apply Array.ext_getElem?;intro j
 by_cases hj:j<n
 ·rw[mg _ hj];simp[hj]
 ·rw[Array.getElem?_eq_none (by simp;omega),Array.getElem?_eq_none (by rw[kU];omega)]
theorem gu (n k R j:Nat):(dL n k R j).size=n:=by simp[dL]
theorem dS {n i:Nat}(k R j:Nat)(h:i<n):(dL n k R j)[i]?=some (if i<j then Value.slice (some ⟨R+1+i,0,none⟩) k k else .slice none 0 0):=by
 simp[dL,h]
theorem zt {n k R j:Nat}(hj:j<n):(dL n k R j).setIfInBounds j (.slice (some ⟨R+1+j,0,none⟩) k k)=dL n k R (j+1):=by
 apply Array.ext_getElem?;intro i;rw[Array.getElem?_setIfInBounds]
 by_cases hi:i<n
 ·rw[dS _ _ _ hi,dS _ _ _ hi]
  by_cases h:j=i
  ·subst h;simp[gu,hj]
  ·rw[if_neg h]
   by_cases h2:i<j
   ·rw[if_pos h2,if_pos (by omega)]
   ·rw[if_neg h2,if_neg (by omega)]
 ·rw[Array.getElem?_eq_none (by rw[gu];omega),Array.getElem?_eq_none (by rw[gu];omega),if_neg (by omega)]
def Eg (w:H5)(n k R:Nat)(c:Value)(wr:H5):Prop:=
 ∃j:Nat,j≤n∧c= .int .i64 (j:Int)∧wr.heap.size=R+1+j∧wr.heap[R]?=some (.cells (dL n k R j) 199 (0,0))∧(∀i,i<j→wr.heap[R+1+i]?=some (.cells (dm k (fun _=>0)) 245 (0,0)))∧H9 R w wr
def rC (w:H5)(n k R:Nat)(e:Ending)(w':H5):Prop:=
 e= .returned (.slice (some ⟨R,0,none⟩) n n)∧w'.heap[R]?=some (.cells (dL n k R n) 199 (0,0))∧(∀i,i<n→w'.heap[R+1+i]?=some (.cells (dm k (fun _=>0)) 245 (0,0)))∧w'.heap.size=R+1+n∧H9 R w w'
theorem rD (w:H5)(n width:Nat)(hn:n≤90000)(hk:width≤90000):
  Calls prog 102 #[.int .i64 (n:Int),.int .i64 (width:Int)] w (rC w n ((width+63)/64) w.heap.size):=by
 obtain⟨i0,hi,hz0,hz1,hz2⟩:=info_parts xA;obtain⟨j0,hj,hj0,hj1,hj2⟩:=info_parts uX;obtain⟨R,hR⟩:=zE w.heap.size;go_enter func102,ntmps102
 go_wp2_with (at_make;refine iT rfl (.tmp 7) (.tmp 7) 193 rfl 199 i0 (.slice none 0 0) underlying193 hi hz0 hz1 rfl .i64 .i64 _ _ n rfl rfl rfl rfl (by rw[hz2];omega) (by unfold maxLen;omega) ?_)
 obtain⟨W1,hW1⟩:=zE (w.alloc (.cells (Array.replicate n (Value.slice none 0 0)) 199));have hb1:=gZ hW1 hR;have hs1:W1.heap.size=R+1:=by rw[←hW1];simp[hR]
 have hr1:W1.heap[R]?=some (.cells (dL n ((width+63)/64) R 0) 199 (0,0)):=by
  have e:Array.replicate n (Value.slice none 0 0)=dL n ((width+63)/64) R 0:=by
   apply Array.ext_getElem?;intro i
   by_cases hi:i<n
   ·rw[dS _ _ _ hi];simp[hi]
   ·rw[Array.getElem?_eq_none (by simp;omega),Array.getElem?_eq_none (by rw[gu];omega)]
  rw[←e,←hW1,←hR];exact alloc_at _ _
 rw[hW1]
 try rw[hR]
 have H0:Ia (Eg w n ((width+63)/64) R (.int .i64 0) W1):=⟨0,Hg _,rfl,by omega,hr1,fun i h=>by omega,hb1⟩
 clear hW1 hb1 hs1 hr1
 go_loopw [11] (fun c wr=>Eg w n ((width+63)/64) R c wr) (fun c _=>n-(intOf c).toNat)
 case atStart=>exact H0.out
 case round=>
  obtain⟨j,hjn,rfl,hs,hr,hall,hb⟩:=hrel
  by_cases hjl:j<n
  ·obtain⟨k,hk⟩:∃k,k=(width+63)/64:=⟨_,rfl⟩
   have hkI:((width:Int)+63)/64=(k:Int):=by omega
   have hkb:k≤2000:=by omega
   have HKI:=zH hkI;rw[←hk] at hr hall;have c1:wr.cell? ⟨R,j,none⟩=some (.slice none 0 0):=by rw[cell_of_row _ _ _ _ _ _ hr,dS _ _ _ hjl];simp
   have c2:wr.frozen? ⟨R,j,none⟩=false:=frozen_of_row _ _ _ _ _ hr;have hjI:(j:Int)<(n:Int):=by omega
   have hRlt:R<wr.heap.size:=by omega
   have HS:Ia (Eg w n ((width+63)/64) R (.int .i64 ((j:Int)+1)) ((wr.setCell ⟨R,j,none⟩ (.slice (some ⟨wr.heap.size,0,none⟩) k k)).alloc (.cells (Array.replicate k (Value.int .u64 0)) 245))):=by
    rw[←hk];have hxs:Ext (·=R) wr (wr.setCell ⟨R,j,none⟩ (.slice (some ⟨wr.heap.size,0,none⟩) k k)):=Ext.set1 _ _ _ _;have hxa:Ext (fun _=>False) (wr.setCell ⟨R,j,none⟩ (.slice (some ⟨wr.heap.size,0,none⟩) k k)) ((wr.setCell ⟨R,j,none⟩ (.slice (some ⟨wr.heap.size,0,none⟩) k k)).alloc (.cells (Array.replicate k (Value.int .u64 0)) 245)):=(Ext.refl _ _).alloc _;refine⟨j+1,by omega,by simp,by rw[Hu,World.size_setCell];omega, ?_,fun i hi=> ?_, ?_⟩
    ·refine hxa.heap ?_ (fun h=>h)
     rw[heap_setCell_same _ _ _ _ _ _ hr,hs,zt hjl]
    ·by_cases hij:i<j
     ·exact hxa.heap (hxs.heap (hall i hij) (by omega)) (fun h=>h)
     ·have:i=j:=by omega
      subst this;have h2:=alloc_at (wr.setCell ⟨R,i,none⟩ (.slice (some ⟨wr.heap.size,0,none⟩) k k)) (.cells (Array.replicate k (Value.int .u64 0)) 245);rw[World.size_setCell,hs] at h2;rw[←rA,List.toArray_replicate,←h2,hs]
    ·exact(hb.setCell (by show R≤R;omega) _).alloc (by rw[World.size_setCell];omega) _
   clear hr hall hb hk hkI hs
   go_wp2_with (at_make;refine iT rfl (.tmp 18) (.tmp 18) 199 rfl 245 j0 (.int .u64 0) underlying199 hj hj0 hj1 rfl .i64 .i64 _ _ k rfl rfl HKI.out HKI.out (by rw[hj2];omega) (by unfold maxLen;omega) ?_)
   exact⟨HS.out,by simp[intOf];omega⟩
  ·have hje:j=n:=by omega
   subst hje;have HP:Ia (rC w j ((width+63)/64) R (.returned (.slice (some ⟨R,0,none⟩) j j)) wr):=⟨rfl,hr,hall,hs,hb⟩
   clear hr hall hb hs;go_wp2;go_ret
   first|exact HP.out|(rw[hR];exact HP.out)
end Go.Proofs.YtjomgckjhcfbgaaGreat
