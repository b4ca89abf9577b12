/- Walks. -/
import Derived.Test.YtjomgckjhcfbgaaGreatS3
set_option maxRecDepth 100000
set_option maxHeartbeats 64000000
set_option linter.all false
namespace Go.Proofs.YtjomgckjhcfbgaaGreat
open Go.RowKit
open _root_.List renaming getElem?_eq_getElem→GN,getElem?_eq_some_iff→GQ,mem_of_getElem?→GV,take_length→Ha
open _root_.Nat renaming lt_of_lt_of_le→Hd,le_refl→He,zero_add→Hf,zero_le→Hg
open _root_.Option renaming some.inj→Hl
open Go.RowKit.Below renaming refl→Hw,heap_alloc→Hy
open Go renaming heap_setCell_same→Hz,World→H5
open Go.RowKit renaming Below→H9,Hid→Ia
open Tryz
theorem EE:(prog.info? 90).map (fun i=>(i.zero,i.size,i.bytes))=some (some (.agg #[.string ⟨#[]⟩,.slice none 0 0,.int .i64 0,.int .i64 0]),4,56):=by kernel_rfl
theorem EF:(prog.info? 233).map (fun i=>(i.zero,i.size,i.bytes))=some (some (.agg #[.string ⟨#[]⟩,.slice none 0 0,.bool false,.string ⟨#[]⟩,.slice none 0 0,.int .i64 0,.int .i64 0]),7,104):=by kernel_rfl
structure Pg where
 snm:ByteArray
 fs:List Fd
 fA:Option Addr
 fC:Nat
 sl:Int
 sc:Int
 nm:ByteArray
 ret:Ty
 ss:List Sm
 bA:Option Addr
 bC:Nat
 gl:Int
 gc:Int
 pA:Nat
 pC:Nat
 qA:Nat
 qC:Nat
def Pg.stc (p:Pg):List Value:=[.string p.snm,.slice p.fA p.fs.length p.fC,.int .i64 p.sl,.int .i64 p.sc]
def Pg.fnc (p:Pg):List Value:=[.string p.nm,.slice none 0 0,.bool p.ret.1,.string p.ret.2,.slice p.bA p.ss.length p.bC,.int .i64 p.gl,.int .i64 p.gc]
def Pg.cells (p:Pg):Array Value:=#[.slice (some ⟨p.pA,0,none⟩) 1 p.pC,.slice (some ⟨p.qA,0,none⟩) 1 p.qC]
structure Pg.inn (p:Pg)(B:Nat)(w:H5):Prop where
 fields:w.ownsRow B 92 5 (.slice p.fA p.fs.length p.fC) p.fs.length (p.fs.flatMap sj)
 strs:w.ownsRow B 90 4 (.slice (some ⟨p.pA,0,none⟩) 1 p.pC) 1 p.stc
 stmts:w.ownsRow B 282 9 (.slice p.bA p.ss.length p.bC) p.ss.length (p.ss.flatMap F9)
 exprs:∀s∈p.ss,s.inn B w
 fns:w.ownsRow B 233 7 (.slice (some ⟨p.qA,0,none⟩) 1 p.qC) 1 p.fnc
def ww (w:H5)(snm:ByteArray)(l:List (ByteArray×Ty))(nm:ByteArray)(y:Ty)(shs:List oZ)(e:Ending)(w':H5):Prop:=
 ∃p:Pg,e= .returned (.tuple #[.agg p.cells,.agg #[.int .i64 0,.int .i64 0,.int .i64 0,.int .i64 0]])∧p.snm=snm∧p.fs.map Fd.shp=l∧p.nm=nm∧p.ret=y∧p.ss.map Sm.shp=shs∧p.inn w.heap.size w'∧H9 w.heap.size w w'
structure qJ (T:List Tok)(snm:ByteArray)(l:List (ByteArray×Ty))(nm:ByteArray)(y:Ty)(shs:List oZ):Prop where
 ended:Ap T
 short:T.length≤1000000
 toks:∃(k j m:Nat) (t x u z z2 t2 x2 u2 v2 o2 s2 e2:Tok),T[0]?=some t∧dD t jv=true∧T[1]?=some x∧x.kind=1∧x.text=snm∧T[2]?=some u∧dD u lX=true∧gQ T 3 l k∧T[k]?=some z∧dD z ja=true∧T[k+1]?=some z2∧dD z2 dG=true∧
  T[k+2]?=some t2∧dD t2 jv=false∧vW T (k+2) y j∧T[j]?=some x2∧x2.kind=1∧x2.text=nm∧T[j+1]?=some u2∧dD u2 eT=true∧T[j+2]?=some v2∧dD v2 mX=true∧T[j+3]?=some o2∧dD o2 lX=true∧iE T (j+4) shs m∧T[m]?=some s2∧dD s2 ja=true∧
  T[m+1]?=some e2∧e2.kind=5
def FN (N lb cap:Nat)(T:List Tok)(W4:H5)(j:Nat)(wr:H5):Prop:=Rd (N+2) lb cap T j wr∧Ext (fun q=>q=N+2∨q=N+3) W4 wr
def EG (lb cap:Nat)(T:List Tok)(snm:ByteArray)(l:List (ByteArray×Ty))(nm:ByteArray)(y:Ty)(shs:List oZ)(k m N:Nat)(W4:H5)(wr:H5):Prop:=
 (FN N lb cap T W4 0 wr∧wr.heap[N+3]?=some (.cells #[.slice none 0 0,.slice none 0 0] 179 (0,0)))∨
 (∃p:Pg,FN N lb cap T W4 (k+2) wr∧p.snm=snm∧p.fs.map Fd.shp=l∧wr.ownsRow (N+4) 92 5 (.slice p.fA p.fs.length p.fC) p.fs.length (p.fs.flatMap sj)∧wr.ownsRow (N+4) 90 4 (.slice (some ⟨p.pA,0,none⟩) 1 p.pC) 1 p.stc∧
  wr.heap[N+3]?=some (.cells #[.slice (some ⟨p.pA,0,none⟩) 1 p.pC,.slice none 0 0] 179 (0,0)))∨
 (∃p:Pg,FN N lb cap T W4 (m+1) wr∧p.snm=snm∧p.fs.map Fd.shp=l∧p.nm=nm∧p.ret=y∧p.ss.map Sm.shp=shs∧p.inn (N+4) wr∧wr.heap[N+3]?=some (.cells p.cells 179 (0,0)))
theorem fu {w:H5}{base:Nat}{e:TypeId}{size n:Nat}{v:Value}{xs:List Value}(h:w.ownsRow base e size v (n+1) xs):∃g c,v= .slice (some ⟨g,0,none⟩) (n+1) c∧base≤g∧g<w.heap.size:=by
 rcases h.2 with⟨_,h2⟩|⟨g,cap,cur,h1,h2,h3,_⟩
 ·cases h2
 ·exact⟨g,cap,h1,h2,ae h3⟩
theorem sQ {lb cap:Nat}{T:List Tok}{snm nm:ByteArray}{l:List (ByteArray×Ty)}{y:Ty}{shs:List oZ}(w:H5)(hin:wu w lb T)(hlb:lb<w.heap.size)(hx:qJ T snm l nm y shs):
  Calls prog 129 #[.slice (some ⟨lb,0,none⟩) T.length cap] w (ww w snm l nm y shs):=by
 obtain⟨he,hT,k,j,m,t,x,u,z,z2,t2,x2,u2,v2,o2,s2,e2,a1,a2,a3,a4,a5,a6,a7,a8,a9,a10,a11,a12,b1,b2,b3,b4,b5,b6,b7,b8,b9,b10,b11,b12,b13,b14,b15,c1,c2⟩:=hx;obtain⟨N,hN⟩:=zE w.heap.size;obtain⟨W2,hW2⟩:=zE ((w.alloc (.cells #[.slice none 0 0,.slice none 0 0] 179)).alloc (.cells #[.int .i64 0,.int .i64 0,.int .i64 0,.int .i64 0] 113));obtain⟨W4,hW4⟩:=zE ((W2.alloc (.cells #[.slice (some ⟨lb,0,none⟩) T.length cap,.int .i64 0,.int .i64 0,.int .i64 0,.int .i64 0,.int .i64 0] 269)).alloc (.cells #[.slice none 0 0,.slice none 0 0] 179));have hb2:=uG hW2 hN;have hs2:W2.heap.size=N+2:=by rw[←hW2];simp[hN]
 have hb4:H9 N w W4:=by rw[←hW4];exact(hb2.alloc (by omega) _).alloc (by simp;omega) _
 have hs4:W4.heap.size=N+4:=by rw[←hW4];simp[hs2]
 have hr0:W4.heap[N]?=some (.cells #[.slice none 0 0,.slice none 0 0] 179 (0,0)):=by
  rw[←hW4];refine(Hy _ _ N (by simp;omega)).trans ((Hy _ _ N (by omega)).trans ?_);rw[←hW2,←hN];exact heap_alloc2_old _ _ _
 have hr1:W4.heap[N+1]?=some (.cells #[.int .i64 0,.int .i64 0,.int .i64 0,.int .i64 0] 113 (0,0)):=by
  rw[←hW4];refine(Hy _ _ (N+1) (by simp;omega)).trans ((Hy _ _ (N+1) (by omega)).trans ?_);rw[←hW2,←hN];exact heap_alloc2_new _ _ _
 have hr2:=xV hW4 hs2;have hr3:W4.heap[N+3]?=some (.cells #[.slice none 0 0,.slice none 0 0] 179 (0,0)):=by rw[←hW4,show N+3=W2.heap.size+1 by omega];exact heap_alloc2_new _ _ _
 have hTpos:0<T.length:=by have:=(GQ.1 a1).1;omega
 have hrd4:Rd (N+2) lb cap T 0 W4:=⟨hr2,fun q t ht jj u hu=>by rw[hb4.cell (p:=⟨lb,q*5+jj,none⟩) (by show lb<N;omega)];exact hin q t ht jj u hu,by omega,by omega,hT⟩
 have HEN:Ia (zS 169 #[.slice (some ⟨lb,0,none⟩) T.length cap] W2 (.bool true)):=sP lb cap T W2 hT hTpos (fun q t ht jj u hu=>by rw[hb2.cell (p:=⟨lb,q*5+jj,none⟩) (by show lb<N;omega)];exact hin q t ht jj u hu) he;have HTK:Ia (∀(j:Nat)(t:Tok) W,T[j]?=some t→Rd (N+2) lb cap T j W→zP 170 #[.pointer (some ⟨N+2,0,none⟩)] W (.agg #[.int .i64 t.kind,.string t.text,.int .i64 t.n,.int .i64 t.ln,.int .i64 t.cl])):=fun j t W ht h=>bB W h ht;have HBD:Ia (∀(j:Nat) W,Rd (N+2) lb cap T j W→zS 171 #[.pointer (some ⟨N+2,0,none⟩)] W (.bool false)):=fun j W hW=>bu W hW;have HIS:Ia (∀(j:Nat)(t:Tok) W,T[j]?=some t→Rd (N+2) lb cap T j W→zP 172 #[.pointer (some ⟨N+2,0,none⟩),.string ⟨#[115,116,114,117,99,116]⟩] W (.bool (dD t jv))):=fun j t W ht hW=>bi jv W hW ht;have HSTR:Ia (∀W,Rd (N+2) lb cap T 0 W→Calls prog 173 #[.pointer (some ⟨N+2,0,none⟩)] W (BH (N+2) lb cap T W snm l (k+2))):=fun W hW=>by
  rw[←a5];exact mY W hW a1 a2 a3 a4 a6 a7 a8 a9 a10 a11 a12
 have HFUN:Ia (∀W,Rd (N+2) lb cap T (k+2) W→Calls prog 174 #[.pointer (some ⟨N+2,0,none⟩)] W (BI (N+2) lb cap T W nm y shs (m+1))):=fun W hW=>by
  rw[←b6];exact ow W hW b1 b3 b4 b5 b7 b8 b9 b10 b11 b12 b13 b14 b15
 have hk5:(t.kind==5)=false:=by rw[beq_eq_false_iff_ne];have:=vZ a2;omega
 have hm1:m+1<T.length:=(GQ.1 c1).1;have hkm:k+2<m+1:=by
  have h1:=b13.le;obtain⟨_,_,_,h2⟩:=b3.first
  omega
 have hk25:(t2.kind==5)=false:=by
  rw[beq_eq_false_iff_ne];intro h;have:=(he _ _ b1).1 h;omega
 have hk5':(t.kind != 5)=true:=by rw[bne,hk5];rfl
 have hk25':(t2.kind != 5)=true:=by rw[bne,hk25];rfl
 have HA1:=zH a1;have HA2:=zH a2;have HB1':=zH b1;have HB2':=zH b2;have HC1:=zH c1;have HC2:=zH c2;have HW2:=zH hW2;have HW4:=zH hW4;have HB4:=zH hb4;have HS4:=zH hs4;have HS2:=zH hs2;have HR0:=zH hr0;have HR1:=zH hr1;have HN:=zH hN;have HI0:Ia (EG lb cap T snm l nm y shs k m N W4 W4):= .inl ⟨⟨hrd4,Ext.refl _ _⟩,hr3⟩;obtain⟨i0,hi0,hi1,hi2,hi3⟩:=info_parts EE;obtain⟨j0,hj0,hj1,hj2,hj3⟩:=info_parts EF;have HLBN:Ia (lb<N):=by unfold Ia;omega
 clear hin hlb he a1 a2 a3 a4 a5 a6 a7 a8 a9 a10 a11 a12 b1 b2 b3 b4 b5 b6 b7 b8 b9 b10 b11 b12 b13 b14 b15 c1 c2 hW2 hW4 hb2 hb4 hs4 hr0 hr1 hr2 hr3 hrd4;go_enter func129,ntmps129
 go_upto_region 5 with(go_at_call 169;rw[HW2.out];refine HEN.out.mono ?_;rintro e W2 ⟨rfl,rfl⟩)
 rw[HW4.out];simp only[Nat.add_assoc,Nat.reduceAdd]
 go_loopw [14] (fun _ wr=>EG lb cap T snm l nm y shs k m N W4 wr) (fun _ wr=>qH (N+2) T wr)
 case atStart=>exact HI0.out
 case round=>
  rcases hrel with⟨⟨hrd,hx⟩,hP⟩|⟨p,⟨hrd,hx⟩,hp1,hp2,hp3,hp4,hP⟩|⟨p,⟨hrd,hx⟩,hp1,hp2,hp3,hp4,hp5,hp6,hP⟩
  ·have HRD:=zH hrd
   have HX:=zH hx;have HP:=zH hP;have hlft:=zH (fH hrd);clear hrd hx hP;have hfk:=fun W=>qI t.kind t.text t.n t.ln t.cl W
   go_upto_region 7 with(first
    |(go_at_call 170;refine(HTK.out (0) _ wr HA1.out HRD.out).mono ?_;rintro e w5 ⟨rfl,hb5⟩;have HB5:=zH hb5;clear hb5)
    |(go_at_call 171;refine(HBD.out (0) w5 (HRD.out.grow HB5.out)).mono ?_;rintro e w6 ⟨rfl,rfl⟩)
    |(go_at_call 172;refine(HIS.out (0) _ w5 HA1.out (HRD.out.grow HB5.out)).mono ?_;rw[HA2.out];rintro e w6 ⟨rfl,hb6⟩;have HB6:=zH (HB5.out.trans (hb6.mono HB5.out.size));clear hb6))
   clear hfk;have hrd6:=HRD.out.grow HB6.out;have hP6:=(HB6.out.block (N+3) (ae HP.out)).trans HP.out;have hlow:N+4≤w6.heap.size:=ae hP6;obtain⟨⟨p0,p1⟩,⟨q0,q1⟩,hPlt⟩:=bZ hP6;have HRD6:=zH hrd6;have HP6:=zH hP6;obtain⟨S,hS⟩:=zE ((fun w'=>w'.cell? ⟨N+3,0,none⟩=some (.slice none 0 0)):H5→Prop);have hSS:∀w,S w→w.cell? ⟨N+3,0,none⟩=some (.slice none 0 0):=fun w h=>by rw[←hS] at h;exact h
   have hSB:∀w,w.cell? ⟨N+3,0,none⟩=some (.slice none 0 0)→S w:=fun w h=>by rw[←hS];exact h
   have HSS:=zH hSS;have HSB:=zH hSB;have hS0:S w6.drew:=hSB _ (by first|exact p0|simpa using p0);clear hS hSS hSB hrd6 hP6;refine aj 7 S (by kernel_rfl) ?_;refine zT 0 rfl HSS.out ?_
   try go_simp
   refine zT 1 rfl HSS.out ?_
   try go_simp
   refine zT 2 rfl HSS.out ?_
   try go_simp
   refine zO 3 rfl fun K' hK=> ?_;go_simp;go_at_call 173;refine(HSTR.out w6.drew (HRD6.out.grow ((Hw _ _).drew))).mono ?_;rintro e w7 ⟨ao,c,fs,ln,cl,rfl,hsh,hown,hm7⟩;have hx7:=hm7.2;have hrow7:=hx7.heap HP6.out (show¬N+3=N+2 by omega);have hS7:S w7:=HSB.out _ (rowAt hrow7 0 rfl).1;have hl7:w6.heap.size≤w7.heap.size:=hm7.2.size;have hown7:=aT hown (show N+4≤w6.drew.heap.size from hlow);refine hK _ _ hS7 ?_;clear hK
   try go_simp
   refine zO 4 rfl fun K' hK=> ?_;go_simp;obtain⟨G,hG⟩:=zE w7.heap.size;obtain⟨W8,hW8⟩:=zE (w7.alloc (.cells #[.string snm,.slice ao fs.length c,.int .i64 ln,.int .i64 cl] 90))
   try rw[hG]
   try rw[hW8]
   have hb8:=gK hW8;have hrG:W8.heap[G]?=some (.cells #[.string snm,.slice ao fs.length c,.int .i64 ln,.int .i64 cl] 90 (0,0)):=by rw[←hW8,←hG];exact alloc_at _ _
   have hrow8:=(hb8.block (N+3) (ae hrow7)).trans hrow7;refine hK _ _ (HSB.out _ (rowAt hrow8 0 rfl).1) ?_;clear hK
   try go_simp
   refine zO 5 rfl fun K' hK=> ?_;have hN8:N+4≤W8.heap.size:=by have:=hb8.size;omega
   refine aF (.tmp 26) (.tmp 29) 22 rfl (N+4) 90 i0 _ 4 56 underlying22 hi0 hi1 hi2 hi3 rfl (by decide) (.slice none 0 0) 0 [] rfl (World.ownsRow_nil _ _ _ _) (some ⟨G,0,none⟩) 1 1 [.string snm,.slice ao fs.length c,.int .i64 ln,.int .i64 cl] rfl rfl (fun h=>by cases h) (fun ad had jj uu hu=>by
    obtain rfl:(⟨G,0,none⟩:Addr)=ad:=by simpa using had
    rw[Addr.add_lit,Hf,cell_of_row _ _ _ _ _ _ hrG];simpa using hu) (by simp[Value.oneCell']) (by unfold maxLen;omega) (by omega) hN8 ?_
   intro v9 w9 hown9 hgr9 hat9;obtain⟨g9,c9,hv9,hg9,hg9l⟩:=fu hown9;subst hv9;have hx9:Ext (fun _=>False) W8 w9:=Ext.of_grown hgr9 (fun q hq=>by cases hq);have hrow9:=hx9.heap hrow8 (fun h=>h);have hS9:S w9:=HSB.out _ (rowAt hrow9 0 rfl).1;obtain⟨⟨r0,r1⟩,⟨s0,s1⟩,hPl9⟩:=bZ hrow9;refine hK _ _ hS9 ?_;clear hK
   try go_simp
   refine zT 6 rfl HSS.out ?_
   try go_simp
   refine zK rfl fun K' hK=> ?_;go_simp;refine hK _ _ ?_;clear hK;refine⟨by kernel_rfl, ?_⟩;obtain⟨WF,hWF⟩:=zE (w9.setCell ⟨N+3,0,none⟩ (.slice (some ⟨g9,0,none⟩) 1 c9))
   try rw[hWF]
   have hxF:Ext (·=N+3) w9 WF:=by rw[←hWF];exact Ext.set1 w9 (N+3) 0 _
   have hx69:Ext (·=N+2) w6 w9:=(((Ext.refl (·=N+2) w6).drew.trans hx7 (fun q h=> .inl h)).trans (Ext.of_below_size (M:=fun _=>False) hb8) (fun q h=>h.elim)).trans hx9 (fun q h=>h.elim);have hx6F:Ext (fun q=>q=N+2∨q=N+3) w6 WF:=(hx69.mono (fun q h=> .inl h)).trans hxF (fun q h=> .inl (.inr h));have hx0F:Ext (fun q=>q=N+2∨q=N+3) wr WF:=(Ext.of_below_size (M:=fun q=>q=N+2∨q=N+3) HB6.out).trans hx6F (fun q h=> .inl h);have hrdF:Rd (N+2) lb cap T (k+2) WF:=((hm7.1.grow hb8).ext hx9 (fun h=>h) (fun h=>h)).ext hxF (by omega) (by have:=HLBN.out;omega);have hrowF:WF.heap[N+3]?=some (.cells #[.slice (some ⟨g9,0,none⟩) 1 c9,.slice none 0 0] 179 (0,0)):=by rw[←hWF];exact Hz w9 (N+3) 0 _ _ _ hrow9
   have hREL:EG lb cap T snm l nm y shs k m N W4 WF:= .inr (.inl ⟨⟨snm,fs,ao,c,ln,cl,⟨#[]⟩,bF,[],none,0,0,0,g9,c9,0,0⟩,⟨hrdF,HX.out.trans hx0F (fun q h=> .inl h)⟩,rfl,hsh,
    ah (ah (ownsRow_below hown7 hb8) hx9 (fun q _ h=>h)) hxF (fun q hq e=>by have:=(ai hown7 hq).1;omega),
    ah hown9 hxF (fun q hq e=>by have:=(ai hown9 hq).1;omega),hrowF⟩)
   have hk2T:k+2<T.length:=by omega
   have hlft2:=zH (fH hrdF);have HREL:=zH hREL;clear hWF hxF hx69 hx6F hx0F hrdF hrowF hREL hgr9 hat9 hown9 hown7 hown hsh hx7 hm7 hrow7 hrow8 hrow9 hx9 hb8 hrG hW8 hG hS7 hS9 r0 r1 s0 s1;go_wp2;go_roundw
   case rel=>exact HREL.out
   case measure=>
    rw[hlft2.out,hlft.out];omega
  ·have HRD:=zH hrd
   have HX:=zH hx;have HP:=zH hP;have hlft:=zH (fH hrd);have HP1:=zH hp1;have HP2:=zH hp2;have HP3:=zH hp3;have HP4:=zH hp4;clear hrd hx hP hp1 hp2 hp3 hp4;have hfk:=fun W=>qI t2.kind t2.text t2.n t2.ln t2.cl W
   go_upto_region 8 with(first
    |(go_at_call 170;refine(HTK.out (k+2) _ wr HB1'.out HRD.out).mono ?_;rintro e w5 ⟨rfl,hb5⟩;have HB5:=zH hb5;clear hb5)
    |(go_at_call 171;refine(HBD.out (k+2) w5 (HRD.out.grow HB5.out)).mono ?_;rintro e w6 ⟨rfl,rfl⟩)
    |(go_at_call 172;refine(HIS.out (k+2) _ w5 HB1'.out (HRD.out.grow HB5.out)).mono ?_;rw[HB2'.out];rintro e w6 ⟨rfl,hb6⟩;have HB6:=zH (HB5.out.trans (hb6.mono HB5.out.size));clear hb6))
   clear hfk;have hrd6:=HRD.out.grow HB6.out;have hP6:=(HB6.out.block (N+3) (ae HP.out)).trans HP.out;have hlow:N+4≤w6.heap.size:=ae hP6;obtain⟨⟨p0,p1⟩,⟨q0,q1⟩,hPlt⟩:=bZ hP6;have HRD6:=zH hrd6;have HP6:=zH hP6;obtain⟨S,hS⟩:=zE ((fun w'=>w'.cell? ⟨N+3,1,none⟩=some (.slice none 0 0)):H5→Prop);have hSS:∀w,S w→w.cell? ⟨N+3,1,none⟩=some (.slice none 0 0):=fun w h=>by rw[←hS] at h;exact h
   have hSB:∀w,w.cell? ⟨N+3,1,none⟩=some (.slice none 0 0)→S w:=fun w h=>by rw[←hS];exact h
   have HSS:=zH hSS;have HSB:=zH hSB;have hS0:S w6.drew:=hSB _ (by first|exact p1|simpa using p1);clear hS hSS hSB hrd6 hP6;refine aj 7 S (by kernel_rfl) ?_;refine zT 0 rfl HSS.out ?_
   try go_simp
   refine zT 1 rfl HSS.out ?_
   try go_simp
   refine zT 2 rfl HSS.out ?_
   try go_simp
   refine zO 3 rfl fun K' hK=> ?_;go_simp;go_at_call 174;refine(HFUN.out w6.drew (HRD6.out.grow ((Hw _ _).drew))).mono ?_;rintro e w7 ⟨ao,c,ss,ln,cl,rfl,hsh,hown,hin,hm7⟩;have hx7:=hm7.2;have hrow7:=hx7.heap HP6.out (show¬N+3=N+2 by omega);have hS7:S w7:=HSB.out _ (rowAt hrow7 1 rfl).1;have hl7:w6.heap.size≤w7.heap.size:=hm7.2.size;have hown7:=aT hown (show N+4≤w6.drew.heap.size from hlow);have hin7:∀s∈ss,s.inn (N+4) w7:=fun s hs=>(hin s hs).mono (show N+4≤w6.drew.heap.size from hlow);refine hK _ _ hS7 ?_;clear hK
   try go_simp
   refine zO 4 rfl fun K' hK=> ?_;go_simp;obtain⟨G,hG⟩:=zE w7.heap.size;obtain⟨W8,hW8⟩:=zE (w7.alloc (.cells #[.string nm,.slice none 0 0,.bool y.1,.string y.2,.slice ao ss.length c,.int .i64 ln,.int .i64 cl] 233))
   try rw[hG]
   try rw[hW8]
   have hb8:=gK hW8;have hrG:W8.heap[G]?=some (.cells #[.string nm,.slice none 0 0,.bool y.1,.string y.2,.slice ao ss.length c,.int .i64 ln,.int .i64 cl] 233 (0,0)):=by rw[←hW8,←hG];exact alloc_at _ _
   have hrow8:=(hb8.block (N+3) (ae hrow7)).trans hrow7;refine hK _ _ (HSB.out _ (rowAt hrow8 1 rfl).1) ?_;clear hK
   try go_simp
   refine zO 5 rfl fun K' hK=> ?_;have hN8:N+4≤W8.heap.size:=by have:=hb8.size;omega
   refine aF (.tmp 33) (.tmp 36) 177 rfl (N+4) 233 j0 _ 7 104 underlying177 hj0 hj1 hj2 hj3 rfl (by decide) (.slice none 0 0) 0 [] rfl (World.ownsRow_nil _ _ _ _) (some ⟨G,0,none⟩) 1 1 [.string nm,.slice none 0 0,.bool y.1,.string y.2,.slice ao ss.length c,.int .i64 ln,.int .i64 cl] rfl rfl (fun h=>by cases h) (fun ad had jj uu hu=>by
    obtain rfl:(⟨G,0,none⟩:Addr)=ad:=by simpa using had
    rw[Addr.add_lit,Hf,cell_of_row _ _ _ _ _ _ hrG];simpa using hu) (by simp[Value.oneCell']) (by unfold maxLen;omega) (by omega) hN8 ?_
   intro v9 w9 hown9 hgr9 hat9;obtain⟨g9,c9,hv9,hg9,hg9l⟩:=fu hown9;subst hv9;have hx9:Ext (fun _=>False) W8 w9:=Ext.of_grown hgr9 (fun q hq=>by cases hq);have hrow9:=hx9.heap hrow8 (fun h=>h);have hS9:S w9:=HSB.out _ (rowAt hrow9 1 rfl).1;obtain⟨⟨r0,r1⟩,⟨s0,s1⟩,hPl9⟩:=bZ hrow9;refine hK _ _ hS9 ?_;clear hK
   try go_simp
   refine zT 6 rfl HSS.out ?_
   try go_simp
   refine zK rfl fun K' hK=> ?_;go_simp;refine hK _ _ ?_;clear hK;refine⟨by kernel_rfl, ?_⟩;obtain⟨WF,hWF⟩:=zE (w9.setCell ⟨N+3,1,none⟩ (.slice (some ⟨g9,0,none⟩) 1 c9))
   try rw[hWF]
   have hxF:Ext (·=N+3) w9 WF:=by rw[←hWF];exact Ext.set1 w9 (N+3) 1 _
   have hx69:Ext (·=N+2) w6 w9:=(((Ext.refl (·=N+2) w6).drew.trans hx7 (fun q h=> .inl h)).trans (Ext.of_below_size (M:=fun _=>False) hb8) (fun q h=>h.elim)).trans hx9 (fun q h=>h.elim);have hx6F:Ext (fun q=>q=N+2∨q=N+3) w6 WF:=(hx69.mono (fun q h=> .inl h)).trans hxF (fun q h=> .inl (.inr h));have hx0F:Ext (fun q=>q=N+2∨q=N+3) wr WF:=(Ext.of_below_size (M:=fun q=>q=N+2∨q=N+3) HB6.out).trans hx6F (fun q h=> .inl h);have hrdF:Rd (N+2) lb cap T (m+1) WF:=((hm7.1.grow hb8).ext hx9 (fun h=>h) (fun h=>h)).ext hxF (by omega) (by have:=HLBN.out;omega);have hrowF:WF.heap[N+3]?=some (.cells #[.slice (some ⟨p.pA,0,none⟩) 1 p.pC,.slice (some ⟨g9,0,none⟩) 1 c9] 179 (0,0)):=by rw[←hWF];exact Hz w9 (N+3) 1 _ _ _ hrow9
   have keep:∀{e:TypeId}{size n:Nat}{v:Value}{xs:List Value},wr.ownsRow (N+4) e size v n xs→WF.ownsRow (N+4) e size v n xs:=fun h=>ah h hx0F (fun q hq e=>by have:=(ai h hq).1;omega);have hREL:EG lb cap T snm l nm y shs k m N W4 WF:= .inr (.inr ⟨⟨p.snm,p.fs,p.fA,p.fC,p.sl,p.sc,nm,y,ss,ao,c,ln,cl,p.pA,p.pC,g9,c9⟩,⟨hrdF,HX.out.trans hx0F (fun q h=> .inl h)⟩,HP1.out,HP2.out,rfl,rfl,hsh,
    ⟨keep HP3.out,keep HP4.out,ah (ah (ownsRow_below hown7 hb8) hx9 (fun q _ h=>h)) hxF (fun q hq e=>by have:=(ai hown7 hq).1;omega),
     fun s hs=>(((hin7 s hs).ext (Ext.of_below_size (M:=fun _=>False) hb8) (fun _ _ _ h=>h)).ext hx9 (fun _ _ _ h=>h)).ext hxF (fun q h1 _=>by omega),
     ah hown9 hxF (fun q hq e=>by have:=(ai hown9 hq).1;omega)⟩,hrowF⟩)
   have hk2T:k+2<T.length:=by omega
   clear hin hin7 keep;have hlft2:=zH (fH hrdF);have HREL:=zH hREL;clear hWF hxF hx69 hx6F hx0F hrdF hrowF hREL hgr9 hat9 hown9 hown7 hown hsh hx7 hm7 hrow7 hrow8 hrow9 hx9 hb8 hrG hW8 hG hS7 hS9 r0 r1 s0 s1;go_wp2;go_roundw
   case rel=>exact HREL.out
   case measure=>
    rw[hlft2.out,hlft.out];omega
  ·have HRD:=zH hrd
   have HX:=zH hx;have HP:=zH hP;have HP1:=zH hp1;have HP2:=zH hp2;have HP3:=zH hp3;have HP4:=zH hp4;have HP5:=zH hp5;have HP6:=zH hp6;clear hrd hx hP hp1 hp2 hp3 hp4 hp5 hp6;have hfk:=fun W=>qI 5 e2.text e2.n e2.ln e2.cl W;have HBDM:Ia (∀W,H9 wr.heap.size wr W→zS 171 #[.pointer (some ⟨N+2,0,none⟩)] W (.bool false)):=fun W hW=>HBD.out (m+1) W (HRD.out.grow hW)
   go_upto_region 11 with(first
    |(go_at_call 170;refine(HTK.out (m+1) _ wr HC1.out HRD.out).mono ?_;rw[HC2.out];rintro e w5 ⟨rfl,hb5⟩;have HB5:=zH hb5;clear hb5)
    |(go_at_call 171;refine(HBDM.out w5 HB5.out).mono ?_;rintro e w6 ⟨rfl,rfl⟩))
   clear hfk;have hP5:=(HB5.out.block (N+3) (ae HP.out)).trans HP.out;have hr0w:=HX.out.heap HR0.out (show¬(N=N+2∨N=N+3) by omega);have hr1w:=HX.out.heap HR1.out (show¬(N+1=N+2∨N+1=N+3) by omega);have hr05:=(HB5.out.block N (ae hr0w)).trans hr0w;have hr15:=(HB5.out.block (N+1) (ae hr1w)).trans hr1w;have HR05:=zH hr05;have HR15:=zH hr15;unfold Pg.cells at hP5;obtain⟨⟨p0,p1⟩,⟨q0,q1⟩,hPlt⟩:=bZ hP5;obtain⟨⟨b0,b1⟩,⟨d0,d1⟩,hNlt⟩:=bZ hr05;obtain⟨⟨e0,e1,e2',e3⟩,⟨f0,f1,f2,f3⟩,hN1lt⟩:=lJ hr15;clear hP5 hr0w hr1w hr05 hr15;go_wp2;(try simp only[Exit.inBlock,Exit.then]);have hxe:∀W u0 u1,Ext (·=N) W ((W.setCell ⟨N,0,none⟩ u0).setCell ⟨N,1,none⟩ u1):=fun W u0 u1=>aa (aa (Ext.refl _ _) _) _;have hxd:∀W u0 u1 u2 u3,Ext (·=N+1) W ((((W.setCell ⟨N+1,0,none⟩ u0).setCell ⟨N+1,1,none⟩ u1).setCell ⟨N+1,2,none⟩ u2).setCell ⟨N+1,3,none⟩ u3):=fun W u0 u1 u2 u3=>aa (aa (aa (aa (Ext.refl _ _) _) _) _) _;refine bodyPost_ret (cZ rfl _ _ N (N+1) 179 113 _ _ (0,0) (0,0) _ _ rfl ((hxd _ _ _ _ _).heap (bf HR05.out) (show¬N=N+1 by omega)) rfl (iX ((hxe _ _ _).heap HR15.out (show¬N+1=N by omega))) underlying179 (by kernel_rfl) underlying113 (by kernel_rfl)) rfl ?_;have hx05:Ext (fun _=>False) wr w5:=Ext.of_below_size HB5.out;have hxall:Ext (fun q=>q=N∨q=N+1) wr _:=((hx05.mono (fun _ h=>h.elim)).trans (hxe w5 (.slice (some ⟨p.pA,0,none⟩) 1 p.pC) (.slice (some ⟨p.qA,0,none⟩) 1 p.qC)) (fun q h=> .inl (.inl h))).trans (hxd _ (.int .i64 0) (.int .i64 0) (.int .i64 0) (.int .i64 0)) (fun q h=> .inl (.inr h));have keep:∀{e:TypeId}{size n:Nat}{v:Value}{xs:List Value},wr.ownsRow (N+4) e size v n xs→_:=fun{e size n v xs} h=>aT (ah (e:=e) (size:=size) (n:=n) (v:=v) (xs:=xs) h hxall (fun q hq e=>by have:=(ai h hq).1;omega)) (show w.heap.size≤N+4 by omega);refine⟨p,rfl,HP1.out,HP2.out,HP3.out,HP4.out,HP5.out,⟨keep HP6.out.fields,keep HP6.out.strs,keep HP6.out.stmts,fun s hs=>((HP6.out.exprs s hs).ext hxall (fun q h1 _=>by omega)).mono (by omega),keep HP6.out.fns⟩, ?_⟩;rw[hN];exact HB4.out.trans ((HX.out.below (by rw[HS4.out];omega) (fun q h=>by omega)).trans (hxall.below (Nat.le_trans (by rw[HS4.out];omega) HX.out.size) (fun q h=>by omega)))
theorem wB {α:Type}{f:α→List Value}{m:Nat}(hf:∀x,(f x).length=m):∀(l:List α)(k j:Nat)(x:α)(u:Value),l[k]?=some x→(f x)[j]?=some u→(l.flatMap f)[k*m+j]?=some u
 |[],k,_,_,_,h,_=>by simp at h
 |y::l,0,j,x,u,h,hu=>by
  obtain rfl:y=x:=by simpa using h
  rw[List.flatMap_cons,Nat.zero_mul,Hf,List.getElem?_append_left (GQ.1 hu).1];exact hu
 |y::l,k+1,j,x,u,h,hu=>by
  have ih:=wB hf l k j x u (by simpa using h) hu;rw[List.flatMap_cons,List.getElem?_append_right (by rw[hf];rw[Nat.succ_mul];omega),hf,show(k+1)*m+j-m=k*m+j by rw[Nat.succ_mul];omega];exact ih
theorem uL {α:Type}{f:α→List Value}{m base n g c:Nat}(hf:∀x,(f x).length=m){w:H5}{e:TypeId}{l:List α}(h:w.ownsRow base e m (.slice (some ⟨g,0,none⟩) n c) n (l.flatMap f)){k j:Nat}{x:α}{u:Value}(hx:l[k]?=some x)(hu:(f x)[j]?=some u):
  w.cell? ⟨g,k*m+j,none⟩=some u:=by
 have h1:=h.cells (g:=g) rfl (k*m+j) u (wB hf l k j x u hx hu);rw[Addr.add_lit,Hf] at h1;exact h1
def Dx (w:H5)(Q:List oZ→Prop)(snm:ByteArray)(l:List (ByteArray×Ty))(nm:ByteArray)(y:Ty)(e:Ending)(w':H5):Prop:=∃shs,Q shs∧ww w snm l nm y shs e w'
theorem wF (s:ByteArray)(R:List zY)(n0:Nat)(Q:List oZ→Prop)(snm nm:ByteArray)(l:List (ByteArray×Ty))(y:Ty)(w:H5)(hs:s.size≤1000000)(hns:mV s)(h0:s.size≠0)(hR:kP s n0 (fG s s.size 0)=some R)
  (hT:∀T:List Tok,T.map Tok.sig=R++[(5,⟨#[]⟩,0)]→∃shs,Q shs∧qJ T snm l nm y shs):
  Calls prog 92 #[.string s] w (Dx w Q snm l nm y):=by
 obtain⟨N,hN⟩:=zE w.heap.size;obtain⟨W2,hW2⟩:=zE ((w.alloc (.cells #[.slice none 0 0,.slice none 0 0] 179)).alloc (.cells #[.int .i64 0,.int .i64 0,.int .i64 0,.int .i64 0] 113));have hb2:=uG hW2 hN;have hs2:W2.heap.size=N+2:=by rw[←hW2];simp[hN]
 have hr0:=xV hW2 hN;have hr1:=zV hW2 hN;have HSC:=zH (vT s R n0 W2 hs hns h0 hR);have hst:∀(w:H5)(c:Array Value),c.size=4→(storeCells ⟨w.heap.size,0,none⟩ [.int .i64 0,.int .i64 0,.int .i64 0,.int .i64 0] 0).run prog (w.alloc (.cells c 113))= .ok () (w.alloc (.cells #[.int .i64 0,.int .i64 0,.int .i64 0,.int .i64 0] 113)):=fun w c hc=>
  run_storeCells_new (P:=prog) w 113 c #[.int .i64 0,.int .i64 0,.int .i64 0,.int .i64 0] (by show _=some 4;kernel_rfl) hc (by simp[Value.oneCell'])
 have HST:=zH hst;have HT:=zH hT;have HW2:=zH hW2;have HB2:=zH hb2;have HS2:=zH hs2;have HR0:=zH hr0;have HR1:=zH hr1;have HPA:Ia (∀(lb cap:Nat)(T:List Tok)(shs:List oZ)(W:H5),wu W lb T→lb<W.heap.size→qJ T snm l nm y shs→Calls prog 129 #[.slice (some ⟨lb,0,none⟩) T.length cap] W (ww W snm l nm y shs)):=fun lb cap T shs W h1 h2 h3=>sQ W h1 h2 h3;clear hR hT hW2 hb2 hs2 hr0 hr1 hst;go_enter func92,ntmps92
 go_upto_region 2 with(go_at_call 128;rw[HW2.out];refine HSC.out.mono ?_;rintro e w3 ⟨v,T,rfl,hown,hsg,hb3⟩;obtain⟨shs,hQ,hTX⟩:=HT.out T hsg;obtain⟨q,hq⟩:∃q,T.length=q+1:=⟨T.length-1,by obtain⟨_,_,k,j,m,t,_,_,_,_,_,_,_,_,_,_,_,a1,_⟩:=hTX;have:=(GQ.1 a1).1;omega⟩;obtain⟨lb,cap,hv,hlb1,hlb2⟩:=fu (by rw[hq] at hown;exact hown);rw[←hq] at hv;subst hv;have HOW:=zH hown;have HTX:=zH hTX;have HQ:=zH hQ;have HB3:=zH hb3;have HLB:=zH hlb2;have hst3:=HST.out w3;clear hown hsg hb3 hTX hQ hq hlb1 hlb2)
 clear hst3;obtain⟨D,hD⟩:=zE w3.heap.size;obtain⟨W4,hW4⟩:=zE (w3.alloc (.cells #[.int .i64 0,.int .i64 0,.int .i64 0,.int .i64 0] 113));rw[hD,hW4];have hb34:=gK hW4;have hb24:H9 W2.heap.size W2 W4:=HB3.out.trans (hb34.mono HB3.out.size);have hrD:W4.heap[D]?=some (.cells #[.int .i64 0,.int .i64 0,.int .i64 0,.int .i64 0] 113 (0,0)):=by rw[←hW4,←hD];exact alloc_at _ _
 have htoks:wu W4 lb T:=fun k t ht j u hu=>(hb34.cell (p:=⟨lb,k*5+j,none⟩) HLB.out).trans (uL (f:=sG) (fun _=>rfl) HOW.out ht hu);have hlb4:lb<W4.heap.size:=Hd HLB.out hb34.size;have HPA4:=zH (HPA.out lb cap T shs W4 htoks hlb4 HTX.out);have HB24:=zH hb24;obtain⟨⟨c0,c1,c2,c3⟩,_,hDlt⟩:=lJ hrD;clear hD hW4 hb34 hb24 hrD htoks hlb4
 go_wp2_with (go_at_call 129;refine HPA4.out.mono ?_;rintro e w5 ⟨p,rfl,h1,h2,h3,h4,h5,h6,hb5⟩;have HA:=zH (And.intro h1 (And.intro h2 (And.intro h3 (And.intro h4 h5))));have H6:=zH h6;have HB5:=zH hb5;have hb25:=HB24.out.trans (hb5.mono HB24.out.size);have HB25:=zH hb25;have hr05:=(hb25.block N (by rw[HS2.out];omega)).trans HR0.out;have hr15:=(hb25.block (N+1) (by rw[HS2.out];omega)).trans HR1.out;have HR05:=zH hr05;have HR15:=zH hr15;obtain⟨⟨b0,b1⟩,⟨d0,d1⟩,hNlt⟩:=bZ hr05;obtain⟨⟨e0,e1,e2',e3⟩,⟨f0,f1,f2,f3⟩,hN1lt⟩:=lJ hr15;clear h1 h2 h3 h4 h5 h6 hb5 hb25 hr05 hr15;unfold Pg.cells)
 (try simp only[Exit.inBlock,Exit.then]);have hxe:∀W u0 u1,Ext (·=N) W ((W.setCell ⟨N,0,none⟩ u0).setCell ⟨N,1,none⟩ u1):=fun W u0 u1=>aa (aa (Ext.refl _ _) _) _;have hxd:∀W u0 u1 u2 u3,Ext (·=N+1) W ((((W.setCell ⟨N+1,0,none⟩ u0).setCell ⟨N+1,1,none⟩ u1).setCell ⟨N+1,2,none⟩ u2).setCell ⟨N+1,3,none⟩ u3):=fun W u0 u1 u2 u3=>aa (aa (aa (aa (Ext.refl _ _) _) _) _) _;refine bodyPost_ret (cZ rfl _ _ N (N+1) 179 113 _ _ (0,0) (0,0) _ _ rfl ((hxd _ _ _ _ _).heap (bf HR05.out) (show¬N=N+1 by omega)) rfl (iX ((hxe _ _ _).heap HR15.out (show¬N+1=N by omega))) underlying179 (by kernel_rfl) underlying113 (by kernel_rfl)) rfl ?_;have hxall:Ext (fun q=>q=N∨q=N+1) w5 _:=((hxe w5 (.slice (some ⟨p.pA,0,none⟩) 1 p.pC) (.slice (some ⟨p.qA,0,none⟩) 1 p.qC)).mono (fun q h=> .inl h)).trans (hxd _ (.int .i64 0) (.int .i64 0) (.int .i64 0) (.int .i64 0)) (fun q h=> .inl (.inr h));have hN4:N+2≤W4.heap.size:=by rw[←HS2.out];exact HB24.out.size
 have keep:∀{e:TypeId}{size n:Nat}{v:Value}{xs:List Value},w5.ownsRow W4.heap.size e size v n xs→_:=fun{e size n v xs} h=>aT (ah (e:=e) (size:=size) (n:=n) (v:=v) (xs:=xs) h hxall (fun q hq e=>by have:=(ai h hq).1;omega)) (show w.heap.size≤W4.heap.size by omega);refine⟨shs,HQ.out,p,rfl,HA.out.1,HA.out.2.1,HA.out.2.2.1,HA.out.2.2.2.1,HA.out.2.2.2.2,⟨keep H6.out.fields,keep H6.out.strs,keep H6.out.stmts,fun s hs=>((H6.out.exprs s hs).ext hxall (fun q h1 _=>by omega)).mono (by omega),keep H6.out.fns⟩, ?_⟩;rw[hN];exact HB2.out.trans ((HB25.out.mono (by rw[HS2.out];omega)).trans (hxall.below (Nat.le_trans (by rw[HS2.out];omega) HB25.out.size) (fun q h=>by omega)))
structure jh (p:Pg)(L:Nat)(w:H5):Prop where
 lo:L≤w.heap.size
 pA:p.pA<L
 s:∀j u,p.stc[j]?=some u→w.cell? ⟨p.pA,j,none⟩=some u
 qA:p.qA<L
 f:∀j u,p.fnc[j]?=some u→w.cell? ⟨p.qA,j,none⟩=some u
 fd:aG Fd.cells 5 w L p.fA p.fs
 st:aG Sm.cells 9 w L p.bA p.ss
 ex:∀x∈p.ss,(x.es=[]∧x.E= .slice none 0 0)∨∃g cap,x.E= .slice (some ⟨g,0,none⟩) x.es.length cap∧g<L∧∀(k:Nat)(e:Ex),x.es[k]?=some e→∀(j:Nat)(u:Value),e.cells.toList[j]?=some u→w.cell? ⟨g,k*7+j,none⟩=some u
 lfs:p.fs.length≤1000000
 lss:p.ss.length≤1000000
 cb:p.ss.length≤p.bC
theorem jh.ext {p:Pg}{L:Nat}{w w':H5}{M:Nat→Prop}(h:jh p L w)(hx:Ext M w w')(hM:∀k,k<L→¬M k):jh p L w':=by
 have hc:∀b o,b<L→w'.cell? ⟨b,o,none⟩=w.cell? ⟨b,o,none⟩:=fun b o hb=>hx.cell (a:=⟨b,o,none⟩) (Hd hb h.lo) (hM b hb);refine⟨Nat.le_trans h.lo hx.size,h.pA,fun j u hu=>by rw[hc _ _ h.pA];exact h.s j u hu,h.qA,fun j u hu=>by rw[hc _ _ h.qA];exact h.f j u hu,fun hne=> ?_,fun hne=> ?_,fun x hxx=> ?_,h.lfs,h.lss,h.cb⟩
 ·obtain⟨b,off,h1,h2,h3⟩:=h.fd hne
  exact⟨b,off,h1,h2,fun i x hi k u hu=>by rw[hc _ _ h2];exact h3 i x hi k u hu⟩
 ·obtain⟨b,off,h1,h2,h3⟩:=h.st hne
  exact⟨b,off,h1,h2,fun i x hi k u hu=>by rw[hc _ _ h2];exact h3 i x hi k u hu⟩
 ·rcases h.ex x hxx with h1|⟨g,cap,h1,h2,h3⟩
  ·exact .inl h1
  ·exact .inr ⟨g,cap,h1,h2,fun k e he j u hu=>by rw[hc _ _ h2];exact h3 k e he j u hu⟩
theorem jh.grow {p:Pg}{L:Nat}{w w':H5}(h:jh p L w)(hb:H9 w.heap.size w w'):jh p L w':=h.ext (Ext.of_below_size (M:=fun _=>False) hb) (fun _ _ h=>h)
theorem eO {α:Type}{cells:α→Array Value}{m base n:Nat}(hm:∀x,(cells x).toList.length=m){w:H5}{e:TypeId}{ao:Option Addr}{c:Nat}{l:List α}(h:w.ownsRow base e m (.slice ao n c) n (l.flatMap fun x=>(cells x).toList))(hn:n=l.length):aG cells m w w.heap.size ao l:=by
 intro hne;obtain⟨q,hq⟩:∃q,n=q+1:=⟨n-1,by have:=List.length_pos_iff.2 hne;omega⟩
 subst hq;obtain⟨g,c',hv,_,hlt⟩:=fu h;simp only[Value.slice.injEq] at hv;obtain⟨rfl,_,rfl⟩:=hv;exact⟨g,0,rfl,hlt,fun i x hi k u hu=>by rw[Hf];exact uL (f:=fun x=>(cells x).toList) hm h hi hu⟩
theorem wG {w:H5}{base n m c:Nat}{e:TypeId}{ao:Option Addr}{xs:List Value}(h:w.ownsRow base e m (.slice ao n c) n xs):n≤c:=by
 rcases h.2 with⟨h1,h2⟩|⟨g,cap,cur,h1,_,_,h4,_⟩
 ·omega
 ·simp only[Value.slice.injEq] at h1
  omega
theorem BJ {p:Pg}{B:Nat}{w:H5}(h:p.inn B w)(l1:p.fs.length≤1000000)(l2:p.ss.length≤1000000):jh p w.heap.size w:=by
 obtain⟨g1,c1,e1,_,hl1⟩:=fu h.strs;obtain⟨g2,c2,e2,_,hl2⟩:=fu h.fns;simp only[Value.slice.injEq,Option.some.injEq,Addr.mk.injEq] at e1 e2;obtain⟨⟨rfl,_⟩,_,rfl⟩:=e1;obtain⟨⟨rfl,_⟩,_,rfl⟩:=e2;refine⟨He _,hl1,fun j u hu=> ?_,hl2,fun j u hu=> ?_,eO (cells:=Fd.cells) (m:=5) (fun _=>rfl) h.fields rfl,eO (cells:=Sm.cells) (m:=9) (fun _=>rfl) h.stmts rfl,fun x hx=> ?_,l1,l2,wG h.stmts⟩
 ·have:=h.strs.cells (g:=p.pA) rfl j u hu
  rwa [Addr.add_lit,Hf] at this
 ·have:=h.fns.cells (g:=p.qA) rfl j u hu
  rwa [Addr.add_lit,Hf] at this
 ·rcases h.exprs x hx with h1|⟨g,cap,h1,h2,h3⟩
  ·exact .inl h1
  ·refine .inr ⟨g,cap,h1,ae h3,fun k e he j u hu=> ?_⟩
   rw[cell_of_row _ _ _ _ _ _ h3];have:=wB (f:=Gy) (m:=7) (fun _=>rfl) x.es k j e u he hu;simpa using this
structure Ck (c:Nat)(p:Pg)(L:Nat)(f0 f1 f2 f3 f4 f5 f6:Value)(sA:Option Addr)(sC:Nat)(S:List Fd)(w:H5):Prop where
 row:w.heap[c]?=some (.cells #[.slice (some ⟨p.pA,0,none⟩) 1 p.pC,.slice (some ⟨p.qA,0,none⟩) 1 p.qC,f0,f1,f2,f3,f4,f5,f6,.slice sA S.length sC,.int .i64 0,.int .i64 0,.int .i64 0,.int .i64 0,.int .i64 0] 275 (0,0))
 pg:jh p L w
 hc:L≤c
 seen:aG Fd.cells 5 w w.heap.size sA S
 ls:S.length≤1000000
 nc:∀a,S≠[]→sA=some a→a.block≠c
section
variable {c:Nat}{p:Pg}{L:Nat}{f0 f1 f2 f3 f4 f5 f6:Value}{sA:Option Addr}{sC:Nat}{S:List Fd}{w w':H5}
theorem Ck.grow (h:Ck c p L f0 f1 f2 f3 f4 f5 f6 sA sC S w)(hb:H9 w.heap.size w w'):Ck c p L f0 f1 f2 f3 f4 f5 f6 sA sC S w':=
 ⟨(hb.block c (ae h.row)).trans h.row,h.pg.grow hb,h.hc,aG.grow h.seen hb,h.ls,h.nc⟩
end
theorem dz {c:Nat}{p:Pg}{L:Nat}{f0 f1 f2 f3 f4 f5 f6:Value}{sA:Option Addr}{sC:Nat}{S:List Fd}(w:H5)(h:Ck c p L f0 f1 f2 f3 f4 f5 f6 sA sC S w):
  zS 178 #[.pointer (some ⟨c,0,none⟩)] w (.bool false):=by
 have c1:=(rowAt h.row 11 rfl).1;have hr:=ae h.row;clear h;go_enter func178,ntmps178;go_wp2;go_ret;exact⟨rfl,rfl⟩
theorem bQ {c:Nat}{p:Pg}{L:Nat}{f0 f1 f2 f3 f4 f5 f6:Value}{sA:Option Addr}{sC:Nat}{S:List Fd}(f a b:Int)(w:H5)(h:Ck c p L f0 f1 f2 f3 f4 f5 f6 sA sC S w):
  zP 176 #[.pointer (some ⟨c,0,none⟩),.bool true,.int .i64 f,.agg #[.int .i64 a,.int .i64 b]] w (.bool true):=by
 obtain⟨W1,hW1⟩:=zE (w.alloc (.cells #[.int .i64 a,.int .i64 b] 40));have hb1:=gK hW1;have HBD:=zH (dz W1 (h.grow hb1));have HW1:=zH hW1;have HB1:=zH hb1;clear h hW1 hb1;go_enter func176,ntmps176
 go_wp2_with (go_at_call 178;(try rw[HW1.out]);refine HBD.out.mono ?_;rintro e W1 ⟨rfl,rfl⟩)
 go_ret;exact⟨rfl,HB1.out⟩
def mZ (p:Pg)(nm:ByteArray):Int:=if p.snm==nm then 0 else-1
def Dy (p:Pg)(nm:ByteArray):Int:=if p.nm==nm then 0 else-1
theorem fU {p:Pg}{L:Nat}(nm:ByteArray)(w:H5)(h:jh p L w):
  zP 212 #[.agg p.cells,.string nm] w (.int .i64 (mZ p nm)):=by
 obtain⟨N,hN⟩:=zE w.heap.size;unfold Pg.cells;obtain⟨W1,hW1⟩:=zE (w.alloc (.cells #[.slice (some ⟨p.pA,0,none⟩) 1 p.pC,.slice (some ⟨p.qA,0,none⟩) 1 p.qC] 179));have hb1:=gZ hW1 hN;have hr1:W1.heap[N]?=some (.cells #[.slice (some ⟨p.pA,0,none⟩) 1 p.pC,.slice (some ⟨p.qA,0,none⟩) 1 p.qC] 179 (0,0)):=by rw[←hW1,←hN];exact alloc_at _ _
 obtain⟨⟨c0,c1⟩,_,hlt⟩:=bZ hr1;have h1:=h.grow (by rw[hN];exact hb1);have k0:=h1.s 0 _ rfl;obtain⟨b,hb⟩:=zE (p.snm==nm);have hbl:(p.snm.toList==nm.toList)=b:=by rw[←beq_toListBytes];exact hb
 have HE:Ia (mZ p nm=if b=true then 0 else-1):=by unfold Ia mZ;rw[hb]
 rw[HE.out];have HW1:=zH hW1;have HB1:=zH hb1;clear h hW1 hb1 hr1 h1 hb HE;go_enter func212,ntmps212;go_wp2;rw[HW1.out];cases b with
 |true=>
  go_loop [5] (fun k=>k= .int .i64 0) (fun _=>0)
  case atStart=>rfl
  case round=>
   obtain rfl:=hrel;go_wp2;go_ret;exact⟨rfl,HB1.out⟩
 |false=>
  go_loop [5] (fun k=>k= .int .i64 0∨k= .int .i64 1) (fun k=>1-(intOf k).toNat)
  case atStart=>exact .inl rfl
  case round=>
   rcases hrel with rfl|rfl
   ·go_wp2
    go_round
    case rel=>exact .inr rfl
    case measure=>simp[intOf]
   ·go_wp2
    go_ret;exact⟨rfl,HB1.out⟩
theorem ng {p:Pg}{L:Nat}(nm:ByteArray)(w:H5)(h:jh p L w):
  zP 177 #[.agg p.cells,.string nm] w (.int .i64 (Dy p nm)):=by
 obtain⟨N,hN⟩:=zE w.heap.size;unfold Pg.cells;obtain⟨W1,hW1⟩:=zE (w.alloc (.cells #[.slice (some ⟨p.pA,0,none⟩) 1 p.pC,.slice (some ⟨p.qA,0,none⟩) 1 p.qC] 179));have hb1:=gZ hW1 hN;have hr1:W1.heap[N]?=some (.cells #[.slice (some ⟨p.pA,0,none⟩) 1 p.pC,.slice (some ⟨p.qA,0,none⟩) 1 p.qC] 179 (0,0)):=by rw[←hW1,←hN];exact alloc_at _ _
 obtain⟨⟨c0,c1⟩,_,hlt⟩:=bZ hr1;have h1:=h.grow (by rw[hN];exact hb1);have k0:=h1.f 0 _ rfl;obtain⟨b,hb⟩:=zE (p.nm==nm);have hbl:(p.nm.toList==nm.toList)=b:=by rw[←beq_toListBytes];exact hb
 have HE:Ia (Dy p nm=if b=true then 0 else-1):=by unfold Ia Dy;rw[hb]
 rw[HE.out];have HW1:=zH hW1;have HB1:=zH hb1;clear h hW1 hb1 hr1 h1 hb HE;go_enter func177,ntmps177;go_wp2;rw[HW1.out];cases b with
 |true=>
  go_loop [5] (fun k=>k= .int .i64 0) (fun _=>0)
  case atStart=>rfl
  case round=>
   obtain rfl:=hrel;go_wp2;go_ret;exact⟨rfl,HB1.out⟩
 |false=>
  go_loop [5] (fun k=>k= .int .i64 0∨k= .int .i64 1) (fun k=>1-(intOf k).toNat)
  case atStart=>exact .inl rfl
  case round=>
   rcases hrel with rfl|rfl
   ·go_wp2
    go_round
    case rel=>exact .inr rfl
    case measure=>simp[intOf]
   ·go_wp2
    go_ret;exact⟨rfl,HB1.out⟩
theorem Dz (a b:Bool)(s t:ByteArray)(w:H5):(Op.equalIn 10000 32 (.agg #[.bool a,.string s]) (.agg #[.bool b,.string t])).run prog w= .ok (((a,s):Ty)==(b,t)) w:=by
 have hS:prog.underlying 32=some (.struct (prog.fieldsOf 32)):=by kernel_rfl
 have hp:prog.stoodInHeld 32=false:=by kernel_rfl
 rw[show(10000:Nat)=9999+1 from rfl,run_equalIn_agg w 9999 32 _ _ hS hp];simp only[Program.fieldsOf,underlying32];have e:(((a,s):Ty)==(b,t))=(a==b&&s.toList==t.toList):=by rw[←beq_toListBytes];rfl
 rw[e];go_simp
 by_cases h1:a=b<;>by_cases h2:s.toList=t.toList<;>simp[h1,h2]
theorem o7 (a:Bool)(s:ByteArray)(w:H5):zP 266 #[.agg #[.bool a,.string s],.agg #[.bool a,.string s]] w (.bool true):=by
 have heq:∀w,(Op.equalIn 10000 32 (.agg #[.bool a,.string s]) (.agg #[.bool a,.string s])).run prog w= .ok true w:=fun w=>by rw[Dz];simp
 have hgd:prog.eqGuardType prog.depth 32=false:=by kernel_rfl
 have hb:H9 w.heap.size w ((w.alloc (.cells #[.bool a,.string s] 32)).alloc (.cells #[.bool a,.string s] 32)):=((Hw _ _).alloc (He _) _).alloc (by simp) _;have HB:=zH hb;clear hb;go_enter func266,ntmps266;go_wp2;go_ret;exact⟨rfl,HB.out⟩
theorem o8 {c:Nat}{p:Pg}{L:Nat}{f0 f1 f2 f3 f4 f5 f6:Value}{sA:Option Addr}{sC:Nat}{S:List Fd}(nm:ByteArray)(w:H5)(h:Ck c p L f0 f1 f2 f3 f4 f5 f6 sA sC S w)(hk:p.snm=nm):
  zP 213 #[.pointer (some ⟨c,0,none⟩),.agg #[.bool true,.string nm]] w (.bool true):=by
 obtain⟨N,hN⟩:=zE w.heap.size;obtain⟨W1,hW1⟩:=zE (w.alloc (.cells #[.bool true,.string nm] 32));have hb1:=gZ hW1 hN;have hr1:W1.heap[N]?=some (.cells #[.bool true,.string nm] 32 (0,0)):=by rw[←hW1,←hN];exact alloc_at _ _
 have hN1:=ae hr1;have h1:=h.grow (by rw[hN];exact hb1);have t0:∀q:BW W1,q.w.cell? ⟨N,0,none⟩=some (.bool true):=fun q=>(rowAt ((q.h.block N hN1).trans hr1) 0 rfl).1;have t1:∀q:BW W1,q.w.cell? ⟨N,1,none⟩=some (.string nm):=fun q=>(rowAt ((q.h.block N hN1).trans hr1) 1 rfl).1;have c0:∀q:BW W1,q.w.cell? ⟨c,0,none⟩=some (.slice (some ⟨p.pA,0,none⟩) 1 p.pC):=fun q=>(rowAt (h1.grow q.h).row 0 rfl).1;have c1:∀q:BW W1,q.w.cell? ⟨c,1,none⟩=some (.slice (some ⟨p.qA,0,none⟩) 1 p.qC):=fun q=>(rowAt (h1.grow q.h).row 1 rfl).1;have hSX:∀q:BW W1,zP 212 #[.agg p.cells,.string nm] q.w (.int .i64 0):=fun q=>by
  have:=fU nm q.w (h1.grow q.h).pg;unfold mZ at this;rw[hk,beq_self_eq_true] at this;exact this
 unfold Pg.cells at hSX;have HSX:=zH hSX;have HW1:=zH hW1;have HB1:=zH hb1;clear h hk hW1 hb1 hr1 h1 hSX;go_enter func213,ntmps213
 go_upto_region 1 with(fail)
 rw[HW1.out];refine zQ ?_
 repeat (go_big_quiet_step ((go_at_call 212;exact bg (HSX.out _))))
 refine wpQuiet_nil ?_;rintro _ ⟨q,rfl⟩;go_wp2;go_ret;exact⟨rfl,by(try rw[hN]);exact HB1.out.trans (q.h.mono (Nat.le_of_lt hN1))⟩
theorem yn {c:Nat}{p:Pg}{L:Nat}{f0 f1 f2 f3 f4 f5 f6:Value}{sA:Option Addr}{sC:Nat}{S:List Fd}(nm:ByteArray)(w:H5)(_:Ck c p L f0 f1 f2 f3 f4 f5 f6 sA sC S w):
  zP 213 #[.pointer (some ⟨c,0,none⟩),.agg #[.bool false,.string nm]] w (.bool true):=by
 obtain⟨N,hN⟩:=zE w.heap.size;obtain⟨W1,hW1⟩:=zE (w.alloc (.cells #[.bool false,.string nm] 32));have hb1:=gZ hW1 hN;have hr1:W1.heap[N]?=some (.cells #[.bool false,.string nm] 32 (0,0)):=by rw[←hW1,←hN];exact alloc_at _ _
 have hN1:=ae hr1;have t0:∀q:BW W1,q.w.cell? ⟨N,0,none⟩=some (.bool false):=fun q=>(rowAt ((q.h.block N hN1).trans hr1) 0 rfl).1;have HW1:=zH hW1;have HB1:=zH hb1;clear hW1 hb1 hr1;go_enter func213,ntmps213
 go_upto_region 1 with(fail)
 rw[HW1.out];refine zQ ?_
 repeat (go_big_quiet_step (fail))
 refine wpQuiet_nil ?_;rintro _ ⟨q,rfl⟩;go_wp2;go_ret;exact⟨rfl,by(try rw[hN]);exact HB1.out.trans (q.h.mono (Nat.le_of_lt hN1))⟩
def jJ (S:List Fd)(nm:ByteArray):Option Fd:=S.find? fun f=>f.nm==nm
def DC:Option Fd→Ty
 |some f=>f.ty
 |none=>bF
def oz (S:List Fd)(nm:ByteArray):Ty:=DC (jJ S nm)
theorem jW {c:Nat}{p:Pg}{L:Nat}{f0 f1 f2 f3 f4 f5 f6:Value}{sA:Option Addr}{sC:Nat}{S:List Fd}(nm:ByteArray)(w:H5)(h:Ck c p L f0 f1 f2 f3 f4 f5 f6 sA sC S w):
  zP 214 #[.pointer (some ⟨c,0,none⟩),.string nm] w (.tuple #[.agg #[.bool (oz S nm).1,.string (oz S nm).2],.bool (jJ S nm).isSome]):=by
 obtain⟨N,hN⟩:=zE w.heap.size;obtain⟨W1,hW1⟩:=zE (w.alloc (.cells #[.bool false,.string ⟨#[]⟩] 32));have hb1:=gZ hW1 hN;have hr1:W1.heap[N]?=some (.cells #[.bool false,.string ⟨#[]⟩] 32 (0,0)):=by rw[←hW1,←hN];exact alloc_at _ _
 have h1:=h.grow (by rw[hN];exact hb1);have c9:W1.cell? ⟨c,9,none⟩=some (.slice sA S.length sC):=(rowAt h1.row 9 rfl).1;have hcl:=ae h1.row;obtain⟨⟨t0,t1⟩,⟨q0,q1⟩,hN1⟩:=bZ hr1;have HSEEN:=zH h1.seen;have hls:=h1.ls;obtain⟨R,hR⟩:=zE (jJ S nm);obtain⟨Y,hY⟩:=zE (oz S nm);have hYR:DC R=Y:=by rw[←hY,←hR];rfl
 rw[hR,hY];have HR:=zH hR;have HYR:=zH hYR;have HW1:=zH hW1;have HB1:=zH hb1;have HR1:=zH hr1;clear h hW1 hb1 hr1 h1 hR hY hYR;go_enter func214,ntmps214;go_wp2;rw[HW1.out]
 go_loop [6] (fun k=>∃j:Nat,k= .int .i64 (j:Int)∧j≤S.length∧jJ (S.drop j) nm=R) (fun k=>S.length-(intOf k).toNat)
 case atStart=>exact⟨0,rfl,Hg _,HR.out⟩
 case round=>
  obtain⟨j,rfl,hj,hz⟩:=hrel
  by_cases hjl:j<S.length
  ·have hjI:(j:Int)<(S.length:Int):=by omega
   obtain⟨x,hx⟩:∃x,S[j]?=some x:=⟨_,GN hjl⟩
   have hdrop:S.drop j=x::S.drop (j+1):=by
    rw[List.drop_eq_getElem_cons hjl];have:S[j]=x:=by rw[GN hjl] at hx;exact Hl hx
    rw[this]
   rw[hdrop] at hz;unfold jJ at hz;obtain⟨b,off,hA,hbl,hc⟩:=HSEEN.out (by intro e;rw[e] at hjl;simp at hjl);have k0:=hc j x hx 0 _ rfl;have k1:=hc j x hx 1 _ rfl;have k2:=hc j x hx 2 _ rfl;rw[Nat.add_zero] at k0;rw[hA] at c9;obtain⟨d,hd⟩:=zE (x.nm==nm);have hdl:(x.nm.toList==nm.toList)=d:=by rw[←beq_toListBytes];exact hd
   cases d with
   |true=>
    rw[List.find?_cons_of_pos (by exact hd)] at hz;subst hz;have HY2:Ia (x.ty=Y):=HYR.out;clear HR HYR hx hdrop hc hA hd;go_wp2;(try simp only[Exit.inBlock,Exit.then]);refine bodyPost_ret (aK rfl _ _ N 32 _ (0,0) _ rfl (bf HR1.out) underlying32 (by kernel_rfl)) rfl ?_;rw[←HY2.out];(try rw[hN]);exact⟨rfl,(HB1.out.setCell (by show N≤N;omega) _).setCell (by show N≤N;omega) _⟩
   |false=>
    rw[List.find?_cons_of_neg (by rw[hd];simp)] at hz;have HZ:Ia (∃j':Nat,Value.int .i64 ((j:Int)+1)= .int .i64 (j':Int)∧j'≤S.length∧jJ (S.drop j') nm=R):=⟨j+1,by simp,hjl,hz⟩
    clear HR HYR hx hdrop hc hA hd hz;go_wp2
    go_round
    case rel=>exact HZ.out
    case measure=>simp[intOf];omega
  ·have hje:j=S.length:=by omega
   subst hje;rw[List.drop_length] at hz;unfold jJ at hz;have hz':(none:Option Fd)=R:=hz;subst hz';have HY2:Ia (bF=Y):=HYR.out;clear HR HYR hz;go_wp2;(try simp only[Exit.inBlock,Exit.then]);refine bodyPost_ret (aK rfl _ _ N 32 _ (0,0) _ rfl (bf HR1.out) underlying32 (by kernel_rfl)) rfl ?_;rw[←HY2.out];(try rw[hN]);exact⟨rfl,(HB1.out.setCell (by show N≤N;omega) _).setCell (by show N≤N;omega) _⟩
theorem Aq {c:Nat}{p:Pg}{L:Nat}{f0 f1 f2 f3 f4 f5 f6:Value}{sA:Option Addr}{sC:Nat}{S:List Fd}(n:Int)(nm:ByteArray)(ln cl:Int)(w:H5)(h:Ck c p L f0 f1 f2 f3 f4 f5 f6 sA sC S w):
  zP 265 #[.pointer (some ⟨c,0,none⟩),.agg #[.int .i64 1,.int .i64 n,.string nm,.string ⟨#[]⟩,.slice none 0 0,.int .i64 ln,.int .i64 cl]] w (.agg #[.bool false,.string ⟨#[]⟩]):=by
 obtain⟨N,hN⟩:=zE w.heap.size;obtain⟨W2,hW2⟩:=zE ((w.alloc (.cells #[.int .i64 1,.int .i64 n,.string nm,.string ⟨#[]⟩,.slice none 0 0,.int .i64 ln,.int .i64 cl] 313)).alloc (.cells #[.bool false,.string ⟨#[]⟩] 32));obtain⟨W3,hW3⟩:=zE (W2.alloc (.cells #[.bool false,.string ⟨#[]⟩] 32));have hb2:=uG hW2 hN;have hs2:W2.heap.size=N+2:=by rw[←hW2];simp[hN]
 have hb3:H9 N w W3:=by rw[←hW3];exact hb2.alloc (by omega) _
 have hs3:W3.heap.size=N+3:=by rw[←hW3];simp[hs2]
 have hr0:W3.heap[N]?=some (.cells #[.int .i64 1,.int .i64 n,.string nm,.string ⟨#[]⟩,.slice none 0 0,.int .i64 ln,.int .i64 cl] 313 (0,0)):=by
  rw[←hW3];refine(Hy _ _ N (by omega)).trans ?_;rw[←hW2,←hN];exact heap_alloc2_old _ _ _
 have hr1:W3.heap[N+1]?=some (.cells #[.bool false,.string ⟨#[]⟩] 32 (0,0)):=by
  rw[←hW3];refine(Hy _ _ (N+1) (by omega)).trans ?_;rw[←hW2,←hN];exact heap_alloc2_new _ _ _
 have hr2:W3.heap[N+2]?=some (.cells #[.bool false,.string ⟨#[]⟩] 32 (0,0)):=by rw[←hW3,←hs2];exact alloc_at _ _
 have h2:=h.grow (by rw[hN];exact hb2);have h3:=h.grow (by rw[hN];exact hb3);have HBD:=zH (dz W2 h2);have hst:∀(c:Array Value),c.size=2→(storeCells ⟨W2.heap.size,0,none⟩ [.bool false,.string ⟨#[]⟩] 0).run prog (W2.alloc (.cells c 32))= .ok () (W2.alloc (.cells #[.bool false,.string ⟨#[]⟩] 32)):=fun c hc=>
  run_storeCells_new (P:=prog) W2 32 c #[.bool false,.string ⟨#[]⟩] (by show _=some 2;kernel_rfl) hc (by simp[Value.oneCell'])
 have HST:=zH hst;have HW2:=zH hW2;have HW3:=zH hW3;have HB3:=zH hb3;have HS3:=zH hs3;have HR0:=zH hr0;have HR1:=zH hr1;have HR2:=zH hr2;clear h hW2 hW3 hb2 hb3 hs3 hr0 hr1 hr2 h2 h3 hst;go_enter func265,ntmps265
 go_upto_region 3 with(go_at_call 178;rw[HW2.out];refine HBD.out.mono ?_;rintro e W2 ⟨rfl,rfl⟩)
 have hst2:=HST.out
 go_upto_region 4 with(fail)
 rw[HW3.out];(try simp only[hs2]);clear hst2;obtain⟨⟨a0,a1,a2,a3,a4,a5,a6⟩,_,hN3⟩:=ed HR0.out;obtain⟨⟨b0,b1⟩,⟨d0,d1⟩,hN13⟩:=bZ HR1.out;obtain⟨⟨e0,e1⟩,_,hN23⟩:=bZ HR2.out;go_wp2;(try simp only[Exit.inBlock,Exit.then]);refine bodyPost_ret (results_cell_row (P:=prog) rfl _ _ (N+1) 32 _ (0,0) _ rfl (bf HR1.out) underlying32 rfl (by kernel_rfl)) rfl ?_;(try rw[hN]);exact⟨rfl,(HB3.out.setCell (by show N≤N+1;omega) _).setCell (by show N≤N+1;omega) _⟩
theorem Ar {c:Nat}{p:Pg}{L:Nat}{f0 f1 f2 f3 f4 f5 f6:Value}{sA:Option Addr}{sC:Nat}{S:List Fd}(n:Int)(nm:ByteArray)(ln cl:Int)(w:H5)(h:Ck c p L f0 f1 f2 f3 f4 f5 f6 sA sC S w){fd:Fd}(hl:jJ S nm=some fd):
  zP 265 #[.pointer (some ⟨c,0,none⟩),.agg #[.int .i64 2,.int .i64 n,.string nm,.string ⟨#[]⟩,.slice none 0 0,.int .i64 ln,.int .i64 cl]] w (.agg #[.bool fd.ty.1,.string fd.ty.2]):=by
 obtain⟨N,hN⟩:=zE w.heap.size;obtain⟨W2,hW2⟩:=zE ((w.alloc (.cells #[.int .i64 2,.int .i64 n,.string nm,.string ⟨#[]⟩,.slice none 0 0,.int .i64 ln,.int .i64 cl] 313)).alloc (.cells #[.bool false,.string ⟨#[]⟩] 32));obtain⟨W3,hW3⟩:=zE (W2.alloc (.cells #[.bool false,.string ⟨#[]⟩] 32));have hb2:=uG hW2 hN;have hs2:W2.heap.size=N+2:=by rw[←hW2];simp[hN]
 have hb3:H9 N w W3:=by rw[←hW3];exact hb2.alloc (by omega) _
 have hs3:W3.heap.size=N+3:=by rw[←hW3];simp[hs2]
 have hr0:W3.heap[N]?=some (.cells #[.int .i64 2,.int .i64 n,.string nm,.string ⟨#[]⟩,.slice none 0 0,.int .i64 ln,.int .i64 cl] 313 (0,0)):=by
  rw[←hW3];refine(Hy _ _ N (by omega)).trans ?_;rw[←hW2,←hN];exact heap_alloc2_old _ _ _
 have hr1:W3.heap[N+1]?=some (.cells #[.bool false,.string ⟨#[]⟩] 32 (0,0)):=by
  rw[←hW3];refine(Hy _ _ (N+1) (by omega)).trans ?_;rw[←hW2,←hN];exact heap_alloc2_new _ _ _
 have hr2:W3.heap[N+2]?=some (.cells #[.bool false,.string ⟨#[]⟩] 32 (0,0)):=by rw[←hW3,←hs2];exact alloc_at _ _
 have h2:=h.grow (by rw[hN];exact hb2);have h3:=h.grow (by rw[hN];exact hb3);have HBD:=zH (dz W2 h2);have hst:∀(c:Array Value),c.size=2→(storeCells ⟨W2.heap.size,0,none⟩ [.bool false,.string ⟨#[]⟩] 0).run prog (W2.alloc (.cells c 32))= .ok () (W2.alloc (.cells #[.bool false,.string ⟨#[]⟩] 32)):=fun c hc=>
  run_storeCells_new (P:=prog) W2 32 c #[.bool false,.string ⟨#[]⟩] (by show _=some 2;kernel_rfl) hc (by simp[Value.oneCell'])
 have HST:=zH hst;have HW2:=zH hW2;have HW3:=zH hW3;have HB3:=zH hb3;have HS3:=zH hs3;have HR0:=zH hr0;have HR1:=zH hr1;have HR2:=zH hr2;have HAK:Ia (∀W,H9 W3.heap.size W3 W→zP 176 #[.pointer (some ⟨c,0,none⟩),.bool true,.int .i64 5,.agg #[.int .i64 ln,.int .i64 cl]] W (.bool true)):=fun W hW=>bQ 5 ln cl W (h3.grow hW);have HLK:Ia (zP 214 #[.pointer (some ⟨c,0,none⟩),.string nm] W3 (.tuple #[.agg #[.bool fd.ty.1,.string fd.ty.2],.bool true])):=by
  have:=jW nm W3 h3;unfold oz at this;rw[hl] at this;exact this
 have hstT:∀(w:H5)(c:Array Value),c.size=2→(storeCells ⟨w.heap.size,0,none⟩ [.bool fd.ty.1,.string fd.ty.2] 0).run prog (w.alloc (.cells c 32))= .ok () (w.alloc (.cells #[.bool fd.ty.1,.string fd.ty.2] 32)):=fun w c hc=>
  run_storeCells_new (P:=prog) w 32 c #[.bool fd.ty.1,.string fd.ty.2] (by show _=some 2;kernel_rfl) hc (by simp[Value.oneCell'])
 have HSTT:=zH hstT;clear h hW2 hW3 hb2 hb3 hs3 hr0 hr1 hr2 h2 h3 hst hl hstT;go_enter func265,ntmps265
 go_upto_region 3 with(go_at_call 178;rw[HW2.out];refine HBD.out.mono ?_;rintro e W2 ⟨rfl,rfl⟩)
 have hst2:=HST.out
 go_upto_region 4 with(fail)
 rw[HW3.out];(try simp only[hs2]);clear hst2;obtain⟨⟨a0,a1,a2,a3,a4,a5,a6⟩,_,hN3⟩:=ed HR0.out;obtain⟨⟨b0,b1⟩,⟨d0,d1⟩,hN13⟩:=bZ HR1.out;obtain⟨⟨e0,e1⟩,_,hN23⟩:=bZ HR2.out
 go_upto_region 7 with(go_at_call 214;refine HLK.out.mono ?_;rintro e w4 ⟨rfl,hb4⟩;have HB4:=zH hb4;have hst4:=HSTT.out w4;clear hb4)
 clear hst4;obtain⟨G,hG⟩:=zE w4.heap.size;obtain⟨W5,hW5⟩:=zE (w4.alloc (.cells #[.bool fd.ty.1,.string fd.ty.2] 32));rw[hG,hW5];have hb5:=zD hW5 HB4;have hrG:W5.heap[G]?=some (.cells #[.bool fd.ty.1,.string fd.ty.2] 32 (0,0)):=by rw[←hW5,←hG];exact alloc_at _ _
 have hr05:=(hb5.block N hN3).trans HR0.out;have HB5:=zH hb5;have HRG:=zH hrG;have HAK5:=zH (HAK.out W5 hb5);obtain⟨⟨x0,x1,x2,x3,x4,x5,x6⟩,_,_⟩:=ed hr05;have hGl:=ae hrG;clear hG hW5 hb5 hrG hr05
 go_upto_region 8 with(go_at_call 176;refine HAK5.out.mono ?_;rintro e w6 ⟨rfl,hb6⟩;have HB6:=zH (HB5.out.trans (hb6.mono HB5.out.size));have HBX:=zH hb6;clear hb6)
 have hrG6:=(HBX.out.block G hGl).trans HRG.out;have hr16:=(HB6.out.block (N+1) hN13).trans HR1.out;have HR16:=zH hr16;obtain⟨⟨y0,y1⟩,_,_⟩:=bZ hrG6;obtain⟨⟨b0,b1⟩,⟨d0,d1⟩,hN16⟩:=bZ hr16;have HBF:Ia (H9 N w w6):=HB3.out.trans (HB6.out.mono (by rw[HS3.out];omega));clear hrG6 hr16;go_wp2;(try simp only[Exit.inBlock,Exit.then]);refine bodyPost_ret (results_cell_row (P:=prog) rfl _ _ (N+1) 32 _ (0,0) _ rfl (bf HR16.out) underlying32 rfl (by kernel_rfl)) rfl ?_;(try rw[hN]);exact⟨rfl,(HBF.out.setCell (by show N≤N+1;omega) _).setCell (by show N≤N+1;omega) _⟩
theorem Au {c:Nat}{p:Pg}{L:Nat}{f0 f1 f2 f3 f4 f5 f6:Value}{sA:Option Addr}{sC:Nat}{S:List Fd}(n:Int)(nm:ByteArray)(ln cl:Int)(w:H5)(h:Ck c p L f0 f1 f2 f3 f4 f5 f6 sA sC S w)(hk:p.snm=nm):
  zP 265 #[.pointer (some ⟨c,0,none⟩),.agg #[.int .i64 7,.int .i64 n,.string nm,.string ⟨#[]⟩,.slice none 0 0,.int .i64 ln,.int .i64 cl]] w (.agg #[.bool true,.string nm]):=by
 obtain⟨N,hN⟩:=zE w.heap.size;obtain⟨W2,hW2⟩:=zE ((w.alloc (.cells #[.int .i64 7,.int .i64 n,.string nm,.string ⟨#[]⟩,.slice none 0 0,.int .i64 ln,.int .i64 cl] 313)).alloc (.cells #[.bool false,.string ⟨#[]⟩] 32));obtain⟨W3,hW3⟩:=zE (W2.alloc (.cells #[.bool false,.string ⟨#[]⟩] 32));have hb2:=uG hW2 hN;have hs2:W2.heap.size=N+2:=by rw[←hW2];simp[hN]
 have hb3:H9 N w W3:=by rw[←hW3];exact hb2.alloc (by omega) _
 have hs3:W3.heap.size=N+3:=by rw[←hW3];simp[hs2]
 have hr0:W3.heap[N]?=some (.cells #[.int .i64 7,.int .i64 n,.string nm,.string ⟨#[]⟩,.slice none 0 0,.int .i64 ln,.int .i64 cl] 313 (0,0)):=by
  rw[←hW3];refine(Hy _ _ N (by omega)).trans ?_;rw[←hW2,←hN];exact heap_alloc2_old _ _ _
 have hr1:W3.heap[N+1]?=some (.cells #[.bool false,.string ⟨#[]⟩] 32 (0,0)):=by
  rw[←hW3];refine(Hy _ _ (N+1) (by omega)).trans ?_;rw[←hW2,←hN];exact heap_alloc2_new _ _ _
 have hr2:W3.heap[N+2]?=some (.cells #[.bool false,.string ⟨#[]⟩] 32 (0,0)):=by rw[←hW3,←hs2];exact alloc_at _ _
 have h2:=h.grow (by rw[hN];exact hb2);have h3:=h.grow (by rw[hN];exact hb3);have HBD:=zH (dz W2 h2);have hst:∀(c:Array Value),c.size=2→(storeCells ⟨W2.heap.size,0,none⟩ [.bool false,.string ⟨#[]⟩] 0).run prog (W2.alloc (.cells c 32))= .ok () (W2.alloc (.cells #[.bool false,.string ⟨#[]⟩] 32)):=fun c hc=>
  run_storeCells_new (P:=prog) W2 32 c #[.bool false,.string ⟨#[]⟩] (by show _=some 2;kernel_rfl) hc (by simp[Value.oneCell'])
 have HST:=zH hst;have HW2:=zH hW2;have HW3:=zH hW3;have HB3:=zH hb3;have HS3:=zH hs3;have HR0:=zH hr0;have HR1:=zH hr1;have HR2:=zH hr2;have HAK:Ia (∀q:BW W3,zP 176 #[.pointer (some ⟨c,0,none⟩),.bool true,.int .i64 5,.agg #[.int .i64 ln,.int .i64 cl]] q.w (.bool true)):=fun q=>bQ 5 ln cl q.w (h3.grow q.h);have hSX:∀q:BW W3,zP 212 #[.agg p.cells,.string nm] q.w (.int .i64 0):=fun q=>by
  have:=fU nm q.w (h3.grow q.h).pg;unfold mZ at this;rw[hk,beq_self_eq_true] at this;exact this
 unfold Pg.cells at hSX;have HSX:=zH hSX;have c0:∀q:BW W3,q.w.cell? ⟨c,0,none⟩=some (.slice (some ⟨p.pA,0,none⟩) 1 p.pC):=fun q=>(rowAt (h3.grow q.h).row 0 rfl).1;have c1:∀q:BW W3,q.w.cell? ⟨c,1,none⟩=some (.slice (some ⟨p.qA,0,none⟩) 1 p.qC):=fun q=>(rowAt (h3.grow q.h).row 1 rfl).1;have C0:=zH c0;have C1:=zH c1;clear h hW2 hW3 hb2 hb3 hs3 hr0 hr1 hr2 h2 h3 hst hk hSX c0 c1;go_enter func265,ntmps265
 go_upto_region 3 with(go_at_call 178;rw[HW2.out];refine HBD.out.mono ?_;rintro e W2 ⟨rfl,rfl⟩)
 have hst2:=HST.out
 go_upto_region 4 with(fail)
 rw[HW3.out];(try simp only[hs2]);clear hst2;obtain⟨⟨a0,a1,a2,a3,a4,a5,a6⟩,_,hN3⟩:=ed HR0.out;obtain⟨⟨b0,b1⟩,⟨d0,d1⟩,hN13⟩:=bZ HR1.out;obtain⟨⟨e0,e1⟩,_,hN23⟩:=bZ HR2.out
 go_upto_region 26 with(fail)
 clear a0 a1 a2 a3 a4 a5 a6 b0 b1 d0 d1 e0 e1;have c0:=C0.out;have c1:=C1.out;have x2:∀q:BW W3,q.w.cell? ⟨N,2,none⟩=some (.string nm):=fun q=>(rowAt ((q.h.block N hN3).trans HR0.out) 2 rfl).1;have x5:∀q:BW W3,q.w.cell? ⟨N,5,none⟩=some (.int .i64 ln):=fun q=>(rowAt ((q.h.block N hN3).trans HR0.out) 5 rfl).1;have x6:∀q:BW W3,q.w.cell? ⟨N,6,none⟩=some (.int .i64 cl):=fun q=>(rowAt ((q.h.block N hN3).trans HR0.out) 6 rfl).1;refine zQ ?_
 repeat (go_big_quiet_step (first
  |(go_at_call 212;exact bg (HSX.out _))
  |(go_at_call 176;exact bg (HAK.out _))))
 refine wpQuiet_nil ?_;rintro _ ⟨q,rfl⟩;have z2:=x2 q;have hr16:=(q.h.block (N+1) hN13).trans HR1.out;have HR16:=zH hr16;obtain⟨⟨b0,b1⟩,⟨d0,d1⟩,hN16⟩:=bZ hr16;have HBF:Ia (H9 N w q.w):=HB3.out.trans (q.h.mono (by rw[HS3.out];omega));clear c0 c1 x2 x5 x6 hr16;go_wp2;(try simp only[Exit.inBlock,Exit.then]);refine bodyPost_ret (results_cell_row (P:=prog) rfl _ _ (N+1) 32 _ (0,0) _ rfl (bf HR16.out) underlying32 rfl (by kernel_rfl)) rfl ?_;(try rw[hN]);exact⟨rfl,(HBF.out.setCell (by show N≤N+1;omega) _).setCell (by show N≤N+1;omega) _⟩
def Sm.plainK (s:Sm):Prop:=s.kind=1∨s.kind=3∨s.kind=8∨s.kind=9
def gT (s:Sm):Bool:=s.kind==8
theorem wH (s:Sm)(hk:s.plainK)(ao:Option Addr)(n cp:Nat)(hE:s.E= .slice ao n cp)(w:H5):
  zP 245 #[.agg s.cells] w (.bool (gT s)):=by
 obtain⟨W1,hW1⟩:=zE (w.alloc (.cells #[.int .i64 s.kind,.bool s.ty.1,.string s.ty.2,.string s.nm,.slice ao n cp,.slice none 0 0,.slice none 0 0,.int .i64 s.ln,.int .i64 s.cl] 282));have hb1:=gK hW1;have hr1:W1.heap[w.heap.size]?=some (.cells #[.int .i64 s.kind,.bool s.ty.1,.string s.ty.2,.string s.nm,.slice ao n cp,.slice none 0 0,.slice none 0 0,.int .i64 s.ln,.int .i64 s.cl] 282 (0,0)):=by rw[←hW1];exact alloc_at _ _
 obtain⟨⟨c0,c1,c2,c3,c4,c5,c6,c7,c8⟩,_,hlt⟩:=fq hr1;unfold Sm.cells;rw[hE];have HW1:=zH hW1;have HB1:=zH hb1;clear hW1 hb1 hr1 hE;rcases hk with h|h|h|h<;>(
  have HE:Ia (gT s=(s.kind==8)):=rfl;rw[HE.out];rw[h] at c0 HW1⊢;clear h HE;go_enter func245,ntmps245
  go_upto_region 1 with(fail)
  rw[HW1.out];go_wp2;go_ret;exact⟨rfl,HB1.out⟩)
theorem lZ (b off cap:Nat)(l:List Sm)(hl:l.length≤1000000)(hk:∀s∈l,s.plainK∧∃ao n cp,s.E= .slice ao n cp)(w:H5)(hb:l≠[]→b<w.heap.size)(hc:∀(i:Nat)(x:Sm),l[i]?=some x→∀(k:Nat)(u:Value),x.cells.toList[k]?=some u→w.cell? ⟨b,off+i*9+k,none⟩=some u):
  zP 216 #[.slice (some ⟨b,off,none⟩) l.length cap] w (.bool (l.any gT)):=by
 have HK:=zH hk;have HB:=zH hb;have HC:=zH hc;clear hk hb hc;go_enter func216,ntmps216;go_wp2
 go_loopw [3] (fun k wr=>∃j:Nat,k= .int .i64 (j:Int)∧j≤l.length∧(l.take j).any gT=false∧H9 w.heap.size w wr) (fun k _=>l.length-(intOf k).toNat)
 case atStart=>exact⟨0,rfl,Hg _,rfl,Hw _ _⟩
 case round=>
  obtain⟨j,rfl,hj,hz,hbr⟩:=hrel;have HZ:=zH hz;have HBR:=zH hbr
  by_cases hjl:j<l.length
  ·have hjI:(j:Int)<(l.length:Int):=by omega
   obtain⟨x,hx⟩:∃x,l[j]?=some x:=⟨_,GN hjl⟩
   have hbl:=HB.out (by intro e;rw[e] at hjl;simp at hjl);obtain⟨hpk,ao,n,cp,hE⟩:=HK.out x (GV hx);have hcell:∀(k:Nat)(u:Value),x.cells.toList[k]?=some u→wr.cell? ⟨b,off+j*9+k,none⟩=some u:=fun k u hu=>(hbr.cell (p:=⟨b,off+j*9+k,none⟩) hbl).trans (HC.out j x hx k u hu);have k0:=hcell 0 _ rfl;have k1:=hcell 1 _ rfl;have k2:=hcell 2 _ rfl;have k3:=hcell 3 _ rfl;have k4:=hcell 4 _ rfl;have k5:=hcell 5 _ rfl;have k6:=hcell 6 _ rfl;have k7:=hcell 7 _ rfl;have k8:=hcell 8 _ rfl;rw[Nat.add_zero] at k0;rw[hE] at k4;have hEN:=wH x hpk ao n cp hE wr;obtain⟨q,hq⟩:=zE (gT x);rw[hq] at hEN;unfold Sm.cells at hEN;rw[hE] at hEN;have HEN:=zH hEN;have hnx:(l.take (j+1)).any gT=q:=by rw[Dl l gT hx,hz,hq];simp
   have HNX:=zH hnx;have hany:q=true→l.any gT=true:=fun h=>by rw[List.any_eq_true];exact⟨x,GV hx,by rw[hq];exact h⟩
   have HANY:=zH hany;clear hz hbr hx hE hEN hq hcell hnx hany hpk;cases q with
   |true=>
    go_wp2_with (go_at_call 245;refine HEN.out.mono ?_;rintro e w2 ⟨rfl,hb2⟩;have HB2:=zH (HBR.out.trans (hb2.mono HBR.out.size));clear hb2)
    go_ret;rw[HANY.out (by first|rfl|trivial)];exact⟨rfl,HB2.out⟩
   |false=>
    go_wp2_with (go_at_call 245;refine HEN.out.mono ?_;rintro e w2 ⟨rfl,hb2⟩;have HB2:=zH (HBR.out.trans (hb2.mono HBR.out.size));clear hb2)
    go_roundw
    case rel=>exact⟨j+1,by go_num,hjl,HNX.out,HB2.out⟩
    case measure=>simp[intOf];omega
  ·have hje:j=l.length:=by omega
   subst hje;rw[Ha] at hz;have HE:Ia (l.any gT=false):=hz;clear hz hbr;go_wp2;go_ret;rw[HE.out];exact⟨rfl,HBR.out⟩
def DD (p:Pg)(S:List Fd)(e:Ex)(y:Ty):Prop:=
 (e.kind=1∧y=bF)∨(e.kind=2∧∃fd,jJ S e.nm=some fd∧fd.ty=y)∨(e.kind=7∧p.snm=e.nm∧y=(true,e.nm))
theorem nk {c:Nat}{p:Pg}{L:Nat}{f0 f1 f2 f3 f4 f5 f6:Value}{sA:Option Addr}{sC:Nat}{S:List Fd}{e:Ex}{y:Ty}(w:H5)(h:Ck c p L f0 f1 f2 f3 f4 f5 f6 sA sC S w)(hy:DD p S e y):
  Calls prog 265 #[.pointer (some ⟨c,0,none⟩),.agg e.cells] w fun en w'=>en= .returned (.agg #[.bool y.1,.string y.2])∧H9 w.heap.size w w':=by
 unfold Ex.cells;rcases hy with⟨h1,rfl⟩|⟨h1,fd,h2,rfl⟩|⟨h1,h2,rfl⟩
 ·rw[h1];exact Aq e.n e.nm e.ln e.cl w h
 ·rw[h1];exact Ar e.n e.nm e.ln e.cl w h h2
 ·rw[h1];exact Au e.n e.nm e.ln e.cl w h h2
def Ci (w:H5)(g:Nat)(e:Ex):Prop:=g<w.heap.size∧∀(j:Nat)(u:Value),e.cells.toList[j]?=some u→w.cell? ⟨g,j,none⟩=some u
theorem Ci.grow {w w':H5}{g:Nat}{e:Ex}(h:Ci w g e)(hb:H9 w.heap.size w w'):Ci w' g e:=⟨Hd h.1 hb.size,fun j u hu=>by rw[hb.cell (p:=⟨g,j,none⟩) h.1];exact h.2 j u hu⟩
theorem yo {c:Nat}{p:Pg}{L:Nat}{f0 f1 f4 f5 f6:Value}{y:Ty}{sA:Option Addr}{sC:Nat}{S:List Fd}{e:Ex}{g cp:Nat}(tb:Bool)(ts nm:ByteArray)(ln cl:Int)(w:H5)(h:Ck c p L f0 f1 (.bool y.1) (.string y.2) f4 f5 f6 sA sC S w)(hy:DD p S e y)(hg:Ci w g e):
  Calls prog 268 #[.pointer (some ⟨c,0,none⟩),.agg #[.int .i64 8,.bool tb,.string ts,.string nm,.slice (some ⟨g,0,none⟩) 1 cp,.slice none 0 0,.slice none 0 0,.int .i64 ln,.int .i64 cl]] w fun en w'=>en= .returned (.tuple #[])∧H9 w.heap.size w w':=by
 obtain⟨N,hN⟩:=zE w.heap.size;obtain⟨W1,hW1⟩:=zE (w.alloc (.cells #[.int .i64 8,.bool tb,.string ts,.string nm,.slice (some ⟨g,0,none⟩) 1 cp,.slice none 0 0,.slice none 0 0,.int .i64 ln,.int .i64 cl] 282));have hb1:=gZ hW1 hN;have hr1:W1.heap[N]?=some (.cells #[.int .i64 8,.bool tb,.string ts,.string nm,.slice (some ⟨g,0,none⟩) 1 cp,.slice none 0 0,.slice none 0 0,.int .i64 ln,.int .i64 cl] 282 (0,0)):=by rw[←hW1,←hN];exact alloc_at _ _
 have hN1:=ae hr1;have h1:=h.grow (by rw[hN];exact hb1);have hg1:=hg.grow (by rw[hN];exact hb1);have hEX:=nk W1 h1 hy;unfold Ex.cells at hEX;have HEX:=zH hEX;have e0:=hg1.2 0 _ rfl;have e1:=hg1.2 1 _ rfl;have e2:=hg1.2 2 _ rfl;have e3:=hg1.2 3 _ rfl;have e4:=hg1.2 4 _ rfl;have e5:=hg1.2 5 _ rfl;have e6:=hg1.2 6 _ rfl;obtain⟨⟨a0,a1,a2,a3,a4,a5,a6,a7,a8⟩,_,hN1'⟩:=fq hr1;have hst:∀(w:H5)(c:Array Value),c.size=2→(storeCells ⟨w.heap.size,0,none⟩ [.bool y.1,.string y.2] 0).run prog (w.alloc (.cells c 32))= .ok () (w.alloc (.cells #[.bool y.1,.string y.2] 32)):=fun w c hc=>
  run_storeCells_new (P:=prog) w 32 c #[.bool y.1,.string y.2] (by show _=some 2;kernel_rfl) hc (by simp[Value.oneCell'])
 have HST:=zH hst;have H1:=zH h1;have HG1:=zH hg1;have HW1:=zH hW1;have HB1:=zH hb1;have HR1:=zH hr1;have hgl:=hg1.1;clear h hy hg hW1 hb1 hr1 h1 hg1 hEX hst;go_enter func268,ntmps268
 go_upto_region 1 with(fail)
 rw[HW1.out]
 go_upto_region 7 with(go_at_call 265;refine HEX.out.mono ?_;rintro en w2 ⟨rfl,hb2⟩;have HB2:=zH hb2;have hst2:=HST.out w2;clear hb2)
 clear hst2;obtain⟨T,hT⟩:=zE w2.heap.size;obtain⟨W3,hW3⟩:=zE (w2.alloc (.cells #[.bool y.1,.string y.2] 32));rw[hT,hW3];have hb3:=zD hW3 HB2;have hrT:W3.heap[T]?=some (.cells #[.bool y.1,.string y.2] 32 (0,0)):=by rw[←hW3,←hT];exact alloc_at _ _
 have hTl:=ae hrT;have h3:=H1.out.grow hb3;have hg3:=HG1.out.grow hb3;have hrN3:=(hb3.block N hN1).trans HR1.out;have t0:∀q:BW W3,q.w.cell? ⟨T,0,none⟩=some (.bool y.1):=fun q=>(rowAt ((q.h.block T hTl).trans hrT) 0 rfl).1;have t1:∀q:BW W3,q.w.cell? ⟨T,1,none⟩=some (.string y.2):=fun q=>(rowAt ((q.h.block T hTl).trans hrT) 1 rfl).1;have c4:∀q:BW W3,q.w.cell? ⟨c,4,none⟩=some (.bool y.1):=fun q=>(rowAt (h3.grow q.h).row 4 rfl).1;have c5:∀q:BW W3,q.w.cell? ⟨c,5,none⟩=some (.string y.2):=fun q=>(rowAt (h3.grow q.h).row 5 rfl).1;have x4:∀q:BW W3,q.w.cell? ⟨N,4,none⟩=some (.slice (some ⟨g,0,none⟩) 1 cp):=fun q=>(rowAt ((q.h.block N (ae hrN3)).trans hrN3) 4 rfl).1;have g5:∀q:BW W3,q.w.cell? ⟨g,5,none⟩=some (.int .i64 e.ln):=fun q=>(hg3.grow q.h).2 5 _ rfl;have g6:∀q:BW W3,q.w.cell? ⟨g,6,none⟩=some (.int .i64 e.cl):=fun q=>(hg3.grow q.h).2 6 _ rfl;have HAK:Ia (∀q:BW W3,zP 176 #[.pointer (some ⟨c,0,none⟩),.bool true,.int .i64 7,.agg #[.int .i64 e.ln,.int .i64 e.cl]] q.w (.bool true)):=fun q=>bQ 7 e.ln e.cl q.w (h3.grow q.h);have HB3:=zH hb3;clear hT hW3 hb3 hrT h3 hg3 hrN3 a0 a1 a2 a3 a4 a5 a6 a7 a8 e0 e1 e2 e3 e4 e5 e6;refine zQ ?_
 repeat (go_big_quiet_step (first
  |(go_at_call 266;exact bg (o7 _ _ _))
  |(go_at_call 176;exact bg (HAK.out _))))
 refine wpQuiet_nil ?_;rintro _ ⟨q,rfl⟩;clear t0 t1 c4 c5 x4 g5 g6;go_wp2
 go_end0
 exact⟨rfl,by(try rw[hN]);exact HB1.out.trans ((HB3.out.trans (q.h.mono HB3.out.size)).mono (Nat.le_of_lt hN1))⟩
theorem wI {c:Nat}{p:Pg}{L:Nat}{f0 f1 f2 f3 f4 f5 f6:Value}{sA:Option Addr}{sC:Nat}{S:List Fd}{fd:Fd}(tb:Bool)(ts nm:ByteArray)(eo:Option Addr)(en ec:Nat)(ln cl:Int)(w:H5)(h:Ck c p L f0 f1 f2 f3 f4 f5 f6 sA sC S w)(hl:jJ S nm=some fd)(hp:fd.ty.1=true):
  Calls prog 268 #[.pointer (some ⟨c,0,none⟩),.agg #[.int .i64 9,.bool tb,.string ts,.string nm,.slice eo en ec,.slice none 0 0,.slice none 0 0,.int .i64 ln,.int .i64 cl]] w fun en w'=>en= .returned (.tuple #[])∧H9 w.heap.size w w':=by
 obtain⟨N,hN⟩:=zE w.heap.size;obtain⟨W1,hW1⟩:=zE (w.alloc (.cells #[.int .i64 9,.bool tb,.string ts,.string nm,.slice eo en ec,.slice none 0 0,.slice none 0 0,.int .i64 ln,.int .i64 cl] 282));have hb1:=gZ hW1 hN;have hr1:W1.heap[N]?=some (.cells #[.int .i64 9,.bool tb,.string ts,.string nm,.slice eo en ec,.slice none 0 0,.slice none 0 0,.int .i64 ln,.int .i64 cl] 282 (0,0)):=by rw[←hW1,←hN];exact alloc_at _ _
 have hN1:=ae hr1;have h1:=h.grow (by rw[hN];exact hb1);obtain⟨⟨a0,a1,a2,a3,a4,a5,a6,a7,a8⟩,_,hN1'⟩:=fq hr1;have HLK:Ia (zP 214 #[.pointer (some ⟨c,0,none⟩),.string nm] W1 (.tuple #[.agg #[.bool true,.string fd.ty.2],.bool true])):=by
  have:=jW nm W1 h1;unfold oz at this;rw[hl] at this;rw[show DC (some fd)=fd.ty from rfl,hp] at this;exact this
 have HAK:Ia (∀f W,H9 W1.heap.size W1 W→zP 176 #[.pointer (some ⟨c,0,none⟩),.bool true,.int .i64 f,.agg #[.int .i64 ln,.int .i64 cl]] W (.bool true)):=fun f W hW=>bQ f ln cl W (h1.grow hW);have hst:∀(w:H5)(c:Array Value),c.size=2→(storeCells ⟨w.heap.size,0,none⟩ [.bool true,.string fd.ty.2] 0).run prog (w.alloc (.cells c 32))= .ok () (w.alloc (.cells #[.bool true,.string fd.ty.2] 32)):=fun w c hc=>
  run_storeCells_new (P:=prog) w 32 c #[.bool true,.string fd.ty.2] (by show _=some 2;kernel_rfl) hc (by simp[Value.oneCell'])
 have HST:=zH hst;have HW1:=zH hW1;have HB1:=zH hb1;have HR1:=zH hr1;clear h hl hp hW1 hb1 hr1 h1 hst;go_enter func268,ntmps268
 go_upto_region 1 with(fail)
 rw[HW1.out]
 go_upto_region 10 with(go_at_call 214;refine HLK.out.mono ?_;rintro en w2 ⟨rfl,hb2⟩;have HB2:=zH hb2;have hst2:=HST.out w2;clear hb2)
 clear hst2;obtain⟨T,hT⟩:=zE w2.heap.size;obtain⟨W3,hW3⟩:=zE (w2.alloc (.cells #[.bool true,.string fd.ty.2] 32));rw[hT,hW3];have hb3:=zD hW3 HB2;have hrT:W3.heap[T]?=some (.cells #[.bool true,.string fd.ty.2] 32 (0,0)):=by rw[←hW3,←hT];exact alloc_at _ _
 have hTl:=ae hrT;have hrN3:=(hb3.block N hN1).trans HR1.out;obtain⟨⟨a0,a1,a2,a3,a4,a5,a6,a7,a8⟩,_,hN3⟩:=fq hrN3;have HB3:=zH hb3;have HRT:=zH hrT;have HRN3:=zH hrN3;have HA3:=zH (HAK.out 5 W3 hb3);clear hT hW3 hb3 hrT hrN3
 go_upto_region 11 with(go_at_call 176;refine HA3.out.mono ?_;rintro en w4 ⟨rfl,hb4⟩;have HB4:=zH (HB3.out.trans (hb4.mono HB3.out.size));have HBX:=zH hb4;clear hb4)
 obtain⟨⟨a0,a1,a2,a3,a4,a5,a6,a7,a8⟩,_,hN4⟩:=fq ((HBX.out.block N hN3).trans HRN3.out);obtain⟨⟨t0,t1⟩,_,hT4⟩:=bZ ((HBX.out.block T hTl).trans HRT.out);have HA4:=zH (HAK.out 7 w4 HB4.out)
 go_wp2_with (go_at_call 176;refine HA4.out.mono ?_;rintro en w5 ⟨rfl,hb5⟩;have HB5:=zH (HB4.out.trans (hb5.mono HB4.out.size));clear hb5)
 go_end0
 exact⟨rfl,by(try rw[hN]);exact HB1.out.trans (HB5.out.mono (Nat.le_of_lt hN1))⟩
end Go.Proofs.YtjomgckjhcfbgaaGreat
