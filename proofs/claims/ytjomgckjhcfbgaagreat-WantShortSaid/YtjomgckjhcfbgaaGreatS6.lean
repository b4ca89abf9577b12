/- Walks. -/
import Derived.ArgAppend
import Derived.Test.YtjomgckjhcfbgaaGreatS5
set_option maxRecDepth 100000
set_option maxHeartbeats 64000000
set_option linter.all false
namespace Go.Proofs.YtjomgckjhcfbgaaGreat
open Go.RowKit
open _root_.List renaming getElem?_eq_getElem→GN,getElem?_eq_some_iff→GQ,eq_nil_of_length_eq_zero→Hm
open _root_.Nat renaming lt_of_lt_of_le→Hd,le_refl→He,zero_add→Hf
open Go.RowKit.Below renaming refl→Hw,heap_alloc→Hy
open Go renaming heap_setCell_same→Hz,World→H5
open Go.RowKit renaming Below→H9,Hid→Ia
open Tryz
theorem DI:(prog.info? 34).map (fun i=>(i.zero,i.size,i.bytes))=some (some (.agg #[.bool false,.string ⟨#[]⟩,.int .i64 0]),3,32):=by kernel_rfl
theorem DJ:(prog.info? 42).map (fun i=>(i.zero,i.size,i.bytes))=some (some (.agg #[.int .i64 0,.int .i64 0,.int .i64 0,.int .i64 0,.int .i64 0,.int .i64 0,.string ⟨#[]⟩,.slice none 0 0,.slice none 0 0,.int .i64 0,.int .i64 0,.int .i64 0,.int .i64 0]),13,144):=by kernel_rfl
structure Fx where
 rt:Ty
 nm:ByteArray
 pr:Value
 r7:Value
 r8:Value
 r9:Value
 fr:Value
 hs:Value
 os:Value
structure Sl where
 vA:Option Addr
 vC:Nat
 iA:Option Addr
 iC:Nat
 sA:Option Addr
 sC:Nat
 wA:Option Addr
 wC:Nat
structure fV where
 op:Int
 d:Int
 a:Int
 f:Int
 n:Int
 ln:Int
 cl:Int
def fV.cells (i:fV):Array Value:=#[.int .i64 i.op,.int .i64 i.d,.int .i64 i.a,.int .i64 0,.int .i64 i.f,.int .i64 i.n,.string ⟨#[]⟩,.slice none 0 0,.slice none 0 0,.int .i64 0,.int .i64 0,.int .i64 i.ln,.int .i64 i.cl]
def Ga (i:fV):List Value:=i.cells.toList
def Gb (y:Ty):List Value:=[.bool y.1,.string y.2,.int .i64 0]
def EI (p:Pg)(X:Fx)(s:Sl)(nV nI nS:Nat):Array Value:=
 #[.slice (some ⟨p.pA,0,none⟩) 1 p.pC,.slice (some ⟨p.qA,0,none⟩) 1 p.qC,.bool X.rt.1,.string X.rt.2,.string X.nm,X.pr,.slice s.vA nV s.vC,X.r7,X.r8,X.r9,X.fr,.slice s.iA nI s.iC,.slice s.sA nS s.sC,.slice s.wA nS s.wC,.int .i64 0,.int .i64 0,.int .i64 0,.int .i64 0,X.hs,X.os]
structure Mk (m:Nat)(p:Pg)(L:Nat)(X:Fx)(V:List Ty)(I:List fV)(S:List (ByteArray×Nat))(O:Nat→Prop)(s:Sl)(w:H5):Prop where
 row:w.heap[m]?=some (.cells (EI p X s V.length I.length S.length) 236 (0,0))
 pg:jh p L w
 hm:L≤m
 vars:w.ownsRow (m+1) 34 3 (.slice s.vA V.length s.vC) V.length (V.flatMap Gb)
 ins:w.ownsRow (m+1) 42 13 (.slice s.iA I.length s.iC) I.length (I.flatMap Ga)
 dis:∀k,(Value.slice s.vA V.length s.vC).ownBlock=some k→(Value.slice s.iA I.length s.iC).ownBlock=some k→False
 ov:∀k,(Value.slice s.vA V.length s.vC).ownBlock=some k→O k
 oi:∀k,(Value.slice s.iA I.length s.iC).ownBlock=some k→O k
 ol:∀k,O k→m<k∧k<w.heap.size
 seen:aG (fun x:ByteArray×Nat=>#[.string x.1]) 1 w w.heap.size s.sA S
 whic:aG (fun x:ByteArray×Nat=>#[.int .i64 (x.2:Int)]) 1 w w.heap.size s.wA S
 ns:∀a,S≠[]→(s.sA=some a∨s.wA=some a)→a.block≠m∧¬O a.block
 lV:V.length≤1000
 lI:I.length≤1000
 lS:S.length≤1000
 cS:S.length≤s.sC∧S.length≤s.wC
section
variable {m:Nat}{p:Pg}{L:Nat}{X:Fx}{V:List Ty}{I:List fV}{S:List (ByteArray×Nat)}{O:Nat→Prop}{s:Sl}{w w':H5}
theorem aG.stay {α:Type}{cells:α→Array Value}{st:Nat}{w w':H5}{ao:Option Addr}{xs:List α}{M:Nat→Prop}(h:aG cells st w w.heap.size ao xs)(hx:Ext M w w')(hM:∀a,xs≠[]→ao=some a→¬M a.block):aG cells st w' w'.heap.size ao xs:=by
 intro hne;obtain⟨b,off,h1,h2,h3⟩:=h hne;exact⟨b,off,h1,Hd h2 hx.size,fun i x hi k u hu=>(hx.cell (a:=⟨b,off+i*st+k,none⟩) h2 (hM ⟨b,off,none⟩ hne h1)).trans (h3 i x hi k u hu)⟩
theorem Mk.ext {M:Nat→Prop}(h:Mk m p L X V I S O s w)(hx:Ext M w w')(hM:∀k,k≤m→¬M k)(hO:∀k,O k→¬M k)(hS:∀a,S≠[]→(s.sA=some a∨s.wA=some a)→¬M a.block):Mk m p L X V I S O s w':=
 ⟨hx.heap h.row (hM m (He _)),h.pg.ext hx (fun k hk=>hM k (by have:=h.hm;omega)),h.hm,ah h.vars hx (fun k hk=>hO k (h.ov k hk)),ah h.ins hx (fun k hk=>hO k (h.oi k hk)),h.dis,h.ov,h.oi,fun k hk=>⟨(h.ol k hk).1,Hd (h.ol k hk).2 hx.size⟩,
  h.seen.stay hx (fun a hne e=>hS a hne (.inl e)),h.whic.stay hx (fun a hne e=>hS a hne (.inr e)),h.ns,h.lV,h.lI,h.lS,h.cS⟩
theorem Mk.grow (h:Mk m p L X V I S O s w)(hb:H9 w.heap.size w w'):Mk m p L X V I S O s w':=h.ext (Ext.of_below_size (M:=fun _=>False) hb) (fun _ _ h=>h) (fun _ _ h=>h) (fun _ _ _ h=>h)
end
def dA (m:Nat)(p:Pg)(L:Nat)(X:Fx)(V:List Ty)(I:List fV)(S:List (ByteArray×Nat))(O:Nat→Prop)(w w':H5):Prop:=
 ∃O' s',Mk m p L X V I S O' s' w'∧Ext (fun q=>q=m∨O q) w w'∧∀k,O' k→O k∨w.heap.size≤k
theorem dA.trans {m:Nat}{p:Pg}{L:Nat}{X:Fx}{V2:List Ty}{I2:List fV}{S2:List (ByteArray×Nat)}{O O1:Nat→Prop}{w w1 w2:H5}(hx:Ext (fun q=>q=m∨O q) w w1)(hO:∀k,O1 k→O k∨w.heap.size≤k)(h:dA m p L X V2 I2 S2 O1 w1 w2):dA m p L X V2 I2 S2 O w w2:=by
 obtain⟨O',s',h1,h2,h3⟩:=h;refine⟨O',s',h1,hx.trans h2 (fun q hq=> ?_),fun k hk=> ?_⟩
 ·rcases hq with rfl|hq
  ·exact .inl (.inl rfl)
  ·rcases hO q hq with h|h
   ·exact .inl (.inr h)
   ·exact .inr h
 ·rcases h3 k hk with h|h
  ·exact hO k h
  ·exact .inr (Nat.le_trans hx.size h)
theorem l7 {m:Nat}{p:Pg}{L:Nat}{X:Fx}{V:List Ty}{I:List fV}{S:List (ByteArray×Nat)}{O:Nat→Prop}{s:Sl}(y:Ty)(w:H5)(h:Mk m p L X V I S O s w)(hl:V.length+1≤1000):
  Calls prog 131 #[.pointer (some ⟨m,0,none⟩),.agg #[.bool y.1,.string y.2]] w fun e w'=>e= .returned (.int .i64 (V.length:Int))∧dA m p L X (V++[y]) I S O w w':=by
 obtain⟨N,hN⟩:=zE w.heap.size;obtain⟨W1,hW1⟩:=zE (w.alloc (.cells #[.bool y.1,.string y.2] 32));have hb1:=gZ hW1 hN;have hr1:W1.heap[N]?=some (.cells #[.bool y.1,.string y.2] 32 (0,0)):=by rw[←hW1,←hN];exact alloc_at _ _
 have hN1:=ae hr1;have h1:Mk m p L X V I S O s W1:=h.grow (by rw[hN];exact hb1);have hmN:m<N:=by have:=ae h.row;omega
 have hOlt:∀k,O k→k<N:=fun k hk=>by have:=(h.ol k hk).2;omega
 obtain⟨v,hv⟩:=zE (Value.slice s.vA V.length s.vC);have hown1:=h1.vars;rw[hv] at hown1;obtain⟨i0,hi0,hi1,hi2,hi3⟩:=info_parts DI;obtain⟨S1,hS1⟩:=zE ((fun w'=>w'.cell? ⟨m,6,none⟩=some v∧w'.heap[N]?=some (.cells #[.bool y.1,.string y.2] 32 (0,0))):H5→Prop);have hSS:∀w,S1 w→w.cell? ⟨m,6,none⟩=some v∧w.heap[N]?=some (.cells #[.bool y.1,.string y.2] 32 (0,0)):=fun w h=>by rw[←hS1] at h;exact h
 have hSB:∀w,w.cell? ⟨m,6,none⟩=some v∧w.heap[N]?=some (.cells #[.bool y.1,.string y.2] 32 (0,0))→S1 w:=fun w h=>by rw[←hS1];exact h
 have hrow1:=h1.row;have hm1:=ae hrow1;have hdrow:W1.drew.heap[m]?=some (.cells (EI p X s V.length I.length S.length) 236 (0,0)):=hrow1;have hdr1:W1.drew.heap[N]?=some (.cells #[.bool y.1,.string y.2] 32 (0,0)):=hr1;have hS0:S1 W1.drew:=hSB _ ⟨by rw[←hv];exact(rowAt hdrow 6 rfl).1,hdr1⟩;have HSS:=zH hSS;have HSB:=zH hSB;have HW1:=zH hW1;have HB1:=zH hb1;have HMK:=zH h1;have HOW:=zH hown1;have HDR:=zH hdrow;have HDR1:=zH hdr1;have HV:=zH hv;have HOLT:=zH hOlt;clear h hW1 hb1 hr1 h1 hown1 hS1 hSS hSB hrow1 hdrow hdr1 hv hOlt;go_enter func131,ntmps131
 go_upto_region 1 with(fail)
 rw[HW1.out];refine aj 13 S1 (by kernel_rfl) ?_;have HQ:=zH fun w h=>And.intro (HSS.out w h) (F6 (HSS.out w h).2);refine zT 0 rfl HQ.out ?_;(try go_simp);refine zT 1 rfl HQ.out ?_;(try go_simp);refine zT 2 rfl HQ.out ?_;(try go_simp);refine zT 3 rfl HQ.out ?_;(try go_simp);refine zT 4 rfl HQ.out ?_;(try go_simp);refine zT 5 rfl HQ.out ?_;(try go_simp);refine zT 6 rfl HQ.out ?_;(try go_simp);refine zT 7 rfl HQ.out ?_;(try go_simp);refine zO 8 rfl fun K' hK=> ?_;go_simp;obtain⟨G,hG⟩:=zE W1.heap.size;obtain⟨W8,hW8⟩:=zE ((W1.alloc (.cells #[.bool y.1,.string y.2,.int .i64 0] 34)).drew);(try rw[hG]);(try rw[hW8]);have hb8:H9 G W1 W8:=by rw[←hW8,←hG];exact((Hw _ _).alloc (He _) _).drew
 have hrG:W8.heap[G]?=some (.cells #[.bool y.1,.string y.2,.int .i64 0] 34 (0,0)):=by rw[←hW8,←hG];exact alloc_at _ _
 have hrow8:=(hb8.block m (by omega)).trans HDR.out;have hr18:=(hb8.block N (by omega)).trans HDR1.out;refine hK _ _ (HSB.out _ ⟨by rw[←HV.out];exact(rowAt hrow8 6 rfl).1,hr18⟩) ?_;clear hK;(try go_simp);refine zO 9 rfl fun K' hK=> ?_;have hx8:Ext (fun _=>False) W1 W8:=Ext.of_below_size (by rw[hG];exact hb8);have hmk8:Mk m p L X V I S O s W8:=HMK.out.ext hx8 (fun _ _ h=>h) (fun _ _ h=>h) (fun _ _ _ h=>h);have hown8:=hmk8.vars;rw[HV.out] at hown8;have hm8:=ae hrow8;refine aF (.tmp 10) (.tmp 13) 30 rfl (m+1) 34 i0 _ 3 32 underlying30 hi0 hi1 hi2 hi3 rfl (by decide) v V.length _ rfl hown8 (some ⟨G,0,none⟩) 1 1 [.bool y.1,.string y.2,.int .i64 0] rfl rfl (fun h=>by cases h) (fun ad had jj uu hu=>by
  obtain rfl:(⟨G,0,none⟩:Addr)=ad:=by simpa using had
  rw[Addr.add_lit,Hf,cell_of_row _ _ _ _ _ _ hrG];simpa using hu) (by simp[Value.oneCell']) (by unfold maxLen;omega) (by omega) (by omega) ?_
 intro v9 w9 hown9 hgr9 hat9;have hx9:Ext (fun q=>v.ownBlock=some q) W8 w9:=Ext.of_grown hgr9 (fun q hq=> .inl hq);have hvO:∀q,v.ownBlock=some q→O q:=fun q hq=>hmk8.ov q (by rw[HV.out];exact hq);have hrow9:=hx9.heap hrow8 (fun hq=>by have:=(hmk8.ol _ (hvO _ hq)).1;omega);have hr19:=hx9.heap hr18 (fun hq=>by have:=HOLT.out _ (hvO _ hq);omega);obtain⟨ao9,c9,hv9⟩:=aD hown9;subst hv9;have hS9:S1 w9:=HSB.out _ ⟨by rw[←HV.out];exact(rowAt hrow9 6 rfl).1,hr19⟩;have hfz:=(rowAt hrow9 6 rfl).2;have hcl:w9.cell? ⟨m,6,none⟩=some v:=by rw[←HV.out];exact(rowAt hrow9 6 rfl).1
 refine hK _ _ hS9 ?_;clear hK;(try go_simp);refine zT 10 rfl HQ.out ?_;(try go_simp);refine zT 11 rfl HQ.out ?_;(try go_simp);refine zT 12 rfl HQ.out ?_;(try go_simp);refine zK rfl fun K' hK=> ?_;go_simp;refine hK _ _ ?_;clear hK;refine⟨by kernel_rfl, ?_⟩;obtain⟨WF,hWF⟩:=zE (w9.setCell ⟨m,6,none⟩ (.slice ao9 (V.length+1) c9));(try rw[hWF]);have hxF:Ext (·=m) w9 WF:=by rw[←hWF];exact Ext.set1 w9 m 6 _
 have hrowF:WF.heap[m]?=some (.cells (EI p X {s with vA:=ao9,vC:=c9} (V.length+1) I.length S.length) 236 (0,0)):=by rw[←hWF];exact Hz w9 m 6 _ _ _ hrow9
 have hx8F:Ext (fun q=>q=m∨v.ownBlock=some q) W8 WF:=(hx9.mono (fun q h=> .inr h)).trans hxF (fun q h=> .inl (.inl h));have hxall:Ext (fun q=>q=m∨v.ownBlock=some q) W1 WF:=(hx8.mono (fun q h=>h.elim)).trans hx8F (fun q h=> .inl h);have hlenF:(V++[y]).length=V.length+1:=by simp
 have hat9':∀k,(Value.slice ao9 (V.length+1) c9).ownBlock=some k→v.ownBlock=some k∨W8.heap.size≤k:=hat9;have hob:∀k,(Value.slice ao9 (V.length+1) c9).ownBlock=some k→k<WF.heap.size:=fun k hk=>Hd (hown9.lt k hk).2 hxF.size;have hobm:∀k,(Value.slice ao9 (V.length+1) c9).ownBlock=some k→m+1≤k:=fun k hk=>(hown9.lt k hk).1;have hMV:dA m p L X (V++[y]) I S O w WF:=by
  refine⟨fun q=>O q∨(Value.slice ao9 (V.length+1) c9).ownBlock=some q,{s with vA:=ao9,vC:=c9}, ?_, ?_,fun k hk=> ?_⟩
  ·refine⟨by rw[hlenF];exact hrowF,hmk8.pg.ext hx8F (fun k hk hq=> ?_),hmk8.hm, ?_,ah hmk8.ins hx8F (fun k hk hq=> ?_),fun k h1 h2=> ?_,fun k hk=> ?_,fun k hk=> ?_,fun k hk=> ?_,hmk8.seen.stay hx8F (fun a hne e hq=> ?_),hmk8.whic.stay hx8F (fun a hne e hq=> ?_),fun a hne e=>⟨(hmk8.ns a hne e).1,fun hq=> ?_⟩,by rw[hlenF];omega,hmk8.lI,hmk8.lS,hmk8.cS⟩
   ·have:=hmk8.hm
    rcases hq with h|h
    ·omega
    ·have:=(hmk8.ol _ (hvO _ h)).1;omega
   ·rw[hlenF,List.flatMap_append];exact ah hown9 hxF (fun k hk e=>by have:=hobm k hk;omega)
   ·rcases hq with h|h
    ·have:=(hmk8.ol k (hmk8.oi k hk)).1;omega
    ·exact hmk8.dis k (by rw[HV.out];exact h) hk
   ·rw[hlenF] at h1
    rcases hat9' k h1 with h|h
    ·exact hmk8.dis k (by rw[HV.out];exact h) h2
    ·have:=(hmk8.ol k (hmk8.oi k h2)).2;omega
   ·rw[hlenF] at hk;exact .inr hk
   ·exact .inl (hmk8.oi k hk)
   ·rcases hk with h|h
    ·exact⟨(hmk8.ol k h).1,Hd (hmk8.ol k h).2 hx8F.size⟩
    ·exact⟨hobm k h,hob k h⟩
   ·rcases hq with h|h
    ·exact(hmk8.ns a hne (.inl e)).1 h
    ·exact(hmk8.ns a hne (.inl e)).2 (hvO _ h)
   ·rcases hq with h|h
    ·exact(hmk8.ns a hne (.inr e)).1 h
    ·exact(hmk8.ns a hne (.inr e)).2 (hvO _ h)
   ·rcases hq with h|h
    ·exact(hmk8.ns a hne e).2 h
    ·rcases hat9' _ h with h|h
     ·exact(hmk8.ns a hne e).2 (hvO _ h)
     ·have hlt:a.block<W8.heap.size:=by
       rcases e with e|e
       ·obtain⟨b,off,h1,h2,_⟩:=hmk8.seen hne
        rw[e] at h1;cases h1;exact h2
       ·obtain⟨b,off,h1,h2,_⟩:=hmk8.whic hne
        rw[e] at h1;cases h1;exact h2
      omega
  ·have hx01:Ext (fun _=>False) w W1:=Ext.of_below_size (by rw[hN];exact HB1.out)
   exact(hx01.mono (fun q h=>h.elim)).trans hxall (fun q h=>by
    rcases h with h|h
    ·exact .inl (.inl h)
    ·exact .inl (.inr (hvO _ h)))
  ·rcases hk with h|h
   ·exact .inl h
   ·rcases hat9' k h with h|h
    ·exact .inl (hvO _ h)
    ·right;have:=hx8.size;have:=HB1.out.size;omega
 have HMV:=zH hMV;have cF:WF.cell? ⟨m,6,none⟩=some (.slice ao9 (V.length+1) c9):=(rowAt hrowF 6 rfl).1;have HLEN:=zH hlenF;have hlen9:(((V.length+1:Nat):Int))-1=(V.length:Int):=by omega
 clear hWF hxF hx8F hxall hat9' hob hobm hMV hrowF hown9 hgr9 hat9 hx9 hvO hrow9 hr19 hS9 hfz hcl hmk8 hown8 hrow8 hr18 hx8 hb8 hrG hW8 hG hi0 hi1 hi2 hi3;go_wp2;go_ret;exact⟨by go_num,HMV.out⟩
theorem iG {m:Nat}{p:Pg}{L:Nat}{X:Fx}{V:List Ty}{I:List fV}{S:List (ByteArray×Nat)}{O:Nat→Prop}{s:Sl}(i:fV)(w:H5)(h:Mk m p L X V I S O s w)(hl:I.length+1≤1000):
  Calls prog 223 #[.pointer (some ⟨m,0,none⟩),.agg #[.int .i64 i.op,.int .i64 i.d,.int .i64 i.a,.int .i64 0,.int .i64 i.f,.int .i64 i.n,.string ⟨#[]⟩,.slice none 0 0,.slice none 0 0,.int .i64 0,.int .i64 0,.int .i64 i.ln,.int .i64 i.cl]] w fun e w'=>e= .returned (.int .i64 (I.length:Int))∧dA m p L X V (I++[i]) S O w w':=by
 obtain⟨N,hN⟩:=zE w.heap.size;obtain⟨W1,hW1⟩:=zE (w.alloc (.cells #[.int .i64 i.op,.int .i64 i.d,.int .i64 i.a,.int .i64 0,.int .i64 i.f,.int .i64 i.n,.string ⟨#[]⟩,.slice none 0 0,.slice none 0 0,.int .i64 0,.int .i64 0,.int .i64 i.ln,.int .i64 i.cl] 42));have hb1:=gZ hW1 hN;have hr1:W1.heap[N]?=some (.cells #[.int .i64 i.op,.int .i64 i.d,.int .i64 i.a,.int .i64 0,.int .i64 i.f,.int .i64 i.n,.string ⟨#[]⟩,.slice none 0 0,.slice none 0 0,.int .i64 0,.int .i64 0,.int .i64 i.ln,.int .i64 i.cl] 42 (0,0)):=by rw[←hW1,←hN];exact alloc_at _ _
 have hN1:=ae hr1;have h1:Mk m p L X V I S O s W1:=h.grow (by rw[hN];exact hb1);have hmN:m<N:=by have:=ae h.row;omega
 have hOlt:∀k,O k→k<N:=fun k hk=>by have:=(h.ol k hk).2;omega
 obtain⟨v,hv⟩:=zE (Value.slice s.iA I.length s.iC);have hown1:=h1.ins;rw[hv] at hown1;obtain⟨i0,hi0,hi1,hi2,hi3⟩:=info_parts DJ;obtain⟨S1,hS1⟩:=zE ((fun w'=>w'.cell? ⟨m,11,none⟩=some v∧w'.heap[N]?=some (.cells #[.int .i64 i.op,.int .i64 i.d,.int .i64 i.a,.int .i64 0,.int .i64 i.f,.int .i64 i.n,.string ⟨#[]⟩,.slice none 0 0,.slice none 0 0,.int .i64 0,.int .i64 0,.int .i64 i.ln,.int .i64 i.cl] 42 (0,0))):H5→Prop);have hSS:∀w,S1 w→w.cell? ⟨m,11,none⟩=some v∧w.heap[N]?=some (.cells #[.int .i64 i.op,.int .i64 i.d,.int .i64 i.a,.int .i64 0,.int .i64 i.f,.int .i64 i.n,.string ⟨#[]⟩,.slice none 0 0,.slice none 0 0,.int .i64 0,.int .i64 0,.int .i64 i.ln,.int .i64 i.cl] 42 (0,0)):=fun w h=>by rw[←hS1] at h;exact h
 have hSB:∀w,w.cell? ⟨m,11,none⟩=some v∧w.heap[N]?=some (.cells #[.int .i64 i.op,.int .i64 i.d,.int .i64 i.a,.int .i64 0,.int .i64 i.f,.int .i64 i.n,.string ⟨#[]⟩,.slice none 0 0,.slice none 0 0,.int .i64 0,.int .i64 0,.int .i64 i.ln,.int .i64 i.cl] 42 (0,0))→S1 w:=fun w h=>by rw[←hS1];exact h
 have hrow1:=h1.row;have hm1:=ae hrow1;have hdrow:W1.drew.heap[m]?=some (.cells (EI p X s V.length I.length S.length) 236 (0,0)):=hrow1;have hdr1:W1.drew.heap[N]?=some (.cells #[.int .i64 i.op,.int .i64 i.d,.int .i64 i.a,.int .i64 0,.int .i64 i.f,.int .i64 i.n,.string ⟨#[]⟩,.slice none 0 0,.slice none 0 0,.int .i64 0,.int .i64 0,.int .i64 i.ln,.int .i64 i.cl] 42 (0,0)):=hr1;have hS0:S1 W1.drew:=hSB _ ⟨by rw[←hv];exact(rowAt hdrow 11 rfl).1,hdr1⟩;have HSS:=zH hSS;have HSB:=zH hSB;have HW1:=zH hW1;have HB1:=zH hb1;have HMK:=zH h1;have HOW:=zH hown1;have HDR:=zH hdrow;have HDR1:=zH hdr1;have HV:=zH hv;have HOLT:=zH hOlt;clear h hW1 hb1 hr1 h1 hown1 hS1 hSS hSB hrow1 hdrow hdr1 hv hOlt;go_enter func223,ntmps223
 go_upto_region 1 with(fail)
 rw[HW1.out];refine aj 12 S1 (by kernel_rfl) ?_;have HQ:=zH fun w h=>And.intro (HSS.out w h) (FK (HSS.out w h).2);refine zT 0 rfl HQ.out ?_;(try go_simp);refine zT 1 rfl HQ.out ?_;(try go_simp);refine zT 2 rfl HQ.out ?_;(try go_simp);refine zT 3 rfl HQ.out ?_;(try go_simp);refine zT 4 rfl HQ.out ?_;(try go_simp);refine zT 5 rfl HQ.out ?_;(try go_simp);refine zT 6 rfl HQ.out ?_;(try go_simp);refine zO 7 rfl fun K' hK=> ?_;go_simp;obtain⟨G,hG⟩:=zE W1.heap.size;obtain⟨W8,hW8⟩:=zE ((W1.alloc (.cells #[.int .i64 i.op,.int .i64 i.d,.int .i64 i.a,.int .i64 0,.int .i64 i.f,.int .i64 i.n,.string ⟨#[]⟩,.slice none 0 0,.slice none 0 0,.int .i64 0,.int .i64 0,.int .i64 i.ln,.int .i64 i.cl] 42)).drew);(try rw[hG]);(try rw[hW8]);have hb8:H9 G W1 W8:=by rw[←hW8,←hG];exact((Hw _ _).alloc (He _) _).drew
 have hrG:W8.heap[G]?=some (.cells #[.int .i64 i.op,.int .i64 i.d,.int .i64 i.a,.int .i64 0,.int .i64 i.f,.int .i64 i.n,.string ⟨#[]⟩,.slice none 0 0,.slice none 0 0,.int .i64 0,.int .i64 0,.int .i64 i.ln,.int .i64 i.cl] 42 (0,0)):=by rw[←hW8,←hG];exact alloc_at _ _
 have hrow8:=(hb8.block m (by omega)).trans HDR.out;have hr18:=(hb8.block N (by omega)).trans HDR1.out;refine hK _ _ (HSB.out _ ⟨by rw[←HV.out];exact(rowAt hrow8 11 rfl).1,hr18⟩) ?_;clear hK;(try go_simp);refine zO 8 rfl fun K' hK=> ?_;have hx8:Ext (fun _=>False) W1 W8:=Ext.of_below_size (by rw[hG];exact hb8);have hmk8:Mk m p L X V I S O s W8:=HMK.out.ext hx8 (fun _ _ h=>h) (fun _ _ h=>h) (fun _ _ _ h=>h);have hown8:=hmk8.ins;rw[HV.out] at hown8;have hm8:=ae hrow8;refine aF (.tmp 10) (.tmp 12) 36 rfl (m+1) 42 i0 _ 13 144 underlying36 hi0 hi1 hi2 hi3 rfl (by decide) v I.length _ rfl hown8 (some ⟨G,0,none⟩) 1 1 [.int .i64 i.op,.int .i64 i.d,.int .i64 i.a,.int .i64 0,.int .i64 i.f,.int .i64 i.n,.string ⟨#[]⟩,.slice none 0 0,.slice none 0 0,.int .i64 0,.int .i64 0,.int .i64 i.ln,.int .i64 i.cl] rfl rfl (fun h=>by cases h) (fun ad had jj uu hu=>by
  obtain rfl:(⟨G,0,none⟩:Addr)=ad:=by simpa using had
  rw[Addr.add_lit,Hf,cell_of_row _ _ _ _ _ _ hrG];simpa using hu) (by simp[Value.oneCell']) (by unfold maxLen;omega) (by omega) (by omega) ?_
 intro v9 w9 hown9 hgr9 hat9;have hx9:Ext (fun q=>v.ownBlock=some q) W8 w9:=Ext.of_grown hgr9 (fun q hq=> .inl hq);have hvO:∀q,v.ownBlock=some q→O q:=fun q hq=>hmk8.oi q (by rw[HV.out];exact hq);have hrow9:=hx9.heap hrow8 (fun hq=>by have:=(hmk8.ol _ (hvO _ hq)).1;omega);have hr19:=hx9.heap hr18 (fun hq=>by have:=HOLT.out _ (hvO _ hq);omega);obtain⟨ao9,c9,hv9⟩:=aD hown9;subst hv9;have hS9:S1 w9:=HSB.out _ ⟨by rw[←HV.out];exact(rowAt hrow9 11 rfl).1,hr19⟩;have hfz:=(rowAt hrow9 11 rfl).2;have hcl:w9.cell? ⟨m,11,none⟩=some v:=by rw[←HV.out];exact(rowAt hrow9 11 rfl).1
 refine hK _ _ hS9 ?_;clear hK;(try go_simp);refine zT 9 rfl HQ.out ?_;(try go_simp);refine zT 10 rfl HQ.out ?_;(try go_simp);refine zT 11 rfl HQ.out ?_;(try go_simp);refine zK rfl fun K' hK=> ?_;go_simp;refine hK _ _ ?_;clear hK;refine⟨by kernel_rfl, ?_⟩;obtain⟨WF,hWF⟩:=zE (w9.setCell ⟨m,11,none⟩ (.slice ao9 (I.length+1) c9));(try rw[hWF]);have hxF:Ext (·=m) w9 WF:=by rw[←hWF];exact Ext.set1 w9 m 11 _
 have hrowF:WF.heap[m]?=some (.cells (EI p X {s with iA:=ao9,iC:=c9} V.length (I.length+1) S.length) 236 (0,0)):=by rw[←hWF];exact Hz w9 m 11 _ _ _ hrow9
 have hx8F:Ext (fun q=>q=m∨v.ownBlock=some q) W8 WF:=(hx9.mono (fun q h=> .inr h)).trans hxF (fun q h=> .inl (.inl h));have hxall:Ext (fun q=>q=m∨v.ownBlock=some q) W1 WF:=(hx8.mono (fun q h=>h.elim)).trans hx8F (fun q h=> .inl h);have hlenF:(I++[i]).length=I.length+1:=by simp
 have hat9':∀k,(Value.slice ao9 (I.length+1) c9).ownBlock=some k→v.ownBlock=some k∨W8.heap.size≤k:=hat9;have hob:∀k,(Value.slice ao9 (I.length+1) c9).ownBlock=some k→k<WF.heap.size:=fun k hk=>Hd (hown9.lt k hk).2 hxF.size;have hobm:∀k,(Value.slice ao9 (I.length+1) c9).ownBlock=some k→m+1≤k:=fun k hk=>(hown9.lt k hk).1;have hMV:dA m p L X V (I++[i]) S O w WF:=by
  refine⟨fun q=>O q∨(Value.slice ao9 (I.length+1) c9).ownBlock=some q,{s with iA:=ao9,iC:=c9}, ?_, ?_,fun k hk=> ?_⟩
  ·refine⟨by rw[hlenF];exact hrowF,hmk8.pg.ext hx8F (fun k hk hq=> ?_),hmk8.hm,ah hmk8.vars hx8F (fun k hk hq=> ?_), ?_,fun k h1 h2=> ?_,fun k hk=> ?_,fun k hk=> ?_,fun k hk=> ?_,hmk8.seen.stay hx8F (fun a hne e hq=> ?_),hmk8.whic.stay hx8F (fun a hne e hq=> ?_),fun a hne e=>⟨(hmk8.ns a hne e).1,fun hq=> ?_⟩,hmk8.lV,by rw[hlenF];omega,hmk8.lS,hmk8.cS⟩
   ·have:=hmk8.hm
    rcases hq with h|h
    ·omega
    ·have:=(hmk8.ol _ (hvO _ h)).1;omega
   ·rcases hq with h|h
    ·have:=(hmk8.ol k (hmk8.ov k hk)).1;omega
    ·exact hmk8.dis k hk (by rw[HV.out];exact h)
   ·rw[hlenF,List.flatMap_append];exact ah hown9 hxF (fun k hk e=>by have:=hobm k hk;omega)
   ·rw[hlenF] at h2
    rcases hat9' k h2 with h|h
    ·exact hmk8.dis k h1 (by rw[HV.out];exact h)
    ·have:=(hmk8.ol k (hmk8.ov k h1)).2;omega
   ·exact .inl (hmk8.ov k hk)
   ·rw[hlenF] at hk;exact .inr hk
   ·rcases hk with h|h
    ·exact⟨(hmk8.ol k h).1,Hd (hmk8.ol k h).2 hx8F.size⟩
    ·exact⟨hobm k h,hob k h⟩
   ·rcases hq with h|h
    ·exact(hmk8.ns a hne (.inl e)).1 h
    ·exact(hmk8.ns a hne (.inl e)).2 (hvO _ h)
   ·rcases hq with h|h
    ·exact(hmk8.ns a hne (.inr e)).1 h
    ·exact(hmk8.ns a hne (.inr e)).2 (hvO _ h)
   ·rcases hq with h|h
    ·exact(hmk8.ns a hne e).2 h
    ·rcases hat9' _ h with h|h
     ·exact(hmk8.ns a hne e).2 (hvO _ h)
     ·have hlt:a.block<W8.heap.size:=by
       rcases e with e|e
       ·obtain⟨b,off,h1,h2,_⟩:=hmk8.seen hne
        rw[e] at h1;cases h1;exact h2
       ·obtain⟨b,off,h1,h2,_⟩:=hmk8.whic hne
        rw[e] at h1;cases h1;exact h2
      omega
  ·have hx01:Ext (fun _=>False) w W1:=Ext.of_below_size (by rw[hN];exact HB1.out)
   exact(hx01.mono (fun q h=>h.elim)).trans hxall (fun q h=>by
    rcases h with h|h
    ·exact .inl (.inl h)
    ·exact .inl (.inr (hvO _ h)))
  ·rcases hk with h|h
   ·exact .inl h
   ·rcases hat9' k h with h|h
    ·exact .inl (hvO _ h)
    ·right;have:=hx8.size;have:=HB1.out.size;omega
 have HMV:=zH hMV;have cF:WF.cell? ⟨m,11,none⟩=some (.slice ao9 (I.length+1) c9):=(rowAt hrowF 11 rfl).1;have HLEN:=zH hlenF;have hlen9:(((I.length+1:Nat):Int))-1=(I.length:Int):=by omega
 clear hWF hxF hx8F hxall hat9' hob hobm hMV hrowF hown9 hgr9 hat9 hx9 hvO hrow9 hr19 hS9 hfz hcl hmk8 hown8 hrow8 hr18 hx8 hb8 hrG hW8 hG hi0 hi1 hi2 hi3;go_wp2;go_ret;exact⟨by go_num,HMV.out⟩
theorem Ay {S:List (ByteArray×Nat)}{nm:ByteArray}{j i:Nat}{x:ByteArray×Nat}(hj:S[j]?=some x)(hn:(x.1==nm)=true)(hl:∀q y,j<q→S[q]?=some y→(y.1==nm)=false)(hi:j≤i){y:ByteArray×Nat}(hy:S[i]?=some y):
  (i=j∧y=x∧(y.1.toList==nm.toList)=true)∨(j<i∧(y.1.toList==nm.toList)=false):=by
 rcases Nat.lt_or_eq_of_le hi with h|h
 ·exact .inr ⟨h,by rw[←beq_toListBytes];exact hl i y h hy⟩
 ·subst h
  rw[hj] at hy;cases hy;exact .inl ⟨rfl,rfl,by rw[←beq_toListBytes];exact hn⟩
theorem wL {m:Nat}{p:Pg}{L:Nat}{X:Fx}{V:List Ty}{I:List fV}{S:List (ByteArray×Nat)}{O:Nat→Prop}{s:Sl}(nm:ByteArray)(j:Nat)(x:ByteArray×Nat)(hj:S[j]?=some x)(hn:(x.1==nm)=true)(hl:∀q y,j<q→S[q]?=some y→(y.1==nm)=false)(w:H5)(h:Mk m p L X V I S O s w):
  zS 218 #[.pointer (some ⟨m,0,none⟩),.string nm] w (.int .i64 (x.2:Int)):=by
 have hne:S≠[]:=by intro e;rw[e] at hj;simp at hj
 obtain⟨b,off,hA,hb,hc⟩:=h.seen hne;obtain⟨b2,off2,hA2,hb2,hc2⟩:=h.whic hne;have c12:w.cell? ⟨m,12,none⟩=some (.slice (some ⟨b,off,none⟩) S.length s.sC):=by rw[←hA];exact(rowAt h.row 12 rfl).1
 have c13:w.cell? ⟨m,13,none⟩=some (.slice (some ⟨b2,off2,none⟩) S.length s.wC):=by rw[←hA2];exact(rowAt h.row 13 rfl).1
 have hm:=ae h.row;have hlS:=h.lS;have hjl:j<S.length:=(GQ.1 hj).1;have HC:=zH hc;have HC2:=zH hc2;have HST:Ia (∀i y,j≤i→S[i]?=some y→(i=j∧y=x∧(y.1.toList==nm.toList)=true)∨(j<i∧(y.1.toList==nm.toList)=false)):=fun i y hi hy=>Ay hj hn hl hi hy;clear h hc hc2 hj hn hl hA hA2;go_enter func218,ntmps218;go_wp2
 go_loop [5] (fun k=>∃i:Nat,k= .int .i64 (i:Int)∧j≤i∧i<S.length) (fun k=>(intOf k).toNat)
 case atStart=>exact⟨S.length-1,by rw[show((S.length-1:Nat):Int)=(S.length:Int)-1 by omega],by omega,by omega⟩
 case round=>
  obtain⟨i,rfl,hji,hi⟩:=hrel;have hiI:(i:Int)<(S.length:Int):=by omega
  obtain⟨y,hy⟩:∃y,S[i]?=some y:=⟨_,GN hi⟩
  have k0:=HC.out i y hy 0 _ rfl;have k1:=HC2.out i y hy 0 _ rfl;rw[Nat.add_zero,Nat.mul_one] at k0 k1;rcases HST.out i y hji hy with⟨rfl,rfl,ht⟩|⟨hlt,ht⟩
  ·clear HST HC HC2 hy
   go_wp2;go_ret;exact⟨rfl,rfl⟩
  ·clear HST HC HC2 hy
   go_wp2
   go_round
   case rel=>exact⟨i-1,by rw[show((i-1:Nat):Int)=(i:Int)-1 by omega],by omega,by omega⟩
   case measure=>simp[intOf];omega
def zZ (x:Int)(V:List Ty):Int:=if 0≤x then x else V.length
def DK (x:Int)(V:List Ty)(y:Ty):List Ty:=if 0≤x then V else V++[y]
theorem Mk.same {m:Nat}{p:Pg}{L:Nat}{X:Fx}{V:List Ty}{I:List fV}{S:List (ByteArray×Nat)}{O:Nat→Prop}{s:Sl}{w w':H5}(h:Mk m p L X V I S O s w)(hb:H9 w.heap.size w w'):dA m p L X V I S O w w':=
 ⟨O,s,h.grow hb,(Ext.of_below_size (M:=fun _=>False) hb).mono (fun _ h=>h.elim),fun _ h=> .inl h⟩
theorem dA.below {m:Nat}{p:Pg}{L:Nat}{X:Fx}{V:List Ty}{I:List fV}{S:List (ByteArray×Nat)}{O:Nat→Prop}{w w1 w2:H5}(hb:H9 w.heap.size w w1)(h:dA m p L X V I S O w1 w2):dA m p L X V I S O w w2:=
 dA.trans ((Ext.of_below_size (M:=fun _=>False) hb).mono (fun _ h=>h.elim)) (fun _ h=> .inl h) h
theorem qL {m:Nat}{p:Pg}{L:Nat}{X:Fx}{V:List Ty}{I:List fV}{S:List (ByteArray×Nat)}{O:Nat→Prop}{s:Sl}(x:Int)(y:Ty)(w:H5)(h:Mk m p L X V I S O s w)(hl:V.length+1≤1000):
  Calls prog 246 #[.pointer (some ⟨m,0,none⟩),.int .i64 x,.agg #[.bool y.1,.string y.2]] w fun e w'=>e= .returned (.int .i64 (zZ x V))∧dA m p L X (DK x V y) I S O w w':=by
 obtain⟨N,hN⟩:=zE w.heap.size;obtain⟨W1,hW1⟩:=zE (w.alloc (.cells #[.bool y.1,.string y.2] 32));have hb1:=gZ hW1 hN;have hr1:W1.heap[N]?=some (.cells #[.bool y.1,.string y.2] 32 (0,0)):=by rw[←hW1,←hN];exact alloc_at _ _
 have h1:Mk m p L X V I S O s W1:=h.grow (by rw[hN];exact hb1);have HF:=zH (l7 y W1 h1 hl);have HS:Ia (dA m p L X V I S O w W1):=h.same (by rw[hN];exact hb1);have HB1:Ia (H9 w.heap.size w W1):=by rw[hN];exact hb1
 obtain⟨⟨t0,t1⟩,⟨q0,q1⟩,hN1⟩:=bZ hr1;have HW1:=zH hW1;unfold zZ DK;clear h hW1 hb1 hr1 h1
 by_cases hx:0≤x
 ·rw[if_pos hx,if_pos hx]
  go_enter func246,ntmps246
  go_upto_region 1 with(fail)
  rw[HW1.out];go_wp2;go_ret;exact⟨rfl,HS.out⟩
 ·rw[if_neg hx,if_neg hx]
  have hx':x<0:=by omega
  go_enter func246,ntmps246
  go_upto_region 1 with(fail)
  rw[HW1.out]
  go_wp2_with (go_at_call 131;refine HF.out.mono ?_;rintro e w2 ⟨rfl,hm2⟩;have HM2:=zH (hm2.below HB1.out);clear hm2)
  go_ret;exact⟨rfl,HM2.out⟩
theorem yw {m:Nat}{p:Pg}{L:Nat}{X:Fx}{V:List Ty}{I:List fV}{S:List (ByteArray×Nat)}{O:Nat→Prop}{s:Sl}(n:Int)(nm:ByteArray)(ln cl:Int)(wt:Ty)(x:Int)(w:H5)(h:Mk m p L X V I S O s w)(hlV:V.length+1≤1000)(hlI:I.length+1≤1000):
  Calls prog 217 #[.pointer (some ⟨m,0,none⟩),.agg #[.int .i64 1,.int .i64 n,.string nm,.string ⟨#[]⟩,.slice none 0 0,.int .i64 ln,.int .i64 cl],.agg #[.bool wt.1,.string wt.2],.int .i64 x] w fun e w'=>e= .returned (.int .i64 (zZ x V))∧dA m p L X (DK x V bF) (I++[⟨1,zZ x V,0,0,n,ln,cl⟩]) S O w w':=by
 obtain⟨N,hN⟩:=zE w.heap.size;obtain⟨W2,hW2⟩:=zE ((w.alloc (.cells #[.int .i64 1,.int .i64 n,.string nm,.string ⟨#[]⟩,.slice none 0 0,.int .i64 ln,.int .i64 cl] 313)).alloc (.cells #[.bool wt.1,.string wt.2] 32));obtain⟨W3,hW3⟩:=zE (W2.alloc (.cells #[.bool false,.string ⟨#[]⟩] 32));have hb2:=uG hW2 hN;have hs2:W2.heap.size=N+2:=by rw[←hW2];simp[hN]
 have hb3:H9 N w W3:=by rw[←hW3];exact hb2.alloc (by omega) _
 have hs3:W3.heap.size=N+3:=by rw[←hW3];simp[hs2]
 have hr0:W3.heap[N]?=some (.cells #[.int .i64 1,.int .i64 n,.string nm,.string ⟨#[]⟩,.slice none 0 0,.int .i64 ln,.int .i64 cl] 313 (0,0)):=by
  rw[←hW3];refine(Hy _ _ N (by omega)).trans ?_;rw[←hW2,←hN];exact heap_alloc2_old _ _ _
 have hr2:W3.heap[N+2]?=some (.cells #[.bool false,.string ⟨#[]⟩] 32 (0,0)):=by rw[←hW3,←hs2];exact alloc_at _ _
 have h3:Mk m p L X V I S O s W3:=h.grow (by rw[hN];exact hb3);have hmN:m<N:=by have:=ae h.row;omega
 have hON:¬(N=m∨O N):=by rintro(h1|h1);omega;have:=(h.ol N h1).2;omega
 have hst:∀(c:Array Value),c.size=2→(storeCells ⟨W2.heap.size,0,none⟩ [.bool false,.string ⟨#[]⟩] 0).run prog (W2.alloc (.cells c 32))= .ok () (W2.alloc (.cells #[.bool false,.string ⟨#[]⟩] 32)):=fun c hc=>
  run_storeCells_new (P:=prog) W2 32 c #[.bool false,.string ⟨#[]⟩] (by show _=some 2;kernel_rfl) hc (by simp[Value.oneCell'])
 have hB3:H9 w.heap.size w W3:=by rw[hN];exact hb3
 have HST:=zH hst;have HW2:=zH hW2;have HW3:=zH hW3;have HB3:=zH hB3;have HR0:=zH hr0;have HON:=zH hON;have HSZ3:=zH hs3;have HHN:=zH hN;have HTO:=zH (qL x bF W3 h3 hlV);clear h hW2 hW3 hb2 hb3 hs3 h3 hst hB3 hON;go_enter func217,ntmps217
 go_upto_region 1 with(fail)
 rw[HW2.out];have hst2:=HST.out
 go_upto_region 2 with(fail)
 rw[HW3.out];(try simp only[hs2]);clear hst2;obtain⟨⟨a0,a1,a2,a3,a4,a5,a6⟩,_,hN3⟩:=ed hr0;obtain⟨⟨e0,e1⟩,_,hN23⟩:=bZ hr2;clear hr0 hr2
 go_upto_region 5 with(go_at_call 246;refine HTO.out.mono ?_;rintro e w4 ⟨rfl,hm4⟩;have HM4:=zH hm4;clear hm4)
 obtain⟨O4,s4,k4,x4,o4⟩:=HM4.out;have hr04:=x4.heap HR0.out HON.out;obtain⟨⟨b0,b1,b2,b3,b4,b5,b6⟩,_,hN4⟩:=ed hr04;have HEM:=zH (iG ⟨1,zZ x V,0,0,n,ln,cl⟩ w4 k4 hlI);have HTR:Ia (∀w5,dA m p L X (DK x V bF) (I++[⟨1,zZ x V,0,0,n,ln,cl⟩]) S O4 w4 w5→dA m p L X (DK x V bF) (I++[⟨1,zZ x V,0,0,n,ln,cl⟩]) S O w w5):=fun w5 h5=>(dA.trans x4 o4 h5).below HB3.out;clear k4 x4 o4 hr04 a0 a1 a2 a3 a4 a5 a6 e0 e1
 go_wp2_with (go_at_call 223;refine HEM.out.mono ?_;rintro e w5 ⟨rfl,hm5⟩;have HM5:=zH (HTR.out _ hm5);clear hm5)
 go_ret;exact⟨rfl,HM5.out⟩
theorem yx {m:Nat}{p:Pg}{L:Nat}{X:Fx}{V:List Ty}{I:List fV}{S:List (ByteArray×Nat)}{O:Nat→Prop}{s:Sl}(n:Int)(nm:ByteArray)(ln cl:Int)(wt:Ty)(x:Int)(w:H5)(h:Mk m p L X V I S O s w)(hlV:V.length+1≤1000)(hlI:I.length+1≤1000):
  Calls prog 217 #[.pointer (some ⟨m,0,none⟩),.agg #[.int .i64 7,.int .i64 n,.string nm,.string ⟨#[]⟩,.slice none 0 0,.int .i64 ln,.int .i64 cl],.agg #[.bool wt.1,.string wt.2],.int .i64 x] w fun e w'=>e= .returned (.int .i64 (zZ x V))∧dA m p L X (DK x V (true,nm)) (I++[⟨12,zZ x V,0,mZ p nm,0,ln,cl⟩]) S O w w':=by
 obtain⟨N,hN⟩:=zE w.heap.size;obtain⟨W2,hW2⟩:=zE ((w.alloc (.cells #[.int .i64 7,.int .i64 n,.string nm,.string ⟨#[]⟩,.slice none 0 0,.int .i64 ln,.int .i64 cl] 313)).alloc (.cells #[.bool wt.1,.string wt.2] 32));obtain⟨W3,hW3⟩:=zE (W2.alloc (.cells #[.bool false,.string ⟨#[]⟩] 32));have hb2:=uG hW2 hN;have hs2:W2.heap.size=N+2:=by rw[←hW2];simp[hN]
 have hb3:H9 N w W3:=by rw[←hW3];exact hb2.alloc (by omega) _
 have hs3:W3.heap.size=N+3:=by rw[←hW3];simp[hs2]
 have hr0:W3.heap[N]?=some (.cells #[.int .i64 7,.int .i64 n,.string nm,.string ⟨#[]⟩,.slice none 0 0,.int .i64 ln,.int .i64 cl] 313 (0,0)):=by
  rw[←hW3];refine(Hy _ _ N (by omega)).trans ?_;rw[←hW2,←hN];exact heap_alloc2_old _ _ _
 have hr2:W3.heap[N+2]?=some (.cells #[.bool false,.string ⟨#[]⟩] 32 (0,0)):=by rw[←hW3,←hs2];exact alloc_at _ _
 have h3:Mk m p L X V I S O s W3:=h.grow (by rw[hN];exact hb3);have hmN:m<N:=by have:=ae h.row;omega
 have hON:¬(N=m∨O N):=by rintro(h1|h1);omega;have:=(h.ol N h1).2;omega
 have hst:∀(c:Array Value),c.size=2→(storeCells ⟨W2.heap.size,0,none⟩ [.bool false,.string ⟨#[]⟩] 0).run prog (W2.alloc (.cells c 32))= .ok () (W2.alloc (.cells #[.bool false,.string ⟨#[]⟩] 32)):=fun c hc=>
  run_storeCells_new (P:=prog) W2 32 c #[.bool false,.string ⟨#[]⟩] (by show _=some 2;kernel_rfl) hc (by simp[Value.oneCell'])
 have hB3:H9 w.heap.size w W3:=by rw[hN];exact hb3
 have HST:=zH hst;have HW2:=zH hW2;have HW3:=zH hW3;have HB3:=zH hB3;have HR0:=zH hr0;have HON:=zH hON;have HSZ3:=zH hs3;have HHN:=zH hN;have HTO:=zH (qL x (true,nm) W3 h3 hlV);clear h hW2 hW3 hb2 hb3 hs3 h3 hst hB3 hON;go_enter func217,ntmps217
 go_upto_region 1 with(fail)
 rw[HW2.out];have hst2:=HST.out
 go_upto_region 2 with(fail)
 rw[HW3.out];(try simp only[hs2]);clear hst2;obtain⟨⟨a0,a1,a2,a3,a4,a5,a6⟩,_,hN3⟩:=ed hr0;obtain⟨⟨e0,e1⟩,_,hN23⟩:=bZ hr2;clear hr0 hr2
 go_upto_region 33 with(go_at_call 246;refine HTO.out.mono ?_;rintro e w4 ⟨rfl,hm4⟩;have HM4:=zH hm4;clear hm4)
 obtain⟨O4,s4,k4,x4,o4⟩:=HM4.out;have hr04:=x4.heap HR0.out HON.out;have hN4:=ae hr04;have hm4:=ae k4.row;have hce:∀W,H9 w4.heap.size w4 W→W.cell? ⟨N,0,none⟩=some (.int .i64 7)∧W.cell? ⟨N,1,none⟩=some (.int .i64 n)∧W.cell? ⟨N,2,none⟩=some (.string nm)∧W.cell? ⟨N,3,none⟩=some (.string ⟨#[]⟩)∧W.cell? ⟨N,4,none⟩=some (.slice none 0 0)∧W.cell? ⟨N,5,none⟩=some (.int .i64 ln)∧W.cell? ⟨N,6,none⟩=some (.int .i64 cl)∧W.cell? ⟨m,0,none⟩=some (.slice (some ⟨p.pA,0,none⟩) 1 p.pC)∧W.cell? ⟨m,1,none⟩=some (.slice (some ⟨p.qA,0,none⟩) 1 p.qC):=fun W hW=>by
  have r1:=(hW.block N hN4).trans hr04;have r2:=(k4.grow hW).row;exact⟨(rowAt r1 0 rfl).1,(rowAt r1 1 rfl).1,(rowAt r1 2 rfl).1,(rowAt r1 3 rfl).1,(rowAt r1 4 rfl).1,(rowAt r1 5 rfl).1,(rowAt r1 6 rfl).1,(rowAt r2 0 rfl).1,(rowAt r2 1 rfl).1⟩
 have hSX:∀W,H9 w4.heap.size w4 W→zP 212 #[.agg #[.slice (some ⟨p.pA,0,none⟩) 1 p.pC,.slice (some ⟨p.qA,0,none⟩) 1 p.qC],.string nm] W (.int .i64 (mZ p nm)):=fun W hW=>fU nm W (k4.grow hW).pg;have HEM:Ia (∀W,H9 w4.heap.size w4 W→Calls prog 223 #[.pointer (some ⟨m,0,none⟩),.agg #[.int .i64 12,.int .i64 (zZ x V),.int .i64 0,.int .i64 0,.int .i64 (mZ p nm),.int .i64 0,.string ⟨#[]⟩,.slice none 0 0,.slice none 0 0,.int .i64 0,.int .i64 0,.int .i64 ln,.int .i64 cl]] W fun e w'=>e= .returned (.int .i64 (I.length:Int))∧dA m p L X (DK x V (true,nm)) (I++[⟨12,zZ x V,0,mZ p nm,0,ln,cl⟩]) S O w w'):=fun W hW=>
  (iG ⟨12,zZ x V,0,mZ p nm,0,ln,cl⟩ W (k4.grow hW) hlI).mono fun e w5 h5=>⟨h5.1,(dA.trans x4 o4 (h5.2.below hW)).below HB3.out⟩
 have HCE:=zH hce;have HSX:=zH hSX;obtain⟨S1,hS1⟩:=zE ((fun w'=>H9 w4.heap.size w4 w'):H5→Prop);have hSS:∀w,S1 w→H9 w4.heap.size w4 w:=fun w h=>by rw[←hS1] at h;exact h
 have hSB:∀w,H9 w4.heap.size w4 w→S1 w:=fun w h=>by rw[←hS1];exact h
 have hS0:S1 w4.drew:=hSB _ (Hw _ _).drew;have HSS:=zH hSS;have HSB:=zH hSB;clear k4 x4 o4 hr04 hce hSX hS1 hSS hSB a0 a1 a2 a3 a4 a5 a6 e0 e1 hm4;refine aj 12 S1 (by kernel_rfl) ?_;refine zT 0 rfl (fun w h=>HCE.out w (HSS.out w h)) ?_;(try go_simp);refine zT 1 rfl (fun w h=>HCE.out w (HSS.out w h)) ?_;(try go_simp);refine zT 2 rfl (fun w h=>HCE.out w (HSS.out w h)) ?_;(try go_simp);refine zT 3 rfl (fun w h=>HCE.out w (HSS.out w h)) ?_;(try go_simp);refine zT 4 rfl (fun w h=>HCE.out w (HSS.out w h)) ?_;(try go_simp);refine zT 5 rfl (fun w h=>HCE.out w (HSS.out w h)) ?_;(try go_simp);refine zT 6 rfl (fun w h=>HCE.out w (HSS.out w h)) ?_;(try go_simp);refine zT 7 rfl (fun w h=>HCE.out w (HSS.out w h)) ?_;(try go_simp);refine zT 9 rfl (fun w h=>HCE.out w (HSS.out w h)) ?_;(try go_simp);refine zT 10 rfl (fun w h=>HCE.out w (HSS.out w h)) ?_;(try go_simp);refine zO 8 rfl fun K' hK=> ?_;go_simp;go_at_call 212;refine(HSX.out _ (HSS.out _ (by assumption))).mono ?_;rintro e w5 ⟨rfl,hb5⟩;have hS5:S1 w5:=HSB.out _ ((HSS.out _ hS0).trans (hb5.mono (HSS.out _ hS0).size));have HS5:=zH hS5;refine hK _ _ hS5 ?_;clear hK;(try go_simp);refine zT 11 rfl (fun w h=>HCE.out w (HSS.out w h)) ?_;(try go_simp);refine zK rfl fun K' hK=> ?_;go_simp;go_at_call 223;refine(HEM.out _ (HSS.out _ HS5.out)).mono ?_;rintro e w6 ⟨rfl,hm6⟩;refine hK _ _ ?_;clear hK;refine⟨by kernel_rfl, ?_⟩;have HM6:=zH hm6;clear hm6 hb5 hS5 hS0;go_wp2;go_ret;exact⟨rfl,HM6.out⟩
theorem Az {m:Nat}{p:Pg}{L:Nat}{X:Fx}{V:List Ty}{I:List fV}{S:List (ByteArray×Nat)}{O:Nat→Prop}{s:Sl}(hos:X.os= .slice none 0 0)(tb:Bool)(ts nm:ByteArray)(g cp:Nat)(ex:Ex)(hg:g<L∧∀(j:Nat)(u:Value),ex.cells.toList[j]?=some u→∀W,jh p L W→W.cell? ⟨g,j,none⟩=some u)(d:Int)(V2:List Ty)(I2:List fV)(hlI:I2.length+1≤1000)
  (hval:∀W O s,Mk m p L X V I S O s W→Calls prog 217 #[.pointer (some ⟨m,0,none⟩),.agg ex.cells,.agg #[.bool X.rt.1,.string X.rt.2],.int .i64 (-1)] W fun e w'=>e= .returned (.int .i64 d)∧dA m p L X V2 I2 S O W w')(ln cl:Int)(w:H5)(h:Mk m p L X V I S O s w):
  Calls prog 180 #[.pointer (some ⟨m,0,none⟩),.agg #[.int .i64 8,.bool tb,.string ts,.string nm,.slice (some ⟨g,0,none⟩) 1 cp,.slice none 0 0,.slice none 0 0,.int .i64 ln,.int .i64 cl]] w fun e w'=>e= .returned (.tuple #[])∧dA m p L X V2 (I2++[⟨18,0,d,0,0,ln,cl⟩]) S O w w':=by
 obtain⟨N,hN⟩:=zE w.heap.size;obtain⟨W1,hW1⟩:=zE (w.alloc (.cells #[.int .i64 8,.bool tb,.string ts,.string nm,.slice (some ⟨g,0,none⟩) 1 cp,.slice none 0 0,.slice none 0 0,.int .i64 ln,.int .i64 cl] 282));have hb1:=gZ hW1 hN;have hr1:W1.heap[N]?=some (.cells #[.int .i64 8,.bool tb,.string ts,.string nm,.slice (some ⟨g,0,none⟩) 1 cp,.slice none 0 0,.slice none 0 0,.int .i64 ln,.int .i64 cl] 282 (0,0)):=by rw[←hW1,←hN];exact alloc_at _ _
 have hN1:=ae hr1;have h1:Mk m p L X V I S O s W1:=h.grow (by rw[hN];exact hb1);have hB1:H9 w.heap.size w W1:=by rw[hN];exact hb1
 have hm1:=ae h1.row;have hmN:m<N:=by have:=ae h.row;omega
 have hON:¬(N=m∨O N):=by rintro(h1|h1);omega;have:=(h.ol N h1).2;omega
 have c15:W1.cell? ⟨m,15,none⟩=some (.int .i64 0):=(rowAt h1.row 15 rfl).1;have c19:W1.cell? ⟨m,19,none⟩=some (.slice none 0 0):=by rw[←hos];exact(rowAt h1.row 19 rfl).1
 obtain⟨⟨a0,a1,a2,a3,a4,a5,a6,a7,a8⟩,_,_⟩:=fq hr1;have HW1:=zH hW1;have HB1:=zH hB1;have HR1:=zH hr1;have HON:=zH hON;have HHN:=zH hN;obtain⟨S1,hS1⟩:=zE ((fun w':H5=>w'.cell? ⟨g,0,none⟩=some (.int .i64 ex.kind)∧w'.cell? ⟨g,1,none⟩=some (.int .i64 ex.n)∧w'.cell? ⟨g,2,none⟩=some (.string ex.nm)∧w'.cell? ⟨g,3,none⟩=some (.string ⟨#[]⟩)∧w'.cell? ⟨g,4,none⟩=some (.slice none 0 0)∧w'.cell? ⟨g,5,none⟩=some (.int .i64 ex.ln)∧w'.cell? ⟨g,6,none⟩=some (.int .i64 ex.cl)∧w'.cell? ⟨m,2,none⟩=some (.bool X.rt.1)∧w'.cell? ⟨m,3,none⟩=some (.string X.rt.2)∧w'.cell? ⟨N,4,none⟩=some (.slice (some ⟨g,0,none⟩) 1 cp)):H5→Prop);have hce:∀w,S1 w→_:=fun w h=>by rw[←hS1] at h;exact h
 have hof:∀W V I O s,Mk m p L X V I S O s W→W.cell? ⟨N,4,none⟩=some (.slice (some ⟨g,0,none⟩) 1 cp)→S1 W:=fun W V I O s hk hc=>by
  rw[←hS1];exact⟨hg.2 0 _ rfl W hk.pg,hg.2 1 _ rfl W hk.pg,hg.2 2 _ rfl W hk.pg,hg.2 3 _ rfl W hk.pg,hg.2 4 _ rfl W hk.pg,hg.2 5 _ rfl W hk.pg,hg.2 6 _ rfl W hk.pg,(rowAt hk.row 2 rfl).1,(rowAt hk.row 3 rfl).1,hc⟩
 have h1d:Mk m p L X V I S O s W1.drew:=h1.grow (Hw _ _).drew;have hS0:S1 W1.drew:=hof _ _ _ _ _ h1d a4;have hV:=hval W1.drew O s h1d;unfold Ex.cells at hV;have HV:=zH hV;have HCE:=zH hce;have HOF:=zH hof;clear h h1 hW1 hb1 hr1 hB1 hON hos h1d hS1 hce hof hV hval hg;go_enter func180,ntmps180
 go_upto_region 1 with(fail)
 rw[HW1.out]
 go_upto_region 24 with(fail)
 refine aj 10 S1 (by kernel_rfl) ?_;refine zT 0 rfl HCE.out ?_;(try go_simp);refine zT 1 rfl HCE.out ?_;(try go_simp);refine zT 2 rfl HCE.out ?_;(try go_simp);refine zT 3 rfl HCE.out ?_;(try go_simp);refine zT 4 rfl HCE.out ?_;(try go_simp);refine zT 5 rfl HCE.out ?_;(try go_simp);refine zT 6 rfl HCE.out ?_;(try go_simp);refine zT 7 rfl HCE.out ?_;(try go_simp);refine zT 8 rfl HCE.out ?_;(try go_simp);refine zO 9 rfl fun K' hK=> ?_;go_simp;go_at_call 217;refine HV.out.mono ?_;rintro e w4 ⟨rfl,O4,s4,k4,x4,o4⟩;have x14:Ext (fun q=>q=m∨O q) W1 w4:=((Ext.refl _ _).drew).trans x4 (fun q h=> .inl h);have hr4:=x14.heap HR1.out HON.out;have hS4:S1 w4:=HOF.out _ _ _ _ _ k4 (rowAt hr4 4 rfl).1;obtain⟨⟨b0,b1,b2,b3,b4,b5,b6,b7,b8⟩,_,hN4⟩:=fq hr4;have HEM:=zH (iG ⟨18,0,d,0,0,ln,cl⟩ w4 k4 hlI);have HTR:Ia (∀w5,dA m p L X V2 (I2++[⟨18,0,d,0,0,ln,cl⟩]) S O4 w4 w5→dA m p L X V2 (I2++[⟨18,0,d,0,0,ln,cl⟩]) S O w w5):=fun w5 h5=>(dA.trans x14 o4 h5).below HB1.out;refine hK _ _ hS4 ?_;clear hK k4 x4 o4 hr4 a0 a1 a2 a3 a4 a5 a6 a7 a8 c15 c19;(try go_simp);refine zK rfl fun K' hK=> ?_;go_simp;refine hK _ _ ?_;clear hK;refine⟨by kernel_rfl, ?_⟩;clear hS4 hS0 x14
 go_wp2_with (go_at_call 223;refine HEM.out.mono ?_;rintro e w5 ⟨rfl,hm5⟩;have HM5:=zH (HTR.out _ hm5);clear hm5)
 go_end0
 exact⟨rfl,HM5.out⟩
theorem yz {m:Nat}{p:Pg}{L:Nat}{X:Fx}{V:List Ty}{I:List fV}{S:List (ByteArray×Nat)}{O:Nat→Prop}{s:Sl}(hos:X.os= .slice none 0 0)(tb:Bool)(ts nm:ByteArray)(eo:Option Addr)(en ec:Nat)(j:Nat)(z:ByteArray×Nat)(hj:S[j]?=some z)(hn:(z.1==nm)=true)(hl:∀q y,j<q→S[q]?=some y→(y.1==nm)=false)(hlI:I.length+1≤1000)(ln cl:Int)(w:H5)(h:Mk m p L X V I S O s w):
  Calls prog 180 #[.pointer (some ⟨m,0,none⟩),.agg #[.int .i64 9,.bool tb,.string ts,.string nm,.slice eo en ec,.slice none 0 0,.slice none 0 0,.int .i64 ln,.int .i64 cl]] w fun e w'=>e= .returned (.tuple #[])∧dA m p L X V (I++[⟨13,0,(z.2:Int),0,0,ln,cl⟩]) S O w w':=by
 obtain⟨N,hN⟩:=zE w.heap.size;obtain⟨W1,hW1⟩:=zE (w.alloc (.cells #[.int .i64 9,.bool tb,.string ts,.string nm,.slice eo en ec,.slice none 0 0,.slice none 0 0,.int .i64 ln,.int .i64 cl] 282));have hb1:=gZ hW1 hN;have hr1:W1.heap[N]?=some (.cells #[.int .i64 9,.bool tb,.string ts,.string nm,.slice eo en ec,.slice none 0 0,.slice none 0 0,.int .i64 ln,.int .i64 cl] 282 (0,0)):=by rw[←hW1,←hN];exact alloc_at _ _
 have hN1:=ae hr1;have h1:Mk m p L X V I S O s W1:=h.grow (by rw[hN];exact hb1);have hB1:H9 w.heap.size w W1:=by rw[hN];exact hb1
 have hm1:=ae h1.row;have hmN:m<N:=by have:=ae h.row;omega
 have hON:¬(N=m∨O N):=by rintro(h1|h1);omega;have:=(h.ol N h1).2;omega
 have c15:W1.cell? ⟨m,15,none⟩=some (.int .i64 0):=(rowAt h1.row 15 rfl).1;have c19:W1.cell? ⟨m,19,none⟩=some (.slice none 0 0):=by rw[←hos];exact(rowAt h1.row 19 rfl).1
 obtain⟨⟨a0,a1,a2,a3,a4,a5,a6,a7,a8⟩,_,_⟩:=fq hr1;have HW1:=zH hW1;have HB1:=zH hB1;have HR1:=zH hr1;have HON:=zH hON;have HHN:=zH hN;obtain⟨S1,hS1⟩:=zE ((fun w'=>H9 W1.heap.size W1 w'):H5→Prop);have hSS:∀w,S1 w→H9 W1.heap.size W1 w:=fun w h=>by rw[←hS1] at h;exact h
 have hS0:S1 W1.drew:=by rw[←hS1];exact(Hw _ _).drew
 have hce:∀W,S1 W→W.cell? ⟨N,0,none⟩=some (.int .i64 9)∧W.cell? ⟨N,1,none⟩=some (.bool tb)∧W.cell? ⟨N,2,none⟩=some (.string ts)∧W.cell? ⟨N,3,none⟩=some (.string nm)∧W.cell? ⟨N,4,none⟩=some (.slice eo en ec)∧W.cell? ⟨N,5,none⟩=some (.slice none 0 0)∧W.cell? ⟨N,6,none⟩=some (.slice none 0 0)∧W.cell? ⟨N,7,none⟩=some (.int .i64 ln)∧W.cell? ⟨N,8,none⟩=some (.int .i64 cl):=fun W hW=>by
  have r1:=((hSS W hW).block N hN1).trans hr1;exact⟨(rowAt r1 0 rfl).1,(rowAt r1 1 rfl).1,(rowAt r1 2 rfl).1,(rowAt r1 3 rfl).1,(rowAt r1 4 rfl).1,(rowAt r1 5 rfl).1,(rowAt r1 6 rfl).1,(rowAt r1 7 rfl).1,(rowAt r1 8 rfl).1⟩
 have HCE:=zH hce;have h1d:Mk m p L X V I S O s W1.drew:=h1.grow (Hw _ _).drew;have HLK:=zH (wL nm j z hj hn hl W1.drew h1d);have HEM:=zH (iG ⟨13,0,(z.2:Int),0,0,ln,cl⟩ W1.drew h1d hlI);have HTR:Ia (∀w5,dA m p L X V (I++[⟨13,0,(z.2:Int),0,0,ln,cl⟩]) S O W1.drew w5→dA m p L X V (I++[⟨13,0,(z.2:Int),0,0,ln,cl⟩]) S O w w5):=fun w5 h5=>(h5.below (Hw _ _).drew).below HB1.out;clear h h1 hW1 hb1 hr1 hB1 hON hos h1d hS1 hce hSS hj hn hl;go_enter func180,ntmps180
 go_upto_region 1 with(fail)
 rw[HW1.out]
 go_upto_region 27 with(fail)
 refine aj 8 S1 (by kernel_rfl) ?_;refine zT 0 rfl HCE.out ?_;(try go_simp);refine zT 1 rfl HCE.out ?_;(try go_simp);refine zT 2 rfl HCE.out ?_;(try go_simp);refine zT 3 rfl HCE.out ?_;(try go_simp);refine zT 5 rfl HCE.out ?_;(try go_simp);refine zT 6 rfl HCE.out ?_;(try go_simp);refine zO 4 rfl fun K' hK=> ?_;go_simp;go_at_call 218;refine HLK.out.mono ?_;rintro e _ ⟨rfl,rfl⟩;refine hK _ _ hS0 ?_;clear hK;(try go_simp);refine zT 7 rfl HCE.out ?_;(try go_simp);refine zK rfl fun K' hK=> ?_;go_simp;go_at_call 223;refine HEM.out.mono ?_;rintro e w6 ⟨rfl,hm6⟩;refine hK _ _ ?_;clear hK;refine⟨by kernel_rfl, ?_⟩;have HM6:=zH (HTR.out _ hm6);clear hm6 hS0;go_wp2
 go_end0
 exact⟨rfl,HM6.out⟩
theorem bI {P:Program}{w:H5}{o:Oper}{a:Act}{Q:Exit→Act→H5→Prop}{K:Act→H5→Prop}(s x:Operand)(t:TypeId)
  (hop:o.op= .call {callee:= .builtin .append,args:=#[s,x],argTypes:=#[t,t]})(e:TypeId)(i:TypeInfo)(z:Value)(size bytes:Nat)(h1:P.underlying t=some (.slice e))(h2:P.info? e=some i)(h3:i.zero=some z)(h4:i.size=size)(h5:i.bytes=bytes)(h6:z.cells.size=size)(h7:0<size)
  (ao:Option Addr)(n cap:Nat)(olds:List Value)(hs:a.eval s= .slice ao n cap)(hnone:ao=none→n=0∧cap=0)(hlo:olds.length=n*size)(holds:∀b,ao=some b→∀j u,olds[j]?=some u→w.cell? (b.add j)=some u)
  (ad:Addr)(m c:Nat)(news:List Value)(hx:a.eval x= .slice (some ad) m c)(hn:news.length=m*size)(hc:∀j u,news[j]?=some u→w.cell? (ad.add j)=some u)(h1c:∀u∈news,u.oneCell'=true)
  (hfull:cap<n+m)(b1:n+m≤maxLen)(b2:(n+m)*bytes≤140737488355328)
  (hK:∀v' w',w'.ownsRow w.heap.size e size v' (n+m) (olds++news)→w.grownBy w' none→K (a.put o.dst v') w'):Oper.wp P o a w K Q:=by
 cases ao with
 |some b=>
  obtain⟨v',w',hrun,r1,r2⟩:=run_append_arg_grows (P:=P) w t o.type e i z size bytes h1 h2 h3 h4 h5 h6 h7 b n cap olds hlo (holds b rfl) ad m c news hn hc hfull b1 b2;unfold Oper.wp;simp[execOp,hop,resolve,invoke,builtin,hs,hx,hrun,Result.andThen];exact hK v' w' r1 r2
 |none=>
  obtain⟨rfl,rfl⟩:=hnone rfl;obtain rfl:olds=[]:=Hm (by simpa using hlo);obtain⟨v',w',hrun,r1,r2,_⟩:=run_append_own (P:=P) w w.heap.size t o.type e i z size bytes h1 h2 h3 h4 h5 h6 h7 (.slice none 0 0) 0 [] (World.ownsRow_nil w _ e size) ad m c news hn hc h1c b1 b2 (He _);unfold Oper.wp;simp[execOp,hop,resolve,invoke,builtin,hs,hx,hrun,Result.andThen];exact hK v' w' r1 r2
end Go.Proofs.YtjomgckjhcfbgaaGreat
