/- Walks. -/
import Derived.Test.YtjomgckjhcfbgaaGreatS1
set_option maxRecDepth 100000
set_option maxHeartbeats 64000000
set_option linter.all false
namespace Go.Proofs.YtjomgckjhcfbgaaGreat
open Go.RowKit
open _root_.List renaming getElem?_eq_getElem→GN,getElem?_eq_some_iff→GQ,mem_of_getElem?→GV,take_length→Ha
open _root_.Nat renaming le_refl→He,zero_le→Hg
open Go.World renaming size_alloc→Hu
open Go.RowKit.Below renaming refl→Hw,heap_alloc→Hy
open Go renaming heap_setCell_same→Hz,World→H5
open Go.RowKit renaming Below→H9,Hid→Ia
open Tryz
theorem aX {r lb cap:Nat}{T:List Tok}{i:Nat}{t:Tok}(s:ByteArray)(w:H5)(h:Rd r lb cap T i w)(ht:T[i]?=some t)(hF:dD t s=true):
  Calls prog 207 #[.pointer (some ⟨r,0,none⟩),.string s] w fun e w'=>e= .returned (.tuple #[])∧bK r lb cap T (i+1) w w':=by
 have HIS:=zH (bi s w h ht);rw[hF] at HIS;have H:=zH h;have hil:i<T.length:=(GQ.1 ht).1;have hT:=h.short;clear h ht hF;go_enter func207,ntmps207
 go_wp2_with (go_at_call 172;refine HIS.out.mono ?_;rintro e w2 ⟨rfl,hb2⟩;have H2:=zH (H.out.grow hb2);have HM:Ia (bK r lb cap T (i+1) w (w2.setCell ⟨r,1,none⟩ (.int .i64 ((i:Int)+1)))):=⟨H2.out.step,(Ext.of_below_size (M:=(·=r)) hb2).trans (Ext.set1 w2 r 1 _) (fun k hk=> .inl hk)⟩;obtain⟨c0,c1,c3,f1,hr⟩:=H2.out.cells;clear hb2)
 go_end0
 exact⟨rfl,HM.out⟩
theorem sH {r lb cap:Nat}{T:List Tok}{i:Nat}(d:Int)(w:H5)(h:Rd r lb cap T i w)(hd:d≤200):
  zS 242 #[.pointer (some ⟨r,0,none⟩),.int .i64 d] w (.bool true):=by
 have HBD:=zH (bu w h);have hd':decide (200<d)=false:=by rw[decide_eq_false_iff_not];omega
 have hd2:¬200<d:=by omega
 clear h hd;go_enter func242,ntmps242
 go_wp2_with (go_at_call 171;refine HBD.out.mono ?_;rintro e w2 ⟨rfl,rfl⟩)
 go_ret;exact⟨rfl,rfl⟩
theorem dV {r lb cap:Nat}{T:List Tok}{i:Nat}{t:Tok}(w:H5)(h:Rd r lb cap T i w)(ht:T[i]?=some t)(hk:t.kind=1):
  Calls prog 208 #[.pointer (some ⟨r,0,none⟩)] w fun e w'=>e= .returned (.tuple #[.string t.text,.agg #[.int .i64 t.ln,.int .i64 t.cl]])∧bK r lb cap T (i+1) w w':=by
 obtain⟨N,hN⟩:=zE w.heap.size;obtain⟨W1,hW1⟩:=zE (w.alloc (.cells #[.int .i64 0,.int .i64 0] 40));have hb1:=gZ hW1 hN;have hs1:W1.heap.size=N+1:=by rw[←hW1];simp[hN]
 have hr1:W1.heap[N]?=some (.cells #[.int .i64 0,.int .i64 0] 40 (0,0)):=by rw[←hW1,←hN];exact alloc_at _ _
 have h1:=h.grow (by rw[hN];exact hb1);have HTK:=zH (bB W1 h1 ht);have HBD:Ia (∀W,H9 W1.heap.size W1 W→zS 171 #[.pointer (some ⟨r,0,none⟩)] W (.bool false)):=fun W hW=>bu W (h1.grow hW);have hst:∀(w:H5)(c:Array Value),c.size=5→(storeCells ⟨w.heap.size,0,none⟩ [.int .i64 t.kind,.string t.text,.int .i64 t.n,.int .i64 t.ln,.int .i64 t.cl] 0).run prog (w.alloc (.cells c 263))= .ok () (w.alloc (.cells #[.int .i64 t.kind,.string t.text,.int .i64 t.n,.int .i64 t.ln,.int .i64 t.cl] 263)):=fun w c hc=>
  run_storeCells_new (P:=prog) w 263 c #[.int .i64 t.kind,.string t.text,.int .i64 t.n,.int .i64 t.ln,.int .i64 t.cl] (by show _=some 5;kernel_rfl) hc (by simp[Value.oneCell'])
 rw[hk] at hst;have HST:=zH hst;have hil:i<T.length:=(GQ.1 ht).1;have hT:=h.short;have hrN:r<N:=by rw[←hN];exact h.rlt
 have hlb:lb<N:=by rw[←hN];exact h.lt
 have HLB:=zH hlb;clear hlb;have HW1:=zH hW1;have HB1:=zH hb1;have HS1:=zH hs1;have HR1:=zH hr1;have H1:=zH h1;simp only[Tok.cells,hk] at HTK;clear h ht hk hst hW1 hb1 hs1 hr1 h1;go_enter func208,ntmps208
 go_upto_region 2 with(go_at_call 170;rw[HW1.out];refine HTK.out.mono ?_;rintro e w2 ⟨rfl,hb2⟩;have hst2:=HST.out w2;have HB2:=zH hb2;clear hb2)
 clear hst2;obtain⟨G,hG⟩:=zE w2.heap.size;obtain⟨W3,hW3⟩:=zE (w2.alloc (.cells #[.int .i64 1,.string t.text,.int .i64 t.n,.int .i64 t.ln,.int .i64 t.cl] 263));rw[hG,hW3];have hb3:=zD hW3 HB2;have hGN:N+1≤G:=by rw[←hG,←HS1.out];exact HB2.out.size
 have hrG:W3.heap[G]?=some (.cells #[.int .i64 1,.string t.text,.int .i64 t.n,.int .i64 t.ln,.int .i64 t.cl] 263 (0,0)):=by rw[←hW3,←hG];exact alloc_at _ _
 have hrN3:=(hb3.block N (by have:=HS1.out;omega)).trans HR1.out;have h3:=H1.out.grow hb3;obtain⟨c0,c1,c3,f1,hr⟩:=h3.cells;obtain⟨⟨g0,g1,g2,g3,g4⟩,⟨e0,e1,e2,e3,e4⟩,hG3⟩:=fe hrG;obtain⟨⟨p0,p1⟩,⟨q0,q1⟩,hN3⟩:=bZ hrN3;have HBD3:=zH (HBD.out W3 hb3);have HB3:=zH hb3;have HRG:=zH hrG;have HRN3:=zH hrN3;have H3:=zH h3;clear hG hW3 hb3 hrG hrN3 h3 HBD HTK
 go_upto_region 6 with(go_at_call 171;refine HBD3.out.mono ?_;rintro e w2 ⟨rfl,rfl⟩)
 obtain⟨W4,hW4⟩:=zE (W3.setCell ⟨r,1,none⟩ (.int .i64 ((i:Int)+1)));rw[hW4];have hx4:Ext (·=r) W3 W4:=by rw[←hW4];exact Ext.set1 W3 r 1 _
 have hrG4:=hx4.heap HRG.out (by omega);have hrN4:=hx4.heap HRN3.out (by omega);have h4:Rd r lb cap T (i+1) W4:=by rw[←hW4];exact H3.out.step
 obtain⟨⟨g0,g1,g2,g3,g4⟩,⟨e0,e1,e2,e3,e4⟩,hG3⟩:=fe hrG4;obtain⟨⟨p0,p1⟩,⟨q0,q1⟩,hN3⟩:=bZ hrN4;have HX4:=zH hx4;have HRN4:=zH hrN4;have H4:=zH h4;clear hW4 hx4 hrG4 hrN4 h4 c0 c1 c3 f1 hr
 go_region
 go_wp2;(try simp only[Exit.inBlock,Exit.then]);have hM4:bK r lb cap T (i+1) w W4:=⟨H4.out,((Ext.of_below_size (M:=(·=r)) (show H9 w.heap.size w W1 by rw[hN];exact HB1.out)).trans (Ext.of_below_size (M:=(·=r)) HB3.out) (fun k hk=> .inl hk)).trans HX4.out (fun k hk=> .inl hk)⟩
 have hxe:Ext (·=N) W4 (((W4.setCell ⟨N,0,none⟩ (.int .i64 t.ln)).setCell ⟨N,1,none⟩ (.int .i64 t.cl)).drew):=((Ext.set1 W4 N 0 _).trans (Ext.set1 _ N 1 _) (fun k hk=> .inl hk)).drew;refine bodyPost_ret (gN rfl _ _ N 40 _ (0,0) _ rfl (bf HRN4.out) underlying40 (by kernel_rfl)) rfl ?_;refine⟨rfl,H4.out.ext hxe (by omega) (fun e=> ?_),hM4.2.trans hxe (fun k hk=> .inr (by omega))⟩;have:=HLB.out;omega
def lK (t:Tok)(l:List ByteArray):Bool:=l.any fun s=>dD t s
def oo (w:H5)(b:Nat)(l:List ByteArray):Prop:=∀(k:Nat)(x:ByteArray),l[k]?=some x→w.cell? ⟨b,k,none⟩=some (.string x)
theorem gP {r lb cap:Nat}{T:List Tok}{i:Nat}{t:Tok}(b c:Nat)(l:List ByteArray)(w:H5)(h:Rd r lb cap T i w)(ht:T[i]?=some t)(hl:l.length≤20)(hb:b<w.heap.size)(hrow:oo w b l):
  zP 260 #[.pointer (some ⟨r,0,none⟩),.slice (some ⟨b,0,none⟩) l.length c] w (.bool (lK t l)):=by
 have HIS:Ia (∀s W,H9 w.heap.size w W→zP 172 #[.pointer (some ⟨r,0,none⟩),.string s] W (.bool (dD t s))):=fun s W hW=>bi s W (h.grow hW) ht;have HROW:=zH hrow;have HB:=zH hb;clear h ht hrow;go_enter func260,ntmps260;go_wp2
 go_loopw [5] (fun k wr=>∃j:Nat,k= .int .i64 (j:Int)∧j≤l.length∧(∀x∈l.take j,dD t x=false)∧H9 w.heap.size w wr) (fun k _=>l.length-(intOf k).toNat)
 case atStart=>exact⟨0,rfl,Hg _,by simp,Hw _ _⟩
 case round=>
  obtain⟨j,rfl,hj,hz,hbr⟩:=hrel;have HZ:=zH hz;have HBR:=zH hbr
  by_cases hjl:j<l.length
  ·have hjI:(j:Int)<(l.length:Int):=by omega
   obtain⟨x,hx⟩:∃x,l[j]?=some x:=⟨_,GN hjl⟩
   have hc:wr.cell? ⟨b,j,none⟩=some (.string x):=(hbr.cell (p:=⟨b,j,none⟩) HB.out).trans (HROW.out j x hx);have HISX:=zH (HIS.out x wr hbr);obtain⟨q,hq⟩:=zE (dD t x);rw[hq] at HISX;have HQ:=zH hq;have HX:=zH hx;clear hz hbr hx hq;cases q with
   |true=>
    have HE:Ia (true=lK t l):=by unfold Ia lK;rw[eq_comm,List.any_eq_true];exact⟨x,GV HX.out,HQ.out⟩
    go_wp2_with (go_at_call 172;refine HISX.out.mono ?_;rintro e w2 ⟨rfl,hb2⟩;have HB2:=zH (HBR.out.trans (hb2.mono HBR.out.size));clear hb2)
    go_ret;rw[←HE.out];exact⟨rfl,HB2.out⟩
   |false=>
    go_wp2_with (go_at_call 172;refine HISX.out.mono ?_;rintro e w2 ⟨rfl,hb2⟩;have HB2:=zH (HBR.out.trans (hb2.mono HBR.out.size));clear hb2)
    go_roundw
    case rel=>
     refine⟨j+1,by go_num,hjl,fun y hy=> ?_,HB2.out⟩;rw[List.take_add_one,HX.out] at hy;rcases List.mem_append.1 hy with h|h
     ·exact HZ.out y h
     ·have e:y=x:=by simpa using h
      rw[e];exact HQ.out
    case measure=>simp[intOf];omega
  ·have hje:j=l.length:=by omega
   have HE:Ia (false=lK t l):=by
    unfold Ia lK;rw[eq_comm,List.any_eq_false];intro x hx;rw[hz x (by rw[hje,Ha];exact hx)];simp
   clear hz hbr;subst hje;go_wp2;go_ret;rw[←HE.out];exact⟨rfl,HBR.out⟩
def jH:ByteArray:=⟨#[42]⟩
def vU:ByteArray:=⟨#[105,110,116]⟩
theorem vV {r lb cap:Nat}{T:List Tok}{i:Nat}{u:Tok}(w:H5)(h:Rd r lb cap T i w)(hu:T[i+1]?=some u)(hk:u.kind=4):
  zP 262 #[.pointer (some ⟨r,0,none⟩)] w (.bool (u.text==jH)):=by
 obtain⟨c0,c1,_,_,hr⟩:=h.cells;have hil:i+1<T.length:=(GQ.1 hu).1;have hT:=h.short;have k0:=h.toks (i+1) u hu 0 _ rfl;have k1:=h.toks (i+1) u hu 1 _ rfl;rw[Nat.add_zero] at k0;rw[hk] at k0;have hw:IntKind.i64.wrap ((i:Int)+1)=(i:Int)+1:=IntWalk.i64_in _ (by omega);have hlt:decide ((i:Int)+1<(T.length:Int))=true:=by rw[decide_eq_true_eq];omega
 have hltI:(i:Int)+1<(T.length:Int):=by omega
 have hz0:0≤(i:Int)+1:=by omega
 have hnat:((i:Int)+1).toNat=i+1:=by omega
 obtain⟨b,hb⟩:=zE (u.text==jH);have hb':(u.text.toList==jH.toList)=b:=by rw[←beq_toListBytes];exact hb
 rw[hb];have hbl:jH.toList=[42]:=by rw[ByteArray.toList_eq];rfl
 rw[hbl] at hb';clear h hu hk hb hbl;cases b<;>(
  go_enter func262,ntmps262
  go_upto_region 1 with(fail)
  go_quiet (fail)
  go_wp2;go_ret;exact⟨rfl,oV (Hw _ _) _⟩)
inductive vW (T:List Tok) (i:Nat):Ty→Nat→Prop
 |int (t:Tok):T[i]?=some t→dD t vU=true→vW T i bF (i+1)
 |ptr (t u:Tok):T[i]?=some t→t.kind=1→T[i+1]?=some u→dD u jH=true→vW T i (true,t.text) (i+2)
def F7 (t:Ty):Value:= .agg #[.bool t.1,.string t.2]
theorem lm {t:Tok}{s:ByteArray}(h:t.kind=1):dD t s=false:=by unfold dD;rw[h];rfl
theorem Cc {r lb cap:Nat}{T:List Tok}{i:Nat}{t:Tok}(w:H5)(h:Rd r lb cap T i w)(ht:T[i]?=some t)(hk:dD t vU=true):
  Calls prog 209 #[.pointer (some ⟨r,0,none⟩)] w fun e w'=>e= .returned (.agg #[.bool false,.string ⟨#[]⟩])∧bK r lb cap T (i+1) w w':=by
 obtain⟨N,hN⟩:=zE w.heap.size;obtain⟨W1,hW1⟩:=zE (w.alloc (.cells #[.bool false,.string ⟨#[]⟩] 32));have hb1:=gZ hW1 hN;have hr1:W1.heap[N]?=some (.cells #[.bool false,.string ⟨#[]⟩] 32 (0,0)):=by rw[←hW1,←hN];exact alloc_at _ _
 have hs1:W1.heap.size=N+1:=by rw[←hW1];simp[hN]
 have h1:=h.grow (by rw[hN];exact hb1);have HIS:=zH (bi vU W1 h1 ht);rw[hk] at HIS;unfold vU at HIS;have hil:i<T.length:=(GQ.1 ht).1;have hT:=h.short;have hrN:r<N:=by rw[←hN];exact h.rlt
 have HLB:Ia (lb<N):=by unfold Ia;rw[←hN];exact h.lt
 have HW1:=zH hW1;have HB1:=zH hb1;have HR1:=zH hr1;have HS1:=zH hs1;have H1:=zH h1;clear h ht hk hW1 hb1 hr1 h1 hs1;go_enter func209,ntmps209
 go_upto_region 2 with(go_at_call 172;rw[HW1.out];refine HIS.out.mono ?_;rintro e w2 ⟨rfl,hb2⟩;have HB2:=zH hb2;have H2:=zH (H1.out.grow hb2);have HR2:=zH ((hb2.block N (by rw[HS1.out];omega)).trans HR1.out);clear hb2)
 obtain⟨c0,c1,c3,f1,hr⟩:=H2.out.cells;obtain⟨⟨p0,p1⟩,⟨q0,q1⟩,hN3⟩:=bZ HR2.out;have hne:N≠r:=by omega
 go_wp2;(try simp only[Exit.inBlock,Exit.then]);refine bodyPost_ret (results_cell_row (P:=prog) rfl _ _ N 32 _ (0,0) _ rfl (bf ((Below.heap_setCell _ _ _ N hne).trans HR2.out)) underlying32 rfl (by kernel_rfl)) rfl ?_;have hM:bK r lb cap T (i+1) w (w2.setCell ⟨r,1,none⟩ (.int .i64 ((i:Int)+1))):=⟨H2.out.step,((Ext.of_below_size (M:=(·=r)) (show H9 w.heap.size w W1 by rw[hN];exact HB1.out)).trans (Ext.of_below_size (M:=(·=r)) HB2.out) (fun k hk=> .inl hk)).trans (Ext.set1 w2 r 1 _) (fun k hk=> .inl hk)⟩
 have hxe:∀W u v,Ext (·=N) W ((W.setCell ⟨N,0,none⟩ u).setCell ⟨N,1,none⟩ v):=fun W u v=>(Ext.set1 W N 0 u).trans (Ext.set1 _ N 1 v) (fun k hk=> .inl hk);exact⟨rfl,hM.1.ext (hxe _ _ _) (by omega) (by have:=HLB.out;omega),hM.2.trans (hxe _ _ _) (fun k hk=> .inr (by omega))⟩
theorem uJ {r lb cap:Nat}{T:List Tok}{i:Nat}{t u:Tok}(w:H5)(h:Rd r lb cap T i w)(ht:T[i]?=some t)(hk:t.kind=1)(hu:T[i+1]?=some u)(hs:dD u jH=true):
  Calls prog 209 #[.pointer (some ⟨r,0,none⟩)] w fun e w'=>e= .returned (.agg #[.bool true,.string t.text])∧bK r lb cap T (i+2) w w':=by
 obtain⟨N,hN⟩:=zE w.heap.size;obtain⟨W1,hW1⟩:=zE (w.alloc (.cells #[.bool false,.string ⟨#[]⟩] 32));have hb1:=gZ hW1 hN;have hr1:W1.heap[N]?=some (.cells #[.bool false,.string ⟨#[]⟩] 32 (0,0)):=by rw[←hW1,←hN];exact alloc_at _ _
 have hs1:W1.heap.size=N+1:=by rw[←hW1];simp[hN]
 have h1:=h.grow (by rw[hN];exact hb1);have HIS:=zH (bi vU W1 h1 ht);rw[lm hk] at HIS;unfold vU at HIS;have HNM:Ia (∀W,H9 W1.heap.size W1 W→Calls prog 208 #[.pointer (some ⟨r,0,none⟩)] W fun e w'=>e= .returned (.tuple #[.string t.text,.agg #[.int .i64 t.ln,.int .i64 t.cl]])∧bK r lb cap T (i+1) W w'):=fun W hW=>dV W (h1.grow hW) ht hk;have HET:Ia (∀W,Rd r lb cap T (i+1) W→Calls prog 207 #[.pointer (some ⟨r,0,none⟩),.string jH] W fun e w'=>e= .returned (.tuple #[])∧bK r lb cap T (i+1+1) W w'):=fun W hW=>aX jH W hW hu hs;unfold jH at HET;have hrN:r<N:=by rw[←hN];exact h.rlt
 have HLB:Ia (lb<N):=by unfold Ia;rw[←hN];exact h.lt
 have hst:∀(w:H5)(c:Array Value),c.size=2→(storeCells ⟨w.heap.size,0,none⟩ [.int .i64 t.ln,.int .i64 t.cl] 0).run prog (w.alloc (.cells c 40))= .ok () (w.alloc (.cells #[.int .i64 t.ln,.int .i64 t.cl] 40)):=fun w c hc=>
  run_storeCells_new (P:=prog) w 40 c #[.int .i64 t.ln,.int .i64 t.cl] (by show _=some 2;kernel_rfl) hc (by simp[Value.oneCell'])
 have HST:=zH hst;have HW1:=zH hW1;have HB1:=zH hb1;have HR1:=zH hr1;have HS1:=zH hs1;clear h ht hk hu hs hW1 hb1 hr1 h1 hs1 hst;go_enter func209,ntmps209
 go_upto_region 5 with(first
  |(go_at_call 172;rw[HW1.out];refine HIS.out.mono ?_;rintro e w2 ⟨rfl,hb2⟩;have HB2:=zH hb2;clear hb2)
  |(go_at_call 208;refine(HNM.out _ HB2.out).mono ?_;rintro e w3 ⟨rfl,hm3⟩;have HM3:=zH hm3;have hst3:=HST.out w3;clear hm3))
 clear hst3;obtain⟨W4,hW4⟩:=zE (w3.alloc (.cells #[.int .i64 t.ln,.int .i64 t.cl] 40));rw[hW4];have hb4:=gK hW4;have hm4:bK r lb cap T (i+1) W1 W4:=(bK.grown HB2.out HM3.out).grow hb4;have HM4:=zH hm4;clear hW4 hb4 hm4
 go_upto_region 6 with(go_at_call 207;refine(HET.out _ HM4.out.1).mono ?_;rintro e w5 ⟨rfl,hm5⟩;have HM5:=zH (HM4.out.trans hm5);clear hm5)
 have hr5:=HM5.out.2.heap HR1.out (by omega);have HR5:=zH hr5;obtain⟨⟨p0,p1⟩,⟨q0,q1⟩,hN3⟩:=bZ hr5;clear hr5;go_wp2;(try simp only[Exit.inBlock,Exit.then]);refine bodyPost_ret (results_cell_row (P:=prog) rfl _ _ N 32 _ (0,0) _ rfl (bf HR5.out) underlying32 rfl (by kernel_rfl)) rfl ?_;have hM:bK r lb cap T (i+1+1) w w5:=bK.grown (by rw[hN];exact HB1.out) HM5.out;have hxe:∀W u v,Ext (·=N) W ((W.setCell ⟨N,0,none⟩ u).setCell ⟨N,1,none⟩ v):=fun W u v=>(Ext.set1 W N 0 u).trans (Ext.set1 _ N 1 v) (fun k hk=> .inl hk);exact⟨rfl,hM.1.ext (hxe _ _ _) (by omega) (by have:=HLB.out;omega),hM.2.trans (hxe _ _ _) (fun k hk=> .inr (by omega))⟩
theorem oW {r lb cap:Nat}{T:List Tok}{i k:Nat}{y:Ty}(w:H5)(h:Rd r lb cap T i w)(hy:vW T i y k):
  Calls prog 209 #[.pointer (some ⟨r,0,none⟩)] w fun e w'=>e= .returned (F7 y)∧bK r lb cap T k w w':=by
 cases hy with
 |int t ht hk=>exact Cc w h ht hk
 |ptr t u ht hk hu hs=>exact uJ w h ht hk hu hs
structure Ex where
 kind:Int
 n:Int
 nm:ByteArray
 ln:Int
 cl:Int
def Ex.cells (e:Ex):Array Value:=#[.int .i64 e.kind,.int .i64 e.n,.string e.nm,.string ⟨#[]⟩,.slice none 0 0,.int .i64 e.ln,.int .i64 e.cl]
theorem qE (e:Ex)(w:H5):Calls prog 277 #[.agg e.cells] w fun en w'=>en= .returned (.int .i64 1)∧H9 w.heap.size w w':=by
 obtain⟨N,hN⟩:=zE w.heap.size;unfold Ex.cells;go_enter func277,ntmps277;go_wp2;obtain⟨W1,hW1⟩:=zE (w.alloc (.cells #[.int .i64 e.kind,.int .i64 e.n,.string e.nm,.string ⟨#[]⟩,.slice none 0 0,.int .i64 e.ln,.int .i64 e.cl] 313));have hb1:=gZ hW1 hN;have hr1:W1.heap[N]?=some (.cells #[.int .i64 e.kind,.int .i64 e.n,.string e.nm,.string ⟨#[]⟩,.slice none 0 0,.int .i64 e.ln,.int .i64 e.cl] 313 (0,0)):=by rw[←hW1,←hN];exact alloc_at _ _
 obtain⟨⟨c0,c1,c2,c3,c4,c5,c6⟩,_,hlt⟩:=ed hr1;rw[hW1];have HB1:=zH hb1;clear hW1 hb1 hr1
 go_loop [3,4] (fun n i=>n= .int .i64 0∧i= .int .i64 0) (fun _ _=>0)
 case atStart=>exact⟨rfl,rfl⟩
 case round=>
  obtain⟨rfl,rfl⟩:=hrel;go_wp2;go_ret;(try rw[hN]);exact⟨rfl,HB1.out⟩
theorem jC {r lb cap:Nat}{T:List Tok}{i:Nat}(e:Ex)(w:H5)(h:Rd r lb cap T i w):
  Calls prog 273 #[.pointer (some ⟨r,0,none⟩),.agg e.cells] w fun en w'=>en= .returned (.agg e.cells)∧H9 w.heap.size w w':=by
 obtain⟨N,hN⟩:=zE w.heap.size;obtain⟨W1,hW1⟩:=zE ((w.alloc (.cells #[.int .i64 e.kind,.int .i64 e.n,.string e.nm,.string ⟨#[]⟩,.slice none 0 0,.int .i64 e.ln,.int .i64 e.cl] 313)).alloc (.cells #[.int .i64 0,.int .i64 0,.string ⟨#[]⟩,.string ⟨#[]⟩,.slice none 0 0,.int .i64 0,.int .i64 0] 313));have hb1:=uG hW1 hN;have hr0:=xV hW1 hN;have hr1:=zV hW1 hN;have hs1:W1.heap.size=N+2:=by rw[←hW1];simp[hN]
 have h1:=h.grow (by rw[hN];exact hb1);have HBD:Ia (∀W,H9 W1.heap.size W1 W→zS 171 #[.pointer (some ⟨r,0,none⟩)] W (.bool false)):=fun W hW=>bu W (h1.grow hW);have hHT:=fun W=>qE e W;unfold Ex.cells at hHT⊢;have HHT:=zH hHT;obtain⟨⟨c0,c1,c2,c3,c4,c5,c6⟩,_,hlt⟩:=ed hr0;have HW1:=zH hW1;have HB1:=zH hb1;have HR0:=zH hr0;have HR1:=zH hr1;have HS1:=zH hs1;clear h hW1 hb1 hr0 hr1 hs1 h1 hHT;go_enter func273,ntmps273
 go_upto_region 1 with(fail)
 rw[HW1.out]
 go_upto_region 3 with(first
  |(go_at_call 171;refine(HBD.out W1 (Hw _ _)).mono ?_;rintro e w2 ⟨rfl,rfl⟩)
  |(go_at_call 277;refine(HHT.out _).mono ?_;rintro e w2 ⟨rfl,hb2⟩;have HB2:=zH hb2;clear hb2))
 have hr0:=(HB2.out.block N (by rw[HS1.out];omega)).trans HR0.out;have hr1:=(HB2.out.block (N+1) (by rw[HS1.out];omega)).trans HR1.out;obtain⟨⟨c0,c1,c2,c3,c4,c5,c6⟩,_,hlt0⟩:=ed hr0;obtain⟨⟨g0,g1,g2,g3,g4,g5,g6⟩,⟨f0,f1,f2,f3,f4,f5,f6⟩,hlt1⟩:=ed hr1;have HR2:=zH hr1;have HB3:Ia (H9 N w w2):=HB1.out.trans (HB2.out.mono (by rw[HS1.out];omega));have HBD2:=zH (HBD.out w2 HB2.out);clear hr0 hr1
 go_wp2_with (go_at_call 171;refine HBD2.out.mono ?_;rintro e w3 ⟨rfl,rfl⟩)
 (try simp only[Exit.inBlock,Exit.then]);refine bodyPost_ret (results_cell_row (P:=prog) rfl _ _ (N+1) 313 _ (0,0) _ rfl (fO HR2.out) underlying313 rfl (by kernel_rfl)) rfl ?_;(try rw[hN]);exact⟨rfl,HB3.out.trans ((bV _ _ _ _ _ _ _ _ _).below (Nat.le_trans (by omega) HB3.out.size) (fun k hk=>by omega))⟩
def eT:ByteArray:=⟨#[40]⟩
def Dt:ByteArray:=⟨#[110,117,108,108]⟩
def Du:ByteArray:=⟨#[110,101,119]⟩
theorem sI {r lb cap:Nat}{T:List Tok}{i:Nat}{t:Tok}(d:Int)(w:H5)(h:Rd r lb cap T i w)(ht:T[i]?=some t)(hk:t.kind=3):
  Calls prog 278 #[.pointer (some ⟨r,0,none⟩),.int .i64 d] w fun e w'=>e= .returned (.agg (Ex.cells ⟨1,t.n,⟨#[]⟩,t.ln,t.cl⟩))∧bK r lb cap T (i+1) w w':=by
 obtain⟨N,hN⟩:=zE w.heap.size;obtain⟨W1,hW1⟩:=zE (w.alloc (.cells #[.int .i64 0,.int .i64 0,.string ⟨#[]⟩,.string ⟨#[]⟩,.slice none 0 0,.int .i64 0,.int .i64 0] 313));have hb1:=gZ hW1 hN;have hs1:W1.heap.size=N+1:=by rw[←hW1];simp[hN]
 have hr1:W1.heap[N]?=some (.cells #[.int .i64 0,.int .i64 0,.string ⟨#[]⟩,.string ⟨#[]⟩,.slice none 0 0,.int .i64 0,.int .i64 0] 313 (0,0)):=by rw[←hW1,←hN];exact alloc_at _ _
 have h1:=h.grow (by rw[hN];exact hb1);have HTK:=zH (bB W1 h1 ht);have HBD:=zH fun W hW=>bu W (h1.grow hW);have hBT:∀W,Rd r lb cap T (i+1) W→Calls prog 273 #[.pointer (some ⟨r,0,none⟩),.agg (Ex.cells ⟨1,t.n,⟨#[]⟩,t.ln,t.cl⟩)] W fun en w'=>en= .returned (.agg (Ex.cells ⟨1,t.n,⟨#[]⟩,t.ln,t.cl⟩))∧H9 W.heap.size W w':=fun W hW=>jC _ W hW;have HIS:=zH fun s W hW=>bi s W (h1.grow hW) ht;simp only[Tok.cells,hk] at HTK;unfold Ex.cells at hBT;have HBT:=zH hBT;have hst:∀(w:H5)(c:Array Value),c.size=5→(storeCells ⟨w.heap.size,0,none⟩ [.int .i64 t.kind,.string t.text,.int .i64 t.n,.int .i64 t.ln,.int .i64 t.cl] 0).run prog (w.alloc (.cells c 263))= .ok () (w.alloc (.cells #[.int .i64 t.kind,.string t.text,.int .i64 t.n,.int .i64 t.ln,.int .i64 t.cl] 263)):=fun w c hc=>
  run_storeCells_new (P:=prog) w 263 c #[.int .i64 t.kind,.string t.text,.int .i64 t.n,.int .i64 t.ln,.int .i64 t.cl] (by show _=some 5;kernel_rfl) hc (by simp[Value.oneCell'])
 have hst7:∀(w:H5)(c:Array Value),c.size=7→(storeCells ⟨w.heap.size,0,none⟩ [.int .i64 0,.int .i64 0,.string ⟨#[]⟩,.string ⟨#[]⟩,.slice none 0 0,.int .i64 t.ln,.int .i64 t.cl] 0).run prog (w.alloc (.cells c 313))= .ok () (w.alloc (.cells #[.int .i64 0,.int .i64 0,.string ⟨#[]⟩,.string ⟨#[]⟩,.slice none 0 0,.int .i64 t.ln,.int .i64 t.cl] 313)):=fun w c hc=>
  run_storeCells_new (P:=prog) w 313 c #[.int .i64 0,.int .i64 0,.string ⟨#[]⟩,.string ⟨#[]⟩,.slice none 0 0,.int .i64 t.ln,.int .i64 t.cl] (by show _=some 7;kernel_rfl) hc (by simp[Value.oneCell'])
 rw[hk] at hst;have HST:=zH hst;have HST7:=zH hst7;have hil:i<T.length:=(GQ.1 ht).1;have hT:=h.short;have hrN:r<N:=by rw[←hN];exact h.rlt
 have HLB:Ia (lb<N):=by unfold Ia;rw[←hN];exact h.lt
 have HW1:=zH hW1;have HB1:=zH hb1;have HS1:=zH hs1;have HR1:=zH hr1;have H1:=zH h1;clear h ht hBT hst hst7 hW1 hb1 hs1 hr1 h1 hk;go_enter func278,ntmps278
 go_upto_region 2 with(go_at_call 170;rw[HW1.out];refine HTK.out.mono ?_;rintro e w2 ⟨rfl,hb2⟩;have hst2:=HST.out w2;have HB2:=zH hb2;clear hb2)
 clear hst2;obtain⟨G,hG⟩:=zE w2.heap.size;obtain⟨W3,hW3⟩:=zE (w2.alloc (.cells #[.int .i64 3,.string t.text,.int .i64 t.n,.int .i64 t.ln,.int .i64 t.cl] 263));rw[hG,hW3];have hb3:=zD hW3 HB2;have hs3:W3.heap.size=G+1:=by rw[←hW3,←hG];simp
 have hGN:N+1≤G:=by rw[←hG,←HS1.out];exact HB2.out.size
 have hrG:W3.heap[G]?=some (.cells #[.int .i64 3,.string t.text,.int .i64 t.n,.int .i64 t.ln,.int .i64 t.cl] 263 (0,0)):=by rw[←hW3,←hG];exact alloc_at _ _
 obtain⟨⟨g0,g1,g2,g3,g4⟩,_,hG3⟩:=fe hrG;have hst3:=HST7.out W3;have HB3:=zH hb3;have HRG:=zH hrG;clear hG hW3 hb3 hrG;rw[hs3] at hst3
 go_upto_region 4 with(fail)
 clear hst3;obtain⟨W4,hW4⟩:=zE (W3.alloc (.cells #[.int .i64 0,.int .i64 0,.string ⟨#[]⟩,.string ⟨#[]⟩,.slice none 0 0,.int .i64 t.ln,.int .i64 t.cl] 313));rw[hW4];have hb4:=zD hW4 HB3;have hs4:W4.heap.size=G+2:=by rw[←hW4];simp[hs3]
 have hrE:W4.heap[G+1]?=some (.cells #[.int .i64 0,.int .i64 0,.string ⟨#[]⟩,.string ⟨#[]⟩,.slice none 0 0,.int .i64 t.ln,.int .i64 t.cl] 313 (0,0)):=by rw[←hW4,←hs3];exact alloc_at _ _
 have hrG4:W4.heap[G]?=some (.cells #[.int .i64 3,.string t.text,.int .i64 t.n,.int .i64 t.ln,.int .i64 t.cl] 263 (0,0)):=by rw[←hW4];exact(Hy _ _ G (by omega)).trans HRG.out
 have hrN4:=(hb4.block N (by have:=HS1.out;omega)).trans HR1.out;have h4:=H1.out.grow hb4;have HBD4:=zH (HBD.out W4 hb4);have HB4:=zH hb4;have HRE:=zH hrE;have HRG4:=zH hrG4;have HRN4:=zH hrN4;have H4:=zH h4;obtain⟨c0,c1,c3,f1,hr⟩:=h4.cells;obtain⟨⟨g0,g1,g2,g3,g4⟩,_,hG4⟩:=fe hrG4;obtain⟨⟨e0,e1,e2,e3,e4,e5,e6⟩,⟨q0,q1,q2,q3,q4,q5,q6⟩,hE4⟩:=ed hrE;clear hW4 hb4 hrE hrG4 hrN4 h4 HBD HTK
 go_upto_region 35 with(go_at_call 171;refine HBD4.out.mono ?_;rintro e w2 ⟨rfl,rfl⟩)
 obtain⟨W5,hW5⟩:=zE (((W4.setCell ⟨r,1,none⟩ (.int .i64 ((i:Int)+1))).setCell ⟨G+1,0,none⟩ (.int .i64 1)).setCell ⟨G+1,1,none⟩ (.int .i64 t.n));rw[hW5];have hm5:bK r lb cap T (i+1) w W5:=by
  have a:bK r lb cap T (i+1) W4 (W4.setCell ⟨r,1,none⟩ (.int .i64 ((i:Int)+1))):=⟨H4.out.step,Ext.set1 W4 r 1 _⟩
  have hx:Ext (·=G+1) (W4.setCell ⟨r,1,none⟩ (.int .i64 ((i:Int)+1))) W5:=by rw[←hW5];exact aa (aa (Ext.refl _ _) _) _
  have hwx:H9 w.heap.size w W4:=by rw[hN];exact HB1.out.trans (HB4.out.mono (by rw[HS1.out];omega))
  exact⟨a.1.ext hx (by omega) (by have:=HLB.out;omega),(bK.grown hwx a).2.trans hx (fun k hk=> .inr (by omega))⟩
 have hrE5:W5.heap[G+1]?=some (.cells #[.int .i64 1,.int .i64 t.n,.string ⟨#[]⟩,.string ⟨#[]⟩,.slice none 0 0,.int .i64 t.ln,.int .i64 t.cl] 313 (0,0)):=by
  rw[←hW5];exact Hz _ (G+1) 1 _ _ _ (Hz _ (G+1) 0 _ _ _ ((Below.heap_setCell _ _ _ (G+1) (by show G+1≠r;omega)).trans HRE.out))
 have hrN5:W5.heap[N]?=some (.cells #[.int .i64 0,.int .i64 0,.string ⟨#[]⟩,.string ⟨#[]⟩,.slice none 0 0,.int .i64 0,.int .i64 0] 313 (0,0)):=by
  rw[←hW5];exact(Below.heap_setCell _ _ _ N (by show N≠G+1;omega)).trans ((Below.heap_setCell _ _ _ N (by show N≠G+1;omega)).trans ((Below.heap_setCell _ _ _ N (by show N≠r;omega)).trans HRN4.out))
 obtain⟨⟨e0,e1,e2,e3,e4,e5,e6⟩,⟨q0,q1,q2,q3,q4,q5,q6⟩,hE5⟩:=ed hrE5;have HM5:=zH hm5;have HRN5:=zH hrN5;clear hm5 hrE5 hrN5;clear hW5 c0 c1 c3 f1 hr g0 g1 g2 g3 g4
 go_wp2_with (go_at_call 273;refine(HBT.out W5 HM5.out.1).mono ?_;rintro e w6 ⟨rfl,hb6⟩;have HB6:=zH hb6;have hr6:=(hb6.block N (ae HRN5.out)).trans HRN5.out;have HR6:=zH hr6;obtain⟨⟨p0,p1,p2,p3,p4,p5,p6⟩,⟨o0,o1,o2,o3,o4,o5,o6⟩,hN6⟩:=ed hr6;clear hb6 hr6)
 (try simp only[Exit.inBlock,Exit.then]);refine bodyPost_ret (results_cell_row (P:=prog) rfl _ _ N 313 _ (0,0) _ rfl (fO HR6.out) underlying313 rfl (by kernel_rfl)) rfl ?_;have hM:bK r lb cap T (i+1) w w6:=HM5.out.grow HB6.out;exact⟨rfl,hM.1.ext (bV _ _ _ _ _ _ _ _ _) (by omega) (by have:=HLB.out;omega),hM.2.trans (bV _ _ _ _ _ _ _ _ _) (fun k hk=> .inr (by omega))⟩
theorem sJ {r lb cap:Nat}{T:List Tok}{i:Nat}{t u:Tok}(d:Int)(w:H5)(h:Rd r lb cap T i w)(ht:T[i]?=some t)(hk:t.kind=1)(hu:T[i+1]?=some u)(hp:dD u eT=false):
  Calls prog 278 #[.pointer (some ⟨r,0,none⟩),.int .i64 d] w fun e w'=>e= .returned (.agg (Ex.cells ⟨2,0,t.text,t.ln,t.cl⟩))∧bK r lb cap T (i+1) w w':=by
 obtain⟨N,hN⟩:=zE w.heap.size;obtain⟨W1,hW1⟩:=zE (w.alloc (.cells #[.int .i64 0,.int .i64 0,.string ⟨#[]⟩,.string ⟨#[]⟩,.slice none 0 0,.int .i64 0,.int .i64 0] 313));have hb1:=gZ hW1 hN;have hs1:W1.heap.size=N+1:=by rw[←hW1];simp[hN]
 have hr1:W1.heap[N]?=some (.cells #[.int .i64 0,.int .i64 0,.string ⟨#[]⟩,.string ⟨#[]⟩,.slice none 0 0,.int .i64 0,.int .i64 0] 313 (0,0)):=by rw[←hW1,←hN];exact alloc_at _ _
 have h1:=h.grow (by rw[hN];exact hb1);have HTK:=zH (bB W1 h1 ht);have HBD:=zH fun W hW=>bu W (h1.grow hW);have hBT:∀W,Rd r lb cap T (i+1) W→Calls prog 273 #[.pointer (some ⟨r,0,none⟩),.agg (Ex.cells ⟨2,0,t.text,t.ln,t.cl⟩)] W fun en w'=>en= .returned (.agg (Ex.cells ⟨2,0,t.text,t.ln,t.cl⟩))∧H9 W.heap.size W w':=fun W hW=>jC _ W hW;have HIS:=zH fun s W hW=>bi s W (h1.grow hW) ht;have HPB:Ia (∀W,Rd r lb cap T (i+1) W→zP 172 #[.pointer (some ⟨r,0,none⟩),.string eT] W (.bool (dD u eT))):=fun W hW=>bi _ W hW hu;rw[hp] at HPB;unfold eT at HPB;simp only[Tok.cells,hk] at HTK;unfold Ex.cells at hBT;have HBT:=zH hBT;have hst:∀(w:H5)(c:Array Value),c.size=5→(storeCells ⟨w.heap.size,0,none⟩ [.int .i64 t.kind,.string t.text,.int .i64 t.n,.int .i64 t.ln,.int .i64 t.cl] 0).run prog (w.alloc (.cells c 263))= .ok () (w.alloc (.cells #[.int .i64 t.kind,.string t.text,.int .i64 t.n,.int .i64 t.ln,.int .i64 t.cl] 263)):=fun w c hc=>
  run_storeCells_new (P:=prog) w 263 c #[.int .i64 t.kind,.string t.text,.int .i64 t.n,.int .i64 t.ln,.int .i64 t.cl] (by show _=some 5;kernel_rfl) hc (by simp[Value.oneCell'])
 have hst7:∀(w:H5)(c:Array Value),c.size=7→(storeCells ⟨w.heap.size,0,none⟩ [.int .i64 0,.int .i64 0,.string ⟨#[]⟩,.string ⟨#[]⟩,.slice none 0 0,.int .i64 t.ln,.int .i64 t.cl] 0).run prog (w.alloc (.cells c 313))= .ok () (w.alloc (.cells #[.int .i64 0,.int .i64 0,.string ⟨#[]⟩,.string ⟨#[]⟩,.slice none 0 0,.int .i64 t.ln,.int .i64 t.cl] 313)):=fun w c hc=>
  run_storeCells_new (P:=prog) w 313 c #[.int .i64 0,.int .i64 0,.string ⟨#[]⟩,.string ⟨#[]⟩,.slice none 0 0,.int .i64 t.ln,.int .i64 t.cl] (by show _=some 7;kernel_rfl) hc (by simp[Value.oneCell'])
 rw[hk] at hst;have HST:=zH hst;have HST7:=zH hst7;have hil:i<T.length:=(GQ.1 ht).1;have hT:=h.short;have hrN:r<N:=by rw[←hN];exact h.rlt
 have HLB:Ia (lb<N):=by unfold Ia;rw[←hN];exact h.lt
 have HW1:=zH hW1;have HB1:=zH hb1;have HS1:=zH hs1;have HR1:=zH hr1;have H1:=zH h1;clear h ht hBT hst hst7 hW1 hb1 hs1 hr1 h1 hk hu hp;go_enter func278,ntmps278
 go_upto_region 2 with(go_at_call 170;rw[HW1.out];refine HTK.out.mono ?_;rintro e w2 ⟨rfl,hb2⟩;have hst2:=HST.out w2;have HB2:=zH hb2;clear hb2)
 clear hst2;obtain⟨G,hG⟩:=zE w2.heap.size;obtain⟨W3,hW3⟩:=zE (w2.alloc (.cells #[.int .i64 1,.string t.text,.int .i64 t.n,.int .i64 t.ln,.int .i64 t.cl] 263));rw[hG,hW3];have hb3:=zD hW3 HB2;have hs3:W3.heap.size=G+1:=by rw[←hW3,←hG];simp
 have hGN:N+1≤G:=by rw[←hG,←HS1.out];exact HB2.out.size
 have hrG:W3.heap[G]?=some (.cells #[.int .i64 1,.string t.text,.int .i64 t.n,.int .i64 t.ln,.int .i64 t.cl] 263 (0,0)):=by rw[←hW3,←hG];exact alloc_at _ _
 obtain⟨⟨g0,g1,g2,g3,g4⟩,_,hG3⟩:=fe hrG;have hst3:=HST7.out W3;have HB3:=zH hb3;have HRG:=zH hrG;clear hG hW3 hb3 hrG;rw[hs3] at hst3
 go_upto_region 4 with(fail)
 clear hst3;obtain⟨W4,hW4⟩:=zE (W3.alloc (.cells #[.int .i64 0,.int .i64 0,.string ⟨#[]⟩,.string ⟨#[]⟩,.slice none 0 0,.int .i64 t.ln,.int .i64 t.cl] 313));rw[hW4];have hb4:=zD hW4 HB3;have hs4:W4.heap.size=G+2:=by rw[←hW4];simp[hs3]
 have hrE:W4.heap[G+1]?=some (.cells #[.int .i64 0,.int .i64 0,.string ⟨#[]⟩,.string ⟨#[]⟩,.slice none 0 0,.int .i64 t.ln,.int .i64 t.cl] 313 (0,0)):=by rw[←hW4,←hs3];exact alloc_at _ _
 have hrG4:W4.heap[G]?=some (.cells #[.int .i64 1,.string t.text,.int .i64 t.n,.int .i64 t.ln,.int .i64 t.cl] 263 (0,0)):=by rw[←hW4];exact(Hy _ _ G (by omega)).trans HRG.out
 have hrN4:=(hb4.block N (by have:=HS1.out;omega)).trans HR1.out;have h4:=H1.out.grow hb4;have HBD4:=zH (HBD.out W4 hb4);have HB4:=zH hb4;have HRE:=zH hrE;have HRG4:=zH hrG4;have HRN4:=zH hrN4;have H4:=zH h4;obtain⟨c0,c1,c3,f1,hr⟩:=h4.cells;obtain⟨⟨g0,g1,g2,g3,g4⟩,_,hG4⟩:=fe hrG4;obtain⟨⟨e0,e1,e2,e3,e4,e5,e6⟩,⟨q0,q1,q2,q3,q4,q5,q6⟩,hE4⟩:=ed hrE;clear hW4 hb4 hrE hrG4 hrN4 h4 HBD HTK
 go_upto_region 13 with(go_at_call 171;refine HBD4.out.mono ?_;rintro e w2 ⟨rfl,rfl⟩)
 obtain⟨W6,hW6⟩:=zE (((W4.setCell ⟨r,1,none⟩ (.int .i64 ((i:Int)+1))).setCell ⟨G+1,0,none⟩ (.int .i64 2)).setCell ⟨G+1,2,none⟩ (.string t.text));rw[hW6];have hm6:bK r lb cap T (i+1) w W6:=by
  have a:bK r lb cap T (i+1) W4 (W4.setCell ⟨r,1,none⟩ (.int .i64 ((i:Int)+1))):=⟨H4.out.step,Ext.set1 W4 r 1 _⟩
  have hx:Ext (·=G+1) (W4.setCell ⟨r,1,none⟩ (.int .i64 ((i:Int)+1))) W6:=by rw[←hW6];exact aa (aa (Ext.refl _ _) _) _
  have hwx:H9 w.heap.size w W4:=by rw[hN];exact HB1.out.trans (HB4.out.mono (by rw[HS1.out];omega))
  exact⟨a.1.ext hx (by omega) (by have:=HLB.out;omega),(bK.grown hwx a).2.trans hx (fun k hk=> .inr (by omega))⟩
 have hrE6:W6.heap[G+1]?=some (.cells #[.int .i64 2,.int .i64 0,.string t.text,.string ⟨#[]⟩,.slice none 0 0,.int .i64 t.ln,.int .i64 t.cl] 313 (0,0)):=by
  rw[←hW6];exact Hz _ (G+1) 2 _ _ _ (Hz _ (G+1) 0 _ _ _ ((Below.heap_setCell _ _ _ (G+1) (by show G+1≠r;omega)).trans HRE.out))
 have hrN6:W6.heap[N]?=some (.cells #[.int .i64 0,.int .i64 0,.string ⟨#[]⟩,.string ⟨#[]⟩,.slice none 0 0,.int .i64 0,.int .i64 0] 313 (0,0)):=by
  rw[←hW6];exact(Below.heap_setCell _ _ _ N (by show N≠G+1;omega)).trans ((Below.heap_setCell _ _ _ N (by show N≠G+1;omega)).trans ((Below.heap_setCell _ _ _ N (by show N≠r;omega)).trans HRN4.out))
 have HM6:=zH hm6;have HRE6:=zH hrE6;have HRN6:=zH hrN6;clear hW6 hm6 hrE6 hrN6 c0 c1 c3 f1 hr e0 e1 e2 e3 e4 e5 e6 q0 q1 q2 q3 q4 q5 q6 g0 g1 g2 g3 g4 hG4
 go_upto_region 35 with(go_at_call 172;refine(HPB.out W6 HM6.out.1).mono ?_;rintro e W5 ⟨rfl,hb5⟩;have HB5:=zH hb5;clear hb5)
 have hm5:=HM6.out.grow HB5.out;have hrE5:=(HB5.out.block (G+1) (ae HRE6.out)).trans HRE6.out;have hrN5:=(HB5.out.block N (ae HRN6.out)).trans HRN6.out;obtain⟨⟨e0,e1,e2,e3,e4,e5,e6⟩,⟨q0,q1,q2,q3,q4,q5,q6⟩,hE5⟩:=ed hrE5;have HM5:=zH hm5;have HRN5:=zH hrN5;clear hm5 hrE5 hrN5
 skip
 go_wp2_with (go_at_call 273;refine(HBT.out W5 HM5.out.1).mono ?_;rintro e w6 ⟨rfl,hb6⟩;have HB6:=zH hb6;have hr6:=(hb6.block N (ae HRN5.out)).trans HRN5.out;have HR6:=zH hr6;obtain⟨⟨p0,p1,p2,p3,p4,p5,p6⟩,⟨o0,o1,o2,o3,o4,o5,o6⟩,hN6⟩:=ed hr6;clear hb6 hr6)
 (try simp only[Exit.inBlock,Exit.then]);refine bodyPost_ret (results_cell_row (P:=prog) rfl _ _ N 313 _ (0,0) _ rfl (fO HR6.out) underlying313 rfl (by kernel_rfl)) rfl ?_;have hM:bK r lb cap T (i+1) w w6:=HM5.out.grow HB6.out;exact⟨rfl,hM.1.ext (bV _ _ _ _ _ _ _ _ _) (by omega) (by have:=HLB.out;omega),hM.2.trans (bV _ _ _ _ _ _ _ _ _) (fun k hk=> .inr (by omega))⟩
theorem sK {r lb cap:Nat}{T:List Tok}{i:Nat}{t u:Tok}(d:Int)(w:H5)(h:Rd r lb cap T i w)(ht:T[i]?=some t)(hk:t.kind=2)(hw:dD t Du=true)(hnl:dD t Dt=false)(hu:T[i+1]?=some u)(huk:u.kind=1):
  Calls prog 278 #[.pointer (some ⟨r,0,none⟩),.int .i64 d] w fun e w'=>e= .returned (.agg (Ex.cells ⟨7,0,u.text,t.ln,t.cl⟩))∧bK r lb cap T (i+1+1) w w':=by
 obtain⟨N,hN⟩:=zE w.heap.size;obtain⟨W1,hW1⟩:=zE (w.alloc (.cells #[.int .i64 0,.int .i64 0,.string ⟨#[]⟩,.string ⟨#[]⟩,.slice none 0 0,.int .i64 0,.int .i64 0] 313));have hb1:=gZ hW1 hN;have hs1:W1.heap.size=N+1:=by rw[←hW1];simp[hN]
 have hr1:W1.heap[N]?=some (.cells #[.int .i64 0,.int .i64 0,.string ⟨#[]⟩,.string ⟨#[]⟩,.slice none 0 0,.int .i64 0,.int .i64 0] 313 (0,0)):=by rw[←hW1,←hN];exact alloc_at _ _
 have h1:=h.grow (by rw[hN];exact hb1);have HTK:=zH (bB W1 h1 ht);have HBD:=zH fun W hW=>bu W (h1.grow hW);have hBT:∀W,Rd r lb cap T (i+1+1) W→Calls prog 273 #[.pointer (some ⟨r,0,none⟩),.agg (Ex.cells ⟨7,0,u.text,t.ln,t.cl⟩)] W fun en w'=>en= .returned (.agg (Ex.cells ⟨7,0,u.text,t.ln,t.cl⟩))∧H9 W.heap.size W w':=fun W hW=>jC _ W hW;have HIS:=zH fun s W hW=>bi s W (h1.grow hW) ht;have HNL:=zH (HIS.out Dt);rw[hnl] at HNL;unfold Dt at HNL;have HNW:=zH (HIS.out Du);rw[hw] at HNW;unfold Du at HNW;have HNM:Ia (∀W,Rd r lb cap T (i+1) W→Calls prog 208 #[.pointer (some ⟨r,0,none⟩)] W fun e w'=>e= .returned (.tuple #[.string u.text,.agg #[.int .i64 u.ln,.int .i64 u.cl]])∧bK r lb cap T (i+1+1) W w'):=fun W hW=>dV W hW hu huk;simp only[Tok.cells,hk] at HTK;unfold Ex.cells at hBT;have HBT:=zH hBT;have hst:∀(w:H5)(c:Array Value),c.size=5→(storeCells ⟨w.heap.size,0,none⟩ [.int .i64 t.kind,.string t.text,.int .i64 t.n,.int .i64 t.ln,.int .i64 t.cl] 0).run prog (w.alloc (.cells c 263))= .ok () (w.alloc (.cells #[.int .i64 t.kind,.string t.text,.int .i64 t.n,.int .i64 t.ln,.int .i64 t.cl] 263)):=fun w c hc=>
  run_storeCells_new (P:=prog) w 263 c #[.int .i64 t.kind,.string t.text,.int .i64 t.n,.int .i64 t.ln,.int .i64 t.cl] (by show _=some 5;kernel_rfl) hc (by simp[Value.oneCell'])
 have hst7:∀(w:H5)(c:Array Value),c.size=7→(storeCells ⟨w.heap.size,0,none⟩ [.int .i64 0,.int .i64 0,.string ⟨#[]⟩,.string ⟨#[]⟩,.slice none 0 0,.int .i64 t.ln,.int .i64 t.cl] 0).run prog (w.alloc (.cells c 313))= .ok () (w.alloc (.cells #[.int .i64 0,.int .i64 0,.string ⟨#[]⟩,.string ⟨#[]⟩,.slice none 0 0,.int .i64 t.ln,.int .i64 t.cl] 313)):=fun w c hc=>
  run_storeCells_new (P:=prog) w 313 c #[.int .i64 0,.int .i64 0,.string ⟨#[]⟩,.string ⟨#[]⟩,.slice none 0 0,.int .i64 t.ln,.int .i64 t.cl] (by show _=some 7;kernel_rfl) hc (by simp[Value.oneCell'])
 rw[hk] at hst;have HST:=zH hst;have HST7:=zH hst7;have hil:i<T.length:=(GQ.1 ht).1;have hT:=h.short;have hrN:r<N:=by rw[←hN];exact h.rlt
 have HLB:Ia (lb<N):=by unfold Ia;rw[←hN];exact h.lt
 have HW1:=zH hW1;have HB1:=zH hb1;have HS1:=zH hs1;have HR1:=zH hr1;have H1:=zH h1;clear h ht hBT hst hst7 hW1 hb1 hs1 hr1 h1 hk hw hnl hu huk;go_enter func278,ntmps278
 go_upto_region 2 with(go_at_call 170;rw[HW1.out];refine HTK.out.mono ?_;rintro e w2 ⟨rfl,hb2⟩;have hst2:=HST.out w2;have HB2:=zH hb2;clear hb2)
 clear hst2;obtain⟨G,hG⟩:=zE w2.heap.size;obtain⟨W3,hW3⟩:=zE (w2.alloc (.cells #[.int .i64 2,.string t.text,.int .i64 t.n,.int .i64 t.ln,.int .i64 t.cl] 263));rw[hG,hW3];have hb3:=zD hW3 HB2;have hs3:W3.heap.size=G+1:=by rw[←hW3,←hG];simp
 have hGN:N+1≤G:=by rw[←hG,←HS1.out];exact HB2.out.size
 have hrG:W3.heap[G]?=some (.cells #[.int .i64 2,.string t.text,.int .i64 t.n,.int .i64 t.ln,.int .i64 t.cl] 263 (0,0)):=by rw[←hW3,←hG];exact alloc_at _ _
 obtain⟨⟨g0,g1,g2,g3,g4⟩,_,hG3⟩:=fe hrG;have hst3:=HST7.out W3;have HB3:=zH hb3;have HRG:=zH hrG;clear hG hW3 hb3 hrG;rw[hs3] at hst3
 go_upto_region 4 with(fail)
 clear hst3;obtain⟨W4,hW4⟩:=zE (W3.alloc (.cells #[.int .i64 0,.int .i64 0,.string ⟨#[]⟩,.string ⟨#[]⟩,.slice none 0 0,.int .i64 t.ln,.int .i64 t.cl] 313));rw[hW4];have hb4:=zD hW4 HB3;have hs4:W4.heap.size=G+2:=by rw[←hW4];simp[hs3]
 have hrE:W4.heap[G+1]?=some (.cells #[.int .i64 0,.int .i64 0,.string ⟨#[]⟩,.string ⟨#[]⟩,.slice none 0 0,.int .i64 t.ln,.int .i64 t.cl] 313 (0,0)):=by rw[←hW4,←hs3];exact alloc_at _ _
 have hrG4:W4.heap[G]?=some (.cells #[.int .i64 2,.string t.text,.int .i64 t.n,.int .i64 t.ln,.int .i64 t.cl] 263 (0,0)):=by rw[←hW4];exact(Hy _ _ G (by omega)).trans HRG.out
 have hrN4:=(hb4.block N (by have:=HS1.out;omega)).trans HR1.out;have h4:=H1.out.grow hb4;have HBD4:=zH (HBD.out W4 hb4);have HB4:=zH hb4;have HRE:=zH hrE;have HRG4:=zH hrG4;have HRN4:=zH hrN4;have H4:=zH h4;obtain⟨⟨g0,g1,g2,g3,g4⟩,_,hG4⟩:=fe hrG4;clear hW4 hb4 hrE hrG4 hrN4 h4 HBD HTK
 go_upto_region 19 with(first
  |(go_at_call 171;refine HBD4.out.mono ?_;rintro e w2 ⟨rfl,rfl⟩)
  |(go_at_call 172;refine(HNL.out W4 HB4.out).mono ?_;rintro e W6 ⟨rfl,hb6⟩;have HB6:=zH (HB4.out.trans (hb6.mono HB4.out.size));have HBX:=zH hb6;clear hb6))
 go_upto_region 20 with(go_at_call 172;refine(HNW.out W6 HB6.out).mono ?_;rintro e W7 ⟨rfl,hb7⟩;have HB7:=zH (HBX.out.trans (hb7.mono HBX.out.size));clear hb7)
 have h7:=H4.out.grow HB7.out;have hrE7:=(HB7.out.block (G+1) (ae HRE.out)).trans HRE.out;have hrN7:=(HB7.out.block N (ae HRN4.out)).trans HRN4.out;obtain⟨c0,c1,c3,f1,hr⟩:=h7.cells;obtain⟨⟨e0,e1,e2,e3,e4,e5,e6⟩,⟨q0,q1,q2,q3,q4,q5,q6⟩,hE4⟩:=ed hrE7;have H7:=zH h7;have HRE7:=zH hrE7;have HRN7:=zH hrN7;clear h7 hrE7 hrN7
 go_upto_region 22 with(fail)
 obtain⟨W8,hW8⟩:=zE ((W7.setCell ⟨r,1,none⟩ (.int .i64 ((i:Int)+1))).setCell ⟨G+1,0,none⟩ (.int .i64 7));rw[hW8];have hm8:bK r lb cap T (i+1) w W8:=by
  have a:bK r lb cap T (i+1) W7 (W7.setCell ⟨r,1,none⟩ (.int .i64 ((i:Int)+1))):=⟨H7.out.step,Ext.set1 W7 r 1 _⟩
  have hx:Ext (·=G+1) (W7.setCell ⟨r,1,none⟩ (.int .i64 ((i:Int)+1))) W8:=by rw[←hW8];exact aa (Ext.refl _ _) _
  have hwx:H9 w.heap.size w W7:=by rw[hN];exact HB1.out.trans ((HB4.out.trans (HB7.out.mono HB4.out.size)).mono (by rw[HS1.out];omega))
  exact⟨a.1.ext hx (by omega) (by have:=HLB.out;omega),(bK.grown hwx a).2.trans hx (fun k hk=> .inr (by omega))⟩
 have hrE8:W8.heap[G+1]?=some (.cells #[.int .i64 7,.int .i64 0,.string ⟨#[]⟩,.string ⟨#[]⟩,.slice none 0 0,.int .i64 t.ln,.int .i64 t.cl] 313 (0,0)):=by
  rw[←hW8];exact Hz _ (G+1) 0 _ _ _ ((Below.heap_setCell _ _ _ (G+1) (by show G+1≠r;omega)).trans HRE7.out)
 have hrN8:W8.heap[N]?=some (.cells #[.int .i64 0,.int .i64 0,.string ⟨#[]⟩,.string ⟨#[]⟩,.slice none 0 0,.int .i64 0,.int .i64 0] 313 (0,0)):=by
  rw[←hW8];exact(Below.heap_setCell _ _ _ N (by show N≠G+1;omega)).trans ((Below.heap_setCell _ _ _ N (by show N≠r;omega)).trans HRN7.out)
 have HM8:=zH hm8;have HRE8:=zH hrE8;have HRN8:=zH hrN8;clear hW8 hm8 hrE8 hrN8 c0 c1 c3 f1 hr e0 e1 e2 e3 e4 e5 e6 q0 q1 q2 q3 q4 q5 q6 hE4
 go_upto_region 35 with(go_at_call 208;refine(HNM.out W8 HM8.out.1).mono ?_;rintro e W9 ⟨rfl,hm9⟩;have HM9:=zH hm9;have hrE9:=hm9.2.heap HRE8.out (by omega);obtain⟨⟨e0,e1,e2,e3,e4,e5,e6⟩,⟨q0,q1,q2,q3,q4,q5,q6⟩,hE9⟩:=ed hrE9;clear hm9 hrE9)
 obtain⟨W5,hW5⟩:=zE (W9.setCell ⟨G+1,2,none⟩ (.string u.text));rw[hW5];have hx5:Ext (·=G+1) W9 W5:=by rw[←hW5];exact aa (Ext.refl _ _) _
 have hm9:=HM8.out.trans HM9.out;have hm5:bK r lb cap T (i+1+1) w W5:=⟨hm9.1.ext hx5 (by omega) (by have:=HLB.out;omega),hm9.2.trans hx5 (fun k hk=> .inr (by omega))⟩
 have hrE5:W5.heap[G+1]?=some (.cells #[.int .i64 7,.int .i64 0,.string u.text,.string ⟨#[]⟩,.slice none 0 0,.int .i64 t.ln,.int .i64 t.cl] 313 (0,0)):=by
  rw[←hW5];exact Hz _ (G+1) 2 _ _ _ (HM9.out.2.heap HRE8.out (by omega))
 have hrN5:W5.heap[N]?=some (.cells #[.int .i64 0,.int .i64 0,.string ⟨#[]⟩,.string ⟨#[]⟩,.slice none 0 0,.int .i64 0,.int .i64 0] 313 (0,0)):=hx5.heap (HM9.out.2.heap HRN8.out (by omega)) (by omega);clear hx5 hm9;obtain⟨⟨e0,e1,e2,e3,e4,e5,e6⟩,⟨q0,q1,q2,q3,q4,q5,q6⟩,hE5⟩:=ed hrE5;have HM5:=zH hm5;have HRN5:=zH hrN5;clear hm5 hrE5 hrN5;clear hW5
 go_wp2_with (go_at_call 273;refine(HBT.out W5 HM5.out.1).mono ?_;rintro e w6 ⟨rfl,hb6⟩;have HB6:=zH hb6;have hr6:=(hb6.block N (ae HRN5.out)).trans HRN5.out;have HR6:=zH hr6;obtain⟨⟨p0,p1,p2,p3,p4,p5,p6⟩,⟨o0,o1,o2,o3,o4,o5,o6⟩,hN6⟩:=ed hr6;clear hb6 hr6)
 (try simp only[Exit.inBlock,Exit.then]);refine bodyPost_ret (results_cell_row (P:=prog) rfl _ _ N 313 _ (0,0) _ rfl (fO HR6.out) underlying313 rfl (by kernel_rfl)) rfl ?_;have hM:bK r lb cap T (i+1+1) w w6:=HM5.out.grow HB6.out;exact⟨rfl,hM.1.ext (bV _ _ _ _ _ _ _ _ _) (by omega) (by have:=HLB.out;omega),hM.2.trans (bV _ _ _ _ _ _ _ _ _) (fun k hk=> .inr (by omega))⟩
def dG:ByteArray:=⟨#[59]⟩
def Al:ByteArray:=⟨#[45,62]⟩
theorem jI {t:Tok}{s s':ByteArray}(h:dD t s=true)(hne:s≠s'):dD t s'=false:=by
 unfold dD at h⊢;rw[Bool.and_eq_true] at h;have e:t.text=s:=eq_of_beq h.2;rw[e,beq_eq_false_iff_ne.2 hne,Bool.and_false]
theorem oq {t:Tok}(h2:t.kind≠2)(h4:t.kind≠4)(l:List ByteArray):lK t l=false:=by
 unfold lK;rw[List.any_eq_false];intro s _;unfold dD;rw[beq_eq_false_iff_ne.2 h2,beq_eq_false_iff_ne.2 h4];simp
theorem lq {t:Tok}{s:ByteArray}(h:dD t s=true){l:List ByteArray}(hl:∀x∈l,s≠x):lK t l=false:=by
 unfold lK;rw[List.any_eq_false];intro x hx;rw[jI h (hl x hx)];simp
inductive eU (T:List Tok) (i:Nat):Ex→Nat→Prop
 |num (t:Tok):T[i]?=some t→t.kind=3→eU T i ⟨1,t.n,⟨#[]⟩,t.ln,t.cl⟩ (i+1)
 |var (t u:Tok):T[i]?=some t→t.kind=1→T[i+1]?=some u→dD u eT=false→eU T i ⟨2,0,t.text,t.ln,t.cl⟩ (i+1)
 |new (t u:Tok):T[i]?=some t→t.kind=2→dD t Du=true→T[i+1]?=some u→u.kind=1→eU T i ⟨7,0,u.text,t.ln,t.cl⟩ (i+1+1)
theorem eU.first {T:List Tok}{i k:Nat}{e:Ex}(h:eU T i e k):∃t,T[i]?=some t∧(t.kind=3∨t.kind=1∨dD t Du=true)∧i<k:=by
 cases h with
 |num t h1 h2=>exact⟨t,h1,.inl h2,by omega⟩
 |var t u h1 h2=>exact⟨t,h1,.inr (.inl h2),by omega⟩
 |new t u h1 h2 h3=>exact⟨t,h1,.inr (.inr h3),by omega⟩
theorem pR {r lb cap:Nat}{T:List Tok}{i k:Nat}{e:Ex}(d:Int)(w:H5)(h:Rd r lb cap T i w)(hl:eU T i e k):
  Calls prog 278 #[.pointer (some ⟨r,0,none⟩),.int .i64 d] w fun en w'=>en= .returned (.agg e.cells)∧bK r lb cap T k w w':=by
 cases hl with
 |num t h1 h2=>exact sI d w h h1 h2
 |var t u h1 h2 h3 h4=>exact sJ d w h h1 h2 h3 h4
 |new t u h1 h2 h3 h4 h5=>exact sK d w h h1 h2 h3 (jI h3 (by decide)) h4 h5
theorem sM {r lb cap:Nat}{T:List Tok}{i k:Nat}{e:Ex}{z:Tok}(d:Int)(w:H5)(h:Rd r lb cap T i w)(hl:eU T i e k)(hz:T[k]?=some z)(hs:dD z dG=true):
  Calls prog 276 #[.pointer (some ⟨r,0,none⟩),.int .i64 d] w fun en w'=>en= .returned (.agg e.cells)∧bK r lb cap T k w w':=by
 obtain⟨N,hN⟩:=zE w.heap.size;obtain⟨W1,hW1⟩:=zE ((w.alloc (.cells #[.int .i64 0,.int .i64 0,.string ⟨#[]⟩,.string ⟨#[]⟩,.slice none 0 0,.int .i64 0,.int .i64 0] 313)).alloc (.cells #[.string ⟨#[45]⟩,.string ⟨#[33]⟩] 9));have hb1:=uG hW1 hN;have hs1:W1.heap.size=N+2:=by rw[←hW1];simp[hN]
 have hr1:=xV hW1 hN;have hr2:=zV hW1 hN;have h1:=h.grow (by rw[hN];exact hb1);obtain⟨t,ht,htk,hik⟩:=hl.first
 have hAN:=gP (N+1) 2 [⟨#[45]⟩,⟨#[33]⟩] W1 h1 ht (by decide) (by omega) (fun k x hx=>by
  rw[cell_of_row _ _ _ _ _ _ hr2]
  match k,hx with
  |0,hx=>simp at hx;subst hx;rfl
  |1,hx=>simp at hx;subst hx;rfl)
 have hno:lK t [⟨#[45]⟩,⟨#[33]⟩]=false:=by
  rcases htk with h|h|h
  ·exact oq (by omega) (by omega) _
  ·exact oq (by omega) (by omega) _
  ·exact lq h (by decide)
 rw[hno] at hAN;have HAN:=zH hAN;have hPR:∀W,Rd r lb cap T i W→Calls prog 278 #[.pointer (some ⟨r,0,none⟩),.int .i64 d] W fun en w'=>en= .returned (.agg e.cells)∧bK r lb cap T k W w':=fun W hW=>pR d W hW hl;have HIS:Ia (∀W,Rd r lb cap T k W→zP 172 #[.pointer (some ⟨r,0,none⟩),.string Al] W (.bool (dD z Al))):=fun W hW=>bi _ W hW hz;rw[jI hs (by decide)] at HIS;unfold Al at HIS;unfold Ex.cells at hPR⊢;have HPR:=zH hPR;have hst:∀(w:H5)(c:Array Value),c.size=7→(storeCells ⟨w.heap.size,0,none⟩ [.int .i64 e.kind,.int .i64 e.n,.string e.nm,.string ⟨#[]⟩,.slice none 0 0,.int .i64 e.ln,.int .i64 e.cl] 0).run prog (w.alloc (.cells c 313))= .ok () (w.alloc (.cells #[.int .i64 e.kind,.int .i64 e.n,.string e.nm,.string ⟨#[]⟩,.slice none 0 0,.int .i64 e.ln,.int .i64 e.cl] 313)):=fun w c hc=>
  run_storeCells_new (P:=prog) w 313 c #[.int .i64 e.kind,.int .i64 e.n,.string e.nm,.string ⟨#[]⟩,.slice none 0 0,.int .i64 e.ln,.int .i64 e.cl] (by show _=some 7;kernel_rfl) hc (by simp[Value.oneCell'])
 have HST:=zH hst;have hrN:r<N:=by rw[←hN];exact h.rlt
 have HLB:Ia (lb<N):=by unfold Ia;rw[←hN];exact h.lt
 have HW1:=zH hW1;have HB1:=zH hb1;have HS1:=zH hs1;have HR1:=zH hr1;have H1:=zH h1;clear h hl hz hs hW1 hb1 hs1 hr1 hr2 h1 ht htk hAN hno hPR hst;go_enter func276,ntmps276
 go_upto_region 8 with(go_at_call 260;rw[HW1.out];refine HAN.out.mono ?_;rintro e w2 ⟨rfl,hb2⟩;have HB2:=zH hb2;clear hb2)
 have H2:=zH (H1.out.grow HB2.out);have HR2:=zH ((HB2.out.block N (by rw[HS1.out];omega)).trans HR1.out)
 go_upto_region 9 with(go_at_call 278;refine(HPR.out w2 H2.out).mono ?_;rintro e w3 ⟨rfl,hm3⟩;have HM3:=zH hm3;have hst3:=HST.out w3;clear hm3)
 clear hst3;obtain⟨G,hG⟩:=zE w3.heap.size;obtain⟨W4,hW4⟩:=zE (w3.alloc (.cells #[.int .i64 e.kind,.int .i64 e.n,.string e.nm,.string ⟨#[]⟩,.slice none 0 0,.int .i64 e.ln,.int .i64 e.cl] 313));rw[hG,hW4];have hb4:=gK hW4;have hwx:H9 w.heap.size w w2:=by rw[hN];exact HB1.out.trans (HB2.out.mono (by rw[HS1.out];omega))
 have hm4:bK r lb cap T k w W4:=(bK.grown hwx HM3.out).grow hb4;have hrG:W4.heap[G]?=some (.cells #[.int .i64 e.kind,.int .i64 e.n,.string e.nm,.string ⟨#[]⟩,.slice none 0 0,.int .i64 e.ln,.int .i64 e.cl] 313 (0,0)):=by rw[←hW4,←hG];exact alloc_at _ _
 have hrN4:=(hb4.block N (ae (HM3.out.2.heap HR2.out (by omega)))).trans (HM3.out.2.heap HR2.out (by omega));have HM4:=zH hm4;have HRG:=zH hrG;have HRN4:=zH hrN4;clear hG hW4 hb4 hwx hm4 hrG hrN4
 go_loopw [9] (fun _ wr=>wr=W4) (fun _ _=>0)
 case atStart=>rfl
 case round=>
  obtain rfl:=hrel
  go_upto_region 14 with(go_at_call 172;refine(HIS.out _ HM4.out.1).mono ?_;rintro e w5 ⟨rfl,hb5⟩;have HB5:=zH hb5;clear hb5)
  have hrG5:=(HB5.out.block G (ae HRG.out)).trans HRG.out;have hrN5:=(HB5.out.block N (ae HRN4.out)).trans HRN4.out;have HRN5:=zH hrN5;obtain⟨⟨g0,g1,g2,g3,g4,g5,g6⟩,_,hG4⟩:=ed hrG5;obtain⟨⟨p0,p1,p2,p3,p4,p5,p6⟩,⟨o0,o1,o2,o3,o4,o5,o6⟩,hN6⟩:=ed hrN5;clear hrG5 hrN5;go_wp2;(try simp only[Exit.inBlock,Exit.then]);refine bodyPost_ret (results_cell_row (P:=prog) rfl _ _ N 313 _ (0,0) _ rfl (fO HRN5.out) underlying313 rfl (by kernel_rfl)) rfl ?_;have hM:bK r lb cap T k w w5:=HM4.out.grow HB5.out;exact⟨rfl,hM.1.ext (bV _ _ _ _ _ _ _ _ _) (by omega) (by have:=HLB.out;omega),hM.2.trans (bV _ _ _ _ _ _ _ _ _) (fun k hk=> .inr (by omega))⟩
def opsOf (q:Nat):List ByteArray:=match q with
 |0=>[⟨#[42]⟩,⟨#[47]⟩,⟨#[37]⟩]
 |1=>[⟨#[43]⟩,⟨#[45]⟩]
 |_=>[⟨#[61,61]⟩,⟨#[33,61]⟩,⟨#[60]⟩,⟨#[60,61]⟩,⟨#[62]⟩,⟨#[62,61]⟩]
def yh:Array Value:=#[.string ⟨#[42]⟩,.string ⟨#[47]⟩,.string ⟨#[37]⟩]
def BD:Array Value:=#[.string ⟨#[43]⟩,.string ⟨#[45]⟩]
def Dv:Array Value:=#[.string ⟨#[61,61]⟩,.string ⟨#[33,61]⟩,.string ⟨#[60]⟩,.string ⟨#[60,61]⟩,.string ⟨#[62]⟩,.string ⟨#[62,61]⟩]
def ou (w:H5)(N:Nat):H5:=
 ((((w.alloc (.cells #[.int .i64 0,.int .i64 0,.string ⟨#[]⟩,.string ⟨#[]⟩,.slice none 0 0,.int .i64 0,.int .i64 0] 313)).alloc (.cells #[.string ⟨#[42]⟩,.string ⟨#[47]⟩,.string ⟨#[37]⟩] 9)).alloc (.cells #[.string ⟨#[43]⟩,.string ⟨#[45]⟩] 9)).alloc
  (.cells #[.string ⟨#[61,61]⟩,.string ⟨#[33,61]⟩,.string ⟨#[60]⟩,.string ⟨#[60,61]⟩,.string ⟨#[62]⟩,.string ⟨#[62,61]⟩] 9)).alloc (.cells #[.slice (some ⟨N+1,0,none⟩) 3 3,.slice (some ⟨N+2,0,none⟩) 2 2,.slice (some ⟨N+3,0,none⟩) 6 6] 223)
structure vX (w W:H5)(N:Nat):Prop where
 low:H9 N w W
 size:W.heap.size=N+5
 res:W.heap[N]?=some (.cells #[.int .i64 0,.int .i64 0,.string ⟨#[]⟩,.string ⟨#[]⟩,.slice none 0 0,.int .i64 0,.int .i64 0] 313 (0,0))
 r0:W.heap[N+1]?=some (.cells yh 9 (0,0))
 r1:W.heap[N+2]?=some (.cells BD 9 (0,0))
 r2:W.heap[N+3]?=some (.cells Dv 9 (0,0))
 out:W.heap[N+4]?=some (.cells #[.slice (some ⟨N+1,0,none⟩) 3 3,.slice (some ⟨N+2,0,none⟩) 2 2,.slice (some ⟨N+3,0,none⟩) 6 6] 223 (0,0))
theorem qF (w:H5)(N:Nat)(hN:w.heap.size=N):vX w (ou w N) N:=by
 unfold ou;refine⟨(((((Hw N w).alloc (by omega) _).alloc (by simp<;>omega) _).alloc (by simp<;>omega) _).alloc (by simp<;>omega) _).alloc (by simp<;>omega) _,by simp[hN], ?_, ?_, ?_, ?_, ?_⟩
 ·refine(Hy _ _ N (by simp;omega)).trans ((Hy _ _ N (by simp;omega)).trans ((Hy _ _ N (by simp;omega)).trans ((Hy _ _ N (by simp;omega)).trans ?_)))
  rw[←hN];exact alloc_at _ _
 ·refine(Hy _ _ (N+1) (by simp;omega)).trans ((Hy _ _ (N+1) (by simp;omega)).trans ((Hy _ _ (N+1) (by simp;omega)).trans ?_))
  have:=alloc_at (w.alloc (.cells #[.int .i64 0,.int .i64 0,.string ⟨#[]⟩,.string ⟨#[]⟩,.slice none 0 0,.int .i64 0,.int .i64 0] 313)) (.cells yh 9);rw[Hu,hN] at this;exact this
 ·refine(Hy _ _ (N+2) (by simp;omega)).trans ((Hy _ _ (N+2) (by simp;omega)).trans ?_)
  have:=alloc_at ((w.alloc (.cells #[.int .i64 0,.int .i64 0,.string ⟨#[]⟩,.string ⟨#[]⟩,.slice none 0 0,.int .i64 0,.int .i64 0] 313)).alloc (.cells yh 9)) (.cells BD 9);rw[Hu,Hu,hN] at this;exact this
 ·refine(Hy _ _ (N+3) (by simp;omega)).trans ?_
  have:=alloc_at (((w.alloc (.cells #[.int .i64 0,.int .i64 0,.string ⟨#[]⟩,.string ⟨#[]⟩,.slice none 0 0,.int .i64 0,.int .i64 0] 313)).alloc (.cells yh 9)).alloc (.cells BD 9)) (.cells Dv 9);rw[Hu,Hu,Hu,hN] at this;exact this
 ·have:=alloc_at ((((w.alloc (.cells #[.int .i64 0,.int .i64 0,.string ⟨#[]⟩,.string ⟨#[]⟩,.slice none 0 0,.int .i64 0,.int .i64 0] 313)).alloc (.cells yh 9)).alloc (.cells BD 9)).alloc (.cells Dv 9)) (.cells #[.slice (some ⟨N+1,0,none⟩) 3 3,.slice (some ⟨N+2,0,none⟩) 2 2,.slice (some ⟨N+3,0,none⟩) 6 6] 223)
  rw[Hu,Hu,Hu,Hu,hN] at this;exact this
theorem Am {r lb cap:Nat}{T:List Tok}{i k:Nat}{e:Ex}{z:Tok}(d:Int)(w:H5)(h:Rd r lb cap T i w)(hl:eU T i e k)(hz:T[k]?=some z)(hs:dD z dG=true):
  Calls prog 272 #[.pointer (some ⟨r,0,none⟩),.int .i64 (-1),.int .i64 d] w fun en w'=>en= .returned (.agg e.cells)∧bK r lb cap T k w w':=by
 obtain⟨N,hN⟩:=zE w.heap.size;have hci:=qF w N hN;obtain⟨W1,hW1⟩:=zE (ou w N);rw[hW1] at hci;unfold ou at hW1;have h1:=h.grow (show H9 w.heap.size w W1 by rw[hN];exact hci.low);have hUN:=sM d W1 h1 hl hz hs;unfold Ex.cells at hUN⊢;have HUN:=zH hUN;have hrN:r<N:=by rw[←hN];exact h.rlt
 have HLB:Ia (lb<N):=by unfold Ia;rw[←hN];exact h.lt
 have HW1:=zH hW1;have HCI:=zH hci;clear h hl hz hs hW1 hci h1 hUN;go_enter func272,ntmps272
 go_upto_region 2 with(fail)
 rw[HW1.out]
 go_wp2_with (go_at_call 276;refine HUN.out.mono ?_;rintro e w3 ⟨rfl,hm3⟩;have hr3:=hm3.2.heap HCI.out.res (by omega);have HM3:=zH hm3;have HR3:=zH hr3;obtain⟨⟨p0,p1,p2,p3,p4,p5,p6⟩,⟨o0,o1,o2,o3,o4,o5,o6⟩,hN6⟩:=ed hr3;clear hm3 hr3)
 (try simp only[Exit.inBlock,Exit.then]);refine bodyPost_ret (results_cell_row (P:=prog) rfl _ _ N 313 _ (0,0) _ rfl (fO HR3.out) underlying313 rfl (by kernel_rfl)) rfl ?_;have hM:bK r lb cap T k w w3:=bK.grown (by rw[hN];exact HCI.out.low) HM3.out;exact⟨rfl,hM.1.ext (bV _ _ _ _ _ _ _ _ _) (by omega) (by have:=HLB.out;omega),hM.2.trans (bV _ _ _ _ _ _ _ _ _) (fun k hk=> .inr (by omega))⟩
theorem iL {W:H5}{b:Nat}{l:List ByteArray}{cs:Array Value}{t:TypeId}(h:W.heap[b]?=some (.cells cs t (0,0)))(hc:cs=(l.map Value.string).toArray):oo W b l:=fun k x hx=>by
 rw[cell_of_row _ _ _ _ _ _ h,hc];simp[hx]
theorem Ce {w W:H5}{N:Nat}(h:vX w W N):∀(q:Nat),q<3→oo W (N+1+q) (opsOf q)
 |0,_=>iL h.r0 rfl
 |1,_=>iL h.r1 rfl
 |2,_=>iL h.r2 rfl
theorem Cg {w W:H5}{N:Nat}(h:vX w W N):∀(q:Nat),q<3→W.cell? ⟨N+4,q,none⟩=some (.slice (some ⟨N+1+q,0,none⟩) (opsOf q).length (opsOf q).length)
 |0,_=>by rw[cell_of_row _ _ _ _ _ _ h.out];rfl
 |1,_=>by rw[cell_of_row _ _ _ _ _ _ h.out];rfl
 |2,_=>by rw[cell_of_row _ _ _ _ _ _ h.out];rfl
theorem FL {z:Tok}(hs:dD z dG=true):∀(q:Nat),q<3→lK z (opsOf q)=false
 |0,_=>lq hs (by decide)
 |1,_=>lq hs (by decide)
 |2,_=>lq hs (by decide)
theorem EC:∀(q:Nat),q<3→(opsOf q).length≤20
 |0,_=>by decide
 |1,_=>by decide
 |2,_=>by decide
theorem oo.ext {W W':H5}{b:Nat}{l:List ByteArray}{M:Nat→Prop}(h:oo W b l)(hx:Ext M W W')(hb:b<W.heap.size)(hM:¬M b):oo W' b l:=fun k x hk=>by
 rw[hx.cell (a:=⟨b,k,none⟩) hb hM];exact h k x hk
theorem vY {r lb cap:Nat}{T:List Tok}{i k:Nat}{e:Ex}{z:Tok}(q:Nat)(hq:q<3)(d:Int)(w:H5)(h:Rd r lb cap T i w)(hl:eU T i e k)(hz:T[k]?=some z)(hs:dD z dG=true)
  (hrec:∀W,Rd r lb cap T i W→Calls prog 272 #[.pointer (some ⟨r,0,none⟩),.int .i64 ((q:Int)-1),.int .i64 d] W fun en w'=>en= .returned (.agg e.cells)∧bK r lb cap T k W w'):
  Calls prog 272 #[.pointer (some ⟨r,0,none⟩),.int .i64 (q:Int),.int .i64 d] w fun en w'=>en= .returned (.agg e.cells)∧bK r lb cap T k w w':=by
 obtain⟨N,hN⟩:=zE w.heap.size;have hci:=qF w N hN;obtain⟨W1,hW1⟩:=zE (ou w N);rw[hW1] at hci;unfold ou at hW1;have h1:=h.grow (show H9 w.heap.size w W1 by rw[hN];exact hci.low);have hRC:=hrec W1 h1;have hAN:∀W,Rd r lb cap T k W→Ext (·=r) W1 W→zP 260 #[.pointer (some ⟨r,0,none⟩),.slice (some ⟨N+1+q,0,none⟩) (opsOf q).length (opsOf q).length] W (.bool false):=by
  intro W hW hx;have hlt:=hx.size;have hrl:=h.rlt;have hsz:=hci.size;have hrow:=(Ce hci q hq).ext hx (by omega) (by omega);have:=gP (N+1+q) (opsOf q).length (opsOf q) W hW hz (EC q hq) (by omega) hrow
  rwa [FL hs q hq] at this
 have hld:∀W,Ext (·=r) W1 W→W.cell? ⟨N+4,q,none⟩=some (.slice (some ⟨N+1+q,0,none⟩) (opsOf q).length (opsOf q).length):=by
  intro W hx;have hrl:=h.rlt;have hsz:=hci.size;rw[hx.cell (a:=⟨N+4,q,none⟩) (by show N+4<_;omega) (by show¬N+4=r;omega)];exact Cg hci q hq
 obtain⟨OL,hOL⟩:=zE ((opsOf q).length);rw[hOL] at hAN hld;unfold Ex.cells at hRC⊢;have HRC:=zH hRC;have HAN:=zH hAN;have HLD:=zH hld;have hst:∀(w:H5)(c:Array Value),c.size=7→(storeCells ⟨w.heap.size,0,none⟩ [.int .i64 e.kind,.int .i64 e.n,.string e.nm,.string ⟨#[]⟩,.slice none 0 0,.int .i64 e.ln,.int .i64 e.cl] 0).run prog (w.alloc (.cells c 313))= .ok () (w.alloc (.cells #[.int .i64 e.kind,.int .i64 e.n,.string e.nm,.string ⟨#[]⟩,.slice none 0 0,.int .i64 e.ln,.int .i64 e.cl] 313)):=fun w c hc=>
  run_storeCells_new (P:=prog) w 313 c #[.int .i64 e.kind,.int .i64 e.n,.string e.nm,.string ⟨#[]⟩,.slice none 0 0,.int .i64 e.ln,.int .i64 e.cl] (by show _=some 7;kernel_rfl) hc (by simp[Value.oneCell'])
 have HST:=zH hst;have hrN:r<N:=by rw[←hN];exact h.rlt
 have HLB:Ia (lb<N):=by unfold Ia;rw[←hN];exact h.lt
 have HW1:=zH hW1;have HCI:=zH hci;have hq3:(q:Int)<3:=by omega
 clear h hl hz hs hW1 hci h1 hRC hAN hld hst hrec hOL;go_enter func272,ntmps272
 go_upto_region 2 with(fail)
 rw[HW1.out]
 go_upto_region 5 with(go_at_call 272;refine HRC.out.mono ?_;rintro e w3 ⟨rfl,hm3⟩;have HM3:=zH hm3;have hst3:=HST.out w3;clear hm3)
 clear hst3;obtain⟨G,hG⟩:=zE w3.heap.size;obtain⟨W4,hW4⟩:=zE (w3.alloc (.cells #[.int .i64 e.kind,.int .i64 e.n,.string e.nm,.string ⟨#[]⟩,.slice none 0 0,.int .i64 e.ln,.int .i64 e.cl] 313));rw[hG,hW4];have hb4:=gK hW4;have hwx:H9 w.heap.size w W1:=by rw[hN];exact HCI.out.low
 have hm14:bK r lb cap T k W1 W4:=HM3.out.grow hb4;have hm4:bK r lb cap T k w W4:=bK.grown hwx hm14;have hrG:W4.heap[G]?=some (.cells #[.int .i64 e.kind,.int .i64 e.n,.string e.nm,.string ⟨#[]⟩,.slice none 0 0,.int .i64 e.ln,.int .i64 e.cl] 313 (0,0)):=by rw[←hW4,←hG];exact alloc_at _ _
 have hrN4:=hm14.2.heap HCI.out.res (by omega);have HAN4:=zH (HAN.out W4 hm14.1 hm14.2);have hl4:=HLD.out W4 hm14.2;have HM4:=zH hm4;have HRG:=zH hrG;have HRN4:=zH hrN4;have hN4:N+4<W4.heap.size:=ae (hm14.2.heap HCI.out.out (by omega));clear hG hW4 hb4 hwx hm14 hm4 hrG hrN4 HAN HLD
 go_loopw [9] (fun _ wr=>wr=W4) (fun _ _=>0)
 case atStart=>rfl
 case round=>
  obtain rfl:=hrel
  go_upto_region 11 with(go_at_call 260;refine HAN4.out.mono ?_;rintro e w5 ⟨rfl,hb5⟩;have HB5:=zH hb5;clear hb5)
  have hrG5:=(HB5.out.block G (ae HRG.out)).trans HRG.out;have hrN5:=(HB5.out.block N (ae HRN4.out)).trans HRN4.out;have HRN5:=zH hrN5;obtain⟨⟨g0,g1,g2,g3,g4,g5,g6⟩,_,hG4⟩:=ed hrG5;obtain⟨⟨p0,p1,p2,p3,p4,p5,p6⟩,⟨o0,o1,o2,o3,o4,o5,o6⟩,hN6⟩:=ed hrN5;clear hrG5 hrN5;go_wp2;(try simp only[Exit.inBlock,Exit.then]);refine bodyPost_ret (results_cell_row (P:=prog) rfl _ _ N 313 _ (0,0) _ rfl (fO HRN5.out) underlying313 rfl (by kernel_rfl)) rfl ?_;have hM:bK r lb cap T k w w5:=HM4.out.grow HB5.out;exact⟨rfl,hM.1.ext (bV _ _ _ _ _ _ _ _ _) (by omega) (by have:=HLB.out;omega),hM.2.trans (bV _ _ _ _ _ _ _ _ _) (fun k hk=> .inr (by omega))⟩
theorem lW {r lb cap:Nat}{T:List Tok}{i k:Nat}{e:Ex}{z:Tok}(d:Int)(hl:eU T i e k)(hz:T[k]?=some z)(hs:dD z dG=true):
  ∀(q:Nat)(_:q≤3)(w:H5)(_:Rd r lb cap T i w),Calls prog 272 #[.pointer (some ⟨r,0,none⟩),.int .i64 ((q:Int)-1),.int .i64 d] w fun en w'=>en= .returned (.agg e.cells)∧bK r lb cap T k w w'
 |0,_,w,h=>Am d w h hl hz hs
 |q+1,hq,w,h=>by
  have:=vY q (by omega) d w h hl hz hs (fun W hW=>lW d hl hz hs q (by omega) W hW);rw[show((q+1:Nat):Int)-1=(q:Int) by omega];exact this
theorem mW {r lb cap:Nat}{T:List Tok}{i k:Nat}{e:Ex}{z:Tok}(d:Int)(w:H5)(h:Rd r lb cap T i w)(hl:eU T i e k)(hz:T[k]?=some z)(hs:dD z dG=true):
  Calls prog 263 #[.pointer (some ⟨r,0,none⟩),.int .i64 d] w fun en w'=>en= .returned (.agg e.cells)∧bK r lb cap T k w w':=by
 obtain⟨N,hN⟩:=zE w.heap.size;obtain⟨W1,hW1⟩:=zE (w.alloc (.cells #[.int .i64 0,.int .i64 0,.string ⟨#[]⟩,.string ⟨#[]⟩,.slice none 0 0,.int .i64 0,.int .i64 0] 313));have hb1:=gZ hW1 hN;have hr1:W1.heap[N]?=some (.cells #[.int .i64 0,.int .i64 0,.string ⟨#[]⟩,.string ⟨#[]⟩,.slice none 0 0,.int .i64 0,.int .i64 0] 313 (0,0)):=by rw[←hW1,←hN];exact alloc_at _ _
 have h1:=h.grow (by rw[hN];exact hb1);have hCH:=lW d hl hz hs 3 (He _) W1 h1;rw[show((3:Nat):Int)-1=2 from rfl] at hCH;unfold Ex.cells at hCH⊢;have HCH:=zH hCH;have hrN:r<N:=by rw[←hN];exact h.rlt
 have HLB:Ia (lb<N):=by unfold Ia;rw[←hN];exact h.lt
 have HW1:=zH hW1;have HB1:=zH hb1;have HR1:=zH hr1;clear h hl hz hs hW1 hb1 hr1 h1 hCH;go_enter func263,ntmps263
 go_wp2_with (go_at_call 272;rw[HW1.out];refine HCH.out.mono ?_;rintro e w3 ⟨rfl,hm3⟩;have hr3:=hm3.2.heap HR1.out (by omega);have HM3:=zH hm3;have HR3:=zH hr3;obtain⟨⟨p0,p1,p2,p3,p4,p5,p6⟩,⟨o0,o1,o2,o3,o4,o5,o6⟩,hN6⟩:=ed hr3;clear hm3 hr3)
 (try simp only[Exit.inBlock,Exit.then]);refine bodyPost_ret (results_cell_row (P:=prog) rfl _ _ N 313 _ (0,0) _ rfl (fO HR3.out) underlying313 rfl (by kernel_rfl)) rfl ?_;have hM:bK r lb cap T k w w3:=bK.grown (by rw[hN];exact HB1.out) HM3.out;exact⟨rfl,hM.1.ext (bV _ _ _ _ _ _ _ _ _) (by omega) (by have:=HLB.out;omega),hM.2.trans (bV _ _ _ _ _ _ _ _ _) (fun k hk=> .inr (by omega))⟩
structure Sm where
 kind:Int
 ty:Ty
 nm:ByteArray
 E:Value
 ln:Int
 cl:Int
 es:List Ex
def Sm.cells (s:Sm):Array Value:=#[.int .i64 s.kind,.bool s.ty.1,.string s.ty.2,.string s.nm,s.E,.slice none 0 0,.slice none 0 0,.int .i64 s.ln,.int .i64 s.cl]
def Gy (e:Ex):List Value:=e.cells.toList
def Sm.inn (B:Nat)(w:H5)(s:Sm):Prop:=
 (s.es=[]∧s.E= .slice none 0 0)∨∃g cap,s.E= .slice (some ⟨g,0,none⟩) s.es.length cap∧B≤g∧w.heap[g]?=some (.cells (s.es.flatMap Gy).toArray 313 (0,0))
theorem Sm.inn.ext {B:Nat}{w w':H5}{s:Sm}{M:Nat→Prop}(h:s.inn B w)(hx:Ext M w w')(hM:∀k,B≤k→k<w.heap.size→¬M k):s.inn B w':=by
 rcases h with h|⟨g,cap,h1,h2,h3⟩
 ·exact .inl h
 ·exact .inr ⟨g,cap,h1,h2,hx.heap h3 (hM g h2 (ae h3))⟩
theorem Sm.inn.mono {B B':Nat}{w:H5}{s:Sm}(h:s.inn B w)(hB:B'≤B):s.inn B' w:=by
 rcases h with h|⟨g,cap,h1,h2,h3⟩
 ·exact .inl h
 ·exact .inr ⟨g,cap,h1,Nat.le_trans hB h2,h3⟩
structure oZ where
 kind:Int
 ty:Ty
 nm:ByteArray
 es:List Ex
def Sm.shp (s:Sm):oZ:=⟨s.kind,s.ty,s.nm,s.es⟩
def qd:ByteArray:=⟨#[114,101,116,117,114,110]⟩
def BF:ByteArray:=⟨#[102,114,101,101]⟩
def mX:ByteArray:=⟨#[41]⟩
def F8:ByteArray:=⟨#[61]⟩
def iD (r lb cap:Nat)(T:List Tok)(w:H5)(sh:oZ)(k:Nat)(e:Ending)(w':H5):Prop:=
 ∃s:Sm,e= .returned (.agg s.cells)∧s.shp=sh∧s.inn w.heap.size w'∧bK r lb cap T k w w'
theorem qG (l:List UInt8):(⟨l.toArray⟩:ByteArray).toList=l:=by rw[ByteArray.toList_eq]
theorem vZ {t:Tok}{s:ByteArray}(h:dD t s=true):t.text=s∧(t.kind=2∨t.kind=4):=by
 unfold dD at h;rw[Bool.and_eq_true,Bool.or_eq_true] at h;exact⟨eq_of_beq h.2,by rcases h.1 with h|h;exact .inl (eq_of_beq h);exact .inr (eq_of_beq h)⟩
theorem wh {r lb cap:Nat}{T:List Tok}{i k:Nat}{t z:Tok}{e:Ex}(ln cl d:Int)(w:H5)(h:Rd r lb cap T i w)(ht:T[i]?=some t)(hk:dD t qd=true)(hl:eU T (i+1) e k)(hz:T[k]?=some z)(hs:dD z dG=true):
  Calls prog 261 #[.pointer (some ⟨r,0,none⟩),.agg #[.int .i64 0,.bool false,.string ⟨#[]⟩,.string ⟨#[]⟩,.slice none 0 0,.slice none 0 0,.slice none 0 0,.int .i64 ln,.int .i64 cl],.int .i64 d] w (iD r lb cap T w ⟨8,bF,⟨#[]⟩,[e]⟩ (k+1)):=by
 obtain⟨N,hN⟩:=zE w.heap.size;obtain⟨W1,hW1⟩:=zE ((w.alloc (.cells #[.int .i64 0,.bool false,.string ⟨#[]⟩,.string ⟨#[]⟩,.slice none 0 0,.slice none 0 0,.slice none 0 0,.int .i64 ln,.int .i64 cl] 282)).alloc (.cells #[.int .i64 0,.bool false,.string ⟨#[]⟩,.string ⟨#[]⟩,.slice none 0 0,.slice none 0 0,.slice none 0 0,.int .i64 0,.int .i64 0] 282));have hb1:=uG hW1 hN;have hs1:W1.heap.size=N+2:=by rw[←hW1];simp[hN]
 have hr0:=xV hW1 hN;have hr1:=zV hW1 hN;have h1:=h.grow (by rw[hN];exact hb1);have HTK:=zH (bB W1 h1 ht);have hEX:∀W,Rd r lb cap T (i+1) W→Calls prog 263 #[.pointer (some ⟨r,0,none⟩),.int .i64 d] W fun en w'=>en= .returned (.agg e.cells)∧bK r lb cap T k W w':=fun W hW=>mW d W hW hl hz hs;unfold Ex.cells at hEX;have HEX:=zH hEX;have HET:Ia (∀W,Rd r lb cap T k W→Calls prog 207 #[.pointer (some ⟨r,0,none⟩),.string dG] W fun e w'=>e= .returned (.tuple #[])∧bK r lb cap T (k+1) W w'):=fun W hW=>aX dG W hW hz hs;unfold dG at HET;obtain⟨htx,_⟩:=vZ hk;obtain⟨tx,hx⟩:=zE t.text;have hst:∀(w:H5)(c:Array Value),c.size=5→(storeCells ⟨w.heap.size,0,none⟩ [.int .i64 t.kind,.string tx,.int .i64 t.n,.int .i64 t.ln,.int .i64 t.cl] 0).run prog (w.alloc (.cells c 263))= .ok () (w.alloc (.cells #[.int .i64 t.kind,.string tx,.int .i64 t.n,.int .i64 t.ln,.int .i64 t.cl] 263)):=fun w c hc=>
  run_storeCells_new (P:=prog) w 263 c #[.int .i64 t.kind,.string tx,.int .i64 t.n,.int .i64 t.ln,.int .i64 t.cl] (by show _=some 5;kernel_rfl) hc (by simp[Value.oneCell'])
 have HST:=zH hst;simp only[Tok.cells,hx] at HTK;rw[hx] at htx;have htl:tx.toList=[114,101,116,117,114,110]:=by rw[htx];exact qG [114,101,116,117,114,110]
 have x1:(tx.toList==[105,102])=false:=by rw[htl];rfl
 have x2:(tx.toList==[119,104,105,108,101])=false:=by rw[htl];rfl
 have x3:(tx.toList==[98,114,101,97,107])=false:=by rw[htl];rfl
 have x4:(tx.toList==[99,111,110,116,105,110,117,101])=false:=by rw[htl];rfl
 have x5:(tx.toList==[114,101,116,117,114,110])=true:=by rw[htl];rfl
 have hil:i<T.length:=(GQ.1 ht).1;have hT:=h.short;have hrN:r<N:=by rw[←hN];exact h.rlt
 have HLB:Ia (lb<N):=by unfold Ia;rw[←hN];exact h.lt
 have HW1:=zH hW1;have HB1:=zH hb1;have HS1:=zH hs1;have HR0:=zH hr0;have HR1:=zH hr1;have H1:=zH h1;clear h ht hk hl hz hs hW1 hb1 hs1 hr0 hr1 h1 hEX htx hx hst htl;go_enter func261,ntmps261
 go_upto_region 2 with(go_at_call 170;rw[HW1.out];refine HTK.out.mono ?_;rintro e w2 ⟨rfl,hb2⟩;have hst2:=HST.out w2;have HB2:=zH hb2;clear hb2)
 clear hst2;obtain⟨G,hG⟩:=zE w2.heap.size;obtain⟨W3,hW3⟩:=zE (w2.alloc (.cells #[.int .i64 t.kind,.string tx,.int .i64 t.n,.int .i64 t.ln,.int .i64 t.cl] 263));rw[hG,hW3];have hb3:=zD hW3 HB2;have hGN:N+2≤G:=by rw[←hG,←HS1.out];exact HB2.out.size
 have hrG:W3.heap[G]?=some (.cells #[.int .i64 t.kind,.string tx,.int .i64 t.n,.int .i64 t.ln,.int .i64 t.cl] 263 (0,0)):=by rw[←hW3,←hG];exact alloc_at _ _
 obtain⟨⟨g0,g1,g2,g3,g4⟩,_,hG3⟩:=fe hrG;have hr03:=(hb3.block N (by have:=HS1.out;omega)).trans HR0.out;have hr13:=(hb3.block (N+1) (by have:=HS1.out;omega)).trans HR1.out;obtain⟨⟨a0,a1,a2,a3,a4,a5,a6,a7,a8⟩,⟨b0,b1,b2,b3,b4,b5,b6,b7,b8⟩,hN3⟩:=fq hr03;have h3:=H1.out.grow hb3;obtain⟨c0,c1,c3,f1,hr⟩:=h3.cells;have HB3:=zH hb3;have HR03:=zH hr03;have HR13:=zH hr13;have H3:=zH h3;clear hG hW3 hb3 hrG hr03 hr13 h3
 go_upto_region 23 with(fail)
 obtain⟨W4,hW4⟩:=zE ((W3.setCell ⟨r,1,none⟩ (.int .i64 ((i:Int)+1))).setCell ⟨N,0,none⟩ (.int .i64 8));rw[hW4];have hm4:bK r lb cap T (i+1) w W4:=by
  have a:bK r lb cap T (i+1) W3 (W3.setCell ⟨r,1,none⟩ (.int .i64 ((i:Int)+1))):=⟨H3.out.step,Ext.set1 W3 r 1 _⟩
  have hx:Ext (·=N) (W3.setCell ⟨r,1,none⟩ (.int .i64 ((i:Int)+1))) W4:=by rw[←hW4];exact aa (Ext.refl _ _) _
  have hwx:H9 w.heap.size w W3:=by rw[hN];exact HB1.out.trans (HB3.out.mono (by rw[HS1.out];omega))
  exact⟨a.1.ext hx (by omega) (by have:=HLB.out;omega),(bK.grown hwx a).2.trans hx (fun k hk=> .inr (by omega))⟩
 have hr04:W4.heap[N]?=some (.cells #[.int .i64 8,.bool false,.string ⟨#[]⟩,.string ⟨#[]⟩,.slice none 0 0,.slice none 0 0,.slice none 0 0,.int .i64 ln,.int .i64 cl] 282 (0,0)):=by
  rw[←hW4];exact Hz _ N 0 _ _ _ ((Below.heap_setCell _ _ _ N (by show N≠r;omega)).trans HR03.out)
 have hr14:W4.heap[N+1]?=some (.cells #[.int .i64 0,.bool false,.string ⟨#[]⟩,.string ⟨#[]⟩,.slice none 0 0,.slice none 0 0,.slice none 0 0,.int .i64 0,.int .i64 0] 282 (0,0)):=by
  rw[←hW4];exact(Below.heap_setCell _ _ _ (N+1) (by show N+1≠N;omega)).trans ((Below.heap_setCell _ _ _ (N+1) (by show N+1≠r;omega)).trans HR13.out)
 have HM4:=zH hm4;have HR04:=zH hr04;have HR14:=zH hr14;clear hW4 hm4 hr04 hr14 a0 a1 a2 a3 a4 a5 a6 a7 a8 b0 b1 b2 b3 b4 b5 b6 b7 b8 c0 c1 c3 f1 hr g0 g1 g2 g3 g4 hN3
 go_upto_region 34 with(go_at_call 263;refine(HEX.out W4 HM4.out.1).mono ?_;rintro e w5 ⟨rfl,hm5⟩;have HM5:=zH hm5;have hr05:=hm5.2.heap HR04.out (by omega);have HR05:=zH hr05;obtain⟨⟨a0,a1,a2,a3,a4,a5,a6,a7,a8⟩,⟨b0,b1,b2,b3,b4,b5,b6,b7,b8⟩,hN5⟩:=fq hr05;clear hm5 hr05)
 obtain⟨Q,hQ⟩:=zE w5.heap.size;rw[hQ];obtain⟨W6,hW6⟩:=zE ((w5.setCell ⟨N,4,none⟩ (.slice (some ⟨Q,0,none⟩) 1 1)).alloc (.cells #[.int .i64 e.kind,.int .i64 e.n,.string e.nm,.string ⟨#[]⟩,.slice none 0 0,.int .i64 e.ln,.int .i64 e.cl] 313));rw[hW6];have hx6:Ext (·=N) w5 W6:=by rw[←hW6];exact(aa (Ext.refl _ _) _).alloc _
 have hNQ:N+1<Q:=by rw[←hQ];exact ae (HM5.out.2.heap HR14.out (by omega))
 have hrQ:W6.heap[Q]?=some (.cells #[.int .i64 e.kind,.int .i64 e.n,.string e.nm,.string ⟨#[]⟩,.slice none 0 0,.int .i64 e.ln,.int .i64 e.cl] 313 (0,0)):=by
  have:=alloc_at (w5.setCell ⟨N,4,none⟩ (.slice (some ⟨Q,0,none⟩) 1 1)) (.cells #[.int .i64 e.kind,.int .i64 e.n,.string e.nm,.string ⟨#[]⟩,.slice none 0 0,.int .i64 e.ln,.int .i64 e.cl] 313);rw[World.size_setCell,hQ,hW6] at this;exact this
 have hr06:W6.heap[N]?=some (.cells #[.int .i64 8,.bool false,.string ⟨#[]⟩,.string ⟨#[]⟩,.slice (some ⟨Q,0,none⟩) 1 1,.slice none 0 0,.slice none 0 0,.int .i64 ln,.int .i64 cl] 282 (0,0)):=by
  rw[←hW6];exact(Hy _ _ N (by rw[World.size_setCell];omega)).trans (Hz _ N 4 _ _ _ HR05.out)
 have hr16:=hx6.heap (HM5.out.2.heap HR14.out (by omega)) (show¬N+1=N by omega);have hm45:=HM4.out.trans HM5.out;have hm6:bK r lb cap T k w W6:=⟨hm45.1.ext hx6 (by omega) (by have:=HLB.out;omega),hm45.2.trans hx6 (fun k hk=> .inr (by omega))⟩
 have HM6:=zH hm6;have HRQ:=zH hrQ;have HR06:=zH hr06;have HR16:=zH hr16;clear hQ hW6 hx6 hrQ hr06 hr16 hm45 hm6 a0 a1 a2 a3 a4 a5 a6 a7 a8 b0 b1 b2 b3 b4 b5 b6 b7 b8 hN5
 go_wp2_with (go_at_call 207;refine(HET.out W6 HM6.out.1).mono ?_;rintro e w7 ⟨rfl,hm7⟩;have HM7:=zH hm7;have hr07:=hm7.2.heap HR06.out (by omega);have hr17:=hm7.2.heap HR16.out (by omega);have HR17:=zH hr17;obtain⟨⟨a0,a1,a2,a3,a4,a5,a6,a7,a8⟩,⟨b0,b1,b2,b3,b4,b5,b6,b7,b8⟩,hN7⟩:=fq hr07;obtain⟨⟨p0,p1,p2,p3,p4,p5,p6,p7,p8⟩,⟨q0,q1,q2,q3,q4,q5,q6,q7,q8⟩,hP7⟩:=fq hr17;clear hm7 hr07 hr17)
 (try simp only[Exit.inBlock,Exit.then]);refine bodyPost_ret (results_cell_row (P:=prog) rfl _ _ (N+1) 282 _ (0,0) _ rfl (kK HR17.out) underlying282 rfl (by kernel_rfl)) rfl ?_;have hM:=HM6.out.trans HM7.out;have hx9:=kL w7 (N+1) (.int .i64 8) (.bool false) (.string ⟨#[]⟩) (.string ⟨#[]⟩) (.slice (some ⟨Q,0,none⟩) 1 1) (.slice none 0 0) (.slice none 0 0) (.int .i64 ln) (.int .i64 cl);refine⟨⟨8,bF,⟨#[]⟩,.slice (some ⟨Q,0,none⟩) 1 1,ln,cl,[e]⟩,rfl,rfl,.inr ⟨Q,1,rfl,by omega, ?_⟩,hM.1.ext hx9 (by omega) (by have:=HLB.out;omega),hM.2.trans hx9 (fun k hk=> .inr (by omega))⟩;exact hx9.heap (HM7.out.2.heap HRQ.out (by omega)) (by omega)
theorem sN {r lb cap:Nat}{T:List Tok}{i:Nat}{t u x v z:Tok}(ln cl d:Int)(w:H5)(h:Rd r lb cap T i w)(ht:T[i]?=some t)(hk:dD t BF=true)(hu:T[i+1]?=some u)(huk:dD u eT=true)(hxx:T[i+2]?=some x)(hxk:x.kind=1)(hv:T[i+3]?=some v)(hvk:dD v mX=true)(hz:T[i+4]?=some z)(hs:dD z dG=true):
  Calls prog 261 #[.pointer (some ⟨r,0,none⟩),.agg #[.int .i64 0,.bool false,.string ⟨#[]⟩,.string ⟨#[]⟩,.slice none 0 0,.slice none 0 0,.slice none 0 0,.int .i64 ln,.int .i64 cl],.int .i64 d] w (iD r lb cap T w ⟨9,bF,x.text,[]⟩ (i+5)):=by
 obtain⟨N,hN⟩:=zE w.heap.size;obtain⟨W1,hW1⟩:=zE ((w.alloc (.cells #[.int .i64 0,.bool false,.string ⟨#[]⟩,.string ⟨#[]⟩,.slice none 0 0,.slice none 0 0,.slice none 0 0,.int .i64 ln,.int .i64 cl] 282)).alloc (.cells #[.int .i64 0,.bool false,.string ⟨#[]⟩,.string ⟨#[]⟩,.slice none 0 0,.slice none 0 0,.slice none 0 0,.int .i64 0,.int .i64 0] 282));have hb1:=uG hW1 hN;have hs1:W1.heap.size=N+2:=by rw[←hW1];simp[hN]
 have hr0:=xV hW1 hN;have hr1:=zV hW1 hN;have h1:=h.grow (by rw[hN];exact hb1);have HTK:=zH (bB W1 h1 ht);have HE1:Ia (∀W,Rd r lb cap T (i+1) W→Calls prog 207 #[.pointer (some ⟨r,0,none⟩),.string eT] W fun e w'=>e= .returned (.tuple #[])∧bK r lb cap T (i+2) W w'):=fun W hW=>aX eT W hW hu huk;have HE3:Ia (∀W,Rd r lb cap T (i+3) W→Calls prog 207 #[.pointer (some ⟨r,0,none⟩),.string mX] W fun e w'=>e= .returned (.tuple #[])∧bK r lb cap T (i+4) W w'):=fun W hW=>aX mX W hW hv hvk;have HE4:Ia (∀W,Rd r lb cap T (i+4) W→Calls prog 207 #[.pointer (some ⟨r,0,none⟩),.string dG] W fun e w'=>e= .returned (.tuple #[])∧bK r lb cap T (i+5) W w'):=fun W hW=>aX dG W hW hz hs;have HNM:Ia (∀W,Rd r lb cap T (i+2) W→Calls prog 208 #[.pointer (some ⟨r,0,none⟩)] W fun e w'=>e= .returned (.tuple #[.string x.text,.agg #[.int .i64 x.ln,.int .i64 x.cl]])∧bK r lb cap T (i+3) W w'):=fun W hW=>dV W hW hxx hxk;unfold eT at HE1;unfold mX at HE3;unfold dG at HE4;obtain⟨htx,_⟩:=vZ hk;obtain⟨tx,hx⟩:=zE t.text;have hst:∀(w:H5)(c:Array Value),c.size=5→(storeCells ⟨w.heap.size,0,none⟩ [.int .i64 t.kind,.string tx,.int .i64 t.n,.int .i64 t.ln,.int .i64 t.cl] 0).run prog (w.alloc (.cells c 263))= .ok () (w.alloc (.cells #[.int .i64 t.kind,.string tx,.int .i64 t.n,.int .i64 t.ln,.int .i64 t.cl] 263)):=fun w c hc=>
  run_storeCells_new (P:=prog) w 263 c #[.int .i64 t.kind,.string tx,.int .i64 t.n,.int .i64 t.ln,.int .i64 t.cl] (by show _=some 5;kernel_rfl) hc (by simp[Value.oneCell'])
 have HST:=zH hst;simp only[Tok.cells,hx] at HTK;rw[hx] at htx;have htl:tx.toList=[102,114,101,101]:=by rw[htx];exact qG [102,114,101,101]
 have x1:(tx.toList==[105,102])=false:=by rw[htl];rfl
 have x2:(tx.toList==[119,104,105,108,101])=false:=by rw[htl];rfl
 have x3:(tx.toList==[98,114,101,97,107])=false:=by rw[htl];rfl
 have x4:(tx.toList==[99,111,110,116,105,110,117,101])=false:=by rw[htl];rfl
 have x5:(tx.toList==[114,101,116,117,114,110])=false:=by rw[htl];rfl
 have x6:(tx.toList==[102,114,101,101])=true:=by rw[htl];rfl
 have hil:i<T.length:=(GQ.1 ht).1;have hT:=h.short;have hrN:r<N:=by rw[←hN];exact h.rlt
 have HLB:Ia (lb<N):=by unfold Ia;rw[←hN];exact h.lt
 have HW1:=zH hW1;have HB1:=zH hb1;have HS1:=zH hs1;have HR0:=zH hr0;have HR1:=zH hr1;have H1:=zH h1;clear h ht hk hu huk hxx hxk hv hvk hz hs hW1 hb1 hs1 hr0 hr1 h1 htx hx hst htl;go_enter func261,ntmps261
 go_upto_region 2 with(go_at_call 170;rw[HW1.out];refine HTK.out.mono ?_;rintro e w2 ⟨rfl,hb2⟩;have hst2:=HST.out w2;have HB2:=zH hb2;clear hb2)
 clear hst2;obtain⟨G,hG⟩:=zE w2.heap.size;obtain⟨W3,hW3⟩:=zE (w2.alloc (.cells #[.int .i64 t.kind,.string tx,.int .i64 t.n,.int .i64 t.ln,.int .i64 t.cl] 263));rw[hG,hW3];have hb3:=zD hW3 HB2;have hGN:N+2≤G:=by rw[←hG,←HS1.out];exact HB2.out.size
 have hrG:W3.heap[G]?=some (.cells #[.int .i64 t.kind,.string tx,.int .i64 t.n,.int .i64 t.ln,.int .i64 t.cl] 263 (0,0)):=by rw[←hW3,←hG];exact alloc_at _ _
 obtain⟨⟨g0,g1,g2,g3,g4⟩,_,hG3⟩:=fe hrG;have hr03:=(hb3.block N (by have:=HS1.out;omega)).trans HR0.out;have hr13:=(hb3.block (N+1) (by have:=HS1.out;omega)).trans HR1.out;obtain⟨⟨a0,a1,a2,a3,a4,a5,a6,a7,a8⟩,⟨b0,b1,b2,b3,b4,b5,b6,b7,b8⟩,hN3⟩:=fq hr03;have h3:=H1.out.grow hb3;obtain⟨c0,c1,c3,f1,hr⟩:=h3.cells;have HB3:=zH hb3;have HR03:=zH hr03;have HR13:=zH hr13;have H3:=zH h3;clear hG hW3 hb3 hrG hr03 hr13 h3
 go_upto_region 26 with(fail)
 obtain⟨W4,hW4⟩:=zE ((W3.setCell ⟨r,1,none⟩ (.int .i64 ((i:Int)+1))).setCell ⟨N,0,none⟩ (.int .i64 9));rw[hW4];have hm4:bK r lb cap T (i+1) w W4:=by
  have a:bK r lb cap T (i+1) W3 (W3.setCell ⟨r,1,none⟩ (.int .i64 ((i:Int)+1))):=⟨H3.out.step,Ext.set1 W3 r 1 _⟩
  have hx:Ext (·=N) (W3.setCell ⟨r,1,none⟩ (.int .i64 ((i:Int)+1))) W4:=by rw[←hW4];exact aa (Ext.refl _ _) _
  have hwx:H9 w.heap.size w W3:=by rw[hN];exact HB1.out.trans (HB3.out.mono (by rw[HS1.out];omega))
  exact⟨a.1.ext hx (by omega) (by have:=HLB.out;omega),(bK.grown hwx a).2.trans hx (fun k hk=> .inr (by omega))⟩
 have hr04:W4.heap[N]?=some (.cells #[.int .i64 9,.bool false,.string ⟨#[]⟩,.string ⟨#[]⟩,.slice none 0 0,.slice none 0 0,.slice none 0 0,.int .i64 ln,.int .i64 cl] 282 (0,0)):=by
  rw[←hW4];exact Hz _ N 0 _ _ _ ((Below.heap_setCell _ _ _ N (by show N≠r;omega)).trans HR03.out)
 have hr14:W4.heap[N+1]?=some (.cells #[.int .i64 0,.bool false,.string ⟨#[]⟩,.string ⟨#[]⟩,.slice none 0 0,.slice none 0 0,.slice none 0 0,.int .i64 0,.int .i64 0] 282 (0,0)):=by
  rw[←hW4];exact(Below.heap_setCell _ _ _ (N+1) (by show N+1≠N;omega)).trans ((Below.heap_setCell _ _ _ (N+1) (by show N+1≠r;omega)).trans HR13.out)
 have HM4:=zH hm4;have HR04:=zH hr04;have HR14:=zH hr14;clear hW4 hm4 hr04 hr14 a0 a1 a2 a3 a4 a5 a6 a7 a8 b0 b1 b2 b3 b4 b5 b6 b7 b8 c0 c1 c3 f1 hr g0 g1 g2 g3 g4 hN3
 go_upto_region 27 with(go_at_call 207;refine(HE1.out W4 HM4.out.1).mono ?_;rintro e w5 ⟨rfl,hm5⟩;have HM5:=zH hm5;clear hm5)
 go_upto_region 28 with(go_at_call 208;refine(HNM.out w5 HM5.out.1).mono ?_;rintro e w6 ⟨rfl,hm6⟩;have HM6:=zH (HM5.out.trans hm6);have hr06:=(HM5.out.trans hm6).2.heap HR04.out (by omega);have HR06:=zH hr06;obtain⟨⟨a0,a1,a2,a3,a4,a5,a6,a7,a8⟩,⟨b0,b1,b2,b3,b4,b5,b6,b7,b8⟩,hN6⟩:=fq hr06;clear hm6 hr06)
 obtain⟨W7,hW7⟩:=zE (w6.setCell ⟨N,3,none⟩ (.string x.text));rw[hW7];have hx7:Ext (·=N) w6 W7:=by rw[←hW7];exact aa (Ext.refl _ _) _
 have hr07:W7.heap[N]?=some (.cells #[.int .i64 9,.bool false,.string ⟨#[]⟩,.string x.text,.slice none 0 0,.slice none 0 0,.slice none 0 0,.int .i64 ln,.int .i64 cl] 282 (0,0)):=by
  rw[←hW7];exact Hz _ N 3 _ _ _ HR06.out
 have hr17:=hx7.heap (HM6.out.2.heap HR14.out (by omega)) (show¬N+1=N by omega);have hm46:=HM4.out.trans HM6.out;have hm7:bK r lb cap T (i+3) w W7:=⟨hm46.1.ext hx7 (by omega) (by have:=HLB.out;omega),hm46.2.trans hx7 (fun k hk=> .inr (by omega))⟩
 have HM7:=zH hm7;have HR07:=zH hr07;have HR17:=zH hr17;clear hW7 hx7 hr07 hr17 hm46 hm7 a0 a1 a2 a3 a4 a5 a6 a7 a8 b0 b1 b2 b3 b4 b5 b6 b7 b8 hN6
 go_upto_region 34 with(go_at_call 207;refine(HE3.out W7 HM7.out.1).mono ?_;rintro e w8 ⟨rfl,hm8⟩;have HM8:=zH hm8;clear hm8)
 go_wp2_with (go_at_call 207;refine(HE4.out w8 HM8.out.1).mono ?_;rintro e w9 ⟨rfl,hm9⟩;have HM9:=zH (HM8.out.trans hm9);have hr07:=(HM8.out.trans hm9).2.heap HR07.out (by omega);have hr17:=(HM8.out.trans hm9).2.heap HR17.out (by omega);have HR19:=zH hr17;obtain⟨⟨a0,a1,a2,a3,a4,a5,a6,a7,a8⟩,⟨b0,b1,b2,b3,b4,b5,b6,b7,b8⟩,hN7⟩:=fq hr07;obtain⟨⟨p0,p1,p2,p3,p4,p5,p6,p7,p8⟩,⟨q0,q1,q2,q3,q4,q5,q6,q7,q8⟩,hP7⟩:=fq hr17;clear hm9 hr07 hr17)
 (try simp only[Exit.inBlock,Exit.then]);refine bodyPost_ret (results_cell_row (P:=prog) rfl _ _ (N+1) 282 _ (0,0) _ rfl (kK HR19.out) underlying282 rfl (by kernel_rfl)) rfl ?_;have hM:=HM7.out.trans HM9.out;have hx9:=kL w9 (N+1) (.int .i64 9) (.bool false) (.string ⟨#[]⟩) (.string x.text) (.slice none 0 0) (.slice none 0 0) (.slice none 0 0) (.int .i64 ln) (.int .i64 cl);exact⟨⟨9,bF,x.text,.slice none 0 0,ln,cl,[]⟩,rfl,rfl,.inl ⟨rfl,rfl⟩,hM.1.ext hx9 (by omega) (by have:=HLB.out;omega),hM.2.trans hx9 (fun k hk=> .inr (by omega))⟩
end Go.Proofs.YtjomgckjhcfbgaaGreat
