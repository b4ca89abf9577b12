/- Walks. -/
import Derived.Test.YtjomgckjhcfbgaaGreatS2
set_option maxRecDepth 100000
set_option maxHeartbeats 64000000
set_option linter.all false
namespace Go.Proofs.YtjomgckjhcfbgaaGreat
open Go.RowKit
open _root_.List renaming getElem?_eq_getElem→GN,getElem?_eq_some_iff→GQ,length_append→GU,append_assoc→Hr
open _root_.Nat renaming le_refl→He,zero_le→Hg
open Go.RowKit.Below renaming heap_alloc→Hy
open Go renaming heap_setCell_same→Hz,World→H5
open Go.RowKit renaming Below→H9,Hid→Ia
open Tryz
def jV:List ByteArray:=[⟨#[105,102]⟩,⟨#[119,104,105,108,101]⟩,⟨#[98,114,101,97,107]⟩,⟨#[99,111,110,116,105,110,117,101]⟩,⟨#[114,101,116,117,114,110]⟩,⟨#[102,114,101,101]⟩,⟨#[112,117,116]⟩]
theorem uK {t:Tok}{s:ByteArray}{l:List ByteArray}(h:dD t s=true)(hl:s∈l):lK t l=true:=by
 unfold lK;rw[List.any_eq_true];exact⟨s,hl,h⟩
theorem Sm.inn.slice {B:Nat}{w:H5}{s:Sm}(h:s.inn B w):∃ao n c,s.E= .slice ao n c:=by
 rcases h with h|⟨g,cap,h1,_⟩
 ·exact⟨_,_,_,h.2⟩
 ·exact⟨_,_,_,h1⟩
theorem Ao {r lb cap:Nat}{T:List Tok}{i:Nat}{k:Nat}{t z:Tok}{e:Ex}(d:Int)(w:H5)(h:Rd r lb cap T i w)(ht:T[i]?=some t)(hk:dD t qd=true)(hl:eU T (i+1) e k)(hz:T[k]?=some z)(hs:dD z dG=true):
  Calls prog 243 #[.pointer (some ⟨r,0,none⟩),.int .i64 d] w (iD r lb cap T w ⟨8,bF,⟨#[]⟩,[e]⟩ (k+1)):=by
 obtain⟨N,hN⟩:=zE w.heap.size;obtain⟨W1,hW1⟩:=zE (w.alloc (.cells #[.int .i64 0,.bool false,.string ⟨#[]⟩,.string ⟨#[]⟩,.slice none 0 0,.slice none 0 0,.slice none 0 0,.int .i64 0,.int .i64 0] 282));have hb1:=gZ hW1 hN;have hs1:W1.heap.size=N+1:=by rw[←hW1];simp[hN]
 have hr1:W1.heap[N]?=some (.cells #[.int .i64 0,.bool false,.string ⟨#[]⟩,.string ⟨#[]⟩,.slice none 0 0,.slice none 0 0,.slice none 0 0,.int .i64 0,.int .i64 0] 282 (0,0)):=by rw[←hW1,←hN];exact alloc_at _ _
 have h1:=h.grow (by rw[hN];exact hb1);have HTK:=zH (bB W1 h1 ht);have HBD:Ia (∀W,H9 W1.heap.size W1 W→zS 171 #[.pointer (some ⟨r,0,none⟩)] W (.bool false)):=fun W hW=>bu W (h1.grow hW);have HAN:Ia (∀(b:Nat) W,H9 W1.heap.size W1 W→b<W.heap.size→W.heap[b]?=some (.cells #[.string ⟨#[105,102]⟩,.string ⟨#[119,104,105,108,101]⟩,.string ⟨#[98,114,101,97,107]⟩,.string ⟨#[99,111,110,116,105,110,117,101]⟩,.string ⟨#[114,101,116,117,114,110]⟩,.string ⟨#[102,114,101,101]⟩,.string ⟨#[112,117,116]⟩] 9 (0,0))→zP 260 #[.pointer (some ⟨r,0,none⟩),.slice (some ⟨b,0,none⟩) 7 7] W (.bool (lK t jV))):=fun b W hW hb hr=>gP b 7 jV W (h1.grow hW) ht (by decide) hb (iL hr rfl);rw[uK hk (show qd∈jV by decide)] at HAN;have HSI:Ia (∀W,Rd r lb cap T i W→Calls prog 261 #[.pointer (some ⟨r,0,none⟩),.agg #[.int .i64 0,.bool false,.string ⟨#[]⟩,.string ⟨#[]⟩,.slice none 0 0,.slice none 0 0,.slice none 0 0,.int .i64 t.ln,.int .i64 t.cl],.int .i64 d] W (iD r lb cap T W ⟨8,bF,⟨#[]⟩,[e]⟩ (k+1))):=fun W hW=>wh _ _ d W hW ht hk hl hz hs;simp only[Tok.cells] at HTK;have hst:∀(w:H5)(c:Array Value),c.size=5→(storeCells ⟨w.heap.size,0,none⟩ [.int .i64 t.kind,.string t.text,.int .i64 t.n,.int .i64 t.ln,.int .i64 t.cl] 0).run prog (w.alloc (.cells c 263))= .ok () (w.alloc (.cells #[.int .i64 t.kind,.string t.text,.int .i64 t.n,.int .i64 t.ln,.int .i64 t.cl] 263)):=fun w c hc=>
  run_storeCells_new (P:=prog) w 263 c #[.int .i64 t.kind,.string t.text,.int .i64 t.n,.int .i64 t.ln,.int .i64 t.cl] (by show _=some 5;kernel_rfl) hc (by simp[Value.oneCell'])
 have hst9:∀(w:H5)(c:Array Value),c.size=9→(storeCells ⟨w.heap.size,0,none⟩ [.int .i64 0,.bool false,.string ⟨#[]⟩,.string ⟨#[]⟩,.slice none 0 0,.slice none 0 0,.slice none 0 0,.int .i64 t.ln,.int .i64 t.cl] 0).run prog (w.alloc (.cells c 282))= .ok () (w.alloc (.cells #[.int .i64 0,.bool false,.string ⟨#[]⟩,.string ⟨#[]⟩,.slice none 0 0,.slice none 0 0,.slice none 0 0,.int .i64 t.ln,.int .i64 t.cl] 282)):=fun w c hc=>
  run_storeCells_new (P:=prog) w 282 c #[.int .i64 0,.bool false,.string ⟨#[]⟩,.string ⟨#[]⟩,.slice none 0 0,.slice none 0 0,.slice none 0 0,.int .i64 t.ln,.int .i64 t.cl] (by show _=some 9;kernel_rfl) hc (by simp[Value.oneCell'])
 have HST:=zH hst;have HST9:=zH hst9;have hil:i<T.length:=(GQ.1 ht).1;have hT:=h.short;have hrN:r<N:=by rw[←hN];exact h.rlt
 have HLB:Ia (lb<N):=by unfold Ia;rw[←hN];exact h.lt
 have HW1:=zH hW1;have HB1:=zH hb1;have HS1:=zH hs1;have HR1:=zH hr1;have H1:=zH h1;clear h ht hst hst9 hW1 hb1 hs1 hr1 h1 hk hl hz hs;go_enter func243,ntmps243
 go_upto_region 2 with(go_at_call 170;rw[HW1.out];refine HTK.out.mono ?_;rintro e w2 ⟨rfl,hb2⟩;have hst2:=HST.out w2;have HB2:=zH hb2;clear hb2)
 clear hst2;obtain⟨G,hG⟩:=zE w2.heap.size;obtain⟨W3,hW3⟩:=zE (w2.alloc (.cells #[.int .i64 t.kind,.string t.text,.int .i64 t.n,.int .i64 t.ln,.int .i64 t.cl] 263));rw[hG,hW3];have hb3:=zD hW3 HB2;have hs3:W3.heap.size=G+1:=by rw[←hW3,←hG];simp
 have hGN:N+1≤G:=by rw[←hG,←HS1.out];exact HB2.out.size
 have hrG:W3.heap[G]?=some (.cells #[.int .i64 t.kind,.string t.text,.int .i64 t.n,.int .i64 t.ln,.int .i64 t.cl] 263 (0,0)):=by rw[←hW3,←hG];exact alloc_at _ _
 obtain⟨⟨g0,g1,g2,g3,g4⟩,_,hG3⟩:=fe hrG;have hst3:=HST9.out W3;have HB3:=zH hb3;have HRG:=zH hrG;clear hG hW3 hb3 hrG;rw[hs3] at hst3
 go_upto_region 4 with(fail)
 clear hst3;obtain⟨W4,hW4⟩:=zE (W3.alloc (.cells #[.int .i64 0,.bool false,.string ⟨#[]⟩,.string ⟨#[]⟩,.slice none 0 0,.slice none 0 0,.slice none 0 0,.int .i64 t.ln,.int .i64 t.cl] 282));rw[hW4];have hb4:=zD hW4 HB3;have hs4:W4.heap.size=G+2:=by rw[←hW4];simp[hs3]
 have hrS:W4.heap[G+1]?=some (.cells #[.int .i64 0,.bool false,.string ⟨#[]⟩,.string ⟨#[]⟩,.slice none 0 0,.slice none 0 0,.slice none 0 0,.int .i64 t.ln,.int .i64 t.cl] 282 (0,0)):=by rw[←hW4,←hs3];exact alloc_at _ _
 have hrG4:W4.heap[G]?=some (.cells #[.int .i64 t.kind,.string t.text,.int .i64 t.n,.int .i64 t.ln,.int .i64 t.cl] 263 (0,0)):=by rw[←hW4];exact(Hy _ _ G (by omega)).trans HRG.out
 have hrN4:=(hb4.block N (by have:=HS1.out;omega)).trans HR1.out;obtain⟨W5,hW5⟩:=zE (W4.alloc (.cells #[.string ⟨#[105,102]⟩,.string ⟨#[119,104,105,108,101]⟩,.string ⟨#[98,114,101,97,107]⟩,.string ⟨#[99,111,110,116,105,110,117,101]⟩,.string ⟨#[114,101,116,117,114,110]⟩,.string ⟨#[102,114,101,101]⟩,.string ⟨#[112,117,116]⟩] 9));have hb5:=gK hW5;have hb15:=hb4.trans (hb5.mono hb4.size);have hr5:W5.heap[G+2]?=some (.cells #[.string ⟨#[105,102]⟩,.string ⟨#[119,104,105,108,101]⟩,.string ⟨#[98,114,101,97,107]⟩,.string ⟨#[99,111,110,116,105,110,117,101]⟩,.string ⟨#[114,101,116,117,114,110]⟩,.string ⟨#[102,114,101,101]⟩,.string ⟨#[112,117,116]⟩] 9 (0,0)):=by rw[←hW5,←hs4];exact alloc_at _ _
 have HBD4:=zH (HBD.out W4 hb4);have HAN5:=zH (HAN.out (G+2) W5 hb15 (ae hr5) hr5);have HW5:=zH hW5;have HB5:=zH hb5;have HB15:=zH hb15;have HRS:=zH hrS;have HRG4:=zH hrG4;have HRN4:=zH hrN4;clear hW4 hb4 hrS hrG4 hrN4 hW5 hb5 hb15 hr5 HBD HTK HAN g0 g1 g2 g3 g4
 go_upto_region 7 with(first
  |(go_at_call 171;refine HBD4.out.mono ?_;rintro e w5 ⟨rfl,rfl⟩)
  |(go_at_call 260;(try rw[HW5.out]);refine HAN5.out.mono ?_;rintro e w6 ⟨rfl,hb6⟩;have HB6:=zH hb6;clear hb6))
 have hb46:=HB5.out.trans (HB6.out.mono HB5.out.size);have hb16:=HB15.out.trans (HB6.out.mono HB15.out.size);have h6:=H1.out.grow hb16;have hrS6:=(hb46.block (G+1) (by omega)).trans HRS.out;have hrN6:=(hb46.block N (by omega)).trans HRN4.out;obtain⟨⟨a0,a1,a2,a3,a4,a5,a6,a7,a8⟩,_,hS6⟩:=fq hrS6;have HSI6:=zH (HSI.out w6 h6);have HB16:=zH hb16;have HRN6:=zH hrN6;clear hb46 hb16 h6 hrS6 hrN6
 go_wp2_with (go_at_call 261;refine HSI6.out.mono ?_;rintro e w7 ⟨s,rfl,hsh,hin,hm7⟩;obtain⟨eao,en,ec,hE⟩:=hin.slice;have HE:=zH hE;have HSH:=zH hsh;have HIN:=zH hin;have HM7:=zH hm7;have hr17:=hm7.2.heap HRN6.out (by omega);have HR17:=zH hr17;obtain⟨⟨p0,p1,p2,p3,p4,p5,p6,p7,p8⟩,⟨q0,q1,q2,q3,q4,q5,q6,q7,q8⟩,hP7⟩:=fq hr17;unfold Sm.cells;rw[hE];clear hsh hin hm7 hr17 hE)
 (try simp only[Exit.inBlock,Exit.then]);refine bodyPost_ret (results_cell_row (P:=prog) rfl _ _ N 282 _ (0,0) _ rfl (kK HR17.out) underlying282 rfl (by kernel_rfl)) rfl ?_;have hx9:=kL w7 N (.int .i64 s.kind) (.bool s.ty.1) (.string s.ty.2) (.string s.nm) (.slice eao en ec) (.slice none 0 0) (.slice none 0 0) (.int .i64 s.ln) (.int .i64 s.cl);have hsz:w.heap.size≤w6.heap.size:=(HB1.out.trans (HB16.out.mono (by rw[HS1.out];omega))).size;have hN6:N<w6.heap.size:=ae HRN6.out;have hM:bK r lb cap T (k+1) w w7:=bK.grown (show H9 w.heap.size w w6 by rw[hN];exact HB1.out.trans (HB16.out.mono (by rw[HS1.out];omega))) HM7.out;exact⟨s,by unfold Sm.cells;rw[HE.out],HSH.out,(HIN.out.ext hx9 (fun k h1 h2 e=>by omega)).mono hsz,hM.1.ext hx9 (by omega) (by have:=HLB.out;omega),hM.2.trans hx9 (fun k hk=> .inr (by omega))⟩
theorem yj {r lb cap:Nat}{T:List Tok}{i:Nat}{t u x v z:Tok}(d:Int)(w:H5)(h:Rd r lb cap T i w)(ht:T[i]?=some t)(hk:dD t BF=true)(hu:T[i+1]?=some u)(huk:dD u eT=true)(hxx:T[i+2]?=some x)(hxk:x.kind=1)(hv:T[i+3]?=some v)(hvk:dD v mX=true)(hz:T[i+4]?=some z)(hs:dD z dG=true):
  Calls prog 243 #[.pointer (some ⟨r,0,none⟩),.int .i64 d] w (iD r lb cap T w ⟨9,bF,x.text,[]⟩ (i+5)):=by
 obtain⟨N,hN⟩:=zE w.heap.size;obtain⟨W1,hW1⟩:=zE (w.alloc (.cells #[.int .i64 0,.bool false,.string ⟨#[]⟩,.string ⟨#[]⟩,.slice none 0 0,.slice none 0 0,.slice none 0 0,.int .i64 0,.int .i64 0] 282));have hb1:=gZ hW1 hN;have hs1:W1.heap.size=N+1:=by rw[←hW1];simp[hN]
 have hr1:W1.heap[N]?=some (.cells #[.int .i64 0,.bool false,.string ⟨#[]⟩,.string ⟨#[]⟩,.slice none 0 0,.slice none 0 0,.slice none 0 0,.int .i64 0,.int .i64 0] 282 (0,0)):=by rw[←hW1,←hN];exact alloc_at _ _
 have h1:=h.grow (by rw[hN];exact hb1);have HTK:=zH (bB W1 h1 ht);have HBD:Ia (∀W,H9 W1.heap.size W1 W→zS 171 #[.pointer (some ⟨r,0,none⟩)] W (.bool false)):=fun W hW=>bu W (h1.grow hW);have HAN:Ia (∀(b:Nat) W,H9 W1.heap.size W1 W→b<W.heap.size→W.heap[b]?=some (.cells #[.string ⟨#[105,102]⟩,.string ⟨#[119,104,105,108,101]⟩,.string ⟨#[98,114,101,97,107]⟩,.string ⟨#[99,111,110,116,105,110,117,101]⟩,.string ⟨#[114,101,116,117,114,110]⟩,.string ⟨#[102,114,101,101]⟩,.string ⟨#[112,117,116]⟩] 9 (0,0))→zP 260 #[.pointer (some ⟨r,0,none⟩),.slice (some ⟨b,0,none⟩) 7 7] W (.bool (lK t jV))):=fun b W hW hb hr=>gP b 7 jV W (h1.grow hW) ht (by decide) hb (iL hr rfl);rw[uK hk (show BF∈jV by decide)] at HAN;have HSI:Ia (∀W,Rd r lb cap T i W→Calls prog 261 #[.pointer (some ⟨r,0,none⟩),.agg #[.int .i64 0,.bool false,.string ⟨#[]⟩,.string ⟨#[]⟩,.slice none 0 0,.slice none 0 0,.slice none 0 0,.int .i64 t.ln,.int .i64 t.cl],.int .i64 d] W (iD r lb cap T W ⟨9,bF,x.text,[]⟩ (i+5))):=fun W hW=>sN _ _ d W hW ht hk hu huk hxx hxk hv hvk hz hs;simp only[Tok.cells] at HTK;have hst:∀(w:H5)(c:Array Value),c.size=5→(storeCells ⟨w.heap.size,0,none⟩ [.int .i64 t.kind,.string t.text,.int .i64 t.n,.int .i64 t.ln,.int .i64 t.cl] 0).run prog (w.alloc (.cells c 263))= .ok () (w.alloc (.cells #[.int .i64 t.kind,.string t.text,.int .i64 t.n,.int .i64 t.ln,.int .i64 t.cl] 263)):=fun w c hc=>
  run_storeCells_new (P:=prog) w 263 c #[.int .i64 t.kind,.string t.text,.int .i64 t.n,.int .i64 t.ln,.int .i64 t.cl] (by show _=some 5;kernel_rfl) hc (by simp[Value.oneCell'])
 have hst9:∀(w:H5)(c:Array Value),c.size=9→(storeCells ⟨w.heap.size,0,none⟩ [.int .i64 0,.bool false,.string ⟨#[]⟩,.string ⟨#[]⟩,.slice none 0 0,.slice none 0 0,.slice none 0 0,.int .i64 t.ln,.int .i64 t.cl] 0).run prog (w.alloc (.cells c 282))= .ok () (w.alloc (.cells #[.int .i64 0,.bool false,.string ⟨#[]⟩,.string ⟨#[]⟩,.slice none 0 0,.slice none 0 0,.slice none 0 0,.int .i64 t.ln,.int .i64 t.cl] 282)):=fun w c hc=>
  run_storeCells_new (P:=prog) w 282 c #[.int .i64 0,.bool false,.string ⟨#[]⟩,.string ⟨#[]⟩,.slice none 0 0,.slice none 0 0,.slice none 0 0,.int .i64 t.ln,.int .i64 t.cl] (by show _=some 9;kernel_rfl) hc (by simp[Value.oneCell'])
 have HST:=zH hst;have HST9:=zH hst9;have hil:i<T.length:=(GQ.1 ht).1;have hT:=h.short;have hrN:r<N:=by rw[←hN];exact h.rlt
 have HLB:Ia (lb<N):=by unfold Ia;rw[←hN];exact h.lt
 have HW1:=zH hW1;have HB1:=zH hb1;have HS1:=zH hs1;have HR1:=zH hr1;have H1:=zH h1;clear h ht hst hst9 hW1 hb1 hs1 hr1 h1 hk hu huk hxx hxk hv hvk hz hs;go_enter func243,ntmps243
 go_upto_region 2 with(go_at_call 170;rw[HW1.out];refine HTK.out.mono ?_;rintro e w2 ⟨rfl,hb2⟩;have hst2:=HST.out w2;have HB2:=zH hb2;clear hb2)
 clear hst2;obtain⟨G,hG⟩:=zE w2.heap.size;obtain⟨W3,hW3⟩:=zE (w2.alloc (.cells #[.int .i64 t.kind,.string t.text,.int .i64 t.n,.int .i64 t.ln,.int .i64 t.cl] 263));rw[hG,hW3];have hb3:=zD hW3 HB2;have hs3:W3.heap.size=G+1:=by rw[←hW3,←hG];simp
 have hGN:N+1≤G:=by rw[←hG,←HS1.out];exact HB2.out.size
 have hrG:W3.heap[G]?=some (.cells #[.int .i64 t.kind,.string t.text,.int .i64 t.n,.int .i64 t.ln,.int .i64 t.cl] 263 (0,0)):=by rw[←hW3,←hG];exact alloc_at _ _
 obtain⟨⟨g0,g1,g2,g3,g4⟩,_,hG3⟩:=fe hrG;have hst3:=HST9.out W3;have HB3:=zH hb3;have HRG:=zH hrG;clear hG hW3 hb3 hrG;rw[hs3] at hst3
 go_upto_region 4 with(fail)
 clear hst3;obtain⟨W4,hW4⟩:=zE (W3.alloc (.cells #[.int .i64 0,.bool false,.string ⟨#[]⟩,.string ⟨#[]⟩,.slice none 0 0,.slice none 0 0,.slice none 0 0,.int .i64 t.ln,.int .i64 t.cl] 282));rw[hW4];have hb4:=zD hW4 HB3;have hs4:W4.heap.size=G+2:=by rw[←hW4];simp[hs3]
 have hrS:W4.heap[G+1]?=some (.cells #[.int .i64 0,.bool false,.string ⟨#[]⟩,.string ⟨#[]⟩,.slice none 0 0,.slice none 0 0,.slice none 0 0,.int .i64 t.ln,.int .i64 t.cl] 282 (0,0)):=by rw[←hW4,←hs3];exact alloc_at _ _
 have hrG4:W4.heap[G]?=some (.cells #[.int .i64 t.kind,.string t.text,.int .i64 t.n,.int .i64 t.ln,.int .i64 t.cl] 263 (0,0)):=by rw[←hW4];exact(Hy _ _ G (by omega)).trans HRG.out
 have hrN4:=(hb4.block N (by have:=HS1.out;omega)).trans HR1.out;obtain⟨W5,hW5⟩:=zE (W4.alloc (.cells #[.string ⟨#[105,102]⟩,.string ⟨#[119,104,105,108,101]⟩,.string ⟨#[98,114,101,97,107]⟩,.string ⟨#[99,111,110,116,105,110,117,101]⟩,.string ⟨#[114,101,116,117,114,110]⟩,.string ⟨#[102,114,101,101]⟩,.string ⟨#[112,117,116]⟩] 9));have hb5:=gK hW5;have hb15:=hb4.trans (hb5.mono hb4.size);have hr5:W5.heap[G+2]?=some (.cells #[.string ⟨#[105,102]⟩,.string ⟨#[119,104,105,108,101]⟩,.string ⟨#[98,114,101,97,107]⟩,.string ⟨#[99,111,110,116,105,110,117,101]⟩,.string ⟨#[114,101,116,117,114,110]⟩,.string ⟨#[102,114,101,101]⟩,.string ⟨#[112,117,116]⟩] 9 (0,0)):=by rw[←hW5,←hs4];exact alloc_at _ _
 have HBD4:=zH (HBD.out W4 hb4);have HAN5:=zH (HAN.out (G+2) W5 hb15 (ae hr5) hr5);have HW5:=zH hW5;have HB5:=zH hb5;have HB15:=zH hb15;have HRS:=zH hrS;have HRG4:=zH hrG4;have HRN4:=zH hrN4;clear hW4 hb4 hrS hrG4 hrN4 hW5 hb5 hb15 hr5 HBD HTK HAN g0 g1 g2 g3 g4
 go_upto_region 7 with(first
  |(go_at_call 171;refine HBD4.out.mono ?_;rintro e w5 ⟨rfl,rfl⟩)
  |(go_at_call 260;(try rw[HW5.out]);refine HAN5.out.mono ?_;rintro e w6 ⟨rfl,hb6⟩;have HB6:=zH hb6;clear hb6))
 have hb46:=HB5.out.trans (HB6.out.mono HB5.out.size);have hb16:=HB15.out.trans (HB6.out.mono HB15.out.size);have h6:=H1.out.grow hb16;have hrS6:=(hb46.block (G+1) (by omega)).trans HRS.out;have hrN6:=(hb46.block N (by omega)).trans HRN4.out;obtain⟨⟨a0,a1,a2,a3,a4,a5,a6,a7,a8⟩,_,hS6⟩:=fq hrS6;have HSI6:=zH (HSI.out w6 h6);have HB16:=zH hb16;have HRN6:=zH hrN6;clear hb46 hb16 h6 hrS6 hrN6
 go_wp2_with (go_at_call 261;refine HSI6.out.mono ?_;rintro e w7 ⟨s,rfl,hsh,hin,hm7⟩;obtain⟨eao,en,ec,hE⟩:=hin.slice;have HE:=zH hE;have HSH:=zH hsh;have HIN:=zH hin;have HM7:=zH hm7;have hr17:=hm7.2.heap HRN6.out (by omega);have HR17:=zH hr17;obtain⟨⟨p0,p1,p2,p3,p4,p5,p6,p7,p8⟩,⟨q0,q1,q2,q3,q4,q5,q6,q7,q8⟩,hP7⟩:=fq hr17;unfold Sm.cells;rw[hE];clear hsh hin hm7 hr17 hE)
 (try simp only[Exit.inBlock,Exit.then]);refine bodyPost_ret (results_cell_row (P:=prog) rfl _ _ N 282 _ (0,0) _ rfl (kK HR17.out) underlying282 rfl (by kernel_rfl)) rfl ?_;have hx9:=kL w7 N (.int .i64 s.kind) (.bool s.ty.1) (.string s.ty.2) (.string s.nm) (.slice eao en ec) (.slice none 0 0) (.slice none 0 0) (.int .i64 s.ln) (.int .i64 s.cl);have hsz:w.heap.size≤w6.heap.size:=(HB1.out.trans (HB16.out.mono (by rw[HS1.out];omega))).size;have hN6:N<w6.heap.size:=ae HRN6.out;have hM:bK r lb cap T (i+5) w w7:=bK.grown (show H9 w.heap.size w w6 by rw[hN];exact HB1.out.trans (HB16.out.mono (by rw[HS1.out];omega))) HM7.out;exact⟨s,by unfold Sm.cells;rw[HE.out],HSH.out,(HIN.out.ext hx9 (fun k h1 h2 e=>by omega)).mono hsz,hM.1.ext hx9 (by omega) (by have:=HLB.out;omega),hM.2.trans hx9 (fun k hk=> .inr (by omega))⟩
theorem yl {r lb cap:Nat}{T:List Tok}{i:Nat}{k:Nat}{t u x v z:Tok}{e:Ex}(d:Int)(w:H5)(h:Rd r lb cap T i w)(ht:T[i]?=some t)(hk:t.kind=1)(hu:T[i+1]?=some u)(huk:dD u jH=true)(hu4:u.kind=4)(hxx:T[i+2]?=some x)(hxk:x.kind=1)(hv:T[i+3]?=some v)(hvk:dD v F8=true)(hl:eU T (i+4) e k)(hz:T[k]?=some z)(hs:dD z dG=true):
  Calls prog 243 #[.pointer (some ⟨r,0,none⟩),.int .i64 d] w (iD r lb cap T w ⟨1,(true,t.text),x.text,[e]⟩ (k+1)):=by
 obtain⟨N,hN⟩:=zE w.heap.size;obtain⟨W1,hW1⟩:=zE (w.alloc (.cells #[.int .i64 0,.bool false,.string ⟨#[]⟩,.string ⟨#[]⟩,.slice none 0 0,.slice none 0 0,.slice none 0 0,.int .i64 0,.int .i64 0] 282));have hb1:=gZ hW1 hN;have hs1:W1.heap.size=N+1:=by rw[←hW1];simp[hN]
 have hr1:W1.heap[N]?=some (.cells #[.int .i64 0,.bool false,.string ⟨#[]⟩,.string ⟨#[]⟩,.slice none 0 0,.slice none 0 0,.slice none 0 0,.int .i64 0,.int .i64 0] 282 (0,0)):=by rw[←hW1,←hN];exact alloc_at _ _
 have h1:=h.grow (by rw[hN];exact hb1);have HTK:=zH (bB W1 h1 ht);have HBD:Ia (∀W,H9 W1.heap.size W1 W→zS 171 #[.pointer (some ⟨r,0,none⟩)] W (.bool false)):=fun W hW=>bu W (h1.grow hW);have HAN:Ia (∀(b:Nat) W,H9 W1.heap.size W1 W→b<W.heap.size→W.heap[b]?=some (.cells #[.string ⟨#[105,102]⟩,.string ⟨#[119,104,105,108,101]⟩,.string ⟨#[98,114,101,97,107]⟩,.string ⟨#[99,111,110,116,105,110,117,101]⟩,.string ⟨#[114,101,116,117,114,110]⟩,.string ⟨#[102,114,101,101]⟩,.string ⟨#[112,117,116]⟩] 9 (0,0))→zP 260 #[.pointer (some ⟨r,0,none⟩),.slice (some ⟨b,0,none⟩) 7 7] W (.bool (lK t jV))):=fun b W hW hb hr=>gP b 7 jV W (h1.grow hW) ht (by decide) hb (iL hr rfl);rw[oq (by omega) (by omega) jV] at HAN;have HIS:Ia (∀W,H9 W1.heap.size W1 W→zP 172 #[.pointer (some ⟨r,0,none⟩),.string vU] W (.bool (dD t vU))):=fun W hW=>bi _ W (h1.grow hW) ht;rw[lm hk] at HIS;unfold vU at HIS;have HSR:Ia (∀W,H9 W1.heap.size W1 W→zP 262 #[.pointer (some ⟨r,0,none⟩)] W (.bool (u.text==jH))):=fun W hW=>vV W (h1.grow hW) hu hu4;rw[show(u.text==jH)=true from beq_iff_eq.2 (vZ huk).1] at HSR;have HTY:Ia (∀W,Rd r lb cap T i W→Calls prog 209 #[.pointer (some ⟨r,0,none⟩)] W fun e w'=>e= .returned (.agg #[.bool true,.string t.text])∧bK r lb cap T (i+2) W w'):=fun W hW=>uJ W hW ht hk hu huk;have HNM:Ia (∀W,Rd r lb cap T (i+2) W→Calls prog 208 #[.pointer (some ⟨r,0,none⟩)] W fun e w'=>e= .returned (.tuple #[.string x.text,.agg #[.int .i64 x.ln,.int .i64 x.cl]])∧bK r lb cap T (i+3) W w'):=fun W hW=>dV W hW hxx hxk;have HE1:Ia (∀W,Rd r lb cap T (i+3) W→Calls prog 207 #[.pointer (some ⟨r,0,none⟩),.string F8] W fun e w'=>e= .returned (.tuple #[])∧bK r lb cap T (i+4) W w'):=fun W hW=>aX F8 W hW hv hvk;have HE4:Ia (∀W,Rd r lb cap T k W→Calls prog 207 #[.pointer (some ⟨r,0,none⟩),.string dG] W fun e w'=>e= .returned (.tuple #[])∧bK r lb cap T (k+1) W w'):=fun W hW=>aX dG W hW hz hs;unfold F8 at HE1;unfold dG at HE4;have hEX:∀W,Rd r lb cap T (i+4) W→Calls prog 263 #[.pointer (some ⟨r,0,none⟩),.int .i64 d] W fun en w'=>en= .returned (.agg e.cells)∧bK r lb cap T k W w':=fun W hW=>mW d W hW hl hz hs;unfold Ex.cells at hEX;have HEX:=zH hEX;clear hEX;simp only[Tok.cells,hk] at HTK;have hst:∀(w:H5)(c:Array Value),c.size=5→(storeCells ⟨w.heap.size,0,none⟩ [.int .i64 1,.string t.text,.int .i64 t.n,.int .i64 t.ln,.int .i64 t.cl] 0).run prog (w.alloc (.cells c 263))= .ok () (w.alloc (.cells #[.int .i64 1,.string t.text,.int .i64 t.n,.int .i64 t.ln,.int .i64 t.cl] 263)):=fun w c hc=>
  run_storeCells_new (P:=prog) w 263 c #[.int .i64 1,.string t.text,.int .i64 t.n,.int .i64 t.ln,.int .i64 t.cl] (by show _=some 5;kernel_rfl) hc (by simp[Value.oneCell'])
 have hst9:∀(w:H5)(c:Array Value),c.size=9→(storeCells ⟨w.heap.size,0,none⟩ [.int .i64 0,.bool false,.string ⟨#[]⟩,.string ⟨#[]⟩,.slice none 0 0,.slice none 0 0,.slice none 0 0,.int .i64 t.ln,.int .i64 t.cl] 0).run prog (w.alloc (.cells c 282))= .ok () (w.alloc (.cells #[.int .i64 0,.bool false,.string ⟨#[]⟩,.string ⟨#[]⟩,.slice none 0 0,.slice none 0 0,.slice none 0 0,.int .i64 t.ln,.int .i64 t.cl] 282)):=fun w c hc=>
  run_storeCells_new (P:=prog) w 282 c #[.int .i64 0,.bool false,.string ⟨#[]⟩,.string ⟨#[]⟩,.slice none 0 0,.slice none 0 0,.slice none 0 0,.int .i64 t.ln,.int .i64 t.cl] (by show _=some 9;kernel_rfl) hc (by simp[Value.oneCell'])
 have HST:=zH hst;have HST9:=zH hst9;have hil:i<T.length:=(GQ.1 ht).1;have hT:=h.short;have hrN:r<N:=by rw[←hN];exact h.rlt
 have HLB:Ia (lb<N):=by unfold Ia;rw[←hN];exact h.lt
 have HW1:=zH hW1;have HB1:=zH hb1;have HS1:=zH hs1;have HR1:=zH hr1;have H1:=zH h1;clear h ht hst hst9 hW1 hb1 hs1 hr1 h1 hk hu huk hu4 hxx hxk hv hvk hl hz hs;go_enter func243,ntmps243
 go_upto_region 2 with(go_at_call 170;rw[HW1.out];refine HTK.out.mono ?_;rintro e w2 ⟨rfl,hb2⟩;have hst2:=HST.out w2;have HB2:=zH hb2;clear hb2)
 clear hst2;obtain⟨G,hG⟩:=zE w2.heap.size;obtain⟨W3,hW3⟩:=zE (w2.alloc (.cells #[.int .i64 1,.string t.text,.int .i64 t.n,.int .i64 t.ln,.int .i64 t.cl] 263));rw[hG,hW3];have hb3:=zD hW3 HB2;have hs3:W3.heap.size=G+1:=by rw[←hW3,←hG];simp
 have hGN:N+1≤G:=by rw[←hG,←HS1.out];exact HB2.out.size
 have hrG:W3.heap[G]?=some (.cells #[.int .i64 1,.string t.text,.int .i64 t.n,.int .i64 t.ln,.int .i64 t.cl] 263 (0,0)):=by rw[←hW3,←hG];exact alloc_at _ _
 obtain⟨⟨g0,g1,g2,g3,g4⟩,_,hG3⟩:=fe hrG;have hst3:=HST9.out W3;have HB3:=zH hb3;have HRG:=zH hrG;clear hG hW3 hb3 hrG;rw[hs3] at hst3
 go_upto_region 4 with(fail)
 clear hst3;obtain⟨W4,hW4⟩:=zE (W3.alloc (.cells #[.int .i64 0,.bool false,.string ⟨#[]⟩,.string ⟨#[]⟩,.slice none 0 0,.slice none 0 0,.slice none 0 0,.int .i64 t.ln,.int .i64 t.cl] 282));rw[hW4];have hb4:=zD hW4 HB3;have hs4:W4.heap.size=G+2:=by rw[←hW4];simp[hs3]
 have hrS:W4.heap[G+1]?=some (.cells #[.int .i64 0,.bool false,.string ⟨#[]⟩,.string ⟨#[]⟩,.slice none 0 0,.slice none 0 0,.slice none 0 0,.int .i64 t.ln,.int .i64 t.cl] 282 (0,0)):=by rw[←hW4,←hs3];exact alloc_at _ _
 have hrG4:W4.heap[G]?=some (.cells #[.int .i64 1,.string t.text,.int .i64 t.n,.int .i64 t.ln,.int .i64 t.cl] 263 (0,0)):=by rw[←hW4];exact(Hy _ _ G (by omega)).trans HRG.out
 have hrN4:=(hb4.block N (by have:=HS1.out;omega)).trans HR1.out;obtain⟨W5,hW5⟩:=zE (W4.alloc (.cells #[.string ⟨#[105,102]⟩,.string ⟨#[119,104,105,108,101]⟩,.string ⟨#[98,114,101,97,107]⟩,.string ⟨#[99,111,110,116,105,110,117,101]⟩,.string ⟨#[114,101,116,117,114,110]⟩,.string ⟨#[102,114,101,101]⟩,.string ⟨#[112,117,116]⟩] 9));have hb5:=gK hW5;have hb15:=hb4.trans (hb5.mono hb4.size);have hr5:W5.heap[G+2]?=some (.cells #[.string ⟨#[105,102]⟩,.string ⟨#[119,104,105,108,101]⟩,.string ⟨#[98,114,101,97,107]⟩,.string ⟨#[99,111,110,116,105,110,117,101]⟩,.string ⟨#[114,101,116,117,114,110]⟩,.string ⟨#[102,114,101,101]⟩,.string ⟨#[112,117,116]⟩] 9 (0,0)):=by rw[←hW5,←hs4];exact alloc_at _ _
 have HBD4:=zH (HBD.out W4 hb4);have HAN5:=zH (HAN.out (G+2) W5 hb15 (ae hr5) hr5);have HW5:=zH hW5;have HB5:=zH hb5;have HB15:=zH hb15;have HRS:=zH hrS;have HRG4:=zH hrG4;have HRN4:=zH hrN4;clear hW4 hb4 hrS hrG4 hrN4 hW5 hb5 hb15 hr5 HBD HTK HAN g0 g1 g2 g3 g4
 go_upto_region 8 with(first
  |(go_at_call 171;refine HBD4.out.mono ?_;rintro e w5 ⟨rfl,rfl⟩)
  |(go_at_call 260;(try rw[HW5.out]);refine HAN5.out.mono ?_;rintro e w6 ⟨rfl,hb6⟩;have HB6:=zH hb6;clear hb6))
 have hb46:=HB5.out.trans (HB6.out.mono HB5.out.size);have hb16:=HB15.out.trans (HB6.out.mono HB15.out.size);have hrS6:=(hb46.block (G+1) (by omega)).trans HRS.out;have hrG6:=(hb46.block G (by omega)).trans HRG4.out;have hrN6:=(hb46.block N (by omega)).trans HRN4.out;have HIS6:=zH (HIS.out w6 hb16);have HSR6:=zH (fun W (hb:H9 w6.heap.size w6 W)=>HSR.out W (hb16.trans (hb.mono hb16.size)));have HB16:=zH hb16;have HRS6:=zH hrS6;have HRG6:=zH hrG6;have HRN6:=zH hrN6;have hGw:G+1<w6.heap.size:=ae hrS6;clear hb46 hb16 hrS6 hrG6 hrN6 HSR HIS
 go_upto_region 9 with(first
  |(go_at_call 172;refine HIS6.out.mono ?_;rintro e w7 ⟨rfl,hb7⟩;have HB7:=zH hb7;obtain⟨⟨g0,g1,g2,g3,g4⟩,_,hG7⟩:=fe ((hb7.block G (by omega)).trans HRG6.out);clear hb7)
  |(go_at_call 262;refine(HSR6.out w7 HB7.out).mono ?_;rintro e w8 ⟨rfl,hb8⟩;have HB8:=zH (HB7.out.trans (hb8.mono HB7.out.size));clear hb8))
 have hb18:=HB16.out.trans (HB8.out.mono HB16.out.size);have h8:=H1.out.grow hb18;have hrS8:=(HB8.out.block (G+1) (by omega)).trans HRS6.out;have hrN8:=(HB8.out.block N (by omega)).trans HRN6.out;obtain⟨⟨a0,a1,a2,a3,a4,a5,a6,a7,a8⟩,⟨b0,b1,b2,b3,b4,b5,b6,b7,b8⟩,hS8⟩:=fq hrS8;have H8:=zH h8;have HB18:=zH hb18;have HRS8:=zH hrS8;have HRN8:=zH hrN8;clear hb18 h8 hrS8 hrN8 g0 g1 g2 g3 g4 hG7
 go_upto_region 10 with(fail)
 obtain⟨W9,hW9⟩:=zE (w8.setCell ⟨G+1,0,none⟩ (.int .i64 1));rw[hW9];have hx9:Ext (·=G+1) w8 W9:=by rw[←hW9];exact aa (Ext.refl _ _) _
 have h9:=H8.out.ext hx9 (by omega) (by have:=HLB.out;omega);have hm9:bK r lb cap T i w W9:=⟨h9,((Ext.of_below_size (M:=(·=r)) (show H9 w.heap.size w w8 by rw[hN];exact HB1.out.trans (HB18.out.mono (by rw[HS1.out];omega))))).trans hx9 (fun k hk=> .inr (by omega))⟩
 have hrS9:W9.heap[G+1]?=some (.cells #[.int .i64 1,.bool false,.string ⟨#[]⟩,.string ⟨#[]⟩,.slice none 0 0,.slice none 0 0,.slice none 0 0,.int .i64 t.ln,.int .i64 t.cl] 282 (0,0)):=by rw[←hW9];exact Hz _ (G+1) 0 _ _ _ HRS8.out
 have hrN9:=hx9.heap HRN8.out (by omega);have HM9:=zH hm9;have HRS9:=zH hrS9;have HRN9:=zH hrN9;clear hW9 hx9 h9 hm9 hrS9 hrN9 a0 a1 a2 a3 a4 a5 a6 a7 a8 b0 b1 b2 b3 b4 b5 b6 b7 b8 hS8
 go_upto_region 11 with(go_at_call 209;refine(HTY.out W9 HM9.out.1).mono ?_;rintro e w10 ⟨rfl,hm10⟩;have HM10:=zH (HM9.out.trans hm10);have hr10:=hm10.2.heap HRS9.out (by omega);have hn10:=hm10.2.heap HRN9.out (by omega);have HRS10:=zH hr10;have HRN10:=zH hn10;obtain⟨⟨a0,a1,a2,a3,a4,a5,a6,a7,a8⟩,⟨b0,b1,b2,b3,b4,b5,b6,b7,b8⟩,hS10⟩:=fq hr10;clear hm10 hr10 hn10)
 obtain⟨W11,hW11⟩:=zE ((w10.setCell ⟨G+1,1,none⟩ (.bool true)).setCell ⟨G+1,2,none⟩ (.string t.text));rw[hW11];have hx11:Ext (·=G+1) w10 W11:=by rw[←hW11];exact aa (aa (Ext.refl _ _) _) _
 have hm11:bK r lb cap T (i+2) w W11:=⟨HM10.out.1.ext hx11 (by omega) (by have:=HLB.out;omega),HM10.out.2.trans hx11 (fun k hk=> .inr (by omega))⟩
 have hrS11:W11.heap[G+1]?=some (.cells #[.int .i64 1,.bool true,.string t.text,.string ⟨#[]⟩,.slice none 0 0,.slice none 0 0,.slice none 0 0,.int .i64 t.ln,.int .i64 t.cl] 282 (0,0)):=by rw[←hW11];exact Hz _ (G+1) 2 _ _ _ (Hz _ (G+1) 1 _ _ _ HRS10.out)
 have hrN11:=hx11.heap HRN10.out (by omega);have HM11:=zH hm11;have HRS11:=zH hrS11;have HRN11:=zH hrN11;clear hW11 hx11 hm11 hrS11 hrN11 a0 a1 a2 a3 a4 a5 a6 a7 a8 b0 b1 b2 b3 b4 b5 b6 b7 b8 hS10
 go_upto_region 12 with(go_at_call 208;refine(HNM.out W11 HM11.out.1).mono ?_;rintro e w12 ⟨rfl,hm12⟩;have HM12:=zH (HM11.out.trans hm12);have hr12:=hm12.2.heap HRS11.out (by omega);have hn12:=hm12.2.heap HRN11.out (by omega);have HRS12:=zH hr12;have HRN12:=zH hn12;obtain⟨⟨a0,a1,a2,a3,a4,a5,a6,a7,a8⟩,⟨b0,b1,b2,b3,b4,b5,b6,b7,b8⟩,hS12⟩:=fq hr12;clear hm12 hr12 hn12)
 obtain⟨W13,hW13⟩:=zE (w12.setCell ⟨G+1,3,none⟩ (.string x.text));rw[hW13];have hx13:Ext (·=G+1) w12 W13:=by rw[←hW13];exact aa (Ext.refl _ _) _
 have hm13:bK r lb cap T (i+3) w W13:=⟨HM12.out.1.ext hx13 (by omega) (by have:=HLB.out;omega),HM12.out.2.trans hx13 (fun k hk=> .inr (by omega))⟩
 have hrS13:W13.heap[G+1]?=some (.cells #[.int .i64 1,.bool true,.string t.text,.string x.text,.slice none 0 0,.slice none 0 0,.slice none 0 0,.int .i64 t.ln,.int .i64 t.cl] 282 (0,0)):=by rw[←hW13];exact Hz _ (G+1) 3 _ _ _ HRS12.out
 have hrN13:=hx13.heap HRN12.out (by omega);have HM13:=zH hm13;have HRS13:=zH hrS13;have HRN13:=zH hrN13;clear hW13 hx13 hm13 hrS13 hrN13 a0 a1 a2 a3 a4 a5 a6 a7 a8 b0 b1 b2 b3 b4 b5 b6 b7 b8 hS12
 go_upto_region 13 with(go_at_call 207;refine(HE1.out W13 HM13.out.1).mono ?_;rintro e w14 ⟨rfl,hm14⟩;have HM14:=zH (HM13.out.trans hm14);have HX14:=zH hm14.2;clear hm14)
 go_upto_region 16 with(go_at_call 263;refine(HEX.out w14 HM14.out.1).mono ?_;rintro e w15 ⟨rfl,hm15⟩;have HM15:=zH (HM14.out.trans hm15);have hr15:=hm15.2.heap (HX14.out.heap HRS13.out (by omega)) (by omega);have hn15:=hm15.2.heap (HX14.out.heap HRN13.out (by omega)) (by omega);have HRS15:=zH hr15;have HRN15:=zH hn15;obtain⟨⟨a0,a1,a2,a3,a4,a5,a6,a7,a8⟩,⟨b0,b1,b2,b3,b4,b5,b6,b7,b8⟩,hS15⟩:=fq hr15;clear hm15 hr15 hn15)
 obtain⟨Q,hQ⟩:=zE w15.heap.size;rw[hQ];obtain⟨W16,hW16⟩:=zE ((w15.setCell ⟨G+1,4,none⟩ (.slice (some ⟨Q,0,none⟩) 1 1)).alloc (.cells #[.int .i64 e.kind,.int .i64 e.n,.string e.nm,.string ⟨#[]⟩,.slice none 0 0,.int .i64 e.ln,.int .i64 e.cl] 313));rw[hW16];have hx16:Ext (·=G+1) w15 W16:=by rw[←hW16];exact(aa (Ext.refl _ _) _).alloc _
 have hNQ:G+1<Q:=by rw[←hQ];exact hS15
 have hrQ:W16.heap[Q]?=some (.cells #[.int .i64 e.kind,.int .i64 e.n,.string e.nm,.string ⟨#[]⟩,.slice none 0 0,.int .i64 e.ln,.int .i64 e.cl] 313 (0,0)):=by
  have:=alloc_at (w15.setCell ⟨G+1,4,none⟩ (.slice (some ⟨Q,0,none⟩) 1 1)) (.cells #[.int .i64 e.kind,.int .i64 e.n,.string e.nm,.string ⟨#[]⟩,.slice none 0 0,.int .i64 e.ln,.int .i64 e.cl] 313);rw[World.size_setCell,hQ,hW16] at this;exact this
 have hrS16:W16.heap[G+1]?=some (.cells #[.int .i64 1,.bool true,.string t.text,.string x.text,.slice (some ⟨Q,0,none⟩) 1 1,.slice none 0 0,.slice none 0 0,.int .i64 t.ln,.int .i64 t.cl] 282 (0,0)):=by
  rw[←hW16];exact(Hy _ _ (G+1) (by rw[World.size_setCell];omega)).trans (Hz _ (G+1) 4 _ _ _ HRS15.out)
 have hrN16:=hx16.heap HRN15.out (by omega);have hm16:bK r lb cap T k w W16:=⟨HM15.out.1.ext hx16 (by omega) (by have:=HLB.out;omega),HM15.out.2.trans hx16 (fun k hk=> .inr (by omega))⟩
 have HM16:=zH hm16;have HRQ:=zH hrQ;have HRS16:=zH hrS16;have HRN16:=zH hrN16;clear hQ hW16 hx16 hrQ hrS16 hrN16 hm16 a0 a1 a2 a3 a4 a5 a6 a7 a8 b0 b1 b2 b3 b4 b5 b6 b7 b8 hS15
 go_wp2_with (go_at_call 207;refine(HE4.out W16 HM16.out.1).mono ?_;rintro e w17 ⟨rfl,hm17⟩;have HM17:=zH hm17;have hr07:=hm17.2.heap HRS16.out (by omega);have hr17:=hm17.2.heap HRN16.out (by omega);have HR17:=zH hr17;obtain⟨⟨a0,a1,a2,a3,a4,a5,a6,a7,a8⟩,⟨b0,b1,b2,b3,b4,b5,b6,b7,b8⟩,hN7⟩:=fq hr07;obtain⟨⟨p0,p1,p2,p3,p4,p5,p6,p7,p8⟩,⟨q0,q1,q2,q3,q4,q5,q6,q7,q8⟩,hP7⟩:=fq hr17;clear hm17 hr07 hr17)
 (try simp only[Exit.inBlock,Exit.then]);refine bodyPost_ret (results_cell_row (P:=prog) rfl _ _ N 282 _ (0,0) _ rfl (kK HR17.out) underlying282 rfl (by kernel_rfl)) rfl ?_;have hM:=HM16.out.trans HM17.out;have hx18:=kL w17 N (.int .i64 1) (.bool true) (.string t.text) (.string x.text) (.slice (some ⟨Q,0,none⟩) 1 1) (.slice none 0 0) (.slice none 0 0) (.int .i64 t.ln) (.int .i64 t.cl);refine⟨⟨1,(true,t.text),x.text,.slice (some ⟨Q,0,none⟩) 1 1,t.ln,t.cl,[e]⟩,rfl,rfl,.inr ⟨Q,1,rfl,by omega, ?_⟩,hM.1.ext hx18 (by omega) (by have:=HLB.out;omega),hM.2.trans hx18 (fun k hk=> .inr (by omega))⟩;exact hx18.heap (HM17.out.2.heap HRQ.out (by omega)) (by omega)
def lX:ByteArray:=⟨#[123]⟩
def ja:ByteArray:=⟨#[125]⟩
inductive kQ (T:List Tok) (i:Nat):oZ→Nat→Prop
 |ret (t z:Tok) (e:Ex) (k:Nat):T[i]?=some t→dD t qd=true→eU T (i+1) e k→T[k]?=some z→dD z dG=true→kQ T i ⟨8,bF,⟨#[]⟩,[e]⟩ (k+1)
 |free (t u x v z:Tok):T[i]?=some t→dD t BF=true→T[i+1]?=some u→dD u eT=true→T[i+2]?=some x→x.kind=1→T[i+3]?=some v→dD v mX=true→T[i+4]?=some z→dD z dG=true→kQ T i ⟨9,bF,x.text,[]⟩ (i+5)
 |decl (t u x v z:Tok) (e:Ex) (k:Nat):T[i]?=some t→t.kind=1→T[i+1]?=some u→dD u jH=true→u.kind=4→T[i+2]?=some x→x.kind=1→T[i+3]?=some v→dD v F8=true→eU T (i+4) e k→T[k]?=some z→dD z dG=true→
   kQ T i ⟨1,(true,t.text),x.text,[e]⟩ (k+1)
theorem wm {r lb cap:Nat}{T:List Tok}{i k:Nat}{sh:oZ}(d:Int)(w:H5)(h:Rd r lb cap T i w)(hs:kQ T i sh k):
  Calls prog 243 #[.pointer (some ⟨r,0,none⟩),.int .i64 d] w (iD r lb cap T w sh k):=by
 cases hs with
 |ret t z e k h1 h2 h3 h4 h5=>exact Ao d w h h1 h2 h3 h4 h5
 |free t u x v z h1 h2 h3 h4 h5 h6 h7 h8 h9 h10=>exact yj d w h h1 h2 h3 h4 h5 h6 h7 h8 h9 h10
 |decl t u x v z e k h1 h2 h3 h4 h5 h6 h7 h8 h9 h10 h11 h12=>exact yl d w h h1 h2 h3 h4 h5 h6 h7 h8 h9 h10 h11 h12
theorem kQ.first {T:List Tok}{i k:Nat}{sh:oZ}(h:kQ T i sh k):∃t,T[i]?=some t∧dD t ja=false∧i<k:=by
 cases h with
 |ret t z e k h1 h2 h3 h4 h5=>exact⟨t,h1,jI h2 (by decide),by have:=h3.first;obtain⟨_,_,_,h⟩:=this;omega⟩
 |free t u x v z h1 h2=>exact⟨t,h1,jI h2 (by decide),by omega⟩
 |decl t u x v z e k h1 h2 h3 h4 h5 h6 h7 h8 h9 h10=>exact⟨t,h1,lm h2,by have:=h10.first;obtain⟨_,_,_,h⟩:=this;omega⟩
inductive iE (T:List Tok):Nat→List oZ→Nat→Prop
 |nil (i:Nat):iE T i [] i
 |cons (i j k:Nat) (sh:oZ) (l:List oZ):kQ T i sh j→iE T j l k→iE T i (sh::l) k
theorem own_ne {w:H5}{base:Nat}{e t:TypeId}{size n k:Nat}{v:Value}{xs:List Value}{cs:Array Value}{fr:Nat×Nat}(h:w.ownsRow base e size v n xs)(hk:w.heap[k]?=some (.cells cs t fr))(hne:t≠e):¬v.ownBlock=some k:=by
 intro hv;rcases h.2 with⟨h1,_⟩|⟨g,cap,cur,h1,_,h3,_⟩
 ·rw[h1] at hv;cases hv
 ·rw[h1] at hv
  have e1:g=k:=by simpa[Value.ownBlock] using hv
  subst e1;rw[hk] at h3;simp only[Option.some.injEq,Obj.cells.injEq] at h3;exact hne h3.2.1
theorem Sm.inn.own {B base n:Nat}{w w':H5}{s:Sm}{v:Value}{xs:List Value}(h:s.inn B w)(ho:w.ownsRow base 282 9 v n xs)(hx:Ext (fun k=>v.ownBlock=some k) w w'):s.inn B w':=by
 rcases h with h|⟨g,cap,h1,h2,h3⟩
 ·exact .inl h
 ·exact .inr ⟨g,cap,h1,h2,hx.heap h3 (own_ne ho h3 (by decide))⟩
def qH (r:Nat)(T:List Tok)(w:H5):Nat:=match w.cell? ⟨r,1,none⟩ with
 |some (.int _ j)=>T.length-j.toNat
 |_=>0
theorem fH {r lb cap:Nat}{T:List Tok}{j:Nat}{w:H5}(h:Rd r lb cap T j w):qH r T w=T.length-j:=by
 unfold qH;rw[h.cells.2.1];simp
theorem iE.le {T:List Tok}{i k:Nat}{l:List oZ}(h:iE T i l k):i≤k:=by
 induction h with
 |nil=>exact He _
 |cons i j k sh l h1 _ ih=>obtain⟨_,_,_,h⟩:=h1.first;omega
def F9 (s:Sm):List Value:=s.cells.toList
theorem ED (s:Sm)(eao:Option Addr)(en ec:Nat)(h:s.E= .slice eao en ec):∀u∈s.cells.toList,u.oneCell'=true:=by
 unfold Sm.cells;rw[h];simp[Value.oneCell']
theorem Ch:(prog.info? 282).map (fun i=>(i.zero,i.size,i.bytes))=some (some (.agg #[.int .i64 0,.bool false,.string ⟨#[]⟩,.string ⟨#[]⟩,.slice none 0 0,.slice none 0 0,.slice none 0 0,.int .i64 0,.int .i64 0]),9,136):=by kernel_rfl
def ym (r lb cap:Nat)(T:List Tok)(w:H5)(shs:List oZ)(k:Nat)(e:Ending)(w':H5):Prop:=
 ∃(v:Value) (ss:List Sm),e= .returned v∧ss.map Sm.shp=shs∧w'.ownsRow w.heap.size 282 9 v ss.length (ss.flatMap F9)∧(∀s∈ss,s.inn w.heap.size w')∧bK r lb cap T k w w'
def FM (r lb cap:Nat)(T:List Tok)(w:H5)(shs:List oZ)(k j:Nat)(v:Value)(wr:H5):Prop:=
 ∃(ss:List Sm) (l:List oZ),ss.map Sm.shp++l=shs∧iE T j l k∧wr.ownsRow w.heap.size 282 9 v ss.length (ss.flatMap F9)∧(∀s∈ss,s.inn w.heap.size wr)∧bK r lb cap T j w wr∧ss.length≤j
theorem sO {r lb cap:Nat}{T:List Tok}{i k:Nat}{t z:Tok}{shs:List oZ}(d:Int)(hd0:0≤d)(hd:d≤100)(w:H5)(h:Rd r lb cap T i w)(ht:T[i]?=some t)(ho:dD t lX=true)(hs:iE T (i+1) shs k)(hz:T[k]?=some z)(hk:dD z ja=true):
  Calls prog 210 #[.pointer (some ⟨r,0,none⟩),.int .i64 d] w (ym r lb cap T w shs (k+1)):=by
 have HIO:=zH (bi lX w h ht);rw[ho] at HIO;unfold lX at HIO;have HLV:Ia (∀W,H9 w.heap.size w W→zS 242 #[.pointer (some ⟨r,0,none⟩),.int .i64 (d+1)] W (.bool true)):=fun W hW=>sH (d+1) W (h.grow hW) (by omega);have HIS:Ia (∀(j:Nat)(t:Tok) W,T[j]?=some t→Rd r lb cap T j W→zP 172 #[.pointer (some ⟨r,0,none⟩),.string ⟨#[125]⟩] W (.bool (dD t ja))):=fun j t W ht hW=>bi ja W hW ht;have HBD:Ia (∀(j:Nat) W,Rd r lb cap T j W→zS 171 #[.pointer (some ⟨r,0,none⟩)] W (.bool false)):=fun j W hW=>bu W hW;have HSM:Ia (∀(j k:Nat)(sh:oZ) W,Rd r lb cap T j W→kQ T j sh k→Calls prog 243 #[.pointer (some ⟨r,0,none⟩),.int .i64 (d+1)] W (iD r lb cap T W sh k)):=fun j k sh W hW hs=>wm (d+1) W hW hs;have HET:Ia (∀W,Rd r lb cap T k W→Calls prog 207 #[.pointer (some ⟨r,0,none⟩),.string ⟨#[125]⟩] W fun e w'=>e= .returned (.tuple #[])∧bK r lb cap T (k+1) W w'):=fun W hW=>aX ja W hW hz hk;have hil:i<T.length:=(GQ.1 ht).1;have hT:=h.short;have hrN:=h.rlt;have hlN:=h.lt;have H:=zH h;have HS:=zH hs;have HZ:=zH hz;have HK:=zH hk;obtain⟨i0,hi0,hi1,hi2,hi3⟩:=info_parts Ch;clear h ht ho hs hz hk;go_enter func210,ntmps210
 go_upto_region 6 with(first
  |(go_at_call 172;refine HIO.out.mono ?_;rintro e w2 ⟨rfl,hb2⟩;have HB2:=zH hb2;clear hb2)
  |(go_at_call 242;refine(HLV.out w2 HB2.out).mono ?_;rintro e w3 ⟨rfl,rfl⟩))
 have h2:=H.out.grow HB2.out;obtain⟨c0,c1,c3,f1,hr⟩:=h2.cells;have hm0:bK r lb cap T (i+1) w (w2.setCell ⟨r,1,none⟩ (.int .i64 ((i:Int)+1))):=⟨h2.step,(Ext.of_below_size (M:=(·=r)) HB2.out).trans (Ext.set1 w2 r 1 _) (fun k hk=> .inl hk)⟩
 have HM0:=zH hm0;clear h2 hm0
 go_upto_region 7 with(fail)
 obtain⟨W0,hW0⟩:=zE (w2.setCell ⟨r,1,none⟩ (.int .i64 ((i:Int)+1)));rw[hW0];rw[hW0] at HM0;clear hW0 c0 c1 c3 f1 hr
 go_loopw [5] (fun v wr=>∃j:Nat,FM r lb cap T w shs k j v wr) (fun _ wr=>qH r T wr)
 case atStart=>exact⟨i+1,[],shs,rfl,HS.out,World.ownsRow_nil _ _ _ _,by simp,HM0.out,by simp⟩
 case round=>
  obtain⟨j,ss,l,hl,hat,hown,hin,hm,hlen⟩:=hrel;have hrd:=zH (fH hm.1);have hjT:j≤1000000:=by
   have:=hat.le;have:=(GQ.1 HZ.out).1;omega
  have HL:=zH hl;have HOWN:=zH hown;have HIN:=zH hin;have HM:=zH hm;cases hat with
  |nil=>
   have HISJ:=zH (HIS.out k z wr HZ.out hm.1);rw[HK.out] at HISJ;clear hl hown hin hm
   go_upto_region 9 with(go_at_call 172;refine HISJ.out.mono ?_;rintro e w4 ⟨rfl,hb4⟩;have HB4:=zH hb4;clear hb4)
   have hm4:=HM.out.grow HB4.out;have HM4:=zH hm4;clear hm4
   go_wp2_with (go_at_call 207;refine(HET.out w4 HM4.out.1).mono ?_;rintro e w5 ⟨rfl,hm5⟩;have HM5:=zH hm5;clear hm5)
   go_ret;refine⟨_,ss,rfl,by rw[←HL.out];simp, ?_, ?_,HM4.out.trans HM5.out⟩
   ·refine ah (ownsRow_below HOWN.out HB4.out) HM5.out.2 (fun q hq=> ?_)
    have:=(ai HOWN.out hq).1;omega
   ·intro s hs
    exact((HIN.out s hs).ext (Ext.of_below_size (M:=fun _=>False) HB4.out) (fun _ _ _ h=>h)).ext HM5.out.2 (fun q h1 _=>by omega)
  |cons _ j2 _ sh l2 hat1 hat2=>
   obtain⟨t1,ht1,hf1,hjj⟩:=hat1.first
   have HISJ:=zH (HIS.out j t1 wr ht1 hm.1);rw[hf1] at HISJ;have HBDJ:=zH (HBD.out j);have HSMJ:=zH (fun W hW=>HSM.out j j2 sh W hW hat1);have HAT2:=zH hat2;have hj2:j2≤T.length:=Nat.le_trans hat2.le (Nat.le_of_lt (GQ.1 HZ.out).1);clear hl hown hin hm hat1 hat2 ht1 hf1
   go_upto_region 8 with(first
    |(go_at_call 172;refine HISJ.out.mono ?_;rintro e w4 ⟨rfl,hb4⟩;have HB4:=zH hb4;clear hb4)
    |(go_at_call 171;refine(HBDJ.out w4 (HM.out.1.grow HB4.out)).mono ?_;rintro e w5 ⟨rfl,rfl⟩))
   have HOW4:=zH (ownsRow_below HOWN.out HB4.out);have HIN4:Ia (∀s∈ss,s.inn w.heap.size w4):=fun s hs=>(HIN.out s hs).ext (Ext.of_below_size (M:=fun _=>False) HB4.out) (fun _ _ _ h=>h);have HM4:=zH (HM.out.grow HB4.out);have hwr:w.heap.size≤w4.heap.size:=HM4.out.2.size;have hssl:ss.length≤1000000:=by omega
   go_wp2_with (first
    |(go_at_call 243;refine(HSMJ.out w4 HM4.out.1).mono ?_;rintro e w5 ⟨s,rfl,hsh,hin5,hm5⟩;obtain⟨eao,en,ec,hE⟩:=hin5.slice;have HONE:=zH (ED s eao en ec hE);have HOW5:=zH (ah HOW4.out hm5.2 (fun q hq=>by have:=(ai HOW4.out hq).1;omega));have HIN5:Ia (∀s∈ss,s.inn w.heap.size w5):=(fun s hs=>(HIN4.out s hs).ext hm5.2 (fun q h1 _=>by omega));have HINS:=zH (hin5.mono hwr);have HM5:=zH (HM4.out.trans hm5);have HSH:=zH hsh;have hw5:w.heap.size≤w5.heap.size:=Nat.le_trans hwr hm5.2.size;clear hsh hin5 hm5 hE;unfold Sm.cells at HONE⊢)
    |(at_builtin;refine jq rfl (.tmp 34) (.tmp 39) 231 rfl w.heap.size 282 i0 _ 9 136 underlying231 hi0 hi1 hi2 hi3 rfl (by decide) _ ss.length (ss.flatMap F9) rfl HOW5.out w5.heap.size #[.int .i64 s.kind,.bool s.ty.1,.string s.ty.2,.string s.nm,s.E,.slice none 0 0,.slice none 0 0,.int .i64 s.ln,.int .i64 s.cl] rfl rfl rfl HONE.out (by unfold maxLen;omega) (by omega) hw5 ?_;intro v7 w7 hown7 hx7 hat7;have HO7:=zH hown7;have HX7:=zH hx7;have HM7:Ia (bK r lb cap T j2 w w7):=(⟨HM5.out.1.ext hx7 (fun h=>by have:=(ai HOW5.out h).1;omega) (fun h=>by have:=(ai HOW5.out h).1;omega),HM5.out.2.trans hx7 (fun q hq=> .inr (ai HOW5.out hq).1)⟩:bK r lb cap T j2 w w7);clear hown7 hx7 hat7))
   go_roundw
   case rel=>
    refine⟨j2,ss++[s],l2, ?_,HAT2.out, ?_, ?_,HM7.out,by rw[GU];simp;omega⟩
    ·rw[List.map_append,Hr,←HL.out,←HSH.out];rfl
    ·rw[List.flatMap_append,GU]
     exact HO7.out
    ·intro s' hs'
     rcases List.mem_append.1 hs' with h|h
     ·exact(HIN5.out s' h).own HOW5.out HX7.out
     ·obtain rfl:s'=s:=by simpa using h
      exact HINS.out.own HOW5.out HX7.out
   case measure=>
    rw[fH HM7.out.1,hrd.out];omega
theorem Dw (a:Int)(s:ByteArray)(n ln cl:Int)(W:H5):(Instr.field 263 (.agg #[.int .i64 a,.string s,.int .i64 n,.int .i64 ln,.int .i64 cl]) 3).run prog W= .ok (.agg #[.int .i64 ln,.int .i64 cl]) W:=by
 have h2:=underlying263;have h3:(prog.info? 40).map (·.size)=some 2:=by kernel_rfl
 have h4:=underlying40;unfold Instr.field;rw[Sem.run_bind,run_underlying h2 W];obtain⟨i,hi,hs⟩:=Option.map_eq_some_iff.1 h3;simp[asAgg,part,go_sem,isAgg,sizeOf,typeInfo,hi,hs,Sem.run_bind,run_underlying h4 W]
theorem qI (a:Int)(s:ByteArray)(n ln cl:Int)(W:H5):(Instr.field 263 (.agg #[.int .i64 a,.string s,.int .i64 n,.int .i64 ln,.int .i64 cl]) 0).run prog W= .ok (.int .i64 a) W:=by
 have h2:=underlying263;have h4:=underlying3;unfold Instr.field;rw[Sem.run_bind,run_underlying h2 W];simp[asAgg,part,go_sem,isAgg,Sem.run_bind,run_underlying h4 W]
def jv:ByteArray:=⟨#[115,116,114,117,99,116]⟩
inductive gQ (T:List Tok):Nat→List (ByteArray×Ty)→Nat→Prop
 |nil (i:Nat):gQ T i [] i
 |cons (i j k:Nat) (y:Ty) (x z:Tok) (l:List (ByteArray×Ty)):vW T i y j→T[j]?=some x→x.kind=1→T[j+1]?=some z→dD z dG=true→gQ T (j+2) l k→gQ T i ((x.text,y)::l) k
theorem vW.first {T:List Tok}{i k:Nat}{y:Ty}(h:vW T i y k):∃t,T[i]?=some t∧dD t ja=false∧i<k:=by
 cases h with
 |int t h1 h2=>exact⟨t,h1,jI h2 (by decide),by omega⟩
 |ptr t u h1 h2=>exact⟨t,h1,lm h2,by omega⟩
theorem gQ.le {T:List Tok}{i k:Nat}{l:List (ByteArray×Ty)}(h:gQ T i l k):i≤k:=by
 induction h with
 |nil=>exact He _
 |cons i j k y x z l h1 _ _ _ _ _ ih=>obtain⟨_,_,_,h⟩:=h1.first;omega
def Fd.shp (f:Fd):ByteArray×Ty:=(f.nm,f.ty)
def sj (f:Fd):List Value:=f.cells.toList
theorem BG:(prog.info? 92).map (fun i=>(i.zero,i.size,i.bytes))=some (some (.agg #[.string ⟨#[]⟩,.bool false,.string ⟨#[]⟩,.int .i64 0,.int .i64 0]),5,56):=by kernel_rfl
def BH (r lb cap:Nat)(T:List Tok)(w:H5)(nm:ByteArray)(l:List (ByteArray×Ty))(k:Nat)(e:Ending)(w':H5):Prop:=
 ∃(ao:Option Addr) (c:Nat) (fs:List Fd) (ln cl:Int),e= .returned (.agg #[.string nm,.slice ao fs.length c,.int .i64 ln,.int .i64 cl])∧fs.map Fd.shp=l∧w'.ownsRow w.heap.size 92 5 (.slice ao fs.length c) fs.length (fs.flatMap sj)∧bK r lb cap T k w w'
def Gz (r lb cap:Nat)(T:List Tok)(w:H5)(nm:ByteArray)(l:List (ByteArray×Ty))(ln cl:Int)(k B j:Nat)(wr:H5):Prop:=
 ∃(ao:Option Addr) (c:Nat) (fs:List Fd) (l2:List (ByteArray×Ty)),fs.map Fd.shp++l2=l∧gQ T j l2 k∧wr.heap[B]?=some (.cells #[.string nm,.slice ao fs.length c,.int .i64 ln,.int .i64 cl] 90 (0,0))∧
  wr.ownsRow (B+1) 92 5 (.slice ao fs.length c) fs.length (fs.flatMap sj)∧bK r lb cap T j w wr∧fs.length≤j∧wr.heap[w.heap.size]?=some (.cells #[.string ⟨#[]⟩,.slice none 0 0,.int .i64 0,.int .i64 0] 90 (0,0))
theorem mY {r lb cap:Nat}{T:List Tok}{i k:Nat}{t u x z z2:Tok}{l:List (ByteArray×Ty)}(w:H5)(h:Rd r lb cap T i w)(ht:T[i]?=some t)(htk:dD t jv=true)(hx:T[i+1]?=some x)(hxk:x.kind=1)(hu:T[i+2]?=some u)(huk:dD u lX=true)
  (hl:gQ T (i+3) l k)(hz:T[k]?=some z)(hk:dD z ja=true)(hz2:T[k+1]?=some z2)(hk2:dD z2 dG=true):
  Calls prog 173 #[.pointer (some ⟨r,0,none⟩)] w (BH r lb cap T w x.text l (k+2)):=by
 obtain⟨N,hN⟩:=zE w.heap.size;obtain⟨W1,hW1⟩:=zE (w.alloc (.cells #[.string ⟨#[]⟩,.slice none 0 0,.int .i64 0,.int .i64 0] 90));have hb1:=gZ hW1 hN;have hs1:W1.heap.size=N+1:=by rw[←hW1];simp[hN]
 have hr1:W1.heap[N]?=some (.cells #[.string ⟨#[]⟩,.slice none 0 0,.int .i64 0,.int .i64 0] 90 (0,0)):=by rw[←hW1,←hN];exact alloc_at _ _
 have h1:=h.grow (by rw[hN];exact hb1);have HTK:=zH (bB W1 h1 ht);have HE0:Ia (∀W,Rd r lb cap T i W→Calls prog 207 #[.pointer (some ⟨r,0,none⟩),.string jv] W fun e w'=>e= .returned (.tuple #[])∧bK r lb cap T (i+1) W w'):=fun W hW=>aX jv W hW ht htk;have HNM:Ia (∀W,Rd r lb cap T (i+1) W→Calls prog 208 #[.pointer (some ⟨r,0,none⟩)] W fun e w'=>e= .returned (.tuple #[.string x.text,.agg #[.int .i64 x.ln,.int .i64 x.cl]])∧bK r lb cap T (i+2) W w'):=fun W hW=>dV W hW hx hxk;have HE2:Ia (∀W,Rd r lb cap T (i+2) W→Calls prog 207 #[.pointer (some ⟨r,0,none⟩),.string lX] W fun e w'=>e= .returned (.tuple #[])∧bK r lb cap T (i+3) W w'):=fun W hW=>aX lX W hW hu huk;have HE3:Ia (∀W,Rd r lb cap T k W→Calls prog 207 #[.pointer (some ⟨r,0,none⟩),.string ja] W fun e w'=>e= .returned (.tuple #[])∧bK r lb cap T (k+1) W w'):=fun W hW=>aX ja W hW hz hk;have HE4:Ia (∀(j:Nat)(z:Tok) W,T[j]?=some z→dD z dG=true→Rd r lb cap T j W→Calls prog 207 #[.pointer (some ⟨r,0,none⟩),.string ⟨#[59]⟩] W fun e w'=>e= .returned (.tuple #[])∧bK r lb cap T (j+1) W w'):=fun j z W hz hk hW=>aX dG W hW hz hk;have HE5:=zH (fun W=>HE4.out (k+1) z2 W hz2 hk2);have HIS:Ia (∀(j:Nat)(t:Tok) W,T[j]?=some t→Rd r lb cap T j W→zP 172 #[.pointer (some ⟨r,0,none⟩),.string ⟨#[125]⟩] W (.bool (dD t ja))):=fun j t W ht hW=>bi ja W hW ht;have HBD:Ia (∀(j:Nat) W,Rd r lb cap T j W→zS 171 #[.pointer (some ⟨r,0,none⟩)] W (.bool false)):=fun j W hW=>bu W hW;have HTY:Ia (∀(j k:Nat)(y:Ty) W,vW T j y k→Rd r lb cap T j W→Calls prog 209 #[.pointer (some ⟨r,0,none⟩)] W fun e w'=>e= .returned (.agg #[.bool y.1,.string y.2])∧bK r lb cap T k W w'):=fun j k y W hy hW=>oW W hW hy;have HNX:Ia (∀(j:Nat)(x:Tok) W,T[j]?=some x→x.kind=1→Rd r lb cap T j W→Calls prog 208 #[.pointer (some ⟨r,0,none⟩)] W fun e w'=>e= .returned (.tuple #[.string x.text,.agg #[.int .i64 x.ln,.int .i64 x.cl]])∧bK r lb cap T (j+1) W w'):=fun j x W hx hk hW=>dV W hW hx hk;unfold jv at HE0;unfold lX at HE2;unfold ja at HE3;simp only[Tok.cells] at HTK;have hst:∀(w:H5)(c:Array Value),c.size=4→(storeCells ⟨w.heap.size,0,none⟩ [.string ⟨#[]⟩,.slice none 0 0,.int .i64 t.ln,.int .i64 t.cl] 0).run prog (w.alloc (.cells c 90))= .ok () (w.alloc (.cells #[.string ⟨#[]⟩,.slice none 0 0,.int .i64 t.ln,.int .i64 t.cl] 90)):=fun w c hc=>
  run_storeCells_new (P:=prog) w 90 c #[.string ⟨#[]⟩,.slice none 0 0,.int .i64 t.ln,.int .i64 t.cl] (by show _=some 4;kernel_rfl) hc (by simp[Value.oneCell'])
 have HST:=zH hst;have hil:i<T.length:=(GQ.1 ht).1;have hT:=h.short;have hrN:r<N:=by rw[←hN];exact h.rlt
 have HLB:Ia (lb<N):=by unfold Ia;rw[←hN];exact h.lt
 have HW1:=zH hW1;have HB1:=zH hb1;have HS1:=zH hs1;have HR1:=zH hr1;have H1:=zH h1;have HLL:=zH hl;have HZ:=zH hz;have HK:=zH hk;have HN:=zH hN;obtain⟨i0,hi0,hi1,hi2,hi3⟩:=info_parts BG;clear h ht htk hx hxk hu huk hl hz hk hz2 hk2 hW1 hb1 hs1 hr1 h1 hst;have hfd:=fun W=>Dw t.kind t.text t.n t.ln t.cl W;go_enter func173,ntmps173
 go_upto_region 2 with(go_at_call 170;rw[HW1.out];refine HTK.out.mono ?_;rintro e w2 ⟨rfl,hb2⟩;have hst2:=HST.out w2;have HB2:=zH hb2;clear hb2)
 clear hst2 hfd;obtain⟨B,hB⟩:=zE w2.heap.size;obtain⟨W3,hW3⟩:=zE (w2.alloc (.cells #[.string ⟨#[]⟩,.slice none 0 0,.int .i64 t.ln,.int .i64 t.cl] 90));rw[hB,hW3];have hb3:=zD hW3 HB2;have hBN:N+1≤B:=by rw[←hB,←HS1.out];exact HB2.out.size
 have hrB:W3.heap[B]?=some (.cells #[.string ⟨#[]⟩,.slice none 0 0,.int .i64 t.ln,.int .i64 t.cl] 90 (0,0)):=by rw[←hW3,←hB];exact alloc_at _ _
 have hrN3:=(hb3.block N (by have:=HS1.out;omega)).trans HR1.out;have hm3:bK r lb cap T i w W3:=⟨H1.out.grow hb3,(Ext.of_below_size (M:=(·=r)) (show H9 w.heap.size w W1 by rw[hN];exact HB1.out)).trans (Ext.of_below_size (M:=(·=r)) hb3) (fun k hk=> .inl hk)⟩
 have HM3:=zH hm3;have HRB:=zH hrB;have HRN3:=zH hrN3;clear hB hW3 hb3 hrB hrN3 hm3
 go_upto_region 3 with(go_at_call 207;refine(HE0.out W3 HM3.out.1).mono ?_;rintro e w4 ⟨rfl,hm4⟩;have HM4:=zH hm4;clear hm4)
 go_upto_region 4 with(go_at_call 208;refine(HNM.out w4 HM4.out.1).mono ?_;rintro e w5 ⟨rfl,hm5⟩;have HM5:=zH (HM4.out.trans hm5);have hr5:=(HM4.out.trans hm5).2.heap HRB.out (by omega);have HRB5:=zH hr5;obtain⟨⟨a0,a1,a2,a3⟩,⟨b0,b1,b2,b3⟩,hB5⟩:=lJ hr5;clear hm5 hr5)
 obtain⟨W6,hW6⟩:=zE (w5.setCell ⟨B,0,none⟩ (.string x.text));rw[hW6];have hx6:Ext (·=B) w5 W6:=by rw[←hW6];exact aa (Ext.refl _ _) _
 have hrB6:W6.heap[B]?=some (.cells #[.string x.text,.slice none 0 0,.int .i64 t.ln,.int .i64 t.cl] 90 (0,0)):=by rw[←hW6];exact Hz _ B 0 _ _ _ HRB5.out
 have hrN6:=hx6.heap (HM5.out.2.heap HRN3.out (by omega)) (show¬N=B by omega);have hm35:=HM3.out.trans HM5.out;have hm6:bK r lb cap T (i+2) w W6:=⟨hm35.1.ext hx6 (by omega) (by have:=HLB.out;omega),hm35.2.trans hx6 (fun k hk=> .inr (by omega))⟩
 have HM6:=zH hm6;have HRB6:=zH hrB6;have HRN6:=zH hrN6;clear hW6 hx6 hrB6 hrN6 hm35 hm6 a0 a1 a2 a3 b0 b1 b2 b3 hB5
 go_upto_region 5 with(go_at_call 207;refine(HE2.out W6 HM6.out.1).mono ?_;rintro e w7 ⟨rfl,hm7⟩;have HM7:=zH hm7;clear hm7)
 have hI:Gz r lb cap T w x.text l t.ln t.cl k B (i+3) w7:=⟨none,0,[],l,rfl,HLL.out,HM7.out.2.heap HRB6.out (by omega),World.ownsRow_nil _ _ _ _,HM6.out.trans HM7.out,by simp,by rw[hN];exact HM7.out.2.heap HRN6.out (by omega)⟩
 have HI:=zH hI;clear hI
 go_loopw [4] (fun _ wr=>∃j:Nat,Gz r lb cap T w x.text l t.ln t.cl k B j wr) (fun _ wr=>qH r T wr)
 case atStart=>exact⟨i+3,HI.out⟩
 case round=>
  obtain⟨j,ao,c,fs,l2,hl,hat,hrB,hown,hm,hlen,hrN'⟩:=hrel;rw[hN] at hrN';have hrd:=zH (fH hm.1);have hjT:j≤1000000:=by
   have:=hat.le;have:=(GQ.1 HZ.out).1;omega
  have HL:=zH hl;have HOWN:=zH hown;have HM:=zH hm;have HRB:=zH hrB;have HRN:=zH hrN';cases hat with
  |nil=>
   have HISJ:=zH (HIS.out k z wr HZ.out hm.1);rw[HK.out] at HISJ;clear hl hown hm hrB hrN'
   go_upto_region 10 with(go_at_call 172;refine HISJ.out.mono ?_;rintro e w8 ⟨rfl,hb8⟩;have HB8:=zH hb8;clear hb8)
   have hm8:=HM.out.grow HB8.out;have HM8:=zH hm8;clear hm8
   go_upto_region 11 with(go_at_call 207;refine(HE3.out w8 HM8.out.1).mono ?_;rintro e w9 ⟨rfl,hm9⟩;have HM9:=zH hm9;clear hm9)
   go_wp2_with (go_at_call 207;refine(HE5.out w9 HM9.out.1).mono ?_;rintro e w10 ⟨rfl,hm10⟩;have HM10:=zH (HM9.out.trans hm10);have hr1:=(HM9.out.trans hm10).2.heap ((HB8.out.block B (ae HRB.out)).trans HRB.out) (by omega);have hr2:=(HM9.out.trans hm10).2.heap ((HB8.out.block N (ae HRN.out)).trans HRN.out) (by omega);have HR2:=zH hr2;obtain⟨⟨a0,a1,a2,a3⟩,⟨b0,b1,b2,b3⟩,hB5⟩:=lJ hr1;obtain⟨⟨p0,p1,p2,p3⟩,⟨q0,q1,q2,q3⟩,hN5⟩:=lJ hr2;clear hm10 hr1 hr2)
   (try simp only[Exit.inBlock,Exit.then]);refine bodyPost_ret (results_cell_row (P:=prog) rfl _ _ N 90 _ (0,0) _ rfl (iX HR2.out) underlying90 rfl (by kernel_rfl)) rfl ?_;have hM:=HM8.out.trans HM10.out;have hx4:∀W u0 u1 u2 u3,Ext (·=N) W ((((W.setCell ⟨N,0,none⟩ u0).setCell ⟨N,1,none⟩ u1).setCell ⟨N,2,none⟩ u2).setCell ⟨N,3,none⟩ u3):=fun W u0 u1 u2 u3=>aa (aa (aa (aa (Ext.refl _ _) _) _) _) _;refine⟨ao,c,fs,t.ln,t.cl,rfl,by rw[←HL.out];simp, ?_,hM.1.ext (hx4 _ _ _ _ _) (by omega) (by have:=HLB.out;omega),hM.2.trans (hx4 _ _ _ _ _) (fun k hk=> .inr (by omega))⟩;rw[hN];refine aT (ah (ah (ownsRow_below HOWN.out HB8.out) HM10.out.2 (fun q hq=> ?_)) (hx4 _ _ _ _ _) (fun q hq=> ?_)) (show N≤B+1 by omega)
   ·have:=(ai HOWN.out hq).1;omega
   ·have:=(ai HOWN.out hq).1;omega
  |cons _ j2 _ y x2 z3 l3 hty hx2 hxk2 hz3 hk3 hat2=>
   obtain⟨t1,ht1,hf1,hjj⟩:=hty.first
   have HISJ:=zH (HIS.out j t1 wr ht1 hm.1);rw[hf1] at HISJ;have HBDJ:=zH (HBD.out j);have HTYJ:=zH (fun W=>HTY.out j j2 y W hty);have HNXJ:=zH (fun W=>HNX.out j2 x2 W hx2 hxk2);have HEJ:=zH (fun W=>HE4.out (j2+1) z3 W hz3 hk3);have HAT2:=zH hat2;have hj2:j2+2≤T.length:=Nat.le_trans hat2.le (Nat.le_of_lt (GQ.1 HZ.out).1);clear hl hown hm hrB hrN' hty hx2 hxk2 hz3 hk3 hat2 ht1 hf1
   go_upto_region 6 with(first
    |(go_at_call 172;refine HISJ.out.mono ?_;rintro e w8 ⟨rfl,hb8⟩;have HB8:=zH hb8;clear hb8)
    |(go_at_call 171;refine(HBDJ.out w8 (HM.out.1.grow HB8.out)).mono ?_;rintro e w9 ⟨rfl,rfl⟩))
   have HM8:=zH (HM.out.grow HB8.out);have hst5:∀(w:H5)(c:Array Value),c.size=5→(storeCells ⟨w.heap.size,0,none⟩ [.string ⟨#[]⟩,.bool y.1,.string y.2,.int .i64 0,.int .i64 0] 0).run prog (w.alloc (.cells c 92))= .ok () (w.alloc (.cells #[.string ⟨#[]⟩,.bool y.1,.string y.2,.int .i64 0,.int .i64 0] 92)):=fun w c hc=>
    run_storeCells_new (P:=prog) w 92 c #[.string ⟨#[]⟩,.bool y.1,.string y.2,.int .i64 0,.int .i64 0] (by show _=some 5;kernel_rfl) hc (by simp[Value.oneCell'])
   have HST5:=zH hst5;clear hst5
   go_upto_region 7 with(go_at_call 209;refine(HTYJ.out w8 HM8.out.1).mono ?_;rintro e w9 ⟨rfl,hm9⟩;have HM9:=zH hm9;have hst9:=HST5.out w9;clear hm9)
   clear hst9;obtain⟨F,hF⟩:=zE w9.heap.size;obtain⟨W10,hW10⟩:=zE (w9.alloc (.cells #[.string ⟨#[]⟩,.bool y.1,.string y.2,.int .i64 0,.int .i64 0] 92));rw[hF,hW10];have hb10:=gK hW10;have hrF:W10.heap[F]?=some (.cells #[.string ⟨#[]⟩,.bool y.1,.string y.2,.int .i64 0,.int .i64 0] 92 (0,0)):=by rw[←hW10,←hF];exact alloc_at _ _
   have hm10:bK r lb cap T j2 w8 W10:=HM9.out.grow hb10;have hB8:=(HB8.out.block B (ae HRB.out)).trans HRB.out;have hN8:=(HB8.out.block N (ae HRN.out)).trans HRN.out;have hown8:=ownsRow_below HOWN.out HB8.out;have hF8:w8.heap.size≤F:=by rw[←hF];exact HM9.out.2.size
   have hBF:B<w8.heap.size:=ae hB8;have HM10:=zH hm10;have HRF:=zH hrF;have HB8':=zH hB8;have HN8:=zH hN8;have HOWN8:=zH hown8;clear hF hW10 hb10 hrF hm10 hB8 hN8 hown8
   go_upto_region 8 with(go_at_call 208;refine(HNXJ.out W10 HM10.out.1).mono ?_;rintro e w11 ⟨rfl,hm11⟩;have HM11:=zH (HM10.out.trans hm11);have hr11:=hm11.2.heap HRF.out (by omega);have HRF11:=zH hr11;obtain⟨⟨a0,a1,a2,a3,a4⟩,⟨b0,b1,b2,b3,b4⟩,hF11⟩:=fe hr11;clear hm11 hr11)
   obtain⟨W12,hW12⟩:=zE (((w11.setCell ⟨F,0,none⟩ (.string x2.text)).setCell ⟨F,3,none⟩ (.int .i64 x2.ln)).setCell ⟨F,4,none⟩ (.int .i64 x2.cl));rw[hW12];have hx12:Ext (·=F) w11 W12:=by rw[←hW12];exact aa (aa (aa (Ext.refl _ _) _) _) _
   have hrF12:W12.heap[F]?=some (.cells #[.string x2.text,.bool y.1,.string y.2,.int .i64 x2.ln,.int .i64 x2.cl] 92 (0,0)):=by
    rw[←hW12];have h1:_=some (Obj.cells #[.string x2.text,.bool y.1,.string y.2,.int .i64 0,.int .i64 0] 92 (0,0)):=Hz w11 F 0 _ _ (.string x2.text) HRF11.out;have h2:_=some (Obj.cells #[.string x2.text,.bool y.1,.string y.2,.int .i64 x2.ln,.int .i64 0] 92 (0,0)):=Hz _ F 3 _ _ (.int .i64 x2.ln) h1;exact Hz _ F 4 _ _ (.int .i64 x2.cl) h2
   have hm12:bK r lb cap T (j2+1) w8 W12:=⟨HM11.out.1.ext hx12 (by omega) (by have:=HLB.out;omega),HM11.out.2.trans hx12 (fun k hk=> .inr (by omega))⟩
   have HM12:=zH hm12;have HRF12:=zH hrF12;clear hW12 hx12 hrF12 hm12 a0 a1 a2 a3 a4 b0 b1 b2 b3 b4 hF11
   go_upto_region 9 with(go_at_call 207;refine(HEJ.out W12 HM12.out.1).mono ?_;rintro e w13 ⟨rfl,hm13⟩;have HM13:=zH (HM12.out.trans hm13);have HRF13:=zH (hm13.2.heap HRF12.out (by omega));clear hm13)
   have hrB13:=HM13.out.2.heap HB8'.out (show¬B=r by omega);have HRB13:=zH hrB13;have HRN13:=zH (HM13.out.2.heap HN8.out (show¬N=r by omega));have HOW13:=zH (ah HOWN8.out HM13.out.2 (fun q hq=>by have:=(ai HOWN8.out hq).1;omega));obtain⟨⟨c0,c1,c2,c3⟩,⟨d0,d1,d2,d3⟩,hB13⟩:=lJ hrB13;obtain⟨⟨a0,a1,a2,a3,a4⟩,⟨b0,b1,b2,b3,b4⟩,hF13⟩:=fe HRF13.out;have hsz13:B+1≤w13.heap.size:=hB13;have hfsl:fs.length≤1000000:=by omega
   clear hrB13
   go_wp2_with (at_builtin;refine jq rfl (.tmp 40) (.tmp 42) 88 rfl (B+1) 92 i0 _ 5 56 underlying88 hi0 hi1 hi2 hi3 rfl (by decide) _ fs.length (fs.flatMap sj) rfl HOW13.out w13.heap.size #[.string x2.text,.bool y.1,.string y.2,.int .i64 x2.ln,.int .i64 x2.cl] rfl rfl rfl (by simp[Value.oneCell']) (by unfold maxLen;omega) (by omega) hsz13 ?_;intro v14 w14 hown14 hx14 hat14;obtain⟨ao14,c14,hv14⟩:=aD hown14;subst hv14;have HO14:=zH hown14;have HX14:=zH hx14;have hr14:=hx14.heap HRB13.out (fun h=>by have:=(ai HOW13.out h).1;omega);have HR14:=zH hr14;obtain⟨⟨c0,c1,c2,c3⟩,⟨d0,d1,d2,d3⟩,hB14⟩:=lJ hr14;clear hown14 hx14 hat14 hr14)
   have hxs:Ext (fun q=>B≤q) w13 (w14.setCell ⟨B,1,none⟩ (.slice ao14 (fs.length+1) c14)):=(HX14.out.mono (fun q hq=>by have:=(ai HOW13.out hq).1;omega)).trans (Ext.set1 w14 B 1 _) (fun q hq=> .inl (by omega));have hmz:=HM8.out.trans HM13.out;have hmf:bK r lb cap T (j2+1+1) w (w14.setCell ⟨B,1,none⟩ (.slice ao14 (fs.length+1) c14)):=⟨hmz.1.ext hxs (by omega) (by have:=HLB.out;omega),hmz.2.trans hxs (fun q hq=> .inr (by omega))⟩
   have HMF:=zH hmf;have hrd2:=zH (fH hmf.1);have HXS:=zH hxs;clear hxs hmz hmf;go_roundw
   case rel=>
    refine⟨j2+2,ao14,c14,fs++[⟨x2.text,y.1,y.2,x2.ln,x2.cl⟩],l3, ?_,HAT2.out, ?_, ?_,HMF.out,by rw[GU];simp;omega, ?_⟩
    ·rw[List.map_append,Hr,←HL.out];rfl
    ·rw[GU]
     exact Hz _ B 1 _ _ _ HR14.out
    ·rw[List.flatMap_append,GU]
     exact ownsRow_setCell_below HO14.out (by show B<B+1;omega) _
    ·rw[HN.out];exact HXS.out.heap HRN13.out (by omega)
   case measure=>
    rw[hrd2.out,hrd.out];omega
theorem Sm.inn.other {B0 q:Nat}{w w':H5}{s:Sm}{cs:Array Value}{t:TypeId}{fr:Nat×Nat}(h:s.inn B0 w)(hq:w.heap[q]?=some (.cells cs t fr))(hne:t≠313)(hx:Ext (·=q) w w'):s.inn B0 w':=by
 rcases h with h|⟨g,cap,h1,h2,h3⟩
 ·exact .inl h
 ·refine .inr ⟨g,cap,h1,h2,hx.heap h3 (fun e=> ?_)⟩
  subst e;rw[hq] at h3;simp only[Option.some.injEq,Obj.cells.injEq] at h3;exact hne h3.2.1
def BI (r lb cap:Nat)(T:List Tok)(w:H5)(nm:ByteArray)(y:Ty)(shs:List oZ)(k:Nat)(e:Ending)(w':H5):Prop:=
 ∃(ao:Option Addr) (c:Nat) (ss:List Sm) (ln cl:Int),e= .returned (.agg #[.string nm,.slice none 0 0,.bool y.1,.string y.2,.slice ao ss.length c,.int .i64 ln,.int .i64 cl])∧ss.map Sm.shp=shs∧
  w'.ownsRow w.heap.size 282 9 (.slice ao ss.length c) ss.length (ss.flatMap F9)∧(∀s∈ss,s.inn w.heap.size w')∧bK r lb cap T k w w'
theorem ow {r lb cap:Nat}{T:List Tok}{i j k:Nat}{t x u v o z:Tok}{y:Ty}{shs:List oZ}(w:H5)(h:Rd r lb cap T i w)(ht:T[i]?=some t)(hy:vW T i y j)(hx:T[j]?=some x)(hxk:x.kind=1)(hu:T[j+1]?=some u)(huk:dD u eT=true)
  (hv:T[j+2]?=some v)(hvk:dD v mX=true)(ho:T[j+3]?=some o)(hok:dD o lX=true)(hs:iE T (j+4) shs k)(hz:T[k]?=some z)(hk:dD z ja=true):
  Calls prog 174 #[.pointer (some ⟨r,0,none⟩)] w (BI r lb cap T w x.text y shs (k+1)):=by
 obtain⟨N,hN⟩:=zE w.heap.size;obtain⟨W1,hW1⟩:=zE (w.alloc (.cells #[.string ⟨#[]⟩,.slice none 0 0,.bool false,.string ⟨#[]⟩,.slice none 0 0,.int .i64 0,.int .i64 0] 233));have hb1:=gZ hW1 hN;have hs1:W1.heap.size=N+1:=by rw[←hW1];simp[hN]
 have hr1:W1.heap[N]?=some (.cells #[.string ⟨#[]⟩,.slice none 0 0,.bool false,.string ⟨#[]⟩,.slice none 0 0,.int .i64 0,.int .i64 0] 233 (0,0)):=by rw[←hW1,←hN];exact alloc_at _ _
 have h1:=h.grow (by rw[hN];exact hb1);have HTK:=zH (bB W1 h1 ht);have HTY:Ia (∀W,Rd r lb cap T i W→Calls prog 209 #[.pointer (some ⟨r,0,none⟩)] W fun e w'=>e= .returned (.agg #[.bool y.1,.string y.2])∧bK r lb cap T j W w'):=fun W hW=>oW W hW hy;have HNM:Ia (∀W,Rd r lb cap T j W→Calls prog 208 #[.pointer (some ⟨r,0,none⟩)] W fun e w'=>e= .returned (.tuple #[.string x.text,.agg #[.int .i64 x.ln,.int .i64 x.cl]])∧bK r lb cap T (j+1) W w'):=fun W hW=>dV W hW hx hxk;have HE1:Ia (∀W,Rd r lb cap T (j+1) W→Calls prog 207 #[.pointer (some ⟨r,0,none⟩),.string eT] W fun e w'=>e= .returned (.tuple #[])∧bK r lb cap T (j+2) W w'):=fun W hW=>aX eT W hW hu huk;have HIS:Ia (∀W,Rd r lb cap T (j+2) W→zP 172 #[.pointer (some ⟨r,0,none⟩),.string mX] W (.bool (dD v mX))):=fun W hW=>bi mX W hW hv;rw[hvk] at HIS;have HE2:Ia (∀W,Rd r lb cap T (j+2) W→Calls prog 207 #[.pointer (some ⟨r,0,none⟩),.string mX] W fun e w'=>e= .returned (.tuple #[])∧bK r lb cap T (j+3) W w'):=fun W hW=>aX mX W hW hv hvk;have HBL:Ia (∀W,Rd r lb cap T (j+3) W→Calls prog 210 #[.pointer (some ⟨r,0,none⟩),.int .i64 0] W (ym r lb cap T W shs (k+1))):=fun W hW=>sO 0 (by decide) (by decide) W hW ho hok hs hz hk;unfold eT at HE1;unfold mX at HIS HE2;simp only[Tok.cells] at HTK;have hst:∀(w:H5)(c:Array Value),c.size=7→(storeCells ⟨w.heap.size,0,none⟩ [.string ⟨#[]⟩,.slice none 0 0,.bool false,.string ⟨#[]⟩,.slice none 0 0,.int .i64 t.ln,.int .i64 t.cl] 0).run prog (w.alloc (.cells c 233))= .ok () (w.alloc (.cells #[.string ⟨#[]⟩,.slice none 0 0,.bool false,.string ⟨#[]⟩,.slice none 0 0,.int .i64 t.ln,.int .i64 t.cl] 233)):=fun w c hc=>
  run_storeCells_new (P:=prog) w 233 c #[.string ⟨#[]⟩,.slice none 0 0,.bool false,.string ⟨#[]⟩,.slice none 0 0,.int .i64 t.ln,.int .i64 t.cl] (by show _=some 7;kernel_rfl) hc (by simp[Value.oneCell'])
 have HST:=zH hst;have hrN:r<N:=by rw[←hN];exact h.rlt
 have HLB:Ia (lb<N):=by unfold Ia;rw[←hN];exact h.lt
 have HW1:=zH hW1;have HB1:=zH hb1;have HS1:=zH hs1;have HR1:=zH hr1;have H1:=zH h1;have HN:=zH hN;clear h ht hy hx hxk hu huk hv hvk ho hok hs hz hk hW1 hb1 hs1 hr1 h1 hst;have hfd:=fun W=>Dw t.kind t.text t.n t.ln t.cl W;go_enter func174,ntmps174
 go_upto_region 2 with(go_at_call 170;rw[HW1.out];refine HTK.out.mono ?_;rintro e w2 ⟨rfl,hb2⟩;have hst2:=HST.out w2;have HB2:=zH hb2;clear hb2)
 clear hst2 hfd;obtain⟨B,hB⟩:=zE w2.heap.size;obtain⟨W3,hW3⟩:=zE (w2.alloc (.cells #[.string ⟨#[]⟩,.slice none 0 0,.bool false,.string ⟨#[]⟩,.slice none 0 0,.int .i64 t.ln,.int .i64 t.cl] 233));rw[hB,hW3];have hb3:=zD hW3 HB2;have hBN:N+1≤B:=by rw[←hB,←HS1.out];exact HB2.out.size
 have hrB:W3.heap[B]?=some (.cells #[.string ⟨#[]⟩,.slice none 0 0,.bool false,.string ⟨#[]⟩,.slice none 0 0,.int .i64 t.ln,.int .i64 t.cl] 233 (0,0)):=by rw[←hW3,←hB];exact alloc_at _ _
 have hrN3:=(hb3.block N (by have:=HS1.out;omega)).trans HR1.out;have hm3:bK r lb cap T i w W3:=⟨H1.out.grow hb3,(Ext.of_below_size (M:=(·=r)) (show H9 w.heap.size w W1 by rw[hN];exact HB1.out)).trans (Ext.of_below_size (M:=(·=r)) hb3) (fun k hk=> .inl hk)⟩
 have HM3:=zH hm3;have HRB:=zH hrB;have HRN3:=zH hrN3;clear hB hW3 hb3 hrB hrN3 hm3
 go_upto_region 3 with(go_at_call 209;refine(HTY.out W3 HM3.out.1).mono ?_;rintro e w4 ⟨rfl,hm4⟩;have HM4:=zH hm4;have hr4:=hm4.2.heap HRB.out (by omega);have HRB4:=zH hr4;obtain⟨⟨a0,a1,a2,a3,a4,a5,a6⟩,⟨b0,b1,b2,b3,b4,b5,b6⟩,hB4⟩:=ed hr4;clear hm4 hr4)
 obtain⟨W5,hW5⟩:=zE ((w4.setCell ⟨B,2,none⟩ (.bool y.1)).setCell ⟨B,3,none⟩ (.string y.2));rw[hW5];have hx5:Ext (·=B) w4 W5:=by rw[←hW5];exact aa (aa (Ext.refl _ _) _) _
 have hrB5:W5.heap[B]?=some (.cells #[.string ⟨#[]⟩,.slice none 0 0,.bool y.1,.string y.2,.slice none 0 0,.int .i64 t.ln,.int .i64 t.cl] 233 (0,0)):=by
  rw[←hW5];have h1:_=some (Obj.cells #[.string ⟨#[]⟩,.slice none 0 0,.bool y.1,.string ⟨#[]⟩,.slice none 0 0,.int .i64 t.ln,.int .i64 t.cl] 233 (0,0)):=Hz w4 B 2 _ _ (.bool y.1) HRB4.out;exact Hz _ B 3 _ _ (.string y.2) h1
 have hrN5:=hx5.heap (HM4.out.2.heap HRN3.out (by omega)) (show¬N=B by omega);have hm35:=HM3.out.trans HM4.out;have hm5:bK r lb cap T j w W5:=⟨hm35.1.ext hx5 (by omega) (by have:=HLB.out;omega),hm35.2.trans hx5 (fun k hk=> .inr (by omega))⟩
 have HM5:=zH hm5;have HRB5:=zH hrB5;have HRN5:=zH hrN5;clear hW5 hx5 hrB5 hrN5 hm35 hm5 a0 a1 a2 a3 a4 a5 a6 b0 b1 b2 b3 b4 b5 b6 hB4
 go_upto_region 4 with(go_at_call 208;refine(HNM.out W5 HM5.out.1).mono ?_;rintro e w6 ⟨rfl,hm6⟩;have HM6:=zH hm6;have hr6:=hm6.2.heap HRB5.out (by omega);have HRB6:=zH hr6;obtain⟨⟨a0,a1,a2,a3,a4,a5,a6⟩,⟨b0,b1,b2,b3,b4,b5,b6⟩,hB4⟩:=ed hr6;clear hm6 hr6)
 obtain⟨W7,hW7⟩:=zE (w6.setCell ⟨B,0,none⟩ (.string x.text));rw[hW7];have hx7:Ext (·=B) w6 W7:=by rw[←hW7];exact aa (Ext.refl _ _) _
 have hrB7:W7.heap[B]?=some (.cells #[.string x.text,.slice none 0 0,.bool y.1,.string y.2,.slice none 0 0,.int .i64 t.ln,.int .i64 t.cl] 233 (0,0)):=by rw[←hW7];exact Hz _ B 0 _ _ _ HRB6.out
 have hrN7:=hx7.heap (HM6.out.2.heap HRN5.out (by omega)) (show¬N=B by omega);have hm57:=HM5.out.trans HM6.out;have hm7:bK r lb cap T (j+1) w W7:=⟨hm57.1.ext hx7 (by omega) (by have:=HLB.out;omega),hm57.2.trans hx7 (fun k hk=> .inr (by omega))⟩
 have HM7:=zH hm7;have HRB7:=zH hrB7;have HRN7:=zH hrN7;clear hW7 hx7 hrB7 hrN7 hm57 hm7 a0 a1 a2 a3 a4 a5 a6 b0 b1 b2 b3 b4 b5 b6 hB4
 go_upto_region 5 with(go_at_call 207;refine(HE1.out W7 HM7.out.1).mono ?_;rintro e w8 ⟨rfl,hm8⟩;have HM8:=zH hm8;clear hm8)
 go_loopw [4] (fun _ wr=>wr=w8) (fun _ _=>0)
 case atStart=>rfl
 case round=>
  obtain rfl:=hrel
  go_upto_region 11 with(go_at_call 172;refine(HIS.out _ HM8.out.1).mono ?_;rintro e w9 ⟨rfl,hb9⟩;have HB9:=zH hb9;clear hb9)
  have HM9:=zH (HM8.out.grow HB9.out)
  go_upto_region 12 with(go_at_call 207;refine(HE2.out _ HM9.out.1).mono ?_;rintro e w10 ⟨rfl,hm10⟩;have HM10:=zH (HM9.out.trans hm10);clear hm10)
  have hw10:w.heap.size≤w10.heap.size:=Nat.le_trans HM7.out.2.size HM10.out.2.size
  go_upto_region 13 with(go_at_call 210;refine(HBL.out _ HM10.out.1).mono ?_;rintro e w11 ⟨v,ss,rfl,hsh,hown,hin,hm11⟩;obtain⟨ao,c,hv⟩:=aD hown;subst hv;have HSH:=zH hsh;have HOW:=zH (aT hown hw10);have HIN:Ia (∀s∈ss,s.inn w.heap.size w11):=(fun s hs=>(hin s hs).mono hw10);have HM11:=zH (HM10.out.trans hm11);have hr11:=(HM10.out.trans hm11).2.heap HRB7.out (by omega);have HLO:Ia (∀q,Value.ownBlock (.slice ao ss.length c)=some q→B<q):=(fun q hq=>by have h1:=(ai hown hq).1;have h2:=ae (HM10.out.2.heap HRB7.out (by omega));omega);have HRB11:=zH hr11;obtain⟨⟨a0,a1,a2,a3,a4,a5,a6⟩,⟨b0,b1,b2,b3,b4,b5,b6⟩,hB4⟩:=ed hr11;clear hsh hown hin hm11 hr11)
  have hrN11:=HM11.out.2.heap HRN7.out (show¬N=r by omega);have HRN11:=zH hrN11;obtain⟨⟨p0,p1,p2,p3,p4,p5,p6⟩,⟨q0,q1,q2,q3,q4,q5,q6⟩,hN5⟩:=ed hrN11;clear hrN11;go_wp2;(try simp only[Exit.inBlock,Exit.then]);have hrN12:(w11.setCell ⟨B,4,none⟩ (.slice ao ss.length c)).heap[N]?=_:=(Below.heap_setCell _ _ _ N (by show N≠B;omega)).trans HRN11.out;refine bodyPost_ret (results_cell_row (P:=prog) rfl _ _ N 233 _ (0,0) _ rfl (fO hrN12) underlying233 rfl (by kernel_rfl)) rfl ?_;have hxB:Ext (·=B) w11 (w11.setCell ⟨B,4,none⟩ (.slice ao ss.length c)):=Ext.set1 w11 B 4 _;have hxN:=bV (w11.setCell ⟨B,4,none⟩ (.slice ao ss.length c)) N (.string x.text) (.slice none 0 0) (.bool y.1) (.string y.2) (.slice ao ss.length c) (.int .i64 t.ln) (.int .i64 t.cl);have hM:=(HM7.out.trans HM11.out)
  refine⟨ao,c,ss,t.ln,t.cl,rfl,HSH.out, ?_,fun s hs=> ?_,(hM.1.ext hxB (by omega) (by have:=HLB.out;omega)).ext hxN (by omega) (by have:=HLB.out;omega),(hM.2.trans hxB (fun k hk=> .inr (by omega))).trans hxN (fun k hk=> .inr (by omega))⟩
  ·exact ah (ah HOW.out hxB (fun q hq e=>by have:=HLO.out q hq;omega)) hxN (fun q hq e=>by have:=HLO.out q hq;omega)
  ·exact((HIN.out s hs).other HRB11.out (by decide) hxB).other hrN12 (by decide) hxN
def wu (w:H5)(lb:Nat)(T:List Tok):Prop:=∀(k:Nat)(t:Tok),T[k]?=some t→∀(j:Nat)(u:Value),t.cells.toList[j]?=some u→w.cell? ⟨lb,k*5+j,none⟩=some u
def Ap (T:List Tok):Prop:=∀(k:Nat)(t:Tok),T[k]?=some t→(t.kind=5↔k+1=T.length)
theorem sP (lb cap:Nat)(T:List Tok)(w:H5)(hT:T.length≤1000000)(h0:0<T.length)(hin:wu w lb T)(he:Ap T):
  zS 169 #[.slice (some ⟨lb,0,none⟩) T.length cap] w (.bool true):=by
 have HIN:=zH hin;have HE:=zH he;clear hin he;go_enter func169,ntmps169;go_wp2
 go_loop [3] (fun k=>∃j:Nat,j≤T.length∧k= .int .i64 (j:Int)) (fun k=>T.length-(intOf k).toNat)
 case atStart=>exact⟨0,Hg _,rfl⟩
 case round=>
  obtain⟨j,hj,rfl⟩:=hrel
  by_cases hjl:j<T.length
  ·have hjI:(j:Int)<(T.length:Int):=by omega
   obtain⟨t,ht⟩:∃t,T[j]?=some t:=⟨_,GN hjl⟩
   have k0:=HIN.out j t ht 0 _ rfl;rw[Nat.add_zero] at k0;have hiff:=HE.out j t ht
   by_cases h5:t.kind=5
   ·have hje:j+1=T.length:=hiff.1 h5
    rw[h5] at k0;have d1:((j:Int)==(T.length:Int)-1)=true:=by rw[beq_iff_eq];omega
    clear ht hiff h5 hje;go_wp2
    go_round
    case rel=>exact⟨j+1,hjl,by go_num⟩
    case measure=>simp[intOf];omega
   ·have hje:j+1≠T.length:=fun h=>h5 (hiff.2 h)
    have d5:(t.kind==5)=false:=by rw[beq_eq_false_iff_ne];exact h5
    have d1:((j:Int)==(T.length:Int)-1)=false:=by rw[beq_eq_false_iff_ne];omega
    clear ht hiff h5 hje;go_wp2
    go_round
    case rel=>exact⟨j+1,hjl,by go_num⟩
    case measure=>simp[intOf];omega
  ·have hjI:¬(j:Int)<(T.length:Int):=by omega
   have h0I:(0:Int)<(T.length:Int):=by omega
   have h0d:decide ((0:Int)<(T.length:Int))=true:=by rw[decide_eq_true_eq];omega
   go_wp2;go_ret;exact⟨rfl,rfl⟩
end Go.Proofs.YtjomgckjhcfbgaaGreat
