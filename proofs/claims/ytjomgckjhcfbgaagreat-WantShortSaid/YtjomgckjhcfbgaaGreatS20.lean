/- Walks. -/
import Derived.Test.YtjomgckjhcfbgaaGreatS11
import Derived.Test.YtjomgckjhcfbgaaGreatS19
set_option maxRecDepth 100000
set_option maxHeartbeats 64000000
set_option linter.all false
namespace Go.Proofs.YtjomgckjhcfbgaaGreat
open Go.RowKit
open _root_.List renaming getElem?_eq_getElem→GN,getElem?_eq_some_iff→GQ,length_append→GU,length_singleton→G5,take_length→Ha,mem_singleton→Hq,append_assoc→Hr,length_take→Ht
open _root_.Nat renaming lt_of_lt_of_le→Hd,le_refl→He,zero_add→Hf,zero_le→Hg
open _root_.Option renaming some.inj→Hl
open Go.RowKit.Below renaming refl→Hw
open Go renaming heap_setCell_same→Hz,World→H5
open Go.RowKit renaming Below→H9,Hid→Ia
open Tryz
section
variable {T Bb MB:Nat}{lv:Option Addr×Nat}{P:List (Int×Int)}{N:Int}{F:Int×Int→Int}{C C2:List (List Int)}{Y Y2:List (Int×Int)}{at_ at2:Int×Int}{B:Nat}{tg:Nat→Nat}{s:nU}{w0:H5}{TT RB hi:Nat}{c:dQ}{b:Nat→Nat→Nat}
theorem xH (w:H5)(h:As T Bb MB lv P N F C Y at_ B tg s w0 TT RB c b hi w)(hN:0≤N∧N≤9000000)(hF:∀x,0≤F x∧F x≤9000000)(f:Int)(hf:bG f)(a1 a2:Option Addr)(n1 n2 c1 c2:Nat)(i:Ins)(ga:Option Addr)(gc:Nat)(hia:i.argsV= .slice ga i.args.length gc)(hmo:∃ao n cap,i.modeV= .slice ao n cap)(hdv:bG i.d)(hav:bG i.a)(hbv:bG i.b)(k:Nat)(hk:k<c.ins.length)(hnl:c.ins.length≤90000)(hnv:c.nvars≤90000)(hl:C.length+130≤1000000)(hly:Y.length+130≤1000000)(hop:i.op=9)(hvar:isVar c.nvars i.a=true)(hok:∀x∈aA F f (aW b k) i,x.all (bH N)=true):
  Calls prog 58 #[.agg #[.pointer (some ⟨T,0,none⟩),.int .i64 f,.slice a1 n1 c1,.slice a2 n2 c2,.pointer (some ⟨TT,0,none⟩)],.agg i.cells,.int .i64 (k:Int)] w fun e w'=>e= .returned (.tuple #[])∧aV T Bb MB lv P N F (C++aA F f (aW b k) i) (Y++(aA F f (aW b k) i).map fun _=>at_) at_ B tg w w':=by
 obtain⟨mo,mn,mc,hmode⟩:=hmo;obtain⟨op,d,a,bb,ff,nn,sign,argsV,modeV,tgt,els,ln,cl,args⟩:=i;simp only at hia hmode hdv hav hbv hop hvar hok⊢;subst hop;subst hia hmode;simp only[Ins.cells];obtain⟨D,W1,hD,HW1,HB1,HS0,HCE,HO⟩:=iK h f hf a1 a2 n1 n2 c1 c2 9 d a bb ff nn sign ga args.length gc mo mn mc tgt els ln cl;clear h;obtain⟨xd,xa,xb,hbd,hba,hbb,hxd,hxa,hxb,w1,w2,w3,w4,w5,w6,w7⟩:=nZ hF (f,d) (f,a) (f,bb);have HXD:=zH hxd;have HXA:=zH hxa;have HXB:=zH hxb;obtain⟨bv,hbv0⟩:=zE (aW b k a);have HRE:Ia (aA F f (aW b k) (⟨9,d,a,bb,ff,nn,sign,.slice ga args.length gc,.slice mo mn mc,tgt,els,ln,cl,args⟩:Ins)=[[-xd,xa]]++(if a≠d∧bv=true then[[-xd]] else[])++[[-(xd+1),xa,xa+1]]):=by unfold Ia aA;simp only[if_neg (by decide:¬((9:Int)=12)),if_neg (by decide:¬((9:Int)=13)),if_true,hbv0,hxd,hxa,hxb]
 have HK1:Ia (([-xd,xa]:List Int).all (bH N)=true):=hok _ (by rw[HRE.out];simp);have HK3:Ia (([-(xd+1),xa,xa+1]:List Int).all (bH N)=true):=hok _ (by rw[HRE.out];simp);have HK2:Ia (a≠d→bv=true→[-xd].all (bH N)=true):=fun h1 h2=>hok _ (by rw[HRE.out,if_pos ⟨h1,h2⟩];simp);have HBE:Ia (∀C2 Y2 w2,aL T Bb MB lv P N F at_ B tg w0 TT RB c b hi D #[.pointer (some ⟨T,0,none⟩),.int .i64 f,.slice a1 n1 c1,.slice a2 n2 c2,.pointer (some ⟨TT,0,none⟩)] #[.int .i64 9,.int .i64 d,.int .i64 a,.int .i64 bb,.int .i64 ff,.int .i64 nn,.string sign,.slice ga args.length gc,.slice mo mn mc,.int .i64 tgt,.int .i64 els,.int .i64 ln,.int .i64 cl] W1 C2 Y2 w2→zS 108 #[.pointer (some ⟨TT,0,none⟩),.int .i64 (k:Int),.int .i64 a] w2 (.bool bv)):=fun C2 Y2 w2 h2=>by
  obtain⟨tg',s',h1,_⟩:=h2;rw[←hbv0];unfold aW;have hvv:=bO.1 hvar;have:=mK w2 TT RB c b k a.toNat h1.as_.tz.tab hk (by omega) hnl hnv;rw[show((a.toNat:Nat):Int)=a by omega] at this;exact this
 have HBV:=zH hbv0;clear hbv0;clear hxd hxa hxb;go_enter func58,ntmps58
 go_upto_region 1 with(fail)
 rw[HW1.out];obtain⟨⟨x0,x1,x2,x3,x4⟩,⟨z0,z1,z2,z3,z4,z5,z6,z7,z8,z9,z10,z11,z12⟩,y2⟩:=(HCE.out _ _ _ HS0.out).1
 go_region
 clear x0 x1 x2 x3 x4 z0 z1 z2 z3 z4 z5 z6 z7 z8 z9 z10 z11 z12 y2;have HM0:=zH (HS0.out.grow (Hw _ _).drew);obtain⟨⟨x0,x1,x2,x3,x4⟩,⟨z0,z1,z2,z3,z4,z5,z6,z7,z8,z9,z10,z11,z12⟩,y2⟩:=(HCE.out _ _ _ HM0.out).1;have HO1:=zH (HO.out _ _ _ (d) hdv HM0.out);rw[show F (f,d)=xd from HXD.out] at HO1
 go_upto_region 3 with(go_at_call 107;refine HO1.out.mono ?_;rintro e wo1 ⟨rfl,hbo⟩;have HM1:=zH (HM0.out.grow hbo);clear hbo)
 clear x0 x1 x2 x3 x4 z0 z1 z2 z3 z4 z5 z6 z7 z8 z9 z10 z11 z12 y2;obtain⟨⟨x0,x1,x2,x3,x4⟩,⟨z0,z1,z2,z3,z4,z5,z6,z7,z8,z9,z10,z11,z12⟩,y2⟩:=(HCE.out _ _ _ HM1.out).1;have HO2:=zH (HO.out _ _ _ (a) hav HM1.out);rw[show F (f,a)=xa from HXA.out] at HO2;have HPUTS:Ia (∀wx,H9 wo1.heap.size wo1 wx→Calls prog 56 #[.pointer (some ⟨T,0,none⟩),.slice (some ⟨wx.heap.size,0,none⟩) 2 2] (wx.alloc (.cells #[.int .i64 (-xd),.int .i64 (xa)] 3)) _):=fun wx hx=>aL.put2 (HM1.out.grow hx) hN (-xd) (xa) HK1.out (by(try simp only[GU,G5]);omega) (by(try simp only[GU,G5]);omega)
 go_upto_region 10 with(first|(go_at_call 107;refine HO2.out.mono ?_;rintro e wo2 ⟨rfl,hbo⟩;have HP1:=zH (HPUTS.out _ hbo);clear hbo)|(go_at_call 56;(try simp only[w1,w2,w3,w4,w5,w6,w7]);refine HP1.out.mono ?_;rintro e wz2 ⟨rfl,hmz⟩;have HM2:=zH hmz;clear hmz HP1))
 clear x0 x1 x2 x3 x4 z0 z1 z2 z3 z4 z5 z6 z7 z8 z9 z10 z11 z12 y2 HPUTS
 by_cases had:a=d
 ·have t1:(a==d)=true:=by rw[had];exact beq_self_eq_true _
  have t2:(a != d)=false:=by rw[bne,t1];rfl
  have HRF:Ia (aA F f (aW b k) (⟨9,d,a,bb,ff,nn,sign,.slice ga args.length gc,.slice mo mn mc,tgt,els,ln,cl,args⟩:Ins)=[[-xd,xa],[-(xd+1),xa,xa+1]]):=by unfold Ia;rw[HRE.out,if_neg (fun h:a≠d∧bv=true=>h.1 had)];simp
  clear had;obtain⟨⟨x0,x1,x2,x3,x4⟩,⟨z0,z1,z2,z3,z4,z5,z6,z7,z8,z9,z10,z11,z12⟩,y2⟩:=(HCE.out _ _ _ HM2.out).1
  go_upto_region 12 with(fail)
  clear x0 x1 x2 x3 x4 z0 z1 z2 z3 z4 z5 z6 z7 z8 z9 z10 z11 z12 y2;obtain⟨⟨x0,x1,x2,x3,x4⟩,⟨z0,z1,z2,z3,z4,z5,z6,z7,z8,z9,z10,z11,z12⟩,y2⟩:=(HCE.out _ _ _ HM2.out).1;obtain⟨G11,hG11⟩:=zE wz2.heap.size;obtain⟨V11,hV11⟩:=zE (wz2.alloc (.cells #[.int .i64 (-(xd+1))] 3));have hPUT:=aL.change1 HM2.out hN hF f a hf hav a1 a2 n1 n2 c1 c2 (-(xd+1)) (by rw[HXA.out];exact HK3.out) (by(try simp only[GU,G5]);omega) (by(try simp only[GU,G5]);omega);rw[hG11,hV11,show F (f,a)=xa from HXA.out] at hPUT;have HPUT:=zH hPUT;have HV:=zH hV11;have HGZ:=zH hG11;clear hPUT hV11 hG11
  go_wp2_with (go_at_call 106;(try rw[HGZ.out]);(try simp only[w1,w2,w3,w4,w5,w6,w7]);(try rw[HV.out]);refine HPUT.out.mono ?_;rintro e wz11 ⟨rfl,hmz⟩;have HM11:=zH hmz;clear hmz)
  clear x0 x1 x2 x3 x4 z0 z1 z2 z3 z4 z5 z6 z7 z8 z9 z10 z11 z12 y2 HPUT HV HGZ
  go_end0
  refine⟨rfl, ?_⟩;have:=HM11.out.wn;rw[HRF.out];refine aV.below HB1.out ?_;simpa using this
 ·have t1:(a==d)=false:=beq_false_of_ne had
  have t2:(a != d)=true:=by rw[bne,t1];rfl
  cases bv with
  |false=>
   have HRF:Ia (aA F f (aW b k) (⟨9,d,a,bb,ff,nn,sign,.slice ga args.length gc,.slice mo mn mc,tgt,els,ln,cl,args⟩:Ins)=[[-xd,xa],[-(xd+1),xa,xa+1]]):=by unfold Ia;rw[HRE.out,if_neg (fun h:a≠d∧false=true=>absurd h.2 (by simp))];simp
   clear had;obtain⟨⟨x0,x1,x2,x3,x4⟩,⟨z0,z1,z2,z3,z4,z5,z6,z7,z8,z9,z10,z11,z12⟩,y2⟩:=(HCE.out _ _ _ HM2.out).1;have HB2:=zH (HBE.out _ _ _ HM2.out)
   go_upto_region 12 with(go_at_call 108;refine HB2.out.mono ?_;rintro e wz2 ⟨rfl,rfl⟩)
   clear x0 x1 x2 x3 x4 z0 z1 z2 z3 z4 z5 z6 z7 z8 z9 z10 z11 z12 y2;obtain⟨⟨x0,x1,x2,x3,x4⟩,⟨z0,z1,z2,z3,z4,z5,z6,z7,z8,z9,z10,z11,z12⟩,y2⟩:=(HCE.out _ _ _ HM2.out).1;obtain⟨G11,hG11⟩:=zE wz2.heap.size;obtain⟨V11,hV11⟩:=zE (wz2.alloc (.cells #[.int .i64 (-(xd+1))] 3));have hPUT:=aL.change1 HM2.out hN hF f a hf hav a1 a2 n1 n2 c1 c2 (-(xd+1)) (by rw[HXA.out];exact HK3.out) (by(try simp only[GU,G5]);omega) (by(try simp only[GU,G5]);omega);rw[hG11,hV11,show F (f,a)=xa from HXA.out] at hPUT;have HPUT:=zH hPUT;have HV:=zH hV11;have HGZ:=zH hG11;clear hPUT hV11 hG11
   go_wp2_with (go_at_call 106;(try rw[HGZ.out]);(try simp only[w1,w2,w3,w4,w5,w6,w7]);(try rw[HV.out]);refine HPUT.out.mono ?_;rintro e wz11 ⟨rfl,hmz⟩;have HM11:=zH hmz;clear hmz)
   clear x0 x1 x2 x3 x4 z0 z1 z2 z3 z4 z5 z6 z7 z8 z9 z10 z11 z12 y2 HPUT HV HGZ
   go_end0
   refine⟨rfl, ?_⟩;have:=HM11.out.wn;rw[HRF.out];refine aV.below HB1.out ?_;simpa using this
  |true=>
   have HRF:Ia (aA F f (aW b k) (⟨9,d,a,bb,ff,nn,sign,.slice ga args.length gc,.slice mo mn mc,tgt,els,ln,cl,args⟩:Ins)=[[-xd,xa],[-xd],[-(xd+1),xa,xa+1]]):=by unfold Ia;rw[HRE.out,if_pos ⟨had,rfl⟩];simp
   have HK2T:Ia ([-xd].all (bH N)=true):=HK2.out had rfl;clear had;obtain⟨⟨x0,x1,x2,x3,x4⟩,⟨z0,z1,z2,z3,z4,z5,z6,z7,z8,z9,z10,z11,z12⟩,y2⟩:=(HCE.out _ _ _ HM2.out).1;have HB2:=zH (HBE.out _ _ _ HM2.out)
   go_upto_region 11 with(go_at_call 108;refine HB2.out.mono ?_;rintro e wz2 ⟨rfl,rfl⟩)
   clear x0 x1 x2 x3 x4 z0 z1 z2 z3 z4 z5 z6 z7 z8 z9 z10 z11 z12 y2;obtain⟨⟨x0,x1,x2,x3,x4⟩,⟨z0,z1,z2,z3,z4,z5,z6,z7,z8,z9,z10,z11,z12⟩,y2⟩:=(HCE.out _ _ _ HM2.out).1;obtain⟨G11,hG11⟩:=zE wz2.heap.size;obtain⟨V11,hV11⟩:=zE (wz2.alloc (.cells #[.int .i64 (-xd)] 3));have hPUT:=aL.put1 HM2.out hN (-xd) HK2T.out (by(try simp only[GU,G5]);omega) (by(try simp only[GU,G5]);omega);rw[hG11,hV11] at hPUT;have HPUT:=zH hPUT;have HV:=zH hV11;have HGZ:=zH hG11;clear hPUT hV11 hG11
   go_upto_region 12 with(go_at_call 56;(try rw[HGZ.out]);(try simp only[w1,w2,w3,w4,w5,w6,w7]);(try rw[HV.out]);refine HPUT.out.mono ?_;rintro e wz11 ⟨rfl,hmz⟩;have HM11:=zH hmz;clear hmz)
   clear x0 x1 x2 x3 x4 z0 z1 z2 z3 z4 z5 z6 z7 z8 z9 z10 z11 z12 y2 HPUT HV HGZ;obtain⟨⟨x0,x1,x2,x3,x4⟩,⟨z0,z1,z2,z3,z4,z5,z6,z7,z8,z9,z10,z11,z12⟩,y2⟩:=(HCE.out _ _ _ HM11.out).1;obtain⟨G12,hG12⟩:=zE wz11.heap.size;obtain⟨V12,hV12⟩:=zE (wz11.alloc (.cells #[.int .i64 (-(xd+1))] 3));have hPUT:=aL.change1 HM11.out hN hF f a hf hav a1 a2 n1 n2 c1 c2 (-(xd+1)) (by rw[HXA.out];exact HK3.out) (by(try simp only[GU,G5]);omega) (by(try simp only[GU,G5]);omega);rw[hG12,hV12,show F (f,a)=xa from HXA.out] at hPUT;have HPUT:=zH hPUT;have HV:=zH hV12;have HGZ:=zH hG12;clear hPUT hV12 hG12
   go_wp2_with (go_at_call 106;(try rw[HGZ.out]);(try simp only[w1,w2,w3,w4,w5,w6,w7]);(try rw[HV.out]);refine HPUT.out.mono ?_;rintro e wz12 ⟨rfl,hmz⟩;have HM12:=zH hmz;clear hmz)
   clear x0 x1 x2 x3 x4 z0 z1 z2 z3 z4 z5 z6 z7 z8 z9 z10 z11 z12 y2 HPUT HV HGZ
   go_end0
   refine⟨rfl, ?_⟩;have:=HM12.out.wn;rw[HRF.out];refine aV.below HB1.out ?_;simpa using this
theorem uj (w:H5)(h:As T Bb MB lv P N F C Y at_ B tg s w0 TT RB c b hi w)(hN:0≤N∧N≤9000000)(hF:∀x,0≤F x∧F x≤9000000)(f:Int)(hf:bG f)(a1 a2:Option Addr)(n1 n2 c1 c2:Nat)(i:Ins)(ga:Option Addr)(gc:Nat)(hia:i.argsV= .slice ga i.args.length gc)(hmo:∃ao n cap,i.modeV= .slice ao n cap)(hdv:bG i.d)(hav:bG i.a)(hbv:bG i.b)(k:Nat)(hk:k<c.ins.length)(hnl:c.ins.length≤90000)(hnv:c.nvars≤90000)(hl:C.length+130≤1000000)(hly:Y.length+130≤1000000)(hop:i.op=11)(hvar:isVar c.nvars i.b=true)(hok:∀x∈aA F f (aW b k) i,x.all (bH N)=true):
  Calls prog 58 #[.agg #[.pointer (some ⟨T,0,none⟩),.int .i64 f,.slice a1 n1 c1,.slice a2 n2 c2,.pointer (some ⟨TT,0,none⟩)],.agg i.cells,.int .i64 (k:Int)] w fun e w'=>e= .returned (.tuple #[])∧aV T Bb MB lv P N F (C++aA F f (aW b k) i) (Y++(aA F f (aW b k) i).map fun _=>at_) at_ B tg w w':=by
 obtain⟨mo,mn,mc,hmode⟩:=hmo;obtain⟨op,d,a,bb,ff,nn,sign,argsV,modeV,tgt,els,ln,cl,args⟩:=i;simp only at hia hmode hdv hav hbv hop hvar hok⊢;subst hop;subst hia hmode;simp only[Ins.cells];obtain⟨D,W1,hD,HW1,HB1,HS0,HCE,HO⟩:=iK h f hf a1 a2 n1 n2 c1 c2 11 d a bb ff nn sign ga args.length gc mo mn mc tgt els ln cl;clear h;obtain⟨xd,xa,xb,hbd,hba,hbb,hxd,hxa,hxb,w1,w2,w3,w4,w5,w6,w7⟩:=nZ hF (f,d) (f,a) (f,bb);have HXD:=zH hxd;have HXA:=zH hxa;have HXB:=zH hxb;obtain⟨bv,hbv0⟩:=zE (aW b k bb);have HRE:Ia (aA F f (aW b k) (⟨11,d,a,bb,ff,nn,sign,.slice ga args.length gc,.slice mo mn mc,tgt,els,ln,cl,args⟩:Ins)=[[xb],[xa,xa+1]]++(if bv=true then[[-xb]] else[])):=by unfold Ia aA;simp only[if_neg (by decide:¬((11:Int)=12)),if_neg (by decide:¬((11:Int)=13)),if_neg (by decide:¬((11:Int)=9)),if_neg (by decide:¬((11:Int)=10)),if_neg (by decide:¬((11:Int)=8)),if_true,hbv0,hxd,hxa,hxb]
 have HK1:Ia (([xb]:List Int).all (bH N)=true):=hok _ (by rw[HRE.out];simp);have HK3:Ia (([xa,xa+1]:List Int).all (bH N)=true):=hok _ (by rw[HRE.out];simp);have HK2:Ia (bv=true→[-xb].all (bH N)=true):=fun h2=>hok _ (by rw[HRE.out,if_pos h2];simp);have HBE:Ia (∀C2 Y2 w2,aL T Bb MB lv P N F at_ B tg w0 TT RB c b hi D #[.pointer (some ⟨T,0,none⟩),.int .i64 f,.slice a1 n1 c1,.slice a2 n2 c2,.pointer (some ⟨TT,0,none⟩)] #[.int .i64 11,.int .i64 d,.int .i64 a,.int .i64 bb,.int .i64 ff,.int .i64 nn,.string sign,.slice ga args.length gc,.slice mo mn mc,.int .i64 tgt,.int .i64 els,.int .i64 ln,.int .i64 cl] W1 C2 Y2 w2→zS 108 #[.pointer (some ⟨TT,0,none⟩),.int .i64 (k:Int),.int .i64 bb] w2 (.bool bv)):=fun C2 Y2 w2 h2=>by
  obtain⟨tg',s',h1,_⟩:=h2;rw[←hbv0];unfold aW;have hvv:=bO.1 hvar;have:=mK w2 TT RB c b k bb.toNat h1.as_.tz.tab hk (by omega) hnl hnv;rw[show((bb.toNat:Nat):Int)=bb by omega] at this;exact this
 have HBV:=zH hbv0;clear hbv0;clear hxd hxa hxb;go_enter func58,ntmps58
 go_upto_region 1 with(fail)
 rw[HW1.out];obtain⟨⟨x0,x1,x2,x3,x4⟩,⟨z0,z1,z2,z3,z4,z5,z6,z7,z8,z9,z10,z11,z12⟩,y2⟩:=(HCE.out _ _ _ HS0.out).1
 go_region
 clear x0 x1 x2 x3 x4 z0 z1 z2 z3 z4 z5 z6 z7 z8 z9 z10 z11 z12 y2;have HM0:=zH (HS0.out.grow (Hw _ _).drew);obtain⟨⟨x0,x1,x2,x3,x4⟩,⟨z0,z1,z2,z3,z4,z5,z6,z7,z8,z9,z10,z11,z12⟩,y2⟩:=(HCE.out _ _ _ HM0.out).1;have HO1:=zH (HO.out _ _ _ (d) hdv HM0.out);rw[show F (f,d)=xd from HXD.out] at HO1
 go_upto_region 3 with(go_at_call 107;refine HO1.out.mono ?_;rintro e wo1 ⟨rfl,hbo⟩;have HM1:=zH (HM0.out.grow hbo);clear hbo)
 clear x0 x1 x2 x3 x4 z0 z1 z2 z3 z4 z5 z6 z7 z8 z9 z10 z11 z12 y2;obtain⟨⟨x0,x1,x2,x3,x4⟩,⟨z0,z1,z2,z3,z4,z5,z6,z7,z8,z9,z10,z11,z12⟩,y2⟩:=(HCE.out _ _ _ HM1.out).1;have HO2:=zH (HO.out _ _ _ (bb) hbv HM1.out);rw[show F (f,bb)=xb from HXB.out] at HO2;have HPUTS:Ia (∀wx,H9 wo1.heap.size wo1 wx→Calls prog 56 #[.pointer (some ⟨T,0,none⟩),.slice (some ⟨wx.heap.size,0,none⟩) 1 1] (wx.alloc (.cells #[.int .i64 (xb)] 3)) _):=fun wx hx=>aL.put1 (HM1.out.grow hx) hN (xb) HK1.out (by(try simp only[GU,G5]);omega) (by(try simp only[GU,G5]);omega)
 go_upto_region 20 with(first|(go_at_call 107;refine HO2.out.mono ?_;rintro e wo2 ⟨rfl,hbo⟩;have HP1:=zH (HPUTS.out _ hbo);clear hbo)|(go_at_call 56;(try simp only[w1,w2,w3,w4,w5,w6,w7]);refine HP1.out.mono ?_;rintro e wz2 ⟨rfl,hmz⟩;have HM2:=zH hmz;clear hmz HP1))
 clear x0 x1 x2 x3 x4 z0 z1 z2 z3 z4 z5 z6 z7 z8 z9 z10 z11 z12 y2 HPUTS;obtain⟨⟨x0,x1,x2,x3,x4⟩,⟨z0,z1,z2,z3,z4,z5,z6,z7,z8,z9,z10,z11,z12⟩,y2⟩:=(HCE.out _ _ _ HM2.out).1;have hPUT:=aL.change0 HM2.out hN hF f a hf hav a1 a2 n1 n2 c1 c2 (by rw[HXA.out];exact HK3.out) (by(try simp only[GU,G5]);omega) (by(try simp only[GU,G5]);omega);rw[show F (f,a)=xa from HXA.out] at hPUT;have HPUT:=zH hPUT;clear hPUT
 go_upto_region 21 with(go_at_call 106;refine HPUT.out.mono ?_;rintro e wz3 ⟨rfl,hmz⟩;have HM3:=zH hmz;clear hmz)
 clear x0 x1 x2 x3 x4 z0 z1 z2 z3 z4 z5 z6 z7 z8 z9 z10 z11 z12 y2 HPUT;cases bv with
 |false=>
  have HRF:Ia (aA F f (aW b k) (⟨11,d,a,bb,ff,nn,sign,.slice ga args.length gc,.slice mo mn mc,tgt,els,ln,cl,args⟩:Ins)=[[xb],[xa,xa+1]]):=by unfold Ia;rw[HRE.out,if_neg (by simp)];simp
  obtain⟨⟨x0,x1,x2,x3,x4⟩,⟨z0,z1,z2,z3,z4,z5,z6,z7,z8,z9,z10,z11,z12⟩,y2⟩:=(HCE.out _ _ _ HM3.out).1;have HB2:=zH (HBE.out _ _ _ HM3.out)
  go_wp2_with (go_at_call 108;refine HB2.out.mono ?_;rintro e wz3 ⟨rfl,rfl⟩)
  go_end0
  refine⟨rfl, ?_⟩;have:=HM3.out.wn;rw[HRF.out];refine aV.below HB1.out ?_;simpa using this
 |true=>
  have HRF:Ia (aA F f (aW b k) (⟨11,d,a,bb,ff,nn,sign,.slice ga args.length gc,.slice mo mn mc,tgt,els,ln,cl,args⟩:Ins)=[[xb],[xa,xa+1],[-xb]]):=by unfold Ia;rw[HRE.out,if_pos rfl];simp
  have HK2T:Ia ([-xb].all (bH N)=true):=HK2.out (by first|rfl|trivial);obtain⟨⟨x0,x1,x2,x3,x4⟩,⟨z0,z1,z2,z3,z4,z5,z6,z7,z8,z9,z10,z11,z12⟩,y2⟩:=(HCE.out _ _ _ HM3.out).1;have HB2:=zH (HBE.out _ _ _ HM3.out)
  go_upto_region 22 with(go_at_call 108;refine HB2.out.mono ?_;rintro e wz3 ⟨rfl,rfl⟩)
  clear x0 x1 x2 x3 x4 z0 z1 z2 z3 z4 z5 z6 z7 z8 z9 z10 z11 z12 y2;obtain⟨⟨x0,x1,x2,x3,x4⟩,⟨z0,z1,z2,z3,z4,z5,z6,z7,z8,z9,z10,z11,z12⟩,y2⟩:=(HCE.out _ _ _ HM3.out).1;have HO11:=zH (HO.out _ _ _ (bb) hbv HM3.out);rw[show F (f,bb)=xb from HXB.out] at HO11;have HPUTS:Ia (∀wx,H9 wz3.heap.size wz3 wx→Calls prog 56 #[.pointer (some ⟨T,0,none⟩),.slice (some ⟨wx.heap.size,0,none⟩) 1 1] (wx.alloc (.cells #[.int .i64 (-xb)] 3)) _):=fun wx hx=>aL.put1 (HM3.out.grow hx) hN (-xb) HK2T.out (by(try simp only[GU,G5]);omega) (by(try simp only[GU,G5]);omega)
  go_wp2_with (first|(go_at_call 107;refine HO11.out.mono ?_;rintro e wo11 ⟨rfl,hbo⟩;have HP1:=zH (HPUTS.out _ hbo);clear hbo)|(go_at_call 56;(try simp only[w1,w2,w3,w4,w5,w6,w7]);refine HP1.out.mono ?_;rintro e wz11 ⟨rfl,hmz⟩;have HM11:=zH hmz;clear hmz HP1))
  clear x0 x1 x2 x3 x4 z0 z1 z2 z3 z4 z5 z6 z7 z8 z9 z10 z11 z12 y2 HPUTS
  go_end0
  refine⟨rfl, ?_⟩;have:=HM11.out.wn;rw[HRF.out];refine aV.below HB1.out ?_;simpa using this
theorem uk (w:H5)(h:As T Bb MB lv P N F C Y at_ B tg s w0 TT RB c b hi w)(hN:0≤N∧N≤9000000)(hF:∀x,0≤F x∧F x≤9000000)(f:Int)(hf:bG f)(a1 a2:Option Addr)(n1 n2 c1 c2:Nat)(i:Ins)(ga:Option Addr)(gc:Nat)(hia:i.argsV= .slice ga i.args.length gc)(hmo:∃ao n cap,i.modeV= .slice ao n cap)(hdv:bG i.d)(hav:bG i.a)(hbv:bG i.b)(k:Nat)(hk:k<c.ins.length)(hnl:c.ins.length≤90000)(hnv:c.nvars≤90000)(hl:C.length+130≤1000000)(hly:Y.length+130≤1000000)(hop:i.op=15)(hga:ak w0 ga i.args)(hal:i.args.length≤40)(hff:bG i.f)(hvar:∀v∈i.args,isVar c.nvars v=true)(hok:∀x∈aA F f (aW b k) i,x.all (bH N)=true):
  Calls prog 58 #[.agg #[.pointer (some ⟨T,0,none⟩),.int .i64 f,.slice a1 n1 c1,.slice a2 n2 c2,.pointer (some ⟨TT,0,none⟩)],.agg i.cells,.int .i64 (k:Int)] w fun e w'=>e= .returned (.tuple #[])∧aV T Bb MB lv P N F (C++aA F f (aW b k) i) (Y++(aA F f (aW b k) i).map fun _=>at_) at_ B tg w w':=by
 obtain⟨mo,mn,mc,hmode⟩:=hmo;obtain⟨op,d,a,bb,ff,nn,sign,argsV,modeV,tgt,els,ln,cl,args⟩:=i;simp only at hia hmode hdv hav hbv hop hga hal hff hvar hok⊢;subst hop;subst hia hmode;simp only[Ins.cells];obtain⟨D,W1,hD,HW1,HB1,HS0,HCE,HO⟩:=iK h f hf a1 a2 n1 n2 c1 c2 15 d a bb ff nn sign ga args.length gc mo mn mc tgt els ln cl;clear h;have HRE:Ia (aA F f (aW b k) (⟨15,d,a,bb,ff,nn,sign,.slice ga args.length gc,.slice mo mn mc,tgt,els,ln,cl,args⟩:Ins)=jR F f (aW b k) (⟨15,d,a,bb,ff,nn,sign,.slice ga args.length gc,.slice mo mn mc,tgt,els,ln,cl,args⟩:Ins)):=by unfold Ia aA;simp only[if_neg (by decide:¬((15:Int)=12)),if_neg (by decide:¬((15:Int)=13)),if_neg (by decide:¬((15:Int)=9)),if_neg (by decide:¬((15:Int)=10)),if_neg (by decide:¬((15:Int)=8)),if_neg (by decide:¬((15:Int)=11)),if_true]
 have HF:Ia (∀wq,aL T Bb MB lv P N F at_ B tg w0 TT RB c b hi D #[.pointer (some ⟨T,0,none⟩),.int .i64 f,.slice a1 n1 c1,.slice a2 n2 c2,.pointer (some ⟨TT,0,none⟩)] #[.int .i64 15,.int .i64 d,.int .i64 a,.int .i64 bb,.int .i64 ff,.int .i64 nn,.string sign,.slice ga args.length gc,.slice mo mn mc,.int .i64 tgt,.int .i64 els,.int .i64 ln,.int .i64 cl] W1 C Y wq→Calls prog 109 #[.agg #[.pointer (some ⟨T,0,none⟩),.int .i64 f,.slice a1 n1 c1,.slice a2 n2 c2,.pointer (some ⟨TT,0,none⟩)],.agg #[.int .i64 15,.int .i64 d,.int .i64 a,.int .i64 bb,.int .i64 ff,.int .i64 nn,.string sign,.slice ga args.length gc,.slice mo mn mc,.int .i64 tgt,.int .i64 els,.int .i64 ln,.int .i64 cl],.int .i64 (k:Int)] wq fun e w'=>e= .returned (.tuple #[])∧aL T Bb MB lv P N F at_ B tg w0 TT RB c b hi D #[.pointer (some ⟨T,0,none⟩),.int .i64 f,.slice a1 n1 c1,.slice a2 n2 c2,.pointer (some ⟨TT,0,none⟩)] #[.int .i64 15,.int .i64 d,.int .i64 a,.int .i64 bb,.int .i64 ff,.int .i64 nn,.string sign,.slice ga args.length gc,.slice mo mn mc,.int .i64 tgt,.int .i64 els,.int .i64 ln,.int .i64 cl] W1 (C++(jR F f (aW b k) (⟨15,d,a,bb,ff,nn,sign,.slice ga args.length gc,.slice mo mn mc,tgt,els,ln,cl,args⟩:Ins))) (Y++(jR F f (aW b k) (⟨15,d,a,bb,ff,nn,sign,.slice ga args.length gc,.slice mo mn mc,tgt,els,ln,cl,args⟩:Ins)).map fun _=>at_) w'):=fun wq hm=>by
  obtain⟨tg',s',hg,l1,l2,l3⟩:=hm;have:=zC wq hg.as_ hN hF f hf a1 a2 n1 n2 c1 c2 (⟨15,d,a,bb,ff,nn,sign,.slice ga args.length gc,.slice mo mn mc,tgt,els,ln,cl,args⟩:Ins) ga gc rfl ⟨mo,mn,mc,rfl⟩ hga hal hff hdv k hk hvar hnl hnv hl hly (by have:=hok;unfold aA at this;simp only[if_neg (by decide:¬((15:Int)=12)),if_neg (by decide:¬((15:Int)=13)),if_neg (by decide:¬((15:Int)=9)),if_neg (by decide:¬((15:Int)=10)),if_neg (by decide:¬((15:Int)=8)),if_neg (by decide:¬((15:Int)=11)),if_true] at this;exact this);simp only[Ins.cells] at this;refine this.mono ?_;rintro e w2 ⟨rfl,hm2⟩;exact⟨rfl,aL.of hg l1 l2 l3 hm2⟩
 obtain⟨xd,xa,xb,hbd,hba,hbb,hxd,hxa,hxb,w1,w2,w3,w4,w5,w6,w7⟩:=nZ hF (f,d) (f,a) (f,bb);have HXD:=zH hxd;have HXA:=zH hxa;have HXB:=zH hxb;clear hxd hxa hxb;go_enter func58,ntmps58
 go_upto_region 1 with(fail)
 rw[HW1.out];obtain⟨⟨x0,x1,x2,x3,x4⟩,⟨z0,z1,z2,z3,z4,z5,z6,z7,z8,z9,z10,z11,z12⟩,y2⟩:=(HCE.out _ _ _ HS0.out).1
 go_region
 clear x0 x1 x2 x3 x4 z0 z1 z2 z3 z4 z5 z6 z7 z8 z9 z10 z11 z12 y2;have HM0:=zH (HS0.out.grow (Hw _ _).drew);obtain⟨⟨x0,x1,x2,x3,x4⟩,⟨z0,z1,z2,z3,z4,z5,z6,z7,z8,z9,z10,z11,z12⟩,y2⟩:=(HCE.out _ _ _ HM0.out).1;have HO1:=zH (HO.out _ _ _ (d) hdv HM0.out);rw[show F (f,d)=xd from HXD.out] at HO1
 go_upto_region 3 with(go_at_call 107;refine HO1.out.mono ?_;rintro e wo1 ⟨rfl,hbo⟩;have HM1:=zH (HM0.out.grow hbo);clear hbo)
 clear x0 x1 x2 x3 x4 z0 z1 z2 z3 z4 z5 z6 z7 z8 z9 z10 z11 z12 y2;obtain⟨⟨x0,x1,x2,x3,x4⟩,⟨z0,z1,z2,z3,z4,z5,z6,z7,z8,z9,z10,z11,z12⟩,y2⟩:=(HCE.out _ _ _ HM1.out).1;have HCC:=zH (HF.out _ HM1.out)
 go_wp2_with (go_at_call 109;refine HCC.out.mono ?_;rintro e wz ⟨rfl,hmz⟩;have HMZ:=zH hmz;clear hmz)
 go_end0
 refine⟨rfl, ?_⟩;have:=HMZ.out.wn;rw[HRE.out];refine aV.below HB1.out ?_;simpa using this
theorem ul (w:H5)(h:As T Bb MB lv P N F C Y at_ B tg s w0 TT RB c b hi w)(hN:0≤N∧N≤9000000)(hF:∀x,0≤F x∧F x≤9000000)(f:Int)(hf:bG f)(a1 a2:Option Addr)(n1 n2 c1 c2:Nat)(i:Ins)(ga:Option Addr)(gc:Nat)(hia:i.argsV= .slice ga i.args.length gc)(hmo:∃ao n cap,i.modeV= .slice ao n cap)(hdv:bG i.d)(hav:bG i.a)(hbv:bG i.b)(k:Nat)(hk:k<c.ins.length)(hnl:c.ins.length≤90000)(hnv:c.nvars≤90000)(hl:C.length+130≤1000000)(hly:Y.length+130≤1000000)(hop:i.op=18)(hok:∀x∈aA F f (aW b k) i,x.all (bH N)=true):
  Calls prog 58 #[.agg #[.pointer (some ⟨T,0,none⟩),.int .i64 f,.slice a1 n1 c1,.slice a2 n2 c2,.pointer (some ⟨TT,0,none⟩)],.agg i.cells,.int .i64 (k:Int)] w fun e w'=>e= .returned (.tuple #[])∧aV T Bb MB lv P N F (C++aA F f (aW b k) i) (Y++(aA F f (aW b k) i).map fun _=>at_) at_ B tg w w':=by
 obtain⟨mo,mn,mc,hmode⟩:=hmo;obtain⟨op,d,a,bb,ff,nn,sign,argsV,modeV,tgt,els,ln,cl,args⟩:=i;simp only at hia hmode hdv hav hbv hop hok⊢;subst hop;subst hia hmode;simp only[Ins.cells];obtain⟨D,W1,hD,HW1,HB1,HS0,HCE,HO⟩:=iK h f hf a1 a2 n1 n2 c1 c2 18 d a bb ff nn sign ga args.length gc mo mn mc tgt els ln cl;clear h;have HRE:Ia (aA F f (aW b k) (⟨18,d,a,bb,ff,nn,sign,.slice ga args.length gc,.slice mo mn mc,tgt,els,ln,cl,args⟩:Ins)=qc (fun v=>F (f,v)) a):=by unfold Ia aA;simp only[if_neg (by decide:¬((18:Int)=12)),if_neg (by decide:¬((18:Int)=13)),if_neg (by decide:¬((18:Int)=9)),if_neg (by decide:¬((18:Int)=10)),if_neg (by decide:¬((18:Int)=8)),if_neg (by decide:¬((18:Int)=11)),if_neg (by decide:¬((18:Int)=15)),if_true]
 have HF:Ia (∀wq,aL T Bb MB lv P N F at_ B tg w0 TT RB c b hi D #[.pointer (some ⟨T,0,none⟩),.int .i64 f,.slice a1 n1 c1,.slice a2 n2 c2,.pointer (some ⟨TT,0,none⟩)] #[.int .i64 18,.int .i64 d,.int .i64 a,.int .i64 bb,.int .i64 ff,.int .i64 nn,.string sign,.slice ga args.length gc,.slice mo mn mc,.int .i64 tgt,.int .i64 els,.int .i64 ln,.int .i64 cl] W1 C Y wq→Calls prog 110 #[.agg #[.pointer (some ⟨T,0,none⟩),.int .i64 f,.slice a1 n1 c1,.slice a2 n2 c2,.pointer (some ⟨TT,0,none⟩)],.agg #[.int .i64 18,.int .i64 d,.int .i64 a,.int .i64 bb,.int .i64 ff,.int .i64 nn,.string sign,.slice ga args.length gc,.slice mo mn mc,.int .i64 tgt,.int .i64 els,.int .i64 ln,.int .i64 cl]] wq fun e w'=>e= .returned (.tuple #[])∧aL T Bb MB lv P N F at_ B tg w0 TT RB c b hi D #[.pointer (some ⟨T,0,none⟩),.int .i64 f,.slice a1 n1 c1,.slice a2 n2 c2,.pointer (some ⟨TT,0,none⟩)] #[.int .i64 18,.int .i64 d,.int .i64 a,.int .i64 bb,.int .i64 ff,.int .i64 nn,.string sign,.slice ga args.length gc,.slice mo mn mc,.int .i64 tgt,.int .i64 els,.int .i64 ln,.int .i64 cl] W1 (C++(qc (fun v=>F (f,v)) a)) (Y++(qc (fun v=>F (f,v)) a).map fun _=>at_) w'):=fun wq hm=>by
  obtain⟨tg',s',hg,l1,l2,l3⟩:=hm;have:=C8 wq hg.as_ hN hF f hf a1 a2 n1 n2 c1 c2 (⟨18,d,a,bb,ff,nn,sign,.slice ga args.length gc,.slice mo mn mc,tgt,els,ln,cl,args⟩:Ins) ga gc rfl ⟨mo,mn,mc,rfl⟩ hav (by omega) (by omega) (by have:=hok;unfold aA at this;simp only[if_neg (by decide:¬((18:Int)=12)),if_neg (by decide:¬((18:Int)=13)),if_neg (by decide:¬((18:Int)=9)),if_neg (by decide:¬((18:Int)=10)),if_neg (by decide:¬((18:Int)=8)),if_neg (by decide:¬((18:Int)=11)),if_neg (by decide:¬((18:Int)=15)),if_true] at this;exact this);simp only[Ins.cells] at this;refine this.mono ?_;rintro e w2 ⟨rfl,hm2⟩;exact⟨rfl,aL.of hg l1 l2 l3 hm2⟩
 obtain⟨xd,xa,xb,hbd,hba,hbb,hxd,hxa,hxb,w1,w2,w3,w4,w5,w6,w7⟩:=nZ hF (f,d) (f,a) (f,bb);have HXD:=zH hxd;have HXA:=zH hxa;have HXB:=zH hxb;clear hxd hxa hxb;go_enter func58,ntmps58
 go_upto_region 1 with(fail)
 rw[HW1.out];obtain⟨⟨x0,x1,x2,x3,x4⟩,⟨z0,z1,z2,z3,z4,z5,z6,z7,z8,z9,z10,z11,z12⟩,y2⟩:=(HCE.out _ _ _ HS0.out).1
 go_region
 clear x0 x1 x2 x3 x4 z0 z1 z2 z3 z4 z5 z6 z7 z8 z9 z10 z11 z12 y2;have HM0:=zH (HS0.out.grow (Hw _ _).drew);obtain⟨⟨x0,x1,x2,x3,x4⟩,⟨z0,z1,z2,z3,z4,z5,z6,z7,z8,z9,z10,z11,z12⟩,y2⟩:=(HCE.out _ _ _ HM0.out).1;have HO1:=zH (HO.out _ _ _ (d) hdv HM0.out);rw[show F (f,d)=xd from HXD.out] at HO1
 go_upto_region 3 with(go_at_call 107;refine HO1.out.mono ?_;rintro e wo1 ⟨rfl,hbo⟩;have HM1:=zH (HM0.out.grow hbo);clear hbo)
 clear x0 x1 x2 x3 x4 z0 z1 z2 z3 z4 z5 z6 z7 z8 z9 z10 z11 z12 y2;obtain⟨⟨x0,x1,x2,x3,x4⟩,⟨z0,z1,z2,z3,z4,z5,z6,z7,z8,z9,z10,z11,z12⟩,y2⟩:=(HCE.out _ _ _ HM1.out).1;have HCC:=zH (HF.out _ HM1.out)
 go_wp2_with (go_at_call 110;refine HCC.out.mono ?_;rintro e wz ⟨rfl,hmz⟩;have HMZ:=zH hmz;clear hmz)
 go_end0
 refine⟨rfl, ?_⟩;have:=HMZ.out.wn;rw[HRE.out];refine aV.below HB1.out ?_;simpa using this
theorem xI (w:H5)(h:As T Bb MB lv P N F C Y at_ B tg s w0 TT RB c b hi w)(hN:0≤N∧N≤9000000)(hF:∀x,0≤F x∧F x≤9000000)(f:Int)(hf:bG f)(a1 a2:Option Addr)(n1 n2 c1 c2:Nat)(i:Ins)(ga:Option Addr)(gc:Nat)(hia:i.argsV= .slice ga i.args.length gc)(hmo:∃ao n cap,i.modeV= .slice ao n cap)(hdv:bG i.d)(hav:bG i.a)(hbv:bG i.b)(k:Nat)(hk:k<c.ins.length)(hnl:c.ins.length≤90000)(hnv:c.nvars≤90000)(hl:C.length+130≤1000000)(hly:Y.length+130≤1000000)(hop:i.op≠12∧i.op≠13∧i.op≠9∧i.op≠10∧i.op≠8∧i.op≠11∧i.op≠15∧i.op≠18):
  Calls prog 58 #[.agg #[.pointer (some ⟨T,0,none⟩),.int .i64 f,.slice a1 n1 c1,.slice a2 n2 c2,.pointer (some ⟨TT,0,none⟩)],.agg i.cells,.int .i64 (k:Int)] w fun e w'=>e= .returned (.tuple #[])∧aV T Bb MB lv P N F (C++aA F f (aW b k) i) (Y++(aA F f (aW b k) i).map fun _=>at_) at_ B tg w w':=by
 obtain⟨mo,mn,mc,hmode⟩:=hmo;obtain⟨op,d,a,bb,ff,nn,sign,argsV,modeV,tgt,els,ln,cl,args⟩:=i;simp only at hia hmode hdv hav hbv hop⊢;subst hia hmode;simp only[Ins.cells];obtain⟨D,W1,hD,HW1,HB1,HS0,HCE,HO⟩:=iK h f hf a1 a2 n1 n2 c1 c2 op d a bb ff nn sign ga args.length gc mo mn mc tgt els ln cl;clear h;obtain⟨e12,e13,e9,e10,e8,e11,e15,e18⟩:=hop;have HRE:Ia (aA F f (aW b k) (⟨op,d,a,bb,ff,nn,sign,.slice ga args.length gc,.slice mo mn mc,tgt,els,ln,cl,args⟩:Ins)=[]):=by unfold Ia aA;simp only[e12,e13,e9,e10,e8,e11,e15,e18,if_false]
 have b12:(op==12)=false:=beq_false_of_ne e12;have b13:(op==13)=false:=beq_false_of_ne e13;have b9:(op==9)=false:=beq_false_of_ne e9;have b10:(op==10)=false:=beq_false_of_ne e10;have b8:(op==8)=false:=beq_false_of_ne e8;have b11:(op==11)=false:=beq_false_of_ne e11;have b15:(op==15)=false:=beq_false_of_ne e15;have b18:(op==18)=false:=beq_false_of_ne e18;clear e12 e13 e9 e10 e8 e11 e15 e18;obtain⟨xd,xa,xb,hbd,hba,hbb,hxd,hxa,hxb,w1,w2,w3,w4,w5,w6,w7⟩:=nZ hF (f,d) (f,a) (f,bb);have HXD:=zH hxd;have HXA:=zH hxa;have HXB:=zH hxb;clear hxd hxa hxb;go_enter func58,ntmps58
 go_upto_region 1 with(fail)
 rw[HW1.out];obtain⟨⟨x0,x1,x2,x3,x4⟩,⟨z0,z1,z2,z3,z4,z5,z6,z7,z8,z9,z10,z11,z12⟩,y2⟩:=(HCE.out _ _ _ HS0.out).1
 go_region
 clear x0 x1 x2 x3 x4 z0 z1 z2 z3 z4 z5 z6 z7 z8 z9 z10 z11 z12 y2;have HM0:=zH (HS0.out.grow (Hw _ _).drew);obtain⟨⟨x0,x1,x2,x3,x4⟩,⟨z0,z1,z2,z3,z4,z5,z6,z7,z8,z9,z10,z11,z12⟩,y2⟩:=(HCE.out _ _ _ HM0.out).1;have HO1:=zH (HO.out _ _ _ (d) hdv HM0.out);rw[show F (f,d)=xd from HXD.out] at HO1
 go_upto_region 3 with(go_at_call 107;refine HO1.out.mono ?_;rintro e wo1 ⟨rfl,hbo⟩;have HM1:=zH (HM0.out.grow hbo);clear hbo)
 clear x0 x1 x2 x3 x4 z0 z1 z2 z3 z4 z5 z6 z7 z8 z9 z10 z11 z12 y2;obtain⟨⟨x0,x1,x2,x3,x4⟩,⟨z0,z1,z2,z3,z4,z5,z6,z7,z8,z9,z10,z11,z12⟩,y2⟩:=(HCE.out _ _ _ HM1.out).1;go_wp2
 go_end0
 refine⟨rfl, ?_⟩;have:=HM1.out.wn;rw[HRE.out];refine aV.below HB1.out ?_;simpa using this
end
noncomputable def F4 (ins:List Ins)(k:Nat)(v:Int):Bool:=@decide (eD ins v.toNat k) (Classical.propDecidable _)
noncomputable def fM (m:Mo)(f k:Nat)(v:Int):Bool:=match m.fs[f]? with
 |some g=>F4 g.c.ins k v
 |none=>false
theorem Eo {ins:List Ins}{k:Nat}{v:Int}:F4 ins k v=true↔eD ins v.toNat k:=by
 unfold F4;exact @decide_eq_true_iff _ (Classical.propDecidable _)
theorem pK {P:List (Int×Int)}{o:Int→Int}{b1 b2:Int→Bool}{i:Ins}:∀(l:List Int)(n:Nat),(∀a∈l,b1 a=b2 a)→mh P o b1 i n l=mh P o b2 i n l
 |[],_,_=>rfl
 |a::r,n,h=>by
  unfold mh;rw[pK r (n+1) (fun x hx=>h x (by simp[hx]))];have:eG b1 i.d i.args n a=eG b2 i.d i.args n a:=by unfold eG;rw[h a (by simp)]
  rw[this]
theorem xJ {P:List (Int×Int)}{f:Int}{b1 b2:Int→Bool}{i:Ins}(h9:i.op=9→b1 i.a=b2 i.a)(h11:i.op=11→b1 i.b=b2 i.b)(h15:i.op=15→∀a∈i.args,b1 a=b2 a):gB P f b1 i=gB P f b2 i:=by
 unfold gB
 by_cases e9:i.op=9
 ·rw[h9 e9]
  simp[e9]
 by_cases e11:i.op=11
 ·rw[h11 e11]
  simp[e11]
 by_cases e15:i.op=15
 ·simp only[pK i.args 0 (h15 e15)]
  simp[e15]
 simp[e9,e11,e15]
theorem rP {P:List (Int×Int)}{f:Int}{beh:Nat→Int→Bool}{i:Ins}:∀(l:List Ins)(k:Nat),eP P f beh k (l++[i])=eP P f beh k l++(gB P f (beh (k+l.length)) i).map (fun c=>(c,(f,((k+l.length:Nat):Int))))
 |[],k=>by simp[eP]
 |x::r,k=>by
  rw[List.cons_append];unfold eP;rw[rP r (k+1),Hr,List.length_cons,show k+1+r.length=k+(r.length+1) by omega]
theorem rQ {f:Int}{p:Int×Int}:∀(l:List (Int×Int))(k:Nat),dH f k (l++[p])=dH f k l++(if p.1=f then[([-(2*((k+l.length:Nat):Int)+1),-(2*((k+l.length:Nat):Int)+2)],(f,(-1:Int)))] else[])
 |[],k=>by simp[dH]
 |x::r,k=>by
  rw[List.cons_append];unfold dH;rw[rQ r (k+1),Hr,List.length_cons,show k+1+r.length=k+(r.length+1) by omega]
theorem rR {P:List (Int×Int)}{beh:Nat→Nat→Int→Bool}{g:Fn}:∀(l:List Fn)(f:Nat),iq P beh f (l++[g])=iq P beh f l++(dH ((f+l.length:Nat):Int) 0 P++eP P ((f+l.length:Nat):Int) (beh (f+l.length)) 0 g.c.ins)
 |[],f=>by simp[iq]
 |x::r,f=>by
  rw[List.cons_append];unfold iq;rw[rR r (f+1),Hr (dH (↑f) 0 P++eP P (↑f) (beh f) 0 x.c.ins),List.length_cons,show f+1+r.length=f+(r.length+1) by omega]
theorem Bt {P:List (Int×Int)}{f:Int}{beh:Int→Bool}{i:Ins}(ha:i.args.length≤40):(gB P f beh i).length≤124:=by
 have h15:=oM (F:=aM 0 P) (o:=fun v=>aM 0 P (f,v)) (beh:=beh) (i:=i) i.args 0;rw[oL] at h15;unfold gB;simp only
 repeat' split
 all_goals (simp only[GU,List.length_cons,List.length_nil];omega)
theorem oN {P:List (Int×Int)}{f:Int}{beh:Nat→Int→Bool}:∀(l:List Ins)(k:Nat),(∀i∈l,i.args.length≤40)→(eP P f beh k l).length≤124*l.length
 |[],_,_=>by simp[eP]
 |x::r,k,h=>by
  unfold eP;rw[GU,List.length_map,List.length_cons];have h1:=Bt (P:=P) (f:=f) (beh:=beh k) (h x (by simp));have h2:=oN (P:=P) (f:=f) (beh:=beh) r (k+1) (fun i hi=>h i (by simp[hi]));omega
theorem lH {f:Int}:∀(l:List (Int×Int))(k:Nat),(dH f k l).length≤l.length
 |[],_=>by simp[dH]
 |x::r,k=>by
  unfold dH;rw[GU,List.length_cons];have:=lH (f:=f) r (k+1)
  by_cases h:x.1=f
  ·rw[if_pos h];simp;omega
  ·rw[if_neg h];simp;omega
def bJ (l:List Fn):Nat:=(l.map fun g=>g.c.ins.length).sum
theorem vG {P:List (Int×Int)}{beh:Nat→Nat→Int→Bool}:∀(l:List Fn)(f:Nat),(∀g∈l,∀i∈g.c.ins,i.args.length≤40)→(iq P beh f l).length≤P.length*l.length+124*bJ l
 |[],_,_=>by simp[iq]
 |x::r,f,h=>by
  unfold iq;have h1:=lH (f:=(f:Int)) P 0;have h2:=oN (P:=P) (f:=(f:Int)) (beh:=beh f) x.c.ins 0 (h x (by simp));have h3:=vG (P:=P) (beh:=beh) r (f+1) (fun g hg=>h g (by simp[hg]));have h4:bJ (x::r)=x.c.ins.length+bJ r:=by simp[bJ]
  rw[GU,GU,List.length_cons,h4,Nat.mul_succ];omega
theorem oO {l1 l2:List (Int×Int)}(h1:l1.Nodup)(h2:l2.Nodup)(h:∀x∈l1,x∉l2):(l1++l2).Nodup:=List.nodup_append.2 ⟨h1,h2,fun a ha b hb e=>h a ha (by rw[e];exact hb)⟩
theorem pM {f:Int}:∀(l:List Vr)(v:Nat),(bE f v l).Nodup
 |[],_=>by simp[bE]
 |x::r,v=>by
  unfold bE;refine oO (by by_cases h:x.ptr=true<;>simp[h]) (pM r (v+1)) (fun y hy hm=> ?_);obtain⟨k,z,_,_,e⟩:=gJ.1 hm
  by_cases h:x.ptr=true
  ·rw[if_pos h,Hq] at hy
   rw[hy] at e;have:=(Prod.mk.inj e).2;omega
  ·rw[if_neg h] at hy;exact absurd hy (by simp)
theorem xK {f:Int}{g:Fn}:(cO f g).Nodup:=by
 unfold cO;refine oO (pM _ _) (by by_cases h:g.c.rp=true<;>simp[h]) (fun y hy hm=> ?_);obtain⟨k,z,_,_,e⟩:=gJ.1 hy
 by_cases h:g.c.rp=true
 ·rw[if_pos h,Hq] at hm
  rw[hm] at e;have:=(Prod.mk.inj e).2;omega
 ·rw[if_neg h] at hm;exact absurd hm (by simp)
theorem mM {f:Int}{g:Fn}{x:Int×Int}(h:x∈cO f g):x.1=f:=by
 unfold cO at h;rcases List.mem_append.1 h with h|h
 ·obtain⟨k,z,_,_,e⟩:=gJ.1 h;rw[e]
 ·by_cases hr:g.c.rp=true
  ·rw[if_pos hr,Hq] at h;rw[h]
  ·rw[if_neg hr] at h;exact absurd h (by simp)
theorem pO:∀(l:List Fn)(f:Nat),(bU f l).Nodup
 |[],_=>by simp[bU]
 |g::r,f=>by
  unfold bU;refine oO xK (pO r (f+1)) (fun y hy hm=> ?_);obtain⟨k,z,_,e⟩:=iN.1 hm;have h1:=mM hy;have h2:=mM e;omega
theorem Mo.ptrs_nodup (m:Mo):m.ptrs.Nodup:=pO _ _
section
variable {T Bb MB:Nat}{lv:Option Addr×Nat}{P:List (Int×Int)}{N:Int}{F F2:Int×Int→Int}{C:List (List Int)}{Y:List (Int×Int)}{at_:Int×Int}{B:Nat}{tg:Nat→Nat}{s:nU}{w WF:H5}
theorem Fj {f v N2:Int}{a9:Option Addr}{c9:Nat}(h:Wn T Bb MB lv P N F C Y at_ B tg s w)(hall:Ext (fun q=>q=T∨q=Bb∨q=MB∨(Value.slice lv.1 P.length lv.2).ownBlock=some q) w WF)
  (hT:WF.heap[T]?=some (.cells (Ez Bb MB (a9,c9) s (P.length+1) Y.length at_) 123 (0,0)))(hB:WF.heap[Bb]?=some (.cells #[.int .i64 N2,.slice s.fA C.length s.fC] 191 (0,0)))(hM:lM WF MB (P.length+1) F2)
  (hown9:WF.ownsRow B 121 2 (.slice a9 (P.length+1) c9) (P.length+1) (P.flatMap su++[.int .i64 f,.int .i64 v]))(hat9:∀k,(Value.slice a9 (P.length+1) c9).ownBlock=some k→(Value.slice lv.1 P.length lv.2).ownBlock=some k∨w.heap.size≤k)(hl:P.length+1≤30000):
  aV T Bb MB (a9,c9) (P++[(f,v)]) N2 F2 C Y at_ B tg w WF:=by
 have ht4:=h.t4;have hne:∀k,tg k≠1→tg k≠2→tg k≠3→tg k≠4→¬(k=T∨k=Bb∨k=MB∨(Value.slice lv.1 P.length lv.2).ownBlock=some k):=fun k h1 h2 h3 h4 h5=>by
  rcases h5 with rfl|rfl|rfl|h5
  ·exact h1 h.t1
  ·exact h2 h.t2
  ·exact h3 h.t3
  ·exact h4 (ht4 k h5)
 have hlow:∀k,tg k≠0→k<w.heap.size:=fun k hk=>(h.lo k hk).2;have hln:(P++[(f,v)]).length=P.length+1:=by simp
 have hnew:∀k,(Value.slice a9 (P.length+1) c9).ownBlock=some k→tg k≠0→tg k=4:=fun k hk h0=>by
  rcases hat9 k hk with h1|h1
  ·exact ht4 k h1
  ·have:=hlow k h0;omega
 refine⟨fun k=>if (Value.slice a9 (P.length+1) c9).ownBlock=some k then 4 else tg k,s,⟨?_,hB, ?_, ?_, ?_, ?_,⟨h.cls.1, ?_⟩, ?_, ?_, ?_, ?_, ?_, ?_, ?_,by rw[hln];exact hl,h.lC,h.lY⟩, ?_, ?_, ?_⟩
 ·rw[hln];exact hT
 ·rw[hln];exact hM
 ·rw[hln,List.flatMap_append];exact hown9
 ·exact ah h.frow hall (fun k hk=>hne k (by rw[h.t5 k hk];decide) (by rw[h.t5 k hk];decide) (by rw[h.t5 k hk];decide) (by rw[h.t5 k hk];decide))
 ·exact ah h.yrow hall (fun k hk=>hne k (by rw[h.t6 k hk];decide) (by rw[h.t6 k hk];decide) (by rw[h.t6 k hk];decide) (by rw[h.t6 k hk];decide))
 ·intro k c hc
  obtain⟨ao',cp',h1,h2,h3⟩:=h.cls.2 k c hc;refine⟨ao',cp',h1,dU h2 hall (fun a hn e=>hne _ (by rw[h3 hn a e];decide) (by rw[h3 hn a e];decide) (by rw[h3 hn a e];decide) (by rw[h3 hn a e];decide)),fun hn a e=> ?_⟩;rw[if_neg (fun ho=> ?_)]
  ·exact h3 hn a e
  ·obtain⟨b,off,e1,e2,_⟩:=h2 hn
   rw[e] at e1;obtain rfl:=Hl e1;rcases hat9 _ ho with h4|h4
   ·have:=ht4 _ h4;have:=h3 hn _ e;omega
   ·simp only at e2 h4;omega
 ·show(if _ then 4 else tg T)=1
  rw[if_neg (fun ho=>by have:=hnew T ho (by rw[h.t1];decide);have:=h.t1;omega)];exact h.t1
 ·show(if _ then 4 else tg Bb)=2
  rw[if_neg (fun ho=>by have:=hnew Bb ho (by rw[h.t2];decide);have:=h.t2;omega)];exact h.t2
 ·show(if _ then 4 else tg MB)=3
  rw[if_neg (fun ho=>by have:=hnew MB ho (by rw[h.t3];decide);have:=h.t3;omega)];exact h.t3
 ·intro k hk
  rw[hln] at hk
  show(if _ then 4 else tg k)=4
  rw[if_pos hk]
 ·intro k hk
  have h4:=h.t5 k hk
  show(if _ then 4 else tg k)=5
  rw[if_neg (fun ho=>by have:=hnew k ho (by omega);omega)];exact h4
 ·intro k hk
  have h4:=h.t6 k hk
  show(if _ then 4 else tg k)=6
  rw[if_neg (fun ho=>by have:=hnew k ho (by omega);omega)];exact h4
 ·intro k hk
  by_cases ho:(Value.slice a9 (P.length+1) c9).ownBlock=some k
  ·exact ai hown9 ho
  ·simp only[if_neg ho] at hk
   exact⟨(h.lo k hk).1,Hd (hlow k hk) hall.size⟩
 ·refine hall.mono (fun q hq=> ?_)
  rcases hq with rfl|rfl|rfl|hq
  ·rw[h.t1];decide
  ·rw[h.t2];decide
  ·rw[h.t3];decide
  ·rw[ht4 q hq];decide
 ·intro k hk
  by_cases ho:(Value.slice a9 (P.length+1) c9).ownBlock=some k
  ·rcases hat9 k ho with h4|h4
   ·exact .inl (by rw[ht4 _ h4];decide)
   ·exact .inr h4
  ·simp only[if_neg ho] at hk
   exact .inl hk
 ·intro k hk
  by_cases ho:(Value.slice a9 (P.length+1) c9).ownBlock=some k
  ·simp only[if_pos ho];exact(hnew k ho hk).symm
  ·simp only[if_neg ho]
theorem zF (w:H5)(h:Wn T Bb MB lv P N F C Y at_ B tg s w)(hN:0≤N∧N≤8000000)(f v:Int)(hf:bG f)(hv:bG v)(hl:P.length+1≤30000):
  Calls prog 100 #[.pointer (some ⟨T,0,none⟩),.int .i64 f,.int .i64 v] w fun e w'=>e= .returned (.tuple #[])∧∃lv',aV T Bb MB lv' (P++[(f,v)]) (N+2) (fun x=>if x=(f,v) then N+1 else F x) C Y at_ B tg w w':=by
 obtain⟨D,hD⟩:=zE w.heap.size;obtain⟨W1,hW1⟩:=zE (w.alloc (.cells #[.int .i64 f,.int .i64 v] 121));have hb1:=gK hW1;have hr1:W1.heap[D]?=some (.cells #[.int .i64 f,.int .i64 v] 121 (0,0)):=by rw[←hW1,←hD];exact alloc_at _ _
 have h1:=h.grow hb1;have hDT:D≠T∧D≠Bb∧D≠MB:=by
  have a1:=(h.lo T (by rw[h.t1];decide)).2;have a2:=(h.lo Bb (by rw[h.t2];decide)).2;have a3:=(h.lo MB (by rw[h.t3];decide)).2;omega
 have hTB:T≠Bb∧T≠MB∧Bb≠MB:=by
  have a1:=h.t1;have a2:=h.t2;have a3:=h.t3;exact⟨fun e=>by rw[e] at a1;omega,fun e=>by rw[e] at a1;omega,fun e=>by rw[e] at a2;omega⟩
 have hBs:B≤w.heap.size:=by have:=(h.lo T (by rw[h.t1];decide));omega
 have hoD:∀k,(Value.slice lv.1 P.length lv.2).ownBlock=some k→k≠T∧k≠Bb∧k≠MB∧k<D:=fun k hk=>by
  have a4:=h.t4 k hk;have a1:=h.t1;have a2:=h.t2;have a3:=h.t3;have:=(h.lo k (by omega)).2;exact⟨fun e=>by rw[e] at a4;omega,fun e=>by rw[e] at a4;omega,fun e=>by rw[e] at a4;omega,by omega⟩
 obtain⟨i0,hi0,hi1,hi2,hi3⟩:=info_parts vw;obtain⟨S1,hS1⟩:=zE ((fun w'=>w'.heap[T]?=some (.cells (Ez Bb MB lv s P.length Y.length at_) 123 (0,0))∧w'.heap[D]?=some (.cells #[.int .i64 f,.int .i64 v] 121 (0,0))):H5→Prop);have hS0:S1 W1.drew:=by rw[←hS1];exact⟨h1.row,hr1⟩
 have HSB:Ia (∀W,W.heap[T]?=some (.cells (Ez Bb MB lv s P.length Y.length at_) 123 (0,0))→W.heap[D]?=some (.cells #[.int .i64 f,.int .i64 v] 121 (0,0))→S1 W):=fun W a b=>by rw[←hS1];exact⟨a,b⟩
 have HCE:Ia (∀w,S1 w→w.cell? ⟨T,1,none⟩=some (.slice lv.1 P.length lv.2)∧w.cell? ⟨D,0,none⟩=some (.int .i64 f)∧w.cell? ⟨D,1,none⟩=some (.int .i64 v)∧T<w.heap.size∧D<w.heap.size):=fun w hw=>by rw[←hS1] at hw;exact⟨(rowAt hw.1 1 rfl).1,(rowAt hw.2 0 rfl).1,(rowAt hw.2 1 rfl).1,ae hw.1,ae hw.2⟩
 have HW1:=zH hW1;have HB1:=zH hb1;have H:=zH h;have H1:=zH h1;have HR1:=zH hr1;have HOD:=zH hoD;have HDT:=zH hDT;have HTB:=zH hTB;have HD:=zH hD;have HBS:=zH hBs;have HT1:=ae h1.row;clear h hW1 hb1 h1 hr1 hS1 hoD hDT hTB hBs;go_enter func100,ntmps100
 go_upto_region 1 with(fail)
 rw[HW1.out];refine aj 10 S1 (by kernel_rfl) ?_;refine zT 0 rfl HCE.out ?_;(try go_simp);refine zT 1 rfl HCE.out ?_;(try go_simp);refine zT 2 rfl HCE.out ?_;(try go_simp);refine zT 3 rfl HCE.out ?_;(try go_simp);refine zT 4 rfl HCE.out ?_;(try go_simp);refine zT 5 rfl HCE.out ?_;(try go_simp);refine zO 6 rfl fun K' hK=> ?_;go_simp;obtain⟨G,hG⟩:=zE W1.heap.size;obtain⟨W8,hW8⟩:=zE ((W1.alloc (.cells #[.int .i64 f,.int .i64 v] 121)).drew);(try rw[hG]);(try rw[hW8]);have hb8:H9 W1.heap.size W1 W8:=by rw[←hW8];exact((Hw _ _).alloc (He _) _).drew
 have hrG:W8.heap[G]?=some (.cells #[.int .i64 f,.int .i64 v] 121 (0,0)):=by rw[←hW8,←hG];exact alloc_at _ _
 have hrow8:=(hb8.block T HT1).trans H1.out.row;have hrD8:=(hb8.block D (ae HR1.out)).trans HR1.out;have hbw8:H9 w.heap.size w W8:=HB1.out.trans (hb8.mono HB1.out.size);refine hK _ _ (HSB.out _ hrow8 hrD8) ?_;clear hK;(try go_simp);refine zO 7 rfl fun K' hK=> ?_;have hmk8:=H.out.grow hbw8;have hB8:B≤W8.heap.size:=Nat.le_trans HBS.out hbw8.size;refine aF (.tmp 14) (.tmp 16) 119 rfl B 121 i0 _ 2 16 underlying119 hi0 hi1 hi2 hi3 rfl (by decide) (.slice lv.1 P.length lv.2) P.length (P.flatMap su) rfl hmk8.lrow (some ⟨G,0,none⟩) 1 1 [.int .i64 f,.int .i64 v] rfl rfl (fun h=>by cases h) (fun ad had jj uu hu=>by
  obtain rfl:(⟨G,0,none⟩:Addr)=ad:=by simpa using had
  rw[Addr.add_lit,Hf,cell_of_row _ _ _ _ _ _ hrG];simpa using hu) (by simp[Value.oneCell']) (by unfold maxLen;omega) (by omega) hB8 ?_
 intro v9 w9 hown9 hgr9 hat9;obtain⟨ao9,c9,hv9⟩:=aD hown9;subst hv9;have hx9:Ext (fun q=>(Value.slice lv.1 P.length lv.2).ownBlock=some q) W8 w9:=Ext.of_grown hgr9 (fun q hq=> .inl hq);have hrow9:=hx9.heap hrow8 (fun e=>(HOD.out _ e).1 rfl);have hrD9:=hx9.heap hrD8 (fun e=>by have:=(HOD.out _ e).2.2.2;omega);have hS9:S1 w9:=HSB.out _ hrow9 hrD9;have hfz:=(rowAt hrow9 1 rfl).2;have hcl:=(rowAt hrow9 1 rfl).1;have hT9:=ae hrow9;refine hK _ _ hS9 ?_;clear hK;(try go_simp);refine zT 8 rfl HCE.out ?_;(try go_simp);refine zT 9 rfl HCE.out ?_;(try go_simp);refine zK rfl fun K' hK=> ?_;go_simp;refine hK _ _ ?_;clear hK;refine⟨by kernel_rfl, ?_⟩;obtain⟨W10,hW10⟩:=zE (w9.setCell ⟨T,1,none⟩ (.slice ao9 (P.length+1) c9));(try rw[hW10]);have hx10:Ext (·=T) w9 W10:=by rw[←hW10];exact Ext.set1 w9 T 1 _
 have hrT10:W10.heap[T]?=some (.cells (Ez Bb MB (ao9,c9) s (P.length+1) Y.length at_) 123 (0,0)):=by rw[←hW10];exact Hz w9 T 1 _ _ _ hrow9
 have hx810:Ext (fun q=>q=T∨(Value.slice lv.1 P.length lv.2).ownBlock=some q) W8 W10:=(hx9.mono (fun q h=> .inr h)).trans hx10 (fun q h=> .inl (.inl h));have hxw10:Ext (fun q=>q=T∨(Value.slice lv.1 P.length lv.2).ownBlock=some q) w W10:=(Ext.of_below_size hbw8).trans hx810 (fun q h=> .inl h);have hrD10:=hx10.heap hrD9 (fun e=>HDT.out.1 e);have hrB10:W10.heap[Bb]?=some (.cells #[.int .i64 N,.slice s.fA C.length s.fC] 191 (0,0)):=hxw10.heap H.out.bld (by rintro(e|e);exact HTB.out.1 e.symm;exact(HOD.out _ e).2.1 rfl);have hm10:lM W10 MB P.length F:=H.out.map.ext hxw10 (by rintro(e|e);exact HTB.out.2.1 e.symm;exact(HOD.out _ e).2.2.1 rfl);have hown10:=ah hown9 hx10 (fun k hk e=>by
  rcases hat9 k hk with h1|h1
  ·exact(HOD.out k h1).1 e
  ·have:=ae hrow8;omega)
 have HX10:=zH hxw10;have HRT10:=zH hrT10;have HRD10:=zH hrD10;have HRB10:=zH hrB10;have HM10:=zH hm10;have HOWN10:=zH hown10;have HAT:Ia (∀k,(Value.slice ao9 (P.length+1) c9).ownBlock=some k→(Value.slice lv.1 P.length lv.2).ownBlock=some k∨w.heap.size≤k):=fun k hk=>by
  rcases hat9 k hk with h1|h1
  ·exact .inl h1
  ·exact .inr (Nat.le_trans hbw8.size h1)
 have HOT:Ia (∀k,(Value.slice ao9 (P.length+1) c9).ownBlock=some k→k≠T∧k≠Bb∧k≠MB):=fun k hk=>by
  rcases hat9 k hk with h1|h1
  ·obtain⟨e1,e2,e3,_⟩:=HOD.out k h1;exact⟨e1,e2,e3⟩
  ·have e1:=(H.out.lo T (by rw[H.out.t1];decide)).2
   have e2:=(H.out.lo Bb (by rw[H.out.t2];decide)).2;have e3:=(H.out.lo MB (by rw[H.out.t3];decide)).2;have:=hbw8.size;omega
 clear hW10 hx10 hrT10 hx810 hxw10 hrD10 hrB10 hm10 hown10 hown9 hgr9 hat9 hx9 hrow9 hrD9 hS9 hfz hcl hmk8 hB8 hrow8 hrD8 hrG hW8 hb8 hbw8 hG hT9 HT1 hi0 hi1 hi2 hi3 HSB HCE hS0
 go_upto_region 2 with(fail)
 have cT2:=(rowAt HRT10.out 2 rfl).1;have hTl:=ae HRT10.out;have hBl:=ae HRB10.out;obtain⟨S2,hS2⟩:=zE ((fun w'=>w'.heap[T]?=some (.cells (Ez Bb MB (ao9,c9) s (P.length+1) Y.length at_) 123 (0,0))∧w'.heap[D]?=some (.cells #[.int .i64 f,.int .i64 v] 121 (0,0))):H5→Prop);have hS20:S2 W10.drew:=by rw[←hS2];exact⟨HRT10.out,HRD10.out⟩
 have HSB2:Ia (∀W,W.heap[T]?=some (.cells (Ez Bb MB (ao9,c9) s (P.length+1) Y.length at_) 123 (0,0))→W.heap[D]?=some (.cells #[.int .i64 f,.int .i64 v] 121 (0,0))→S2 W):=fun W a b=>by rw[←hS2];exact⟨a,b⟩
 have HCE2:Ia (∀w,S2 w→w.cell? ⟨T,2,none⟩=some (.map (some MB))∧w.cell? ⟨T,0,none⟩=some (.pointer (some ⟨Bb,0,none⟩))∧w.cell? ⟨D,0,none⟩=some (.int .i64 f)∧w.cell? ⟨D,1,none⟩=some (.int .i64 v)∧T<w.heap.size∧D<w.heap.size):=fun w hw=>by rw[←hS2] at hw;exact⟨(rowAt hw.1 2 rfl).1,(rowAt hw.1 0 rfl).1,(rowAt hw.2 0 rfl).1,(rowAt hw.2 1 rfl).1,ae hw.1,ae hw.2⟩
 clear hS2 cT2;refine aj 10 S2 (by kernel_rfl) ?_;refine zT 0 rfl HCE2.out ?_;(try go_simp);refine zT 1 rfl HCE2.out ?_;(try go_simp);refine zT 2 rfl HCE2.out ?_;(try go_simp);refine zT 3 rfl HCE2.out ?_;(try go_simp);refine zT 4 rfl HCE2.out ?_;(try go_simp);refine zT 5 rfl HCE2.out ?_;(try go_simp);refine zT 6 rfl HCE2.out ?_;(try go_simp);refine zT 7 rfl HCE2.out ?_;(try go_simp);refine zT 8 rfl HCE2.out ?_;(try go_simp);refine zO 9 rfl fun K' hK=> ?_;go_simp;have HV1:=zH (vE W10.drew (N:=N) (Bb:=Bb) HRB10.out (by omega));go_at_call 139;refine HV1.out.mono ?_;rintro e w11 ⟨rfl,hw11⟩;have hx11:Ext (·=Bb) W10.drew w11:=by rw[←hw11];exact Ext.set1 _ _ _ _
 have hrB11:w11.heap[Bb]?=some (.cells #[.int .i64 (N+1),.slice s.fA C.length s.fC] 191 (0,0)):=by rw[←hw11];exact Hz W10.drew Bb 0 _ _ _ HRB10.out
 have hrT11:=hx11.heap (show W10.drew.heap[T]?=_ from HRT10.out) (fun e=>HTB.out.1 e);have hrD11:=hx11.heap (show W10.drew.heap[D]?=_ from HRD10.out) (fun e=>HDT.out.2.1 e);have hm11:lM w11 MB P.length F:=(HM10.out.ext ((Ext.refl (fun _=>False) _).drew) (fun h=>h)).ext hx11 (fun e=>HTB.out.2.2 e.symm);have hS11:S2 w11:=HSB2.out _ hrT11 hrD11;refine hK _ _ hS11 ?_;clear hK;(try go_simp);refine zK rfl fun K' hK=> ?_;obtain⟨w12,hrun,hm12,hx12⟩:=hm11.add hf hv (z:=N+1) (by unfold bG;omega) (by unfold maxLen;omega);go_simp;(try simp only[hrun]);(try go_simp);refine hK _ _ ?_;clear hK;refine⟨by kernel_rfl, ?_⟩;have hrB12:=hx12.heap hrB11 (fun e=>HTB.out.2.2 e);have hrT12:=hx12.heap hrT11 (fun e=>HTB.out.2.1 e);have c0:=(rowAt hrT12 0 rfl).1;have HV2:=zH (vE w12 hrB12 (by omega));have hTl12:=ae hrT12;have HX11:=zH hx11;have HX12:=zH hx12;have HRB12:=zH hrB12;have HRT12:=zH hrT12;have HM12:=zH hm12;clear hrun hm12 hx12 hrB12 hrT12 hm11 hS11 hrB11 hrT11 hrD11 hx11 hw11 HV1 hS20 HSB2 HCE2
 go_wp2_with (go_at_call 139;refine HV2.out.mono ?_;rintro e w13 ⟨rfl,hw13⟩;have HW13:=zH hw13;clear hw13)
 go_end0
 refine⟨rfl,(ao9,c9), ?_⟩;have hx13:Ext (·=Bb) w12 w13:=by rw[←HW13.out];exact Ext.set1 _ _ _ _
 have hrB13:w13.heap[Bb]?=some (.cells #[.int .i64 (N+1+1),.slice s.fA C.length s.fC] 191 (0,0)):=by rw[←HW13.out];exact Hz w12 Bb 0 _ _ _ HRB12.out
 have hx1013:Ext (fun q=>q=Bb∨q=MB) W10 w13:=((((Ext.refl (fun q=>q=Bb∨q=MB) W10).drew).trans (HX11.out.mono (fun q h=> .inl h)) (fun q h=> .inl h)).trans (HX12.out.mono (fun q h=> .inr h)) (fun q h=> .inl h)).trans (hx13.mono (fun q h=> .inl h)) (fun q h=> .inl h);refine Fj H.out (HX10.out.mono (fun q h=>by rcases h with h|h;exact .inl h;exact .inr (.inr (.inr h)))|>.trans (hx1013.mono (fun q h=>by rcases h with h|h;exact .inr (.inl h);exact .inr (.inr (.inl h)))) (fun q h=> .inl h)) (hx13.heap HRT12.out (fun e=>HTB.out.1 e)) (by rw[show N+2=N+1+1 by omega];exact hrB13) (HM12.out.ext hx13 (fun e=>HTB.out.2.2 e.symm)) (ah HOWN10.out hx1013 (fun k hk e=>by
  obtain⟨_,e2,e3⟩:=HOT.out k hk;rcases e with e|e
  ·exact e2 e
  ·exact e3 e)) HAT.out hl
end
theorem rT {p x:Int×Int}:∀{P:List (Int×Int)}{k:Nat},p∉P→aM k (P++[p]) x=if x=p then 2*((k+P.length:Nat):Int)+1 else aM k P x
 |[],k,_=>by
  show aM k [p] x=_
  unfold aM
  by_cases h:p=x
  ·rw[if_pos h,if_pos h.symm];simp
  ·rw[if_neg h,if_neg (fun e=>h e.symm)];rfl
 |q::r,k,hp=>by
  rw[List.cons_append];unfold aM;have hpr:p∉r:=fun h=>hp (by simp[h])
  by_cases h:q=x
  ·rw[if_pos h,if_neg (fun e=>hp (by rw[←e,←h];simp)),if_pos h]
  ·rw[if_neg h,rT hpr,List.length_cons,if_neg h,show k+1+r.length=k+(r.length+1) by omega]
theorem mO {f:Int}{x:Vr}:∀(l:List Vr)(v:Nat),bE f v (l++[x])=bE f v l++(if x.ptr=true then[(f,((v+l.length:Nat):Int))] else[])
 |[],v=>by simp[bE]
 |y::r,v=>by
  rw[List.cons_append];unfold bE;rw[mO r (v+1),Hr,List.length_cons,show v+1+r.length=v+(r.length+1) by omega]
theorem kz {g:Fn}:∀(l:List Fn)(f:Nat),bU f (l++[g])=bU f l++cO ((f+l.length:Nat):Int) g
 |[],f=>by simp[bU]
 |y::r,f=>by
  rw[List.cons_append];unfold bU;rw[kz r (f+1),Hr,List.length_cons,show f+1+r.length=f+(r.length+1) by omega]
theorem oP {f:Int}:∀(l:List Vr)(v:Nat),(bE f v l).length≤l.length
 |[],_=>by simp[bE]
 |y::r,v=>by
  unfold bE;rw[GU,List.length_cons];have:=oP (f:=f) r (v+1)
  by_cases h:y.ptr=true
  ·rw[if_pos h];simp;omega
  ·rw[if_neg h];simp;omega
theorem Bu {f:Int}{g:Fn}:(cO f g).length≤g.vs.length+1:=by
 unfold cO;rw[GU];have:=oP (f:=f) g.vs 0
 by_cases h:g.c.rp=true
 ·rw[if_pos h];simp;omega
 ·rw[if_neg h];simp;omega
def Nm (T Bb MB:Nat)(at_:Int×Int)(B:Nat)(tg:Nat→Nat)(w0:H5)(D:Nat)(cc:Array Value)(W1:H5)(P:List (Int×Int))(w:H5):Prop:=
 ∃lv tg' s',Wn T Bb MB lv P (2*(P.length:Int)) (aM 0 P) [] [] at_ B tg' s' w∧H9 B w0 w∧w.heap[D]?=some (.cells cc 38 (0,0))∧tg' D=0∧Ext (fun q=>tg q≠0) W1 w∧(∀k,tg' k≠0→tg k≠0∨W1.heap.size≤k)∧∀k,tg k≠0→tg' k=tg k
section
variable {T Bb MB:Nat}{at_:Int×Int}{B:Nat}{tg:Nat→Nat}{w0 w w' W1:H5}{D:Nat}{cc:Array Value}{P:List (Int×Int)}
theorem Nm.grow (h:Nm T Bb MB at_ B tg w0 D cc W1 P w)(hb:H9 w.heap.size w w'):Nm T Bb MB at_ B tg w0 D cc W1 P w':=by
 obtain⟨lv,tg',s',h1,h2,h3,h4,h5,h6,h7⟩:=h;exact⟨lv,tg',s',h1.grow hb,h2.trans (hb.mono (by have:=(h1.lo T (by rw[h1.t1];decide));omega)),(hb.block D (ae h3)).trans h3,h4,h5.trans (Ext.of_below_size (M:=fun _=>False) hb) (fun q h=>h.elim),h6,h7⟩
theorem Nm.name (h:Nm T Bb MB at_ B tg w0 D cc W1 P w)(f v:Int)(hf:bG f)(hv:bG v)(hn:(f,v)∉P)(hl:P.length+1≤30000):
  Calls prog 100 #[.pointer (some ⟨T,0,none⟩),.int .i64 f,.int .i64 v] w fun e w'=>e= .returned (.tuple #[])∧Nm T Bb MB at_ B tg w0 D cc W1 (P++[(f,v)]) w':=by
 obtain⟨lv,tg',s',h1,h2,h3,h4,h5,h6,h7⟩:=h;refine(zF w h1 (by omega) f v hf hv hl).mono ?_;rintro e w2 ⟨rfl,lv2,tg2,s2,g1,g2,g3,g4⟩;have hF:(fun x=>if x=(f,v) then 2*(P.length:Int)+1 else aM 0 P x)=aM 0 (P++[(f,v)]):=by
  funext x
  rw[rT hn,Hf]
 have hN:2*(P.length:Int)+2=2*((P++[(f,v)]).length:Int):=by rw[GU,G5];omega
 rw[hF,hN] at g1;refine⟨rfl,lv2,tg2,s2,g1,h2.trans (g2.below (by have:=(h1.lo T (by rw[h1.t1];decide));omega) (fun q hq=>(h1.lo q hq).1)),g2.heap h3 (fun e=>e h4), ?_,h5.trans g2 (fun q hq=>h6 q hq),fun k hk=> ?_,fun k hk=> ?_⟩
 ·cases hz:tg2 D with
  |zero=>rfl
  |succ q=>
   rcases g3 D (by omega) with e|e
   ·exact absurd h4 e
   ·have:=ae h3;omega
 ·rcases g3 k hk with e|e
  ·exact h6 k e
  ·exact .inr (Nat.le_trans h5.size e)
 ·have:=h7 k hk
  rw[g4 k (by omega),this]
theorem Ep {x:Vr}{w:H5}:∀(c:Array Value),c.size=3→(storeCells ⟨w.heap.size,0,none⟩ [.bool x.ptr,.string x.tgt,.int .i64 x.cls] 0).run prog (w.alloc (.cells c 34))= .ok () (w.alloc (.cells #[.bool x.ptr,.string x.tgt,.int .i64 x.cls] 34)):=fun c hc=>
 run_storeCells_new (P:=prog) w 34 c #[.bool x.ptr,.string x.tgt,.int .i64 x.cls] (by show _=some 3;kernel_rfl) hc (by simp[Value.oneCell'])
theorem zG {lv:Option Addr×Nat}{s:nU}(w:H5)(g:Fn)(fi:Nat)(h:Wn T Bb MB lv P (2*(P.length:Int)) (aM 0 P) [] [] at_ B tg s w)(hlo:H9 B w0 w)(hB:w0.heap.size=B)(hnv:g.c.nvars=g.vs.length)(hvr:aG Vr.cells 3 w0 w0.heap.size g.c.varsA g.vs)(hvl:g.vs.length≤400)(hfi:fi≤90000)(hP:∀x∈P,x.1<(fi:Int))(hl:P.length+500≤30000):
  Calls prog 55 #[.pointer (some ⟨T,0,none⟩),.int .i64 (fi:Int),.agg g.c.cells] w fun e w'=>e= .returned (.tuple #[])∧∃lv',aV T Bb MB lv' (P++cO (fi:Int) g) (2*((P++cO (fi:Int) g).length:Int)) (aM 0 (P++cO (fi:Int) g)) [] [] at_ B tg w w':=by
 obtain⟨D,hD⟩:=zE w.heap.size;have hwf:bG (fi:Int):=by unfold bG;omega
 have HPT:Ia (cO (fi:Int) g=bE (fi:Int) 0 g.vs++(if g.c.rp=true then[((fi:Int),-1)] else[])):=rfl;obtain⟨⟨nm,par,varsA,nvars,varsC,rp,rto,rcl,fromA,nfrom,fromC,insA,insC,ins⟩,vs,frm,mds⟩:=g;simp only at hnv hvr hvl HPT⊢;subst hnv;simp only[dQ.cells];obtain⟨cc,hcc⟩:=zE (#[.string nm,.int .i64 par,.slice varsA vs.length varsC,.bool rp,.string rto,.int .i64 rcl,.slice fromA nfrom fromC,.slice insA ins.length insC]:Array Value);obtain⟨W1,hW1⟩:=zE (w.alloc (.cells cc 38));have hb1:=gK hW1;have hr1:W1.heap[D]?=some (.cells cc 38 (0,0)):=by rw[←hW1,←hD];exact alloc_at _ _
 have hBs:B≤w.heap.size:=by have:=(h.lo T (by rw[h.t1];decide));omega
 have hz:tg D=0:=by
  cases hz:tg D with
  |zero=>rfl
  |succ q=>have:=(h.lo D (by omega)).2;omega
 have HS0:Ia (Nm T Bb MB at_ B tg w0 D cc W1 (P++bE (fi:Int) 0 (vs.take 0)) W1):=by
  unfold Ia;rw[List.take_zero]
  show Nm T Bb MB at_ B tg w0 D cc W1 (P++[]) W1
  rw[List.append_nil];exact⟨lv,tg,s,h.grow hb1,hlo.trans (hb1.mono hBs),hr1,hz,Ext.refl _ _,fun k hk=> .inl hk,fun _ _=>rfl⟩
 have HLK:Ia (∀P2 w2,Nm T Bb MB at_ B tg w0 D cc W1 P2 w2→aV T Bb MB lv P 0 (fun _=>0) [] [] at_ B tg w2 w2∨True):=fun _ _ _=> .inr trivial;have HCE:Ia (∀P2 w2,Nm T Bb MB at_ B tg w0 D cc W1 P2 w2→w2.cell? ⟨D,2,none⟩=some (.slice varsA vs.length varsC)∧w2.cell? ⟨D,3,none⟩=some (.bool rp)∧D<w2.heap.size∧aG Vr.cells 3 w2 B varsA vs):=fun P2 w2 h2=>by
  obtain⟨lv2,tg2,s2,_,h4,h3,_⟩:=h2;rw[←hcc] at h3;exact⟨(rowAt h3 2 rfl).1,(rowAt h3 3 rfl).1,ae h3,aG.below (by rw[←hB];exact hvr) h4 (He _)⟩
 have HPN:Ia (∀(v:Int)(l:List (Int×Int)),(∀x∈l,x.1=(fi:Int)∧x.2≠v)→((fi:Int),v)∉P++l):=fun v l hl2 hm=>by
  rcases List.mem_append.1 hm with hm|hm
  ·have:=hP _ hm;simp at this
  ·exact(hl2 _ hm).2 rfl
 have HVM:Ia (∀(j:Nat)(x:Int×Int),j≤vs.length→x∈bE (fi:Int) 0 (vs.take j)→x.1=(fi:Int)∧0≤x.2∧x.2<(j:Int)):=fun j x hj hx=>by
  obtain⟨k,y,h1,_,rfl⟩:=gJ.1 hx;have:=(GQ.1 h1).1;rw[Ht] at this;exact⟨rfl,by simp,by simp;omega⟩
 have HLEN:Ia (∀j,(bE (fi:Int) 0 (vs.take j)).length≤vs.length):=fun j=>Nat.le_trans (oP _ _) (by rw[Ht];omega);have HW1:=zH hW1;have HB1:=zH hb1;obtain⟨k0,k1,k2,_⟩:=HCE.out _ _ HS0.out;clear h hlo hvr hP hW1 hb1 hr1 hBs hz HLK;rw[hcc];go_enter func55,ntmps55
 go_upto_region 1 with(fail)
 rw[←hcc] at HW1;(try rw[HW1.out]);rw[hcc] at HW1;(try rw[HW1.out])
 go_upto_region 2 with(fail)
 clear k0 k1 k2
 go_loopw [11] (fun kk wr=>∃j:Nat,j≤vs.length∧kk= .int .i64 (j:Int)∧Nm T Bb MB at_ B tg w0 D cc W1 (P++bE (fi:Int) 0 (vs.take j)) wr) (fun kk _=>vs.length-(intOf kk).toNat)
 case atStart=>exact⟨0,Hg _,rfl,HS0.out⟩
 case round=>
  obtain⟨j,hj,rfl,hm⟩:=hrel;have HM:=zH hm;obtain⟨k0,k1,k2,k3⟩:=HCE.out _ _ hm
  by_cases hjl:j<vs.length
  ·obtain⟨x,hx⟩:∃x,vs[j]?=some x:=⟨_,GN hjl⟩
   have hjI:(j:Int)<(vs.length:Int):=by omega
   obtain⟨b,off,hA,hbB,hc⟩:=k3 (by intro e;rw[e] at hjl;simp at hjl);have x0:=hc j x hx 0 _ rfl;have x1:=hc j x hx 1 _ rfl;have x2:=hc j x hx 2 _ rfl;rw[Nat.add_zero] at x0;have hbl:b<wr.heap.size:=by obtain⟨_,_,_,h1,h2,_⟩:=hm;have:=(h1.lo T (by rw[h1.t1];decide));omega
   subst hA;have hst:=Ep (x:=x) (w:=wr);obtain⟨W2,hW2⟩:=zE (wr.alloc (.cells #[.bool x.ptr,.string x.tgt,.int .i64 x.cls] 34));have hb2:=gK hW2;have hr2:W2.heap[wr.heap.size]?=some (.cells #[.bool x.ptr,.string x.tgt,.int .i64 x.cls] 34 (0,0)):=by rw[←hW2];exact alloc_at _ _
   have HM2:=zH (hm.grow hb2);have HSN:Ia (bE (fi:Int) 0 (vs.take (j+1))=bE (fi:Int) 0 (vs.take j)++(if x.ptr=true then[((fi:Int),(j:Int))] else[])):=by
    unfold Ia;rw[aS hx,mO,Hf,Ht,Nat.min_eq_left (by omega)]
   have HW2:=zH hW2;have HR2:=zH hr2;have hlen:=HLEN.out j;clear hm hc k3 hx hb2 hr2 hW2;obtain⟨G,hG⟩:=zE wr.heap.size;rw[hG] at HR2
   go_upto_region 4 with(fail)
   clear hst;(try rw[HW2.out]);(try rw[hG]);have p0:=(rowAt HR2.out 0 rfl).1;have hGl:=ae HR2.out;clear hG HW2 x0 x1 x2 k0 k1;cases hp:x.ptr with
   |true=>
    rw[hp] at p0;have hsn:=HSN.out;rw[hp,if_pos rfl] at hsn;have HSN2:=zH hsn;have HNM:=zH (HM2.out.name (fi:Int) (j:Int) hwf (by unfold bG;omega) (HPN.out (j:Int) _ (fun y hy=>by have:=HVM.out j y hj hy;exact⟨this.1,by omega⟩)) (by rw[GU];omega));clear hsn HSN hp
    go_wp2_with (go_at_call 100;refine HNM.out.mono ?_;rintro e w3 ⟨rfl,hm3⟩;have HM3:=zH hm3;clear hm3)
    go_roundw
    case rel=>exact⟨j+1,hjl,by go_num,by rw[HSN2.out,←Hr];exact HM3.out⟩
    case measure=>simp[intOf];omega
   |false=>
    rw[hp] at p0;have hsn:=HSN.out;rw[hp,if_neg (by simp),List.append_nil] at hsn;have HSN2:=zH hsn;clear hsn HSN hp;go_wp2;go_roundw
    case rel=>exact⟨j+1,hjl,by go_num,by rw[HSN2.out];exact HM2.out⟩
    case measure=>simp[intOf];omega
  ·have hje:j=vs.length:=by omega
   have HMJ:Ia (Nm T Bb MB at_ B tg w0 D cc W1 (P++bE (fi:Int) 0 vs) wr):=by
    unfold Ia;have:=HM.out;rw[hje,Ha] at this;exact this
   have hlen:=HLEN.out j;rw[hje,Ha] at hlen;have HVM2:Ia (∀x∈bE (fi:Int) 0 vs,x.1=(fi:Int)∧x.2≠-1):=fun x hx=>by
    have:=HVM.out vs.length x (He _) (by rw[Ha];exact hx);exact⟨this.1,by omega⟩
   clear hm hje k3;cases rp with
   |true=>
    have HNM:=zH (HMJ.out.name (fi:Int) (-1) hwf (by unfold bG;omega) (HPN.out (-1) _ HVM2.out) (by rw[GU];omega))
    go_wp2_with (go_at_call 100;refine HNM.out.mono ?_;rintro e w3 ⟨rfl,hm3⟩;have HM3:=zH hm3;clear hm3)
    go_end0
    obtain⟨lv3,tg3,s3,q1,_,_,_,q5,q6,q7⟩:=HM3.out;refine⟨rfl,lv3, ?_⟩;rw[HPT.out];simp only[if_true,←Hr];exact aV.below HB1.out ⟨tg3,s3,q1,q5,q6,q7⟩
   |false=>
    go_wp2
    go_end0
    obtain⟨lv3,tg3,s3,q1,_,_,_,q5,q6,q7⟩:=HMJ.out;refine⟨rfl,lv3, ?_⟩;rw[HPT.out];simp only[if_false,Bool.false_eq_true,List.append_nil];exact aV.below HB1.out ⟨tg3,s3,q1,q5,q6,q7⟩
end
theorem Bv {m:Mo}{g:Fn}(hr:gF m=0)(hg:g∈m.fs):Fits g.c.ins g.vs.length:=by
 obtain⟨_,_,_,_,h5,_⟩:=gX hr;intro i hi;obtain⟨_,_,q3,q4,_⟩:=jy ((ku (h5 g hg)).2.2.2.2.2 i hi);refine⟨fun r hr=>bO.1 (q3 r hr),fun hw=> ?_⟩;unfold az at hw⊢
 by_cases hd:pV i.op=true
 ·rw[if_pos hd];exact bO.1 (q4 hd)
 ·rw[if_neg hd] at hw;exact absurd hw (by simp)
theorem zI {N:Int}{c:List Int}(h:xB N c):c.all (bH N)=true:=by
 rw[List.all_eq_true];intro x hx;exact Fg (h.2.2 x hx)
section
variable {T Bb MB:Nat}{lv:Option Addr×Nat}{P:List (Int×Int)}{N:Int}{F:Int×Int→Int}{C C2:List (List Int)}{Y Y2:List (Int×Int)}{at_ at2:Int×Int}{B:Nat}{tg:Nat→Nat}{s:nU}{w0:H5}{TT RB hi:Nat}{c:dQ}{b:Nat→Nat→Nat}
theorem xL (w:H5)(h:As T Bb MB lv P N F C Y at_ B tg s w0 TT RB c b hi w)(hN:0≤N∧N≤9000000)(hF:∀x,0≤F x∧F x≤9000000)(f:Int)(hf:bG f)(a1 a2:Option Addr)(n1 n2 c1 c2:Nat)(i:Ins)(ga:Option Addr)(gc:Nat)(hia:i.argsV= .slice ga i.args.length gc)(hmo:∃ao n cap,i.modeV= .slice ao n cap)(hga:ak w0 ga i.args)(hal:i.args.length≤40)(hdv:bG i.d)(hav:bG i.a)(hbv:bG i.b)(hff:bG i.f)(k:Nat)(hk:k<c.ins.length)(hnl:c.ins.length≤90000)(hnv:c.nvars≤90000)(hl:C.length+130≤1000000)(hly:Y.length+130≤1000000)
  (h9:i.op=9→isVar c.nvars i.a=true)(h11:i.op=11→isVar c.nvars i.b=true)(h15:i.op=15→∀v∈i.args,isVar c.nvars v=true)(hok:∀x∈aA F f (aW b k) i,x.all (bH N)=true):
  Calls prog 58 #[.agg #[.pointer (some ⟨T,0,none⟩),.int .i64 f,.slice a1 n1 c1,.slice a2 n2 c2,.pointer (some ⟨TT,0,none⟩)],.agg i.cells,.int .i64 (k:Int)] w fun e w'=>e= .returned (.tuple #[])∧aV T Bb MB lv P N F (C++aA F f (aW b k) i) (Y++(aA F f (aW b k) i).map fun _=>at_) at_ B tg w w':=by
 by_cases e12:i.op=12
 ·exact ug w h hN hF f hf a1 a2 n1 n2 c1 c2 i ga gc hia hmo hdv hav hbv k hk hnl hnv hl hly e12 hok
 by_cases e13:i.op=13
 ·exact uh w h hN hF f hf a1 a2 n1 n2 c1 c2 i ga gc hia hmo hdv hav hbv k hk hnl hnv hl hly e13 hok
 by_cases e9:i.op=9
 ·exact xH w h hN hF f hf a1 a2 n1 n2 c1 c2 i ga gc hia hmo hdv hav hbv k hk hnl hnv hl hly e9 (h9 e9) hok
 by_cases e10:i.op=10
 ·exact ui w h hN hF f hf a1 a2 n1 n2 c1 c2 i ga gc hia hmo hdv hav hbv k hk hnl hnv hl hly e10 hok
 by_cases e8:i.op=8
 ·exact xG w h hN hF f hf a1 a2 n1 n2 c1 c2 i ga gc hia hmo hdv hav hbv k hk hnl hnv hl hly e8 hok
 by_cases e11:i.op=11
 ·exact uj w h hN hF f hf a1 a2 n1 n2 c1 c2 i ga gc hia hmo hdv hav hbv k hk hnl hnv hl hly e11 (h11 e11) hok
 by_cases e15:i.op=15
 ·exact uk w h hN hF f hf a1 a2 n1 n2 c1 c2 i ga gc hia hmo hdv hav hbv k hk hnl hnv hl hly e15 hga hal hff (h15 e15) hok
 by_cases e18:i.op=18
 ·exact ul w h hN hF f hf a1 a2 n1 n2 c1 c2 i ga gc hia hmo hdv hav hbv k hk hnl hnv hl hly e18 hok
 exact xI w h hN hF f hf a1 a2 n1 n2 c1 c2 i ga gc hia hmo hdv hav hbv k hk hnl hnv hl hly ⟨e12,e13,e9,e10,e8,e11,e15,e18⟩
end
theorem xM (w:H5):Calls prog 54 #[] w fun e w'=>e= .returned (.pointer (some ⟨w.heap.size,0,none⟩))∧w.alloc (.cells #[.int .i64 0,.slice none 0 0] 191)=w':=by
 go_enter func54,ntmps54;go_wp2;go_ret;exact⟨rfl,rfl⟩
section
variable {T Bb MB:Nat}{lv:Option Addr×Nat}{P:List (Int×Int)}{N:Int}{F:Int×Int→Int}{C C2:List (List Int)}{Y Y2:List (Int×Int)}{at_ at2:Int×Int}{B:Nat}{tg:Nat→Nat}{s:nU}{w0 w w' W1:H5}
def Wo (T Bb MB:Nat)(lv:Option Addr×Nat)(P:List (Int×Int))(N:Int)(F:Int×Int→Int)(B:Nat)(w0:H5)(C:List (List Int))(Y:List (Int×Int))(at_:Int×Int)(w:H5):Prop:=
 ∃tg s,Wn T Bb MB lv P N F C Y at_ B tg s w∧H9 B w0 w
theorem Wo.grow (h:Wo T Bb MB lv P N F B w0 C Y at_ w)(hb:H9 w.heap.size w w'):Wo T Bb MB lv P N F B w0 C Y at_ w':=by
 obtain⟨tg,s,h1,h2⟩:=h;exact⟨tg,s,h1.grow hb,h2.trans (hb.mono (by have:=(h1.lo T (by rw[h1.t1];decide));omega))⟩
theorem Wo.of {lv2:Option Addr×Nat}{P2:List (Int×Int)}{N2:Int}{F2:Int×Int→Int}(h:H9 B w0 w)(h1:Wn T Bb MB lv P N F C Y at_ B tg s w)(hm:aV T Bb MB lv2 P2 N2 F2 C2 Y2 at2 B tg w w'):Wo T Bb MB lv2 P2 N2 F2 B w0 C2 Y2 at2 w':=by
 obtain⟨tg',s',g1,g2,g3,g4⟩:=hm;exact⟨tg',s',g1,h.trans (g2.below (by have:=(h1.lo T (by rw[h1.t1];decide));omega) (fun q hq=>(h1.lo q hq).1))⟩
theorem FE (x y:Int)(h:Wn T Bb MB lv P N F C Y at_ B tg s w):Wn T Bb MB lv P N F C Y (x,y) B tg s ((w.setCell ⟨T,4,none⟩ (.int .i64 x)).setCell ⟨T,5,none⟩ (.int .i64 y))∧Ext (·=T) w ((w.setCell ⟨T,4,none⟩ (.int .i64 x)).setCell ⟨T,5,none⟩ (.int .i64 y)):=by
 have hx:Ext (·=T) w ((w.setCell ⟨T,4,none⟩ (.int .i64 x)).setCell ⟨T,5,none⟩ (.int .i64 y)):=aa (aa (Ext.refl _ _) _) _;have ht1:=h.t1;have hT:∀k,tg k≠1→¬k=T:=fun k h1 e=>h1 (by rw[e];exact ht1);refine⟨⟨?_,hx.heap h.bld (hT _ (by rw[h.t2];decide)),h.map.ext hx (hT _ (by rw[h.t3];decide)),ah h.lrow hx (fun k hk=>hT k (by rw[h.t4 k hk];decide)),ah h.frow hx (fun k hk=>hT k (by rw[h.t5 k hk];decide)),ah h.yrow hx (fun k hk=>hT k (by rw[h.t6 k hk];decide)),⟨h.cls.1,fun k c hc=> ?_⟩,h.t1,h.t2,h.t3,h.t4,h.t5,h.t6,fun k hk=>⟨(h.lo k hk).1,Hd (h.lo k hk).2 hx.size⟩,h.lP,h.lC,h.lY⟩,hx⟩
 ·exact Hz _ T 5 _ _ _ (Hz w T 4 _ _ _ h.row)
 ·obtain⟨ao,cap,h1,h2,h3⟩:=h.cls.2 k c hc
  exact⟨ao,cap,h1,dU h2 hx (fun a hn e=>hT _ (by rw[h3 hn a e];decide)),h3⟩
end
section
variable {T Bb MB:Nat}{lv:Option Addr×Nat}{P:List (Int×Int)}{N:Int}{F:Int×Int→Int}{C C2:List (List Int)}{Y Y2:List (Int×Int)}{at_ at2:Int×Int}{B:Nat}{tg:Nat→Nat}{s:nU}{w0 w w' W1:H5}{L:List (Nat×Obj)}{TT RB hi:Nat}{c:dQ}{b:Nat→Nat→Nat}
def Kept (L:List (Nat×Obj))(tg:Nat→Nat)(w:H5):Prop:=∀x∈L,w.heap[x.1]?=some x.2∧tg x.1=0
theorem Kept.grow (h:Kept L tg w)(hb:H9 w.heap.size w w'):Kept L tg w':=fun x hx=>⟨(hb.block x.1 (ae (h x hx).1)).trans (h x hx).1,(h x hx).2⟩
theorem Kept.mv {tg':Nat→Nat}(h:Kept L tg w)(hx:Ext (fun q=>tg q≠0) w w')(ho:∀k,tg' k≠0→tg k≠0∨w.heap.size≤k):Kept L tg' w':=fun x hm=>by
 obtain⟨h1,h2⟩:=h x hm;refine⟨hx.heap h1 (fun e=>e h2), ?_⟩;cases hz:tg' x.1 with
 |zero=>rfl
 |succ q=>
  rcases ho x.1 (by omega) with e|e
  ·exact absurd h2 e
  ·have:=ae h1;omega
theorem xN (h:Wn T Bb MB lv P N F C Y at_ B tg s w){k:Nat}(hk:w.heap.size≤k):tg k=0:=by
 cases hz:tg k with
 |zero=>rfl
 |succ q=>have:=(h.lo k (by omega)).2;omega
def mi (T Bb MB:Nat)(lv:Option Addr×Nat)(P:List (Int×Int))(N:Int)(F:Int×Int→Int)(B:Nat)(w0:H5)(L:List (Nat×Obj))(C:List (List Int))(Y:List (Int×Int))(at_:Int×Int)(w:H5):Prop:=
 ∃tg s,Wn T Bb MB lv P N F C Y at_ B tg s w∧H9 B w0 w∧Kept L tg w
theorem C9 (h:Wn T Bb MB lv P N F C Y at_ B tg s w):B≤w.heap.size:=by have:=(h.lo T (by rw[h.t1];decide));omega
theorem mi.grow (h:mi T Bb MB lv P N F B w0 L C Y at_ w)(hb:H9 w.heap.size w w'):mi T Bb MB lv P N F B w0 L C Y at_ w':=by
 obtain⟨tg,s,h1,h2,h3⟩:=h;exact⟨tg,s,h1.grow hb,h2.trans (hb.mono (C9 h1)),h3.grow hb⟩
theorem mi.of {tg:Nat→Nat}{s:nU}(h1:Wn T Bb MB lv P N F C Y at_ B tg s w)(h2:H9 B w0 w)(h3:Kept L tg w)(hm:aV T Bb MB lv P N F C2 Y2 at2 B tg w w'):mi T Bb MB lv P N F B w0 L C2 Y2 at2 w':=by
 obtain⟨tg',s',g1,g2,g3,g4⟩:=hm;exact⟨tg',s',g1,h2.trans (g2.below (C9 h1) (fun q hq=>(h1.lo q hq).1)),h3.mv g2 g3⟩
theorem Wo.kept (h:Wo T Bb MB lv P N F B w0 C Y at_ w)(hb:H9 w.heap.size w w'){k:Nat}{o:Obj}(hk:w.heap.size≤k)(hr:w'.heap[k]?=some o):mi T Bb MB lv P N F B w0 [(k,o)] C Y at_ w':=by
 obtain⟨tg,s,h1,h2⟩:=h;refine⟨tg,s,h1.grow hb,h2.trans (hb.mono (C9 h1)),fun x hx=> ?_⟩;rw[Hq] at hx;subst hx;exact⟨hr,xN h1 hk⟩
theorem mi.wo (h:mi T Bb MB lv P N F B w0 L C Y at_ w):Wo T Bb MB lv P N F B w0 C Y at_ w:=by
 obtain⟨tg,s,h1,h2,_⟩:=h;exact⟨tg,s,h1,h2⟩
theorem mi.setAt (x y:Int)(h:mi T Bb MB lv P N F B w0 L C Y at_ w):mi T Bb MB lv P N F B w0 L C Y (x,y) ((w.setCell ⟨T,4,none⟩ (.int .i64 x)).setCell ⟨T,5,none⟩ (.int .i64 y)):=by
 obtain⟨tg,s,h1,h2,h3⟩:=h;obtain⟨g1,g2⟩:=FE x y h1;exact⟨tg,s,g1,h2.trans (g2.below (C9 h1) (fun q hq=>by rw[hq];exact(h1.lo T (by rw[h1.t1];decide)).1)),h3.mv (g2.mono (fun q hq=>by rw[hq,h1.t1];decide)) (fun k hk=> .inl hk)⟩
theorem mi.row (h:mi T Bb MB lv P N F B w0 L C Y at_ w):(w.cell? ⟨T,4,none⟩=some (.int .i64 at_.1)∧w.frozen? ⟨T,4,none⟩=false)∧(w.cell? ⟨T,5,none⟩=some (.int .i64 at_.2)∧w.frozen? ⟨T,5,none⟩=false)∧T<w.heap.size∧w.cell? ⟨T,1,none⟩=some (.slice lv.1 P.length lv.2)∧w.cell? ⟨T,2,none⟩=some (.map (some MB)):=by
 obtain⟨tg,s,h1,_⟩:=h;exact⟨rowAt h1.row 4 rfl,rowAt h1.row 5 rfl,ae h1.row,(rowAt h1.row 1 rfl).1,(rowAt h1.row 2 rfl).1⟩
theorem mi.keeps (h:mi T Bb MB lv P N F B w0 L C Y at_ w){k:Nat}{o:Obj}(hk:(k,o)∈L):w.heap[k]?=some o:=by
 obtain⟨tg,s,_,_,h3⟩:=h;exact(h3 _ hk).1
theorem mi.put (h:mi T Bb MB lv P N F B w0 L C Y at_ w)(hN:0≤N∧N≤9000000)(ao:Option Addr)(xs:List Int)(cap:Nat)(hx:ak w ao xs)(hok:xs.all (bH N)=true)(hxl:xs.length≤80000)(hl:C.length+1≤1000000)(hly:Y.length+1≤1000000):
  Calls prog 56 #[.pointer (some ⟨T,0,none⟩),.slice ao xs.length cap] w fun e w'=>e= .returned (.tuple #[])∧mi T Bb MB lv P N F B w0 L (C++[xs]) (Y++[at_]) at_ w':=by
 obtain⟨tg,s,h1,h2,h3⟩:=h;refine(iO w h1 hN ao xs cap hx hok hxl hl hly).mono ?_;rintro e w2 ⟨rfl,hm⟩;exact⟨rfl,mi.of h1 h2 h3 hm⟩
theorem mi.look (h:mi T Bb MB lv P N F B w0 L C Y at_ w){f v:Int}(hf:bG f)(hv:bG v):(Instr.lookup 118 (.map (some MB)) (.agg #[.int .i64 f,.int .i64 v]) false).run prog w= .ok (.int .i64 (F (f,v))) w:=by
 obtain⟨tg,s,h1,_⟩:=h;exact h1.map.look hf hv
theorem mi.lrow (h:mi T Bb MB lv P N F B w0 L C Y at_ w)(hne:P≠[]):∃g,lv.1=some ⟨g,0,none⟩:=by
 obtain⟨tg,s,h1,_⟩:=h;obtain⟨q,hq⟩:∃q,P.length=q+1:=⟨P.length-1,by have:=List.length_pos_iff.2 hne;omega⟩
 have hr:=h1.lrow;rw[hq] at hr;rcases hr.2 with⟨_,h2⟩|⟨g,cap,cur,h2,_⟩
 ·cases h2
 ·simp only[Value.slice.injEq] at h2
  exact⟨g,h2.1⟩
theorem mi.lcell (h:mi T Bb MB lv P N F B w0 L C Y at_ w){g i:Nat}{p:Int×Int}(hg:lv.1=some ⟨g,0,none⟩)(hp:P[i]?=some p):w.cell? ⟨g,i*2+0,none⟩=some (.int .i64 p.1)∧w.cell? ⟨g,i*2+1,none⟩=some (.int .i64 p.2)∧g<w.heap.size:=by
 obtain⟨tg,s,h1,_⟩:=h;have hr:=h1.lrow;rw[hg] at hr;have hfl:∀(l:List (Int×Int))(i:Nat)(p:Int×Int),l[i]?=some p→(l.flatMap su)[i*2+0]?=some (.int .i64 p.1)∧(l.flatMap su)[i*2+1]?=some (.int .i64 p.2):=by
  intro l
  induction l with
  |nil=>intro i p hi;simp at hi
  |cons x r ih=>
   intro i p hi;cases i with
   |zero=>
    obtain rfl:x=p:=by simpa using hi
    exact⟨rfl,rfl⟩
   |succ i=>
    obtain⟨a1,a2⟩:=ih i p (by simpa using hi);rw[List.flatMap_cons];refine⟨?_, ?_⟩
    ·rw[List.getElem?_append_right (by simp[su];omega),show(i+1)*2+0-(su x).length=i*2+0 by simp[su];omega];exact a1
    ·rw[List.getElem?_append_right (by simp[su];omega),show(i+1)*2+1-(su x).length=i*2+1 by simp[su];omega];exact a2
 obtain⟨a1,a2⟩:=hfl P i p hp;have c1:=hr.cells (g:=g) rfl _ _ a1;have c2:=hr.cells (g:=g) rfl _ _ a2;rw[Addr.add_lit] at c1 c2;refine⟨by simpa using c1,by simpa using c2, ?_⟩;exact(ai hr (k:=g) rfl).2
def Aa (T Bb MB:Nat)(lv:Option Addr×Nat)(P:List (Int×Int))(N:Int)(F:Int×Int→Int)(B:Nat)(w0:H5)(TT RB:Nat)(c:dQ)(b:Nat→Nat→Nat)(hi:Nat)(L:List (Nat×Obj))(C:List (List Int))(Y:List (Int×Int))(at_:Int×Int)(w:H5):Prop:=
 ∃tg s,As T Bb MB lv P N F C Y at_ B tg s w0 TT RB c b hi w∧Kept L tg w
theorem Aa.woL (h:Aa T Bb MB lv P N F B w0 TT RB c b hi L C Y at_ w):mi T Bb MB lv P N F B w0 L C Y at_ w:=by
 obtain⟨tg,s,h1,h2⟩:=h;exact⟨tg,s,h1.wn,h1.lo,h2⟩
theorem Aa.grow (h:Aa T Bb MB lv P N F B w0 TT RB c b hi L C Y at_ w)(hb:H9 w.heap.size w w'):Aa T Bb MB lv P N F B w0 TT RB c b hi L C Y at_ w':=by
 obtain⟨tg,s,h1,h2⟩:=h;exact⟨tg,s,h1.grow hb,h2.grow hb⟩
theorem Aa.setAt (x y:Int)(h:Aa T Bb MB lv P N F B w0 TT RB c b hi L C Y at_ w):Aa T Bb MB lv P N F B w0 TT RB c b hi L C Y (x,y) ((w.setCell ⟨T,4,none⟩ (.int .i64 x)).setCell ⟨T,5,none⟩ (.int .i64 y)):=by
 obtain⟨tg,s,h1,h2⟩:=h;obtain⟨g1,g2⟩:=FE x y h1.wn;have g3:Ext (fun q=>tg q≠0) w _:=g2.mono (fun q hq=>by rw[hq,h1.wn.t1];decide);exact⟨tg,s,⟨g1,h1.tz.mv g3 (fun k hk=> .inl hk),h1.lo.trans (g2.below (C9 h1.wn) (fun q hq=>by rw[hq];exact(h1.wn.lo T (by rw[h1.wn.t1];decide)).1)),h1.hB⟩,h2.mv g3 (fun k hk=> .inl hk)⟩
theorem Aa.of {tg:Nat→Nat}{s:nU}(h1:As T Bb MB lv P N F C Y at_ B tg s w0 TT RB c b hi w)(h2:Kept L tg w)(hm:aV T Bb MB lv P N F C2 Y2 at2 B tg w w'):Aa T Bb MB lv P N F B w0 TT RB c b hi L C2 Y2 at2 w':=by
 obtain⟨tg',s',g1,g2,g3,_⟩:=h1.mv hm;exact⟨tg',s',g1,h2.mv g2 g3⟩
theorem mi.table2 (h:mi T Bb MB lv P N F B w0 L C Y at_ w)(hB:w0.heap.size=B)(hb:H9 w.heap.size w w')(h1:w.heap.size≤TT)(h2:w.heap.size≤RB)(ht:lQ w' TT RB c b){A:Nat}{o:Obj}(hA:w.heap.size≤A)(hr:w'.heap[A]?=some o):Aa T Bb MB lv P N F B w0 TT RB c b w'.heap.size [(A,o)] C Y at_ w':=by
 obtain⟨tg,s,g1,g2,g3⟩:=h;refine⟨tg,s,⟨g1.grow hb,⟨ht, ?_, ?_,He _,xN g1 h1,fun k hk _=>xN g1 (by omega)⟩,g2.trans (hb.mono (C9 g1)),hB⟩,fun x hx=> ?_⟩
 ·obtain⟨_,h3⟩:=ht.tab
  exact ae h3
 ·by_cases h0:c.ins.length=0
  ·rw[h0,Nat.add_zero];exact ae ht.behind
  ·obtain⟨cur,h3,_⟩:=ht.words (c.ins.length-1) (by omega)
   have:=ae h3;omega
 ·rw[Hq] at hx
  subst hx;exact⟨hr,xN g1 hA⟩
end
theorem Er {i:Ins}(hok:i.ok){w:H5}:∀(c:Array Value),c.size=13→(storeCells ⟨w.heap.size,0,none⟩ i.cells.toList 0).run prog (w.alloc (.cells c 42))= .ok () (w.alloc (.cells i.cells 42)):=fun c hc=>by
 obtain⟨⟨ao,cap,h1⟩,ao2,n2,cap2,h2⟩:=hok;exact run_storeCells_new (P:=prog) w 42 c i.cells (by show _=some 13;kernel_rfl) hc (by simp[Ins.cells,h1,h2,Value.oneCell'])
theorem Es {f v:Int}{w:H5}:∀(c:Array Value),c.size=2→(storeCells ⟨w.heap.size,0,none⟩ [.int .i64 f,.int .i64 v] 0).run prog (w.alloc (.cells c 121))= .ok () (w.alloc (.cells #[.int .i64 f,.int .i64 v] 121)):=fun c hc=>
 run_storeCells_new (P:=prog) w 121 c #[.int .i64 f,.int .i64 v] (by show _=some 2;kernel_rfl) hc (by simp[Value.oneCell'])
end Go.Proofs.YtjomgckjhcfbgaaGreat
