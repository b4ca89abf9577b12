/- Walks. -/
import Derived.Test.YtjomgckjhcfbgaaGreatS7
import Derived.Test.YtjomgckjhcfbgaaGreatS20
set_option maxRecDepth 100000
set_option maxHeartbeats 64000000
set_option linter.all false
namespace Go.Proofs.YtjomgckjhcfbgaaGreat
open Go.RowKit
open _root_.List renaming getElem?_eq_getElem→GN,getElem?_eq_some_iff→GQ,length_append→GU,mem_of_getElem?→GV,take_length→Ha,mem_singleton→Hq,append_assoc→Hr,length_take→Ht
open _root_.Nat renaming lt_of_lt_of_le→Hd,le_refl→He,zero_add→Hf,zero_le→Hg
open _root_.Option renaming some.inj→Hl
open Go.World renaming size_alloc→Hu
open Go.RowKit.Below renaming refl→Hw,heap_alloc→Hy
open Go renaming heap_setCell_same→Hz,World→H5
open Go.RowKit renaming Below→H9,Hid→Ia
open Tryz
structure rU (w:H5)(m:Mo):Prop where
 ri:iI w m
 wf:∀g∈m.fs,∀i∈g.c.ins,bG i.d∧bG i.a∧bG i.b∧bG i.f
 nv:∀g∈m.fs,g.vs.length≤400
 ni:∀g∈m.fs,g.c.ins.length≤400
 nf:m.fs.length≤60
 np:m.ptrs.length≤20000
 nt:m.ptrs.length*m.fs.length+124*bJ m.fs+1000≤1000000
theorem zJ {g:Fn}{w:H5}:∀(c:Array Value),c.size=8→(storeCells ⟨w.heap.size,0,none⟩ g.c.cells.toList 0).run prog (w.alloc (.cells c 38))= .ok () (w.alloc (.cells g.c.cells 38)):=fun c hc=>
 run_storeCells_new (P:=prog) w 38 c g.c.cells (by show _=some 8;kernel_rfl) hc (by simp[dQ.cells,Value.oneCell'])
theorem vH:∀(l d:List Fn)(f:Nat),(bU f l).length≤(bU f (l++d)).length
 |[],d,f=>by simp[bU]
 |x::r,d,f=>by
  rw[List.cons_append];unfold bU;rw[GU,GU];have:=vH r d (f+1);omega
theorem lg {fs:List Fn}(j:Nat):(bU 0 (fs.take j)).length≤(bU 0 fs).length:=by
 have h:=vH (fs.take j) (fs.drop j) 0;rw[List.take_append_drop] at h;exact h
theorem rV {fs:List Fn}{j:Nat}{x:Int×Int}(h:x∈bU 0 (fs.take j)):x.1<(j:Int):=by
 obtain⟨k,g,h1,h2⟩:=iN.1 h;rw[mM h2];have:=(GQ.1 h1).1;rw[Ht] at this;omega
theorem iI.below {w w':H5}{m:Mo}(h:iI w m)(hb:H9 w.heap.size w w'):iI w' m:=⟨h.mo.below hb,h.sl,h.fl,h.fd,h.vl,h.al⟩
theorem Et {w W4:H5}{D B:Nat}(hs:w.heap.size=D)(hB:B≤D)(hW:((w.alloc (.cells #[.int .i64 0,.slice none 0 0] 191)).alloc (.map #[] 0)).alloc (.cells #[.pointer (some ⟨D,0,none⟩),.slice none 0 0,.map (some (D+1)),.slice none 0 0,.int .i64 0,.int .i64 0] 123)=W4):
  Wn (D+2) D (D+1) (none,0) [] (2*(([]:List (Int×Int)).length:Int)) (aM 0 []) [] [] (0,0) B (fun k=>if k=D+2 then 1 else if k=D then 2 else if k=D+1 then 3 else 0) ⟨none,0,none,0,[]⟩ W4:=by
 have hs4:W4.heap.size=D+3:=by rw[←hW];simp[hs]
 have hb:H9 w.heap.size w W4:=by rw[←hW];exact(((Hw _ _).alloc (He _) _).alloc (by simp) _).alloc (by simp;omega) _
 have hDw:=hs;have hM:lM ((w.alloc (.cells #[.int .i64 0,.slice none 0 0] 191)).alloc (.map #[] 0)) (D+1) 0 (fun _=>0):=by
  have:=lM.made (w.alloc (.cells #[.int .i64 0,.slice none 0 0] 191));rw[show(w.alloc (.cells #[.int .i64 0,.slice none 0 0] 191)).heap.size=D+1 by simp[hs]] at this;exact this
 refine⟨?_, ?_, ?_,World.ownsRow_nil _ _ _ _,World.ownsRow_nil _ _ _ _,World.ownsRow_nil _ _ _ _,⟨rfl,fun k c hc=>by simp at hc⟩,by simp,by simp,by simp,fun k hk=>by simp[Value.ownBlock] at hk,fun k hk=>by simp[Value.ownBlock] at hk,fun k hk=>by simp[Value.ownBlock] at hk,fun k hk=> ?_,by simp,by simp,by simp⟩
 ·rw[←hW]
  have:=alloc_at ((w.alloc (.cells #[.int .i64 0,.slice none 0 0] 191)).alloc (.map #[] 0)) (.cells #[.pointer (some ⟨D,0,none⟩),.slice none 0 0,.map (some (D+1)),.slice none 0 0,.int .i64 0,.int .i64 0] 123);have he:((w.alloc (.cells #[.int .i64 0,.slice none 0 0] 191)).alloc (.map #[] 0)).heap.size=D+2:=by simp[hs]
  rw[he] at this;exact this
 ·rw[←hW]
  refine(Hy _ _ D (by simp;omega)).trans ((Hy _ _ D (by simp;omega)).trans ?_);rw[←hs];exact alloc_at _ _
 ·have:(aM 0 ([]:List (Int×Int)))=fun _=>0:=by funext x;rfl
  rw[this,←hW];exact hM.ext (Ext.of_below_size (M:=fun _=>False) ((Hw _ _).alloc (He _) _)) (fun h=>h)
 ·rw[hs4]
  by_cases h1:k=D+2
  ·omega
  by_cases h2:k=D
  ·omega
  by_cases h3:k=D+1
  ·omega
  simp[h1,h2,h3] at hk
def GM (T Bb MB B:Nat)(w0:H5)(m:Mo)(k:Value)(wr:H5):Prop:=
 ∃j:Nat,j≤m.fs.length∧k= .int .i64 (j:Int)∧∃lv,Wo T Bb MB lv (bU 0 (m.fs.take j)) (2*((bU 0 (m.fs.take j)).length:Int)) (aM 0 (bU 0 (m.fs.take j))) B w0 [] [] (0,0) wr
theorem og (m:Mo)(w:H5)(h:rU w m)(hr:gF m=0):
  Calls prog 15 #[.agg m.cells] w fun e w'=>∃T Bb MB lv at_,e= .returned (.tuple #[.pointer (some ⟨T,0,none⟩),.int .i64 0])∧Wo T Bb MB lv m.ptrs (2*(m.ptrs.length:Int)) (aM 0 m.ptrs) (w.heap.size+1) (w.alloc (.cells m.cells 25)) ((m.wants (fM m)).map Prod.fst) ((m.wants (fM m)).map Prod.snd) at_ w':=by
 obtain⟨N0,hN0⟩:=zE w.heap.size;obtain⟨W0,hW0⟩:=zE (w.alloc (.cells m.cells 25));have hb0:=gK hW0;have hs0:W0.heap.size=N0+1:=by rw[←hW0];simp[hN0]
 have hr0:W0.heap[N0]?=some (.cells m.cells 25 (0,0)):=by rw[←hW0,←hN0];exact alloc_at _ _
 rw[hN0,hW0];have hin0:m.inn W0:=h.ri.mo.below hb0;have hnf:=h.nf;have HRT:=zH (yU m W0 (h.ri.below hb0));rw[hr] at HRT;have HIN:=zH hin0;have HW:=zH h;have HR:=zH hr;have HS0:=zH hs0;have HR0:=zH hr0;have hne:m.fs≠[]:=by
  intro e;have:=(gX hr).2.2.2.2.2;unfold Mo.fnIx fZ at this;rw[e] at this;simp at this
 obtain⟨fb,fo,hfA,hfb,hfc⟩:=hin0.frow hne;have HCELL:Ia (∀W,H9 W0.heap.size W0 W→W.cell? ⟨N0,0,none⟩=some (.slice m.sA m.ss.length m.sC)∧W.cell? ⟨N0,1,none⟩=some (.slice (some ⟨fb,fo,none⟩) m.fs.length m.fC)∧N0<W.heap.size):=fun W hW=>by
  have r:=(hW.block N0 (ae hr0)).trans hr0;rw[←hfA];exact⟨(rowAt r 0 rfl).1,(rowAt r 1 rfl).1,ae r⟩
 have HFN:Ia (∀W,H9 W0.heap.size W0 W→(∀(j:Nat)(g:Fn),m.fs[j]?=some g→∀(q:Nat)(u:Value),g.c.cells.toList[q]?=some u→W.cell? ⟨fb,fo+j*8+q,none⟩=some u)∧fb<W.heap.size):=fun W hW=>⟨fun j g hj q u hu=>by rw[hW.cell (p:=⟨fb,_,none⟩) hfb];exact hfc j g hj q u hu,Hd hfb hW.size⟩
 have HW0:Ia (w.alloc (.cells #[.slice m.sA m.ss.length m.sC,.slice (some ⟨fb,fo,none⟩) m.fs.length m.fC] 25)=W0):=by rw[←hfA];exact hW0
 obtain⟨k0,k1,k2⟩:=HCELL.out W0 (Hw _ _);unfold Mo.cells at HRT⊢;rw[hfA] at HRT⊢;clear h hr hb0 hs0 hr0 hin0 hW0 hfA hfb hfc;go_enter func15,ntmps15
 go_upto_region 1 with(fail)
 rw[HW0.out]
 go_upto_region 2 with(go_at_call 53;refine HRT.out.mono ?_;rintro e w1 ⟨rfl,hb1⟩;have HB1:=zH hb1;clear hb1)
 clear k0 k1 k2;have HNEW:=zH (xM w1);have hle:H9 W0.heap.size W0 w1:=HB1.out;obtain⟨W4,hW4⟩:=zE (((w1.alloc (.cells #[.int .i64 0,.slice none 0 0] 191)).alloc (.map #[] 0)).alloc (.cells #[.pointer (some ⟨w1.heap.size,0,none⟩),.slice none 0 0,.map (some (w1.heap.size+1)),.slice none 0 0,.int .i64 0,.int .i64 0] 123));have hb14:H9 w1.heap.size w1 W4:=by rw[←hW4];exact(((Hw _ _).alloc (He _) _).alloc (by simp) _).alloc (by simp;omega) _
 have hb04:H9 W0.heap.size W0 W4:=hle.trans (hb14.mono hle.size);have hwn:=Et rfl (B:=N0+1) (by have:=hle.size;have:=HS0.out;omega) hW4;obtain⟨D,hD⟩:=zE w1.heap.size;rw[hD] at hwn hW4;have HWO:Ia (Wo (D+2) D (D+1) (none,0) [] (2*(([]:List (Int×Int)).length:Int)) (aM 0 []) (N0+1) W0 [] [] (0,0) W4):=⟨_,_,hwn,by rw[←HS0.out];exact hb04⟩
 have HW4:=zH hW4;have HB04:=zH hb04;have HD:=zH hD;clear hle hW4 hb14 hb04 hwn hD;have hmm:=@run_makeMap prog
 go_upto_region 5 with(go_at_call 54;refine HNEW.out.mono ?_;rintro e w2 ⟨rfl,rfl⟩)
 (try rw[HD.out]);(try rw[HW4.out]);(try simp only[HD.out]);simp only[show D+1+1=D+2 from rfl];clear hmm HNEW;obtain⟨k0,k1,k2⟩:=HCELL.out W4 HB04.out
 go_upto_region 6 with(fail)
 clear k0 k1 k2
 go_loopw [27] (fun kk wr=>GM (D+2) D (D+1) (N0+1) W0 m kk wr) (fun kk _=>m.fs.length-(intOf kk).toNat)
 case atStart=>exact⟨0,Hg _,rfl,(none,0),HWO.out⟩
 case round=>
  obtain⟨j,hj,rfl,lv,hwo⟩:=hrel;have hlo:H9 W0.heap.size W0 wr:=by obtain⟨_,_,_,h2⟩:=hwo;rw[HS0.out];exact h2
  by_cases hjl:j<m.fs.length
  ·obtain⟨g,hg⟩:∃g,m.fs[j]?=some g:=⟨_,GN hjl⟩
   have hjI:(j:Int)<(m.fs.length:Int):=by omega
   have hgm:=GV hg;obtain⟨hfc,hfl⟩:=HFN.out wr hlo;have x0:=hfc j g hg 0 _ rfl;have x1:=hfc j g hg 1 _ rfl;have x2:=hfc j g hg 2 _ rfl;have x3:=hfc j g hg 3 _ rfl;have x4:=hfc j g hg 4 _ rfl;have x5:=hfc j g hg 5 _ rfl;have x6:=hfc j g hg 6 _ rfl;have x7:=hfc j g hg 7 _ rfl;rw[Nat.add_zero] at x0;have hst:=zJ (g:=g) (w:=wr);have hgi:=HIN.out.fin g hgm;obtain⟨tg,s,hwn,hlw⟩:=hwo;obtain⟨G,hG⟩:=zE wr.heap.size;obtain⟨W2,hW2⟩:=zE (wr.alloc (.cells g.c.cells 38));have hb2:=gK hW2;have hr2:W2.heap[G]?=some (.cells g.c.cells 38 (0,0)):=by rw[←hW2,←hG];exact alloc_at _ _
   have hlw2:H9 (N0+1) W0 W2:=hlw.trans (hb2.mono (by rw[←HS0.out];exact hlo.size));have hpl:(bU 0 (m.fs.take j)).length≤m.ptrs.length:=lg j;have HNM:=zG (w0:=W0) W2 g j (hwn.grow hb2) hlw2 HS0.out hgi.nvars hgi.vars (HW.out.nv g hgm) (by have:=HW.out.nf;omega) (fun x hx=>rV hx) (by have:=HW.out.np;omega);have HSN:Ia (bU 0 (m.fs.take (j+1))=bU 0 (m.fs.take j)++cO (j:Int) g):=by
    unfold Ia;rw[aS hg,kz,Hf,Ht,Nat.min_eq_left (by omega)]
   unfold dQ.cells at HNM hst hr2 hW2;have HNM:=zH HNM;have HW2:=zH hW2;have HR2:=zH hr2;have HWN:=zH (hwn.grow hb2);have HLW:=zH hlw2;clear hfc hgi hwn hlw hb2 hr2 hW2 hlw2 hg
   go_upto_region 8 with(fail)
   (try rw[HW2.out]);(try rw[hG]);have y0:=(rowAt HR2.out 0 rfl).1;have y1:=(rowAt HR2.out 1 rfl).1;have y2:=(rowAt HR2.out 2 rfl).1;have y3:=(rowAt HR2.out 3 rfl).1;have y4:=(rowAt HR2.out 4 rfl).1;have y5:=(rowAt HR2.out 5 rfl).1;have y6:=(rowAt HR2.out 6 rfl).1;have y7:=(rowAt HR2.out 7 rfl).1;have hGl:=ae HR2.out;clear x0 x1 x2 x3 x4 x5 x6 x7 hst hG HW2
   go_wp2_with (go_at_call 55;refine HNM.out.mono ?_;rintro e w3 ⟨rfl,lv3,hm3⟩;have HM3:=zH hm3;clear hm3)
   go_roundw
   case rel=>exact⟨j+1,hjl,by go_num,lv3,by rw[HSN.out];exact Wo.of HLW.out HWN.out HM3.out⟩
   case measure=>simp[intOf];omega
  ·have hje:j=m.fs.length:=by omega
   have hwo2:Wo (D+2) D (D+1) lv m.ptrs (2*(m.ptrs.length:Int)) (aM 0 m.ptrs) (N0+1) W0 [] [] (0,0) wr:=by rw[hje,Ha] at hwo;exact hwo
   have HWO2:=zH hwo2;have HLO:=zH hlo;obtain⟨k0,k1,k2⟩:=HCELL.out wr hlo;clear hwo hwo2 hje hlo;obtain⟨wo,hwo⟩:=zE wr;rw[hwo] at HWO2 HLO k0 k1 k2⊢;clear hwo wr
   go_upto_region 11 with(fail)
   clear k0 k1 k2;obtain⟨lA,lC⟩:=lv;obtain⟨Ps,hPs⟩:=zE m.ptrs;obtain⟨Cf,hCf⟩:=zE ((fun j=>iq m.ptrs (fM m) 0 (m.fs.take j)):Nat→List (List Int×(Int×Int)));have HCF:Ia (∀j,Cf j=iq m.ptrs (fM m) 0 (m.fs.take j)):=fun j=>by rw[←hCf]
   have HPS:=zH hPs;rw[hPs] at HWO2;have HWL0:Ia (Wo (D+2) D (D+1) (lA,lC) Ps (2*(Ps.length:Int)) (aM 0 Ps) (N0+1) W0 ((Cf 0).map Prod.fst) ((Cf 0).map Prod.snd) (0,0) wo):=by
    unfold Ia;rw[HCF.out,List.take_zero];exact HWO2.out
   clear hCf hPs
   go_loopw [40] (fun kk wr=>∃j:Nat,j≤m.fs.length∧kk= .int .i64 (j:Int)∧∃at_,Wo (D+2) D (D+1) (lA,lC) Ps (2*(Ps.length:Int)) (aM 0 Ps) (N0+1) W0 ((Cf j).map Prod.fst) ((Cf j).map Prod.snd) at_ wr) (fun kk _=>m.fs.length-(intOf kk).toNat)
   case atStart=>exact⟨0,Hg _,rfl,(0,0),HWL0.out⟩
   case round=>
    obtain⟨j,hj,rfl,at0,hwo⟩:=hrel;have hlo:H9 W0.heap.size W0 wr:=by obtain⟨_,_,_,h2⟩:=hwo;rw[HS0.out];exact h2
    obtain⟨wx,hwx⟩:=zE wr;rw[hwx] at hwo hlo⊢;clear hwx wr
    by_cases hjl:j<m.fs.length
    ·obtain⟨g,hg⟩:∃g,m.fs[j]?=some g:=⟨_,GN hjl⟩
     have hjI:(j:Int)<(m.fs.length:Int):=by omega
     have hgm:=GV hg;obtain⟨hfc,hfl⟩:=HFN.out wx hlo;have x0:=hfc j g hg 0 _ rfl;have x1:=hfc j g hg 1 _ rfl;have x2:=hfc j g hg 2 _ rfl;have x3:=hfc j g hg 3 _ rfl;have x4:=hfc j g hg 4 _ rfl;have x5:=hfc j g hg 5 _ rfl;have x6:=hfc j g hg 6 _ rfl;have x7:=hfc j g hg 7 _ rfl;rw[Nat.add_zero] at x0;have hst:=zJ (g:=g) (w:=wx);obtain⟨G,hG⟩:=zE wx.heap.size;obtain⟨W2,hW2⟩:=zE (wx.alloc (.cells g.c.cells 38));have hb2:=gK hW2;have hr2:W2.heap[G]?=some (.cells g.c.cells 38 (0,0)):=by rw[←hW2,←hG];exact alloc_at _ _
     have hwl:=hwo.kept hb2 (by rw[hG];exact He _) hr2;have HSN:Ia (Cf (j+1)=Cf j++(dH (j:Int) 0 Ps++eP Ps (j:Int) (fM m j) 0 g.c.ins)):=by
      unfold Ia;rw[HCF.out,HCF.out,aS hg,rR,Hf,Ht,Nat.min_eq_left (by omega),HPS.out]
     have HG:=zH hg;unfold dQ.cells at hst hW2;have HW2:=zH hW2;have HWL:=zH hwl;clear hfc hb2 hr2 hW2 hg hwo hlo hwl
     go_upto_region 13 with(fail)
     (try rw[HW2.out]);(try rw[hG]);clear x0 x1 x2 x3 x4 x5 x6 x7 hst hG HW2;obtain⟨⟨t4,f4⟩,⟨t5,f5⟩,tl,t1,t2⟩:=HWL.out.row
     go_upto_region 14 with(fail)
     have hwl3:=HWL.out.setAt (j:Int) (-1);obtain⟨W3,hW3⟩:=zE ((W2.setCell ⟨D+2,4,none⟩ (.int .i64 (j:Int))).setCell ⟨D+2,5,none⟩ (.int .i64 (-1)));rw[hW3] at hwl3;(try rw[hW3]);have HWL3:=zH hwl3;clear t4 f4 t5 f5 tl t1 t2 hwl3 hW3;obtain⟨_,_,tl,t1,t2⟩:=HWL3.out.row
     go_upto_region 15 with(fail)
     clear tl t1 t2;have HCC:Ia (∃cc,(#[.string g.c.nm,.int .i64 g.c.par,.slice g.c.varsA g.c.nvars g.c.varsC,.bool g.c.rp,.string g.c.rto,.int .i64 g.c.rcl,.slice g.c.fromA g.c.nfrom g.c.fromC,.slice g.c.insA g.c.ins.length g.c.insC]:Array Value)=cc):=⟨_,rfl⟩
     obtain⟨o,ho⟩:=zE ((.cells g.c.cells 38 (0,0)):Obj);rw[ho] at HWL3;have HO:=zH ho;have hPl:Ps.length≤20000:=by rw[←HPS.out];exact HW.out.np
     have hCtot:(Cf j).length+(Ps.length+124*g.c.ins.length)+900≤1000000:=by
      have h1:=vG (P:=m.ptrs) (beh:=fM m) (m.fs.take j) 0 (fun g hg i hi=>HW.out.ri.al g (List.mem_of_mem_take hg) i hi);rw[HCF.out];have h2:=HW.out.nt;have hg':=HG.out;have h3:bJ (m.fs.take (j+1))≤bJ m.fs:=by
       have e:bJ m.fs=bJ (m.fs.take (j+1))+bJ (m.fs.drop (j+1)):=by
        unfold bJ;rw[←List.sum_append,←List.map_append,List.take_append_drop]
       omega
      have h5:bJ (m.fs.take (j+1))=bJ (m.fs.take j)+g.c.ins.length:=by
       unfold bJ;rw[aS hg',List.map_append,List.sum_append];simp
      have h4:m.ptrs.length*((m.fs.take j).length+1)≤m.ptrs.length*m.fs.length:=Nat.mul_le_mul_left _ (by rw[Ht];omega);rw[Nat.mul_succ] at h4;rw[←HPS.out];omega
     have HNOD:Ia (Ps.Nodup):=by unfold Ia;rw[←HPS.out];exact m.ptrs_nodup
     have HWF:Ia (∀p∈Ps,bG p.1∧bG p.2):=fun p hp=>by
      rw[←HPS.out] at hp;obtain⟨p1,p2⟩:=p;obtain⟨k,gg,h1,h2,h3⟩:=qj hp;have hk:=(GQ.1 h1).1;have:=HW.out.nf;have hv:=HW.out.nv gg (GV h1);refine⟨by unfold bG;show _≤p1∧p1≤_;omega, ?_⟩;rcases h3 with⟨h3,_⟩|⟨h3,_⟩
      ·unfold bG;show _≤p2∧p2≤_;omega
      ·have:=bO.1 h3;unfold bG;show _≤p2∧p2≤_;omega
     clear ho
     go_loopw [55] (fun kk wr=>∃i:Nat,i≤Ps.length∧kk= .int .i64 (i:Int)∧mi (D+2) D (D+1) (lA,lC) Ps (2*(Ps.length:Int)) (aM 0 Ps) (N0+1) W0 [(G,o)] ((Cf j++dH (j:Int) 0 (Ps.take i)).map Prod.fst) ((Cf j++dH (j:Int) 0 (Ps.take i)).map Prod.snd) ((j:Int),-1) wr) (fun kk _=>Ps.length-(intOf kk).toNat)
     case atStart=>exact⟨0,Hg _,rfl,by rw[List.take_zero];show mi _ _ _ _ _ _ _ _ _ _ ((Cf j++[]).map _) ((Cf j++[]).map _) _ _;rw[List.append_nil];exact HWL3.out⟩
     case round=>
      obtain⟨i,hi,rfl,hwi⟩:=hrel;obtain⟨wy,hwy⟩:=zE wr;rw[hwy] at hwi⊢;clear hwy wr
      by_cases hil:i<Ps.length
      ·obtain⟨p,hp⟩:∃p,Ps[i]?=some p:=⟨_,GN hil⟩
       have hiI:(i:Int)<(Ps.length:Int):=by omega
       obtain⟨gl,hgl⟩:=hwi.lrow (by intro e;rw[e] at hil;simp at hil);simp only at hgl;obtain⟨c0,c1,hll⟩:=hwi.lcell (g:=gl) (i:=i) (by simpa using hgl) hp;rw[Nat.add_zero] at c0;subst hgl;have hpm:=GV hp;obtain⟨hwf1,hwf2⟩:=HWF.out p hpm;have hst:=Es (f:=p.1) (v:=p.2) (w:=wy);obtain⟨H,hH⟩:=zE wy.heap.size;obtain⟨W5,hW5⟩:=zE (wy.alloc (.cells #[.int .i64 p.1,.int .i64 p.2] 121));have hb5:=gK hW5;have hr5:W5.heap[H]?=some (.cells #[.int .i64 p.1,.int .i64 p.2] 121 (0,0)):=by rw[←hW5,←hH];exact alloc_at _ _
       have hwl5:=hwi.grow hb5;have hlen:=lH (f:=(j:Int)) (Ps.take i) 0;rw[Ht] at hlen;have hown:aM 0 Ps p=2*(i:Int)+1:=by rw[zw HNOD.out hp];omega
       have hsn:dH (j:Int) 0 (Ps.take (i+1))=dH (j:Int) 0 (Ps.take i)++(if p.1=(j:Int) then[([-(2*(i:Int)+1),-(2*(i:Int)+2)],((j:Int),(-1:Int)))] else[]):=by
        rw[aS hp,rQ,Hf,Ht,Nat.min_eq_left (by omega)]
       have HSN2:=zH hsn;have HOWN:=zH hown;have HWL5:=zH hwl5;have HW5:=zH hW5;have HR5:=zH hr5;clear hwi hp hpm hb5 hr5 hwl5 hW5 hsn hown
       go_upto_region 17 with(fail)
       (try rw[HW5.out]);(try rw[hH]);clear c0 c1 hst hH HW5;have d0:=(rowAt HR5.out 0 rfl).1;have hHl:=ae HR5.out
       by_cases hpj:p.1=(j:Int)
       ·have hpb:(p.1==(j:Int))=true:=by rw[hpj];exact beq_self_eq_true _
        have hsn2:=HSN2.out;rw[if_pos hpj] at hsn2;have HSN3:=zH hsn2;clear hsn2 HSN2 hpj
        go_upto_region 18 with(fail)
        clear d0;obtain⟨z,hz⟩:=zE (2*(i:Int)+1);have hz0:0≤z∧z≤40001:=by omega
        obtain⟨S1,hS1⟩:=zE ((fun w'=>H9 W5.heap.size W5 w'):H5→Prop);have hS1d:S1 W5.drew:=by rw[←hS1];exact(Hw _ _).drew
        have HSB:Ia (∀W,H9 W5.heap.size W5 W→S1 W):=fun W hW=>by rw[←hS1];exact hW
        have HCE1:Ia (∀w,S1 w→w.cell? ⟨H,0,none⟩=some (.int .i64 p.1)∧w.cell? ⟨H,1,none⟩=some (.int .i64 p.2)∧(D+2<w.heap.size∧H<w.heap.size)∧w.cell? ⟨D+2,2,none⟩=some (.map (some (D+1)))∧(Instr.lookup 118 (.map (some (D+1))) (.agg #[.int .i64 p.1,.int .i64 p.2]) false).run prog w= .ok (.int .i64 z) w):=fun w hw=>by
         rw[←hS1] at hw;have hg:=HWL5.out.grow hw;have r:=(hw.block H (ae HR5.out)).trans HR5.out;obtain⟨_,_,e1,_,e2⟩:=hg.row;refine⟨(rowAt r 0 rfl).1,(rowAt r 1 rfl).1,⟨e1,ae r⟩,e2, ?_⟩;have:=hg.look hwf1 hwf2;rw[show(p.1,p.2)=p from rfl,HOWN.out,hz] at this;exact this
        clear hS1;have w1:IntKind.i64.wrap (-z)= -z:=by simp[IntKind.wrap,IntKind.bits,IntKind.signed];omega
        have w2:IntKind.i64.wrap (z+1)=z+1:=by simp[IntKind.wrap,IntKind.bits,IntKind.signed];omega
        have w3:IntKind.i64.wrap (-(z+1))= -(z+1):=by simp[IntKind.wrap,IntKind.bits,IntKind.signed];omega
        refine aj 17 S1 (by kernel_rfl) ?_;refine zT 0 rfl HCE1.out ?_;(try go_simp);refine zT 1 rfl HCE1.out ?_;(try go_simp);refine zT 2 rfl HCE1.out ?_;(try go_simp);refine zT 3 rfl HCE1.out ?_;(try go_simp);refine zT 4 rfl HCE1.out ?_;(try go_simp);refine zT 5 rfl HCE1.out ?_;(try go_simp);refine zT 6 rfl HCE1.out ?_;(try go_simp);refine zT 7 rfl HCE1.out ?_;(try go_simp);refine zT 8 rfl HCE1.out ?_;(try go_simp);refine zT 9 rfl HCE1.out ?_;(try go_simp);refine zT 10 rfl HCE1.out ?_;(try go_simp);refine zT 11 rfl HCE1.out ?_;(try go_simp);refine zT 12 rfl HCE1.out ?_;(try go_simp);refine zT 13 rfl HCE1.out ?_;(try go_simp);refine zT 14 rfl HCE1.out ?_;(try go_simp);refine zT 15 rfl HCE1.out ?_;(try go_simp);refine zO 16 rfl fun K' hK=> ?_;go_simp;(try simp only[w1,w2,w3]);obtain⟨G8,hG8⟩:=zE W5.heap.size;obtain⟨W8,hW8⟩:=zE ((W5.alloc (.cells #[.int .i64 (-z),.int .i64 (-(z+1))] 3)).drew);(try rw[hG8]);(try rw[hW8]);have hb8:H9 W5.heap.size W5 W8:=by rw[←hW8];exact((Hw _ _).alloc (He _) _).drew
        have hrG:W8.heap[G8]?=some (.cells #[.int .i64 (-z),.int .i64 (-(z+1))] 3 (0,0)):=by rw[←hW8,←hG8];exact alloc_at _ _
        have hS8:S1 W8:=HSB.out _ hb8;refine hK _ _ hS8 ?_;clear hK;(try go_simp);refine zK rfl fun K' hK=> ?_;go_simp;have HPUT:=zH ((HWL5.out.grow hb8).put (by omega) (some ⟨G8,0,none⟩) [-z,-(z+1)] 2 (ak.lit2 W8 _ _ hrG) (zI (N:=2*(Ps.length:Int)) (jA (by unfold gD;omega) (by unfold gD;omega))) (by simp) (by rw[List.length_map,GU];omega) (by rw[List.length_map,GU];omega));go_at_call 56;refine HPUT.out.mono ?_;rintro e w9 ⟨rfl,hm9⟩;refine hK _ _ ?_;clear hK;refine⟨by kernel_rfl, ?_⟩;have HM9:=zH hm9;clear hm9 hb8 hrG hW8 hG8 hS8 hS1d HPUT HCE1 HSB;go_wp2;go_roundw
        case rel=>
         refine⟨i+1,hil,by go_num, ?_⟩;rw[HSN3.out,←Hr,List.map_append,List.map_append (f:=Prod.snd)];have:=HM9.out;rw[show-(z+1)= -(2*(i:Int)+2) by omega,←hz] at this;exact this
        case measure=>simp[intOf];omega
       ·have hpb:(p.1==(j:Int))=false:=beq_false_of_ne hpj
        have hsn2:=HSN2.out;rw[if_neg hpj,List.append_nil] at hsn2;have HSN3:=zH hsn2;clear hsn2 HSN2 hpj;go_wp2;go_roundw
        case rel=>exact⟨i+1,hil,by go_num,by rw[HSN3.out];exact HWL5.out⟩
        case measure=>simp[intOf];omega
      ·have hie:i=Ps.length:=by omega
       rw[hie,Ha] at hwi;clear hie;have hrG:=hwi.keeps (Hq.2 rfl);rw[←HO.out] at hrG;have hlo:H9 W0.heap.size W0 wy:=by obtain⟨_,_,_,h2,_⟩:=hwi;rw[HS0.out];exact h2
       obtain⟨S1,hS1⟩:=zE ((fun w'=>H9 wy.heap.size wy w'):H5→Prop);have hS1d:S1 wy.drew:=by rw[←hS1];exact(Hw _ _).drew
       have HSB:Ia (∀W,H9 wy.heap.size wy W→S1 W):=fun W hW=>by rw[←hS1];exact hW
       have HCE1:Ia (∀w,S1 w→(w.cell? ⟨N0,0,none⟩=some (.slice m.sA m.ss.length m.sC)∧w.cell? ⟨N0,1,none⟩=some (.slice (some ⟨fb,fo,none⟩) m.fs.length m.fC)∧N0<w.heap.size)∧(w.cell? ⟨G,0,none⟩=some (.string g.c.nm)∧w.cell? ⟨G,1,none⟩=some (.int .i64 g.c.par)∧w.cell? ⟨G,2,none⟩=some (.slice g.c.varsA g.c.nvars g.c.varsC)∧w.cell? ⟨G,3,none⟩=some (.bool g.c.rp)∧w.cell? ⟨G,4,none⟩=some (.string g.c.rto)∧w.cell? ⟨G,5,none⟩=some (.int .i64 g.c.rcl)∧w.cell? ⟨G,6,none⟩=some (.slice g.c.fromA g.c.nfrom g.c.fromC)∧w.cell? ⟨G,7,none⟩=some (.slice g.c.insA g.c.ins.length g.c.insC))∧G<w.heap.size):=fun w hw=>by
        rw[←hS1] at hw;have r:=(hw.block G (ae hrG)).trans hrG;exact⟨HCELL.out w (hlo.trans (hw.mono hlo.size)),⟨(rowAt r 0 rfl).1,(rowAt r 1 rfl).1,(rowAt r 2 rfl).1,(rowAt r 3 rfl).1,(rowAt r 4 rfl).1,(rowAt r 5 rfl).1,(rowAt r 6 rfl).1,(rowAt r 7 rfl).1⟩,ae r⟩
       have hgi:=HIN.out.fin g hgm;have hni:=HW.out.ni g hgm;have hnv:=HW.out.nv g hgm;have HLV:=fun(W:H5) (hW:H9 wy.heap.size wy W)=>tZ g.c W ((hgi.code.below hlo).below hW) hni (by rw[hgi.nvars];exact hnv) (HW.out.ri.al g hgm) (by rw[hgi.nvars];exact Bv HR.out hgm);unfold dQ.cells at HLV;have HLV:=zH HLV;have HWI:=zH hwi;have HLO:=zH hlo;have HGI:=zH hgi;have HRG:=zH hrG;clear hS1 hwi hlo hrG hgi
       go_upto_region 20 with(fail)
       go_cut [12] (fun s12 wc=>∃(A TT RB:Nat) (tb:Nat→Nat→Nat) (hi:Nat),s12= .pointer (some ⟨A,0,none⟩)∧Aa (D+2) D (D+1) (lA,lC) Ps (2*(Ps.length:Int)) (aM 0 Ps) (N0+1) W0 TT RB g.c tb hi [(A,.cells #[.pointer (some ⟨D+2,0,none⟩),.int .i64 (j:Int),.slice m.sA m.ss.length m.sC,.slice (some ⟨fb,fo,none⟩) m.fs.length m.fC,.pointer (some ⟨TT,0,none⟩)] 129 (0,0))] ((Cf j++dH (j:Int) 0 Ps).map Prod.fst) ((Cf j++dH (j:Int) 0 Ps).map Prod.snd) ((j:Int),-1) wc∧wc.heap[G]?=some (.cells g.c.cells 38 (0,0)))
       case first=>
        refine aj 7 S1 (by kernel_rfl) ?_;refine zT 0 rfl HCE1.out ?_;(try go_simp);refine zT 1 rfl HCE1.out ?_;(try go_simp);refine zT 2 rfl HCE1.out ?_;(try go_simp);refine zT 3 rfl HCE1.out ?_;(try go_simp);refine kM (i:=4) (j:=6) (by kernel_rfl) (by decide) (by decide) rfl rfl (fun K' hK=> ?_) (fun K' hK=> ?_)
        ·rw[if_pos (by rfl)]
         go_simp;go_at_call 57;refine(HLV.out wy.drew (Hw _ _).drew).mono ?_;rintro e w6 ⟨TT,RA,RB,ta,tb,rfl,ht1,ht2,htab,hb6⟩;have hb6d:H9 wy.heap.size wy w6:=(Hw _ _).drew.trans hb6;have hS6:S1 w6:=HSB.out _ hb6d;refine hK _ _ hS6 ?_;clear hK;(try go_simp);refine zT 5 rfl HCE1.out ?_;(try go_simp);refine zO 6 rfl fun K' hK=> ?_;go_simp;obtain⟨A,hA⟩:=zE w6.heap.size;obtain⟨W7,hW7⟩:=zE (w6.alloc (.cells #[.pointer none,.int .i64 0,.slice none 0 0,.slice none 0 0,.pointer none] 129));(try rw[hA]);(try rw[hW7]);have hb67:=gK hW7;have hb7:H9 wy.heap.size wy W7:=hb6d.trans (hb67.mono hb6d.size);have hrA:W7.heap[A]?=some (.cells #[.pointer none,.int .i64 0,.slice none 0 0,.slice none 0 0,.pointer none] 129 (0,0)):=by rw[←hW7,←hA];exact alloc_at _ _
         have hAl:=ae hrA;obtain⟨e0,f0⟩:=rowAt hrA 0 rfl;obtain⟨e1,f1⟩:=rowAt hrA 1 rfl;obtain⟨e2,f2⟩:=rowAt hrA 2 rfl;obtain⟨e3,f3⟩:=rowAt hrA 3 rfl;obtain⟨e4,f4⟩:=rowAt hrA 4 rfl;have hS7:S1 W7:=HSB.out _ hb7;refine hK _ _ hS7 ?_;clear hK;(try go_simp);refine zK rfl fun K' hK=> ?_;go_simp;have hrAz:=hrA;have hTTl:=ae htab.tab.tab;have hRBl:RB+g.c.ins.length<w6.heap.size:=by
          by_cases h0:g.c.ins.length=0
          ·rw[h0,Nat.add_zero];exact ae htab.tab.behind
          ·obtain⟨cur,h3,_⟩:=htab.tab.words (g.c.ins.length-1) (by omega)
           have:=ae h3;omega
         have h6A:=hb6d.size;refine hK _ _ ?_;clear hK;refine⟨by kernel_rfl, ?_⟩;obtain⟨WZ,hWZ⟩:=zE (((((W7.setCell ⟨A,0,none⟩ (.pointer (some ⟨D+2,0,none⟩))).setCell ⟨A,1,none⟩ (.int .i64 (j:Int))).setCell ⟨A,2,none⟩ (.slice m.sA m.ss.length m.sC)).setCell ⟨A,3,none⟩ (.slice (some ⟨fb,fo,none⟩) m.fs.length m.fC)).setCell ⟨A,4,none⟩ (.pointer (some ⟨TT,0,none⟩)));(try rw[hWZ]);have hxZ:Ext (·=A) W7 WZ:=by rw[←hWZ];exact aa (aa (aa (aa (aa (Ext.refl _ _) _) _) _) _) _
         have hrZ:WZ.heap[A]?=some (.cells #[.pointer (some ⟨D+2,0,none⟩),.int .i64 (j:Int),.slice m.sA m.ss.length m.sC,.slice (some ⟨fb,fo,none⟩) m.fs.length m.fC,.pointer (some ⟨TT,0,none⟩)] 129 (0,0)):=by rw[←hWZ];exact Hz _ A 4 _ _ _ (Hz _ A 3 _ _ _ (Hz _ A 2 _ _ _ (Hz _ A 1 _ _ _ (Hz _ A 0 _ _ _ hrAz))))
         have hbZ:H9 wy.heap.size wy WZ:=hb7.trans (hxZ.below hb7.size (fun q hq=>by omega));have htZ:lQ WZ TT RB g.c tb:=((lQ.of htab).below hb67).ext hxZ (fun e=>by omega) (fun k hk _ e=>by omega);have hasl:=mi.table2 HWI.out HS0.out hbZ (by have:=(show wy.heap.size≤TT∧wy.heap.size≤RB from And.intro ht1 ht2);omega) (by have:=(show wy.heap.size≤TT∧wy.heap.size≤RB from And.intro ht1 ht2);omega) htZ (A:=A) (by omega) hrZ;have HASL:=zH hasl;have HRGZ:=zH ((hbZ.block G (ae HRG.out)).trans HRG.out);clear hasl hxZ hrZ hbZ htZ hWZ hrAz;go_wp2
         go_meet
         case rel=>exact⟨A,TT,RB,tb,_,rfl,HASL.out,HRGZ.out⟩
        ·rw[if_pos (by rfl)]
         go_simp;obtain⟨A,hA⟩:=zE wy.heap.size;obtain⟨W7,hW7⟩:=zE ((wy.alloc (.cells #[.pointer none,.int .i64 0,.slice none 0 0,.slice none 0 0,.pointer none] 129)).drew);(try rw[hA]);(try rw[hW7]);have hb7:H9 wy.heap.size wy W7:=by rw[←hW7];exact((Hw _ _).alloc (He _) _).drew
         have hrA:W7.heap[A]?=some (.cells #[.pointer none,.int .i64 0,.slice none 0 0,.slice none 0 0,.pointer none] 129 (0,0)):=by rw[←hW7,←hA];exact alloc_at _ _
         have hS7:S1 W7:=HSB.out _ hb7;refine hK _ _ hS7 ?_;clear hK;(try go_simp);refine zO 4 rfl fun K' hK=> ?_;go_simp;go_at_call 57;refine(HLV.out W7 hb7).mono ?_;rintro e w6 ⟨TT,RA,RB,ta,tb,rfl,ht1,ht2,htab,hb6⟩;have hb6d:H9 wy.heap.size wy w6:=hb7.trans (hb6.mono hb7.size);have hS6:S1 w6:=HSB.out _ hb6d;have hrA6:=(hb6.block A (ae hrA)).trans hrA;have hAl:=ae hrA6;obtain⟨e0,f0⟩:=rowAt hrA6 0 rfl;obtain⟨e1,f1⟩:=rowAt hrA6 1 rfl;obtain⟨e2,f2⟩:=rowAt hrA6 2 rfl;obtain⟨e3,f3⟩:=rowAt hrA6 3 rfl;obtain⟨e4,f4⟩:=rowAt hrA6 4 rfl;refine hK _ _ hS6 ?_;clear hK;(try go_simp);refine zT 5 rfl HCE1.out ?_;(try go_simp);refine zK rfl fun K' hK=> ?_;go_simp;have hrAz:=hrA6;have hAl7:=ae hrA;refine hK _ _ ?_;clear hK;refine⟨by kernel_rfl, ?_⟩;obtain⟨WZ,hWZ⟩:=zE (((((w6.setCell ⟨A,0,none⟩ (.pointer (some ⟨D+2,0,none⟩))).setCell ⟨A,1,none⟩ (.int .i64 (j:Int))).setCell ⟨A,2,none⟩ (.slice m.sA m.ss.length m.sC)).setCell ⟨A,3,none⟩ (.slice (some ⟨fb,fo,none⟩) m.fs.length m.fC)).setCell ⟨A,4,none⟩ (.pointer (some ⟨TT,0,none⟩)));(try rw[hWZ]);have hxZ:Ext (·=A) w6 WZ:=by rw[←hWZ];exact aa (aa (aa (aa (aa (Ext.refl _ _) _) _) _) _) _
         have hrZ:WZ.heap[A]?=some (.cells #[.pointer (some ⟨D+2,0,none⟩),.int .i64 (j:Int),.slice m.sA m.ss.length m.sC,.slice (some ⟨fb,fo,none⟩) m.fs.length m.fC,.pointer (some ⟨TT,0,none⟩)] 129 (0,0)):=by rw[←hWZ];exact Hz _ A 4 _ _ _ (Hz _ A 3 _ _ _ (Hz _ A 2 _ _ _ (Hz _ A 1 _ _ _ (Hz _ A 0 _ _ _ hrAz))))
         have hbZ:H9 wy.heap.size wy WZ:=hb6d.trans (hxZ.below hb6d.size (fun q hq=>by omega));have htZ:lQ WZ TT RB g.c tb:=(lQ.of htab).ext hxZ (fun e=>by omega) (fun k hk _ e=>by omega);have hasl:=mi.table2 HWI.out HS0.out hbZ (by have:=hb7.size;omega) (by have:=hb7.size;omega) htZ (A:=A) (by omega) hrZ;have HASL:=zH hasl;have HRGZ:=zH ((hbZ.block G (ae HRG.out)).trans HRG.out);clear hasl hxZ hrZ hbZ htZ hWZ hrAz;go_wp2
         go_meet
         case rel=>exact⟨A,TT,RB,tb,_,rfl,HASL.out,HRGZ.out⟩
       case rest=>
        obtain⟨A,TT,RB,tb,hi,rfl,hasl,hrG⟩:=hcut;have hcode:=ku ((gX HR.out).2.2.2.2.1 g hgm);have hine:g.c.ins≠[]:=by intro e;have:=hcode.2.1;rw[e] at this;simp at this
        obtain⟨ib,io,hIA,hib,hic⟩:=HGI.out.code.row hine;have g7:wc.cell? ⟨G,7,none⟩=some (.slice g.c.insA g.c.ins.length g.c.insC):=(rowAt hrG 7 rfl).1;have hGl:=ae hrG;rw[hIA] at g7;have HIC:Ia (∀(k:Nat)(i:Ins),g.c.ins[k]?=some i→∀(q:Nat)(u:Value),i.cells.toList[q]?=some u→W0.cell? ⟨ib,io+k*13+q,none⟩=some u):=hic;have HASL:Ia (∃at_,Aa (D+2) D (D+1) (lA,lC) Ps (2*(Ps.length:Int)) (aM 0 Ps) (N0+1) W0 TT RB g.c tb hi [(A,.cells #[.pointer (some ⟨D+2,0,none⟩),.int .i64 (j:Int),.slice m.sA m.ss.length m.sC,.slice (some ⟨fb,fo,none⟩) m.fs.length m.fC,.pointer (some ⟨TT,0,none⟩)] 129 (0,0))] ((Cf j++(dH (j:Int) 0 Ps++eP Ps (j:Int) (fM m j) 0 (g.c.ins.take 0))).map Prod.fst) ((Cf j++(dH (j:Int) 0 Ps++eP Ps (j:Int) (fM m j) 0 (g.c.ins.take 0))).map Prod.snd) at_ wc):=⟨_,by
         rw[List.take_zero]
         show Aa _ _ _ _ _ _ _ _ _ _ _ _ _ _ _ ((Cf j++(dH (j:Int) 0 Ps++[])).map _) ((Cf j++(dH (j:Int) 0 Ps++[])).map _) _ _
         rw[List.append_nil];exact hasl⟩
        clear hasl hrG hcode hine hic
        go_upto_region 22 with(fail)
        clear g7 hGl
        go_loopw [91] (fun kk wr=>∃k:Nat,k≤g.c.ins.length∧kk= .int .i64 (k:Int)∧∃at_,Aa (D+2) D (D+1) (lA,lC) Ps (2*(Ps.length:Int)) (aM 0 Ps) (N0+1) W0 TT RB g.c tb hi [(A,.cells #[.pointer (some ⟨D+2,0,none⟩),.int .i64 (j:Int),.slice m.sA m.ss.length m.sC,.slice (some ⟨fb,fo,none⟩) m.fs.length m.fC,.pointer (some ⟨TT,0,none⟩)] 129 (0,0))] ((Cf j++(dH (j:Int) 0 Ps++eP Ps (j:Int) (fM m j) 0 (g.c.ins.take k))).map Prod.fst) ((Cf j++(dH (j:Int) 0 Ps++eP Ps (j:Int) (fM m j) 0 (g.c.ins.take k))).map Prod.snd) at_ wr) (fun kk _=>g.c.ins.length-(intOf kk).toNat)
        case atStart=>exact⟨0,Hg _,rfl,HASL.out⟩
        case round=>
         obtain⟨k,hk,rfl,at1,has⟩:=hrel;obtain⟨wv,hwv⟩:=zE wr;rw[hwv] at has⊢;clear hwv wr
         by_cases hkl:k<g.c.ins.length
         ·obtain⟨i,hi'⟩:∃i,g.c.ins[k]?=some i:=⟨_,GN hkl⟩
          have him:=GV hi';have hkI:(k:Int)<(g.c.ins.length:Int):=by omega
          obtain⟨hok0,ga,gc,hia,hga⟩:=HGI.out.code.args i him;obtain⟨_,mo,mn,mc,hmo⟩:=hok0;have hlov:H9 W0.heap.size W0 wv:=by obtain⟨_,_,h1,_⟩:=has;rw[HS0.out];exact h1.lo
          have hcv:∀(q:Nat)(u:Value),i.cells.toList[q]?=some u→wv.cell? ⟨ib,io+k*13+q,none⟩=some u:=fun q u hu=>by rw[hlov.cell (p:=⟨ib,_,none⟩) hib];exact HIC.out k i hi' q u hu
          have hibl:ib<wv.heap.size:=Hd hib hlov.size;have x0:=hcv 0 _ rfl;have x1:=hcv 1 _ rfl;have x2:=hcv 2 _ rfl;have x3:=hcv 3 _ rfl;have x4:=hcv 4 _ rfl;have x5:=hcv 5 _ rfl;have x6:=hcv 6 _ rfl;have x7:=hcv 7 _ rfl;have x8:=hcv 8 _ rfl;have x9:=hcv 9 _ rfl;have x10:=hcv 10 _ rfl;have x11:=hcv 11 _ rfl;have x12:=hcv 12 _ rfl;rw[Nat.add_zero] at x0;rw[hia] at x7;rw[hmo] at x8;have hst:=Er (i:=i) ⟨⟨ga,gc,hia⟩,mo,mn,mc,hmo⟩ (w:=wv);obtain⟨Q,hQ⟩:=zE wv.heap.size;obtain⟨W5,hW5⟩:=zE (wv.alloc (.cells i.cells 42));have hb5:=gK hW5;have hr5:W5.heap[Q]?=some (.cells i.cells 42 (0,0)):=by rw[←hW5,←hQ];exact alloc_at _ _
          have has5:=has.grow hb5;have hDQ:D+2<Q:=by obtain⟨_,_,e1,_⟩:=has.woL.row;rw[←hQ];exact e1
          unfold Ins.cells at hst hW5 hr5;rw[hia,hmo] at hst hW5 hr5;have hinsr:=jy ((ku ((gX HR.out).2.2.2.2.1 g hgm)).2.2.2.2.2 i him);have HIA:=zH hia;have HMO:=zH hmo;have HGA:=zH hga;have HI':=zH hi';have HW5:=zH hW5;have HR5:=zH hr5;have HAS5:=zH has5;have HINR:=zH hinsr;have HIM:=zH him;clear has hlov hcv hb5 hr5 has5 hW5 hia hmo hga hi' hinsr him
          go_upto_region 24 with(fail)
          (try rw[HW5.out]);(try rw[hQ]);clear x0 x1 x2 x3 x4 x5 x6 x7 x8 x9 x10 x11 x12 hst hQ HW5;obtain⟨⟨t4,f4⟩,⟨t5,f5⟩,tl,_,_⟩:=HAS5.out.woL.row
          go_upto_region 25 with(fail)
          have has6:=HAS5.out.setAt (j:Int) (k:Int);obtain⟨W6,hW6⟩:=zE ((W5.setCell ⟨D+2,4,none⟩ (.int .i64 (j:Int))).setCell ⟨D+2,5,none⟩ (.int .i64 (k:Int)));have hx6:Ext (·=D+2) W5 W6:=by rw[←hW6];exact aa (aa (Ext.refl _ _) _) _
          rw[hW6] at has6;(try rw[hW6]);have hr6:=hx6.heap HR5.out (by omega);obtain⟨tg6,s6,ha6,hk6⟩:=has6;have hrA:=(hk6 _ (Hq.2 rfl)).1;simp only at hrA;clear t4 f4 t5 f5 tl hW6 hx6;obtain⟨⟨b0,b1,b2,b3,b4⟩,⟨z0,z1,z2,z3,z4,z5,z6,z7,z8,z9,z10,z11,z12⟩,y2⟩:(W6.cell? ⟨A,0,none⟩=some (.pointer (some ⟨D+2,0,none⟩))∧W6.cell? ⟨A,1,none⟩=some (.int .i64 (j:Int))∧W6.cell? ⟨A,2,none⟩=some (.slice m.sA m.ss.length m.sC)∧W6.cell? ⟨A,3,none⟩=some (.slice (some ⟨fb,fo,none⟩) m.fs.length m.fC)∧W6.cell? ⟨A,4,none⟩=some (.pointer (some ⟨TT,0,none⟩)))∧(W6.cell? ⟨Q,0,none⟩=some (.int .i64 i.op)∧W6.cell? ⟨Q,1,none⟩=some (.int .i64 i.d)∧W6.cell? ⟨Q,2,none⟩=some (.int .i64 i.a)∧W6.cell? ⟨Q,3,none⟩=some (.int .i64 i.b)∧W6.cell? ⟨Q,4,none⟩=some (.int .i64 i.f)∧W6.cell? ⟨Q,5,none⟩=some (.int .i64 i.n)∧W6.cell? ⟨Q,6,none⟩=some (.string i.sign)∧W6.cell? ⟨Q,7,none⟩=some (.slice ga i.args.length gc)∧W6.cell? ⟨Q,8,none⟩=some (.slice mo mn mc)∧W6.cell? ⟨Q,9,none⟩=some (.int .i64 i.tI)∧W6.cell? ⟨Q,10,none⟩=some (.int .i64 i.els)∧W6.cell? ⟨Q,11,none⟩=some (.int .i64 i.ln)∧W6.cell? ⟨Q,12,none⟩=some (.int .i64 i.cl))∧(A<W6.heap.size∧Q<W6.heap.size):=
           ⟨⟨(rowAt hrA 0 rfl).1,(rowAt hrA 1 rfl).1,(rowAt hrA 2 rfl).1,(rowAt hrA 3 rfl).1,(rowAt hrA 4 rfl).1⟩,⟨(rowAt hr6 0 rfl).1,(rowAt hr6 1 rfl).1,(rowAt hr6 2 rfl).1,(rowAt hr6 3 rfl).1,(rowAt hr6 4 rfl).1,(rowAt hr6 5 rfl).1,(rowAt hr6 6 rfl).1,(rowAt hr6 7 rfl).1,(rowAt hr6 8 rfl).1,(rowAt hr6 9 rfl).1,(rowAt hr6 10 rfl).1,(rowAt hr6 11 rfl).1,(rowAt hr6 12 rfl).1⟩,ae hrA,ae hr6⟩
          obtain⟨y2,y3⟩:=y2;obtain⟨wf1,wf2,wf3,wf4⟩:=HW.out.wf g hgm i HIM.out;obtain⟨_,_,q3,q4,q5⟩:=HINR.out;have hgnv:=HGI.out.nvars;have h9:i.op=9→isVar g.c.nvars i.a=true:=fun e=>by rw[hgnv];exact q3 i.a (by unfold readsOf;rw[e];simp[sZ])
          have h11:i.op=11→isVar g.c.nvars i.b=true:=fun e=>by rw[hgnv];exact q3 i.b (by unfold readsOf;rw[e];simp[sZ,qN])
          have h15:i.op=15→∀v∈i.args,isVar g.c.nvars v=true:=fun e v hv=>by rw[hgnv];exact q3 v (by unfold readsOf;rw[if_pos e];simp[hv])
          have hbeh:∀v:Int,isVar g.c.nvars v=true→aW tb k v=fM m j k v:=fun v hv=>by
           have hvv:=bO.1 hv;have:=ha6.tz.tab.says k v.toNat hkl (by omega);unfold aW fM;rw[HG.out];rw[Bool.eq_iff_iff,this,Eo]
          have heq:aA (aM 0 Ps) (j:Int) (aW tb k) i=gB Ps (j:Int) (fM m j k) i:=by
           rw[Br];exact xJ (fun e=>hbeh _ (h9 e)) (fun e=>hbeh _ (h11 e)) (fun e v hv=>hbeh v (h15 e v hv))
          have hlt:(g.c.ins.take k).length=k:=by rw[Ht];omega
          have hcl:=oN (P:=Ps) (f:=(j:Int)) (beh:=fM m j) (g.c.ins.take k) 0 (fun x hx=>HW.out.ri.al g hgm x (List.mem_of_mem_take hx));rw[hlt] at hcl;have hbl:=lH (f:=(j:Int)) Ps 0;have hsnc:eP Ps (j:Int) (fM m j) 0 (g.c.ins.take (k+1))=eP Ps (j:Int) (fM m j) 0 (g.c.ins.take k)++(gB Ps (j:Int) (fM m j k) i).map (fun c=>(c,((j:Int),(k:Int)))):=by
           rw[aS HI'.out,rP,Hf,hlt]
          have HINS:=xL W6 ha6 (by omega) (fun x=>by
           by_cases hx:x∈Ps
           ·have:=oI (k:=0) hx;omega
           ·rw[oJ hx];omega) (j:Int) (by unfold bG;omega) m.sA (some ⟨fb,fo,none⟩) m.ss.length m.fs.length m.sC m.fC i ga gc HIA.out ⟨mo,mn,mc,HMO.out⟩ HGA.out.at_ (HW.out.ri.al g hgm i HIM.out) wf1 wf2 wf3 wf4 k hkl (by omega) (by rw[hgnv];omega) (by simp only[List.length_map,GU];omega) (by simp only[List.length_map,GU];omega) h9 h11 h15 (fun x hx=>by
            rw[heq] at hx;have:=ve HR.out HG.out HIM.out (beh:=fM m j k) x (by rw[HPS.out];exact hx);rw[HPS.out] at this;exact zI this)
          rw[heq] at HINS;unfold Ins.cells at HINS;rw[HIA.out,HMO.out] at HINS;have HINS:=zH HINS;have HA6:=zH ha6;have HK6:=zH hk6;have HSNC:=zH hsnc;clear ha6 hk6 hsnc heq hbeh h9 h11 h15 q3 q4 q5 hr6 hrA
          go_wp2_with (go_at_call 58;refine HINS.out.mono ?_;rintro e w7 ⟨rfl,hm7⟩;have HM7:=zH (Aa.of HA6.out HK6.out hm7);clear hm7)
          go_roundw
          case rel=>
           refine⟨k+1,hkl,by go_num,((j:Int),(k:Int)), ?_⟩;have:=HM7.out;rw[HSNC.out];simp only[List.map_append,List.map_map,Hr] at this⊢;simpa[Function.comp_def] using this
          case measure=>simp[intOf];omega
         ·have hke:k=g.c.ins.length:=by omega
          rw[hke,Ha] at has;have hfin:=has.woL.wo;rw[←HSN.out] at hfin;have HFIN:=zH hfin;clear has hfin hke;go_wp2;go_roundw
          case rel=>exact⟨j+1,hjl,by go_num,at1,HFIN.out⟩
          case measure=>simp[intOf];omega
    ·have hje2:j=m.fs.length:=by omega
     rw[hje2] at hwo;have HFIN:=zH hwo;clear hwo hlo hje2;go_wp2
     go_ret2
     refine⟨D+2,D,D+1,(lA,lC),at0,rfl, ?_⟩;have:=HFIN.out;rw[HCF.out,Ha] at this;rw[HPS.out]
     show Wo _ _ _ _ _ _ _ _ _ ((iq m.ptrs (fM m) 0 m.fs).map _) ((iq m.ptrs (fM m) 0 m.fs).map _) _ _
     exact this
def iw (B:Nat)(w:H5)(fa:Option Addr)(C:List (List Int)):Prop:=
 ∀(k:Nat)(c:List Int),C[k]?=some c→∃g ao cap,fa=some ⟨g,0,none⟩∧(B≤g∧g<w.heap.size)∧w.cell? ⟨g,k,none⟩=some (.slice ao c.length cap)∧dY w ao c∧∀a,c≠[]→ao=some a→B≤a.block
theorem iw.ext {B:Nat}{w w':H5}{fa:Option Addr}{C:List (List Int)}{M:Nat→Prop}(h:iw B w fa C)(hx:Ext M w w')(hM:∀k,B≤k→k<w.heap.size→¬M k):iw B w' fa C:=fun k c hc=>by
 obtain⟨g,ao,cap,h1,h2,h3,h4,h5⟩:=h k c hc;refine⟨g,ao,cap,h1,⟨h2.1,Hd h2.2 hx.size⟩,(hx.cell (a:=⟨g,k,none⟩) h2.2 (hM g h2.1 h2.2)).trans h3,dU h4 hx (fun a hn e=> ?_),h5⟩;obtain⟨b,off,e1,e2,_⟩:=h4 hn;have:=h5 a hn e;rw[e] at e1;obtain rfl:=Hl e1;exact hM _ this e2
theorem iw.below {B:Nat}{w w':H5}{fa:Option Addr}{C:List (List Int)}(h:iw B w fa C)(hb:H9 w.heap.size w w'):iw B w' fa C:=h.ext (Ext.of_below_size (M:=fun _=>False) hb) (fun _ _ _ h=>h)
theorem iw.mono {B B':Nat}{w:H5}{fa:Option Addr}{C:List (List Int)}(h:iw B w fa C)(hB:B'≤B):iw B' w fa C:=fun k c hc=>by
 obtain⟨g,ao,cap,h1,h2,h3,h4,h5⟩:=h k c hc;exact⟨g,ao,cap,h1,⟨Nat.le_trans hB h2.1,h2.2⟩,h3,h4,fun a hn e=>Nat.le_trans hB (h5 a hn e)⟩
structure FH (D:Nat)(N:Int)(w:H5)(C:List (List Int))(fa:Option Addr)(fc:Nat)(vals:List Value)(wr:H5):Prop where
 row:wr.heap[D]?=some (.cells #[.int .i64 N,.slice fa C.length fc] 48 (0,0))
 own:wr.ownsRow (D+1) 35 1 (.slice fa C.length fc) C.length vals
 len:vals.length=C.length
 cls:∀(k:Nat)(c:List Int),C[k]?=some c→∃ao cap,vals[k]?=some (.slice ao c.length cap)∧dY wr ao c∧(c≠[]→∀a,ao=some a→D+1≤a.block∧¬(Value.slice fa C.length fc).ownBlock=some a.block)
 low:H9 D w wr
 hD:w.heap.size≤D
theorem FH.clsIn {D:Nat}{N:Int}{w wr:H5}{C:List (List Int)}{fa:Option Addr}{fc:Nat}{vals:List Value}(h:FH D N w C fa fc vals wr):iw (D+1) wr fa C:=fun k c hc=>by
 obtain⟨ao,cap,h1,h2,h6⟩:=h.cls k c hc;have hk:=(GQ.1 hc).1;rcases h.own.2 with⟨_,h3⟩|⟨g,cp,cur,h3,h4,h5,_⟩
 ·omega
 ·simp only[Value.slice.injEq] at h3
  refine⟨g,ao,cap,h3.1,⟨h4,ae h5⟩, ?_,h2,fun a hn e=>(h6 hn a e).1⟩;have hown:=h.own;rw[h3.1] at hown;have:=hown.cells (g:=g) rfl k _ h1;rw[Addr.add_lit] at this;simpa using this
theorem Fp {D:Nat}{N:Int}{w wr w5 W8 w9:H5}{C:List (List Int)}{fa a9 ao:Option Addr}{fc c9 cp:Nat}{vals:List Value}{xs:List Int}(h:FH D N w C fa fc vals wr)(hb5:H9 wr.heap.size wr w5)(ho5:aU w5 wr.heap.size (.slice ao xs.length cp) xs)(hb58:H9 w5.heap.size w5 W8)
  (hown9:w9.ownsRow (D+1) 35 1 (.slice a9 (C.length+1) c9) (C.length+1) (vals++[.slice ao xs.length cp]))(hgr:W8.grownBy w9 (Value.slice fa C.length fc).ownBlock)
  (hat9:∀k,(Value.slice a9 (C.length+1) c9).ownBlock=some k→(Value.slice fa C.length fc).ownBlock=some k∨W8.heap.size≤k):
  FH D N w (C++[xs]) a9 c9 (vals++[.slice ao xs.length cp]) (w9.setCell ⟨D,1,none⟩ (.slice a9 (C.length+1) c9)):=by
 obtain⟨WF,hWF⟩:=zE (w9.setCell ⟨D,1,none⟩ (.slice a9 (C.length+1) c9));rw[hWF];have hb8:H9 wr.heap.size wr W8:=hb5.trans (hb58.mono hb5.size);have hx9:Ext (fun q=>(Value.slice fa C.length fc).ownBlock=some q) W8 w9:=Ext.of_grown hgr (fun q hq=> .inl hq);have hxF:Ext (·=D) w9 WF:=by rw[←hWF];exact Ext.set1 w9 D 1 _
 have hx8F:Ext (fun q=>q=D∨(Value.slice fa C.length fc).ownBlock=some q) W8 WF:=(hx9.mono (fun q h=> .inr h)).trans hxF (fun q h=> .inl (.inl h));have hall:Ext (fun q=>q=D∨(Value.slice fa C.length fc).ownBlock=some q) wr WF:=(Ext.of_below_size hb8).trans hx8F (fun q h=> .inl h);have hln:(C++[xs]).length=C.length+1:=by simp
 have hoD:∀k,(Value.slice fa C.length fc).ownBlock=some k→D+1≤k∧k<wr.heap.size:=fun k hk=>ai h.own hk;have h8D:D<W8.heap.size:=by have:=ae h.row;have:=hb8.size;omega
 have hDr:=ae h.row;refine⟨?_, ?_,by simp[h.len], ?_,h.low.trans (hall.below (by omega) (fun q hq=>by rcases hq with rfl|hq;exact He _;have:=(hoD q hq).1;omega)),h.hD⟩
 ·rw[hln,←hWF]
  exact Hz w9 D 1 _ _ _ (hx9.heap ((hb8.block D hDr).trans h.row) (fun e=>by have:=(hoD _ e).1;omega))
 ·rw[hln];exact ah hown9 hxF (fun k hk e=>by have:=(ai hown9 hk).1;omega)
 ·intro k c hc
  rw[List.getElem?_append] at hc
  by_cases hk:k<C.length
  ·rw[if_pos hk] at hc
   obtain⟨ao',cp',h1,h2,h3⟩:=h.cls k c hc;refine⟨ao',cp',by rw[List.getElem?_append_left (by have:=(GQ.1 h1).1;omega)];exact h1,dU h2 hall (fun a hn e hq=>by
    obtain⟨e1,e2⟩:=h3 hn a e;rcases hq with hq|hq
    ·omega
    ·exact e2 hq),fun hn a e=>⟨(h3 hn a e).1,fun ho=> ?_⟩⟩
   rw[hln] at ho;rcases hat9 _ ho with h4|h4
   ·exact(h3 hn a e).2 h4
   ·obtain⟨b,off,e1,e2,_⟩:=h2 hn
    rw[e] at e1;obtain rfl:=Hl e1;have:=hb8.size;simp only at e2 h4;omega
  ·rw[if_neg hk] at hc
   obtain⟨hk0,rfl⟩:k-C.length=0∧xs=c:=by
    cases hq:k-C.length with
    |zero=>rw[hq] at hc;exact⟨rfl,by simpa using hc⟩
    |succ q=>rw[hq] at hc;simp at hc
   have hkl:k=vals.length:=by rw[h.len];omega
   have hnb:∀a,xs≠[]→ao=some a→wr.heap.size≤a.block∧a.block<w5.heap.size:=fun a hn e=>by
    obtain⟨g,e1,e2,e3,_⟩:=ho5.shape (List.length_pos_iff.2 hn);rw[e] at e1;obtain rfl:=Hl e1;exact⟨e2,e3⟩
   have h58:=hb58.size;refine⟨ao,cp,by rw[hkl];simp,dU (aG.grow (rJ ho5 rfl) hb58) hx8F (fun a hn e hq=> ?_),fun hn a e=>⟨?_,fun ho=> ?_⟩⟩
   ·have:=hnb a hn e
    rcases hq with hq|hq
    ·omega
    ·have:=(hoD _ hq).2;omega
   ·have:=hnb a hn e;omega
   ·have h1:=hnb a hn e
    rw[hln] at ho;rcases hat9 _ ho with h4|h4
    ·have:=(hoD _ h4).2;omega
    ·omega
section
variable {T Bb MB:Nat}{lv:Option Addr×Nat}{P:List (Int×Int)}{N:Int}{F:Int×Int→Int}{C:List (List Int)}{Y:List (Int×Int)}{at_:Int×Int}{B:Nat}{tg:Nat→Nat}{s:nU}
def Eu (w:H5)(N:Int)(C:List (List Int))(e:Ending)(w':H5):Prop:=
 ∃fa fc,e= .returned (.agg #[.int .i64 N,.slice fa C.length fc])∧iw (w.heap.size+1) w' fa C∧H9 w.heap.size w w'
theorem rW (w:H5)(h:Wn T Bb MB lv P N F C Y at_ B tg s w)(hc80:∀c∈C,c.length≤80000):
  Calls prog 59 #[.pointer (some ⟨Bb,0,none⟩)] w (Eu w N C):=by
 obtain⟨D,hD⟩:=zE w.heap.size;obtain⟨W1,hW1⟩:=zE (w.alloc (.cells #[.int .i64 0,.slice none 0 0] 48));have hb1:=gK hW1;have hr1:W1.heap[D]?=some (.cells #[.int .i64 0,.slice none 0 0] 48 (0,0)):=by rw[←hW1,←hD];exact alloc_at _ _
 have h1:=h.grow hb1;obtain⟨b0,b1⟩:W1.cell? ⟨Bb,0,none⟩=some (.int .i64 N)∧W1.cell? ⟨Bb,1,none⟩=some (.slice s.fA C.length s.fC):=⟨(rowAt h1.bld 0 rfl).1,(rowAt h1.bld 1 rfl).1⟩
 have hBl:=ae h1.bld;have hBD:Bb≠D:=by have:=(h.lo Bb (by rw[h.t2];decide)).2;omega
 have hDl:=ae hr1;obtain⟨d0,f0⟩:=rowAt hr1 0 rfl;have hlC:=h.lC;have H:=zH h;have HB1:=zH hb1;have HW1:=zH hW1;have HR1:=zH hr1;have HDD:=zH hD;obtain⟨i0,hi0,hi1,hi2,hi3⟩:=info_parts vB;clear h hW1 hb1 hr1 h1;go_enter func59,ntmps59
 go_upto_region 1 with(fail)
 rw[HW1.out];(try rw[HDD.out])
 go_upto_region 4 with(fail)
 obtain⟨W2,hW2⟩:=zE (W1.setCell ⟨D,0,none⟩ (.int .i64 N));rw[hW2];have hx2:Ext (·=D) W1 W2:=by rw[←hW2];exact Ext.set1 _ _ _ _
 have hr2:W2.heap[D]?=some (.cells #[.int .i64 N,.slice none 0 0] 48 (0,0)):=by rw[←hW2];exact Hz W1 D 0 _ _ _ HR1.out
 have hb2:H9 D w W2:=by
  have:=HB1.out;rw[HDD.out] at this;exact this.trans (hx2.below (by have:=HB1.out.size;have:=HDD.out;omega) (fun q hq=>by omega))
 have hF0:FH D N w [] none 0 [] W2:=⟨hr2,World.ownsRow_nil _ _ _ _,rfl,fun k c hc=>by simp at hc,hb2,by have:=HDD.out;omega⟩
 have c1:W2.cell? ⟨Bb,1,none⟩=some (.slice s.fA C.length s.fC):=(hx2.cell (a:=⟨Bb,1,none⟩) hBl hBD).trans b1;have hBl2:Bb<W2.heap.size:=Hd hBl hx2.size;have HF0:=zH hF0;clear b0 b1 d0 f0 hW2 hx2 hr2 hb2 hF0 hBl hDl
 go_upto_region 5 with(fail)
 clear c1 hBl2;obtain⟨fA,hfA⟩:=zE s.fA;have HFA:=zH hfA;rw[hfA];clear hfA
 go_loopw [20] (fun kk wr=>∃j:Nat,j≤C.length∧kk= .int .i64 (j:Int)∧∃fa fc vals,FH D N w (C.take j) fa fc vals wr) (fun kk _=>C.length-(intOf kk).toNat)
 case atStart=>exact⟨0,Hg _,rfl,none,0,[],HF0.out⟩
 case round=>
  obtain⟨j,hj,rfl,fa,fc,vals,hfm⟩:=hrel;obtain⟨wq,hwq⟩:=zE wr;rw[hwq] at hfm⊢;clear hwq wr
  by_cases hjl:j<C.length
  ·obtain⟨x,hx⟩:∃x,C[j]?=some x:=⟨_,GN hjl⟩
   have hjI:(j:Int)<(C.length:Int):=by omega
   obtain⟨ao,cap,hv,hir,_⟩:=H.out.cls.2 j x hx;have hlow:H9 w.heap.size w wq:=by rw[HDD.out];exact hfm.low
   obtain⟨g,hg,hgc,hgl⟩:∃g,fA=some ⟨g,0,none⟩∧wq.cell? ⟨g,j,none⟩=some (.slice ao x.length cap)∧g<wq.heap.size:=by
    rcases H.out.frow.2 with⟨_,h3⟩|⟨g,cp,cur,h3,h4,h5,_⟩
    ·omega
    ·simp only[Value.slice.injEq] at h3
     have hown:=H.out.frow;rw[h3.1] at hown;have:=hown.cells (g:=g) rfl j _ hv;rw[Addr.add_lit,Hf] at this;exact⟨g,by rw[←HFA.out];exact h3.1,by rw[hlow.cell (p:=⟨g,j,none⟩) (ae h5)];exact this,Hd (ae h5) hlow.size⟩
   subst hg;have hxl:=hc80 x (GV hx);have hlt:(C.take j).length=j:=by rw[Ht];omega
   have hrow:=hfm.row;have hown:=hfm.own;have hvl:=hfm.len;rw[hlt] at hrow hown hvl;have hDq:=ae hrow;obtain⟨S1,hS1⟩:=zE ((fun w'=>w'.heap[D]?=some (.cells #[.int .i64 N,.slice fa j fc] 48 (0,0))):H5→Prop);have hS0:S1 wq.drew:=by rw[←hS1];exact hrow
   have HSB:Ia (∀W,W.heap[D]?=some (.cells #[.int .i64 N,.slice fa j fc] 48 (0,0))→S1 W):=fun W hW=>by rw[←hS1];exact hW
   have HCE:Ia (∀w,S1 w→w.cell? ⟨D,1,none⟩=some (.slice fa j fc)∧D<w.heap.size):=fun w hw=>by rw[←hS1] at hw;exact⟨(rowAt hw 1 rfl).1,ae hw⟩
   have HCL:=zH (nX wq.drew ao x cap ((dY.at_ (aG.grow hir hlow)).below (Hw _ _).drew) hxl);have HFM:=zH hfm;have HX:=zH hx;have HROW:=zH hrow;have HOWN:=zH hown;have HVL:=zH hvl;have HLT:=zH hlt;clear hfm hx hv hir hlow hrow hown hvl hlt hS1
   go_upto_region 7 with(fail)
   clear hgc hgl;refine aj 7 S1 (by kernel_rfl) ?_;refine zT 0 rfl HCE.out ?_;(try go_simp);refine zT 1 rfl HCE.out ?_;(try go_simp);refine zT 2 rfl HCE.out ?_;(try go_simp);refine zO 3 rfl fun K' hK=> ?_;go_simp;go_at_call 111;refine HCL.out.mono ?_;rintro e w5 ⟨ao5,cp5,rfl,ho5,hb5⟩;have hb25:H9 wq.heap.size wq w5:=(Hw _ _).drew.trans hb5;have hrow5:=(hb25.block D hDq).trans HROW.out;refine hK _ _ (HSB.out _ hrow5) ?_;clear hK;(try go_simp);refine zO 4 rfl fun K' hK=> ?_;go_simp;obtain⟨G,hG⟩:=zE w5.heap.size;obtain⟨W8,hW8⟩:=zE (w5.alloc (.cells #[.slice ao5 x.length cp5] 35));(try rw[hG]);(try rw[hW8]);have hb8:=gK hW8;have hrG:W8.heap[G]?=some (.cells #[.slice ao5 x.length cp5] 35 (0,0)):=by rw[←hW8,←hG];exact alloc_at _ _
   have hrow8:=(hb8.block D (ae hrow5)).trans hrow5;have hown8:=ownsRow_below (ownsRow_below HOWN.out hb25) hb8;refine hK _ _ (HSB.out _ hrow8) ?_;clear hK;(try go_simp);refine zO 5 rfl fun K' hK=> ?_;have hBW:D+1≤W8.heap.size:=ae hrow8;refine aF (.tmp 25) (.tmp 28) 46 rfl (D+1) 35 i0 _ 1 24 underlying46 hi0 hi1 hi2 hi3 rfl (by decide) (.slice fa j fc) j vals rfl hown8 (some ⟨G,0,none⟩) 1 1 [.slice ao5 x.length cp5] rfl rfl (fun h=>by cases h) (fun ad had jj uu hu=>by
    obtain rfl:(⟨G,0,none⟩:Addr)=ad:=by simpa using had
    rw[Addr.add_lit,Hf,cell_of_row _ _ _ _ _ _ hrG];simpa using hu) (by simp[Value.oneCell']) (by unfold maxLen;omega) (by omega) hBW ?_
   intro v9 w9 hown9 hgr9 hat9;obtain⟨ao9,c9,hv9⟩:=aD hown9;subst hv9;have hx9:Ext (fun q=>(Value.slice fa j fc).ownBlock=some q) W8 w9:=Ext.of_grown hgr9 (fun q hq=> .inl hq);have hrow9:=hx9.heap hrow8 (fun e=>by have:=(ai hown8 e).1;omega);have hS9:S1 w9:=HSB.out _ hrow9;have hfz:=(rowAt hrow9 1 rfl).2;have hcl:=(rowAt hrow9 1 rfl).1;have hD9:=ae hrow9;refine hK _ _ hS9 ?_;clear hK;(try go_simp);refine zT 6 rfl HCE.out ?_;(try go_simp);refine zK rfl fun K' hK=> ?_;go_simp;refine hK _ _ ?_;clear hK;refine⟨by kernel_rfl, ?_⟩;have hFIN:FH D N w (C.take j++[x]) ao9 c9 (vals++[.slice ao5 x.length cp5]) (w9.setCell ⟨D,1,none⟩ (.slice ao9 (j+1) c9)):=by
    have hlt:=HLT.out;have:=Fp (xs:=x) (ao:=ao5) (cp:=cp5) (a9:=ao9) (c9:=c9) HFM.out hb25 ho5 hb8 (by rw[hlt];exact hown9) (by rw[hlt];exact hgr9) (by rw[hlt];exact hat9);rw[hlt] at this;exact this
   have HFIN:=zH hFIN;clear hFIN hown9 hgr9 hat9 hx9 hrow9 hS9 hown8 hrow8 hrow5 hrG hW8 hb8 hb25 ho5 hb5 hG hS0 hcl hfz;go_wp2;go_roundw
   case rel=>exact⟨j+1,hjl,by go_num,ao9,c9,_,by rw[aS HX.out];exact HFIN.out⟩
   case measure=>simp[intOf];omega
  ·have hje:j=C.length:=by omega
   have hfull:FH D N w C fa fc vals wq:=by rw[hje,Ha] at hfm;exact hfm
   have hrow:=hfull.row;obtain⟨k0,g0⟩:=rowAt hrow 0 rfl;obtain⟨k1,g1⟩:=rowAt hrow 1 rfl;have hDq:=ae hrow;have HFU:=zH hfull;have HROW:=zH hrow;clear hfm hfull hrow hje;go_wp2;(try simp only[Exit.inBlock,Exit.then]);have hx:Ext (·=D) wq ((wq.setCell ⟨D,0,none⟩ (.int .i64 N)).setCell ⟨D,1,none⟩ (.slice fa C.length fc)):=aa (aa (Ext.refl _ _) _) _;refine bodyPost_ret (results_cell_row (P:=prog) rfl _ _ D 48 _ (0,0) _ rfl (bf HROW.out) underlying48 rfl (by kernel_rfl)) rfl ?_;refine⟨fa,fc,rfl, ?_,by rw[HDD.out];exact HFU.out.low.trans (hx.below (by omega) (fun q hq=>by omega))⟩;rw[HDD.out];exact HFU.out.clsIn.ext hx (fun k hk _ e=>by omega)
theorem mq (w:H5)(h:Wn T Bb MB lv P N F C Y at_ B tg s w)(hc80:∀c∈C,c.length≤80000):
  Calls prog 16 #[.pointer (some ⟨T,0,none⟩)] w (Eu w N C):=by
 obtain⟨D,hD⟩:=zE w.heap.size;obtain⟨W1,hW1⟩:=zE (w.alloc (.cells #[.int .i64 0,.slice none 0 0] 48));have hb1:=gK hW1;have hr1:W1.heap[D]?=some (.cells #[.int .i64 0,.slice none 0 0] 48 (0,0)):=by rw[←hW1,←hD];exact alloc_at _ _
 have h1:=h.grow hb1;have c0:=(rowAt h1.row 0 rfl).1;have hTl:=ae h1.row;have HBF:=zH (rW W1 h1 hc80);have HB1:=zH hb1;have HW1:=zH hW1;have HR1:=zH hr1;have HDD:=zH hD;clear h hW1 hb1 hr1 h1;go_enter func16,ntmps16
 go_upto_region 1 with(fail)
 rw[HW1.out];(try rw[HDD.out])
 go_wp2_with (go_at_call 59;refine HBF.out.mono ?_;rintro e w2 ⟨fa,fc,rfl,hcl,hb2⟩;have HCL:=zH hcl;have HB2:=zH hb2;have hr2:=(hb2.block D (ae HR1.out)).trans HR1.out;have HR2:=zH hr2;obtain⟨k0,g0⟩:=rowAt hr2 0 rfl;obtain⟨k1,g1⟩:=rowAt hr2 1 rfl;have hDl:=ae hr2;clear hcl hb2 hr2)
 (try simp only[Exit.inBlock,Exit.then]);have hx:Ext (·=D) w2 ((w2.setCell ⟨D,0,none⟩ (.int .i64 N)).setCell ⟨D,1,none⟩ (.slice fa C.length fc)):=aa (aa (Ext.refl _ _) _) _;refine bodyPost_ret (results_cell_row (P:=prog) rfl _ _ D 48 _ (0,0) _ rfl (bf HR2.out) underlying48 rfl (by kernel_rfl)) rfl ?_;refine⟨fa,fc,rfl, ?_,(HB1.out.trans (HB2.out.mono HB1.out.size)).trans (hx.below (Nat.le_trans HB1.out.size HB2.out.size) (fun q hq=>by have:=HDD.out;omega))⟩;refine iw.mono (HCL.out.ext hx (fun k hk _ e=> ?_)) ?_
 ·have:=HDD.out;have:=HW1.out;have h9:W1.heap.size=w.heap.size+1:=by rw[←this];simp
  omega
 ·have:=HB1.out.size;omega
theorem vI (w:H5)(h:Wn T Bb MB lv P N F C Y at_ B tg s w)(f v:Int)(hf:bG f)(hv:bG v):
  zS 24 #[.pointer (some ⟨T,0,none⟩),.int .i64 f,.int .i64 v] w (.int .i64 (F (f,v))):=by
 have c2:w.cell? ⟨T,2,none⟩=some (.map (some MB)):=(rowAt h.row 2 rfl).1;have hTl:=ae h.row;have hlk:=h.map.look hf hv;clear h;go_enter func24,ntmps24;go_wp2;go_ret;exact⟨rfl,rfl⟩
theorem Da (w:H5)(h:Wn T Bb MB lv P N F C Y at_ B tg s w)(f v:Int)(hf:bG f)(hv:bG v)(hF:0≤F (f,v)∧F (f,v)≤9000000):
  zS 25 #[.pointer (some ⟨T,0,none⟩),.int .i64 f,.int .i64 v] w (.int .i64 (if F (f,v)=0 then 0 else F (f,v)+1)):=by
 have HO:=zH (vI w h f v hf hv);obtain⟨z,hz⟩:=zE (F (f,v));rw[hz] at HO hF⊢;obtain⟨h0,h9⟩:=hF;clear h hz
 by_cases hzz:z=0
 ·have hzb:(z==0)=true:=by rw[hzz];rfl
  rw[if_pos hzz];clear hzz;go_enter func25,ntmps25
  go_wp2_with (go_at_call 24;refine HO.out.mono ?_;rintro e w ⟨rfl,rfl⟩)
  go_ret;exact⟨rfl,rfl⟩
 ·have hzb:(z==0)=false:=beq_false_of_ne hzz
  rw[if_neg hzz];clear hzz;go_enter func25,ntmps25
  go_wp2_with (go_at_call 24;refine HO.out.mono ?_;rintro e w ⟨rfl,rfl⟩)
  go_ret;exact⟨by go_num,rfl⟩
theorem F5:∀(l:List (Int×Int))(i:Nat)(p:Int×Int),l[i]?=some p→(l.flatMap su)[i*2+0]?=some (.int .i64 p.1)∧(l.flatMap su)[i*2+1]?=some (.int .i64 p.2):=by
 intro l
 induction l with
 |nil=>intro i p hi;simp at hi
 |cons x r ih=>
  intro i p hi;cases i with
  |zero=>
   obtain rfl:x=p:=by simpa using hi
   exact⟨rfl,rfl⟩
  |succ i=>
   obtain⟨a1,a2⟩:=ih i p (by simpa using hi);rw[List.flatMap_cons];refine⟨?_, ?_⟩
   ·rw[List.getElem?_append_right (by simp[su];omega),show(i+1)*2+0-(su x).length=i*2+0 by simp[su];omega];exact a1
   ·rw[List.getElem?_append_right (by simp[su];omega),show(i+1)*2+1-(su x).length=i*2+1 by simp[su];omega];exact a2
theorem Db (w:H5)(h:Wn T Bb MB lv P N F C Y at_ B tg s w)(k:Nat)(y:Int×Int)(hy:Y[k]?=some y):
  zP 21 #[.pointer (some ⟨T,0,none⟩),.int .i64 (k:Int)] w (.tuple #[.int .i64 y.1,.int .i64 y.2,.bool true]):=by
 have hTl:=ae h.row;have hk:=(GQ.1 hy).1;have hkI:(k:Int)<(Y.length:Int):=by omega
 have hly:=h.lY;obtain⟨a1,a2⟩:=F5 Y k y hy;have hrow:=h.yrow;have c3:w.cell? ⟨T,3,none⟩=some (.slice s.yA Y.length s.yC):=(rowAt h.row 3 rfl).1;obtain⟨g,hg,hgl⟩:∃g,s.yA=some ⟨g,0,none⟩∧g<w.heap.size:=by
  rcases hrow.2 with⟨_,h2⟩|⟨g,cap,cur,h2,_,h3,_⟩
  ·omega
  ·simp only[Value.slice.injEq] at h2
   exact⟨g,h2.1,ae h3⟩
 rw[hg] at hrow c3;have e1:=hrow.cells (g:=g) rfl _ _ a1;have e2:=hrow.cells (g:=g) rfl _ _ a2;rw[Addr.add_lit,Hf,Nat.add_zero] at e1;rw[Addr.add_lit,Hf] at e2;clear h hrow a1 a2 hy;go_enter func21,ntmps21
 go_upto_region 3 with(fail)
 go_quiet (fail)
 go_wp2
 go_ret3
 exact⟨rfl,below_drewN (Hw _ _) _⟩
end
theorem rX (N:Int)(D:Nat)(ao:Option Addr)(xs:List Int)(cap:Nat)(w:H5)(hN:0≤N∧N≤100000)(hc:w.cell? ⟨D,0,none⟩=some (.int .i64 N))(hl:xs.length≤maxLen)(hx:ak w ao xs)(hok:xs.all (bH N)=true):
  zP 66 #[.slice ao xs.length cap,.pointer (some ⟨D,0,none⟩)] w (.bool false):=by
 have HA:=zH (vD N (by omega) ao xs cap w hl hx);rw[hok] at HA;clear hx hok;go_enter func66,ntmps66
 go_wp2_with (go_at_call 67;refine HA.out.mono ?_;rintro e w2 ⟨rfl,hb2⟩;have HB2:=zH hb2;clear hb2)
 go_ret;exact⟨rfl,HB2.out⟩
theorem um (N:Int)(D:Nat)(B:Nat)(fa:Option Addr)(C:List (List Int))(fc:Nat)(w:H5)(hN:0≤N∧N≤100000)(hc:w.cell? ⟨D,0,none⟩=some (.int .i64 N))(hD:D<w.heap.size)(hC:iw B w fa C)(hok:∀c∈C,c.all (bH N)=true∧c.length≤80000)(hl:C.length≤1000000):
  zP 115 #[.slice fa C.length fc,.func (.func 66) #[] #[.pointer (some ⟨D,0,none⟩)]] w (.int .i64 (-1)):=by
 have HC:=zH hC;have HOK:=zH hok;have HCD:=zH hc;have HDD:=zH hD;clear hC hok hc hD;go_enter func115,ntmps115
 go_wp2_with fail
 go_loopw [8] (fun k wr=>∃j:Nat,j≤C.length∧k= .int .i64 (j:Int)∧H9 w.heap.size w wr) (fun k _=>C.length-(intOf k).toNat)
 case atStart=>exact⟨0,Hg _,rfl,Hw _ _⟩
 case round=>
  obtain⟨j,hj,rfl,hb⟩:=hrel
  by_cases hjl:j<C.length
  ·obtain⟨x,hx⟩:∃x,C[j]?=some x:=⟨_,GN hjl⟩
   have hjI:(j:Int)<(C.length:Int):=by omega
   obtain⟨g,ao,cap,rfl,hgl,hg,hir,_⟩:=(HC.out.below hb) j x hx;have hgl2:=hgl.2;obtain⟨h1,h2⟩:=HOK.out x (GV hx);have HR:=zH (rX N D ao x cap wr hN (by rw[hb.cell (p:=⟨D,0,none⟩) HDD.out];exact HCD.out) (by unfold maxLen;omega) (dY.at_ hir) h1);have HB:=zH hb;clear hb hx hir h1 h2 hgl
   go_wp2_with (go_at_call 66;refine HR.out.mono ?_;rintro e w2 ⟨rfl,hb2⟩;have HB2:=zH hb2;clear hb2)
   go_roundw
   case rel=>exact⟨j+1,by omega,by go_num,HB.out.trans (HB2.out.mono HB.out.size)⟩
   case measure=>simp[intOf];omega
  ·have HB:=zH hb
   clear hb;go_wp2;go_ret;exact⟨rfl,HB.out⟩
theorem lU (N:Int)(D:Nat)(B:Nat)(fa:Option Addr)(C:List (List Int))(fc:Nat)(w:H5)(hN:0≤N∧N≤100000)(hc:w.cell? ⟨D,0,none⟩=some (.int .i64 N))(hD:D<w.heap.size)(hC:iw B w fa C)(hok:∀c∈C,c.all (bH N)=true∧c.length≤80000)(hl:C.length≤1000000):
  zP 65 #[.slice fa C.length fc,.func (.func 66) #[] #[.pointer (some ⟨D,0,none⟩)]] w (.bool false):=by
 have HI:=zH (um N D B fa C fc w hN hc hD hC hok hl);clear hC hok hc;go_enter func65,ntmps65
 go_wp2_with (go_at_call 115;refine HI.out.mono ?_;rintro e w2 ⟨rfl,hb2⟩;have HB2:=zH hb2;clear hb2)
 go_ret;exact⟨rfl,HB2.out⟩
theorem rY (N:Int)(B:Nat)(fa:Option Addr)(C:List (List Int))(fc:Nat)(w:H5)(hN:0≤N∧N≤100000)(hC:iw B w fa C)(hok:∀c∈C,c.all (bH N)=true∧c.length≤80000)(hl:C.length≤200000):
  zP 20 #[.agg #[.int .i64 N,.slice fa C.length fc]] w (.bool true):=by
 obtain⟨D,hD⟩:=zE w.heap.size;obtain⟨W1,hW1⟩:=zE (w.alloc (.cells #[.int .i64 N,.slice fa C.length fc] 48));have hb1:=gK hW1;have hr1:W1.heap[D]?=some (.cells #[.int .i64 N,.slice fa C.length fc] 48 (0,0)):=by rw[←hW1,←hD];exact alloc_at _ _
 have k0:=(rowAt hr1 0 rfl).1;have k1:=(rowAt hr1 1 rfl).1;have hDl:=ae hr1;have HCF:=zH (lU N D B fa C fc W1 hN k0 hDl (hC.below hb1) hok (by omega));have d1:decide (N<0)=false:=decide_eq_false (by omega);have d2:decide (100000<N)=false:=decide_eq_false (by omega);have d3:decide ((200000:Int)<(C.length:Int))=false:=decide_eq_false (by omega);obtain⟨hN0,hN1⟩:=hN;have hlI:(C.length:Int)≤200000:=by omega
 have HB1:=zH hb1;have HW1:=zH hW1;clear hC hok hW1 hb1 hr1;go_enter func20,ntmps20
 go_upto_region 1 with(fail)
 rw[HW1.out]
 go_wp2_with (go_at_call 65;refine HCF.out.mono ?_;rintro e w2 ⟨rfl,hb2⟩;have HB2:=zH hb2;clear hb2)
 go_ret;exact⟨rfl,HB1.out.trans (HB2.out.mono HB1.out.size)⟩
def oh (w:H5)(ao:Option Addr)(M:List Bool):Prop:=∀(k:Nat)(x:Bool),M[k]?=some x→∃g off,ao=some ⟨g,off,none⟩∧g<w.heap.size∧w.cell? ⟨g,off+k,none⟩=some (.bool x)
theorem oh.below {w w':H5}{ao:Option Addr}{M:List Bool}(h:oh w ao M)(hb:H9 w.heap.size w w'):oh w' ao M:=fun k x hx=>by
 obtain⟨g,off,h1,h2,h3⟩:=h k x hx;exact⟨g,off,h1,Hd h2 hb.size,by rw[hb.cell (p:=⟨g,off+k,none⟩) h2];exact h3⟩
def xO (M:List Bool)(x:Int):Bool:=M.getD (max x (-x)-1).toNat false==decide (0<x)
theorem zM (M:List Bool)(D:Nat)(ao:Option Addr)(cap:Nat)(x:Int)(w:H5)(hc:w.cell? ⟨D,0,none⟩=some (.slice ao M.length cap))(hD:D<w.heap.size)(hM:oh w ao M)(hx:bH (M.length:Int) x=true)(hl:M.length≤100000):
  zP 60 #[.int .i64 x,.pointer (some ⟨D,0,none⟩)] w (.bool (xO M x)):=by
 unfold bH at hx;rw[Bool.and_eq_true,Bool.and_eq_true,decide_eq_true_eq,decide_eq_true_eq] at hx;obtain⟨⟨h0,h1⟩,h2⟩:=hx;have h0':x≠0:=by simpa using h0
 by_cases hp:0<x
 ·obtain⟨q,rfl⟩:∃q:Nat,x=((q+1:Nat):Int):=⟨(x-1).toNat,by omega⟩
  have hql:q<M.length:=by omega
  obtain⟨y,hy⟩:∃y,M[q]?=some y:=⟨_,GN hql⟩
  obtain⟨g,off,rfl,hg,hgc⟩:=hM q y hy;have HV:Ia (xO M ((q+1:Nat):Int)=(y==true)):=by
   unfold Ia xO;rw[show(max ((q+1:Nat):Int) (-((q+1:Nat):Int))-1).toNat=q by omega,List.getD_eq_getElem?_getD,hy,decide_eq_true hp];rfl
  have hgt:decide (0<((q+1:Nat):Int))=true:=decide_eq_true hp;have hlt:¬(((q+1:Nat):Int)< -((q+1:Nat):Int)):=by omega
  have hm1:max ((q:Int)+1) (-((q:Int)+1))=(q:Int)+1:=by omega
  clear hM hy h0;go_enter func60,ntmps60;go_wp2;go_ret;have hv:=HV.out;rw[show((q+1:Nat):Int)=(q:Int)+1 by omega] at hv;exact⟨by rw[hv];cases y<;>rfl,Hw _ _⟩
 ·obtain⟨q,rfl⟩:∃q:Nat,x= -((q+1:Nat):Int):=⟨(-x-1).toNat,by omega⟩
  have hql:q<M.length:=by omega
  obtain⟨y,hy⟩:∃y,M[q]?=some y:=⟨_,GN hql⟩
  obtain⟨g,off,rfl,hg,hgc⟩:=hM q y hy;have HV:Ia (xO M (-((q+1:Nat):Int))=(y==false)):=by
   unfold Ia xO;rw[show(max (-((q+1:Nat):Int)) (-(-((q+1:Nat):Int)))-1).toNat=q by omega,List.getD_eq_getElem?_getD,hy,decide_eq_false hp];rfl
  have hgt:decide (0< -((q+1:Nat):Int))=false:=decide_eq_false hp;have hlt: -((q+1:Nat):Int)< -(-((q+1:Nat):Int)):=by omega
  have hm1:max (-((q:Int)+1)) ((q:Int)+1)=(q:Int)+1:=by omega
  have hm2:max (-((q:Int)+1)) (-(-((q:Int)+1)))=(q:Int)+1:=by omega
  clear hM hy h0;go_enter func60,ntmps60;go_wp2;go_ret;have hv:=HV.out;rw[show((q+1:Nat):Int)=(q:Int)+1 by omega] at hv;have e:decide ((q:Int)+1<0)=false:=decide_eq_false (by omega);exact⟨by rw[hv];show Ending.returned (Value.bool (y==decide ((q:Int)+1<0)))=_;rw[e],Hw _ _⟩
def mr (M:List Bool)(C:List (List Int)):Bool:=C.all fun c=>c.any (xO M)
theorem Bw (M:List Bool)(B:Nat)(fa ao:Option Addr)(C:List (List Int))(fc cap:Nat)(w:H5)(hC:iw B w fa C)(hM:oh w ao M)(hl:M.length≤100000)(hok:∀c∈C,c.all (bH (M.length:Int))=true∧c.length≤80000)(hlC:C.length≤200000):
  zP 17 #[.agg #[.int .i64 (M.length:Int),.slice fa C.length fc],.slice ao M.length cap] w (.bool (mr M C)):=by
 obtain⟨D,hD⟩:=zE w.heap.size;obtain⟨W1,hW1⟩:=zE ((w.alloc (.cells #[.int .i64 (M.length:Int),.slice fa C.length fc] 48)).alloc (.cells #[.slice ao M.length cap] 50));have hb1:=EA hW1;have hr0:=xV hW1 hD;have hr1:=zV hW1 hD;have hn:(0:Int)≤(M.length:Int)∧(M.length:Int)≤100000:=by omega
 have k0:=(rowAt hr0 0 rfl).1;have k1:=(rowAt hr0 1 rfl).1;have k2:=(rowAt hr1 0 rfl).1;have hDl:=ae hr1;have HR:=zH (rY (M.length:Int) B fa C fc W1 hn (hC.below hb1) hok hlC);have HB1:=zH hb1;have HW1:=zH hW1;have HR0:=zH hr0;have HR1:=zH hr1;have HC1:=zH (hC.below hb1);have HM1:=zH (hM.below hb1);have HOK:=zH hok;have HLM:=zH hl;have HLC:=zH hlC;have hne:((M.length:Int) != (M.length:Int))=false:=by simp
 have HB2F:Ia (∀{w2:H5},H9 W1.heap.size W1 w2→w2.cell? ⟨D,0,none⟩=some (.int .i64 (M.length:Int))∧w2.cell? ⟨D,1,none⟩=some (.slice fa C.length fc)∧w2.cell? ⟨D+1,0,none⟩=some (.slice ao M.length cap)):=zH fun h=>⟨(rowAt ((h.block D (ae hr0)).trans hr0) 0 rfl).1,(rowAt ((h.block D (ae hr0)).trans hr0) 1 rfl).1,(rowAt ((h.block (D+1) (ae hr1)).trans hr1) 0 rfl).1⟩
 clear hC hM hok hW1 hb1 hr0 hr1;go_enter func17,ntmps17
 go_upto_region 1 with(fail)
 rw[HW1.out]
 go_step3
 go_upto_region 3 with(go_at_call 20;refine HR.out.mono ?_;rintro e w2 ⟨rfl,hb2⟩;have hq0:=(HB2F.out hb2).1;have hq1:=(HB2F.out hb2).2.1;have hq2:=(HB2F.out hb2).2.2;have HB2:=zH hb2;clear hb2 k0 k1 k2)
 have hDl2:D+1<w2.heap.size:=Hd hDl HB2.out.size;have HC2:=zH (HC1.out.below HB2.out);have HM2:=zH (HM1.out.below HB2.out);have HQ2:=zH hq2;have HDL2:=zH hDl2;clear hq0 hq2 HC1 HM1
 go_wp2_with fail
 go_step3
 go_wp2_with fail
 clear hq1 hDl hDl2 hne
 go_loopg [24] C.length (fun m c wr=>∃k:Nat,k≤C.length∧c= .int .i64 (k:Int)∧m=C.length-k∧(∀j x,j<k→C[j]?=some x→x.any (xO M)=true)∧H9 w2.heap.size w2 wr)
 case atStart=>exact⟨0,Hg _,rfl,rfl,fun _ _ h=>absurd h (Nat.not_lt_zero _),Hw _ _⟩
 case round=>
  obtain⟨k,hk,rfl,rfl,hall,hb⟩:=hrel
  by_cases hkl:k<C.length
  ·obtain⟨x,hx⟩:∃x,C[k]?=some x:=⟨_,GN hkl⟩
   have hkI:(k:Int)<(C.length:Int):=by omega
   obtain⟨g,ao2,cap2,rfl,hgl,hg,hir,_⟩:=(HC2.out.below hb) k x hx;have hgl2:=hgl.2;obtain⟨h1,h2⟩:=HOK.out x (GV hx);have HX:=zH hx;have HALL:=zH hall;have HB:=zH hb;have HIR:=zH hir;have H1:=zH h1;clear hx hall hb hir h1 hgl
   go_wp2_with fail
   go_loopw [30] (fun c wr3=>∃i:Nat,i≤x.length∧c= .int .i64 (i:Int)∧(∀j y,j<i→x[j]?=some y→xO M y=false)∧H9 w2.heap.size w2 wr3∧dY wr3 ao2 x) (fun c _=>x.length-(intOf c).toNat)
   case atStart=>exact⟨0,Hg _,rfl,fun _ _ h=>absurd h (Nat.not_lt_zero _),HB.out,HIR.out⟩
   case round=>
    obtain⟨i,hi,rfl,hno,hb,hir⟩:=hrel
    by_cases hil:i<x.length
    ·obtain⟨y,hy⟩:∃y,x[i]?=some y:=⟨_,GN hil⟩
     have hiI:(i:Int)<(x.length:Int):=by omega
     obtain⟨b,off,rfl,hbl,hci⟩:=hir.at_ (by intro e;subst e;simp at hil);have hcy:=hci i y hy;have hly:bH (M.length:Int) y=true:=List.all_eq_true.1 H1.out y (GV hy);have HL:=zH (zM M (D+1) ao cap y wr (by rw[hb.cell (p:=⟨D+1,0,none⟩) HDL2.out];exact HQ2.out) (Hd HDL2.out hb.size) (HM2.out.below hb) hly HLM.out);obtain⟨v,hv⟩:=zE (xO M y);rw[hv] at HL;have HV:=zH hv;have HY:=zH hy;have HNO:=zH hno;have HB3:=zH hb;have HIR3:=zH hir;clear hv hy hno hb hir hci hly;cases v with
     |true=>
      go_wp2_with (go_at_call 60;refine HL.out.mono ?_;rintro e w4 ⟨rfl,hb4⟩;have HB4:=zH hb4;clear hb4)
      go_roundg (C.length-(k+1))
      case measure=>omega
      case rel=>
       refine⟨k+1,by omega,by go_num,rfl,fun j z hj hz=> ?_,HB3.out.trans (HB4.out.mono HB3.out.size)⟩
       by_cases e:j=k
       ·subst e
        rw[HX.out] at hz;obtain rfl:=Hl hz;exact List.any_eq_true.2 ⟨y,GV HY.out,HV.out⟩
       ·exact HALL.out j z (by omega) hz
     |false=>
      go_wp2_with (go_at_call 60;refine HL.out.mono ?_;rintro e w4 ⟨rfl,hb4⟩;have HB4:=zH hb4;clear hb4)
      go_roundw
      case rel=>
       refine⟨i+1,by omega,by go_num,fun j z hj hz=> ?_,HB3.out.trans (HB4.out.mono HB3.out.size),HIR3.out.grow HB4.out⟩
       by_cases e:j=i
       ·subst e
        rw[HY.out] at hz;obtain rfl:=Hl hz;exact HV.out
       ·exact HNO.out j z (by omega) hz
      case measure=>simp[intOf];omega
    ·have hie:i=x.length:=by omega
     subst hie;have hev:mr M C=false:=by
      unfold mr;rw[List.all_eq_false];refine⟨x,GV HX.out, ?_⟩;rw[Bool.not_eq_true,List.any_eq_false];intro y hy;obtain⟨j,hj⟩:=List.getElem?_of_mem hy;rw[hno j y (GQ.1 hj).1 hj];exact Bool.false_ne_true
     have HE:Ia (mr M C=false∧H9 w.heap.size w wr):=⟨hev,HB1.out.trans ((HB2.out.trans (hb.mono HB2.out.size)).mono HB1.out.size)⟩
     clear hev hno hb hir;go_wp2
     try rw[Exit.noGoto_ret]
     go_ret;exact⟨by rw[HE.out.1];rfl,HE.out.2⟩
  ·have hke:k=C.length:=by omega
   subst hke;have hev:mr M C=true:=by
    unfold mr;rw[List.all_eq_true];intro x hx;obtain⟨j,hj⟩:=List.getElem?_of_mem hx;exact hall j x (GQ.1 hj).1 hj
   have HE:Ia (mr M C=true∧H9 w.heap.size w wr):=⟨hev,HB1.out.trans ((HB2.out.trans (hb.mono HB2.out.size)).mono HB1.out.size)⟩
   clear hev hall hb;go_wp2
   try rw[Exit.noGoto_ret]
   go_ret;exact⟨by rw[HE.out.1];rfl,HE.out.2⟩
theorem Ev {p:Pg}{V:List Ty}{I:List fV}{s:Sl}{fA fC:Nat}(h:KA p V I):
  gF (ji p V I s fA fC)=0∧(ji p V I s fA fC).ptrs=[(0,0)]∧((ji p V I s fA fC).wants (fM (ji p V I s fA fC))).map Prod.fst=[[-1,-2],[1],[1]]:=by
 obtain⟨h1,h2,h3,h4,rfl,l0,c0,l1,c1,l2,c2,l3,c3,rfl⟩:=h;obtain⟨fd,h5,h6,h7⟩:=wN h4;cases p;simp only at h1 h2 h3 h5;subst h1 h2 h3 h5;obtain⟨nm,pt,tg,ln,cl⟩:=fd;obtain⟨rfl,rfl⟩:pt=true∧tg=bS:=Prod.mk.injEq ..▸h6;subst h7;refine⟨by kernel_rfl,by kernel_rfl,by kernel_rfl⟩
theorem Fq {w:H5}{p:Pg}{V:List Ty}{I:List fV}{s:Sl}{fA fC:Nat}(h:KA p V I)(hin:(ji p V I s fA fC).inn w):rU w (ji p V I s fA fC):=by
 have hp:=(Ev (s:=s) (fA:=fA) (fC:=fC) h).2.1;obtain⟨h1,h2,h3,h4,rfl,l0,c0,l1,c1,l2,c2,l3,c3,rfl⟩:=h;obtain⟨fd,h5,h6,h7⟩:=wN h4;have h6':p.fs.length=1:=by rw[h5];rfl
 refine⟨⟨hin,by simp[ji],by simp[ji],fun x hx=> ?_,fun x hx=> ?_,fun x hx i hi=> ?_⟩,fun x hx i hi=> ?_,fun x hx=> ?_,fun x hx=> ?_,by simp[ji],by rw[hp];decide,by rw[hp];simp[ji,bJ,mE]⟩
 ·obtain rfl:x=EJ p:=by simpa[ji] using hx
  show p.fs.length≤90000
  omega
 all_goals obtain rfl:x=mE p _ _ s:=by simpa[ji] using hx
 ·show([(true,bS),bF].map Cn).length≤90000
  decide
 ·have hi':i∈([⟨12,0,0,0,0,l0,c0⟩,⟨13,0,0,0,0,l1,c1⟩,⟨1,1,0,0,0,l2,c2⟩,⟨18,0,1,0,0,l3,c3⟩]:List fV).map fV.ins:=hi
  obtain⟨j,_,rfl⟩:=List.mem_map.1 hi';exact Hg _
 ·have hi':i∈([⟨12,0,0,0,0,l0,c0⟩,⟨13,0,0,0,0,l1,c1⟩,⟨1,1,0,0,0,l2,c2⟩,⟨18,0,1,0,0,l3,c3⟩]:List fV).map fV.ins:=hi
  simp only[List.map_cons,List.map_nil,List.mem_cons,List.not_mem_nil,or_false] at hi';rcases hi' with rfl|rfl|rfl|rfl<;>refine⟨?_, ?_, ?_, ?_⟩<;>(unfold bG fV.ins;dsimp only;omega)
 ·show([(true,bS),bF].map Cn).length≤400
  decide
 ·show(([⟨12,0,0,0,0,l0,c0⟩,⟨13,0,0,0,0,l1,c1⟩,⟨1,1,0,0,0,l2,c2⟩,⟨18,0,1,0,0,l3,c3⟩]:List fV).map fV.ins).length≤400
  simp
theorem oQ (w:H5)(c c':Array Value)(t:TypeId)(o:Obj):((w.alloc (.cells c t)).alloc o).setRow w.heap.size c'=(w.alloc (.cells c' t)).alloc o:=by
 have h:=congrArg World.heap (World.setRow_alloc_new w c c' t);unfold World.setRow World.alloc at*;simp only at h⊢;congr 1;rw[←h];apply Array.ext
 ·simp
 ·intro i h1 h2
  simp only[Array.getElem_modify,Array.getElem_push];simp at h1
  by_cases e:w.heap.size=i
  ·subst e
   simp
  ·rw[if_neg e]
   by_cases e2:i<w.heap.size
   ·simp[e2,show i<w.heap.size+1 by omega,e]
   ·simp[show¬i<w.heap.size+1 by omega]
theorem mP {P:Program}(w:H5)(t:TypeId)(c c':Array Value)(o:Obj)(ho:c.size=c'.size)(h1:∀v∈c'.toList,v.oneCell'=true):
  (storeCells ⟨w.heap.size,0,none⟩ c'.toList 0).run P ((w.alloc (.cells c t)).alloc o)= .ok () ((w.alloc (.cells c' t)).alloc o):=by
 rw[run_storeCells_from w.heap.size t c'.toList 0 c _ (heap_alloc2_old _ _ _) (by simp[ho]) h1];simp[oQ]
def Gx (m:Mo):Prop:=gF m=0∧m.ptrs=[(0,0)]∧(m.wants (fM m)).map Prod.fst=[[-1,-2],[1],[1]]
theorem Bz (w:H5):Calls prog 52 #[.string Ct] w fun e w'=>∃m:Mo,Gx m∧rU w' m∧e= .returned (.tuple #[.agg #[.slice m.sA m.ss.length m.sC,.slice m.fA m.fs.length m.fC],.agg #[.int .i64 0,.int .i64 0,.int .i64 0,.int .i64 0]])∧H9 w.heap.size w w':=
 (yE w).mono fun _ _ ⟨_,_,_,_,_,_,h1,h2,h3,h4⟩=>⟨_,Ev h1,Fq h1 h3,h2,h4⟩
theorem Dc {w:H5}{a b:Option Addr}{n1 n2 c1 c2:Nat}{o:Obj}:∀(c:Array Value),c.size=2→(storeCells ⟨w.heap.size,0,none⟩ [.slice a n1 c1,.slice b n2 c2] 0).run prog ((w.alloc (.cells c 25)).alloc o)= .ok () ((w.alloc (.cells #[.slice a n1 c1,.slice b n2 c2] 25)).alloc o):=fun c hc=>
 mP w _ c #[.slice a n1 c1,.slice b n2 c2] o (by rw[hc];rfl) (by simp[Value.oneCell'])
theorem De {w:H5}{o:Obj}:∀(c:Array Value),c.size=4→(storeCells ⟨w.heap.size+1,0,none⟩ [.int .i64 0,.int .i64 0,.int .i64 0,.int .i64 0] 0).run prog ((w.alloc o).alloc (.cells c 113))= .ok () ((w.alloc o).alloc (.cells #[.int .i64 0,.int .i64 0,.int .i64 0,.int .i64 0] 113)):=fun c hc=>by
 have:=mF (w:=w.alloc o) c hc
 rwa [Hu] at this
theorem vJ {w:H5}{N:Int}{a:Option Addr}{n k:Nat}:∀(c:Array Value),c.size=2→(storeCells ⟨w.heap.size,0,none⟩ [.int .i64 N,.slice a n k] 0).run prog (w.alloc (.cells c 48))= .ok () (w.alloc (.cells #[.int .i64 N,.slice a n k] 48)):=fun c hc=>
 run_storeCells_new (P:=prog) w 48 c #[.int .i64 N,.slice a n k] (by show _=some 2;kernel_rfl) hc (by simp[Value.oneCell'])
theorem uo (w:H5):zP 14 #[] w (.bool true):=by
 have HT:=zH (Bz w);go_enter func14,ntmps14
 go_upto_region 2 with(go_at_call 52;refine HT.out.mono ?_;rintro e w2 ⟨m,hA,hW,rfl,hb2⟩;have hms:=Dc (w:=w2) (a:=m.sA) (b:=m.fA) (n1:=m.ss.length) (n2:=m.fs.length) (c1:=m.sC) (c2:=m.fC) (o:= .cells #[.int .i64 0,.int .i64 0,.int .i64 0,.int .i64 0] 113);have hds:=De (w:=w2) (o:= .cells #[.slice m.sA m.ss.length m.sC,.slice m.fA m.fs.length m.fC] 25);have HB2:=zH hb2;have HA:=zH hA;have HW:=zH hW;clear hb2 hA hW)
 obtain⟨D,hD⟩:=zE w2.heap.size;obtain⟨W3,hW3⟩:=zE ((w2.alloc (.cells #[.slice m.sA m.ss.length m.sC,.slice m.fA m.fs.length m.fC] 25)).alloc (.cells #[.int .i64 0,.int .i64 0,.int .i64 0,.int .i64 0] 113));have hb23:=EA hW3;have hr3:=xV hW3 hD;rw[hW3,hD];have HWO:Ia (Calls prog 15 #[.agg #[.slice m.sA m.ss.length m.sC,.slice m.fA m.fs.length m.fC]] W3 fun e w'=>∃T Bb MB lv at_ tg s Y,e= .returned (.tuple #[.pointer (some ⟨T,0,none⟩),.int .i64 0])∧Wn T Bb MB lv [(0,0)] 2 (aM 0 [(0,0)]) [[-1,-2],[1],[1]] Y at_ (W3.heap.size+1) tg s w'∧H9 W3.heap.size W3 w'):=by
  obtain⟨h1,h2,h3⟩:=HA.out;refine(og m W3 ⟨iI.below HW.out.ri hb23,HW.out.wf,HW.out.nv,HW.out.ni,HW.out.nf,HW.out.np,HW.out.nt⟩ h1).mono ?_;rintro e w' ⟨T,Bb,MB,lv,at_,he,tg,s,hwn,hb⟩;rw[h2,h3] at hwn;refine⟨T,Bb,MB,lv,at_,tg,s,_,he,hwn, ?_⟩;have hb0:H9 W3.heap.size W3 (W3.alloc (.cells m.cells 25)):=(Hw _ _).alloc (He _) _;exact hb0.trans (hb.mono (Nat.le_succ _))
 obtain⟨c0,c1⟩:W3.cell? ⟨D,0,none⟩=some (.slice m.sA m.ss.length m.sC)∧W3.cell? ⟨D,1,none⟩=some (.slice m.fA m.fs.length m.fC):=⟨(rowAt hr3 0 rfl).1,(rowAt hr3 1 rfl).1⟩
 have hDl:=ae hr3;have HB3:Ia (H9 w.heap.size w W3):=HB2.out.trans (hb23.mono HB2.out.size);clear hms hds hb23 hr3 hD hW3
 go_upto_region 3 with(go_at_call 15;refine HWO.out.mono ?_;rintro e w4 ⟨T,Bb,MB,lv,at_,tg,s,Y,rfl,hwn,hb4⟩;have HN4:=zH hwn;have HF4:=zH (mq w4 hwn (by decide));have HB4:=zH hb4;clear hwn hb4)
 clear c0 c1 hDl
 go_upto_region 4 with(go_at_call 16;refine HF4.out.mono ?_;rintro e w5 ⟨fa,fc,rfl,hcl,hb5⟩;have hfs:=vJ (w:=w5) (N:=2) (a:=fa) (n:=3) (k:=fc);have HB5:=zH hb5;have HCL:=zH hcl;clear hb5 hcl)
 obtain⟨E,hE⟩:=zE w5.heap.size;obtain⟨W6,hW6⟩:=zE (w5.alloc (.cells #[.int .i64 2,.slice fa 3 fc] 48));have hb56:=gK hW6;have hr6:W6.heap[E]?=some (.cells #[.int .i64 2,.slice fa 3 fc] 48 (0,0)):=by rw[←hW6,←hE];exact alloc_at _ _
 rw[hW6,hE];have hn6:=(HN4.out.grow HB5.out).grow hb56;have hF:aM 0 [((0:Int),(0:Int))] (0,0)=1:=by kernel_rfl
 have HOW:=zH (vI W6 hn6 0 0 (by unfold bG;omega) (by unfold bG;omega));have HMU:=zH (Da W6 hn6 0 0 (by unfold bG;omega) (by unfold bG;omega) (by rw[hF];decide));rw[hF] at HOW HMU;rw[if_neg (by decide),show(1:Int)+1=2 from rfl] at HMU;have HC6:=zH (HCL.out.below hb56);have HR6:=zH hr6;have HB6:Ia (H9 w.heap.size w W6):=HB3.out.trans ((HB4.out.trans ((HB5.out.trans (hb56.mono HB5.out.size)).mono HB4.out.size)).mono HB3.out.size);obtain⟨e0,e1⟩:W6.cell? ⟨E,0,none⟩=some (.int .i64 2)∧W6.cell? ⟨E,1,none⟩=some (.slice fa 3 fc):=⟨(rowAt hr6 0 rfl).1,(rowAt hr6 1 rfl).1⟩
 have hEl:=ae hr6;have HEV:Ia (∀(x y:Bool)(W:H5),H9 W6.heap.size W6 W→zP 17 #[.agg #[.int .i64 2,.slice fa 3 fc],.slice (some ⟨W.heap.size,0,none⟩) 2 2] (W.alloc (.cells #[.bool x,.bool y] 4)) (.bool (mr [x,y] [[-1,-2],[1],[1]]))):=by
  intro x y W hb;have hba:H9 W.heap.size W (W.alloc (.cells #[.bool x,.bool y] 4)):=(Hw _ _).alloc (He _) _;have hrw:(W.alloc (.cells #[.bool x,.bool y] 4)).heap[W.heap.size]?=some (.cells #[.bool x,.bool y] 4 (0,0)):=alloc_at _ _;refine Bw [x,y] _ fa _ [[-1,-2],[1],[1]] fc 2 _ ((HC6.out.below hb).below hba) (fun k z hz=>⟨W.heap.size,0,rfl,by simp, ?_⟩) (by simp) (show∀c∈([[-1,-2],[1],[1]]:List (List Int)),c.all (bH ((2:Nat):Int))=true∧c.length≤80000 by decide) (by decide)
  match k,hz with
  |0,hz=>
   obtain rfl:x=z:=by simpa using hz
   exact(rowAt hrw 0 rfl).1
  |1,hz=>
   obtain rfl:y=z:=by simpa using hz
   exact(rowAt hrw 1 rfl).1
  |k+2,hz=>simp at hz
 clear hfs hb56 hr6 hn6 hE hW6 hF
 go_wp2_with (first|(go_at_call 24;refine HOW.out.mono ?_;rintro e w7 ⟨rfl,rfl⟩)|(go_at_call 25;refine HMU.out.mono ?_;rintro e w7 ⟨rfl,rfl⟩))
 refine(HEV.out true false W6 (Hw _ _)).mono ?_;rintro e w8 ⟨rfl,hb8⟩;have hb68:H9 W6.heap.size W6 w8:=((Hw _ _).alloc (He _) _).trans (hb8.mono (by simp));have HB8:=zH hb68;have hr8:=(hb68.block E (ae HR6.out)).trans HR6.out;clear e0 e1 hEl hb8;obtain⟨e0,e1⟩:w8.cell? ⟨E,0,none⟩=some (.int .i64 2)∧w8.cell? ⟨E,1,none⟩=some (.slice fa 3 fc):=⟨(rowAt hr8 0 rfl).1,(rowAt hr8 1 rfl).1⟩
 have hEl:=ae hr8;clear hr8 hb68;rw[show mr [true,false] [[-1,-2],[1],[1]]=true by kernel_rfl]
 go_wp2_with fail
 refine(HEV.out false false w8 HB8.out).mono ?_;rintro e w9 ⟨rfl,hb9⟩;have HB9:Ia (H9 W6.heap.size W6 w9):=(HB8.out.alloc HB8.out.size _).trans (hb9.mono (by have:=HB8.out.size;simp;omega));rw[show mr [false,false] [[-1,-2],[1],[1]]=false by kernel_rfl];clear hb9 e0 e1 hEl;go_wp2;go_ret;exact⟨rfl,HB6.out.trans (HB9.out.mono HB6.out.size)⟩
end Go.Proofs.YtjomgckjhcfbgaaGreat
