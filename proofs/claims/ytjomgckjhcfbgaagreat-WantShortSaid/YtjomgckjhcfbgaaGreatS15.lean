/- Walks. -/
import Derived.Test.YtjomgckjhcfbgaaGreatS11
import Derived.Test.YtjomgckjhcfbgaaGreatS14
set_option maxRecDepth 100000
set_option maxHeartbeats 64000000
set_option linter.all false
namespace Go.Proofs.YtjomgckjhcfbgaaGreat
open Go.RowKit
open _root_.List renaming getElem?_eq_getElem→GN,getElem?_eq_some_iff→GQ,mem_of_getElem?→GV,setIfInBounds_toArray→GX,set_cons_zero→GY,set_cons_succ→GZ,take_length→Ha
open _root_.Nat renaming zero_le→Hg
open _root_.Int renaming toNat_natCast→Ho
open Go.RowKit.Below renaming refl→Hw
open Go renaming World→H5
open Go.RowKit renaming Below→H9,Hid→Ia
open Tryz
theorem za {m:Mo}{s:St}{y:Fd}(hs:s∈m.ss)(hy:y∈s.fs)(h:m.known y.ty=false):(!(bN m).all m.known)=true:=by
 rw[Bool.not_eq_true',List.all_eq_false];exact⟨y.ty,List.mem_append.2 (.inl (List.mem_flatMap.2 ⟨s,hs,List.mem_map.2 ⟨y,hy,rfl⟩⟩)),by simp[h]⟩
theorem CE {m:Mo}{f:Fn}(hs:f∈m.fs)(h:m.known f.ret=false):(!(bN m).all m.known)=true:=by
 rw[Bool.not_eq_true',List.all_eq_false];exact⟨f.ret,List.mem_append.2 (.inr (List.mem_flatMap.2 ⟨f,hs,by simp⟩)),by simp[h]⟩
theorem CF {m:Mo}{f:Fn}{y:Vr}(hs:f∈m.fs)(hy:y∈f.vs)(h:m.known y.ty=false):(!(bN m).all m.known)=true:=by
 rw[Bool.not_eq_true',List.all_eq_false];exact⟨y.ty,List.mem_append.2 (.inr (List.mem_flatMap.2 ⟨f,hs,List.mem_cons_of_mem _ (List.mem_map.2 ⟨y,hy,rfl⟩)⟩)),by simp[h]⟩
theorem CG {m:Mo}(h1:∀s∈m.ss,∀y∈s.fs,m.known y.ty=true)(h2:∀f∈m.fs,m.known f.ret=true∧∀y∈f.vs,m.known y.ty=true):(!(bN m).all m.known)=false:=by
 rw[Bool.not_eq_false',List.all_eq_true];intro t ht;rcases List.mem_append.1 ht with h|h
 ·obtain⟨s,hs,ht⟩:=List.mem_flatMap.1 h
  obtain⟨y,hy,rfl⟩:=List.mem_map.1 ht;exact h1 s hs y hy
 ·obtain⟨f,hf,ht⟩:=List.mem_flatMap.1 h
  rcases List.mem_cons.1 ht with rfl|ht
  ·exact(h2 f hf).1
  ·obtain⟨y,hy,rfl⟩:=List.mem_map.1 ht
   exact(h2 f hf).2 y hy
theorem qX (m:Mo)(w:H5)(hmo:m.inn w)(hsl:m.ss.length≤90000)(hfl:m.fs.length≤90000)(hfd:∀s∈m.ss,s.fs.length≤90000)(hvl:∀f∈m.fs,f.vs.length≤90000):
  zP 48 #[.agg m.cells] w (.bool (!(bN m).all m.known)):=by
 obtain⟨R,hR⟩:=zE (!(bN m).all m.known);rw[hR];have HR:=zH hR;obtain⟨N,hN⟩:=zE w.heap.size;obtain⟨W1,hW1⟩:=zE (w.alloc (.cells m.cells 25));have hb1:=gK hW1;have hs1:W1.heap.size=N+1:=by rw[←hW1];simp[hN]
 have hr1:W1.heap[N]?=some (.cells m.cells 25 (0,0)):=by rw[←hW1,←hN];exact alloc_at _ _
 have HK:Ia (∀W,H9 W1.heap.size W1 W→W.cell? ⟨N,0,none⟩=some (.slice m.sA m.ss.length m.sC)∧W.cell? ⟨N,1,none⟩=some (.slice m.fA m.fs.length m.fC)∧m.inn W∧H9 w.heap.size w W):=fun W hW=>by
  have q1:=(hW.block N (by omega)).trans hr1;have h3:=hb1.trans (hW.mono hb1.size);exact⟨by rw[cell_of_row _ _ _ _ _ _ q1];rfl,by rw[cell_of_row _ _ _ _ _ _ q1];rfl,hmo.below h3,h3⟩
 have HKN:Ia (∀W,H9 W1.heap.size W1 W→∀t:Ty,zP 85 #[.agg #[.slice m.sA m.ss.length m.sC,.slice m.fA m.fs.length m.fC],.agg #[.bool t.1,.string t.2]] W (.bool (m.known t))):=fun W hW t=>wT m t.1 t.2 W hmo.ns (HK.out W hW).2.2.1.srow;have HFD:=zH hfd;have HVL:=zH hvl;have hW1':=hW1;simp only[Mo.cells] at hW1';have HW1:=zH hW1';have HS1:=zH hs1;simp only[Mo.cells];clear hmo hfd hvl hW1 hW1' hb1 hr1 hR hs1;obtain⟨c0,c1,_,_⟩:=HK.out W1 (Hw _ _);go_enter func48,ntmps48
 go_upto_region 1 with(fail)
 rw[HW1.out]
 go_wp2_with fail
 go_loopw [3] (fun k wr=>∃j:Nat,j≤m.ss.length∧k= .int .i64 (j:Int)∧(∀s∈m.ss.take j,∀y∈s.fs,m.known y.ty=true)∧H9 W1.heap.size W1 wr) (fun k _=>m.ss.length-(intOf k).toNat)
 case atStart=>exact⟨0,Hg _,rfl,by simp,Hw _ _⟩
 case round=>
  rename H5=>wo;clear c0 c1;obtain⟨j,hj,rfl,hz,hb⟩:=hrel;obtain⟨c0,c1,hmi,hbw⟩:=HK.out wo hb;have HZ:=zH hz;have HB:=zH hb
  by_cases hjl:j<m.ss.length
  ·obtain⟨s,hs⟩:∃y,m.ss[j]?=some y:=⟨_,GN hjl⟩
   have hsm:=GV hs;obtain⟨g1,off,hA,hg1,q1⟩:=hmi.srow (by intro e;rw[e] at hjl;simp at hjl);have HD:Ia (∀W,H9 W1.heap.size W1 W→W.cell? ⟨N,0,none⟩=some (.slice (some ⟨g1,off,none⟩) m.ss.length m.sC)∧W.cell? ⟨N,1,none⟩=some (.slice m.fA m.fs.length m.fC)∧W.cell? ⟨g1,off+j*4+1,none⟩=some (.slice s.s.fA s.fs.length s.s.fC)∧s.inn W):=fun W hW=>by
    obtain⟨k0,k1,k2,_⟩:=HK.out W hW;obtain⟨g2,off2,hA2,_,q2⟩:=k2.srow (by intro e;rw[e] at hjl;simp at hjl);rw[hA] at hA2;simp only[Option.some.injEq,Addr.mk.injEq,and_true] at hA2;refine⟨by rw[←hA];exact k0,k1, ?_,k2.sin s hsm⟩;rw[←(k2.sin s hsm).nf,hA2.1,hA2.2];exact q2 j s hs 1 _ rfl
   have hjI:(j:Int)<(m.ss.length:Int):=by omega
   have HS:=zH hs;have HSM:=zH hsm;have hfd:=HFD.out s hsm;have HA:=zH hA;clear hz hb hbw hs hsm hmi c0 c1 q1 hA;obtain⟨c0,c1,c2,_⟩:=HD.out wo HB.out
   go_wp2_with fail
   clear c0 c1 c2
   go_loopw [4] (fun k wr=>∃i:Nat,i≤s.fs.length∧k= .int .i64 (i:Int)∧(∀y∈s.fs.take i,m.known y.ty=true)∧H9 W1.heap.size W1 wr) (fun k _=>s.fs.length-(intOf k).toNat)
   case atStart=>exact⟨0,Hg _,rfl,by simp,HB.out⟩
   case round=>
    obtain⟨i,hi,rfl,hnd,hbr⟩:=hrel;have HND:=zH hnd;have HBR:=zH hbr;obtain⟨c0,c1,c2,hsi⟩:=HD.out wr hbr
    by_cases hil:i<s.fs.length
    ·obtain⟨y,hy⟩:∃y,s.fs[i]?=some y:=⟨_,GN hil⟩
     obtain⟨f1,fo,hfA,hf1,q2⟩:=hsi.row (by intro e;rw[e] at hil;simp at hil);have hiI:(i:Int)<(s.fs.length:Int):=by omega
     have HY:=zH hy;obtain⟨d,hd⟩:=zE (m.known y.ty);have HDD:=zH hd;have HBP:Ia (∀p:BW wr,H9 W1.heap.size W1 p.w):=fun p=>HBR.out.trans (p.h.mono HBR.out.size);have HC:Ia (∀p:BW wr,zP 85 #[.agg #[.slice (some ⟨g1,off,none⟩) m.ss.length m.sC,.slice m.fA m.fs.length m.fC],.agg #[.bool y.ptr,.string y.tgt]] p.w (.bool d)):=fun p=>by
      rw[←HA.out,←hd];exact HKN.out p.w (HBP.out p) y.ty
     have m0:∀p:BW wr,p.w.cell? ⟨N,0,none⟩=some (.slice (some ⟨g1,off,none⟩) m.ss.length m.sC):=fun p=>(HD.out p.w (HBP.out p)).1;have m1:∀p:BW wr,p.w.cell? ⟨N,1,none⟩=some (.slice m.fA m.fs.length m.fC):=fun p=>(HD.out p.w (HBP.out p)).2.1;have m2:∀p:BW wr,p.w.cell? ⟨g1,off+j*4+1,none⟩=some (.slice (some ⟨f1,fo,none⟩) s.fs.length s.s.fC):=fun p=>by rw[←hfA];exact(HD.out p.w (HBP.out p)).2.2.1
     have m3:∀p:BW wr,p.w.cell? ⟨f1,fo+i*5+1,none⟩=some (.bool y.ptr):=fun p=>by rw[p.h.cell (p:=⟨f1,_,none⟩) hf1];exact q2 i y hy 1 _ rfl
     have m4:∀p:BW wr,p.w.cell? ⟨f1,fo+i*5+1+1,none⟩=some (.string y.tgt):=fun p=>by rw[p.h.cell (p:=⟨f1,_,none⟩) hf1];exact q2 i y hy 2 _ rfl
     clear hnd hbr hsi hy hd hfA q2
     go_wp2_with fail
     clear c0 c1 c2;refine zQ ?_
     repeat (go_big_quiet_step (first|(go_at_call 85;exact bg (HC.out _))))
     refine wpQuiet_nil ?_;rintro _ ⟨p,rfl⟩;have HBF:Ia (H9 w.heap.size w p.w):=(HK.out p.w (HBP.out p)).2.2.2;clear m0 m1 m2 m3 m4;cases d with
     |false=>
      have HRR:Ia (R=true):=by unfold Ia;rw[←HR.out];exact za HSM.out (GV HY.out) HDD.out
      go_wp2;go_ret;rw[HRR.out];exact⟨rfl,HBF.out⟩
     |true=>
      go_wp2;go_roundw
      case rel=>exact⟨i+1,by omega,by go_num,dx (p:=fun y:Fd=>m.known y.ty=true) HND.out HY.out HDD.out,HBP.out p⟩
      case measure=>simp[intOf];omega
    ·have hie:i=s.fs.length:=by omega
     subst hie;rw[Ha] at hnd;have HND2:=zH hnd;clear hbr hnd hsi;go_wp2;go_roundw
     case rel=>exact⟨j+1,by omega,by go_num,dx (p:=fun s:St=>∀y∈s.fs,m.known y.ty=true) HZ.out HS.out HND2.out,HBR.out⟩
     case measure=>simp[intOf];omega
  ·have hje:j=m.ss.length:=by omega
   subst hje;rw[Ha] at hz;have HZ:=zH hz;clear hz hb hbw hmi
   go_wp2_with fail
   clear c0 c1
   go_loopw [5] (fun k wr=>∃i:Nat,i≤m.fs.length∧k= .int .i64 (i:Int)∧(∀f∈m.fs.take i,m.known f.ret=true∧∀y∈f.vs,m.known y.ty=true)∧H9 W1.heap.size W1 wr) (fun k _=>m.fs.length-(intOf k).toNat)
   case atStart=>exact⟨0,Hg _,rfl,by simp,HB.out⟩
   case round=>
    rename H5=>wp;obtain⟨i,hi,rfl,hz,hb⟩:=hrel;obtain⟨c0,c1,hmi,hbw⟩:=HK.out wp hb;have HZ2:=zH hz;have HB2:=zH hb;have HBW2:=zH hbw
    by_cases hil:i<m.fs.length
    ·obtain⟨f,hs⟩:∃y,m.fs[i]?=some y:=⟨_,GN hil⟩
     have hfm:=GV hs;obtain⟨g1,off,hA,hg1,q1⟩:=hmi.frow (by intro e;rw[e] at hil;simp at hil);have HD:Ia (∀W,H9 W1.heap.size W1 W→W.cell? ⟨N,0,none⟩=some (.slice m.sA m.ss.length m.sC)∧W.cell? ⟨N,1,none⟩=some (.slice (some ⟨g1,off,none⟩) m.fs.length m.fC)∧W.cell? ⟨g1,off+i*8+2,none⟩=some (.slice f.c.varsA f.vs.length f.c.varsC)∧W.cell? ⟨g1,off+i*8+3,none⟩=some (.bool f.c.rp)∧W.cell? ⟨g1,off+i*8+3+1,none⟩=some (.string f.c.rto)∧f.inn W):=fun W hW=>by
      obtain⟨k0,k1,k2,_⟩:=HK.out W hW;obtain⟨g2,off2,hA2,_,q2⟩:=k2.frow (by intro e;rw[e] at hil;simp at hil);rw[hA] at hA2;simp only[Option.some.injEq,Addr.mk.injEq,and_true] at hA2;refine⟨k0,by rw[←hA];exact k1, ?_,by rw[hA2.1,hA2.2];exact q2 i f hs 3 _ rfl,by rw[hA2.1,hA2.2];exact q2 i f hs 4 _ rfl,k2.fin f hfm⟩;rw[←(k2.fin f hfm).nvars,hA2.1,hA2.2];exact q2 i f hs 2 _ rfl
     have hiI:(i:Int)<(m.fs.length:Int):=by omega
     have HS:=zH hs;have HFM:=zH hfm;have HA:=zH hA;have hvl:=HVL.out f hfm;obtain⟨d,hd⟩:=zE (m.known f.ret);have HDD:=zH hd;have HBP:Ia (∀p:BW wp,H9 W1.heap.size W1 p.w):=fun p=>HB2.out.trans (p.h.mono HB2.out.size);have HC:Ia (∀p:BW wp,zP 85 #[.agg #[.slice m.sA m.ss.length m.sC,.slice (some ⟨g1,off,none⟩) m.fs.length m.fC],.agg #[.bool f.c.rp,.string f.c.rto]] p.w (.bool d)):=fun p=>by
      rw[←HA.out,←hd];exact HKN.out p.w (HBP.out p) f.ret
     have m0:∀p:BW wp,p.w.cell? ⟨N,0,none⟩=some (.slice m.sA m.ss.length m.sC):=fun p=>(HD.out p.w (HBP.out p)).1;have m1:∀p:BW wp,p.w.cell? ⟨N,1,none⟩=some (.slice (some ⟨g1,off,none⟩) m.fs.length m.fC):=fun p=>(HD.out p.w (HBP.out p)).2.1;have m3:∀p:BW wp,p.w.cell? ⟨g1,off+i*8+3,none⟩=some (.bool f.c.rp):=fun p=>(HD.out p.w (HBP.out p)).2.2.2.1;have m4:∀p:BW wp,p.w.cell? ⟨g1,off+i*8+3+1,none⟩=some (.string f.c.rto):=fun p=>(HD.out p.w (HBP.out p)).2.2.2.2.1;clear hz hb hbw hs hmi hd hfm hA q1
     go_wp2_with fail
     clear c0 c1;refine zQ ?_
     repeat (go_big_quiet_step (first|(go_at_call 85;exact bg (HC.out _))))
     refine wpQuiet_nil ?_;rintro _ ⟨p,rfl⟩;have HBF:Ia (H9 w.heap.size w p.w):=(HK.out p.w (HBP.out p)).2.2.2;clear m0 m1 m3 m4;cases d with
     |false=>
      have HRR:Ia (R=true):=by unfold Ia;rw[←HR.out];exact CE HFM.out HDD.out
      go_wp2;go_ret;rw[HRR.out];exact⟨rfl,HBF.out⟩
     |true=>
      go_wp2_with fail
      go_loopw [6] (fun k wr=>∃q:Nat,q≤f.vs.length∧k= .int .i64 (q:Int)∧(∀y∈f.vs.take q,m.known y.ty=true)∧H9 W1.heap.size W1 wr) (fun k _=>f.vs.length-(intOf k).toNat)
      case atStart=>exact⟨0,Hg _,rfl,by simp,HBP.out p⟩
      case round=>
       obtain⟨q,hq,rfl,hnd,hbr⟩:=hrel;have HND:=zH hnd;have HBR:=zH hbr;obtain⟨c0,c1,c2,_,_,hfi⟩:=HD.out wr hbr
       by_cases hql:q<f.vs.length
       ·obtain⟨y,hy⟩:∃y,f.vs[q]?=some y:=⟨_,GN hql⟩
        obtain⟨f1,fo,hfA,hf1,q2⟩:=hfi.vars (by intro e;rw[e] at hql;simp at hql);have hqI:(q:Int)<(f.vs.length:Int):=by omega
        have HY:=zH hy;obtain⟨d,hd⟩:=zE (m.known y.ty);have HDY:=zH hd;have HBQ:Ia (∀p:BW wr,H9 W1.heap.size W1 p.w):=fun p=>HBR.out.trans (p.h.mono HBR.out.size);have HCY:Ia (∀p:BW wr,zP 85 #[.agg #[.slice m.sA m.ss.length m.sC,.slice (some ⟨g1,off,none⟩) m.fs.length m.fC],.agg #[.bool y.ptr,.string y.tgt]] p.w (.bool d)):=fun p=>by
         rw[←HA.out,←hd];exact HKN.out p.w (HBQ.out p) y.ty
        have m0:∀p:BW wr,p.w.cell? ⟨N,0,none⟩=some (.slice m.sA m.ss.length m.sC):=fun p=>(HD.out p.w (HBQ.out p)).1;have m1:∀p:BW wr,p.w.cell? ⟨N,1,none⟩=some (.slice (some ⟨g1,off,none⟩) m.fs.length m.fC):=fun p=>(HD.out p.w (HBQ.out p)).2.1;have m2:∀p:BW wr,p.w.cell? ⟨g1,off+i*8+2,none⟩=some (.slice (some ⟨f1,fo,none⟩) f.vs.length f.c.varsC):=fun p=>by rw[←hfA];exact(HD.out p.w (HBQ.out p)).2.2.1
        have m3:∀p:BW wr,p.w.cell? ⟨f1,fo+q*3,none⟩=some (.bool y.ptr):=fun p=>by rw[p.h.cell (p:=⟨f1,_,none⟩) hf1];exact q2 q y hy 0 _ rfl
        have m4:∀p:BW wr,p.w.cell? ⟨f1,fo+q*3+1,none⟩=some (.string y.tgt):=fun p=>by rw[p.h.cell (p:=⟨f1,_,none⟩) hf1];exact q2 q y hy 1 _ rfl
        clear hnd hbr hfi hy hd hfA q2
        go_wp2_with fail
        clear c0 c1 c2;refine zQ ?_
        repeat (go_big_quiet_step (first|(go_at_call 85;exact bg (HCY.out _))))
        refine wpQuiet_nil ?_;rintro _ ⟨p,rfl⟩;have HBF2:Ia (H9 w.heap.size w p.w):=(HK.out p.w (HBQ.out p)).2.2.2;clear m0 m1 m2 m3 m4;cases d with
        |false=>
         have HRR:Ia (R=true):=by unfold Ia;rw[←HR.out];exact CF HFM.out (GV HY.out) HDY.out
         go_wp2;go_ret;rw[HRR.out];exact⟨rfl,HBF2.out⟩
        |true=>
         go_wp2;go_roundw
         case rel=>exact⟨q+1,by omega,by go_num,dx (p:=fun y:Vr=>m.known y.ty=true) HND.out HY.out HDY.out,HBQ.out p⟩
         case measure=>simp[intOf];omega
       ·have hqe:q=f.vs.length:=by omega
        subst hqe;rw[Ha] at hnd;have HND2:=zH hnd;clear hbr hnd hfi;go_wp2;go_roundw
        case rel=>exact⟨i+1,by omega,by go_num,dx (p:=fun f:Fn=>m.known f.ret=true∧∀y∈f.vs,m.known y.ty=true) HZ2.out HS.out ⟨HDD.out,HND2.out⟩,HBR.out⟩
        case measure=>simp[intOf];omega
    ·have hie:i=m.fs.length:=by omega
     subst hie;rw[Ha] at hz;have HRR:Ia (R=false):=by unfold Ia;rw[←HR.out];exact CG HZ.out hz
     clear hz hb hbw hmi;go_wp2;go_ret;rw[HRR.out];exact⟨rfl,HBW2.out⟩
theorem qY (m:Mo)(w:H5)(h:iI w m):
  zP 13 #[.agg m.cells] w (.int .i64 (gF m)):=by
 obtain⟨R,hR⟩:=zE (gF m);have HR:Ia (R=if 30<m.ss.length∨60<m.fs.length then 2
  else if di m=true then 6
  else if (bN m).all m.known=false then 5
  else if aP (codeF m) m.fs≠0 then aP (codeF m) m.fs
  else bM (decide (0≤m.fnIx dB)&&(match m.fs[(m.fnIx dB).toNat]? with
   |some g=>decide (g.c.par=0)&& !g.c.rp
   |none=>false)) 9):=hR.symm
 rw[hR];obtain⟨N,hN⟩:=zE w.heap.size;obtain⟨W1,hW1⟩:=zE (w.alloc (.cells m.cells 25));have hb1:=gZ hW1 hN;have hs1:W1.heap.size=N+1:=by rw[←hW1];simp[hN]
 have hr1:W1.heap[N]?=some (.cells m.cells 25 (0,0)):=by rw[←hW1,←hN];exact alloc_at _ _
 have HMI:Ia (∀W,H9 N w W→iI W m):=fun W hW=>⟨h.mo.below (by rw[hN];exact hW),h.sl,h.fl,h.fd,h.vl,h.al⟩
 have HK:Ia (∀W,H9 W1.heap.size W1 W→W.heap[N]?=some (.cells m.cells 25 (0,0))∧W.cell? ⟨N,0,none⟩=some (.slice m.sA m.ss.length m.sC)∧W.cell? ⟨N,1,none⟩=some (.slice m.fA m.fs.length m.fC)∧iI W m∧H9 N w W):=fun W hW=>by
  have q1:=(hW.block N (by omega)).trans hr1;have h3:=hb1.trans (hW.mono (show N≤W1.heap.size by omega));exact⟨q1,by rw[cell_of_row _ _ _ _ _ _ q1];rfl,by rw[cell_of_row _ _ _ _ _ _ q1];rfl,HMI.out W h3,h3⟩
 have hW1':=hW1;simp only[Mo.cells] at hW1';have HW1:=zH hW1';have HS1:=zH hs1;have HNW:Ia (∀W,H9 N w W→N≤W.heap.size):=fun W hW=>by have:=hW.size;omega
 unfold zP;rw[hN];simp only[Mo.cells];clear h hW1 hW1' hb1 hr1 hR hs1;obtain⟨hr,c0,c1,_,_⟩:=HK.out W1 (Hw _ _);have HRR0:=zH hr;clear hr;go_enter func13,ntmps13
 go_upto_region 1 with(fail)
 rw[HW1.out];clear HW1 hN
 by_cases g1:30<m.ss.length
 ·have HRR:Ia (R=2):=by unfold Ia;rw[HR.out,if_pos (.inl g1)]
  clear HR;go_wp2;go_ret;rw[HRR.out];exact⟨rfl,(HK.out W1 (Hw _ _)).2.2.2.2⟩
 by_cases g2:60<m.fs.length
 ·have HRR:Ia (R=2):=by unfold Ia;rw[HR.out,if_pos (.inr g2)]
  clear HR;go_wp2;go_ret;rw[HRR.out];exact⟨rfl,(HK.out W1 (Hw _ _)).2.2.2.2⟩
 have HR2:Ia (R=if di m=true then 6
  else if (bN m).all m.known=false then 5
  else if aP (codeF m) m.fs≠0 then aP (codeF m) m.fs
  else bM (decide (0≤m.fnIx dB)&&(match m.fs[(m.fnIx dB).toNat]? with
   |some g=>decide (g.c.par=0)&& !g.c.rp
   |none=>false)) 9):=by unfold Ia;rw[HR.out,if_neg (by omega)]
 clear HR;have HTW:Ia (zP 47 #[.agg m.cells] W1 (.bool (di m))):=by
  obtain⟨_,_,_,h4,_⟩:=HK.out W1 (Hw _ _);exact xc m W1 h4.mo h4.sl h4.fl h4.fd
 obtain⟨tw,htw⟩:=zE (di m);rw[htw] at HTW HR2;clear htw
 go_upto_region 3 with(fail)
 cases tw with
 |true=>
  have HRR:Ia (R=6):=by unfold Ia;rw[HR2.out,if_pos rfl]
  clear HR2
  go_wp2_with (first
   |(refine wpList_load_row rfl 25 _ rfl N rfl 25 m.cells (0,0) _ HRR0.out underlying25 rfl (by kernel_rfl) ?_)
   |(go_at_call 47;refine HTW.out.mono ?_;rintro e w3 ⟨rfl,hb3⟩;have HB3:=zH hb3;clear hb3))
  go_ret;rw[HRR.out];exact⟨rfl,(HK.out w3 HB3.out).2.2.2.2⟩
 |false=>
 have HR3:Ia (R=if (bN m).all m.known=false then 5
  else if aP (codeF m) m.fs≠0 then aP (codeF m) m.fs
  else bM (decide (0≤m.fnIx dB)&&(match m.fs[(m.fnIx dB).toNat]? with
   |some g=>decide (g.c.par=0)&& !g.c.rp
   |none=>false)) 9):=by unfold Ia;rw[HR2.out,if_neg (by simp)]
 clear HR2
 go_upto_region 5 with(first
   |(refine wpList_load_row rfl 25 _ rfl N rfl 25 m.cells (0,0) _ HRR0.out underlying25 rfl (by kernel_rfl) ?_)
   |(go_at_call 47;refine HTW.out.mono ?_;rintro e w3 ⟨rfl,hb3⟩;have HB3:=zH hb3;clear hb3))
 clear c0 c1 HTW;obtain⟨hr,c0,c1,h4,_⟩:=HK.out w3 HB3.out;have HRR3:=zH hr;have HUN:Ia (zP 48 #[.agg m.cells] w3 (.bool (!(bN m).all m.known))):=qX m w3 h4.mo h4.sl h4.fl h4.fd h4.vl;clear hr h4;obtain⟨un,hun⟩:=zE ((bN m).all m.known);rw[hun] at HUN HR3;cases un with
 |false=>
  have HRR:Ia (R=5):=by unfold Ia;rw[HR3.out,if_pos rfl]
  clear HR3 hun;rw[Bool.not_false] at HUN
  go_wp2_with (first
   |(refine wpList_load_row rfl 25 _ rfl N rfl 25 m.cells (0,0) _ HRR3.out underlying25 rfl (by kernel_rfl) ?_)
   |(go_at_call 48;refine HUN.out.mono ?_;rintro e w4 ⟨rfl,hb4⟩;have HB4:=zH hb4;clear hb4))
  go_ret;rw[HRR.out];exact⟨rfl,(HK.out w4 (HB3.out.trans (HB4.out.mono HB3.out.size))).2.2.2.2⟩
 |true=>
 have HR4:Ia (R=if aP (codeF m) m.fs≠0 then aP (codeF m) m.fs
  else bM (decide (0≤m.fnIx dB)&&(match m.fs[(m.fnIx dB).toNat]? with
   |some g=>decide (g.c.par=0)&& !g.c.rp
   |none=>false)) 9):=by unfold Ia;rw[HR3.out,if_neg (by simp)]
 have HKN:Ia (∀t∈bN m,m.known t=true):=List.all_eq_true.1 hun;clear HR3 hun;rw[Bool.not_true] at HUN
 go_upto_region 7 with(first
   |(refine wpList_load_row rfl 25 _ rfl N rfl 25 m.cells (0,0) _ HRR3.out underlying25 rfl (by kernel_rfl) ?_)
   |(go_at_call 48;refine HUN.out.mono ?_;rintro e w4 ⟨rfl,hb4⟩;have HB4:Ia (H9 W1.heap.size W1 w4):=HB3.out.trans (hb4.mono HB3.out.size);clear hb4))
 clear c0 c1 HUN HRR3 HB3
 go_wp2_with fail
 go_loopw [3] (fun k wr=>∃j:Nat,j≤m.fs.length∧k= .int .i64 (j:Int)∧(∀f∈m.fs.take j,codeF m f=0)∧H9 W1.heap.size W1 wr) (fun k _=>m.fs.length-(intOf k).toNat)
 case atStart=>exact⟨0,Hg _,rfl,by simp,HB4.out⟩
 case round=>
  rename H5=>wo;obtain⟨j,hj,rfl,hz,hb⟩:=hrel;obtain⟨hr,c0,c1,hri,hbw⟩:=HK.out wo hb;have HZ:=zH hz;have HB:=zH hb;have HBO:=zH hbw;have HRO:=zH hr
  by_cases hjl:j<m.fs.length
  ·obtain⟨f,hs⟩:∃y,m.fs[j]?=some y:=⟨_,GN hjl⟩
   have hfm:=GV hs;obtain⟨g1,off,hA,hg1,q1⟩:=hri.mo.frow (by intro e;rw[e] at hjl;simp at hjl);have HCC:Ia (∀k u,f.cells.toList[k]?=some u→wo.cell? ((⟨g1,off+j*8,none⟩:Addr).add k)=some u):=fun k u hu=>by rw[Addr.add_lit];exact q1 j f hs k u hu
   have hst:∀(c:Array Value),c.size=8→(storeCells ⟨wo.heap.size,0,none⟩ f.cells.toList 0).run prog (wo.alloc (.cells c 38))= .ok () (wo.alloc (.cells f.cells 38)):=fun c hc=>
    run_storeCells_new (P:=prog) wo 38 c f.cells (by show _=some 8;kernel_rfl) hc (fw f)
   obtain⟨P,hP⟩:=zE wo.heap.size;obtain⟨W3,hW3⟩:=zE (wo.alloc (.cells f.cells 38));have hs3:W3.heap.size=P+1:=by rw[←hW3];simp[hP]
   have hr3:W3.heap[P]?=some (.cells f.cells 38 (0,0)):=by rw[←hW3,←hP];exact alloc_at _ _
   have hb3:H9 W1.heap.size W1 W3:=by rw[←hW3];exact hb.alloc hb.size _
   have hfi:=hri.mo.fin f hfm;have hvl:=hri.vl f hfm;have HF3:Ia (∀W,H9 W3.heap.size W3 W→H9 W1.heap.size W1 W∧W.heap[P]?=some (.cells f.cells 38 (0,0))∧W.cell? ⟨P,1,none⟩=some (.int .i64 f.c.par)∧W.cell? ⟨P,2,none⟩=some (.slice f.c.varsA f.vs.length f.c.varsC)∧W.cell? ⟨P,7,none⟩=some (.slice f.c.insA f.c.ins.length f.c.insC)):=fun W hW=>by
    have q:=(hW.block P (by omega)).trans hr3;refine⟨hb3.trans (hW.mono hb3.size),q,by rw[cell_of_row _ _ _ _ _ _ q];rfl, ?_,by rw[cell_of_row _ _ _ _ _ _ q];rfl⟩;rw[cell_of_row _ _ _ _ _ _ q,←hfi.nvars];rfl
   have hjI:(j:Int)<(m.fs.length:Int):=by omega
   have HS:=zH hs;have HFM:=zH hfm;have HFI:Ia (∀W,H9 W3.heap.size W3 W→nC W m f∧∀i∈f.c.ins,i.args_in W):=fun W hW=>by
    obtain⟨_,_,_,h4,_⟩:=HK.out W (HF3.out W hW).1;have:=h4.mo.fin f hfm;exact⟨AR h4.mo this,fun i hi=>this.code.args i hi⟩
   have HAL:Ia (∀i∈f.c.ins,i.args.length≤40):=hri.al f hfm;have HKF:Ia (∀v,isVar f.vs.length v=true→m.known (ax f.vs v)=true):=fun v hv=>HKN.out _ (by
    obtain⟨h0,h1⟩:=dX.1 hv;obtain⟨k,rfl⟩:∃k:Nat,v=(k:Int):=⟨v.toNat,by omega⟩
    obtain⟨x,hx⟩:∃x,f.vs[k]?=some x:=⟨_,GN (by omega)⟩
    have e:ax f.vs (k:Int)=x.ty:=by unfold ax;rw[Ho,hx]
    rw[e];unfold bN;exact List.mem_append.2 (.inr (List.mem_flatMap.2 ⟨f,hfm,List.mem_cons_of_mem _ (List.mem_map.2 ⟨x,GV hx,rfl⟩)⟩)))
   have HIROW:Ia (f.c.ins≠[]→∃b o,f.c.insA=some ⟨b,o,none⟩∧∀W,H9 W3.heap.size W3 W→b<W.heap.size∧∀(k:Nat)(i:Ins),f.c.ins[k]?=some i→∀q u,i.cells.toList[q]?=some u→W.cell? ⟨b,o+k*13+q,none⟩=some u):=fun hne=>by
    obtain⟨b,o,hA,hb,hc⟩:=hfi.code.row hne;refine⟨b,o,hA,fun W hW=> ?_⟩;have hbo:H9 wo.heap.size wo W:=by
     have h0:=gK hW3;exact h0.trans (hW.mono h0.size)
    refine⟨by have:=hbo.size;omega,fun k i hi q u hu=> ?_⟩;rw[hbo.cell (p:=⟨b,_,none⟩) hb];exact hc k i hi q u hu
   obtain⟨z,hzz⟩:=zE (codeF m f);have HZE:Ia (z=if 300<f.vs.length∨f.c.ins.length<1∨3000<f.c.ins.length then 2
    else if f.c.par<0∨(f.vs.length:Int)<f.c.par then 15
    else if aP (aC m f) f.c.ins≠0 then aP (aC m f) f.c.ins
    else bM (match f.c.ins.getLast? with
     |some i=>decide (16≤i.op)
     |none=>false) 15):=hzz.symm
   have HZR:Ia (z≠0→R=z):=fun h0=>by
    have e:=jN (f:=codeF m) hz hs (by rw[hzz];exact h0);rw[HR4.out,e,hzz,if_pos h0]
   have HZN:Ia (z=0→∀f∈m.fs.take (j+1),codeF m f=0):=fun h0=>dx (p:=fun f=>codeF m f=0) hz hs (by rw[hzz];exact h0);rw[hP] at hst;rw[hW3] at hst;rw[hA] at c1;have HW3:=zH hW3;have HP:=zH hP;clear hz hb hbw hs hfm hri hfi q1 hzz hr hA hb3 hr3 hs3 hW3
   go_upto_region 11 with(refine ay rfl 38 _ rfl ⟨g1,off+j*8,none⟩ rfl f.cells _ HCC.out underlying38 rfl (by kernel_rfl) ?_)
   clear c0 c1 hst HW3;have HB3W:Ia (H9 N w W3):=(HK.out W3 (HF3.out W3 (Hw _ _)).1).2.2.2.2;obtain⟨_,_,p1,p2,p7⟩:=HF3.out W3 (Hw _ _)
   by_cases d1:300<f.vs.length
   ·have HRR:Ia (R=2):=by
     have e:z=2:=by rw[HZE.out,if_pos (.inl d1)]
     unfold Ia;rw[HZR.out (by rw[e];decide),e]
    clear HZE HZR HZN;go_wp2;go_ret;rw[HRR.out];exact⟨rfl,HB3W.out⟩
   by_cases d2:f.c.ins.length<1
   ·have HRR:Ia (R=2):=by
     have e:z=2:=by rw[HZE.out,if_pos (.inr (.inl d2))]
     unfold Ia;rw[HZR.out (by rw[e];decide),e]
    clear HZE HZR HZN;go_wp2;go_ret;rw[HRR.out];exact⟨rfl,HB3W.out⟩
   by_cases d3:3000<f.c.ins.length
   ·have HRR:Ia (R=2):=by
     have e:z=2:=by rw[HZE.out,if_pos (.inr (.inr d3))]
     unfold Ia;rw[HZR.out (by rw[e];decide),e]
    clear HZE HZR HZN;go_wp2;go_ret;rw[HRR.out];exact⟨rfl,HB3W.out⟩
   by_cases d4:f.c.par<0
   ·have HRR:Ia (R=15):=by
     have e:z=15:=by rw[HZE.out,if_neg (by omega),if_pos (.inl d4)]
     unfold Ia;rw[HZR.out (by rw[e];decide),e]
    clear HZE HZR HZN;go_wp2;go_ret;rw[HRR.out];exact⟨rfl,HB3W.out⟩
   by_cases d5:(f.vs.length:Int)<f.c.par
   ·have HRR:Ia (R=15):=by
     have e:z=15:=by rw[HZE.out,if_neg (by omega),if_pos (.inr d5)]
     unfold Ia;rw[HZR.out (by rw[e];decide),e]
    clear HZE HZR HZN;go_wp2;go_ret;rw[HRR.out];exact⟨rfl,HB3W.out⟩
   have HZF:Ia (z=if aP (aC m f) f.c.ins≠0 then aP (aC m f) f.c.ins
    else bM (match f.c.ins.getLast? with
     |some i=>decide (16≤i.op)
     |none=>false) 15):=by unfold Ia;rw[HZE.out,if_neg (by omega),if_neg (by omega)]
   clear HZE
   go_wp2_with fail
   clear p1 p2 p7
   go_loopw [6] (fun k wr=>∃q:Nat,q≤f.c.ins.length∧k= .int .i64 (q:Int)∧(∀i∈f.c.ins.take q,aC m f i=0)∧H9 W3.heap.size W3 wr) (fun k _=>f.c.ins.length-(intOf k).toNat)
   case atStart=>exact⟨0,Hg _,rfl,by simp,Hw _ _⟩
   case round=>
    obtain⟨q,hq,rfl,hnd,hbr⟩:=hrel;have HND:=zH hnd;have HBR:=zH hbr
    by_cases hql:q<f.c.ins.length
    ·obtain⟨i,hi⟩:∃y,f.c.ins[q]?=some y:=⟨_,GN hql⟩
     have him:=GV hi;obtain⟨ib,io,hiA,hirow⟩:=HIROW.out (by intro e;rw[e] at hql;simp at hql);have hqI:(q:Int)<(f.c.ins.length:Int):=by omega
     have HI:=zH hi;have HBQ:Ia (∀p:BW wr,H9 W3.heap.size W3 p.w):=fun p=>HBR.out.trans (p.h.mono HBR.out.size);have HXM:Ia (∀(p:BW wr) k u,m.cells.toList[k]?=some u→p.w.cell? ((⟨N,0,none⟩:Addr).add k)=some u):=fun p=>cK (HK.out p.w (HF3.out p.w (HBQ.out p)).1).1;have HXF:Ia (∀(p:BW wr) k u,f.cells.toList[k]?=some u→p.w.cell? ((⟨P,0,none⟩:Addr).add k)=some u):=fun p=>cK (HF3.out p.w (HBQ.out p)).2.1;have HXI:Ia (∀(p:BW wr) k u,i.cells.toList[k]?=some u→p.w.cell? ((⟨ib,io+q*13,none⟩:Addr).add k)=some u):=fun p k u hu=>by
      rw[Addr.add_lit];exact(hirow p.w (HBQ.out p)).2 q i hi k u hu
     have p7:∀p:BW wr,p.w.cell? ⟨P,7,none⟩=some (.slice (some ⟨ib,io,none⟩) f.c.ins.length f.c.insC):=fun p=>by rw[←hiA];exact(HF3.out p.w (HBQ.out p)).2.2.2.2
     obtain⟨d,hd⟩:=zE (aC m f i);have HDD:=zH hd;have HIC:Ia (∀p:BW wr,zP 49 #[.agg m.cells,.agg f.cells,.agg i.cells] p.w (.int .i64 d)):=fun p=>by
      obtain⟨h1,h2⟩:=HFI.out p.w (HBQ.out p);rw[←hd];exact qW m f i p.w h1 (h2 i him) (HAL.out i him) HKF.out
     clear hnd hbr hi him hiA hirow hd
     go_wp2_with fail
     refine zQ ?_
     repeat (first
      |(go_big_quiet_want;(first
        |(refine jF 25 _ rfl ⟨N,0,none⟩ rfl m.cells _ HXM.out underlying25 rfl (by kernel_rfl) ?_)
        |(refine jF 38 _ rfl ⟨P,0,none⟩ rfl f.cells _ HXF.out underlying38 rfl (by kernel_rfl) ?_)
        |(refine jF 42 _ rfl ⟨ib,io+q*13,none⟩ rfl i.cells _ HXI.out underlying42 rfl (by kernel_rfl) ?_));(simp only[Act.put,GX,GY,GZ]);go_big_quiet_on)
      |(go_big_quiet_step (first|(go_at_call 49;exact bg (HIC.out _)))))
     refine wpQuiet_nil ?_;rintro _ ⟨p,rfl⟩;have HBF:Ia (H9 N w p.w):=(HK.out p.w (HF3.out p.w (HBQ.out p)).1).2.2.2.2;clear p7
     by_cases hd0:d=0
     ·subst hd0
      go_wp2;go_roundw
      case rel=>exact⟨q+1,by omega,by go_num,dx (p:=fun i:Ins=>aC m f i=0) HND.out HI.out HDD.out,HBQ.out p⟩
      case measure=>simp[intOf];omega
     ·have hdb:(d==0)=false:=by rw[beq_eq_false_iff_ne];exact hd0
      have HRR:Ia (R=d):=by
       have e:=jN (f:=aC m f) HND.out HI.out (by rw[HDD.out];exact hd0);have e2:z=d:=by rw[HZF.out,e,HDD.out,if_pos hd0]
       unfold Ia;rw[HZR.out (by rw[e2];exact hd0),e2]
      go_wp2;go_ret;rw[HRR.out];exact⟨rfl,HBF.out⟩
    ·have hqe:q=f.c.ins.length:=by omega
     subst hqe;rw[Ha] at hnd;obtain⟨i,hi⟩:∃i,f.c.ins[f.c.ins.length-1]?=some i:=⟨_,GN (by omega)⟩
     have HZL:Ia (z=bM (decide (16≤i.op)) 15):=by
      unfold Ia;rw[HZF.out,gV hnd,if_neg (by simp),List.getLast?_eq_getElem?,hi]
     obtain⟨ib,io,hiA,hirow⟩:=HIROW.out (by intro e;rw[e] at hi;simp at hi);obtain⟨L,hL⟩:∃L,f.c.ins.length=L+1:=⟨f.c.ins.length-1,by omega⟩
     rw[hL,Nat.add_sub_cancel] at hi;have i0:wr.cell? ⟨ib,io+L*13,none⟩=some (.int .i64 i.op):=(hirow wr hbr).2 L i hi 0 _ rfl;have p7:wr.cell? ⟨P,7,none⟩=some (.slice (some ⟨ib,io,none⟩) (L+1) f.c.insC):=by rw[←hiA,←hL];exact(HF3.out wr hbr).2.2.2.2
     have hLI:((L+1:Nat):Int)-1=(L:Int):=by omega
     have HBF:Ia (H9 N w wr):=(HK.out wr (HF3.out wr hbr).1).2.2.2.2;have HLL:=zH hL;have hL3:L≤3000:=by omega
     clear hnd hbr hi hirow HZF HND hiA;rw[hL]
     by_cases hop:i.op<16
     ·have HRR:Ia (R=15):=by
       have e:z=15:=by rw[HZL.out,decide_eq_false (by omega)];rfl
       unfold Ia;rw[HZR.out (by rw[e];decide),e]
      go_wp2;go_ret;rw[HRR.out];exact⟨rfl,HBF.out⟩
     ·have HZ0:Ia (z=0):=by unfold Ia;rw[HZL.out,decide_eq_true (by omega)];rfl
      have hopb:decide (i.op<16)=false:=decide_eq_false hop;go_wp2;go_roundw
      case rel=>exact⟨j+1,by omega,by go_num,HZN.out HZ0.out,(HF3.out wr HBR.out).1⟩
      case measure=>simp[intOf];omega
  ·have hje:j=m.fs.length:=by omega
   subst hje;rw[Ha] at hz;have HR5:Ia (R=bM (decide (0≤m.fnIx dB)&&(match m.fs[(m.fnIx dB).toNat]? with
    |some g=>decide (g.c.par=0)&& !g.c.rp
    |none=>false)) 9):=by
    unfold Ia;rw[HR4.out,gV hz,if_neg (by simp)]
   obtain⟨kx,hkx⟩:=zE (m.fnIx dB);rw[hkx] at HR5;have HFN:Ia (zP 50 #[.agg m.cells,.string ⟨#[109,97,105,110]⟩] wo (.int .i64 kx)):=by
    rw[←hkx];exact mf m dB wo hri.mo.nf hri.mo.frow
   have HONE:Ia (∀W b,zP 51 #[.bool b,.int .i64 9] W (.int .i64 (bM (!b) 9))):=fun W b=>bn b 9 W;have HBT:Ia (∀W W',H9 wo.heap.size wo W→H9 W.heap.size W W'→H9 N w W'):=fun W W' h1 h2=>HBO.out.trans ((h1.trans (h2.mono h1.size)).mono (HNW.out _ HBO.out));have HCF:=zH hri.mo.frow;clear hz hb hbw hr
   go_upto_region 25 with(first
    |(refine wpList_load_row rfl 25 _ rfl N rfl 25 m.cells (0,0) _ HRO.out underlying25 rfl (by kernel_rfl) ?_)
    |(go_at_call 50;refine HFN.out.mono ?_;rintro e w8 ⟨rfl,hb8⟩;have HB8:=zH hb8;clear hb8))
   clear c0 c1 HFN;rcases mG (fun f:Fn=>f.c.nm==dB) m.fs with e|⟨k,f,e,hf,_⟩
   ·have hk1:kx= -1:=by rw[←hkx];exact e
    subst hk1;have HRR:Ia (R=9):=by unfold Ia;rw[HR5.out];rfl
    clear hri hkx HR4 HR5 e HCF
    go_wp2_with (go_at_call 51;refine(HONE.out _ _).mono ?_;rintro e w9 ⟨rfl,hb9⟩;have HB9:=zH hb9;clear hb9)
    go_ret;rw[HRR.out];exact⟨rfl,HBT.out _ _ HB8.out HB9.out⟩
   ·have hk1:kx=(k:Int):=by rw[←hkx];exact e
    subst hk1;have hkl:=(GQ.1 hf).1;have hkI:(k:Int)<(m.fs.length:Int):=by omega
    have HRR:Ia (R=bM (decide (f.c.par=0)&& !f.c.rp) 9):=by
     unfold Ia;rw[HR5.out,Ho,hf,decide_eq_true (by omega)];rfl
    obtain⟨fb,foff,hfA,hfb,hfc⟩:=hri.mo.frow (by intro e;rw[e] at hkl;simp at hkl);have HFD:Ia (∀W8,H9 wo.heap.size wo W8→W8.cell? ⟨fb,foff+k*8+1,none⟩=some (.int .i64 f.c.par)∧W8.cell? ⟨fb,foff+k*8+3,none⟩=some (.bool f.c.rp)∧W8.cell? ⟨N,1,none⟩=some (.slice (some ⟨fb,foff,none⟩) m.fs.length m.fC)):=by
     intro W8 h8;refine⟨?_, ?_, ?_⟩
     ·rw[h8.cell (p:=⟨fb,_,none⟩) hfb];exact hfc k f hf 1 _ rfl
     ·rw[h8.cell (p:=⟨fb,_,none⟩) hfb];exact hfc k f hf 3 _ rfl
     ·rw[←hfA];exact(HK.out W8 (HB.out.trans (h8.mono HB.out.size))).2.2.1
    have hmx:max (k:Int) 0=(k:Int):=by omega
    have hk9:k≤60:=by omega
    have hkn:decide ((k:Int)<0)=false:=decide_eq_false (by omega);clear hri hkx HR4 HR5 e hfb hfc hf hfA;obtain⟨u1,u2,u3⟩:=HFD.out w8 HB8.out;clear HFD
    by_cases hp:f.c.par=0
    ·rw[hp] at u1
     have HRR2:Ia (R=bM (!f.c.rp) 9):=by unfold Ia;rw[HRR.out,hp];rfl
     go_wp2_with (go_at_call 51;refine(HONE.out _ _).mono ?_;rintro e w9 ⟨rfl,hb9⟩;have HB9:=zH hb9;clear hb9)
     go_ret;rw[HRR2.out];exact⟨rfl,HBT.out _ _ HB8.out HB9.out⟩
    ·have HRR2:Ia (R=9):=by unfold Ia;rw[HRR.out,decide_eq_false hp];rfl
     have hpb:(f.c.par==0)=false:=by rw[beq_eq_false_iff_ne];exact hp
     go_wp2_with (go_at_call 51;refine(HONE.out _ _).mono ?_;rintro e w9 ⟨rfl,hb9⟩;have HB9:=zH hb9;clear hb9)
     go_ret;rw[HRR2.out];exact⟨rfl,HBT.out _ _ HB8.out HB9.out⟩
end Go.Proofs.YtjomgckjhcfbgaaGreat
