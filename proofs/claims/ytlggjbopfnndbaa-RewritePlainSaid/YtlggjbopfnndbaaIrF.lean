/- ir.Right's judges: call. -/
import Derived.Test.YtlggjbopfnndbaaG08
namespace Go.Proofs.Ytlggjbopfnndbaa
open Go.RowKit
theorem argsF_iff (vs gs : List Vr) : ∀ (l : List Int) (k0 : Nat),argsF vs gs k0 l = true ↔ ∀ k a,l[k]? = some a → (tyAt vs a == tyAt gs ((k0 + k : Nat) : Int)) = true
 | [],k0 => ⟨fun _ k a h => by simp at h,fun _ => rfl⟩
 | x :: r,k0 => by
  unfold argsF
  rw [Bool.and_eq_true,argsF_iff vs gs r (k0 + 1)]
  constructor
  ·rintro ⟨h1,h2⟩ k a hk
   cases k with
   | zero => simp at hk; subst hk; exact h1
   | succ k =>
    have := h2 k a (by simpa using hk)
    rw [show k0 + (k + 1) = k0 + 1 + k by omega]; exact this
  ·intro h
   refine ⟨h 0 x rfl,fun k a hk => ?_⟩
   have := h (k + 1) a (by simpa using hk)
   rw [show k0 + 1 + k = k0 + (k + 1) by omega]; exact this
theorem fn_cells_one (f : Fn) : (f.cells.all fun x => x.oneCell') = true := by
 rw [← Array.all_toList]; simp [Fn.cells,Cod.cells,Value.oneCell']
set_option maxRecDepth 100000 in
set_option maxHeartbeats 8000000 in
theorem call_calls (m : Mo) (g : Fn) (i : Ins) (w : World) (h : JIn w m g) (hi : i.args_in w) (hal : i.args.length ≤ maxLen) (hd : isVar g.vs.length i.d = true) (ha : ∀ a ∈ i.args,isVar g.vs.length a = true) :
  Calls Try.prog 122 #[.agg (jg m g),.agg i.cells] w fun e w' => e = .returned (.int .i64 (callF m g.vs i)) ∧ Below w.heap.size w w' := by
 have HT : Hid (∀ W v,Below w.heap.size w W → isVar g.vs.length v = true → Calls Try.prog 125 #[.agg (jg m g),.int .i64 v] W fun e w' => e = .returned (tyV (tyAt g.vs v)) ∧ Below W.heap.size W w') := fun W v hW hv => typ_calls m g v W (h.below hW).vars h.nv h.vl hv
 obtain ⟨⟨_,ao2,n2,cap2,hm2⟩,ao,cap,hav,hrow⟩ := hi
 have HA : Hid (IntsAt w ao i.args) := hrow.at_
 have HJ := Lib.hid h
 have HDV := Lib.hid hd
 have HAV := Lib.hid ha
 have HE : Hid (callF m g.vs i = if i.f < 0 then 15 else match m.fs[i.f.toNat]? with
  | none => 15
  | some g' => if (i.args.length : Int) ≠ g'.c.par ∨ (g'.vs.length : Int) < g'.c.par then 7
   else if argsF g.vs g'.vs 0 i.args = false then 7 else unl (tyAt g.vs i.d == g'.ret) 7) := rfl
 obtain ⟨R,hR⟩ : ∃ R,callF m g.vs i = R := ⟨_,rfl⟩
 rw [hR] at HE ⊢
 clear hR h hrow hd ha hm2
 obtain ⟨N,hN⟩ : ∃ N,w.heap.size = N := ⟨_,rfl⟩
 obtain ⟨W1,hW1⟩ : ∃ W1,(w.alloc (.cells (jg m g) 113)).alloc (.cells i.cells 62) = W1 := ⟨_,rfl⟩
 have hb1 : Below N w W1 := by rw [← hW1,← hN]; exact ((Below.refl _ _).alloc (Nat.le_refl _) _).alloc (by simp) _
 have hs1 : W1.heap.size = N + 2 := by rw [← hW1]; simp [hN]
 have hr1 : W1.heap[N]? = some (.cells (jg m g) 113 (0,0)) := by rw [← hW1,← hN]; exact heap_alloc2_old _ _ _
 have hr2 : W1.heap[N + 1]? = some (.cells i.cells 62 (0,0)) := by rw [← hW1,← hN]; exact heap_alloc2_new _ _ _
 have i4 : W1.cell? ⟨N + 1,4,none⟩ = some (.int .i64 i.f) := by rw [cell_of_row _ _ _ _ _ _ hr2]; rfl
 have k1 : W1.cell? ⟨N,1,none⟩ = some (.slice m.fA m.fs.length m.fC) := by rw [cell_of_row _ _ _ _ _ _ hr1]; rfl
 have HB1 := Lib.hid hb1
 have HR1 := Lib.hid hr1
 have HR2 := Lib.hid hr2
 have HN := Lib.hid hN
 have HS1 := Lib.hid hs1
 clear hb1 hr1 hr2
 by_cases hf0 : i.f < 0
 ·have HRR : Hid (R = 15) := by unfold Hid; rw [HE.out,if_pos hf0]
  clear HE HT
  go_enter Try.func122,Try.ntmps122
  go_wp2
  go_ret
  rw [HRR.out]
  exact ⟨rfl,by first | exact HB1.out | (rw [HN.out]; exact HB1.out)⟩
 obtain ⟨F,hF⟩ : ∃ F : Nat,i.f = (F : Int) := ⟨i.f.toNat,by omega⟩
 rw [hF] at i4
 by_cases hfl : F < m.fs.length
 ·obtain ⟨f,hfx⟩ : ∃ f,m.fs[F]? = some f := ⟨_,List.getElem?_eq_getElem hfl⟩
  have HE2 : Hid (R = if (i.args.length : Int) ≠ f.c.par ∨ (f.vs.length : Int) < f.c.par then 7 else if argsF g.vs f.vs 0 i.args = false then 7 else unl (tyAt g.vs i.d == f.ret) 7) := by
   unfold Hid
   rw [HE.out,if_neg hf0,hF,Int.toNat_natCast,hfx]
  have hfin := HJ.out.mo.fin f (List.mem_of_getElem? hfx)
  have HFI := Lib.hid hfin
  obtain ⟨fb,foff,hfA,hfb,hfc⟩ := HJ.out.mo.frow (by intro e; rw [e] at hfl; simp at hfl)
  have hfbN : fb < N := by omega
  have HFC : Hid (∀ k u,f.cells.toList[k]? = some u → W1.cell? ((⟨fb,foff + F * 8,none⟩ : Addr).add k) = some u) := fun k u hu => by
   rw [Addr.add_lit,HB1.out.cell (p := ⟨fb,_,none⟩) hfbN]; exact hfc F f hfx k u hu
  have hFI : (F : Int) < (m.fs.length : Int) := by omega
  obtain ⟨W2,hW2⟩ : ∃ W2,W1.alloc (.cells f.cells 50) = W2 := ⟨_,rfl⟩
  have hst : ∀ (c : Array Value),c.size = 8 → (storeCells ⟨N + 2,0,none⟩ f.cells.toList 0).run Try.prog (W1.alloc (.cells c 50)) = .ok () W2 := fun c hc => by
   rw [← hW2,← hs1]
   exact run_storeCells_new (P := Try.prog) W1 50 c f.cells (by show _ = some 8; kernel_rfl) hc (fn_cells_one f)
  have hb2 : Below W1.heap.size W1 W2 := by rw [← hW2]; exact (Below.refl _ _).alloc (Nat.le_refl _) _
  have hr3 : W2.heap[N + 2]? = some (.cells f.cells 50 (0,0)) := by rw [← hW2,← hs1]; exact alloc_at _ _
  have hs2 : W2.heap.size = N + 3 := by rw [← hW2]; simp [hs1]
  have HB2 : Hid (Below N w W2) := HB1.out.trans (hb2.mono (by omega))
  have HKEEP : Hid (∀ W,Below W2.heap.size W2 W → JgAt W N m g ∧ W.cell? ⟨N + 1,1,none⟩ = some (.int .i64 i.d) ∧ W.cell? ⟨N + 1,7,none⟩ = some (.slice ao i.args.length cap) ∧
    W.cell? ⟨N + 2,1,none⟩ = some (.int .i64 f.c.par) ∧ W.cell? ⟨N + 2,2,none⟩ = some (.slice f.c.varsA f.vs.length f.c.varsC) ∧ W.cell? ⟨N + 2,3,none⟩ = some (.bool f.c.rp) ∧ W.cell? ⟨N + 2,4,none⟩ = some (.string f.c.rto)) := by
   intro W hW
   have q1 := (hW.block N (by omega)).trans ((hb2.block N (by omega)).trans HR1.out)
   have q2 := (hW.block (N + 1) (by omega)).trans ((hb2.block (N + 1) (by omega)).trans HR2.out)
   have q3 := (hW.block (N + 2) (by omega)).trans hr3
   refine ⟨JgAt.of q1,?_,?_,?_,?_,?_,?_⟩
   ·rw [cell_of_row _ _ _ _ _ _ q2]; rfl
   ·rw [cell_of_row _ _ _ _ _ _ q2,← hav]; rfl
   ·rw [cell_of_row _ _ _ _ _ _ q3]; rfl
   ·rw [cell_of_row _ _ _ _ _ _ q3,← hfin.nvars]; rfl
   ·rw [cell_of_row _ _ _ _ _ _ q3]; rfl
   ·rw [cell_of_row _ _ _ _ _ _ q3]; rfl
  obtain ⟨_,j1,j7,c1,c2,c3,c4⟩ := HKEEP.out W2 (Below.refl _ _)
  have HFV : Hid (∀ (W : World) (v : Int),Below W2.heap.size W2 W → isVar f.vs.length v = true → ∃ (k b off : Nat) (x : Vr),v = (k : Int) ∧ k < f.vs.length ∧ f.c.varsA = some ⟨b,off,none⟩ ∧ b < W2.heap.size ∧ tyAt f.vs v = (x.ptr,x.tgt) ∧ W.cell? ⟨b,off + k * 3,none⟩ = some (.bool x.ptr) ∧ W.cell? ⟨b,off + k * 3 + 1,none⟩ = some (.string x.tgt)) := by
   intro W v hW hv
   have hWW : Below w.heap.size w W := by rw [HN.out]; exact HB2.out.trans (hW.mono (by omega))
   obtain ⟨k,b,off,x,r1,r2,r3,r4,r5,r6,r7⟩ := var_at (HFI.out.vars) hv
   exact ⟨k,b,off,x,r1,r2,r3,by omega,r5,by rw [hWW.cell (p := ⟨b,_,none⟩) r4]; exact r6,by rw [hWW.cell (p := ⟨b,_,none⟩) r4]; exact r7⟩
  have HFA := Lib.hid hfA
  rw [hfA] at k1
  have hx63 : i.args.length ≤ 9223372036854775807 := by unfold maxLen at hal; omega
  clear HE hf0 hF hfl hfx hfin hfA hfc hb2 hr3 HR1 HR2 hfb
  go_enter Try.func122,Try.ntmps122
  go_upto_region 4 with (first
   | (refine wpList_load_at rfl 50 _ rfl ⟨fb,foff + F * 8,none⟩ rfl f.cells _ HFC.out Try.underlying50 rfl (by kernel_rfl) ?_))
  clear hst hW2 i4 k1
  by_cases hpar : (i.args.length : Int) = f.c.par
  ·by_cases hpv : (f.vs.length : Int) < f.c.par
   ·have HRR : Hid (R = 7) := by unfold Hid; rw [HE2.out,if_pos (.inr hpv)]
    rw [← hpar] at hpv c1
    clear HE2 HT
    go_wp2
    go_ret
    rw [HRR.out,HN.out]
    exact ⟨rfl,HB2.out⟩
   ·have HE3 : Hid (R = if argsF g.vs f.vs 0 i.args = false then 7 else unl (tyAt g.vs i.d == f.ret) 7) := by
     unfold Hid; rw [HE2.out,if_neg (fun h => by rcases h with h | h; exact h hpar; exact hpv h)]
    rw [← hpar] at hpv c1
    have hlv : i.args.length ≤ f.vs.length := by omega
    clear HE2 hpar
    go_upto_region 7 with (fail)
    go_loopw [44] (fun c wr => ∃ j : Nat,j ≤ i.args.length ∧ c = .int .i64 (j : Int) ∧ (∀ k a,k < j → i.args[k]? = some a → (tyAt g.vs a == tyAt f.vs (k : Int)) = true) ∧ Below W2.heap.size W2 wr) (fun c _ => i.args.length - (intOf c).toNat)
    case atStart => exact ⟨0,Nat.zero_le _,rfl,fun k a hk => absurd hk (by omega),Below.refl _ _⟩
    case round =>
     obtain ⟨j,hj,rfl,hall,hb⟩ := hrel
     have HB := Lib.hid hb
     have HALL := Lib.hid hall
     by_cases hjl : j < i.args.length
     ·obtain ⟨y,hy⟩ : ∃ y,i.args[j]? = some y := ⟨_,List.getElem?_eq_getElem hjl⟩
      obtain ⟨ab,aoff,hao,hab,hac⟩ := (HA.out.below (by rw [HN.out]; exact HB2.out.trans (hb.mono (by omega)))) (by intro e; rw [e] at hjl; simp at hjl)
      have d1 : wr.cell? ⟨ab,aoff + j,none⟩ = some (.int .i64 y) := hac j y hy
      have hyv : isVar g.vs.length y = true := HAV.out y (List.mem_of_getElem? hy)
      obtain ⟨k',b,off,x,hkj,hkl,hvA,hbl,hty,_,_⟩ := HFV.out wr (j : Int) hb (isVar_iff.2 ⟨by omega,by omega⟩)
      obtain rfl : k' = j := by omega
      have HX : Hid (∀ p : BW wr,p.w.cell? ⟨b,off + k' * 3,none⟩ = some (.bool x.ptr) ∧ p.w.cell? ⟨b,off + k' * 3 + 1,none⟩ = some (.string x.tgt)) := by
       intro p
       obtain ⟨k2,b2,off2,x2,q1,q2,q3,q4,q5,q6,q7⟩ := HFV.out p.w (k' : Int) (HB.out.trans (p.h.mono HB.out.size)) (isVar_iff.2 ⟨by omega,by omega⟩)
       obtain rfl : k' = k2 := by omega
       rw [hvA] at q3
       obtain ⟨rfl,rfl⟩ : b = b2 ∧ off = off2 := by simpa using q3
       rw [hty] at q5
       obtain ⟨e1,e2⟩ : x.ptr = x2.ptr ∧ x.tgt = x2.tgt := by simpa using q5
       rw [e1,e2]; exact ⟨q6,q7⟩
      have x0 : ∀ p : BW wr,p.w.cell? ⟨b,off + k' * 3,none⟩ = some (.bool x.ptr) := fun p => (HX.out p).1
      have x1 : ∀ p : BW wr,p.w.cell? ⟨b,off + k' * 3 + 1,none⟩ = some (.string x.tgt) := fun p => (HX.out p).2
      have hbr : b < wr.heap.size := Nat.lt_of_lt_of_le hbl hb.size
      obtain ⟨⟨tb,ts⟩,htt⟩ : ∃ t,tyAt g.vs y = t := ⟨_,rfl⟩
      have HTC : Hid (∀ p : BW wr,Calls Try.prog 125 #[.agg (jg m g),.int .i64 y] p.w fun e w' => e = .returned (.agg #[.bool tb,.string ts]) ∧ Below p.w.heap.size p.w w') := fun p => by
       have := HT.out p.w y (by rw [HN.out]; exact (HB2.out.trans (HB.out.mono (by omega))).trans (p.h.mono (by have := HB.out.size; omega))) hyv
       rw [htt] at this
       exact this
      unfold jg at HTC
      obtain ⟨d,hdd⟩ : ∃ d,(((tb,ts) : Ty) == (x.ptr,x.tgt)) = d := ⟨_,rfl⟩
      have heq : ∀ w,(Op.equalIn 10000 45 (.agg #[.bool tb,.string ts]) (.agg #[.bool x.ptr,.string x.tgt])).run Try.prog w = .ok d w := fun w => by rw [ty_eqIn,hdd]
      have HDD : Hid ((tyAt g.vs y == tyAt f.vs (k' : Int)) = d) := by unfold Hid; rw [htt,hty]; exact hdd
      have HY := Lib.hid hy
      have HJW : Hid (∀ p : BW wr,_) := fun p : BW wr => HKEEP.out p.w (HB.out.trans (p.h.mono HB.out.size))
      have k0 : ∀ p : BW wr,p.w.cell? ⟨N,0,none⟩ = some (.slice m.sA m.ss.length m.sC) := fun p => (HJW.out p).1.1
      have k1 : ∀ p : BW wr,p.w.cell? ⟨N,1,none⟩ = some (.slice m.fA m.fs.length m.fC) := fun p => (HJW.out p).1.2.1
      have k2 : ∀ p : BW wr,p.w.cell? ⟨N,2,none⟩ = some (.string g.c.nm) := fun p => (HJW.out p).1.2.2.1
      have k3 : ∀ p : BW wr,p.w.cell? ⟨N,3,none⟩ = some (.int .i64 g.c.par) := fun p => (HJW.out p).1.2.2.2.1
      have k4 : ∀ p : BW wr,p.w.cell? ⟨N,4,none⟩ = some (.slice g.c.varsA g.c.nvars g.c.varsC) := fun p => (HJW.out p).1.2.2.2.2.1
      have k5 : ∀ p : BW wr,p.w.cell? ⟨N,5,none⟩ = some (.bool g.c.rp) := fun p => (HJW.out p).1.2.2.2.2.2.1
      have k6 : ∀ p : BW wr,p.w.cell? ⟨N,6,none⟩ = some (.string g.c.rto) := fun p => (HJW.out p).1.2.2.2.2.2.2.1
      have k7 : ∀ p : BW wr,p.w.cell? ⟨N,7,none⟩ = some (.int .i64 g.c.rcl) := fun p => (HJW.out p).1.2.2.2.2.2.2.2.1
      have k8 : ∀ p : BW wr,p.w.cell? ⟨N,8,none⟩ = some (.slice g.c.fromA g.c.nfrom g.c.fromC) := fun p => (HJW.out p).1.2.2.2.2.2.2.2.2.1
      have k9 : ∀ p : BW wr,p.w.cell? ⟨N,9,none⟩ = some (.slice g.c.insA g.c.ins.length g.c.insC) := fun p => (HJW.out p).1.2.2.2.2.2.2.2.2.2
      have c2r : ∀ p : BW wr,p.w.cell? ⟨N + 2,2,none⟩ = some (.slice (some ⟨b,off,none⟩) f.vs.length f.c.varsC) := fun p => by rw [← hvA]; exact (HJW.out p).2.2.2.2.1
      have hkI : (k' : Int) < (i.args.length : Int) := by omega
      have hkV : (k' : Int) < (f.vs.length : Int) := by omega
      subst hao
      clear hall hb hy hac hyv hvA hty htt hdd hjl HJW
      cases d with
      | true =>
       go_wp2_with fail
       refine wp_region_quiet_bw (by kernel_rfl) (by kernel_rfl) ?_
       repeat (go_big_quiet_step (first
        | (go_at_call 125; exact bw_of (HTC.out _))))
       refine wpQuiet_nil ?_
       rintro _ ⟨p,rfl⟩
       go_wp2
       go_roundw
       case rel =>
        refine ⟨k' + 1,by omega,by go_num,fun k a hk hka => ?_,HB.out.trans (p.h.mono HB.out.size)⟩
        by_cases e : k = k'
        ·subst e
         rw [HY.out] at hka
         obtain rfl := Option.some.inj hka
         exact HDD.out
        ·exact HALL.out k a (by omega) hka
       case measure => simp [intOf]; omega
      | false =>
       have HRR : Hid (R = 7) := by
        unfold Hid
        rw [HE3.out,if_pos]
        cases hc : argsF g.vs f.vs 0 i.args with
        | false => rfl
        | true =>
         have := (argsF_iff _ _ _ _).1 hc k' y HY.out
         rw [Nat.zero_add,HDD.out] at this
         cases this
       go_wp2_with fail
       refine wp_region_quiet_bw (by kernel_rfl) (by kernel_rfl) ?_
       repeat (go_big_quiet_step (first
        | (go_at_call 125; exact bw_of (HTC.out _))))
       refine wpQuiet_nil ?_
       rintro _ ⟨p,rfl⟩
       go_wp2
       go_ret
       rw [HRR.out,HN.out]
       exact ⟨rfl,(HB2.out.trans (HB.out.mono (by omega))).trans (p.h.mono (by have := HB.out.size; omega))⟩
     ·have hje : j = i.args.length := by omega
      subst hje
      have HE4 : Hid (R = unl (tyAt g.vs i.d == f.ret) 7) := by
       unfold Hid
       rw [HE3.out,if_neg]
       rw [(argsF_iff _ _ _ _).2 (fun k a hk => by rw [Nat.zero_add]; exact HALL.out k a (List.getElem?_eq_some_iff.1 hk).1 hk)]
       decide
      obtain ⟨⟨tb,ts⟩,htt⟩ : ∃ t,tyAt g.vs i.d = t := ⟨_,rfl⟩
      have HTC : Hid (∀ p : BW wr,Calls Try.prog 125 #[.agg (jg m g),.int .i64 i.d] p.w fun e w' => e = .returned (.agg #[.bool tb,.string ts]) ∧ Below p.w.heap.size p.w w') := fun p => by
       have := HT.out p.w i.d (by rw [HN.out]; exact (HB2.out.trans (HB.out.mono (by omega))).trans (p.h.mono (by have := HB.out.size; omega))) HDV.out
       rw [htt] at this
       exact this
      unfold jg at HTC
      obtain ⟨d,hdd⟩ : ∃ d,(((tb,ts) : Ty) == (f.c.rp,f.c.rto)) = d := ⟨_,rfl⟩
      have heq : ∀ w,(Op.equalIn 10000 45 (.agg #[.bool tb,.string ts]) (.agg #[.bool f.c.rp,.string f.c.rto])).run Try.prog w = .ok d w := fun w => by rw [ty_eqIn,hdd]
      have HRR : Hid (R = unl d 7) := by unfold Hid; rw [HE4.out,htt,← hdd]; rfl
      have HJW : Hid (∀ p : BW wr,_) := fun p : BW wr => HKEEP.out p.w (HB.out.trans (p.h.mono HB.out.size))
      have k0 : ∀ p : BW wr,p.w.cell? ⟨N,0,none⟩ = some (.slice m.sA m.ss.length m.sC) := fun p => (HJW.out p).1.1
      have k1 : ∀ p : BW wr,p.w.cell? ⟨N,1,none⟩ = some (.slice m.fA m.fs.length m.fC) := fun p => (HJW.out p).1.2.1
      have k2 : ∀ p : BW wr,p.w.cell? ⟨N,2,none⟩ = some (.string g.c.nm) := fun p => (HJW.out p).1.2.2.1
      have k3 : ∀ p : BW wr,p.w.cell? ⟨N,3,none⟩ = some (.int .i64 g.c.par) := fun p => (HJW.out p).1.2.2.2.1
      have k4 : ∀ p : BW wr,p.w.cell? ⟨N,4,none⟩ = some (.slice g.c.varsA g.c.nvars g.c.varsC) := fun p => (HJW.out p).1.2.2.2.2.1
      have k5 : ∀ p : BW wr,p.w.cell? ⟨N,5,none⟩ = some (.bool g.c.rp) := fun p => (HJW.out p).1.2.2.2.2.2.1
      have k6 : ∀ p : BW wr,p.w.cell? ⟨N,6,none⟩ = some (.string g.c.rto) := fun p => (HJW.out p).1.2.2.2.2.2.2.1
      have k7 : ∀ p : BW wr,p.w.cell? ⟨N,7,none⟩ = some (.int .i64 g.c.rcl) := fun p => (HJW.out p).1.2.2.2.2.2.2.2.1
      have k8 : ∀ p : BW wr,p.w.cell? ⟨N,8,none⟩ = some (.slice g.c.fromA g.c.nfrom g.c.fromC) := fun p => (HJW.out p).1.2.2.2.2.2.2.2.2.1
      have k9 : ∀ p : BW wr,p.w.cell? ⟨N,9,none⟩ = some (.slice g.c.insA g.c.ins.length g.c.insC) := fun p => (HJW.out p).1.2.2.2.2.2.2.2.2.2
      have g1 : ∀ p : BW wr,p.w.cell? ⟨N + 1,1,none⟩ = some (.int .i64 i.d) := fun p => (HJW.out p).2.1
      have g3 : ∀ p : BW wr,p.w.cell? ⟨N + 2,3,none⟩ = some (.bool f.c.rp) := fun p => (HJW.out p).2.2.2.2.2.1
      have g4 : ∀ p : BW wr,p.w.cell? ⟨N + 2,4,none⟩ = some (.string f.c.rto) := fun p => (HJW.out p).2.2.2.2.2.2
      clear hall hb htt hdd HJW HE3 HE4 HFV HT HKEEP
      go_wp2_with fail
      refine wp_region_quiet_bw (by kernel_rfl) (by kernel_rfl) ?_
      repeat (go_big_quiet_step (first
       | (go_at_call 125; exact bw_of (HTC.out _))
       | (go_at_call 81; exact bw_same (unless_calls _ _ _))))
      refine wpQuiet_nil ?_
      rintro _ ⟨p,rfl⟩
      go_wp2
      go_ret
      rw [HRR.out,HN.out]
      exact ⟨rfl,(HB2.out.trans (HB.out.mono (by omega))).trans (p.h.mono (by have := HB.out.size; omega))⟩
  ·have HRR : Hid (R = 7) := by unfold Hid; rw [HE2.out,if_pos (.inl hpar)]
   clear HE2 HT
   go_wp2
   go_ret
   rw [HRR.out,HN.out]
   exact ⟨rfl,HB2.out⟩
 ·have HRR : Hid (R = 15) := by unfold Hid; rw [HE.out,if_neg hf0,hF,Int.toNat_natCast,List.getElem?_eq_none (by omega)]
  have hFI : ¬ ((F : Int) < (m.fs.length : Int)) := by omega
  clear HE HT hfl hf0 hF
  go_enter Try.func122,Try.ntmps122
  go_wp2
  go_ret
  rw [HRR.out]
  exact ⟨rfl,by first | exact HB1.out | (rw [HN.out]; exact HB1.out)⟩
end Go.Proofs.Ytlggjbopfnndbaa
