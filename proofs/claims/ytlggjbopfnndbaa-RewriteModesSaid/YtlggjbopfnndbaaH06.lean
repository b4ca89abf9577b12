import Derived.Test.YtlggjbopfnndbaaG62
import Derived.Test.YtlggjbopfnndbaaG30
import Derived.Test.YtlggjbopfnndbaaG02
import Derived.Test.YtlggjbopfnndbaaRegMd
import Derived.Test.YtlggjbopfnndbaaRfH0
namespace Go.Proofs.Ytlggjbopfnndbaa
open Go.RowKit
set_option maxRecDepth 100000 in
set_option maxHeartbeats 2000000 in
theorem rlist_calls (w : World) (b P : Nat) (z : Nat → Bool) (hPb : P ≤ 300) (hz : boolsOk w b P z) :
  Calls Try.prog 35 #[.slice (some ⟨b,0,none⟩) P P] w (GivesN w ((List.range P).filter z)) := by
 obtain ⟨B0,hB0⟩ : ∃ B,w.heap.size = B := ⟨_,rfl⟩
 have HZC : Hid (∀ W,Below B0 w W → ∀ v,v < P → W.cell? ⟨b,v,none⟩ = some (.bool (z v))) := by
  intro W hW v hv
  rw [hW.cell (p := ⟨b,v,none⟩) (by show b < B0; rw [← hB0]; exact hz.lt)]
  exact hz.cell hv
 have HPOST : Hid (∀ v wr,PkI z B0 w P v wr → GivesN w ((List.range P).filter z) (.returned v) wr) := by
  rintro v wr ⟨a1,a2,a3⟩
  exact ⟨v,rfl,by rw [hB0]; exact a1,by rw [hB0]; exact a2⟩
 have HP0 : Hid (PkI z B0 w 0 (.slice none 0 0) w) := ⟨World.ownsRow_nil _ _ _ _,Below.refl _ _,by omega⟩
 clear hz hB0
 obtain ⟨i0,hi0,hi1,hi2,hi3⟩ := info_parts info_int
 go_enter Try.func35,Try.ntmps35
 go_wp2
 go_loopw [3,4] (fun v c wr => ∃ j : Nat,j ≤ P ∧ c = .int .i64 (j : Int) ∧ PkI z B0 w j v wr) (fun _ c _ => P - (intOf c).toNat)
 case atStart => exact ⟨0,Nat.zero_le _,rfl,HP0.out⟩
 case round =>
  obtain ⟨j,hj,rfl,hpk⟩ := hrel
  by_cases hjP : j < P
  ·have hjI : (j : Int) < (P : Int) := by omega
   have HPK := Lib.hid hpk
   have c0 := HZC.out wr hpk.2.1 j hjP
   obtain ⟨ao,cap,rfl⟩ := ownsRow_slice hpk.1
   have hl := rf_len z j
   have HOW := Lib.hid hpk.1
   have hsz := hpk.2.2
   clear hpk
   cases hzj : z j with
   | true =>
    have HZ := Lib.hid hzj
    rw [hzj] at c0
    clear hzj
    go_wp2_with (at_builtin; refine wpList_append_lies _ rfl _ _ 35 rfl B0 3 i0 (.int .i64 0) 1 8 Try.underlying35 hi0 hi1 hi2 hi3 rfl (by decide) (.slice ao ((List.range j).filter z).length cap) ((List.range j).filter z).length (((List.range j).filter z).flatMap encN) rfl (ownsRow_below HOW.out ((Below.refl wr.heap.size wr).alloc (Nat.le_refl _) _)) ⟨wr.heap.size,0,none⟩ 1 1 [.int .i64 (j : Int)] rfl rfl (cells_new _ _ _) (by simp [Value.oneCell']) (by decide) (by unfold maxLen; omega) (by omega) (by rw [World.size_alloc]; omega) _ rfl ?_; intro g5 cap5 w5 hown5 hgrow5 hat5 hlt5; have HN := Lib.hid (HPK.out.app HZ.out ((Below.refl _ _).alloc hsz _) (by rw [World.size_alloc]; omega) hown5 hgrow5); clear hown5 hgrow5 hat5 hlt5)
    go_roundw
    case rel => exact ⟨j + 1,by omega,by go_num,HN.out⟩
    case measure => simp [intOf]; omega
   | false =>
    have HN := Lib.hid (HPK.out.skip hzj)
    rw [hzj] at c0
    clear hzj
    go_wp2
    go_roundw
    case rel => exact ⟨j + 1,by omega,by go_num,HN.out⟩
    case measure => simp [intOf]; omega
  ·have hje : j = P := by omega
   subst hje
   have HF := Lib.hid (HPOST.out _ _ hpk)
   clear hpk
   go_wp2
   go_ret
   exact HF.out
end Go.Proofs.Ytlggjbopfnndbaa
namespace Go.Proofs.Ytlggjbopfnndbaa
open Go.RowKit
set_option maxRecDepth 100000 in
set_option maxHeartbeats 1000000 in
theorem numbers_quiet (w : World) (p1 p2 c1 c2 : Nat) (ao1 ao2 : Option Addr) (xs : List Int) (hn : xs.length ≤ 90000) (h1 : OwnI w p1 (.slice ao1 xs.length c1) xs) (h2 : OwnI w p2 (.slice ao2 xs.length c2) xs) :
  Calls Try.prog 18 #[.slice ao1 xs.length c1,.slice ao2 xs.length c2] w fun e w' => e = .returned (.bool true) ∧ ∃ m,w' = w.drewN m := by
 have H1 := Lib.hid h1
 have H2 := Lib.hid h2
 clear h1 h2
 go_enter Try.func18,Try.ntmps18
 go_wp2_with fail
 go_loopw [5] (fun c wr => ∃ j : Nat,j ≤ xs.length ∧ c = .int .i64 (j : Int) ∧ ∃ m,wr = w.drewN m) (fun c _ => xs.length - (intOf c).toNat)
 case atStart => exact ⟨0,Nat.zero_le _,rfl,0,rfl⟩
 case round =>
  obtain ⟨j,hj,rfl,m,rfl⟩ := hrel
  by_cases hjl : j < xs.length
  ·obtain ⟨z,hz⟩ : ∃ z,xs[j]? = some z := ⟨_,List.getElem?_eq_getElem hjl⟩
   obtain ⟨g1,rfl,_,hg1,q1⟩ := H1.out.shape (by omega)
   obtain ⟨g2,rfl,_,hg2,q2⟩ := H2.out.shape (by omega)
   have d1 : w.cell? ⟨g1,j,none⟩ = some (.int .i64 z) := q1 j z hz
   have d2 : w.cell? ⟨g2,j,none⟩ = some (.int .i64 z) := q2 j z hz
   have hjI : (j : Int) < (xs.length : Int) := by omega
   clear hz q1 q2
   go_wp2
   go_quiet (fail)
   go_wp2
   go_roundw
   case rel => exact ⟨j + 1,by omega,by go_num,_,rfl⟩
   case measure => simp [intOf]; omega
  ·have hje : j = xs.length := by omega
   subst hje
   go_wp2
   go_ret
   exact ⟨rfl,m,rfl⟩
theorem numbers_calls (w : World) (p1 p2 c1 c2 : Nat) (ao1 ao2 : Option Addr) (xs : List Int) (hn : xs.length ≤ 90000) (h1 : OwnI w p1 (.slice ao1 xs.length c1) xs) (h2 : OwnI w p2 (.slice ao2 xs.length c2) xs) :
  Calls Try.prog 18 #[.slice ao1 xs.length c1,.slice ao2 xs.length c2] w fun e w' => e = .returned (.bool true) ∧ Below w.heap.size w w' :=
 (numbers_quiet w p1 p2 c1 c2 ao1 ao2 xs hn h1 h2).mono fun _ _ ⟨he,m,hm⟩ => ⟨he,by rw [hm]; exact below_drewN (Below.refl _ _) m⟩
end Go.Proofs.Ytlggjbopfnndbaa
namespace Go.Proofs.Ytlggjbopfnndbaa
open Go.RowKit
def ModQ (w : World) (m : Mo) (x : Nat → Nat → Nat → Bool) (e : Ending) (w' : World) : Prop :=
 ∃ m' : Mo,e = .returned (.agg m'.cells) ∧ m'.inn w' ∧ m'.ss = m.ss ∧ m'.fs.length = m.fs.length ∧ FnsUp m x m'.fs ∧ Below w.heap.size w w'
section
variable {w : World} {m : Mo} {B R : Nat} {vv fv : Value} {rows : List FR} {x : Nat → Nat → Nat → Bool} {tag : Tag} {rn : Int}
set_option maxRecDepth 100000 in
set_option maxHeartbeats 8000000 in
theorem rmodule19_calls (h : RqM w m B R vv fv rows x tag rn) (hok : OkR m) :
  Calls Try.prog 39 #[.pointer (some ⟨R,0,none⟩),.agg m.cells] w (ModQ w m x) := by
 obtain ⟨M0,hM0⟩ : ∃ M,w.heap.size = M := ⟨_,rfl⟩
 have HPOST : Hid (∀ e w',(∃ m' : Mo,e = .returned (.agg m'.cells) ∧ m'.inn w' ∧ m'.ss = m.ss ∧ m'.fs.length = m.fs.length ∧ FnsUp m x m'.fs ∧ Below M0 w w') → ModQ w m x e w') := fun e w' hq => by unfold ModQ; rw [hM0]; exact hq
 obtain ⟨WW,hWW⟩ : ∃ W,(w.alloc (.cells m.cells 25)).alloc (.cells #[.slice none 0 0,.slice none 0 0] 25) = W := ⟨_,rfl⟩
 have hbW : Below M0 w WW := by rw [← hWW,← hM0]; exact ((Below.refl _ _).alloc (Nat.le_refl _) _).alloc (by simp) _
 have hsW : WW.heap.size = M0 + 1 + 1 := by rw [← hWW]; simp [hM0]
 have hrM : WW.heap[M0]? = some (.cells m.cells 25 (0,0)) := by rw [← hWW,← hM0]; exact heap_alloc2_old _ _ _
 have hrR : WW.heap[M0 + 1]? = some (.cells #[.slice none 0 0,.slice none 0 0] 25 (0,0)) := by rw [← hWW,← hM0]; exact heap_alloc2_new _ _ _
 have hg := h.below (by rw [hM0]; exact hbW)
 have hm0 := h.inn
 have hb0 : Below w.heap.size w WW := by rw [hM0]; exact hbW
 obtain ⟨w0,hw0⟩ : ∃ w0,w = w0 := ⟨_,rfl⟩
 have HM00 : Hid (m.inn w0) := by unfold Hid; rw [← hw0]; exact hm0
 have HB00 : Hid (Below w0.heap.size w0 WW) := by unfold Hid; rw [← hw0]; exact hb0
 obtain ⟨B0,hB0⟩ : ∃ B0,w0.heap.size = B0 := ⟨_,rfl⟩
 have HB0 := Lib.hid hB0
 have HB0M : Hid (B0 = M0) := by unfold Hid; rw [← hB0,← hw0]; exact hM0
 obtain ⟨RB,hRB⟩ : ∃ RB,WW.heap.size = RB := ⟨_,rfl⟩
 have HRM : Hid (RB = M0 + 1 + 1) := by unfold Hid; omega
 have HB0w : Hid (B0 ≤ WW.heap.size) := by unfold Hid; have := HB0M.out; omega
 have HG := Lib.hid hg
 have HOK := Lib.hid hok
 have HRB := Lib.hid hRB
 have hn60 := hok.nf
 have HMW : Hid (∀ W,Below RB WW W → RqM W m B R vv fv rows x tag rn) := fun W hW => HG.out.below (by rw [HRB.out]; exact hW)
 have HZ : Hid (∀ W,Below RB WW W → W.cell? ⟨M0,1,none⟩ = some (.slice m.fA m.fs.length m.fC)) := fun W hW => by rw [hW.cell (p := ⟨M0,1,none⟩) (by show M0 < RB; omega),cell_of_row _ _ _ _ _ _ hrM]; rfl
 have HRES : Hid (∀ W,Below RB WW W → W.heap[M0 + 1]? = some (.cells #[.slice none 0 0,.slice none 0 0] 25 (0,0))) := fun W hW => (hW.block (M0 + 1) (by omega)).trans hrR
 have HBW0 := Lib.hid hbW
 have q0 : WW.cell? ⟨M0,0,none⟩ = some (.slice m.sA m.ss.length m.sC) := by rw [cell_of_row _ _ _ _ _ _ hrM]; rfl
 obtain ⟨W3,hW3⟩ : ∃ W3,WW.alloc (.cells #[.slice m.sA m.ss.length m.sC,.slice none 0 0] 25) = W3 := ⟨_,rfl⟩
 have hb3 : Below RB WW W3 := by rw [← hW3,← hRB]; exact (Below.refl _ _).alloc (Nat.le_refl _) _
 have hr3 : W3.heap[RB]? = some (.cells #[.slice m.sA m.ss.length m.sC,.slice none 0 0] 25 (0,0)) := by rw [← hW3,← hRB]; exact alloc_at _ _
 have HM0 : Hid (MdM (fun k => B0 ≤ k ∧ k ≤ RB) W3 (RB + 1) ⟨m.sA,m.sC,none,0,m.ss,[]⟩) := by
  refine ⟨by have := (Array.getElem?_eq_some_iff.1 hr3).1; omega,World.ownsRow_nil _ _ _ _,fun w' hx => ?_,HM00.out.ns,by simp⟩
  have q1 : Below w0.heap.size w0 w' := by
   have q2 : Below w0.heap.size w0 W3 := HB00.out.trans (hb3.mono (by rw [← HRB.out,HB0.out]; exact HB0w.out))
   refine q2.trans (hx.below q2.size (fun k hk => ?_))
   rw [HB0.out]
   rcases hk with hk | hk
   ·exact absurd hk (by simp [Value.ownBlock])
   ·exact hk.1
  have q3 := HM00.out.below q1
  exact ⟨q3.srow,q3.sin,fun f hf => absurd hf (by simp)⟩
 have HB3 := Lib.hid hb3
 have HR3 := Lib.hid hr3
 have HWW := Lib.hid hWW
 have HW3 := Lib.hid hW3
 have hst : ∀ (c : Array Value),c.size = 2 → (storeCells ⟨RB,0,none⟩ #[.slice m.sA m.ss.length m.sC,.slice none 0 0].toList 0).run Try.prog (WW.alloc (.cells c 25)) = .ok () W3 := fun c hc => by
  rw [← hW3,← hRB]
  exact run_storeCells_new (P := Try.prog) WW 25 c #[.slice m.sA m.ss.length m.sC,.slice none 0 0] (by show _ = some 2; kernel_rfl) hc (by rw [← Array.all_toList]; simp [Value.oneCell'])
 clear h hok hg hm0 hb0 hbW hsW hrM hrR hWW hW3 hb3 hr3 hw0 hB0
 go_enter Try.func39,Try.ntmps39
 go_upto_region 1 with (fail)
 rw [HWW.out]
 clear HWW
 go_upto_region 2 with (fail)
 rw [HW3.out]
 clear q0 hst hM0 hRB
 have z1 := HZ.out W3 HB3.out
 go_wp2_with fail
 clear z1
 go_loopw [6] (fun c wr => ModI B0 WW m x RB m.sA m.sC c wr) (fun c _ => m.fs.length - (intOf c).toNat)
 case atStart =>
  exact ⟨0,[],none,0,Nat.zero_le _,rfl,rfl,HR3.out,HM0.out,fun f g h => (by simp at h),by rw [HRB.out]; exact HB3.out⟩
 case round =>
  clear HM0 HR3 HB3
  obtain ⟨j,fs,fA,fC,hj,rfl,hfl,hrb,hmd,hup,hbw⟩ := hrel
  have z1 := HZ.out wr (by rw [← HRB.out]; exact hbw)
  by_cases hjn : j < m.fs.length
  ·subst hfl
   have hjI : (fs.length : Int) < (m.fs.length : Int) := by omega
   obtain ⟨g,hg⟩ : ∃ g,m.fs[fs.length]? = some g := ⟨_,List.getElem?_eq_getElem hjn⟩
   have hgr := HMW.out wr (by rw [← HRB.out]; exact hbw)
   obtain ⟨fb,fo,hfA,hfb,hfc⟩ := hgr.inn.frow (by intro e; rw [e] at hjn; simp at hjn)
   have HCA : Hid (∀ k u,g.cells.toList[k]? = some u → wr.cell? ((⟨fb,fo + fs.length * 8,none⟩ : Addr).add k) = some u) := fun k u hu => by rw [Addr.add_lit]; exact hfc _ g hg k u hu
   obtain ⟨N,hN⟩ : ∃ N,wr.heap.size = N := ⟨_,rfl⟩
   have hst : ∀ c : Array Value,c.size = 8 → (storeCells ⟨wr.heap.size,0,none⟩ g.cells.toList).run Try.prog (wr.alloc (.cells c 50)) = .ok () (wr.alloc (.cells g.cells 50)) := fun c hc =>
    run_storeCells_new (P := Try.prog) wr 50 c g.cells (by show _ = some 8; kernel_rfl) hc (fnOne g)
   obtain ⟨W4,hW4⟩ : ∃ W4,wr.alloc (.cells g.cells 50) = W4 := ⟨_,rfl⟩
   rw [hW4,hN] at hst
   have hb4 : Below wr.heap.size wr W4 := by rw [← hW4]; exact (Below.refl _ _).alloc (Nat.le_refl _) _
   have hr4 : W4.heap[N]? = some (.cells g.cells 50 (0,0)) := by rw [← hW4,← hN]; exact alloc_at _ _
   have hs4 : W4.heap.size = N + 1 := by rw [← hW4]; simp [hN]
   have hg4 := hgr.below hb4
   obtain ⟨P,hP⟩ : ∃ P,g.c.par.toNat = P := ⟨_,rfl⟩
   have hPb : P ≤ 300 := by have := HOK.out.fn g (List.mem_of_getElem? hg); omega
   obtain ⟨r,hr,hrP,hrL⟩ := hg4.row hg
   obtain ⟨VA,FA,cv,cf,e1,e2,_,_,_,hkf⟩ := hg4.tab.fn hr
   have hlf := (hg4.tab.leaf hr (u := r.locs.length) (Nat.le_refl _)).1
   rw [hrP,hP] at hlf hkf
   rw [hrL] at hlf hkf
   obtain ⟨b,hb⟩ : ∃ b,r.at_ g.vs.length = b := ⟨_,rfl⟩
   rw [hb] at hlf hkf
   have t1 : W4.cell? ⟨R,1,none⟩ = some (.slice (some ⟨FA,0,none⟩) m.fs.length cf) := by rw [cell_of_row _ _ _ _ _ _ hg4.rec_,e2,hg4.n]; rfl
   have t2 : W4.cell? ⟨FA,fs.length,none⟩ = some (.slice (some ⟨b,0,none⟩) P P) := hkf
   have hfl2 : fromL m x (fs.length : Int) = (List.range P).filter (x fs.length g.vs.length) := by
    unfold fromL
    rw [inR_nat,Int.toNat_natCast,nv_get hg,np_get hg,decide_eq_true hjn,if_pos rfl,hP]
   have HFR := Lib.hid (rlist_calls W4 b P (x fs.length g.vs.length) hPb hlf)
   rw [← hfl2] at HFR
   obtain ⟨l,hl⟩ : ∃ l,fromL m x (fs.length : Int) = l := ⟨_,rfl⟩
   rw [hl] at HFR
   have hll : l.length ≤ 300 := by
    rw [← hl,hfl2]
    exact Nat.le_trans (List.length_filter_le _ _) (by rw [List.length_range]; exact hPb)
   clear hfl2 hlf hkf e1 e2 hr hrP hrL hb hP
   have HMD := Lib.hid hmd
   have HUP := Lib.hid hup
   have HBW := Lib.hid hbw
   have HRBB := Lib.hid hrb
   have HB4 := Lib.hid hb4
   have HR4 := Lib.hid hr4
   have HS4 := Lib.hid hs4
   have HN := Lib.hid hN
   have HL := Lib.hid hl
   have HGG := Lib.hid hg
   have HG4 := Lib.hid hg4
   have hfs60 : fs.length ≤ 60 := by omega
   clear hg hgr hfc hW4 hb4 hr4 hs4 hg4 hl hmd hup hbw hrb
   rw [hfA] at z1
   clear hfA hfb
   go_upto_region 6 with (refine wpList_load_at rfl 50 _ rfl ⟨fb,fo + fs.length * 8,none⟩ rfl g.cells _ HCA.out Try.underlying50 rfl (by kernel_rfl) ?_)
   clear hst z1 HCA
   go_wp2_with fail
   go_at_call 35
   refine HFR.out.mono ?_
   rintro e w6 ⟨v6,rfl,hown6,hb6⟩
   clear t1 t2
   obtain ⟨ao,cap,rfl⟩ := ownsRow_slice hown6
   have hNl : N < W4.heap.size := by rw [HS4.out]; omega
   have hr6 : w6.heap[N]? = some (.cells g.cells 50 (0,0)) := (hb6.block N hNl).trans HR4.out
   have t6 : w6.cell? ⟨N,6,none⟩ = some (.slice g.c.fromA g.c.nfrom g.c.fromC) := by rw [cell_of_row _ _ _ _ _ _ hr6]; rfl
   have f6 : w6.frozen? ⟨N,6,none⟩ = false := frozen_of_row _ _ _ _ _ hr6
   obtain ⟨W7,hW7⟩ : ∃ W7,w6.setCell ⟨N,6,none⟩ (.slice ao l.length cap) = W7 := ⟨_,rfl⟩
   have hx7 : Ext (· = N) w6 W7 := by rw [← hW7]; exact Ext.set1 _ _ _ _
   obtain ⟨g',hg'⟩ : ∃ g' : Fn,g' = ⟨{ g.c with fromA := ao,nfrom := l.length,fromC := cap },g.vs,l.map fun n : Nat => (n : Int),g.mds⟩ := ⟨_,rfl⟩
   have hr7 : W7.heap[N]? = some (.cells g'.cells 50 (0,0)) := by
    have := heap_setCell_same w6 N 6 _ _ (.slice ao l.length cap) hr6
    rw [hW7] at this
    rw [this,hg']; rfl
   have hbr6 : Below wr.heap.size wr w6 := HB4.out.trans (hb6.mono HB4.out.size)
   have hbr7 : Below wr.heap.size wr W7 := hbr6.trans (hx7.below (by have := hbr6.size; omega) (fun k hk => by rw [hk,HN.out]; exact Nat.le_refl _))
   have hRBlt : RB < wr.heap.size := (Array.getElem?_eq_some_iff.1 HRBB.out).1
   have hrb7 : W7.heap[RB]? = some (.cells #[.slice m.sA m.ss.length m.sC,.slice fA fs.length fC] 25 (0,0)) := (hbr7.block RB hRBlt).trans HRBB.out
   have hwf : WithFrom g g' l := by unfold WithFrom; rw [hg']
   have e6A : g'.c.fromA = ao := by rw [hg']
   have e6C : g'.c.fromC = cap := by rw [hg']
   have hmd7 := HMD.out.below hbr7
   have HGI : Hid (∀ w',Ext (fun k => ownOf fA fs.length fC (fun k => B0 ≤ k ∧ k ≤ RB) k ∨ W7.heap.size ≤ k) W7 w' → g'.inn w') := by
    intro w' hx
    have hM : ∀ k,(ownOf fA fs.length fC (fun k => B0 ≤ k ∧ k ≤ RB) k ∨ W7.heap.size ≤ k) → (B0 ≤ k ∧ k < N) ∨ W7.heap.size ≤ k := by
     rintro k ((hk | hk) | hk)
     ·have := HMD.out.fown.lt k hk
      have := HN.out
      have := HB0w.out
      have := HRB.out
      exact .inl ⟨by omega,by omega⟩
     ·exact .inl ⟨hk.1,by have := HN.out; omega⟩
     ·exact .inr hk
    have hx67 : Ext (fun k => k = N ∨ (B0 ≤ k ∧ k < N) ∨ W7.heap.size ≤ k) w6 w' := (hx7.mono (M' := fun k => k = N ∨ (B0 ≤ k ∧ k < N) ∨ W7.heap.size ≤ k) (fun _ h => .inl h)).trans hx (fun k hk => .inl (.inr (hM k hk)))
    have hwb : Below w0.heap.size w0 w' := by
     have q0 : Below WW.heap.size WW w6 := HBW.out.trans (hbr6.mono HBW.out.size)
     have q1 : Below w0.heap.size w0 w6 := HB00.out.trans (q0.mono HB00.out.size)
     refine q1.trans (hx67.below q1.size (fun k hk => ?_))
     rw [HB0.out]
     have := HB0w.out
     have := HRB.out
     have := HBW.out.size
     have := HN.out
     rcases hk with hk | hk | hk
     ·omega
     ·omega
     ·have := hbr7.size; omega
    have hown6' : w6.ownsRow w0.heap.size 3 1 (.slice g'.c.fromA l.length g'.c.fromC) l.length (l.flatMap encN) := by
     rw [e6A,e6C]
     exact ownsRow_base hown6 (fun k hk => by have := (hown6.lt k hk).1; have := HBW.out.size; have := HB4.out.size; have := HB0w.out; have := HB0.out; omega)
    have hgw0 : g.inn w0 := by
     have h1 := (HMW.out WW (Below.refl _ _) |>.inn)
     exact HM00.out.fin g (List.mem_of_getElem? HGG.out)
    refine withFrom_inn hgw0 hwb hown6' hx67 (fun k hk hk' => ?_) (by unfold maxLen; omega) hwf
    rw [e6A,e6C] at hk
    have q := hown6.lt k hk
    have := HS4.out
    have := hx7.size
    have e7 : W7.heap.size = w6.heap.size := by rw [← hW7]; exact World.size_setCell _ _ _
    rcases hk' with hk' | hk' | hk' <;> omega
   have HUP2 : Hid (FnsUp m x (fs ++ [g'])) := by
    intro f q hq
    rcases Nat.lt_or_ge f fs.length with hlt | hge
    ·rw [List.getElem?_append_left hlt] at hq
     exact HUP.out f q hq
    ·have hfe : f = fs.length := by
      have := (List.getElem?_eq_some_iff.1 hq).1
      rw [List.length_append] at this; simp at this; omega
     subst hfe
     rw [List.getElem?_append_right (Nat.le_refl _),Nat.sub_self] at hq
     have e : g' = q := by simpa using hq
     rw [← e]
     exact ⟨g,HGG.out,by rw [HL.out]; exact hwf⟩
   have b1 : W7.cell? ⟨RB,1,none⟩ = some (.slice fA fs.length fC) := by rw [cell_of_row _ _ _ _ _ _ hrb7]; rfl
   have HRB7 := Lib.hid hrb7
   have HMD7 := Lib.hid hmd7
   have HLD : Hid (∀ k u,g'.cells.toList[k]? = some u → W7.cell? ((⟨N,0,none⟩ : Addr).add k) = some u) := fun k u hu => by
    rw [Addr.add_lit,Nat.zero_add,cell_of_row _ _ _ _ _ _ hr7]; simpa using hu
   have HCL8 : Hid (g'.cells = #[.string g.c.nm,.int .i64 g.c.par,.slice g.c.varsA g.c.nvars g.c.varsC,.bool g.c.rp,.string g.c.rto,.int .i64 g.c.rcl,.slice ao l.length cap,.slice g.c.insA g.c.ins.length g.c.insC]) := by unfold Hid; rw [hg']; rfl
   rw [HCL8.out] at HLD
   have HB7 : Hid (Below WW.heap.size WW W7) := HBW.out.trans (hbr7.mono HBW.out.size)
   have HBR7 := Lib.hid hbr7
   have HW7 := Lib.hid hW7
   have HSTEP : Hid (∀ (g8 cap8 : Nat) (w8 : World) (o : Obj),w8.ownsRow (RB + 1) 50 8 (.slice (some ⟨g8,0,none⟩) (fs.length + 1) cap8) (fs.length + 1) ((fs.flatMap fun g => g.cells.toList) ++ [.string g.c.nm,.int .i64 g.c.par,.slice g.c.varsA g.c.nvars g.c.varsC,.bool g.c.rp,.string g.c.rto,.int .i64 g.c.rcl,.slice ao l.length cap,.slice g.c.insA g.c.ins.length g.c.insC]) →
     (W7.alloc o).grownBy w8 (Value.slice fA fs.length fC).ownBlock → ((Value.slice fA fs.length fC).ownBlock = some g8 ∨ g8 = (W7.alloc o).heap.size) →
     (w8.cell? ⟨RB,1,none⟩ = some (.slice fA fs.length fC) ∧ w8.frozen? ⟨RB,1,none⟩ = false) ∧ ModI B0 WW m x RB m.sA m.sC (.int .i64 ((fs.length : Int) + 1)) (w8.setCell ⟨RB,1,none⟩ (.slice (some ⟨g8,0,none⟩) (fs.length + 1) cap8))) := by
    intro g8 cap8 w8 o ho hgr hat
    have hx8 : Ext (fun k => (Value.slice fA fs.length fC).ownBlock = some k) W7 w8 := ext_grown ((Ext.refl _ _).alloc _) hgr
    have hrb8 := hx8.heap HRB7.out (fun hk => by have := (HMD7.out.fown.lt RB hk).1; omega)
    have hx9 : Ext (· = RB) w8 (w8.setCell ⟨RB,1,none⟩ (.slice (some ⟨g8,0,none⟩) (fs.length + 1) cap8)) := Ext.set1 _ _ _ _
    refine ⟨⟨by rw [cell_of_row _ _ _ _ _ _ hrb8]; rfl,frozen_of_row _ _ _ _ _ hrb8⟩,fs.length + 1,fs ++ [g'],some ⟨g8,0,none⟩,cap8,hjn,by simp,by simp,?_,?_,HUP2.out,?_⟩
    ·rw [List.length_append]
     exact heap_setCell_same w8 RB 1 _ _ (.slice (some ⟨g8,0,none⟩) (fs.length + 1) cap8) hrb8
    ·exact MdM.push HMD.out (fun k hk => by omega) HBR7.out (by rw [HCL8.out]; exact ho) hgr hat (hx9.mono fun k hk => ⟨by have := HB0w.out; have := HRB.out; omega,by omega⟩) (by unfold maxLen; omega) HGI.out
    ·exact HB7.out.trans (((hx8.mono (M' := fun k => RB ≤ k) (fun k hk => by have := (HMD7.out.fown.lt k hk).1; omega)).trans hx9 (fun k hk => .inl (by rw [hk]; exact Nat.le_refl _))).below HB7.out.size (fun k hk => by rw [HRB.out]; exact hk))
   clear hown6 hb6 hr6 hW7 hx7 hg' hr7 hbr6 hbr7 hrb7 hwf e6A e6C hmd7 hNl HFR
   obtain ⟨i0,hi0,hi1,hi2,hi3⟩ := info_parts info_cod
   go_upto_region 7 with (fail)
   rw [HW7.out]
   clear t6 f6
   go_wp2_with (first
    | (refine wpList_load_at rfl 50 _ rfl ⟨N,0,none⟩ rfl _ _ HLD.out Try.underlying50 rfl (by kernel_rfl) ?_)
    | (at_builtin; refine wpList_append_lies _ rfl (.tmp 33) (.tmp 35) 23 rfl (RB + 1) 50 i0 _ 8 128 Try.underlying23 hi0 hi1 hi2 hi3 rfl (by decide) (.slice fA fs.length fC) fs.length (fs.flatMap fun g => g.cells.toList) rfl (ownsRow_below HMD7.out.fown ((Below.refl W7.heap.size W7).alloc (Nat.le_refl _) _)) ⟨W7.heap.size,0,none⟩ 1 1 [.string g.c.nm,.int .i64 g.c.par,.slice g.c.varsA g.c.nvars g.c.varsC,.bool g.c.rp,.string g.c.rto,.int .i64 g.c.rcl,.slice ao l.length cap,.slice g.c.insA g.c.ins.length g.c.insC] rfl rfl (cells_new _ _ _) (by simp [Value.oneCell']) (by decide) (by unfold maxLen; omega) (by omega) (by have := HMD7.out.low; rw [World.size_alloc]; exact Nat.le_succ_of_le this) _ rfl ?_; intro g8 cap8 w8 hown8 hgrow8 hat8 hlt8; obtain ⟨⟨u1,u2⟩,hnx⟩ := HSTEP.out g8 cap8 w8 _ hown8 hgrow8 hat8; have HNX := Lib.hid hnx; clear hown8 hgrow8 hat8 hlt8 hnx))
   go_roundw
   case rel => exact HNX.out
   case measure => simp [intOf]; omega
  ·have hres := HRES.out wr (by rw [← HRB.out]; exact hbw)
   have y0 : wr.cell? ⟨RB,0,none⟩ = some (.slice m.sA m.ss.length m.sC) := by rw [cell_of_row _ _ _ _ _ _ hrb]; rfl
   have y1 : wr.cell? ⟨RB,1,none⟩ = some (.slice fA fs.length fC) := by rw [cell_of_row _ _ _ _ _ _ hrb]; rfl
   have g0 : wr.cell? ⟨M0 + 1,0,none⟩ = some (.slice none 0 0) := by rw [cell_of_row _ _ _ _ _ _ hres]; rfl
   have g1 : wr.cell? ⟨M0 + 1,1,none⟩ = some (.slice none 0 0) := by rw [cell_of_row _ _ _ _ _ _ hres]; rfl
   have f0 : wr.frozen? ⟨M0 + 1,0,none⟩ = false := frozen_of_row _ _ _ _ _ hres
   have f1 : wr.frozen? ⟨M0 + 1,1,none⟩ = false := frozen_of_row _ _ _ _ _ hres
   have hfl2 : fs.length = m.fs.length := by omega
   have h1 := heap_setCell_same wr (M0 + 1) 0 _ _ (.slice m.sA m.ss.length m.sC) hres
   have h2 := heap_setCell_same _ (M0 + 1) 1 _ _ (.slice fA fs.length fC) h1
   have hx2 : Ext (· = M0 + 1) wr ((wr.setCell ⟨M0 + 1,0,none⟩ (.slice m.sA m.ss.length m.sC)).setCell ⟨M0 + 1,1,none⟩ (.slice fA fs.length fC)) := (Ext.set1 _ _ _ _).trans (Ext.set1 _ _ _ _) (fun _ h => .inl h)
   obtain ⟨W9,hW9⟩ : ∃ W9,(wr.setCell ⟨M0 + 1,0,none⟩ (.slice m.sA m.ss.length m.sC)).setCell ⟨M0 + 1,1,none⟩ (.slice fA fs.length fC) = W9 := ⟨_,rfl⟩
   rw [hW9] at h2 hx2
   have HFIN : Hid (ModQ w m x (.returned (.agg #[.slice m.sA m.ss.length m.sC,.slice fA fs.length fC])) W9) := by
    refine HPOST.out _ _ ⟨⟨m.sA,m.sC,fA,fC,m.ss,fs⟩,rfl,?_,rfl,hfl2,hup,?_⟩
    ·have hx' : Ext (ownOf fA fs.length fC (fun k => B0 ≤ k ∧ k ≤ RB)) wr W9 := hx2.mono fun k hk => .inr ⟨by have := HB0M.out; omega,by have := HRM.out; omega⟩
     obtain ⟨q1,q2,q3⟩ := hmd.rest W9 hx'
     have q4 := ownsRow_ext hmd.fown hx2 (fun k hk e => by have := (hmd.fown.lt k hk).1; have := HRM.out; omega)
     exact ⟨q1,rowOf_owns fnLen q4,q2,q3,hmd.ns,hmd.nf⟩
    ·have q1 : Below M0 WW wr := hbw.mono (by have := HRM.out; have := HRB.out; omega)
     exact HBW0.out.trans ((q1.trans (hx2.below (by have := hbw.size; have := HRM.out; have := HRB.out; omega) (fun k hk => by omega))).mono (Nat.le_refl _))
   have x0 : W9.cell? ⟨M0 + 1,0,none⟩ = some (.slice m.sA m.ss.length m.sC) := by rw [cell_of_row _ _ _ _ _ _ h2]; rfl
   have x1 : W9.cell? ⟨M0 + 1,1,none⟩ = some (.slice fA fs.length fC) := by rw [cell_of_row _ _ _ _ _ _ h2]; rfl
   clear hrb hmd hup hbw h1 h2 hx2 hres
   clear hfl
   rw [hfl2] at y1 x1 hW9 HFIN
   go_wp2
   exact bodyPost_ret (v := .agg #[_,_]) (by simp [results,Try.results39,go_sem,x0,x1]) rfl HFIN.out
end
end Go.Proofs.Ytlggjbopfnndbaa
