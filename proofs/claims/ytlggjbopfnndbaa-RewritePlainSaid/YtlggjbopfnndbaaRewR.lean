/- rewrite.Rewrite, at any module that ir.Right may take. -/
import Derived.Test.YtlggjbopfnndbaaG33
import Derived.Test.YtlggjbopfnndbaaG34
import Derived.Test.YtlggjbopfnndbaaG36
import Derived.Handy
namespace Go.Proofs.Ytlggjbopfnndbaa
open Go.RowKit
structure RewFn (m : Mo) (x : Nat → Nat → Nat → Bool) (f : Nat) (g g' : Fn) : Prop where
 nm : g'.c.nm = g.c.nm
 par : g'.c.par = g.c.par
 rp : g'.c.rp = g.c.rp
 rto : g'.c.rto = g.c.rto
 rcl : g'.c.rcl = g.c.rcl
 vs : g'.vs = g.vs
 frm : g'.frm = (fromL m x (f : Int)).map fun n : Nat => (n : Int)
 len : g'.c.ins.length = g.c.ins.length
 ins : ∀ (k : Nat) (i : Ins),g.c.ins[k]? = some i → ∃ v : Value,g'.c.ins[k]? = some { i with modeV := v }
 mds : g'.mds = g.c.ins.map (modesF m g)
def zeroM : Value := .agg #[.slice none 0 0,.slice none 0 0]
structure RewOf (m n : Mo) : Prop where
 ss : n.ss = m.ss
 len : n.fs.length = m.fs.length
 fs : ∃ k,RoundsIs m k ∧ ∀ (f : Nat) (g : Fn),m.fs[f]? = some g → ∃ g',n.fs[f]? = some g' ∧ RewFn m (roundsR m (k + 1)) f g g'
def RewP (m : Mo) (w : World) (e : Ending) (w' : World) : Prop :=
 (rightF m ≠ 0 ∧ e = .returned (.tuple #[zeroM,.int .i64 (rightF m)]) ∧ Below w.heap.size w w') ∨
 (rightF m = 0 ∧ classedF m = false ∧ e = .returned (.tuple #[zeroM,.int .i64 1]) ∧ Below w.heap.size w w') ∨
 (rightF m = 0 ∧ classedF m = true ∧ ∃ n : Mo,e = .returned (.tuple #[.agg n.cells,.int .i64 0]) ∧ n.inn w' ∧ RewOf m n ∧ Below w.heap.size w w')
def RewI (X : Nat → Prop) (m : Mo) (x : Nat → Nat → Nat → Bool) (B : Nat) (W6 : World) (sA fA : Option Addr) (sC fC : Nat) (c : Value) (wr : World) : Prop :=
 ∃ (n : Nat) (fs : List Fn),n ≤ m.fs.length ∧ c = .int .i64 (n : Int) ∧ fs.length = m.fs.length ∧ MdM X wr B ⟨sA,sC,fA,fC,m.ss,fs⟩ ∧
  (∀ (f : Nat) (g' : Fn),f < n → fs[f]? = some g' → ∃ g,m.fs[f]? = some g ∧ RewFn m x f g g') ∧
  (∀ (f : Nat) (g' : Fn),n ≤ f → fs[f]? = some g' → ∃ g,m.fs[f]? = some g ∧ WithFrom g g' (fromL m x (f : Int))) ∧ Below B W6 wr
def RewJ (m : Mo) (g : Fn) (W12 w0 : World) (N6 IB cap : Nat) (GC : Array Value) (c : Value) (wq : World) : Prop :=
 ∃ (k : Nat) (il : List Ins) (mv : Nat → Value),k ≤ g.c.ins.length ∧ c = .int .i64 (k : Int) ∧ il.length = g.c.ins.length ∧
  wq.ownsRow w0.heap.size 62 13 (.slice (some ⟨IB,0,none⟩) g.c.ins.length cap) g.c.ins.length (il.flatMap fun i => i.cells.toList) ∧
  (∀ (q : Nat) (i : Ins),g.c.ins[q]? = some i → il[q]? = some (if q < k then { i with modeV := mv q } else i)) ∧
  (∀ w',Ext (fun b => b = IB ∨ b < w0.heap.size) wq w' → ∀ (q : Nat) (i : Ins),q < k → g.c.ins[q]? = some i → ∃ (ao : Option Addr) (cp : Nat),mv q = .slice ao (modesF m g i).length cp ∧ IntRow w' ao (modesF m g i)) ∧
  wq.heap[N6]? = some (.cells GC 50 (0,0)) ∧ Below w0.heap.size w0 wq ∧ Ext (· = IB) W12 wq
theorem modesF_len {m : Mo} (hok : OkR m) {f : Nat} {g : Fn} (hg : m.fs[f]? = some g) {i : Ins} (hi : i ∈ g.c.ins) : (modesF m g i).length ≤ 300 := by
 unfold modesF
 split
 ·simp
 ·split
  ·split <;> simp
  ·split
   ·rename_i h15
    obtain ⟨_,_,_,h,hh,hl⟩ := hok.call g (List.mem_of_getElem? hg) i hi h15
    rw [hh]
    have := (hok.fn h (List.mem_of_getElem? hh)).2.2.1
    rw [List.length_map,List.length_take]
    omega
   ·simp
theorem intRow_own {w w' : World} {base cap : Nat} {ao : Option Addr} {xs : List Int} {M : Nat → Prop} (h : OwnI w base (.slice ao xs.length cap) xs) (hx : Ext M w w') (hM : ∀ k,(Value.slice ao xs.length cap).ownBlock = some k → ¬ M k) : IntRow w' ao xs := by
 have h2 := ownsRow_ext h hx hM
 refine rowOf_owns (cells := fun z : Int => #[Value.int .i64 z]) (k := 1) (fun _ => rfl) (base := base) (cap := cap) (e := 3) ?_
 have e : (xs.flatMap fun a => (#[Value.int .i64 a] : Array Value).toList) = xs.map (Value.int .i64) := flat_one _ xs
 rw [e]; exact h2
theorem rightIn_ne {m : Mo} (h : rightF m = 0) {f : Nat} {g : Fn} (hg : m.fs[f]? = some g) : 1 ≤ g.c.ins.length := (code_parts ((right_parts h).2.2.2.2.1 g (List.mem_of_getElem? hg))).2.1
theorem rew_results (tmps : Array Value) (w : World) (b : Nat) (u v z : Value) (ht : tmps[2]? = some (.pointer (some ⟨b,0,none⟩))) (h3 : tmps[3]? = some z) (hc : w.cell? ⟨b,0,none⟩ = some u) (hc2 : w.cell? ⟨b,1,none⟩ = some v) :
  (results Try.f13 tmps).run Try.prog w = .ok (.tuple #[.agg #[u,v],z]) w := by
 simp [results,go_sem,ht,h3,hc,hc2]
set_option maxRecDepth 100000 in
set_option maxHeartbeats 32000000 in
theorem rewrite_calls (m : Mo) (w : World) (hin : RightIn w m) : Calls Try.prog 13 #[.agg m.cells] w (RewP m w) := by
 have HIN := Lib.hid hin
 obtain ⟨N,hN⟩ : ∃ N,w.heap.size = N := ⟨_,rfl⟩
 obtain ⟨W2,hW2⟩ : ∃ W2,(w.alloc (.cells m.cells 25)).alloc (.cells #[.slice none 0 0,.slice none 0 0] 25) = W2 := ⟨_,rfl⟩
 have hb2 : Below N w W2 := by rw [← hW2,← hN]; exact ((Below.refl _ _).alloc (Nat.le_refl _) _).alloc (by simp) _
 have hs2 : W2.heap.size = N + 2 := by rw [← hW2]; simp [hN]
 have hr1 : W2.heap[N]? = some (.cells m.cells 25 (0,0)) := by rw [← hW2,← hN]; exact heap_alloc2_old _ _ _
 have hr2 : W2.heap[N + 1]? = some (.cells #[.slice none 0 0,.slice none 0 0] 25 (0,0)) := by rw [← hW2,← hN]; exact heap_alloc2_new _ _ _
 have HOF := Lib.hid (of19_calls m W2 (hin.below (by rw [hN]; exact hb2)))
 have HK : Hid (∀ W,Below W2.heap.size W2 W → W.heap[N]? = some (.cells m.cells 25 (0,0)) ∧ W.heap[N + 1]? = some (.cells #[.slice none 0 0,.slice none 0 0] 25 (0,0)) ∧ Below N w W) := fun W hW =>
  ⟨(hW.block N (by omega)).trans hr1,(hW.block (N + 1) (by omega)).trans hr2,hb2.trans (hW.mono (by omega))⟩
 have c0 : W2.cell? ⟨N,0,none⟩ = some (.slice m.sA m.ss.length m.sC) := by rw [cell_of_row _ _ _ _ _ _ hr1]; rfl
 have c1 : W2.cell? ⟨N,1,none⟩ = some (.slice m.fA m.fs.length m.fC) := by rw [cell_of_row _ _ _ _ _ _ hr1]; rfl
 have HN := Lib.hid hN
 have HS2 := Lib.hid hs2
 have hW2' := hW2
 simp only [Mo.cells] at hW2' HOF
 have HW2 := Lib.hid hW2'
 simp only [Mo.cells]
 clear hin hW2 hW2' hb2 hs2 hr1 hr2
 go_enter Try.func13,Try.ntmps13
 go_upto_region 1 with (fail)
 rw [HW2.out]
 go_wp2_with fail
 go_step3
 go_wp2_with fail
 go_at_call 26
 refine HOF.out.mono ?_
 rintro e w3 (⟨hF,rfl,hb3⟩ | ⟨hF,R,vv,fv,rows,tag,k,rfl,hrg,hrd,hk,hb3⟩)
 ·obtain ⟨r1,r2,hbw⟩ := HK.out w3 hb3
  obtain ⟨F,hFF⟩ : ∃ F,rightF m = F := ⟨_,rfl⟩
  rw [hFF] at hF ⊢
  have hFb : (F != 0) = true := by rw [bne_iff_ne]; exact hF
  have y0 : w3.cell? ⟨N + 1,0,none⟩ = some (.slice none 0 0) := by rw [cell_of_row _ _ _ _ _ _ r2]; rfl
  have y1 : w3.cell? ⟨N + 1,1,none⟩ = some (.slice none 0 0) := by rw [cell_of_row _ _ _ _ _ _ r2]; rfl
  have f0 : w3.frozen? ⟨N + 1,0,none⟩ = false := frozen_of_row _ _ _ _ _ r2
  have f1 : w3.frozen? ⟨N + 1,1,none⟩ = false := frozen_of_row _ _ _ _ _ r2
  have n0 : w3.setCell ⟨N + 1,0,none⟩ (.slice none 0 0) = w3 := setCell_noop r2 rfl
  have n1 : w3.setCell ⟨N + 1,1,none⟩ (.slice none 0 0) = w3 := setCell_noop r2 rfl
  have HFIN : Hid (RewP m w (.returned (.tuple #[.agg #[.slice none 0 0,.slice none 0 0],.int .i64 F])) w3) := .inl ⟨by rw [hFF]; exact hF,by rw [hFF]; rfl,by rw [HN.out]; exact hbw⟩
  clear hF hFF r1 r2 hbw hb3 c0 c1
  go_wp2
  exact bodyPost_ret (rew_results _ _ _ _ _ _ rfl rfl y0 y1) rfl HFIN.out
 ·have HF := Lib.hid hF
  have HOK := Lib.hid (OkR.of hF)
  obtain ⟨x,hx⟩ : ∃ x,roundsR m (k + 1) = x := ⟨_,rfl⟩
  rw [hx] at hrg
  have HX := Lib.hid hx
  have HRG := Lib.hid hrg
  have HRD := Lib.hid hrd
  obtain ⟨r1,r2,hbw⟩ := HK.out w3 hb3
  have c0 : w3.cell? ⟨N,0,none⟩ = some (.slice m.sA m.ss.length m.sC) := by rw [cell_of_row _ _ _ _ _ _ r1]; rfl
  have c1 : w3.cell? ⟨N,1,none⟩ = some (.slice m.fA m.fs.length m.fC) := by rw [cell_of_row _ _ _ _ _ _ r1]; rfl
  have hn60 := HOK.out.nf
  have HCLS := Lib.hid (classed_calls m w3 (HIN.out.mo.below (by rw [HN.out]; exact hbw)) (fun f hf => by have := (HOK.out.fn f hf).2.2.1; omega) (by omega))
  simp only [Mo.cells] at HCLS
  have HB3 := Lib.hid hb3
  obtain ⟨cl,hcl⟩ : ∃ cl,classedF m = cl := ⟨_,rfl⟩
  rw [hcl] at HCLS
  have HCL := Lib.hid hcl
  clear hF hx hrg hrd r1 r2 hbw hb3 hcl hk
  cases cl with
  | false =>
   go_wp2_with fail
   go_at_call 43
   refine HCLS.out.mono ?_
   rintro e w4 ⟨rfl,hb4⟩
   obtain ⟨_,r2,hbw⟩ := HK.out w4 (HB3.out.trans (hb4.mono HB3.out.size))
   have y0 : w4.cell? ⟨N + 1,0,none⟩ = some (.slice none 0 0) := by rw [cell_of_row _ _ _ _ _ _ r2]; rfl
   have y1 : w4.cell? ⟨N + 1,1,none⟩ = some (.slice none 0 0) := by rw [cell_of_row _ _ _ _ _ _ r2]; rfl
   have f0 : w4.frozen? ⟨N + 1,0,none⟩ = false := frozen_of_row _ _ _ _ _ r2
   have f1 : w4.frozen? ⟨N + 1,1,none⟩ = false := frozen_of_row _ _ _ _ _ r2
   have n0 : w4.setCell ⟨N + 1,0,none⟩ (.slice none 0 0) = w4 := setCell_noop r2 rfl
   have n1 : w4.setCell ⟨N + 1,1,none⟩ (.slice none 0 0) = w4 := setCell_noop r2 rfl
   have HFIN : Hid (RewP m w (.returned (.tuple #[.agg #[.slice none 0 0,.slice none 0 0],.int .i64 1])) w4) := .inr (.inl ⟨HF.out,HCL.out,rfl,by rw [HN.out]; exact hbw⟩)
   clear r2 hbw hb4 c0 c1
   go_wp2
   exact bodyPost_ret (rew_results _ _ _ _ _ _ rfl rfl y0 y1) rfl HFIN.out
  | true =>
   go_wp2_with fail
   go_at_call 43
   refine HCLS.out.mono ?_
   rintro e w4 ⟨rfl,hb4⟩
   have hb24 := HB3.out.trans (hb4.mono HB3.out.size)
   have HMC := Lib.hid (module19_calls HIN.out.mo (HB3.out.trans (hb4.mono HB3.out.size) |> fun q => (HK.out w4 q).2.2 |> fun q => by rw [HN.out]; exact q) (HRG.out.below hb4) HOK.out (right_parts HF.out).2.1)
   have HB24 := Lib.hid hb24
   clear hb4 hb24 c0 c1
   go_wp2_with fail
   go_at_call 32
   refine HMC.out.mono ?_
   rintro e w5 ⟨m',rfl,hmd,hss,hfl,hup,hb5⟩
   obtain ⟨r1,r2,hbw⟩ := HK.out w5 (HB24.out.trans (hb5.mono HB24.out.size))
   obtain ⟨sA,sC,fA,fC,ss',fs0⟩ := m'
   simp only at hss hfl hup
   subst hss
   simp only [Mo.cells]
   have y0 : w5.cell? ⟨N + 1,0,none⟩ = some (.slice none 0 0) := by rw [cell_of_row _ _ _ _ _ _ r2]; rfl
   have y1 : w5.cell? ⟨N + 1,1,none⟩ = some (.slice none 0 0) := by rw [cell_of_row _ _ _ _ _ _ r2]; rfl
   have f0 : w5.frozen? ⟨N + 1,0,none⟩ = false := frozen_of_row _ _ _ _ _ r2
   have f1 : w5.frozen? ⟨N + 1,1,none⟩ = false := frozen_of_row _ _ _ _ _ r2
   obtain ⟨W6,hW6⟩ : ∃ W6,(w5.setCell ⟨N + 1,0,none⟩ (.slice sA m.ss.length sC)).setCell ⟨N + 1,1,none⟩ (.slice fA fs0.length fC) = W6 := ⟨_,rfl⟩
   have hx6 : Ext (· = N + 1) w5 W6 := by rw [← hW6]; exact (Ext.set1 _ _ _ _).trans (Ext.set1 _ _ _ _) (fun k hk => .inl hk)
   have hr6 : W6.heap[N + 1]? = some (.cells #[.slice sA m.ss.length sC,.slice fA fs0.length fC] 25 (0,0)) := by
    have h1 := heap_setCell_same w5 (N + 1) 0 _ _ (.slice sA m.ss.length sC) r2
    have h2 := heap_setCell_same _ (N + 1) 1 _ _ (.slice fA fs0.length fC) h1
    rw [hW6] at h2; exact h2
   have hr60 : W6.heap[N]? = some (.cells m.cells 25 (0,0)) := hx6.heap r1 (by omega)
   obtain ⟨B,hB⟩ : ∃ B,w4.heap.size + 1 = B := ⟨_,rfl⟩
   rw [hB] at hmd
   have hNB : N + 2 ≤ B := by have := HB24.out.size; have := HS2.out; omega
   obtain ⟨M4,hM4⟩ : ∃ M4,w4.heap.size = M4 := ⟨_,rfl⟩
   rw [hM4,HN.out] at hmd
   have hM4B : M4 + 1 = B := by rw [← hM4]; exact hB
   have hmd6 : MdM (fun k => N ≤ k ∧ k ≤ M4) W6 B ⟨sA,sC,fA,fC,m.ss,fs0⟩ := by
    refine ⟨Nat.le_trans hmd.low hx6.size,ownsRow_ext hmd.fown hx6 (fun k hk e => by have := (hmd.fown.lt k hk).1; omega),fun w' hw' => hmd.rest w' ((hx6.mono (M' := ownOf fA fs0.length fC (fun k => N ≤ k ∧ k ≤ M4)) (fun k hk => .inr ⟨by omega,by omega⟩)).trans hw' (fun k hk => .inl hk)),hmd.ns,hmd.nf⟩
   have hbw6 : Below N w W6 := hbw.trans (hx6.below (by have := hbw.size; have := HN.out; omega) (fun k hk => by omega))
   have hBs : B ≤ W6.heap.size := by have := hmd6.low; exact this
   have HMD6 := Lib.hid hmd6
   have HUP0 : Hid (∀ (f : Nat) (g' : Fn),fs0[f]? = some g' → ∃ g,m.fs[f]? = some g ∧ WithFrom g g' (fromL m x (f : Int))) := hup
   have HBW6 := Lib.hid hbw6
   have HW6' : Hid ((w5.setCell ⟨N + 1,0,none⟩ (.slice sA m.ss.length sC)).setCell ⟨N + 1,1,none⟩ (.slice fA m.fs.length fC) = W6) := by rw [← hfl]; exact hW6
   have HR6 := Lib.hid hr6
   have HR60 := Lib.hid hr60
   have HFL := Lib.hid hfl
   have HKW : Hid (∀ W,Below B W6 W → W.heap[N]? = some (.cells m.cells 25 (0,0)) ∧ W.heap[N + 1]? = some (.cells #[.slice sA m.ss.length sC,.slice fA m.fs.length fC] 25 (0,0)) ∧ Below N w W) := by
    intro W hW
    refine ⟨(hW.block N (by omega)).trans hr60,?_,hbw6.trans (hW.mono (by omega))⟩
    rw [← hfl]; exact (hW.block (N + 1) (by omega)).trans hr6
   have y6 : W6.cell? ⟨N + 1,1,none⟩ = some (.slice fA fs0.length fC) := by rw [cell_of_row _ _ _ _ _ _ hr6]; rfl
   clear hmd hup hb5 r1 r2 hbw hW6 hx6 hr6 hr60 hB hmd6 hbw6 hM4
   rw [hfl] at y6 ⊢
   have HFL2 : Hid (fs0.length = m.fs.length) := hfl
   clear hfl
   go_upto_region 6 with (fail)
   rw [HW6'.out]
   clear y0 y1 f0 f1
   go_wp2_with fail
   go_step3
   go_wp2_with fail
   clear y6
   go_loopw [30] (fun c wr => RewI (fun k => N ≤ k ∧ k ≤ M4) m x B W6 sA fA sC fC c wr) (fun c _ => m.fs.length - (intOf c).toNat)
   case atStart => exact ⟨0,fs0,Nat.zero_le _,rfl,HFL2.out,HMD6.out,fun f g' h => absurd h (Nat.not_lt_zero _),fun f g' _ h => HUP0.out f g' h,Below.refl _ _⟩
   case round =>
    obtain ⟨n,fs,hn,rfl,hfs,hmd,hdone,htodo,hbw⟩ := hrel
    by_cases hnl : n < m.fs.length
    ·have hnI : (n : Int) < (m.fs.length : Int) := by omega
     obtain ⟨g1,hg1⟩ : ∃ g1,fs[n]? = some g1 := ⟨_,List.getElem?_eq_getElem (by omega)⟩
     obtain ⟨g,hg,hwf⟩ := htodo n g1 (Nat.le_refl _) hg1
     have hgm := List.mem_of_getElem? hg
     obtain ⟨p0,p1,p2,p3⟩ := HOK.out.fn g hgm
     have hp4 := rightIn_ne HF.out hg
     obtain ⟨hkN,hkN1,hbN⟩ := HKW.out wr hbw
     have hmw : m.inn wr := HIN.out.mo.below (by rw [HN.out]; exact hbN)
     have hgw := hmw.fin g hgm
     have hfo : wr.ownsRow B 50 8 (.slice fA fs.length fC) fs.length (fs.flatMap fun g => g.cells.toList) := hmd.fown
     obtain ⟨FB,hfA,hFBl,_⟩ := ownsRow_get hfo (j := n * 8) (u := .string g1.c.nm) (by have := flat_get (f := fun g : Fn => g.cells.toList) fnLen hg1 0 (by decide); rw [Nat.add_zero] at this; rw [this]; rfl)
     subst hfA
     have hFBB : B ≤ FB := (hfo.lt FB rfl).1
     have HCA : Hid (∀ k u,g1.cells.toList[k]? = some u → wr.cell? ((⟨FB,n * 8,none⟩ : Addr).add k) = some u) := owns_load (f := fun g : Fn => g.cells.toList) fnLen hfo hg1
     obtain ⟨l,hl⟩ : ∃ l,fromL m x (n : Int) = l := ⟨_,rfl⟩
     rw [hl] at hwf
     unfold WithFrom at hwf
     obtain ⟨frA,hfrA⟩ : ∃ A,g1.c.fromA = A := ⟨_,rfl⟩
     obtain ⟨frC,hfrC⟩ : ∃ C,g1.c.fromC = C := ⟨_,rfl⟩
     rw [hfrA,hfrC] at hwf
     obtain ⟨fb,fo,hmA,hfb,hfc⟩ := hmw.frow (by intro e; rw [e] at hnl; simp at hnl)
     obtain ⟨N6,hN6⟩ : ∃ N6,wr.heap.size = N6 := ⟨_,rfl⟩
     have hst : ∀ c : Array Value,c.size = 8 → (storeCells ⟨wr.heap.size,0,none⟩ g1.cells.toList).run Try.prog (wr.alloc (.cells c 50)) = .ok () (wr.alloc (.cells g1.cells 50)) := fun c hc =>
      run_storeCells_new (P := Try.prog) wr 50 c g1.cells (by show _ = some 8; kernel_rfl) hc (fnOne g1)
     obtain ⟨W7,hW7⟩ : ∃ W7,wr.alloc (.cells g1.cells 50) = W7 := ⟨_,rfl⟩
     rw [hW7,hN6] at hst
     have hb7 : Below wr.heap.size wr W7 := by rw [← hW7]; exact (Below.refl _ _).alloc (Nat.le_refl _) _
     have hr7 : W7.heap[N6]? = some (.cells g1.cells 50 (0,0)) := by rw [← hW7,← hN6]; exact alloc_at _ _
     have hs7 : W7.heap.size = N6 + 1 := by rw [← hW7]; simp [hN6]
     have hGC : g1.cells = #[.string g.c.nm,.int .i64 g.c.par,.slice g.c.varsA g.vs.length g.c.varsC,.bool g.c.rp,.string g.c.rto,.int .i64 g.c.rcl,.slice frA l.length frC,.slice g.c.insA g.c.ins.length g.c.insC] := by
      rw [hwf,← hgw.nvars]; rfl
     have hr7' := hr7
     rw [hGC] at hr7'
     have e7 : W7.cell? ⟨N6,7,none⟩ = some (.slice g.c.insA g.c.ins.length g.c.insC) := by rw [cell_of_row _ _ _ _ _ _ hr7']; rfl
     have hne : ((g.c.ins.length : Int) == 0) = false := by rw [beq_eq_false_iff_ne]; omega
     have hne2 : (g.c.ins.length == 0) = false := by rw [beq_eq_false_iff_ne]; omega
     have HWN : Hid (∀ W,Below wr.heap.size wr W → m.inn W ∧ W.cell? ⟨N,0,none⟩ = some (.slice m.sA m.ss.length m.sC) ∧ W.cell? ⟨N,1,none⟩ = some (.slice (some ⟨fb,fo,none⟩) m.fs.length m.fC) ∧ W.cell? ⟨N + 1,1,none⟩ = some (.slice (some ⟨FB,0,none⟩) m.fs.length fC)) := by
      intro W hW
      have hl1 : N < wr.heap.size := (Array.getElem?_eq_some_iff.1 hkN).1
      have hl2 : N + 1 < wr.heap.size := (Array.getElem?_eq_some_iff.1 hkN1).1
      have z1 := (hW.block N hl1).trans hkN
      have z2 := (hW.block (N + 1) hl2).trans hkN1
      refine ⟨hmw.below hW,by rw [cell_of_row _ _ _ _ _ _ z1]; rfl,by rw [cell_of_row _ _ _ _ _ _ z1,← hmA]; rfl,by rw [cell_of_row _ _ _ _ _ _ z2]; rfl⟩
     have HGL : Hid (∀ (p : BW W7) (j : Nat) (u : Value),(#[.string g.c.nm,.int .i64 g.c.par,.slice g.c.varsA g.c.nvars g.c.varsC,.bool g.c.rp,.string g.c.rto,.int .i64 g.c.rcl,.slice g.c.fromA g.c.nfrom g.c.fromC,.slice g.c.insA g.c.ins.length g.c.insC] : Array Value).toList[j]? = some u → p.w.cell? ((⟨fb,fo + n * 8,none⟩ : Addr).add j) = some u) := by
      intro p j u hu
      rw [Addr.add_lit,(hb7.trans (p.h.mono hb7.size)).cell (p := ⟨fb,_,none⟩) hfb]
      exact hfc n g hg j u hu
     have HMD := Lib.hid hmd
     have HMA := Lib.hid hmA
     clear hmA
     have HDONE := Lib.hid hdone
     have HTODO := Lib.hid htodo
     have HBW := Lib.hid hbw
     have HWF := Lib.hid hwf
     have HGG := Lib.hid hg
     have HG1 := Lib.hid hg1
     have HFO := Lib.hid hfo
     have HB7 := Lib.hid hb7
     have HR7 := Lib.hid hr7'
     have HS7 := Lib.hid hs7
     have HN6 := Lib.hid hN6
     have HLL := Lib.hid hl
     have HFS := Lib.hid hfs
     have HNV : Hid (g.c.nvars = g.vs.length) := hgw.nvars
     clear hmd hdone htodo hbw hwf hg hg1 hfo hr7 hr7' hW7 hb7 hkN hkN1 hbN hmw hgw hfc hGC hl hfs
     go_upto_region 10 with (first | (refine wpList_load_at rfl 50 _ rfl ⟨FB,n * 8,none⟩ rfl g1.cells _ HCA.out Try.underlying50 rfl (by kernel_rfl) ?_))
     clear hst
     go_wp2_with fail
     clear e7 HCA
     obtain ⟨_,k0,k1,_⟩ := HWN.out W7 HB7.out
     have m0 : ∀ p : BW W7,p.w.cell? ⟨N,0,none⟩ = some (.slice m.sA m.ss.length m.sC) := fun p => (HWN.out p.w (HB7.out.trans (p.h.mono HB7.out.size))).2.1
     have m1 : ∀ p : BW W7,p.w.cell? ⟨N,1,none⟩ = some (.slice (some ⟨fb,fo,none⟩) m.fs.length m.fC) := fun p => (HWN.out p.w (HB7.out.trans (p.h.mono HB7.out.size))).2.2.1
     clear k0 k1
     refine wp_region_quiet_bw (by kernel_rfl) (by kernel_rfl) ?_
     repeat (first
      | (go_big_quiet_want; (refine quiet_load_bw 50 _ rfl ⟨fb,fo + n * 8,none⟩ rfl _ _ HGL.out Try.underlying50 rfl (by kernel_rfl) ?_); (simp only [Act.put,List.setIfInBounds_toArray,List.set_cons_zero,List.set_cons_succ]); go_big_quiet_on)
      | (go_big_quiet_step (fail)))
     refine wpQuiet_nil ?_
     rintro _ ⟨p,rfl⟩
     obtain ⟨W8,h8w⟩ := p
     show Exit.then _ _ _ _ W8
     clear m0 m1 HGL
     go_wp2_with fail
     have HB8 : Hid (Below wr.heap.size wr W8) := HB7.out.trans (h8w.mono HB7.out.size)
     have hs8 : N6 + 1 ≤ W8.heap.size := by have := h8w.size; rw [HS7.out] at this; exact this
     have hr8 : W8.heap[N6]? = some (.cells #[.string g.c.nm,.int .i64 g.c.par,.slice g.c.varsA g.vs.length g.c.varsC,.bool g.c.rp,.string g.c.rto,.int .i64 g.c.rcl,.slice frA l.length frC,.slice g.c.insA g.c.ins.length g.c.insC] 50 (0,0)) := (h8w.block N6 (by rw [HS7.out]; omega)).trans HR7.out
     have HMI : Hid (∀ W,Below wr.heap.size wr W → g.inn W) := fun W hW => (HWN.out W hW).1.fin g hgm
     have HCV : Hid (∀ W,Below wr.heap.size wr W → Calls Try.prog 45 #[.slice g.c.varsA g.vs.length g.c.varsC] W fun e w' => ∃ v',e = .returned v' ∧ w'.ownsRow W.heap.size 47 3 v' g.vs.length (g.vs.flatMap fun a => a.cells.toList) ∧ Below W.heap.size W w') := by
      intro W hW
      obtain ⟨z1,z2⟩ := rowOf_flat vrLen (by decide) (HMI.out W hW).vars
      exact cloneVr_calls W g.c.varsA g.vs.length g.c.varsC _ (flat_len vrLen _) z1 z2 (cells_one fun s _ => vrOne s) (by omega)
     have HIOK : Hid (∀ i ∈ g.c.ins,i.cells.all (·.oneCell') = true) := by
      intro i hi
      obtain ⟨⟨⟨a1,c1,e1⟩,a2,n2,c2,e2⟩,_⟩ := ((HMI.out wr (Below.refl _ _)).code.args i hi)
      exact insOne ⟨by rw [e1]; rfl,by rw [e2]; rfl⟩
     have HCI : Hid (∀ W,Below wr.heap.size wr W → Calls Try.prog 46 #[.slice g.c.insA g.c.ins.length g.c.insC] W fun e w' => ∃ v',e = .returned v' ∧ w'.ownsRow W.heap.size 62 13 v' g.c.ins.length (g.c.ins.flatMap fun a => a.cells.toList) ∧ Below W.heap.size W w') := by
      intro W hW
      have hrow : RowOf Ins.cells 13 W W.heap.size g.c.insA g.c.ins := (HMI.out W hW).code.row
      obtain ⟨z1,z2⟩ := rowOf_flat insLen (by decide) hrow
      exact cloneIn_calls W g.c.insA g.c.ins.length g.c.insC _ (flat_len insLen _) z1 z2 (cells_one HIOK.out) (by omega)
     have HSW : Hid (∀ W,Below W8.heap.size W8 W → W.heap[N6]? = some (.cells #[.string g.c.nm,.int .i64 g.c.par,.slice g.c.varsA g.vs.length g.c.varsC,.bool g.c.rp,.string g.c.rto,.int .i64 g.c.rcl,.slice frA l.length frC,.slice g.c.insA g.c.ins.length g.c.insC] 50 (0,0))) := fun W hW => (hW.block N6 (by omega)).trans hr8
     obtain ⟨S,hS⟩ : ∃ S : World → Prop,S = fun w' => w'.cell? ⟨N6,2,none⟩ = some (.slice g.c.varsA g.vs.length g.c.varsC) ∧ w'.cell? ⟨N6,7,none⟩ = some (.slice g.c.insA g.c.ins.length g.c.insC) := ⟨_,rfl⟩
     have HSS : Hid (∀ w',S w' → w'.cell? ⟨N6,2,none⟩ = some (.slice g.c.varsA g.vs.length g.c.varsC) ∧ w'.cell? ⟨N6,7,none⟩ = some (.slice g.c.insA g.c.ins.length g.c.insC)) := fun w' h => by rw [hS] at h; exact h
     have HSM : Hid (∀ w',Below W8.heap.size W8 w' → S w') := fun w' h => by
      rw [hS]
      have h1 := HSW.out w' h
      exact ⟨by rw [cell_of_row _ _ _ _ _ _ h1]; rfl,by rw [cell_of_row _ _ _ _ _ _ h1]; rfl⟩
     have hS0 : S W8.drew := HSM.out _ (Below.refl _ _).drew
     have HC8 := Lib.hid (HCV.out W8.drew HB8.out.drew)
     clear hS h8w hr8
     refine wp_region_J 7 S (by kernel_rfl) ?_
     refine wpAnyJ_take (i := 0) rfl (by kernel_rfl) (by kernel_rfl) (by kernel_rfl) (by kernel_rfl) (fun _ _ _ h => h) (Or.inl ⟨by rfl,fun w hSw => by obtain ⟨s1,s2⟩ := HSS.out w hSw; go_simp; rfl⟩) (by assumption) ?_
     try go_simp
     refine wpAnyJ_take (i := 1) rfl (by kernel_rfl) (by kernel_rfl) (by kernel_rfl) (by kernel_rfl) (fun _ _ _ h => h) (Or.inl ⟨by rfl,fun w hSw => by obtain ⟨s1,s2⟩ := HSS.out w hSw; go_simp; rfl⟩) (by assumption) ?_
     try go_simp
     refine wpAnyJ_take (i := 3) rfl (by kernel_rfl) (by kernel_rfl) (by kernel_rfl) (by kernel_rfl) (fun _ _ _ h => h) (Or.inl ⟨by rfl,fun w hSw => by obtain ⟨s1,s2⟩ := HSS.out w hSw; go_simp; rfl⟩) (by assumption) ?_
     try go_simp
     refine wpAnyJ_take (i := 4) rfl (by kernel_rfl) (by kernel_rfl) (by kernel_rfl) (by kernel_rfl) (fun _ _ _ h => h) (Or.inl ⟨by rfl,fun w hSw => by obtain ⟨s1,s2⟩ := HSS.out w hSw; go_simp; rfl⟩) (by assumption) ?_
     try go_simp
     refine wpAnyJ_one (i := 2) (by kernel_rfl) (by decide) rfl fun K' hK => ?_
     rw [if_pos (by rfl)]
     go_simp
     go_at_call 45
     refine HC8.out.mono ?_
     rintro e w9 ⟨v1,rfl,ho1,hb9⟩
     obtain ⟨A1,C1,rfl⟩ := ownsRow_slice ho1
     have hb89 : Below W8.heap.size W8 w9 := ((Below.refl _ _).drew).trans hb9
     have hS9 : S w9 := HSM.out _ hb89
     have HB89 := Lib.hid hb89
     have HO1 := Lib.hid ho1
     have HC9 := Lib.hid (HCI.out w9 (HB8.out.trans (hb89.mono HB8.out.size)))
     clear ho1 hb9 hb89
     refine hK _ _ hS9 ?_
     clear hK
     try go_simp
     refine wpAnyJ_take (i := 6) rfl (by kernel_rfl) (by kernel_rfl) (by kernel_rfl) (by kernel_rfl) (fun _ _ _ h => h) (Or.inl ⟨by rfl,fun w hSw => by obtain ⟨s1,s2⟩ := HSS.out w hSw; go_simp; rfl⟩) (by assumption) ?_
     try go_simp
     refine wpAnyJ_one (i := 5) (by kernel_rfl) (by decide) rfl fun K' hK => ?_
     rw [if_pos (by rfl)]
     go_simp
     go_at_call 46
     refine HC9.out.mono ?_
     rintro e w10 ⟨v2,rfl,ho2,hb10⟩
     obtain ⟨A2,C2,rfl⟩ := ownsRow_slice ho2
     have hIB : ∃ IB,A2 = some ⟨IB,0,none⟩ := by
      rcases ho2.2 with ⟨_,h0⟩ | ⟨g0,c0,_,e1,_⟩
      ·omega
      ·simp only [Value.slice.injEq] at e1
       exact ⟨g0,e1.1⟩
     obtain ⟨IB,rfl⟩ := hIB
     have hb810 : Below W8.heap.size W8 w10 := HB89.out.trans (hb10.mono HB89.out.size)
     have hS10 : S w10 := HSM.out _ hb810
     have hr10 := HSW.out w10 hb810
     have HO2 := Lib.hid ho2
     have HB910 := Lib.hid hb10
     have HB810 := Lib.hid hb810
     have t2 : w10.cell? ⟨N6,2,none⟩ = some (.slice g.c.varsA g.vs.length g.c.varsC) := by rw [cell_of_row _ _ _ _ _ _ hr10]; rfl
     have f2 : w10.frozen? ⟨N6,2,none⟩ = false := frozen_of_row _ _ _ _ _ hr10
     obtain ⟨W11,hW11⟩ : ∃ W11,w10.setCell ⟨N6,2,none⟩ (.slice A1 g.vs.length C1) = W11 := ⟨_,rfl⟩
     have hr11 : W11.heap[N6]? = some (.cells #[.string g.c.nm,.int .i64 g.c.par,.slice A1 g.vs.length C1,.bool g.c.rp,.string g.c.rto,.int .i64 g.c.rcl,.slice frA l.length frC,.slice g.c.insA g.c.ins.length g.c.insC] 50 (0,0)) := by
      have := heap_setCell_same w10 N6 2 _ _ (.slice A1 g.vs.length C1) hr10
      rw [hW11] at this; exact this
     have t7 : W11.cell? ⟨N6,7,none⟩ = some (.slice g.c.insA g.c.ins.length g.c.insC) := by rw [cell_of_row _ _ _ _ _ _ hr11]; rfl
     have f7 : W11.frozen? ⟨N6,7,none⟩ = false := frozen_of_row _ _ _ _ _ hr11
     obtain ⟨W12,hW12⟩ : ∃ W12,W11.setCell ⟨N6,7,none⟩ (.slice (some ⟨IB,0,none⟩) g.c.ins.length C2) = W12 := ⟨_,rfl⟩
     have hr12 : W12.heap[N6]? = some (.cells #[.string g.c.nm,.int .i64 g.c.par,.slice A1 g.vs.length C1,.bool g.c.rp,.string g.c.rto,.int .i64 g.c.rcl,.slice frA l.length frC,.slice (some ⟨IB,0,none⟩) g.c.ins.length C2] 50 (0,0)) := by
      have := heap_setCell_same W11 N6 7 _ _ (.slice (some ⟨IB,0,none⟩) g.c.ins.length C2) hr11
      rw [hW12] at this; exact this
     have hx12 : Ext (· = N6) w10 W12 := by rw [← hW12,← hW11]; exact (Ext.set1 _ _ _ _).trans (Ext.set1 _ _ _ _) (fun k hk => .inl hk)
     have HR12 := Lib.hid hr12
     have HX12 := Lib.hid hx12
     have HW11 := Lib.hid hW11
     have HW12 := Lib.hid hW12
     clear ho2 hb10 hb810 hr10 hr11 hr12 hx12 hW11 hW12
     refine hK _ _ hS10 ?_
     clear hK
     try go_simp
     refine wpAnyJ_k (by kernel_rfl) rfl fun K' hK => ?_
     rw [if_pos (by rfl)]
     go_simp
     rw [HW11.out]
     refine hK _ _ ?_
     clear hK t2 f2
     try go_simp
     refine wpAny_next 8 1 0 rfl rfl (by kernel_rfl) (by kernel_rfl) (· = W11) rfl ?_
     dsimp only [List.take,List.drop]
     repeat (go_big_quiet_step (fail))
     refine wpQuiet_nil ?_
     rintro _ rfl
     refine wpOp_run (v := undef) (w' := W12) rfl (by rfl) (Or.inr ⟨by go_simp; rw [HW12.out],rfl⟩) ?_
     try go_simp
     refine wpAny_end 10 rfl (by kernel_rfl) (by kernel_rfl) (· = W12) rfl ?_
     dsimp only [List.drop]
     refine wpQuiet_nil ?_
     intro w' hw'
     rw [hw']
     clear hw' w'
     clear hS0 hS9 hS10 t7 f7 HSS HSM HW11 HW12
     have hr12 := HR12.out
     have hr10 := HSW.out w10 HB810.out
     have e8 : W12.cell? ⟨N6,7,none⟩ = some (.slice (some ⟨IB,0,none⟩) g.c.ins.length C2) := by rw [cell_of_row _ _ _ _ _ _ hr12]; rfl
     have HIBl : Hid (wr.heap.size + 1 ≤ IB) := by
      have := (HO2.out.lt IB rfl).1
      have := HB89.out.size
      have := HN6.out
      unfold Hid; omega
     obtain ⟨GC,hGC⟩ : ∃ GC : Array Value,GC = #[.string g.c.nm,.int .i64 g.c.par,.slice A1 g.vs.length C1,.bool g.c.rp,.string g.c.rto,.int .i64 g.c.rcl,.slice frA l.length frC,.slice (some ⟨IB,0,none⟩) g.c.ins.length C2] := ⟨_,rfl⟩
     have HGC := Lib.hid hGC
     have hbr12 : Below wr.heap.size wr W12 := (HB8.out.trans (HB810.out.mono HB8.out.size)).trans (HX12.out.below (by have := HB8.out.size; have := HB810.out.size; omega) (fun k hk => by rw [hk,HN6.out]; exact Nat.le_refl _))
     have HBR12 := Lib.hid hbr12
     have HJ0 : Hid (RewJ m g W12 wr N6 IB C2 GC (.int .i64 ((0 : Nat) : Int)) W12) := by
      refine ⟨0,g.c.ins,fun _ => .slice none 0 0,Nat.zero_le _,rfl,rfl,?_,fun q i hq => by rw [if_neg (Nat.not_lt_zero _)]; exact hq,fun w' _ q i hq => absurd hq (Nat.not_lt_zero _),by rw [hGC]; exact hr12,hbr12,Ext.refl _ _⟩
      exact ownsRow_ext (ownsRow_base HO2.out (fun k hk => by have e : some IB = some k := hk; obtain rfl := Option.some.inj e; have := HIBl.out; omega)) HX12.out (fun k hk e => by have e2 : some IB = some k := hk; obtain rfl := Option.some.inj e2; have := HIBl.out; rw [HN6.out] at this; omega)
     clear hr12 hr10 hGC hbr12
     go_wp2_with fail
     clear e8
     obtain ⟨wo,hwo⟩ : ∃ wo : World,wo = wr := ⟨_,rfl⟩
     rw [← hwo] at HWN HJ0 HMI HIBl HBR12 HMD HBW HFO HB7 HB8 HN6
     have hFBl' : FB < wo.heap.size := by rw [hwo]; exact hFBl
     have hfb' : fb < wo.heap.size := by rw [hwo]; exact hfb
     clear hwo hFBl hfb hN6
     go_loopw [58] (fun c wq => RewJ m g W12 wo N6 IB C2 GC c wq) (fun c _ => g.c.ins.length - (intOf c).toNat)
     case atStart => exact HJ0.out
     case round =>
      clear HJ0
      obtain ⟨k,il,mv,hk,rfl,hil,ho,hins,hrest,hrn,hbq,hxq⟩ := hrel
      by_cases hkl : k < g.c.ins.length
      ·have hkI : (k : Int) < (g.c.ins.length : Int) := by omega
       obtain ⟨i,hi⟩ : ∃ i,g.c.ins[k]? = some i := ⟨_,List.getElem?_eq_getElem hkl⟩
       have him := List.mem_of_getElem? hi
       have hilk : il[k]? = some i := by have := hins k i hi; rw [if_neg (Nat.lt_irrefl _)] at this; exact this
       have HCB : Hid (∀ q u,i.cells.toList[q]? = some u → wr.cell? ((⟨IB,k * 13,none⟩ : Addr).add q) = some u) := owns_load (f := fun i : Ins => i.cells.toList) insLen ho hilk
       have hone := HIOK.out i him
       obtain ⟨N9,hN9⟩ : ∃ N,wr.heap.size = N := ⟨_,rfl⟩
       have hst : ∀ c : Array Value,c.size = 13 → (storeCells ⟨wr.heap.size,0,none⟩ i.cells.toList).run Try.prog (wr.alloc (.cells c 62)) = .ok () (wr.alloc (.cells i.cells 62)) := fun c hc =>
        run_storeCells_new (P := Try.prog) wr 62 c i.cells (by show _ = some 13; kernel_rfl) hc hone
       obtain ⟨W13,hW13⟩ : ∃ W13,wr.alloc (.cells i.cells 62) = W13 := ⟨_,rfl⟩
       rw [hW13,hN9] at hst
       have hb13 : Below wr.heap.size wr W13 := by rw [← hW13]; exact (Below.refl _ _).alloc (Nat.le_refl _) _
       have hr13 : W13.heap[N9]? = some (.cells i.cells 62 (0,0)) := by rw [← hW13,← hN9]; exact alloc_at _ _
       have hs13 : W13.heap.size = N9 + 1 := by rw [← hW13]; simp [hN9]
       have hN6q : N6 < wr.heap.size := (Array.getElem?_eq_some_iff.1 hrn).1
       obtain ⟨S,hS⟩ : ∃ S : World → Prop,S = fun w' => Below W13.heap.size W13 w' := ⟨_,rfl⟩
       have HSS : Hid (∀ w',S w' → w'.cell? ⟨N6,7,none⟩ = some (.slice (some ⟨IB,0,none⟩) g.c.ins.length C2)) := fun w' h => by
        rw [hS] at h
        have h1 := ((hb13.trans (h.mono hb13.size)).block N6 hN6q).trans hrn
        rw [HGC.out] at h1
        rw [cell_of_row _ _ _ _ _ _ h1]; rfl
       have HSL : Hid (∀ w',S w' → ∀ q u,i.cells.toList[q]? = some u → w'.cell? ((⟨N9,0,none⟩ : Addr).add q) = some u) := fun w' h q u hu => by
        rw [hS] at h
        have h1 := (h.block N9 (by omega)).trans hr13
        rw [Addr.add_lit,Nat.zero_add,cell_of_row _ _ _ _ _ _ h1]; simpa using hu
       have hS0 : S W13.drew := by rw [hS]; exact (Below.refl _ _).drew
       have HSB : Hid (∀ w',Below W13.drew.heap.size W13.drew w' → S w' ∧ Below W13.heap.size W13 w') := fun w' h => by
        have h2 : Below W13.heap.size W13 w' := ((Below.refl W13.heap.size W13).drew).trans h
        exact ⟨by rw [hS]; exact h2,h2⟩
       have hmW : m.inn W13.drew := (HWN.out W13.drew ((hbq.trans (hb13.mono hbq.size)).drew)).1
       have HMO := Lib.hid (modes_calls W13.drew m hmW HOK.out n g HGG.out i him)
       obtain ⟨ML,hML⟩ : ∃ ML,modesF m g i = ML := ⟨_,rfl⟩
       unfold jg at HMO
       rw [hML,HMA.out] at HMO
       have HBLK : Hid (∀ (w14 : World) (v : Value),Below W13.heap.size W13 w14 → (∃ (ao : Option Addr) (cp : Nat),v = .slice ao ML.length cp ∧ OwnI w14 W13.heap.size (.slice ao ML.length cp) ML) → (∃ z,w14.cell? ⟨IB,k * 13 + 8,none⟩ = some z) ∧ w14.frozen? ⟨IB,k * 13 + 8,none⟩ = false ∧ RewJ m g W12 wo N6 IB C2 GC (.int .i64 ((k : Int) + 1)) (w14.setCell ⟨IB,k * 13 + 8,none⟩ v)) := by
        rintro w14 v hb14 ⟨ao,cp,rfl,hown14⟩
        have hb4 : Below wr.heap.size wr w14 := hb13.trans (hb14.mono hb13.size)
        have ho4 := ownsRow_below ho hb4
        have hx14 : Ext (· = IB) w14 (w14.setCell ⟨IB,k * 13 + 8,none⟩ (.slice ao ML.length cp)) := Ext.set1 _ _ _ _
        have hlI := (ho.lt IB rfl).2
        refine ⟨⟨_,owns_load (f := fun i : Ins => i.cells.toList) insLen ho4 hilk 8 _ rfl |> fun q => by rw [Addr.add_lit] at q; exact q⟩,owns_frozen ho4 _,?_⟩
        refine ⟨k + 1,il.set k { i with modeV := .slice ao ML.length cp },fun q => if q = k then .slice ao ML.length cp else mv q,hkl,by simp,by rw [List.length_set]; exact hil,?_,fun q i' hq => ?_,fun w' hw' q i' hq hi' => ?_,?_,?_,?_⟩
        ·exact owns_set1 (f := fun i : Ins => i.cells.toList) insLen ho4 hil.symm hilk (by decide) rfl
        ·rw [List.getElem?_set]
         by_cases e : k = q
         ·subst e
          rw [if_pos rfl,if_pos (by omega),if_pos (by omega)]
          rw [hi] at hq
          obtain rfl := Option.some.inj hq
          simp
         ·rw [if_neg e,hins q i' hq]
          by_cases e2 : q < k
          ·rw [if_pos e2,if_pos (by omega)]
           simp only [if_neg (fun h : q = k => e h.symm)]
          ·rw [if_neg e2,if_neg (by omega)]
        ·have hx' : Ext (fun b => b = IB ∨ b < wo.heap.size) w14 w' := (hx14.mono (M' := fun b => b = IB ∨ b < wo.heap.size) (fun _ h => .inl h)).trans hw' (fun k hk => .inl hk)
         by_cases e : q = k
         ·subst e
          rw [hi] at hi'
          obtain rfl := Option.some.inj hi'
          refine ⟨ao,cp,by simp [hML],?_⟩
          rw [hML]
          exact intRow_own hown14 hx' (fun k hk e => by have := (hown14.lt k hk).1; have := hb13.size; have := hbq.size; omega)
         ·obtain ⟨a0,c0,z1,z2⟩ := hrest w' ((Ext.of_below_size (M := fun b => b = IB ∨ b < wo.heap.size) hb4).trans hx' (fun k hk => .inl hk)) q i' (by omega) hi'
          exact ⟨a0,c0,by simp only [if_neg e]; exact z1,z2⟩
        ·have h1 := (hb4.block N6 hN6q).trans hrn
         exact hx14.heap h1 (by have := HIBl.out; have := HN6.out; omega)
        ·exact (hbq.trans (hb4.mono hbq.size)).trans (hx14.below (by have := hbq.size; have := hb4.size; omega) (fun k hk => by have := HIBl.out; omega))
        ·exact (hxq.trans (Ext.of_below_size (M := (· = IB)) hb4) (fun k hk => .inl hk)).trans hx14 (fun k hk => .inl hk)
       have HW13 := Lib.hid hW13
       have HS13 := Lib.hid hs13
       clear hi him hilk hone hW13 hb13 hr13 hs13 hS hmW hML ho hins hrest hrn hbq hil hxq
       go_upto_region 16 with (first | (refine wpList_load_at rfl 62 _ rfl ⟨IB,k * 13,none⟩ rfl i.cells _ HCB.out Try.underlying62 rfl (by kernel_rfl) ?_))
       clear hst
       refine wp_region_J 8 S (by kernel_rfl) ?_
       refine wpAnyJ_take (i := 0) rfl (by kernel_rfl) (by kernel_rfl) (by kernel_rfl) (by kernel_rfl) (fun _ _ _ h => h) (Or.inl ⟨by rfl,fun w hSw => by have s1 := HSS.out w hSw; go_simp; rfl⟩) (by assumption) ?_
       try go_simp
       refine wpAnyJ_take (i := 1) rfl (by kernel_rfl) (by kernel_rfl) (by kernel_rfl) (by kernel_rfl) (fun _ _ _ h => h) (Or.inl ⟨by rfl,fun w hSw => by have s1 := HSS.out w hSw; go_simp; rfl⟩) (by assumption) ?_
       try go_simp
       refine wpAnyJ_take (i := 2) rfl (by kernel_rfl) (by kernel_rfl) (by kernel_rfl) (by kernel_rfl) (fun _ _ _ h => h) (Or.inl ⟨by rfl,fun w hSw => by have s1 := HSS.out w hSw; go_simp; rfl⟩) (by assumption) ?_
       try go_simp
       refine wpAnyJ_take (i := 3) rfl (by kernel_rfl) (by kernel_rfl) (by kernel_rfl) (by kernel_rfl) (fun _ _ _ h => h) (Or.inl ⟨by rfl,fun w hSw => by have s1 := HSS.out w hSw; go_simp; rfl⟩) (by assumption) ?_
       try go_simp
       refine wpAnyJ_take (i := 4) (v := .agg i.cells) rfl (by kernel_rfl) (by kernel_rfl) (by kernel_rfl) (by kernel_rfl) (fun _ _ _ h => h) (load_yields (by rfl) 62 _ rfl ⟨N9,0,none⟩ rfl i.cells _ HSL.out Try.underlying62 rfl (by kernel_rfl)) (by assumption) ?_
       try go_simp
       refine wpAnyJ_one (i := 5) (by kernel_rfl) (by decide) rfl fun K' hK => ?_
       rw [if_pos (by rfl)]
       go_simp
       go_at_call 44
       refine HMO.out.mono ?_
       rintro e w14 ⟨ao,cp,rfl,hown14,hb14⟩
       obtain ⟨hS14,hb14'⟩ := HSB.out w14 hb14
       obtain ⟨⟨z,hz⟩,hzf,hnx⟩ := HBLK.out w14 (.slice ao ML.length cp) hb14' ⟨ao,cp,rfl,hown14⟩
       have HNX := Lib.hid hnx
       clear hown14 hb14 hb14' hnx
       refine hK _ _ hS14 ?_
       clear hK
       try go_simp
       refine wpAnyJ_take (i := 6) (v := .pointer (some ⟨IB,k * 13,none⟩)) rfl (by kernel_rfl) (by kernel_rfl) (by kernel_rfl) (by kernel_rfl) (fun _ _ _ h => h) (Or.inl ⟨by rfl,fun w hSw => by go_simp⟩) (by assumption) ?_
       try go_simp
       refine wpAnyJ_take (i := 7) (v := .pointer (some ⟨IB,k * 13 + 8,none⟩)) rfl (by kernel_rfl) (by kernel_rfl) (by kernel_rfl) (by kernel_rfl) (fun _ _ _ h => h) (Or.inl ⟨by rfl,fun w hSw => by go_simp⟩) (by assumption) ?_
       try go_simp
       refine wpAnyJ_k (by kernel_rfl) rfl fun K' hK => ?_
       rw [if_pos (by rfl)]
       go_simp
       refine hK _ _ ?_
       clear hK hz hzf
       try go_simp
       refine wpAny_end 9 rfl (by kernel_rfl) (by kernel_rfl) (· = w14.setCell ⟨IB,k * 13 + 8,none⟩ (.slice ao ML.length cp)) rfl ?_
       dsimp only [List.drop]
       refine wpQuiet_nil ?_
       intro w' hw'
       rw [hw']
       clear hw' w' hS0 hS14
       go_wp2
       go_roundw
       case rel => exact HNX.out
       case measure => simp [intOf]; omega
      ·have hke : k = g.c.ins.length := by omega
       subst hke
       obtain ⟨g2,hg2⟩ : ∃ g2 : Fn,g2 = ⟨{ g.c with varsA := A1,nvars := g.vs.length,varsC := C1,fromA := frA,nfrom := l.length,fromC := frC,insA := some ⟨IB,0,none⟩,insC := C2,ins := il },g.vs,l.map fun n : Nat => (n : Int),g.c.ins.map (modesF m g)⟩ := ⟨_,rfl⟩
       have hcells : g2.cells = GC := by rw [hg2,HGC.out,← hil]; rfl
       have hB1 := (HKW.out wo HBW.out).2.2
       have hmdr := HMD.out.below hbq
       have hfor : wr.ownsRow B 50 8 (.slice (some ⟨FB,0,none⟩) fs.length fC) fs.length (fs.flatMap fun g => g.cells.toList) := hmdr.fown
       have hg1m := List.mem_of_getElem? HG1.out
       have hM4B' := hM4B
       have HGI : Hid (∀ w2,Ext (fun k => k = FB ∨ (N ≤ k ∧ k ≤ M4)) wr w2 → g2.inn w2) := by
        intro w2 hx2
        have hBN : N ≤ FB := by omega
        have hwr : N ≤ wo.heap.size := by omega
        have hbN2 : Below N w w2 := (hB1.trans (hbq.mono hwr)).trans (hx2.below (by have := hbq.size; omega) (fun k hk => by omega))
        have hgi : g.inn w2 := (HIN.out.mo.fin g hgm).below (by rw [HN.out]; exact hbN2)
        have hg1i : g1.inn w2 := (hmdr.rest w2 (hx2.mono fun k hk => by
         rcases hk with hk | hk
         ·subst hk; exact .inl rfl
         ·exact .inr hk)).2.2 g1 hg1m
        have hsz : wo.heap.size + 1 ≤ IB := HIBl.out
        have ho2 := ownsRow_ext ho hx2 (fun k hk hk' => by have e : some IB = some k := hk; obtain rfl := Option.some.inj e; omega)
        have hrow2 : RowOf Ins.cells 13 w2 w2.heap.size (some ⟨IB,0,none⟩) il := rowOf_owns (xs := il) insLen (by rw [hil]; exact ho2)
        have hxall : Ext (fun k => k = N6 ∨ k = IB ∨ k = FB ∨ (N ≤ k ∧ k ≤ M4)) w9 w2 := by
         have q1 : Ext (fun k => k = N6 ∨ k = IB ∨ k = FB ∨ (N ≤ k ∧ k ≤ M4)) w9 w10 := Ext.of_below_size HB910.out
         exact ((q1.trans HX12.out (fun k hk => .inl (.inl hk))).trans hxq (fun k hk => .inl (.inr (.inl hk)))).trans hx2 (fun k hk => .inl (.inr (.inr hk)))
        have hs8w : W8.heap.size = W8.drew.heap.size := rfl
        have hvar2 : RowOf Vr.cells 3 w2 w2.heap.size A1 g.vs := by
         refine rowOf_owns (xs := g.vs) vrLen (ownsRow_ext HO1.out hxall (fun k hk hk' => ?_))
         have h1 := HO1.out.lt k hk
         have h2 := (HO2.out.lt IB rfl).1
         have h3 := HN6.out
         rcases hk' with h | h | h | h <;> omega
        have hfrm : IntRow w2 frA (l.map fun n : Nat => (n : Int)) := by
         have h1 := hg1i.frm
         rw [hfrA] at h1
         have e : g1.frm = l.map fun n : Nat => (n : Int) := by rw [HWF.out]
         rw [e] at h1; exact h1
        have hll : l.length ≤ maxLen := by
         have h1 := hg1i.code.nfrom
         have e : g1.c.nfrom = l.length := by rw [HWF.out]
         rw [e] at h1; exact h1
        have hget : ∀ (q : Nat) (y : Ins),il[q]? = some y → ∃ i,g.c.ins[q]? = some i ∧ y = { i with modeV := mv q } := by
         intro q y hq
         have hql : q < g.c.ins.length := by rw [← hil]; exact (List.getElem?_eq_some_iff.1 hq).1
         obtain ⟨i,hi⟩ : ∃ i,g.c.ins[q]? = some i := ⟨_,List.getElem?_eq_getElem hql⟩
         have h1 := hins q i hi
         rw [if_pos hql,hq] at h1
         exact ⟨i,hi,Option.some.inj h1⟩
        have hrest2 : ∀ (q : Nat) (i : Ins),g.c.ins[q]? = some i → ∃ (ao : Option Addr) (cp : Nat),mv q = .slice ao (modesF m g i).length cp ∧ IntRow w2 ao (modesF m g i) := by
         intro q i hi
         exact hrest w2 (hx2.mono fun b hb => .inr (by rcases hb with hb | hb <;> omega)) q i (List.getElem?_eq_some_iff.1 hi).1 hi
        rw [hg2]
        refine ⟨⟨hrow2,fun y hy => ?_,by show il.length ≤ maxLen; rw [hil]; exact hgi.code.len,⟨g.vs,rfl,hvar2⟩,by show g.vs.length ≤ maxLen; rw [← HNV.out]; exact hgi.code.nvars,hll,⟨_,by simp,hfrm⟩⟩,hgi.nm,rfl,hvar2,by simp,hfrm,by show (g.c.ins.map _).length = il.length; rw [List.length_map,hil],fun q y ll hy hlq => ?_⟩
        ·obtain ⟨q,hq⟩ := List.mem_iff_getElem?.1 hy
         obtain ⟨i,hi,rfl⟩ := hget q y hq
         obtain ⟨⟨z1,_⟩,z3⟩ := hgi.code.args i (List.mem_of_getElem? hi)
         obtain ⟨ao,cp,e,_⟩ := hrest2 q i hi
         exact ⟨⟨z1,_,_,_,e⟩,z3⟩
        ·obtain ⟨i,hi,rfl⟩ := hget q y hy
         have hlq' : (g.c.ins.map (modesF m g))[q]? = some ll := hlq
         rw [List.getElem?_map,hi] at hlq'
         obtain rfl : modesF m g i = ll := by simpa using hlq'
         exact hrest2 q i hi
       obtain ⟨W15,hst15,hown15,hx15⟩ := owns_put (P := Try.prog) (f := fun g : Fn => g.cells.toList) fnLen (by decide) hfor rfl (i := n) (by rw [HFS.out]; exact hnl) g2 (fun v hv => by
        have := fnOne g2
        rw [← Array.all_toList,List.all_eq_true] at this
        exact this v hv)
       rw [hcells] at hst15
       have hmd15 : MdM (fun k => N ≤ k ∧ k ≤ M4) W15 B ⟨sA,sC,some ⟨FB,0,none⟩,fC,m.ss,fs.set n g2⟩ := hmdr.replace hown15 hx15 HGI.out
       have hnl' : n < fs.length := by rw [HFS.out]; exact hnl
       have hrw : RewFn m x n g g2 := by
        rw [hg2]
        exact ⟨rfl,rfl,rfl,rfl,rfl,rfl,by rw [HLL.out],hil,fun q i hq => ⟨mv q,by have h1 := hins q i hq; rw [if_pos (List.getElem?_eq_some_iff.1 hq).1] at h1; exact h1⟩,rfl⟩
       have HREL : Hid (RewI (fun k => N ≤ k ∧ k ≤ M4) m x B W6 sA (some ⟨FB,0,none⟩) sC fC (.int .i64 ((n : Int) + 1)) W15) := by
        refine ⟨n + 1,fs.set n g2,hnl,by simp,by rw [List.length_set]; exact HFS.out,hmd15,fun f g' hf hg' => ?_,fun f g' hf hg' => ?_,?_⟩
        ·rw [List.getElem?_set] at hg'
         by_cases e : n = f
         ·subst e
          rw [if_pos rfl,if_pos hnl'] at hg'
          obtain rfl := Option.some.inj hg'
          exact ⟨g,HGG.out,hrw⟩
         ·rw [if_neg e] at hg'
          exact HDONE.out f g' (by omega) hg'
        ·rw [List.getElem?_set,if_neg (by omega)] at hg'
         exact HTODO.out f g' (by omega) hg'
        ·have hw6 := HBW.out.size
         exact (HBW.out.trans (hbq.mono (by omega))).trans (hx15.below (by have := hbq.size; omega) (fun k hk => by rw [hk]; exact hFBB))
       obtain ⟨_,_,_,y18⟩ := HWN.out wr hbq
       have HLG : Hid (∀ q u,GC.toList[q]? = some u → wr.cell? ((⟨N6,0,none⟩ : Addr).add q) = some u) := fun q u hu => by
        rw [Addr.add_lit,Nat.zero_add,cell_of_row _ _ _ _ _ _ hrn]; simpa using hu
       have hgcs : (Try.prog.info? 50).map (·.size) = some GC.size := by rw [HGC.out]; kernel_rfl
       have HGS := Lib.hid hgcs
       have hgsz : GC.size = 8 := by rw [HGC.out]; rfl
       clear hg2 hcells hB1 hmdr hfor hown15 hx15 hmd15 hrw ho hins hrest hrn hbq hxq hil hgcs
       go_wp2_with (refine wpList_load_at rfl 50 _ rfl ⟨N6,0,none⟩ rfl GC _ HLG.out Try.underlying50 rfl HGS.out ?_)
       go_roundw
       case rel => exact HREL.out
       case measure => simp [intOf]; omega
    ·have hnf : n = m.fs.length := by omega
     obtain ⟨_,r2,hbN⟩ := HKW.out wr hbw
     have y0 : wr.cell? ⟨N + 1,0,none⟩ = some (.slice sA m.ss.length sC) := by rw [cell_of_row _ _ _ _ _ _ r2]; rfl
     have y1 : wr.cell? ⟨N + 1,1,none⟩ = some (.slice fA m.fs.length fC) := by rw [cell_of_row _ _ _ _ _ _ r2]; rfl
     have f0 : wr.frozen? ⟨N + 1,0,none⟩ = false := frozen_of_row _ _ _ _ _ r2
     have f1 : wr.frozen? ⟨N + 1,1,none⟩ = false := frozen_of_row _ _ _ _ _ r2
     have n0 : wr.setCell ⟨N + 1,0,none⟩ (.slice sA m.ss.length sC) = wr := setCell_noop r2 rfl
     have n1 : wr.setCell ⟨N + 1,1,none⟩ (.slice fA m.fs.length fC) = wr := setCell_noop r2 rfl
     have HFIN : Hid (RewP m w (.returned (.tuple #[.agg #[.slice sA m.ss.length sC,.slice fA m.fs.length fC],.int .i64 0])) wr) := by
      refine .inr (.inr ⟨HF.out,HCL.out,⟨sA,sC,fA,fC,m.ss,fs⟩,by unfold Mo.cells; rw [hfs],hmd.inn,⟨rfl,hfs,k,HRD.out,fun f g hg => ?_⟩,by rw [HN.out]; exact hbN⟩)
      obtain ⟨g',hg'⟩ : ∃ g',fs[f]? = some g' := ⟨_,List.getElem?_eq_getElem (by rw [hfs]; exact (List.getElem?_eq_some_iff.1 hg).1)⟩
      obtain ⟨g2,h1,h2⟩ := hdone f g' (by rw [hnf]; exact (List.getElem?_eq_some_iff.1 hg).1) hg'
      rw [hg] at h1
      obtain rfl := Option.some.inj h1
      exact ⟨g',hg',by rw [HX.out]; exact h2⟩
     clear hfs hmd hdone htodo hbw hbN r2
     go_wp2
     exact bodyPost_ret (rew_results _ _ _ _ _ _ rfl rfl y0 y1) rfl HFIN.out
end Go.Proofs.Ytlggjbopfnndbaa
