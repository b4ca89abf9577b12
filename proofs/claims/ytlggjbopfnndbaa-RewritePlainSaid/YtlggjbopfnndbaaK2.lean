import Derived.Test.YtlggjbopfnndbaaG22
import Derived.Test.YtlggjbopfnndbaaRegMd
import Derived.Test.YtlggjbopfnndbaaRfH0
import Derived.Test.YtlggjbopfnndbaaK1
import Derived.Test.YtlggjbopfnndbaaG36
import Derived.Test.YtlggjbopfnndbaaG39
import Derived.Test.YtlggjbopfnndbaaG55
namespace Go.Proofs.Ytlggjbopfnndbaa
open Go.RowKit
theorem oper_append_row {P : Program} {w : World} {o : Oper} {a : Act} {Q : Exit → Act → World → Prop} {K : Act → World → Prop} (s x : Operand) (t : TypeId)
  (ho : o.op = .call { callee := .builtin .append,args := #[s,x],argTypes := #[t,t] }) (base : Nat) (e : TypeId) (i : TypeInfo) (z : Value) (size bytes : Nat) (ht : P.underlying t = some (.slice e)) (hi : P.info? e = some i) (hz : i.zero = some z)
  (hsize : i.size = size) (hby : i.bytes = bytes) (hzs : z.cells.size = size) (hsz : 0 < size)
  (v : Value) (n : Nat) (xs : List Value) (hs : a.eval s = v) (hown : w.ownsRow base e size v n xs)
  (ao : Option Addr) (m c : Nat) (news : List Value) (hx : a.eval x = .slice ao m c) (hl : news.length = m * size) (hnone : ao = none → m = 0) (hnews : ∀ ad,ao = some ad → ∀ j u,news[j]? = some u → w.cell? (ad.add j) = some u) (h1 : ∀ u ∈ news,u.oneCell' = true)
  (h63 : n + m ≤ maxLen) (hbytes : (n + m) * bytes ≤ 140737488355328) (hbase : base ≤ w.heap.size)
  (h : ∀ v' w',w'.ownsRow base e size v' (n + m) (xs ++ news) → w.grownBy w' v.ownBlock → (∀ k,v'.ownBlock = some k → v.ownBlock = some k ∨ w.heap.size ≤ k) → K (a.put o.dst v') w') : Oper.wp P o a w K Q := by
 have hrun : ∃ v' w',(Builtin.append_ #[t,t] o.type #[v,.slice ao m c]).run P w = .ok v' w' ∧ w'.ownsRow base e size v' (n + m) (xs ++ news) ∧ w.grownBy w' v.ownBlock ∧ (∀ k,v'.ownBlock = some k → v.ownBlock = some k ∨ w.heap.size ≤ k) := by
  cases ao with
  | none =>
   obtain rfl := hnone rfl
   have hn : news = [] := List.eq_nil_of_length_eq_zero (by omega)
   subst hn
   exact ⟨v,w,run_append_nil w base t o.type e i size ht hi v n xs hown c,by simpa using hown,World.grownBy.refl w _,fun k hk => .inl hk⟩
  | some ad =>
   obtain ⟨v',w',r1,r2,r3,_,r5⟩ := run_append_own_at w base t o.type e i z size bytes ht hi hz hsize hby hzs hsz v n xs hown ad m c news hl (hnews ad rfl) h1 h63 hbytes hbase
   refine ⟨v',w',r1,r2,r3,fun k hk => ?_⟩
   rcases r5 with r5 | r5
   ·exact .inl (by rw [← r5]; exact hk)
   ·right; rw [r5] at hk; simp at hk; omega
 obtain ⟨v',w',r1,r2,r3,r4⟩ := hrun
 unfold Oper.wp
 simp [execOp,ho,resolve,invoke,builtin,hs,hx,r1,Result.andThen]
 exact h _ _ r2 r3 r4
end Go.Proofs.Ytlggjbopfnndbaa
namespace Go.Proofs.Ytlggjbopfnndbaa
open Go.RowKit
def plV (v : Vr) : Vr := { v with cls := 0 }
def plI (i : Ins) : Ins := { i with modeV := .slice none 0 0 }
structure PlFn (g g' : Fn) : Prop where
 nm : g'.c.nm = g.c.nm
 par : g'.c.par = g.c.par
 rp : g'.c.rp = g.c.rp
 rto : g'.c.rto = g.c.rto
 rcl : g'.c.rcl = 0
 vs : g'.vs = g.vs.map plV
 frm : g'.frm = []
 ins : g'.c.ins = g.c.ins.map plI
 mds : g'.mds = g.c.ins.map fun _ => []
structure PlOf (m n : Mo) : Prop where
 ss : n.ss = m.ss
 len : n.fs.length = m.fs.length
 fs : ∀ (f : Nat) (g' : Fn),n.fs[f]? = some g' → ∃ g,m.fs[f]? = some g ∧ PlFn g g'
def PlK (m : Mo) (Z RB : Nat) (W9 : World) (c : Value) (wr : World) : Prop :=
 ∃ (f : Nat) (fs : List Fn) (fA : Option Addr) (fC : Nat),f ≤ m.fs.length ∧ c = .int .i64 (f : Int) ∧ fs.length = f ∧ wr.heap[RB]? = some (.cells #[.slice m.sA m.ss.length m.sC,.slice fA fs.length fC] 25 (0,0)) ∧
  MdM (fun k => k = Z ∨ k = RB) wr (RB + 1) ⟨m.sA,m.sC,fA,fC,m.ss,fs⟩ ∧ (∀ (f : Nat) (g' : Fn),fs[f]? = some g' → ∃ g,m.fs[f]? = some g ∧ PlFn g g') ∧ Below RB W9 wr
def PlJ {α : Type} (cells : α → List Value) (t : TypeId) (sz B : Nat) (W : World) (xs : List α) (v c : Value) (wq : World) : Prop :=
 ∃ (k : Nat) (ao : Option Addr) (cap : Nat),k ≤ xs.length ∧ c = .int .i64 (k : Int) ∧ v = .slice ao k cap ∧ wq.ownsRow B t sz v k ((xs.take k).flatMap cells) ∧ Below B W wq
theorem pl_push {α : Type} {cells : α → List Value} {t : TypeId} {sz B k cap g8 cap8 : Nat} {W wr w13 w8 : World} {xs : List α} {x : α} {ao : Option Addr} {o : Obj} (hx : xs[k]? = some x) (ho : wr.ownsRow B t sz (.slice ao k cap) k ((xs.take k).flatMap cells)) (hb : Below B W wr) (hB : B ≤ W.heap.size)
  (h13 : Below wr.heap.size wr w13) (hown : w8.ownsRow B t sz (.slice (some ⟨g8,0,none⟩) (k + 1) cap8) (k + 1) ((xs.take k).flatMap cells ++ cells x)) (hgr : (w13.alloc o).grownBy w8 (Value.slice ao k cap).ownBlock) :
  PlJ cells t sz B W xs (.slice (some ⟨g8,0,none⟩) (k + 1) cap8) (.int .i64 ((k : Int) + 1)) w8 := by
 have hk : k < xs.length := (List.getElem?_eq_some_iff.1 hx).1
 have hx8 : Ext (fun b => (Value.slice ao k cap).ownBlock = some b) w13 w8 := ext_grown ((Ext.refl _ _).alloc _) hgr
 refine ⟨k + 1,some ⟨g8,0,none⟩,cap8,hk,by simp,rfl,?_,?_⟩
 ·rw [List.take_add_one,hx,List.flatMap_append]
  simpa using hown
 ·have h1 : Below B W w13 := hb.trans (h13.mono (by have := hb.size; omega))
  exact h1.trans (hx8.below (by have := h1.size; omega) (fun b hb' => (ho.lt b hb').1))
theorem plain_results (tmps : Array Value) (w : World) (b : Nat) (u v : Value) (ht : tmps[2]? = some (.pointer (some ⟨b,0,none⟩))) (hc : w.cell? ⟨b,0,none⟩ = some u) (hc2 : w.cell? ⟨b,1,none⟩ = some v) :
  (results Try.f23 tmps).run Try.prog w = .ok (.agg #[u,v]) w := by
 simp [results,go_sem,ht,hc,hc2]
set_option maxRecDepth 100000 in
set_option maxHeartbeats 16000000 in
theorem rPlain_calls (m : Mo) (w : World) (hin : m.inn w) (hf90 : m.fs.length ≤ 90) (hfn : ∀ g ∈ m.fs,g.vs.length ≤ 3000 ∧ g.c.ins.length ≤ 3000) :
  Calls Try.prog 23 #[.agg m.cells] w fun e w' => ∃ n : Mo,e = .returned (.agg n.cells) ∧ n.inn w' ∧ PlOf m n ∧ Below w.heap.size w w' := by
 have HIN := Lib.hid hin
 have HFN := Lib.hid hfn
 obtain ⟨N,hN⟩ : ∃ N,w.heap.size = N := ⟨_,rfl⟩
 have HPOST : Hid (∀ (e : Ending) (w' : World),(∃ n : Mo,e = .returned (.agg n.cells) ∧ n.inn w' ∧ PlOf m n ∧ Below N w w') → ∃ n : Mo,e = .returned (.agg n.cells) ∧ n.inn w' ∧ PlOf m n ∧ Below w.heap.size w w') := fun e w' h => by rw [hN]; exact h
 obtain ⟨W2,hW2⟩ : ∃ W2,(w.alloc (.cells m.cells 25)).alloc (.cells #[.slice none 0 0,.slice none 0 0] 25) = W2 := ⟨_,rfl⟩
 have hb2 : Below N w W2 := by rw [← hW2,← hN]; exact ((Below.refl _ _).alloc (Nat.le_refl _) _).alloc (by simp) _
 have hs2 : W2.heap.size = N + 1 + 1 := by rw [← hW2]; simp [hN]
 have hr1 : W2.heap[N]? = some (.cells m.cells 25 (0,0)) := by rw [← hW2,← hN]; exact heap_alloc2_old _ _ _
 have hr2 : W2.heap[N + 1]? = some (.cells #[.slice none 0 0,.slice none 0 0] 25 (0,0)) := by rw [← hW2,← hN]; exact heap_alloc2_new _ _ _
 obtain ⟨RB,hRB⟩ : ∃ RB,W2.heap.size = RB := ⟨_,rfl⟩
 have HK : Hid (∀ W,Below RB W2 W → W.heap[N]? = some (.cells m.cells 25 (0,0)) ∧ W.heap[N + 1]? = some (.cells #[.slice none 0 0,.slice none 0 0] 25 (0,0)) ∧ Below N w W ∧ m.inn W) := fun W hW => by
  have h1 := hb2.trans (hW.mono (by omega))
  exact ⟨(hW.block N (by omega)).trans hr1,(hW.block (N + 1) (by omega)).trans hr2,h1,hin.below (by rw [hN]; exact h1)⟩
 have c0 : W2.cell? ⟨N,0,none⟩ = some (.slice m.sA m.ss.length m.sC) := by rw [cell_of_row _ _ _ _ _ _ hr1]; rfl
 obtain ⟨W3,hW3⟩ : ∃ W,W2.alloc (.cells #[.slice m.sA m.ss.length m.sC,.slice none 0 0] 25) = W := ⟨_,rfl⟩
 have hb3 : Below RB W2 W3 := by rw [← hW3,← hRB]; exact (Below.refl _ _).alloc (Nat.le_refl _) _
 have hr3 : W3.heap[RB]? = some (.cells #[.slice m.sA m.ss.length m.sC,.slice none 0 0] 25 (0,0)) := by rw [← hW3,← hRB]; exact alloc_at _ _
 have hst : ∀ (c : Array Value),c.size = 2 → (storeCells ⟨RB,0,none⟩ #[.slice m.sA m.ss.length m.sC,.slice none 0 0].toList 0).run Try.prog (W2.alloc (.cells c 25)) = .ok () W3 := fun c hc => by
  rw [← hW3,← hRB]
  exact run_storeCells_new (P := Try.prog) W2 25 c #[.slice m.sA m.ss.length m.sC,.slice none 0 0] (by show _ = some 2; kernel_rfl) hc (by rw [← Array.all_toList]; simp [Value.oneCell'])
 have HM0 : Hid (MdM (fun k => k = N + 1 ∨ k = RB) W3 (RB + 1) ⟨m.sA,m.sC,none,0,m.ss,[]⟩) := by
  refine ⟨by have := (Array.getElem?_eq_some_iff.1 hr3).1; omega,World.ownsRow_nil _ _ _ _,fun w' hx => ?_,hin.ns,by simp⟩
  have q2 : Below N w W3 := hb2.trans (hb3.mono (by omega))
  have q1 : Below N w w' := q2.trans (hx.below (by have := q2.size; omega) (fun k hk => by
   rcases hk with hk | hk | hk
   ·exact absurd hk (by simp [Value.ownBlock])
   ·omega
   ·omega))
  have q3 := hin.below (by rw [hN]; exact q1)
  exact ⟨q3.srow,q3.sin,fun f hf => absurd hf (by simp)⟩
 have HB3 := Lib.hid hb3
 have HR3 := Lib.hid hr3
 have HRB := Lib.hid hRB
 have HS2 := Lib.hid hs2
 have HNN := Lib.hid hN
 have hW2' := hW2
 simp only [Mo.cells] at hW2'
 have HW2 := Lib.hid hW2'
 have HW3 := Lib.hid hW3
 simp only [Mo.cells]
 clear hin hfn hW2 hW2' hb2 hs2 hr1 hr2 hW3 hb3 hr3
 go_enter Try.func23,Try.ntmps23
 go_upto_region 1 with (fail)
 rw [HW2.out]
 go_upto_region 2 with (fail)
 rw [HW3.out]
 clear c0 hst hRB hN HW2 HW3
 have z1 : W3.cell? ⟨N,1,none⟩ = some (.slice m.fA m.fs.length m.fC) := by rw [cell_of_row _ _ _ _ _ _ (HK.out W3 HB3.out).1]; rfl
 go_wp2_with fail
 clear z1
 go_loopw [4] (fun c wr => PlK m (N + 1) RB W2 c wr) (fun c _ => m.fs.length - (intOf c).toNat)
 case atStart => exact ⟨0,[],none,0,Nat.zero_le _,rfl,rfl,HR3.out,HM0.out,fun f g h => (by simp at h),HB3.out⟩
 case round =>
  clear HR3 HM0 HB3
  obtain ⟨f,fs,fA,fC,hf,rfl,hfl,hrb,hmd,hup,hbr⟩ := hrel
  subst hfl
  obtain ⟨t0,tz,hbw,hmw⟩ := HK.out wr hbr
  have x1 : wr.cell? ⟨N,1,none⟩ = some (.slice m.fA m.fs.length m.fC) := by rw [cell_of_row _ _ _ _ _ _ t0]; rfl
  by_cases hfn : fs.length < m.fs.length
  rotate_left
  ·have hfe : fs.length = m.fs.length := by omega
   have y0 : wr.cell? ⟨RB,0,none⟩ = some (.slice m.sA m.ss.length m.sC) := by rw [cell_of_row _ _ _ _ _ _ hrb]; rfl
   have y1 : wr.cell? ⟨RB,1,none⟩ = some (.slice fA fs.length fC) := by rw [cell_of_row _ _ _ _ _ _ hrb]; rfl
   have g0 : wr.cell? ⟨N + 1,0,none⟩ = some (.slice none 0 0) := by rw [cell_of_row _ _ _ _ _ _ tz]; rfl
   have g1 : wr.cell? ⟨N + 1,1,none⟩ = some (.slice none 0 0) := by rw [cell_of_row _ _ _ _ _ _ tz]; rfl
   have f0 : wr.frozen? ⟨N + 1,0,none⟩ = false := frozen_of_row _ _ _ _ _ tz
   have f1 : wr.frozen? ⟨N + 1,1,none⟩ = false := frozen_of_row _ _ _ _ _ tz
   have h1 := heap_setCell_same wr (N + 1) 0 _ _ (.slice m.sA m.ss.length m.sC) tz
   have h2 := heap_setCell_same _ (N + 1) 1 _ _ (.slice fA fs.length fC) h1
   have hx2 : Ext (· = N + 1) wr ((wr.setCell ⟨N + 1,0,none⟩ (.slice m.sA m.ss.length m.sC)).setCell ⟨N + 1,1,none⟩ (.slice fA fs.length fC)) := (Ext.set1 _ _ _ _).trans (Ext.set1 _ _ _ _) (fun _ h => .inl h)
   obtain ⟨W20,hW20⟩ : ∃ W,(wr.setCell ⟨N + 1,0,none⟩ (.slice m.sA m.ss.length m.sC)).setCell ⟨N + 1,1,none⟩ (.slice fA fs.length fC) = W := ⟨_,rfl⟩
   rw [hW20] at h2 hx2
   have HFIN : Hid (∃ n : Mo,Ending.returned (.agg #[.slice m.sA m.ss.length m.sC,.slice fA fs.length fC]) = .returned (.agg n.cells) ∧ n.inn W20 ∧ PlOf m n ∧ Below w.heap.size w W20) := by
    refine HPOST.out _ _ ⟨⟨m.sA,m.sC,fA,fC,m.ss,fs⟩,rfl,?_,⟨rfl,hfe,hup⟩,?_⟩
    ·have hx' : Ext (ownOf fA fs.length fC (fun b => b = N + 1 ∨ b = RB)) wr W20 := hx2.mono fun b hb => .inr (.inl hb)
     obtain ⟨q1,q2,q3⟩ := hmd.rest W20 hx'
     have hrs := HS2.out
     have hrbe := HRB.out
     have q4 := ownsRow_ext hmd.fown hx2 (fun b hb e => by have := (hmd.fown.lt b hb).1; omega)
     exact ⟨q1,rowOf_owns fnLen q4,q2,q3,hmd.ns,hmd.nf⟩
    ·exact hbw.trans (hx2.below (by have := hbw.size; have := HNN.out; omega) (fun b hb => by omega))
   have z0 : W20.cell? ⟨N + 1,0,none⟩ = some (.slice m.sA m.ss.length m.sC) := by rw [cell_of_row _ _ _ _ _ _ h2]; rfl
   have z1 : W20.cell? ⟨N + 1,1,none⟩ = some (.slice fA fs.length fC) := by rw [cell_of_row _ _ _ _ _ _ h2]; rfl
   clear hrb hmd hup hbr h1 h2 hx2 t0 tz hbw hmw HK
   rw [hfe] at y1 z1 hW20 HFIN
   go_wp2
   exact bodyPost_ret (v := .agg #[_,_]) (plain_results _ _ _ _ _ rfl z0 z1) rfl HFIN.out
  have hfI : (fs.length : Int) < (m.fs.length : Int) := by omega
  obtain ⟨g,hg⟩ : ∃ g,m.fs[fs.length]? = some g := ⟨_,List.getElem?_eq_getElem hfn⟩
  have hgm := List.mem_of_getElem? hg
  obtain ⟨p1,p2⟩ := HFN.out g hgm
  have hgi := hmw.fin g hgm
  obtain ⟨nb,no,hnA,hnb,hnc⟩ := hmw.frow (by intro e; rw [e] at hfn; simp at hfn)
  have HCA : Hid (∀ k u,g.cells.toList[k]? = some u → wr.cell? ((⟨nb,no + fs.length * 8,none⟩ : Addr).add k) = some u) := fun k u hu => by rw [Addr.add_lit]; exact hnc _ g hg k u hu
  obtain ⟨N12,hN12⟩ : ∃ N,wr.heap.size = N := ⟨_,rfl⟩
  have hst : ∀ c : Array Value,c.size = 8 → (storeCells ⟨wr.heap.size,0,none⟩ g.cells.toList).run Try.prog (wr.alloc (.cells c 50)) = .ok () (wr.alloc (.cells g.cells 50)) := fun c hc =>
   run_storeCells_new (P := Try.prog) wr 50 c g.cells (by show _ = some 8; kernel_rfl) hc (fnOne g)
  obtain ⟨W12,hW12⟩ : ∃ W,wr.alloc (.cells g.cells 50) = W := ⟨_,rfl⟩
  rw [hW12,hN12] at hst
  have hb12 : Below wr.heap.size wr W12 := by rw [← hW12]; exact (Below.refl _ _).alloc (Nat.le_refl _) _
  have hr12 : W12.heap[N12]? = some (.cells g.cells 50 (0,0)) := by rw [← hW12,← hN12]; exact alloc_at _ _
  have hs12 : W12.heap.size = N12 + 1 := by rw [← hW12]; simp [hN12]
  have HNV : Hid (g.c.nvars = g.vs.length) := hgi.nvars
  have hGC : g.cells = #[.string g.c.nm,.int .i64 g.c.par,.slice g.c.varsA g.vs.length g.c.varsC,.bool g.c.rp,.string g.c.rto,.int .i64 g.c.rcl,.slice g.c.fromA g.c.nfrom g.c.fromC,.slice g.c.insA g.c.ins.length g.c.insC] := by rw [← HNV.out]; rfl
  have hr12' := hr12
  rw [hGC] at hr12'
  have HWO : Hid (∀ W,Below wr.heap.size wr W → m.inn W ∧ Below N w W) := fun W hW => by
   obtain ⟨_,_,h1,h2⟩ := HK.out W (hbr.trans (hW.mono (by have := hbr.size; have := HRB.out; omega)))
   exact ⟨h2,h1⟩
  have HMD := Lib.hid hmd
  have HUP := Lib.hid hup
  have HBR := Lib.hid hbr
  have HRBB := Lib.hid hrb
  have HGG := Lib.hid hg
  have HB12 := Lib.hid hb12
  have HR12 : Hid (∀ W,Below W12.heap.size W12 W → W.heap[N12]? = some (.cells #[.string g.c.nm,.int .i64 g.c.par,.slice g.c.varsA g.vs.length g.c.varsC,.bool g.c.rp,.string g.c.rto,.int .i64 g.c.rcl,.slice g.c.fromA g.c.nfrom g.c.fromC,.slice g.c.insA g.c.ins.length g.c.insC] 50 (0,0))) := fun W hW => (hW.block N12 (by omega)).trans hr12'
  have HS12 := Lib.hid hs12
  have HN12 := Lib.hid hN12
  rw [hnA] at x1
  have e2 : W12.cell? ⟨N12,2,none⟩ = some (.slice g.c.varsA g.vs.length g.c.varsC) := by rw [cell_of_row _ _ _ _ _ _ hr12']; rfl
  clear hnA hnc hmw hgi hGC hr12 hr12' hs12 hb12 hW12 hmd hup hbr hrb hg t0 tz hbw
  go_upto_region 6 with (refine wpList_load_at rfl 50 _ rfl ⟨nb,no + fs.length * 8,none⟩ rfl g.cells _ HCA.out Try.underlying50 rfl (by kernel_rfl) ?_)
  clear hst x1 HCA
  go_wp2_with fail
  clear e2
  obtain ⟨wo,hwo⟩ : ∃ wo : World,wo = wr := ⟨_,rfl⟩
  rw [← hwo] at HWO HMD HBR HRBB HB12 HN12
  clear hwo hnb hN12
  go_loopw [6,7] (fun v c wq => PlJ (fun a : Vr => a.cells.toList) 47 3 (N12 + 1) W12 (g.vs.map plV) v c wq) (fun _ c _ => g.vs.length - (intOf c).toNat)
  case atStart => exact ⟨0,none,0,Nat.zero_le _,rfl,rfl,World.ownsRow_nil _ _ _ _,Below.refl _ _⟩
  case round =>
   obtain ⟨k,ao,cap,hk,rfl,rfl,ho,hbq0⟩ := hrel
   have hbq : Below W12.heap.size W12 wr := by rw [HS12.out]; exact hbq0
   rw [List.length_map] at hk
   have hbo : Below wo.heap.size wo wr := HB12.out.trans (hbq.mono HB12.out.size)
   obtain ⟨hmw,_⟩ := HWO.out wr hbo
   have hgi := hmw.fin g hgm
   have e2 : wr.cell? ⟨N12,2,none⟩ = some (.slice g.c.varsA g.vs.length g.c.varsC) := by rw [cell_of_row _ _ _ _ _ _ (HR12.out wr hbq)]; rfl
   by_cases hkl : k < g.vs.length
   ·have hkI : (k : Int) < (g.vs.length : Int) := by omega
    obtain ⟨v,hv⟩ : ∃ v,g.vs[k]? = some v := ⟨_,List.getElem?_eq_getElem hkl⟩
    obtain ⟨vb,vo,hvA,hvb,hvc⟩ := hgi.vars (by intro e; rw [e] at hkl; simp at hkl)
    have HCB : Hid (∀ q u,#[.bool v.ptr,.string v.tgt].toList[q]? = some u → wr.cell? ((⟨vb,vo + k * 3,none⟩ : Addr).add q) = some u) := fun q u hu => by
     rw [Addr.add_lit]
     exact hvc k v hv q u (by match q,hu with
      | 0,hu => exact hu
      | 1,hu => exact hu)
    have hmv : (g.vs.map plV)[k]? = some (plV v) := by rw [List.getElem?_map,hv]; rfl
    have HSTEP : Hid (∀ (g8 cap8 : Nat) (w8 : World) (o : Obj),w8.ownsRow (N12 + 1) 47 3 (.slice (some ⟨g8,0,none⟩) (k + 1) cap8) (k + 1) (((g.vs.map plV).take k).flatMap (fun a : Vr => a.cells.toList) ++ [.bool v.ptr,.string v.tgt,.int .i64 0]) → (wr.alloc o).grownBy w8 (Value.slice ao k cap).ownBlock → PlJ (fun a : Vr => a.cells.toList) 47 3 (N12 + 1) W12 (g.vs.map plV) (.slice (some ⟨g8,0,none⟩) (k + 1) cap8) (.int .i64 ((k : Int) + 1)) w8) := fun g8 cap8 w8 o h1 h2 =>
     pl_push hmv ho hbq0 (by rw [HS12.out]; exact Nat.le_refl _) (Below.refl _ _) h1 h2
    have HO := Lib.hid ho
    have hlow : N12 + 1 ≤ wr.heap.size := by have := hbq.size; have := HS12.out; omega
    obtain ⟨i0,hi0,hi1,hi2,hi3⟩ := info_parts info_vr
    have hk3 : k ≤ 3000 := by omega
    rw [hvA] at e2
    clear ho hbq hbq0 hbo hmw hgi hv hvA hvb hvc hmv
    go_wp2_with (first
     | (refine wpList_load_at rfl 45 _ rfl ⟨vb,vo + k * 3,none⟩ rfl _ _ HCB.out Try.underlying45 rfl (by kernel_rfl) ?_)
     | (at_builtin; refine wpList_append_lies _ rfl (.tmp 33) (.tmp 41) 43 rfl (N12 + 1) 47 i0 _ 3 32 Try.underlying43 hi0 hi1 hi2 hi3 rfl (by decide) (.slice ao k cap) k (((g.vs.map plV).take k).flatMap (fun a : Vr => a.cells.toList)) rfl (ownsRow_below HO.out ((Below.refl wr.heap.size wr).alloc (Nat.le_refl _) _)) ⟨wr.heap.size,0,none⟩ 1 1 [.bool v.ptr,.string v.tgt,.int .i64 0] rfl rfl (cells_new _ _ _) (by simp [Value.oneCell']) (by decide) (by unfold maxLen; omega) (by omega) (by rw [World.size_alloc]; omega) _ rfl ?_; intro g8 cap8 w8 hown8 hgrow8 hat8 hlt8; have HNX := Lib.hid (HSTEP.out g8 cap8 w8 _ hown8 hgrow8); clear hown8 hgrow8 hat8 hlt8))
    go_roundw
    case rel => exact HNX.out
    case measure => simp [intOf]; omega
   have hke : k = g.vs.length := by omega
   subst hke
   -- behind the variables
   have hvown : wr.ownsRow (N12 + 1) 47 3 (.slice ao g.vs.length cap) g.vs.length ((g.vs.map plV).flatMap (fun a : Vr => a.cells.toList)) := by
    rw [List.take_of_length_le (by rw [List.length_map]; exact Nat.le_refl _)] at ho; exact ho
   obtain ⟨Wv,hWv⟩ : ∃ W : World,W = wr := ⟨_,rfl⟩
   obtain ⟨V,hV⟩ : ∃ z,wr.heap.size = z := ⟨_,rfl⟩
   have HV := Lib.hid hV
   have HVO := Lib.hid hvown
   have HBQ := Lib.hid hbq
   have e7 : wr.cell? ⟨N12,7,none⟩ = some (.slice g.c.insA g.c.ins.length g.c.insC) := by rw [cell_of_row _ _ _ _ _ _ (HR12.out wr hbq)]; rfl
   have hvlow : N12 + 1 ≤ V := by have := hbq.size; have := HS12.out; omega
   clear ho hbq hbq0 hbo hmw hgi hvown
   go_wp2_with fail
   clear e2 e7
   rw [← hWv] at HVO HBQ HV
   clear hV
   go_loopw [8,9] (fun v c wq => PlJ (fun a : Ins => a.cells.toList) 62 13 V Wv (g.c.ins.map plI) v c wq) (fun _ c _ => g.c.ins.length - (intOf c).toNat)
   case atStart => exact ⟨0,none,0,Nat.zero_le _,rfl,rfl,World.ownsRow_nil _ _ _ _,by rw [hWv]; exact Below.refl _ _⟩
   case round =>
    clear hWv
    obtain ⟨k,aoi,capi,hk,rfl,rfl,ho,hbq0⟩ := hrel
    rw [List.length_map] at hk
    have hbv : Below Wv.heap.size Wv wr := by rw [HV.out]; exact hbq0
    have hbq : Below W12.heap.size W12 wr := HBQ.out.trans (hbv.mono HBQ.out.size)
    have hbo : Below wo.heap.size wo wr := HB12.out.trans (hbq.mono HB12.out.size)
    obtain ⟨hmw,hbw⟩ := HWO.out wr hbo
    have hgi := hmw.fin g hgm
    have hr12q := HR12.out wr hbq
    have e7 : wr.cell? ⟨N12,7,none⟩ = some (.slice g.c.insA g.c.ins.length g.c.insC) := by rw [cell_of_row _ _ _ _ _ _ hr12q]; rfl
    by_cases hkl : k < g.c.ins.length
    ·have hkI : (k : Int) < (g.c.ins.length : Int) := by omega
     obtain ⟨i,hi⟩ : ∃ i,g.c.ins[k]? = some i := ⟨_,List.getElem?_eq_getElem hkl⟩
     have him := List.mem_of_getElem? hi
     obtain ⟨ib,io,hiA,hib,hic⟩ := hgi.code.row (by intro e; rw [e] at hkl; simp at hkl)
     have HCB : Hid (∀ q u,i.cells.toList[q]? = some u → wr.cell? ((⟨ib,io + k * 13,none⟩ : Addr).add q) = some u) := fun q u hu => by rw [Addr.add_lit]; exact hic k i hi q u hu
     obtain ⟨N13,hN13⟩ : ∃ z,wr.heap.size = z := ⟨_,rfl⟩
     obtain ⟨⟨⟨a1,c1,e1⟩,a2,n2,c2,e2⟩,_⟩ := hgi.code.args i him
     have hone : i.cells.all (·.oneCell') = true := insOne ⟨by rw [e1]; rfl,by rw [e2]; rfl⟩
     have HONE : Hid (∀ u ∈ [Value.int .i64 i.op,.int .i64 i.d,.int .i64 i.a,.int .i64 i.b,.int .i64 i.f,.int .i64 i.n,.string i.sign,i.argsV,.slice none 0 0,.int .i64 i.to,.int .i64 i.els,.int .i64 i.ln,.int .i64 i.cl],u.oneCell' = true) := by unfold Hid; rw [e1]; simp [Value.oneCell']
     have hst : ∀ c : Array Value,c.size = 13 → (storeCells ⟨wr.heap.size,0,none⟩ i.cells.toList).run Try.prog (wr.alloc (.cells c 62)) = .ok () (wr.alloc (.cells i.cells 62)) := fun c hc =>
      run_storeCells_new (P := Try.prog) wr 62 c i.cells (by show _ = some 13; kernel_rfl) hc hone
     obtain ⟨W13,hW13⟩ : ∃ W,wr.alloc (.cells i.cells 62) = W := ⟨_,rfl⟩
     rw [hW13,hN13] at hst
     have hb13 : Below wr.heap.size wr W13 := by rw [← hW13]; exact (Below.refl _ _).alloc (Nat.le_refl _) _
     have hr13 : W13.heap[N13]? = some (.cells i.cells 62 (0,0)) := by rw [← hW13,← hN13]; exact alloc_at _ _
     have c8 : W13.cell? ⟨N13,8,none⟩ = some i.modeV := by rw [cell_of_row _ _ _ _ _ _ hr13]; rfl
     have f8 : W13.frozen? ⟨N13,8,none⟩ = false := frozen_of_row _ _ _ _ _ hr13
     obtain ⟨W14,hW14⟩ : ∃ W,W13.setCell ⟨N13,8,none⟩ (.slice none 0 0) = W := ⟨_,rfl⟩
     have hx14 : Ext (· = N13) W13 W14 := by rw [← hW14]; exact Ext.set1 _ _ _ _
     have hr14 : W14.heap[N13]? = some (.cells (plI i).cells 62 (0,0)) := by
      have := heap_setCell_same W13 N13 8 _ _ (.slice none 0 0) hr13
      rw [hW14] at this; exact this
     have hbW14 : Below wr.heap.size wr W14 := hb13.trans (hx14.below hb13.size (fun b hb => by rw [hb,hN13]; exact Nat.le_refl _))
     have HLD : Hid (∀ q u,[.int .i64 i.op,.int .i64 i.d,.int .i64 i.a,.int .i64 i.b,.int .i64 i.f,.int .i64 i.n,.string i.sign,i.argsV,.slice none 0 0,.int .i64 i.to,.int .i64 i.els,.int .i64 i.ln,.int .i64 i.cl][q]? = some u → W14.cell? ((⟨N13,0,none⟩ : Addr).add q) = some u) := fun q u hu => by
      rw [Addr.add_lit,Nat.zero_add,cell_of_row _ _ _ _ _ _ hr14,← Array.getElem?_toList]; exact hu
     have hmi : (g.c.ins.map plI)[k]? = some (plI i) := by rw [List.getElem?_map,hi]; rfl
     have HSTEP : Hid (∀ (g8 cap8 : Nat) (w8 : World) (o : Obj),w8.ownsRow V 62 13 (.slice (some ⟨g8,0,none⟩) (k + 1) cap8) (k + 1) (((g.c.ins.map plI).take k).flatMap (fun a : Ins => a.cells.toList) ++ [.int .i64 i.op,.int .i64 i.d,.int .i64 i.a,.int .i64 i.b,.int .i64 i.f,.int .i64 i.n,.string i.sign,i.argsV,.slice none 0 0,.int .i64 i.to,.int .i64 i.els,.int .i64 i.ln,.int .i64 i.cl]) → (W14.alloc o).grownBy w8 (Value.slice aoi k capi).ownBlock → PlJ (fun a : Ins => a.cells.toList) 62 13 V Wv (g.c.ins.map plI) (.slice (some ⟨g8,0,none⟩) (k + 1) cap8) (.int .i64 ((k : Int) + 1)) w8) := fun g8 cap8 w8 o h1 h2 =>
      pl_push hmi ho hbq0 (by rw [HV.out]; exact Nat.le_refl _) hbW14 h1 h2
     have HO : Hid (W14.ownsRow V 62 13 (.slice aoi k capi) k (((g.c.ins.map plI).take k).flatMap (fun a : Ins => a.cells.toList))) := ownsRow_below ho hbW14
     have hlow : V ≤ W14.heap.size := by have := hbW14.size; have := hbv.size; have := HV.out; omega
     have HW14 := Lib.hid hW14
     have HW13 := Lib.hid hW13
     obtain ⟨i0,hi0,hi1,hi2,hi3⟩ := info_parts info_ins
     have hk3 : k ≤ 3000 := by omega
     rw [hiA] at e7
     clear ho hbq hbq0 hbv hbo hmw hbw hgi hi him hiA hib hic hone e1 e2 hW13 hb13 hr13 hW14 hx14 hr14 hbW14 hmi hr12q
     go_upto_region 16 with (refine wpList_load_at rfl 62 _ rfl ⟨ib,io + k * 13,none⟩ rfl i.cells _ HCB.out Try.underlying62 rfl (by kernel_rfl) ?_)
     clear hst e7 hN13
     go_upto_region 17 with (fail)
     rw [HW14.out]
     clear c8 f8
     go_wp2_with (first
      | (refine wpList_load_at rfl 62 _ rfl ⟨N13,0,none⟩ rfl _ _ HLD.out Try.underlying62 rfl (by kernel_rfl) ?_)
      | (at_builtin; refine wpList_append_lies _ rfl (.tmp 56) (.tmp 58) 48 rfl V 62 i0 _ 13 144 Try.underlying48 hi0 hi1 hi2 hi3 rfl (by decide) (.slice aoi k capi) k (((g.c.ins.map plI).take k).flatMap (fun a : Ins => a.cells.toList)) rfl (ownsRow_below HO.out ((Below.refl W14.heap.size W14).alloc (Nat.le_refl _) _)) ⟨W14.heap.size,0,none⟩ 1 1 [.int .i64 i.op,.int .i64 i.d,.int .i64 i.a,.int .i64 i.b,.int .i64 i.f,.int .i64 i.n,.string i.sign,i.argsV,.slice none 0 0,.int .i64 i.to,.int .i64 i.els,.int .i64 i.ln,.int .i64 i.cl] rfl rfl (cells_new _ _ _) HONE.out (by decide) (by unfold maxLen; omega) (by omega) (by rw [World.size_alloc]; omega) _ rfl ?_; intro g8 cap8 w8 hown8 hgrow8 hat8 hlt8; have HNX := Lib.hid (HSTEP.out g8 cap8 w8 _ hown8 hgrow8); clear hown8 hgrow8 hat8 hlt8))
     go_roundw
     case rel => exact HNX.out
     case measure => simp [intOf]; omega
    have hke : k = g.c.ins.length := by omega
    subst hke
    have hiown : wr.ownsRow V 62 13 (.slice aoi g.c.ins.length capi) g.c.ins.length ((g.c.ins.map plI).flatMap (fun a : Ins => a.cells.toList)) := by
     rw [List.take_of_length_le (by rw [List.length_map]; exact Nat.le_refl _)] at ho; exact ho
    have hvq : wr.ownsRow (N12 + 1) 47 3 (.slice ao g.vs.length cap) g.vs.length ((g.vs.map plV).flatMap (fun a : Vr => a.cells.toList)) := ownsRow_below HVO.out hbv
    have hrs := HS12.out
    have hN12o := HN12.out
    have k2 : wr.cell? ⟨N12,2,none⟩ = some (.slice g.c.varsA g.vs.length g.c.varsC) := by rw [cell_of_row _ _ _ _ _ _ hr12q]; rfl
    have f2 : wr.frozen? ⟨N12,2,none⟩ = false := frozen_of_row _ _ _ _ _ hr12q
    obtain ⟨Wa,hWa⟩ : ∃ W,wr.setCell ⟨N12,2,none⟩ (.slice ao g.vs.length cap) = W := ⟨_,rfl⟩
    have hra : Wa.heap[N12]? = some (.cells #[.string g.c.nm,.int .i64 g.c.par,.slice ao g.vs.length cap,.bool g.c.rp,.string g.c.rto,.int .i64 g.c.rcl,.slice g.c.fromA g.c.nfrom g.c.fromC,.slice g.c.insA g.c.ins.length g.c.insC] 50 (0,0)) := by
     have := heap_setCell_same wr N12 2 _ _ (.slice ao g.vs.length cap) hr12q
     rw [hWa] at this; exact this
    have k5 : Wa.cell? ⟨N12,5,none⟩ = some (.int .i64 g.c.rcl) := by rw [cell_of_row _ _ _ _ _ _ hra]; rfl
    have f5 : Wa.frozen? ⟨N12,5,none⟩ = false := frozen_of_row _ _ _ _ _ hra
    obtain ⟨Wb,hWb⟩ : ∃ W,Wa.setCell ⟨N12,5,none⟩ (.int .i64 0) = W := ⟨_,rfl⟩
    have hrb : Wb.heap[N12]? = some (.cells #[.string g.c.nm,.int .i64 g.c.par,.slice ao g.vs.length cap,.bool g.c.rp,.string g.c.rto,.int .i64 0,.slice g.c.fromA g.c.nfrom g.c.fromC,.slice g.c.insA g.c.ins.length g.c.insC] 50 (0,0)) := by
     have := heap_setCell_same Wa N12 5 _ _ (.int .i64 0) hra
     rw [hWb] at this; exact this
    have k6 : Wb.cell? ⟨N12,6,none⟩ = some (.slice g.c.fromA g.c.nfrom g.c.fromC) := by rw [cell_of_row _ _ _ _ _ _ hrb]; rfl
    have f6 : Wb.frozen? ⟨N12,6,none⟩ = false := frozen_of_row _ _ _ _ _ hrb
    obtain ⟨Wc,hWc⟩ : ∃ W,Wb.setCell ⟨N12,6,none⟩ (.slice none 0 0) = W := ⟨_,rfl⟩
    have hrc : Wc.heap[N12]? = some (.cells #[.string g.c.nm,.int .i64 g.c.par,.slice ao g.vs.length cap,.bool g.c.rp,.string g.c.rto,.int .i64 0,.slice none 0 0,.slice g.c.insA g.c.ins.length g.c.insC] 50 (0,0)) := by
     have := heap_setCell_same Wb N12 6 _ _ (.slice none 0 0) hrb
     rw [hWc] at this; exact this
    have k7 : Wc.cell? ⟨N12,7,none⟩ = some (.slice g.c.insA g.c.ins.length g.c.insC) := by rw [cell_of_row _ _ _ _ _ _ hrc]; rfl
    have f7 : Wc.frozen? ⟨N12,7,none⟩ = false := frozen_of_row _ _ _ _ _ hrc
    obtain ⟨Wd,hWd⟩ : ∃ W,Wc.setCell ⟨N12,7,none⟩ (.slice aoi g.c.ins.length capi) = W := ⟨_,rfl⟩
    obtain ⟨g2,hg2⟩ : ∃ g2 : Fn,g2 = ⟨{ g.c with varsA := ao,nvars := g.vs.length,varsC := cap,rcl := 0,fromA := none,nfrom := 0,fromC := 0,insA := aoi,insC := capi,ins := g.c.ins.map plI },g.vs.map plV,[],g.c.ins.map fun _ => []⟩ := ⟨_,rfl⟩
    have hcells : g2.cells = #[.string g.c.nm,.int .i64 g.c.par,.slice ao g.vs.length cap,.bool g.c.rp,.string g.c.rto,.int .i64 0,.slice none 0 0,.slice aoi g.c.ins.length capi] := by rw [hg2]; simp [Fn.cells,Cod.cells]
    have hrd : Wd.heap[N12]? = some (.cells g2.cells 50 (0,0)) := by
     have := heap_setCell_same Wc N12 7 _ _ (.slice aoi g.c.ins.length capi) hrc
     rw [hWd] at this
     rw [this,hcells]; rfl
    have hx15 : Ext (· = N12) wr Wd := by
     rw [← hWd,← hWc,← hWb,← hWa]
     exact (((Ext.set1 _ _ _ _).trans (Ext.set1 _ _ _ _) (fun _ h => .inl h)).trans (Ext.set1 _ _ _ _) (fun _ h => .inl h)).trans (Ext.set1 _ _ _ _) (fun _ h => .inl h)
    have hs15 : Wd.heap.size = wr.heap.size := by rw [← hWd,← hWc,← hWb,← hWa]; simp
    have hbo15 : Below wo.heap.size wo Wd := hbo.trans (hx15.below hbo.size (fun b hb => by omega))
    have hRBo : RB + 1 ≤ wo.heap.size := HMD.out.low
    have hb915 : Below RB W2 Wd := HBR.out.trans (hbo15.mono (by omega))
    have hmd15 := HMD.out.below hbo15
    have hrb15 : Wd.heap[RB]? = some (.cells #[.slice m.sA m.ss.length m.sC,.slice fA fs.length fC] 25 (0,0)) := (hbo15.block RB (by omega)).trans HRBB.out
    have hw915 : Below N w Wd := (HK.out Wd hb915).2.2.1
    have hNN := HNN.out
    have hRBe := HRB.out
    have hS2e := HS2.out
    have hVV := HV.out
    have HGI : Hid (∀ w',Ext (fun b => ownOf fA fs.length fC (fun b => b = N + 1 ∨ b = RB) b ∨ Wd.heap.size ≤ b) Wd w' → g2.inn w') := by
     intro w' hx
     have hM : ∀ b,(ownOf fA fs.length fC (fun b => b = N + 1 ∨ b = RB) b ∨ Wd.heap.size ≤ b) → b < N12 ∧ N ≤ b ∨ Wd.heap.size ≤ b := by
      rintro b ((hb | hb | hb) | hb)
      ·have := HMD.out.fown.lt b hb; omega
      ·omega
      ·omega
      ·exact .inr hb
     have hx2 := hx.mono hM
     have hgi2 : g.inn w' := by
      have h1 : Below N w w' := hw915.trans (hx2.below (by have := hw915.size; omega) (fun b hb => by have := hw915.size; omega))
      exact (HIN.out.below (by rw [HNN.out]; exact h1)).fin g hgm
     have hx3 : Ext (fun b => b = N12 ∨ (b < N12 ∧ N ≤ b ∨ Wd.heap.size ≤ b)) wr w' := (hx15.mono (M' := fun b => b = N12 ∨ (b < N12 ∧ N ≤ b ∨ Wd.heap.size ≤ b)) (fun _ h => .inl h)).trans hx2 (fun b hb => .inl (.inr hb))
     have hrowI : RowOf Ins.cells 13 w' w'.heap.size aoi (g.c.ins.map plI) := by
      have h1 := ownsRow_ext hiown hx3 (fun b hb h => by have := hiown.lt b hb; omega)
      exact rowOf_owns (xs := g.c.ins.map plI) (e := 62) (base := V) (cap := capi) insLen (by rw [List.length_map]; exact h1)
     have hrowV : RowOf Vr.cells 3 w' w'.heap.size ao (g.vs.map plV) := by
      have h1 := ownsRow_ext hvq hx3 (fun b hb h => by have := hvq.lt b hb; omega)
      exact rowOf_owns (xs := g.vs.map plV) (e := 47) (base := N12 + 1) (cap := cap) vrLen (by rw [List.length_map]; exact h1)
     have hvl : g.vs.length ≤ maxLen := by unfold maxLen; omega
     rw [hg2]
     refine ⟨⟨hrowI,fun y hy => ?_,by simpa using hgi2.code.len,⟨g.vs.map plV,by simp,hrowV⟩,hvl,by simp,⟨[],rfl,fun h => absurd rfl h⟩⟩,hgi2.nm,by simp,hrowV,rfl,fun h => absurd rfl h,by simp,fun q y l hy hl => ?_⟩
     ·obtain ⟨i,hi,rfl⟩ := List.mem_map.1 hy
      obtain ⟨⟨z1,_⟩,z3⟩ := hgi2.code.args i hi
      exact ⟨⟨z1,none,0,0,rfl⟩,z3⟩
     ·have hy' : (g.c.ins.map plI)[q]? = some y := hy
      have hl' : (g.c.ins.map fun _ => ([] : List Int))[q]? = some l := hl
      rw [List.getElem?_map] at hy' hl'
      cases hiq : g.c.ins[q]? with
      | none => rw [hiq] at hy'; cases hy'
      | some i =>
       rw [hiq] at hy' hl'
       obtain rfl := Option.some.inj hy'
       obtain rfl := Option.some.inj hl'
       exact ⟨none,0,rfl,fun h => absurd rfl h⟩
    have hpl : PlFn g g2 := by
     rw [hg2]; exact ⟨rfl,rfl,rfl,rfl,rfl,rfl,rfl,rfl,rfl⟩
    have HUP2 : Hid (∀ (f : Nat) (g' : Fn),(fs ++ [g2])[f]? = some g' → ∃ g,m.fs[f]? = some g ∧ PlFn g g') := by
     intro f q hq
     rcases Nat.lt_or_ge f fs.length with hlt | hge
     ·rw [List.getElem?_append_left hlt] at hq
      exact HUP.out f q hq
     ·have hfe : f = fs.length := by
       have := (List.getElem?_eq_some_iff.1 hq).1
       rw [List.length_append] at this; simp at this; omega
      subst hfe
      rw [List.getElem?_append_right (Nat.le_refl _),Nat.sub_self] at hq
      have e : g2 = q := by simpa using hq
      rw [← e]
      exact ⟨g,HGG.out,hpl⟩
    have b1 : Wd.cell? ⟨RB,1,none⟩ = some (.slice fA fs.length fC) := by rw [cell_of_row _ _ _ _ _ _ hrb15]; rfl
    have HLD : Hid (∀ k u,g2.cells.toList[k]? = some u → Wd.cell? ((⟨N12,0,none⟩ : Addr).add k) = some u) := fun k u hu => by
     rw [Addr.add_lit,Nat.zero_add,cell_of_row _ _ _ _ _ _ hrd]; simpa using hu
    have HCL8 := Lib.hid hcells
    rw [HCL8.out] at HLD
    have HMD15 := Lib.hid hmd15
    have HSTEP : Hid (∀ (g8 cap8 : Nat) (w8 : World) (o : Obj),w8.ownsRow (RB + 1) 50 8 (.slice (some ⟨g8,0,none⟩) (fs.length + 1) cap8) (fs.length + 1) ((fs.flatMap fun g => g.cells.toList) ++ #[.string g.c.nm,.int .i64 g.c.par,.slice ao g.vs.length cap,.bool g.c.rp,.string g.c.rto,.int .i64 0,.slice none 0 0,.slice aoi g.c.ins.length capi].toList) →
      (Wd.alloc o).grownBy w8 (Value.slice fA fs.length fC).ownBlock → ((Value.slice fA fs.length fC).ownBlock = some g8 ∨ g8 = (Wd.alloc o).heap.size) →
      (w8.cell? ⟨RB,1,none⟩ = some (.slice fA fs.length fC) ∧ w8.frozen? ⟨RB,1,none⟩ = false) ∧ PlK m (N + 1) RB W2 (.int .i64 ((fs.length : Int) + 1)) (w8.setCell ⟨RB,1,none⟩ (.slice (some ⟨g8,0,none⟩) (fs.length + 1) cap8))) := by
     intro g8 cap8 w8 o ho8 hgr hat
     have hx8 : Ext (fun b => (Value.slice fA fs.length fC).ownBlock = some b) Wd w8 := ext_grown ((Ext.refl _ _).alloc _) hgr
     have hrb8 := hx8.heap hrb15 (fun hb => by have := (hmd15.fown.lt RB hb).1; omega)
     have hx9 : Ext (· = RB) w8 (w8.setCell ⟨RB,1,none⟩ (.slice (some ⟨g8,0,none⟩) (fs.length + 1) cap8)) := Ext.set1 _ _ _ _
     refine ⟨⟨by rw [cell_of_row _ _ _ _ _ _ hrb8]; rfl,frozen_of_row _ _ _ _ _ hrb8⟩,fs.length + 1,fs ++ [g2],some ⟨g8,0,none⟩,cap8,hfn,by simp,by simp,?_,?_,HUP2.out,?_⟩
     ·rw [List.length_append]
      exact heap_setCell_same w8 RB 1 _ _ (.slice (some ⟨g8,0,none⟩) (fs.length + 1) cap8) hrb8
     ·exact MdM.push hmd15 (fun b hb => by omega) (Below.refl _ _) (by rw [HCL8.out]; exact ho8) hgr hat (hx9.mono fun b hb => .inr hb) (by unfold maxLen; omega) HGI.out
     ·exact hb915.trans (((hx8.mono (M' := fun b => RB ≤ b) (fun b hb => by have := (hmd15.fown.lt b hb).1; omega)).trans hx9 (fun b hb => .inl (by rw [hb]; exact Nat.le_refl _))).below (by have := hb915.size; omega) (fun b hb => hb))
    have HWa := Lib.hid hWa
    have HWb := Lib.hid hWb
    have HWc := Lib.hid hWc
    have HWd := Lib.hid hWd
    have hfs60 : fs.length ≤ 90 := by omega
    clear hg2 hcells hWa hWb hWc hWd hra hrb hrc hrd hx15 hs15 hr12q hbo hbo15 hb915 hmd15 hrb15 hw915 hpl ho hbq hbq0 hbv hgi hmw hbw hiown hvq hrs hN12o hNN hRBe hS2e hVV
    obtain ⟨i0,hi0,hi1,hi2,hi3⟩ := info_parts info_cod
    go_upto_region 19 with (fail)
    rw [HWa.out]
    clear k2 f2 e7
    go_upto_region 20 with (fail)
    rw [HWb.out]
    clear k5 f5
    go_upto_region 21 with (fail)
    rw [HWc.out]
    clear k6 f6
    go_upto_region 22 with (fail)
    rw [HWd.out]
    clear k7 f7
    go_wp2_with (first
     | (refine wpList_load_at rfl 50 _ rfl ⟨N12,0,none⟩ rfl _ _ HLD.out Try.underlying50 rfl (by kernel_rfl) ?_)
     | (at_builtin; refine wpList_append_lies _ rfl (.tmp 68) (.tmp 70) 23 rfl (RB + 1) 50 i0 _ 8 128 Try.underlying23 hi0 hi1 hi2 hi3 rfl (by decide) (.slice fA fs.length fC) fs.length (fs.flatMap fun g => g.cells.toList) rfl (ownsRow_below HMD15.out.fown ((Below.refl Wd.heap.size Wd).alloc (Nat.le_refl _) _)) ⟨Wd.heap.size,0,none⟩ 1 1 [.string g.c.nm,.int .i64 g.c.par,.slice ao g.vs.length cap,.bool g.c.rp,.string g.c.rto,.int .i64 0,.slice none 0 0,.slice aoi g.c.ins.length capi] rfl rfl (cells_new _ _ _) (by simp [Value.oneCell']) (by decide) (by unfold maxLen; omega) (by omega) (by have := HMD15.out.low; rw [World.size_alloc]; exact Nat.le_succ_of_le this) _ rfl ?_; intro g8 cap8 w8 hown8 hgrow8 hat8 hlt8; obtain ⟨⟨u1,u2⟩,hnx⟩ := HSTEP.out g8 cap8 w8 _ hown8 hgrow8 hat8; have HNX := Lib.hid hnx; clear hown8 hgrow8 hat8 hlt8 hnx))
    go_roundw
    case rel => exact HNX.out
    case measure => simp [intOf]; omega
end Go.Proofs.Ytlggjbopfnndbaa
namespace Go.Proofs.Ytlggjbopfnndbaa
open Go.RowKit
def ofTy (g : Fn) (i : Ins) : List Ty :=
 if i.op = 9 ∨ i.op = 10 then [tyAt g.vs i.d]
 else if i.op = 18 then (if g.c.rp = true then [g.ret] else [])
 else if i.op = 15 then i.args.map (tyAt g.vs)
 else []
structure Ins.modeOk (g : Fn) (i : Ins) (ml : List Int) : Prop where
 len : ml.length = (ofTy g i).length
 cls : ∀ (k : Nat) (t : Ty) (c : Int),(ofTy g i)[k]? = some t → ml[k]? = some c → okC ⟨t.1,t.2,c⟩ = true
 dv : i.op = 9 ∨ i.op = 10 → ∃ k : Nat,i.d = (k : Int) ∧ k < g.vs.length
 av : i.op = 15 → ∀ a ∈ i.args,∃ k : Nat,a = (k : Int) ∧ k < g.vs.length
 short : i.args.length ≤ 3000
def tyC (t : Ty) : List Value := [.bool t.1,.string t.2]
theorem tyLen (t : Ty) : (tyC t).length = 2 := rfl
theorem info_ty : (Try.prog.info? 45).map (fun i => (i.zero,i.size,i.bytes)) = some (some (.agg #[.bool false,.string ⟨#[]⟩]),2,24) := by kernel_rfl
structure MdX (w W2 : World) (N : Nat) (g : Fn) (i : Ins) (ml : List Int) : Prop where
 low : Below N w W2
 size : W2.heap.size = N + 1 + 1
 fn : W2.heap[N]? = some (.cells g.cells 50 (0,0))
 ins : W2.heap[N + 1]? = some (.cells i.cells 62 (0,0))
 inn : g.inn W2
 md : ∃ ao cap,i.modeV = .slice ao ml.length cap ∧ IntRow W2 ao ml
set_option maxRecDepth 100000 in
set_option maxHeartbeats 8000000 in
theorem moded20_none (g : Fn) (i : Ins) (w : World) (hg : g.inn w) (hi : i ∈ g.c.ins) (ml : List Int) (hmd : ∃ ao cap,i.modeV = .slice ao ml.length cap ∧ IntRow w ao ml) (ho : i.modeOk g ml) (h9 : i.op ≠ 9) (h10 : i.op ≠ 10) (h15 : i.op ≠ 15) (h18 : i.op ≠ 18) :
  Calls Try.prog 56 #[.agg g.cells,.agg i.cells] w fun e w' => e = .returned (.bool true) ∧ Below w.heap.size w w' := by
 obtain ⟨ma,mc,em,hmr⟩ := hmd
 obtain ⟨⟨⟨a1,c1,e1⟩,a2,n2,c2,e2⟩,a3,c3,e3,har⟩ := hg.code.args i hi
 obtain ⟨N,hN⟩ : ∃ N,w.heap.size = N := ⟨_,rfl⟩
 obtain ⟨W2,hW2⟩ : ∃ W2,(w.alloc (.cells g.cells 50)).alloc (.cells i.cells 62) = W2 := ⟨_,rfl⟩
 have hb2 : Below N w W2 := by rw [← hW2,← hN]; exact ((Below.refl _ _).alloc (Nat.le_refl _) _).alloc (by simp) _
 have hs2 : W2.heap.size = N + 1 + 1 := by rw [← hW2]; simp [hN]
 have hr0 : W2.heap[N]? = some (.cells g.cells 50 (0,0)) := by rw [← hW2,← hN]; exact heap_alloc2_old _ _ _
 have hr1 : W2.heap[N + 1]? = some (.cells i.cells 62 (0,0)) := by rw [← hW2,← hN]; exact heap_alloc2_new _ _ _
 have hg2 := hg.below (by rw [hN]; exact hb2)
 have hm2 : IntRow W2 ma ml := RowOf.grow hmr (by rw [hN]; exact hb2)
 obtain ⟨nm,hnm⟩ : ∃ z,ml.length = z := ⟨_,rfl⟩
 obtain ⟨TL,hTL⟩ : ∃ T,ofTy g i = T := ⟨_,rfl⟩
 have hlen := ho.len
 rw [hTL] at hlen
 have HCLS := Lib.hid ho.cls
 rw [hTL] at HCLS
 have HTL := Lib.hid hTL
 have HNM := Lib.hid hnm
 have HLEN : Hid (TL.length = nm) := by unfold Hid; omega
 have HFN : Hid (∀ W,Below W2.heap.size W2 W → W.heap[N]? = some (.cells #[.string g.c.nm,.int .i64 g.c.par,.slice g.c.varsA g.vs.length g.c.varsC,.bool g.c.rp,.string g.c.rto,.int .i64 g.c.rcl,.slice g.c.fromA g.c.nfrom g.c.fromC,.slice g.c.insA g.c.ins.length g.c.insC] 50 (0,0)) ∧ g.inn W ∧ Below N w W) := fun W hW => by
  refine ⟨?_,hg2.below hW,hb2.trans (hW.mono (by omega))⟩
  rw [hW.block N (by omega),hr0,← hg.nvars]; rfl
 have HIN : Hid (∀ W,Below W2.heap.size W2 W → W.heap[N + 1]? = some (.cells #[.int .i64 i.op,.int .i64 i.d,.int .i64 i.a,.int .i64 i.b,.int .i64 i.f,.int .i64 i.n,.string i.sign,.slice a3 i.args.length c3,.slice ma nm mc,.int .i64 i.to,.int .i64 i.els,.int .i64 i.ln,.int .i64 i.cl] 62 (0,0)) ∧ IntRow W ma ml ∧ IntRow W a3 i.args) := fun W hW => by
  refine ⟨?_,RowOf.grow hm2 hW,RowOf.grow (RowOf.grow har (by rw [hN]; exact hb2)) hW⟩
  rw [hW.block (N + 1) (by omega),hr1,← hnm,← em,← e3]; rfl
 have hCC : ∀ (v : Vr) (W : World),Calls Try.prog 54 #[.agg v.cells] W fun e w' => e = .returned (.bool (okC v)) ∧ Below W.heap.size W w' := fun v W => classed20_calls v W
 simp only [Vr.cells] at hCC
 have HCC := Lib.hid hCC
 have HS2 := Lib.hid hs2
 obtain ⟨q0,_,_⟩ := HFN.out W2 (Below.refl _ _)
 obtain ⟨q1,_,_⟩ := HIN.out W2 (Below.refl _ _)
 have i0 : W2.cell? ⟨N + 1,0,none⟩ = some (.int .i64 i.op) := by rw [cell_of_row _ _ _ _ _ _ q1]; rfl
 obtain ⟨o,hop⟩ : ∃ o,i.op = o := ⟨_,rfl⟩
 have d9 : (o == 9) = false := by rw [beq_eq_false_iff_ne]; omega
 have d10 : (o == 10) = false := by rw [beq_eq_false_iff_ne]; omega
 have d15 : (o == 15) = false := by rw [beq_eq_false_iff_ne]; omega
 have d18 : (o == 18) = false := by rw [beq_eq_false_iff_ne]; omega
 rw [hop] at i0
 have HE : Hid (ofTy g i = []) := by unfold Hid ofTy; rw [if_neg (by omega),if_neg (by omega),if_neg (by omega)]
 clear hop h9 h10 h15 h18
 have hW2' := hW2
 simp only [Fn.cells,Cod.cells,Ins.cells] at hW2'
 have HW2 := Lib.hid hW2'
 have HO := Lib.hid ho
 have HNN := Lib.hid hN
 simp only [Fn.cells,Cod.cells,Ins.cells]
 rw [hN]
 clear hg hmr har hW2 hW2' hb2 hs2 hr0 hr1 hg2 hm2 hnm hTL hlen hCC q0 q1 em e1 e2 e3 ho
 obtain ⟨t0,ht0,ht1,ht2,ht3⟩ := info_parts info_ty
 go_enter Try.func56,Try.ntmps56
 go_upto_region 1 with (fail)
 rw [HW2.out]
 clear hN HW2
 have HROW : Hid (W2.ownsRow (N + 1 + 1) 45 2 (.slice none 0 0) 0 (TL.flatMap tyC)) := by
  have e : TL = [] := by rw [← HTL.out]; exact HE.out
  rw [e]; exact World.ownsRow_nil _ _ _ _
 have hnm0 : nm = 0 := by
  have e : TL = [] := by rw [← HTL.out]; exact HE.out
  have := HLEN.out; rw [e] at this; simp at this; omega
 subst hnm0
 obtain ⟨q1,hmr,_⟩ := HIN.out W2 (Below.refl _ _)
 have m8 : W2.cell? ⟨N + 1,8,none⟩ = some (.slice ma 0 mc) := by rw [cell_of_row _ _ _ _ _ _ q1]; rfl
 have HEND : Hid (Below N w W2) := (HFN.out W2 (Below.refl _ _)).2.2
 clear q1 hmr
 go_wp2_with fail
 clear m8
 go_loopw [7] (fun c wr => c = .int .i64 0 ∧ wr = W2) (fun _ _ => 0)
 case atStart => exact ⟨rfl,rfl⟩
 case round =>
  obtain ⟨rfl,rfl⟩ := hrel
  go_wp2
  go_ret
  exact ⟨rfl,HEND.out⟩
set_option maxRecDepth 100000 in
set_option maxHeartbeats 8000000 in
theorem moded20_18n (g : Fn) (i : Ins) (w : World) (hg : g.inn w) (hi : i ∈ g.c.ins) (ml : List Int) (hmd : ∃ ao cap,i.modeV = .slice ao ml.length cap ∧ IntRow w ao ml) (ho : i.modeOk g ml) (hop : i.op = 18) (hrp : g.c.rp = false) :
  Calls Try.prog 56 #[.agg g.cells,.agg i.cells] w fun e w' => e = .returned (.bool true) ∧ Below w.heap.size w w' := by
 obtain ⟨ma,mc,em,hmr⟩ := hmd
 obtain ⟨⟨⟨a1,c1,e1⟩,a2,n2,c2,e2⟩,a3,c3,e3,har⟩ := hg.code.args i hi
 obtain ⟨N,hN⟩ : ∃ N,w.heap.size = N := ⟨_,rfl⟩
 obtain ⟨W2,hW2⟩ : ∃ W2,(w.alloc (.cells g.cells 50)).alloc (.cells i.cells 62) = W2 := ⟨_,rfl⟩
 have hb2 : Below N w W2 := by rw [← hW2,← hN]; exact ((Below.refl _ _).alloc (Nat.le_refl _) _).alloc (by simp) _
 have hs2 : W2.heap.size = N + 1 + 1 := by rw [← hW2]; simp [hN]
 have hr0 : W2.heap[N]? = some (.cells g.cells 50 (0,0)) := by rw [← hW2,← hN]; exact heap_alloc2_old _ _ _
 have hr1 : W2.heap[N + 1]? = some (.cells i.cells 62 (0,0)) := by rw [← hW2,← hN]; exact heap_alloc2_new _ _ _
 have hg2 := hg.below (by rw [hN]; exact hb2)
 have hm2 : IntRow W2 ma ml := RowOf.grow hmr (by rw [hN]; exact hb2)
 obtain ⟨nm,hnm⟩ : ∃ z,ml.length = z := ⟨_,rfl⟩
 obtain ⟨TL,hTL⟩ : ∃ T,ofTy g i = T := ⟨_,rfl⟩
 have hlen := ho.len
 rw [hTL] at hlen
 have HCLS := Lib.hid ho.cls
 rw [hTL] at HCLS
 have HTL := Lib.hid hTL
 have HNM := Lib.hid hnm
 have HLEN : Hid (TL.length = nm) := by unfold Hid; omega
 have HFN : Hid (∀ W,Below W2.heap.size W2 W → W.heap[N]? = some (.cells #[.string g.c.nm,.int .i64 g.c.par,.slice g.c.varsA g.vs.length g.c.varsC,.bool g.c.rp,.string g.c.rto,.int .i64 g.c.rcl,.slice g.c.fromA g.c.nfrom g.c.fromC,.slice g.c.insA g.c.ins.length g.c.insC] 50 (0,0)) ∧ g.inn W ∧ Below N w W) := fun W hW => by
  refine ⟨?_,hg2.below hW,hb2.trans (hW.mono (by omega))⟩
  rw [hW.block N (by omega),hr0,← hg.nvars]; rfl
 have HIN : Hid (∀ W,Below W2.heap.size W2 W → W.heap[N + 1]? = some (.cells #[.int .i64 i.op,.int .i64 i.d,.int .i64 i.a,.int .i64 i.b,.int .i64 i.f,.int .i64 i.n,.string i.sign,.slice a3 i.args.length c3,.slice ma nm mc,.int .i64 i.to,.int .i64 i.els,.int .i64 i.ln,.int .i64 i.cl] 62 (0,0)) ∧ IntRow W ma ml ∧ IntRow W a3 i.args) := fun W hW => by
  refine ⟨?_,RowOf.grow hm2 hW,RowOf.grow (RowOf.grow har (by rw [hN]; exact hb2)) hW⟩
  rw [hW.block (N + 1) (by omega),hr1,← hnm,← em,← e3]; rfl
 have hCC : ∀ (v : Vr) (W : World),Calls Try.prog 54 #[.agg v.cells] W fun e w' => e = .returned (.bool (okC v)) ∧ Below W.heap.size W w' := fun v W => classed20_calls v W
 simp only [Vr.cells] at hCC
 have HCC := Lib.hid hCC
 have HS2 := Lib.hid hs2
 obtain ⟨q0,_,_⟩ := HFN.out W2 (Below.refl _ _)
 obtain ⟨q1,_,_⟩ := HIN.out W2 (Below.refl _ _)
 have i0 : W2.cell? ⟨N + 1,0,none⟩ = some (.int .i64 18) := by rw [cell_of_row _ _ _ _ _ _ q1,← hop]; rfl
 have k3 : W2.cell? ⟨N,3,none⟩ = some (.bool false) := by rw [cell_of_row _ _ _ _ _ _ q0,← hrp]; rfl
 have HE : Hid (ofTy g i = []) := by unfold Hid ofTy; rw [if_neg (by omega),if_pos hop,if_neg (by rw [hrp]; simp)]
 clear hop hrp
 have hW2' := hW2
 simp only [Fn.cells,Cod.cells,Ins.cells] at hW2'
 have HW2 := Lib.hid hW2'
 have HO := Lib.hid ho
 have HNN := Lib.hid hN
 simp only [Fn.cells,Cod.cells,Ins.cells]
 rw [hN]
 clear hg hmr har hW2 hW2' hb2 hs2 hr0 hr1 hg2 hm2 hnm hTL hlen hCC q0 q1 em e1 e2 e3 ho
 obtain ⟨t0,ht0,ht1,ht2,ht3⟩ := info_parts info_ty
 go_enter Try.func56,Try.ntmps56
 go_upto_region 1 with (fail)
 rw [HW2.out]
 clear hN HW2
 have HROW : Hid (W2.ownsRow (N + 1 + 1) 45 2 (.slice none 0 0) 0 (TL.flatMap tyC)) := by
  have e : TL = [] := by rw [← HTL.out]; exact HE.out
  rw [e]; exact World.ownsRow_nil _ _ _ _
 have hnm0 : nm = 0 := by
  have e : TL = [] := by rw [← HTL.out]; exact HE.out
  have := HLEN.out; rw [e] at this; simp at this; omega
 subst hnm0
 obtain ⟨q1,hmr,_⟩ := HIN.out W2 (Below.refl _ _)
 have m8 : W2.cell? ⟨N + 1,8,none⟩ = some (.slice ma 0 mc) := by rw [cell_of_row _ _ _ _ _ _ q1]; rfl
 have HEND : Hid (Below N w W2) := (HFN.out W2 (Below.refl _ _)).2.2
 clear q1 hmr
 go_wp2_with fail
 clear m8
 go_loopw [7] (fun c wr => c = .int .i64 0 ∧ wr = W2) (fun _ _ => 0)
 case atStart => exact ⟨rfl,rfl⟩
 case round =>
  obtain ⟨rfl,rfl⟩ := hrel
  go_wp2
  go_ret
  exact ⟨rfl,HEND.out⟩
set_option maxRecDepth 100000 in
set_option maxHeartbeats 8000000 in
theorem moded20_9 (g : Fn) (i : Ins) (w : World) (hg : g.inn w) (hi : i ∈ g.c.ins) (ml : List Int) (hmd : ∃ ao cap,i.modeV = .slice ao ml.length cap ∧ IntRow w ao ml) (ho : i.modeOk g ml) (hop : i.op = 9) :
  Calls Try.prog 56 #[.agg g.cells,.agg i.cells] w fun e w' => e = .returned (.bool true) ∧ Below w.heap.size w w' := by
 obtain ⟨ma,mc,em,hmr⟩ := hmd
 obtain ⟨⟨⟨a1,c1,e1⟩,a2,n2,c2,e2⟩,a3,c3,e3,har⟩ := hg.code.args i hi
 obtain ⟨N,hN⟩ : ∃ N,w.heap.size = N := ⟨_,rfl⟩
 obtain ⟨W2,hW2⟩ : ∃ W2,(w.alloc (.cells g.cells 50)).alloc (.cells i.cells 62) = W2 := ⟨_,rfl⟩
 have hb2 : Below N w W2 := by rw [← hW2,← hN]; exact ((Below.refl _ _).alloc (Nat.le_refl _) _).alloc (by simp) _
 have hs2 : W2.heap.size = N + 1 + 1 := by rw [← hW2]; simp [hN]
 have hr0 : W2.heap[N]? = some (.cells g.cells 50 (0,0)) := by rw [← hW2,← hN]; exact heap_alloc2_old _ _ _
 have hr1 : W2.heap[N + 1]? = some (.cells i.cells 62 (0,0)) := by rw [← hW2,← hN]; exact heap_alloc2_new _ _ _
 have hg2 := hg.below (by rw [hN]; exact hb2)
 have hm2 : IntRow W2 ma ml := RowOf.grow hmr (by rw [hN]; exact hb2)
 obtain ⟨nm,hnm⟩ : ∃ z,ml.length = z := ⟨_,rfl⟩
 obtain ⟨TL,hTL⟩ : ∃ T,ofTy g i = T := ⟨_,rfl⟩
 have hlen := ho.len
 rw [hTL] at hlen
 have HCLS := Lib.hid ho.cls
 rw [hTL] at HCLS
 have HTL := Lib.hid hTL
 have HNM := Lib.hid hnm
 have HLEN : Hid (TL.length = nm) := by unfold Hid; omega
 have HFN : Hid (∀ W,Below W2.heap.size W2 W → W.heap[N]? = some (.cells #[.string g.c.nm,.int .i64 g.c.par,.slice g.c.varsA g.vs.length g.c.varsC,.bool g.c.rp,.string g.c.rto,.int .i64 g.c.rcl,.slice g.c.fromA g.c.nfrom g.c.fromC,.slice g.c.insA g.c.ins.length g.c.insC] 50 (0,0)) ∧ g.inn W ∧ Below N w W) := fun W hW => by
  refine ⟨?_,hg2.below hW,hb2.trans (hW.mono (by omega))⟩
  rw [hW.block N (by omega),hr0,← hg.nvars]; rfl
 have HIN : Hid (∀ W,Below W2.heap.size W2 W → W.heap[N + 1]? = some (.cells #[.int .i64 i.op,.int .i64 i.d,.int .i64 i.a,.int .i64 i.b,.int .i64 i.f,.int .i64 i.n,.string i.sign,.slice a3 i.args.length c3,.slice ma nm mc,.int .i64 i.to,.int .i64 i.els,.int .i64 i.ln,.int .i64 i.cl] 62 (0,0)) ∧ IntRow W ma ml ∧ IntRow W a3 i.args) := fun W hW => by
  refine ⟨?_,RowOf.grow hm2 hW,RowOf.grow (RowOf.grow har (by rw [hN]; exact hb2)) hW⟩
  rw [hW.block (N + 1) (by omega),hr1,← hnm,← em,← e3]; rfl
 have hCC : ∀ (v : Vr) (W : World),Calls Try.prog 54 #[.agg v.cells] W fun e w' => e = .returned (.bool (okC v)) ∧ Below W.heap.size W w' := fun v W => classed20_calls v W
 simp only [Vr.cells] at hCC
 have HCC := Lib.hid hCC
 have HS2 := Lib.hid hs2
 obtain ⟨q0,_,_⟩ := HFN.out W2 (Below.refl _ _)
 obtain ⟨q1,_,_⟩ := HIN.out W2 (Below.refl _ _)
 have i0 : W2.cell? ⟨N + 1,0,none⟩ = some (.int .i64 9) := by rw [cell_of_row _ _ _ _ _ _ q1,← hop]; rfl
 obtain ⟨d,hd,hdl⟩ := ho.dv (by omega)
 obtain ⟨v,hv⟩ : ∃ v,g.vs[d]? = some v := ⟨_,List.getElem?_eq_getElem hdl⟩
 obtain ⟨vb,vo,hvA,_,hvc⟩ := hg2.vars (by intro e; rw [e] at hv; simp at hv)
 obtain ⟨ty,hty⟩ : ∃ t : Ty,t = (v.ptr,v.tgt) := ⟨_,rfl⟩
 have HTE : Hid (ofTy g i = [ty]) := by
  unfold Hid ofTy
  rw [if_pos (by omega),hd,hty]
  unfold tyAt
  rw [Int.toNat_natCast,hv]; rfl
 have k2 : W2.cell? ⟨N,2,none⟩ = some (.slice (some ⟨vb,vo,none⟩) g.vs.length g.c.varsC) := by rw [cell_of_row _ _ _ _ _ _ q0,← hvA]; rfl
 have i1 : W2.cell? ⟨N + 1,1,none⟩ = some (.int .i64 (d : Int)) := by rw [cell_of_row _ _ _ _ _ _ q1,← hd]; rfl
 have hdI : (d : Int) < (g.vs.length : Int) := by omega
 have HTY : Hid (∀ k u,#[.bool ty.1,.string ty.2].toList[k]? = some u → W2.cell? ((⟨vb,vo + d * 3,none⟩ : Addr).add k) = some u) := fun k u hu => by
  rw [Addr.add_lit]
  exact hvc d v hv k u (by rw [hty] at hu; match k,hu with
   | 0,hu => exact hu
   | 1,hu => exact hu)
 clear hop hd hv hvA hvc hty
 have hW2' := hW2
 simp only [Fn.cells,Cod.cells,Ins.cells] at hW2'
 have HW2 := Lib.hid hW2'
 have HO := Lib.hid ho
 have HNN := Lib.hid hN
 simp only [Fn.cells,Cod.cells,Ins.cells]
 rw [hN]
 clear hg hmr har hW2 hW2' hb2 hs2 hr0 hr1 hg2 hm2 hnm hTL hlen hCC q0 q1 em e1 e2 e3 ho
 obtain ⟨t0,ht0,ht1,ht2,ht3⟩ := info_parts info_ty
 go_enter Try.func56,Try.ntmps56
 go_upto_region 1 with (fail)
 rw [HW2.out]
 clear hN HW2
 have hnm1 : nm = 1 := by have := HLEN.out; rw [← HTL.out,HTE.out] at this; simpa using this.symm
 subst hnm1
 obtain ⟨B,hB⟩ : ∃ z,W2.heap.size = z := ⟨_,rfl⟩
 have HB := Lib.hid hB
 have HM8 : Hid (∀ W,Below W2.heap.size W2 W → W.cell? ⟨N + 1,8,none⟩ = some (.slice ma 1 mc)) := fun W hW => by rw [cell_of_row _ _ _ _ _ _ (HIN.out W hW).1]; rfl
 have HTL2 : Hid (TL.flatMap tyC = [.bool ty.1,.string ty.2]) := by unfold Hid; rw [← HTL.out,HTE.out]; rfl
 have hnm3 : 1 ≤ 3000 := by omega
 have hnn : ((1 : Int) != (1 : Int)) = false := rfl
 clear hB
 go_wp2_with (first
  | (refine wpList_load_at rfl 45 _ rfl ⟨vb,vo + d * 3,none⟩ rfl _ _ HTY.out Try.underlying45 rfl (by kernel_rfl) ?_)
  | (at_builtin; refine wpList_append_lies _ rfl (.tmp 13) (.tmp 21) 120 rfl W2.heap.size 45 t0 _ 2 24 Try.underlying120 ht0 ht1 ht2 ht3 rfl (by decide) (.slice none 0 0) 0 [] rfl (World.ownsRow_nil _ _ _ _) ⟨W2.heap.size,0,none⟩ 1 1 [.bool ty.1,.string ty.2] rfl rfl (cells_new _ _ _) (by simp [Value.oneCell']) (by decide) (by unfold maxLen; omega) (by omega) (by rw [World.size_alloc]; omega) _ rfl ?_; intro g8 cap8 w8 hown8 hgrow8 hat8 hlt8; have HBW : Hid (Below W2.heap.size W2 w8) := (ext_grown (v := .slice none 0 0) ((Ext.refl _ _).alloc _) hgrow8).below (Nat.le_refl _) (fun k hk => by simp [Value.ownBlock] at hk); have m8 := HM8.out w8 HBW.out; have HROW : Hid (w8.ownsRow W2.heap.size 45 2 (.slice (some ⟨g8,0,none⟩) 1 cap8) 1 (TL.flatMap tyC)) := (by unfold Hid; rw [HTL2.out]; exact hown8); clear hown8 hgrow8 hat8 hlt8))
 clear m8
 go_loopw [7] (fun c wr => ∃ k : Nat,k ≤ 1 ∧ c = .int .i64 (k : Int) ∧ Below (w8).heap.size w8 wr) (fun c _ => 1 - (intOf c).toNat)
 case atStart => exact ⟨0,Nat.zero_le _,rfl,Below.refl _ _⟩
 case round =>
  obtain ⟨k,hk,rfl,hbr⟩ := hrel
  have HB2r : Hid (Below W2.heap.size W2 wr) := HBW.out.trans (hbr.mono HBW.out.size)
  by_cases hkl : k < 1
  rotate_left
  ·have HEND : Hid (Below N w wr) := (HFN.out wr HB2r.out).2.2
   have hke : k = 1 := by omega
   subst hke
   clear hbr
   go_wp2
   go_ret
   exact ⟨rfl,HEND.out⟩
  have hkI : (k : Int) < (1 : Int) := by omega
  obtain ⟨t,ht⟩ : ∃ t,TL[k]? = some t := ⟨_,List.getElem?_eq_getElem (by rw [HLEN.out]; exact hkl)⟩
  obtain ⟨c,hc⟩ : ∃ c,ml[k]? = some c := ⟨_,List.getElem?_eq_getElem (by rw [HNM.out]; exact hkl)⟩
  obtain ⟨b,hbe,_,_⟩ := ownsRow_get HROW.out (j := k * 2) (u := .bool t.1) (by have := flat_get tyLen ht 0 (by decide); rw [Nat.add_zero] at this; rw [this]; rfl)
  first
   | subst hbe
   | (simp only [Option.some.injEq,Addr.mk.injEq,and_true] at hbe; have hbe := hbe.symm; subst hbe)
  have HTC : Hid (∀ (p : BW wr) (j : Nat) (u : Value),#[.bool t.1,.string t.2].toList[j]? = some u → p.w.cell? ((⟨b,k * 2,none⟩ : Addr).add j) = some u) := fun p j u hu => owns_load (f := tyC) tyLen (ownsRow_below HROW.out (hbr.trans (p.h.mono hbr.size))) ht j u hu
  have HM : Hid (∀ p : BW wr,∃ mb mo,ma = some ⟨mb,mo,none⟩ ∧ p.w.cell? ⟨N + 1,8,none⟩ = some (.slice ma 1 mc) ∧ p.w.cell? ⟨mb,mo + k,none⟩ = some (.int .i64 c)) := fun p => by
   obtain ⟨z1,z2,_⟩ := HIN.out p.w (HB2r.out.trans (p.h.mono HB2r.out.size))
   obtain ⟨mb,mo,z3,_,z4⟩ := z2 (by intro e; rw [e] at hc; simp at hc)
   refine ⟨mb,mo,z3,by rw [cell_of_row _ _ _ _ _ _ z1]; rfl,?_⟩
   have := z4 k c hc 0 _ rfl
   simpa using this
  obtain ⟨mb,mo,hma,_,_⟩ := HM.out ⟨wr,Below.refl _ _⟩
  have k8 : ∀ p : BW wr,p.w.cell? ⟨N + 1,8,none⟩ = some (.slice (some ⟨mb,mo,none⟩) 1 mc) := fun p => by
   obtain ⟨x1,x2,x3,x4,_⟩ := HM.out p
   rw [← hma]; exact x4
  have kc : ∀ p : BW wr,p.w.cell? ⟨mb,mo + k,none⟩ = some (.int .i64 c) := fun p => by
   obtain ⟨x1,x2,x3,_,x5⟩ := HM.out p
   rw [hma] at x3
   simp only [Option.some.injEq,Addr.mk.injEq,and_true] at x3
   rw [x3.1,x3.2]; exact x5
  have HCL : Hid (∀ W : World,Calls Try.prog 54 #[.agg #[.bool t.1,.string t.2,.int .i64 c]] W fun e w' => e = .returned (.bool true) ∧ Below W.heap.size W w') := fun W => by
   have := HCC.out ⟨t.1,t.2,c⟩ W
   rw [HCLS.out k t c ht hc] at this
   exact this
  have HBR := Lib.hid hbr
  have HNX : Hid (∀ p : BW wr,∃ k' : Nat,k' ≤ 1 ∧ Value.int .i64 ((k : Int) + 1) = .int .i64 (k' : Int) ∧ Below (w8).heap.size w8 p.w) := fun p => ⟨k + 1,hkl,by simp,HBR.out.trans (p.h.mono HBR.out.size)⟩
  clear hbr ht hc hma
  go_wp2_with fail
  refine wp_region_quiet_bw (by kernel_rfl) (by kernel_rfl) ?_
  repeat (first
   | (go_big_quiet_want; (refine quiet_load_bw 45 _ rfl ⟨b,k * 2,none⟩ rfl _ _ HTC.out Try.underlying45 rfl (by kernel_rfl) ?_); (simp only [Act.put,List.setIfInBounds_toArray,List.set_cons_zero,List.set_cons_succ]); go_big_quiet_on)
   | (go_big_quiet_step ((go_at_call 54; exact bw_of (HCL.out _)))))
  refine wpQuiet_nil ?_
  rintro _ ⟨p,rfl⟩
  clear k8 kc
  go_wp2
  go_roundw
  case rel => exact HNX.out p
  case measure => simp [intOf]; omega
set_option maxRecDepth 100000 in
set_option maxHeartbeats 8000000 in
theorem moded20_10 (g : Fn) (i : Ins) (w : World) (hg : g.inn w) (hi : i ∈ g.c.ins) (ml : List Int) (hmd : ∃ ao cap,i.modeV = .slice ao ml.length cap ∧ IntRow w ao ml) (ho : i.modeOk g ml) (hop : i.op = 10) :
  Calls Try.prog 56 #[.agg g.cells,.agg i.cells] w fun e w' => e = .returned (.bool true) ∧ Below w.heap.size w w' := by
 obtain ⟨ma,mc,em,hmr⟩ := hmd
 obtain ⟨⟨⟨a1,c1,e1⟩,a2,n2,c2,e2⟩,a3,c3,e3,har⟩ := hg.code.args i hi
 obtain ⟨N,hN⟩ : ∃ N,w.heap.size = N := ⟨_,rfl⟩
 obtain ⟨W2,hW2⟩ : ∃ W2,(w.alloc (.cells g.cells 50)).alloc (.cells i.cells 62) = W2 := ⟨_,rfl⟩
 have hb2 : Below N w W2 := by rw [← hW2,← hN]; exact ((Below.refl _ _).alloc (Nat.le_refl _) _).alloc (by simp) _
 have hs2 : W2.heap.size = N + 1 + 1 := by rw [← hW2]; simp [hN]
 have hr0 : W2.heap[N]? = some (.cells g.cells 50 (0,0)) := by rw [← hW2,← hN]; exact heap_alloc2_old _ _ _
 have hr1 : W2.heap[N + 1]? = some (.cells i.cells 62 (0,0)) := by rw [← hW2,← hN]; exact heap_alloc2_new _ _ _
 have hg2 := hg.below (by rw [hN]; exact hb2)
 have hm2 : IntRow W2 ma ml := RowOf.grow hmr (by rw [hN]; exact hb2)
 obtain ⟨nm,hnm⟩ : ∃ z,ml.length = z := ⟨_,rfl⟩
 obtain ⟨TL,hTL⟩ : ∃ T,ofTy g i = T := ⟨_,rfl⟩
 have hlen := ho.len
 rw [hTL] at hlen
 have HCLS := Lib.hid ho.cls
 rw [hTL] at HCLS
 have HTL := Lib.hid hTL
 have HNM := Lib.hid hnm
 have HLEN : Hid (TL.length = nm) := by unfold Hid; omega
 have HFN : Hid (∀ W,Below W2.heap.size W2 W → W.heap[N]? = some (.cells #[.string g.c.nm,.int .i64 g.c.par,.slice g.c.varsA g.vs.length g.c.varsC,.bool g.c.rp,.string g.c.rto,.int .i64 g.c.rcl,.slice g.c.fromA g.c.nfrom g.c.fromC,.slice g.c.insA g.c.ins.length g.c.insC] 50 (0,0)) ∧ g.inn W ∧ Below N w W) := fun W hW => by
  refine ⟨?_,hg2.below hW,hb2.trans (hW.mono (by omega))⟩
  rw [hW.block N (by omega),hr0,← hg.nvars]; rfl
 have HIN : Hid (∀ W,Below W2.heap.size W2 W → W.heap[N + 1]? = some (.cells #[.int .i64 i.op,.int .i64 i.d,.int .i64 i.a,.int .i64 i.b,.int .i64 i.f,.int .i64 i.n,.string i.sign,.slice a3 i.args.length c3,.slice ma nm mc,.int .i64 i.to,.int .i64 i.els,.int .i64 i.ln,.int .i64 i.cl] 62 (0,0)) ∧ IntRow W ma ml ∧ IntRow W a3 i.args) := fun W hW => by
  refine ⟨?_,RowOf.grow hm2 hW,RowOf.grow (RowOf.grow har (by rw [hN]; exact hb2)) hW⟩
  rw [hW.block (N + 1) (by omega),hr1,← hnm,← em,← e3]; rfl
 have hCC : ∀ (v : Vr) (W : World),Calls Try.prog 54 #[.agg v.cells] W fun e w' => e = .returned (.bool (okC v)) ∧ Below W.heap.size W w' := fun v W => classed20_calls v W
 simp only [Vr.cells] at hCC
 have HCC := Lib.hid hCC
 have HS2 := Lib.hid hs2
 obtain ⟨q0,_,_⟩ := HFN.out W2 (Below.refl _ _)
 obtain ⟨q1,_,_⟩ := HIN.out W2 (Below.refl _ _)
 have i0 : W2.cell? ⟨N + 1,0,none⟩ = some (.int .i64 10) := by rw [cell_of_row _ _ _ _ _ _ q1,← hop]; rfl
 obtain ⟨d,hd,hdl⟩ := ho.dv (by omega)
 obtain ⟨v,hv⟩ : ∃ v,g.vs[d]? = some v := ⟨_,List.getElem?_eq_getElem hdl⟩
 obtain ⟨vb,vo,hvA,_,hvc⟩ := hg2.vars (by intro e; rw [e] at hv; simp at hv)
 obtain ⟨ty,hty⟩ : ∃ t : Ty,t = (v.ptr,v.tgt) := ⟨_,rfl⟩
 have HTE : Hid (ofTy g i = [ty]) := by
  unfold Hid ofTy
  rw [if_pos (by omega),hd,hty]
  unfold tyAt
  rw [Int.toNat_natCast,hv]; rfl
 have k2 : W2.cell? ⟨N,2,none⟩ = some (.slice (some ⟨vb,vo,none⟩) g.vs.length g.c.varsC) := by rw [cell_of_row _ _ _ _ _ _ q0,← hvA]; rfl
 have i1 : W2.cell? ⟨N + 1,1,none⟩ = some (.int .i64 (d : Int)) := by rw [cell_of_row _ _ _ _ _ _ q1,← hd]; rfl
 have hdI : (d : Int) < (g.vs.length : Int) := by omega
 have HTY : Hid (∀ k u,#[.bool ty.1,.string ty.2].toList[k]? = some u → W2.cell? ((⟨vb,vo + d * 3,none⟩ : Addr).add k) = some u) := fun k u hu => by
  rw [Addr.add_lit]
  exact hvc d v hv k u (by rw [hty] at hu; match k,hu with
   | 0,hu => exact hu
   | 1,hu => exact hu)
 clear hop hd hv hvA hvc hty
 have hW2' := hW2
 simp only [Fn.cells,Cod.cells,Ins.cells] at hW2'
 have HW2 := Lib.hid hW2'
 have HO := Lib.hid ho
 have HNN := Lib.hid hN
 simp only [Fn.cells,Cod.cells,Ins.cells]
 rw [hN]
 clear hg hmr har hW2 hW2' hb2 hs2 hr0 hr1 hg2 hm2 hnm hTL hlen hCC q0 q1 em e1 e2 e3 ho
 obtain ⟨t0,ht0,ht1,ht2,ht3⟩ := info_parts info_ty
 go_enter Try.func56,Try.ntmps56
 go_upto_region 1 with (fail)
 rw [HW2.out]
 clear hN HW2
 have hnm1 : nm = 1 := by have := HLEN.out; rw [← HTL.out,HTE.out] at this; simpa using this.symm
 subst hnm1
 obtain ⟨B,hB⟩ : ∃ z,W2.heap.size = z := ⟨_,rfl⟩
 have HB := Lib.hid hB
 have HM8 : Hid (∀ W,Below W2.heap.size W2 W → W.cell? ⟨N + 1,8,none⟩ = some (.slice ma 1 mc)) := fun W hW => by rw [cell_of_row _ _ _ _ _ _ (HIN.out W hW).1]; rfl
 have HTL2 : Hid (TL.flatMap tyC = [.bool ty.1,.string ty.2]) := by unfold Hid; rw [← HTL.out,HTE.out]; rfl
 have hnm3 : 1 ≤ 3000 := by omega
 have hnn : ((1 : Int) != (1 : Int)) = false := rfl
 clear hB
 go_wp2_with (first
  | (refine wpList_load_at rfl 45 _ rfl ⟨vb,vo + d * 3,none⟩ rfl _ _ HTY.out Try.underlying45 rfl (by kernel_rfl) ?_)
  | (at_builtin; refine wpList_append_lies _ rfl (.tmp 13) (.tmp 21) 120 rfl W2.heap.size 45 t0 _ 2 24 Try.underlying120 ht0 ht1 ht2 ht3 rfl (by decide) (.slice none 0 0) 0 [] rfl (World.ownsRow_nil _ _ _ _) ⟨W2.heap.size,0,none⟩ 1 1 [.bool ty.1,.string ty.2] rfl rfl (cells_new _ _ _) (by simp [Value.oneCell']) (by decide) (by unfold maxLen; omega) (by omega) (by rw [World.size_alloc]; omega) _ rfl ?_; intro g8 cap8 w8 hown8 hgrow8 hat8 hlt8; have HBW : Hid (Below W2.heap.size W2 w8) := (ext_grown (v := .slice none 0 0) ((Ext.refl _ _).alloc _) hgrow8).below (Nat.le_refl _) (fun k hk => by simp [Value.ownBlock] at hk); have m8 := HM8.out w8 HBW.out; have HROW : Hid (w8.ownsRow W2.heap.size 45 2 (.slice (some ⟨g8,0,none⟩) 1 cap8) 1 (TL.flatMap tyC)) := (by unfold Hid; rw [HTL2.out]; exact hown8); clear hown8 hgrow8 hat8 hlt8))
 clear m8
 go_loopw [7] (fun c wr => ∃ k : Nat,k ≤ 1 ∧ c = .int .i64 (k : Int) ∧ Below (w8).heap.size w8 wr) (fun c _ => 1 - (intOf c).toNat)
 case atStart => exact ⟨0,Nat.zero_le _,rfl,Below.refl _ _⟩
 case round =>
  obtain ⟨k,hk,rfl,hbr⟩ := hrel
  have HB2r : Hid (Below W2.heap.size W2 wr) := HBW.out.trans (hbr.mono HBW.out.size)
  by_cases hkl : k < 1
  rotate_left
  ·have HEND : Hid (Below N w wr) := (HFN.out wr HB2r.out).2.2
   have hke : k = 1 := by omega
   subst hke
   clear hbr
   go_wp2
   go_ret
   exact ⟨rfl,HEND.out⟩
  have hkI : (k : Int) < (1 : Int) := by omega
  obtain ⟨t,ht⟩ : ∃ t,TL[k]? = some t := ⟨_,List.getElem?_eq_getElem (by rw [HLEN.out]; exact hkl)⟩
  obtain ⟨c,hc⟩ : ∃ c,ml[k]? = some c := ⟨_,List.getElem?_eq_getElem (by rw [HNM.out]; exact hkl)⟩
  obtain ⟨b,hbe,_,_⟩ := ownsRow_get HROW.out (j := k * 2) (u := .bool t.1) (by have := flat_get tyLen ht 0 (by decide); rw [Nat.add_zero] at this; rw [this]; rfl)
  first
   | subst hbe
   | (simp only [Option.some.injEq,Addr.mk.injEq,and_true] at hbe; have hbe := hbe.symm; subst hbe)
  have HTC : Hid (∀ (p : BW wr) (j : Nat) (u : Value),#[.bool t.1,.string t.2].toList[j]? = some u → p.w.cell? ((⟨b,k * 2,none⟩ : Addr).add j) = some u) := fun p j u hu => owns_load (f := tyC) tyLen (ownsRow_below HROW.out (hbr.trans (p.h.mono hbr.size))) ht j u hu
  have HM : Hid (∀ p : BW wr,∃ mb mo,ma = some ⟨mb,mo,none⟩ ∧ p.w.cell? ⟨N + 1,8,none⟩ = some (.slice ma 1 mc) ∧ p.w.cell? ⟨mb,mo + k,none⟩ = some (.int .i64 c)) := fun p => by
   obtain ⟨z1,z2,_⟩ := HIN.out p.w (HB2r.out.trans (p.h.mono HB2r.out.size))
   obtain ⟨mb,mo,z3,_,z4⟩ := z2 (by intro e; rw [e] at hc; simp at hc)
   refine ⟨mb,mo,z3,by rw [cell_of_row _ _ _ _ _ _ z1]; rfl,?_⟩
   have := z4 k c hc 0 _ rfl
   simpa using this
  obtain ⟨mb,mo,hma,_,_⟩ := HM.out ⟨wr,Below.refl _ _⟩
  have k8 : ∀ p : BW wr,p.w.cell? ⟨N + 1,8,none⟩ = some (.slice (some ⟨mb,mo,none⟩) 1 mc) := fun p => by
   obtain ⟨x1,x2,x3,x4,_⟩ := HM.out p
   rw [← hma]; exact x4
  have kc : ∀ p : BW wr,p.w.cell? ⟨mb,mo + k,none⟩ = some (.int .i64 c) := fun p => by
   obtain ⟨x1,x2,x3,_,x5⟩ := HM.out p
   rw [hma] at x3
   simp only [Option.some.injEq,Addr.mk.injEq,and_true] at x3
   rw [x3.1,x3.2]; exact x5
  have HCL : Hid (∀ W : World,Calls Try.prog 54 #[.agg #[.bool t.1,.string t.2,.int .i64 c]] W fun e w' => e = .returned (.bool true) ∧ Below W.heap.size W w') := fun W => by
   have := HCC.out ⟨t.1,t.2,c⟩ W
   rw [HCLS.out k t c ht hc] at this
   exact this
  have HBR := Lib.hid hbr
  have HNX : Hid (∀ p : BW wr,∃ k' : Nat,k' ≤ 1 ∧ Value.int .i64 ((k : Int) + 1) = .int .i64 (k' : Int) ∧ Below (w8).heap.size w8 p.w) := fun p => ⟨k + 1,hkl,by simp,HBR.out.trans (p.h.mono HBR.out.size)⟩
  clear hbr ht hc hma
  go_wp2_with fail
  refine wp_region_quiet_bw (by kernel_rfl) (by kernel_rfl) ?_
  repeat (first
   | (go_big_quiet_want; (refine quiet_load_bw 45 _ rfl ⟨b,k * 2,none⟩ rfl _ _ HTC.out Try.underlying45 rfl (by kernel_rfl) ?_); (simp only [Act.put,List.setIfInBounds_toArray,List.set_cons_zero,List.set_cons_succ]); go_big_quiet_on)
   | (go_big_quiet_step ((go_at_call 54; exact bw_of (HCL.out _)))))
  refine wpQuiet_nil ?_
  rintro _ ⟨p,rfl⟩
  clear k8 kc
  go_wp2
  go_roundw
  case rel => exact HNX.out p
  case measure => simp [intOf]; omega
set_option maxRecDepth 100000 in
set_option maxHeartbeats 8000000 in
theorem moded20_18p (g : Fn) (i : Ins) (w : World) (hg : g.inn w) (hi : i ∈ g.c.ins) (ml : List Int) (hmd : ∃ ao cap,i.modeV = .slice ao ml.length cap ∧ IntRow w ao ml) (ho : i.modeOk g ml) (hop : i.op = 18) (hrp : g.c.rp = true) :
  Calls Try.prog 56 #[.agg g.cells,.agg i.cells] w fun e w' => e = .returned (.bool true) ∧ Below w.heap.size w w' := by
 obtain ⟨ma,mc,em,hmr⟩ := hmd
 obtain ⟨⟨⟨a1,c1,e1⟩,a2,n2,c2,e2⟩,a3,c3,e3,har⟩ := hg.code.args i hi
 obtain ⟨N,hN⟩ : ∃ N,w.heap.size = N := ⟨_,rfl⟩
 obtain ⟨W2,hW2⟩ : ∃ W2,(w.alloc (.cells g.cells 50)).alloc (.cells i.cells 62) = W2 := ⟨_,rfl⟩
 have hb2 : Below N w W2 := by rw [← hW2,← hN]; exact ((Below.refl _ _).alloc (Nat.le_refl _) _).alloc (by simp) _
 have hs2 : W2.heap.size = N + 1 + 1 := by rw [← hW2]; simp [hN]
 have hr0 : W2.heap[N]? = some (.cells g.cells 50 (0,0)) := by rw [← hW2,← hN]; exact heap_alloc2_old _ _ _
 have hr1 : W2.heap[N + 1]? = some (.cells i.cells 62 (0,0)) := by rw [← hW2,← hN]; exact heap_alloc2_new _ _ _
 have hg2 := hg.below (by rw [hN]; exact hb2)
 have hm2 : IntRow W2 ma ml := RowOf.grow hmr (by rw [hN]; exact hb2)
 obtain ⟨nm,hnm⟩ : ∃ z,ml.length = z := ⟨_,rfl⟩
 obtain ⟨TL,hTL⟩ : ∃ T,ofTy g i = T := ⟨_,rfl⟩
 have hlen := ho.len
 rw [hTL] at hlen
 have HCLS := Lib.hid ho.cls
 rw [hTL] at HCLS
 have HTL := Lib.hid hTL
 have HNM := Lib.hid hnm
 have HLEN : Hid (TL.length = nm) := by unfold Hid; omega
 have HFN : Hid (∀ W,Below W2.heap.size W2 W → W.heap[N]? = some (.cells #[.string g.c.nm,.int .i64 g.c.par,.slice g.c.varsA g.vs.length g.c.varsC,.bool g.c.rp,.string g.c.rto,.int .i64 g.c.rcl,.slice g.c.fromA g.c.nfrom g.c.fromC,.slice g.c.insA g.c.ins.length g.c.insC] 50 (0,0)) ∧ g.inn W ∧ Below N w W) := fun W hW => by
  refine ⟨?_,hg2.below hW,hb2.trans (hW.mono (by omega))⟩
  rw [hW.block N (by omega),hr0,← hg.nvars]; rfl
 have HIN : Hid (∀ W,Below W2.heap.size W2 W → W.heap[N + 1]? = some (.cells #[.int .i64 i.op,.int .i64 i.d,.int .i64 i.a,.int .i64 i.b,.int .i64 i.f,.int .i64 i.n,.string i.sign,.slice a3 i.args.length c3,.slice ma nm mc,.int .i64 i.to,.int .i64 i.els,.int .i64 i.ln,.int .i64 i.cl] 62 (0,0)) ∧ IntRow W ma ml ∧ IntRow W a3 i.args) := fun W hW => by
  refine ⟨?_,RowOf.grow hm2 hW,RowOf.grow (RowOf.grow har (by rw [hN]; exact hb2)) hW⟩
  rw [hW.block (N + 1) (by omega),hr1,← hnm,← em,← e3]; rfl
 have hCC : ∀ (v : Vr) (W : World),Calls Try.prog 54 #[.agg v.cells] W fun e w' => e = .returned (.bool (okC v)) ∧ Below W.heap.size W w' := fun v W => classed20_calls v W
 simp only [Vr.cells] at hCC
 have HCC := Lib.hid hCC
 have HS2 := Lib.hid hs2
 obtain ⟨q0,_,_⟩ := HFN.out W2 (Below.refl _ _)
 obtain ⟨q1,_,_⟩ := HIN.out W2 (Below.refl _ _)
 have i0 : W2.cell? ⟨N + 1,0,none⟩ = some (.int .i64 18) := by rw [cell_of_row _ _ _ _ _ _ q1,← hop]; rfl
 have k3 : W2.cell? ⟨N,3,none⟩ = some (.bool true) := by rw [cell_of_row _ _ _ _ _ _ q0,← hrp]; rfl
 obtain ⟨ty,hty⟩ : ∃ t : Ty,t = (true,g.c.rto) := ⟨_,rfl⟩
 have HTE : Hid (ofTy g i = [ty]) := by unfold Hid ofTy; rw [if_neg (by omega),if_pos hop,if_pos hrp,hty,← hrp]; rfl
 have HTY : Hid (∀ k u,#[.bool ty.1,.string ty.2].toList[k]? = some u → W2.cell? ((⟨N,3,none⟩ : Addr).add k) = some u) := fun k u hu => by
  rw [Addr.add_lit,cell_of_row _ _ _ _ _ _ q0,hrp]
  rw [hty] at hu
  match k,hu with
  | 0,hu => exact hu
  | 1,hu => exact hu
 clear hop hrp hty
 have hW2' := hW2
 simp only [Fn.cells,Cod.cells,Ins.cells] at hW2'
 have HW2 := Lib.hid hW2'
 have HO := Lib.hid ho
 have HNN := Lib.hid hN
 simp only [Fn.cells,Cod.cells,Ins.cells]
 rw [hN]
 clear hg hmr har hW2 hW2' hb2 hs2 hr0 hr1 hg2 hm2 hnm hTL hlen hCC q0 q1 em e1 e2 e3 ho
 obtain ⟨t0,ht0,ht1,ht2,ht3⟩ := info_parts info_ty
 go_enter Try.func56,Try.ntmps56
 go_upto_region 1 with (fail)
 rw [HW2.out]
 clear hN HW2
 have hnm1 : nm = 1 := by have := HLEN.out; rw [← HTL.out,HTE.out] at this; simpa using this.symm
 subst hnm1
 obtain ⟨B,hB⟩ : ∃ z,W2.heap.size = z := ⟨_,rfl⟩
 have HB := Lib.hid hB
 have HM8 : Hid (∀ W,Below W2.heap.size W2 W → W.cell? ⟨N + 1,8,none⟩ = some (.slice ma 1 mc)) := fun W hW => by rw [cell_of_row _ _ _ _ _ _ (HIN.out W hW).1]; rfl
 have HTL2 : Hid (TL.flatMap tyC = [.bool ty.1,.string ty.2]) := by unfold Hid; rw [← HTL.out,HTE.out]; rfl
 have hnm3 : 1 ≤ 3000 := by omega
 have hnn : ((1 : Int) != (1 : Int)) = false := rfl
 clear hB
 go_wp2_with (first
  | (refine wpList_load_at rfl 45 _ rfl ⟨N,3,none⟩ rfl _ _ HTY.out Try.underlying45 rfl (by kernel_rfl) ?_)
  | (at_builtin; refine wpList_append_lies _ rfl (.tmp 29) (.tmp 33) 120 rfl W2.heap.size 45 t0 _ 2 24 Try.underlying120 ht0 ht1 ht2 ht3 rfl (by decide) (.slice none 0 0) 0 [] rfl (World.ownsRow_nil _ _ _ _) ⟨W2.heap.size,0,none⟩ 1 1 [.bool ty.1,.string ty.2] rfl rfl (cells_new _ _ _) (by simp [Value.oneCell']) (by decide) (by unfold maxLen; omega) (by omega) (by rw [World.size_alloc]; omega) _ rfl ?_; intro g8 cap8 w8 hown8 hgrow8 hat8 hlt8; have HBW : Hid (Below W2.heap.size W2 w8) := (ext_grown (v := .slice none 0 0) ((Ext.refl _ _).alloc _) hgrow8).below (Nat.le_refl _) (fun k hk => by simp [Value.ownBlock] at hk); have m8 := HM8.out w8 HBW.out; have HROW : Hid (w8.ownsRow W2.heap.size 45 2 (.slice (some ⟨g8,0,none⟩) 1 cap8) 1 (TL.flatMap tyC)) := (by unfold Hid; rw [HTL2.out]; exact hown8); clear hown8 hgrow8 hat8 hlt8))
 clear m8
 go_loopw [7] (fun c wr => ∃ k : Nat,k ≤ 1 ∧ c = .int .i64 (k : Int) ∧ Below (w8).heap.size w8 wr) (fun c _ => 1 - (intOf c).toNat)
 case atStart => exact ⟨0,Nat.zero_le _,rfl,Below.refl _ _⟩
 case round =>
  obtain ⟨k,hk,rfl,hbr⟩ := hrel
  have HB2r : Hid (Below W2.heap.size W2 wr) := HBW.out.trans (hbr.mono HBW.out.size)
  by_cases hkl : k < 1
  rotate_left
  ·have HEND : Hid (Below N w wr) := (HFN.out wr HB2r.out).2.2
   have hke : k = 1 := by omega
   subst hke
   clear hbr
   go_wp2
   go_ret
   exact ⟨rfl,HEND.out⟩
  have hkI : (k : Int) < (1 : Int) := by omega
  obtain ⟨t,ht⟩ : ∃ t,TL[k]? = some t := ⟨_,List.getElem?_eq_getElem (by rw [HLEN.out]; exact hkl)⟩
  obtain ⟨c,hc⟩ : ∃ c,ml[k]? = some c := ⟨_,List.getElem?_eq_getElem (by rw [HNM.out]; exact hkl)⟩
  obtain ⟨b,hbe,_,_⟩ := ownsRow_get HROW.out (j := k * 2) (u := .bool t.1) (by have := flat_get tyLen ht 0 (by decide); rw [Nat.add_zero] at this; rw [this]; rfl)
  first
   | subst hbe
   | (simp only [Option.some.injEq,Addr.mk.injEq,and_true] at hbe; have hbe := hbe.symm; subst hbe)
  have HTC : Hid (∀ (p : BW wr) (j : Nat) (u : Value),#[.bool t.1,.string t.2].toList[j]? = some u → p.w.cell? ((⟨b,k * 2,none⟩ : Addr).add j) = some u) := fun p j u hu => owns_load (f := tyC) tyLen (ownsRow_below HROW.out (hbr.trans (p.h.mono hbr.size))) ht j u hu
  have HM : Hid (∀ p : BW wr,∃ mb mo,ma = some ⟨mb,mo,none⟩ ∧ p.w.cell? ⟨N + 1,8,none⟩ = some (.slice ma 1 mc) ∧ p.w.cell? ⟨mb,mo + k,none⟩ = some (.int .i64 c)) := fun p => by
   obtain ⟨z1,z2,_⟩ := HIN.out p.w (HB2r.out.trans (p.h.mono HB2r.out.size))
   obtain ⟨mb,mo,z3,_,z4⟩ := z2 (by intro e; rw [e] at hc; simp at hc)
   refine ⟨mb,mo,z3,by rw [cell_of_row _ _ _ _ _ _ z1]; rfl,?_⟩
   have := z4 k c hc 0 _ rfl
   simpa using this
  obtain ⟨mb,mo,hma,_,_⟩ := HM.out ⟨wr,Below.refl _ _⟩
  have k8 : ∀ p : BW wr,p.w.cell? ⟨N + 1,8,none⟩ = some (.slice (some ⟨mb,mo,none⟩) 1 mc) := fun p => by
   obtain ⟨x1,x2,x3,x4,_⟩ := HM.out p
   rw [← hma]; exact x4
  have kc : ∀ p : BW wr,p.w.cell? ⟨mb,mo + k,none⟩ = some (.int .i64 c) := fun p => by
   obtain ⟨x1,x2,x3,_,x5⟩ := HM.out p
   rw [hma] at x3
   simp only [Option.some.injEq,Addr.mk.injEq,and_true] at x3
   rw [x3.1,x3.2]; exact x5
  have HCL : Hid (∀ W : World,Calls Try.prog 54 #[.agg #[.bool t.1,.string t.2,.int .i64 c]] W fun e w' => e = .returned (.bool true) ∧ Below W.heap.size W w') := fun W => by
   have := HCC.out ⟨t.1,t.2,c⟩ W
   rw [HCLS.out k t c ht hc] at this
   exact this
  have HBR := Lib.hid hbr
  have HNX : Hid (∀ p : BW wr,∃ k' : Nat,k' ≤ 1 ∧ Value.int .i64 ((k : Int) + 1) = .int .i64 (k' : Int) ∧ Below (w8).heap.size w8 p.w) := fun p => ⟨k + 1,hkl,by simp,HBR.out.trans (p.h.mono HBR.out.size)⟩
  clear hbr ht hc hma
  go_wp2_with fail
  refine wp_region_quiet_bw (by kernel_rfl) (by kernel_rfl) ?_
  repeat (first
   | (go_big_quiet_want; (refine quiet_load_bw 45 _ rfl ⟨b,k * 2,none⟩ rfl _ _ HTC.out Try.underlying45 rfl (by kernel_rfl) ?_); (simp only [Act.put,List.setIfInBounds_toArray,List.set_cons_zero,List.set_cons_succ]); go_big_quiet_on)
   | (go_big_quiet_step ((go_at_call 54; exact bw_of (HCL.out _)))))
  refine wpQuiet_nil ?_
  rintro _ ⟨p,rfl⟩
  clear k8 kc
  go_wp2
  go_roundw
  case rel => exact HNX.out p
  case measure => simp [intOf]; omega
set_option maxRecDepth 100000 in
set_option maxHeartbeats 8000000 in
theorem moded20_15 (g : Fn) (i : Ins) (w : World) (hg : g.inn w) (hi : i ∈ g.c.ins) (ml : List Int) (hmd : ∃ ao cap,i.modeV = .slice ao ml.length cap ∧ IntRow w ao ml) (ho : i.modeOk g ml) (hop : i.op = 15) :
  Calls Try.prog 56 #[.agg g.cells,.agg i.cells] w fun e w' => e = .returned (.bool true) ∧ Below w.heap.size w w' := by
 obtain ⟨ma,mc,em,hmr⟩ := hmd
 obtain ⟨⟨⟨a1,c1,e1⟩,a2,n2,c2,e2⟩,a3,c3,e3,har⟩ := hg.code.args i hi
 obtain ⟨N,hN⟩ : ∃ N,w.heap.size = N := ⟨_,rfl⟩
 obtain ⟨W2,hW2⟩ : ∃ W2,(w.alloc (.cells g.cells 50)).alloc (.cells i.cells 62) = W2 := ⟨_,rfl⟩
 have hb2 : Below N w W2 := by rw [← hW2,← hN]; exact ((Below.refl _ _).alloc (Nat.le_refl _) _).alloc (by simp) _
 have hs2 : W2.heap.size = N + 1 + 1 := by rw [← hW2]; simp [hN]
 have hr0 : W2.heap[N]? = some (.cells g.cells 50 (0,0)) := by rw [← hW2,← hN]; exact heap_alloc2_old _ _ _
 have hr1 : W2.heap[N + 1]? = some (.cells i.cells 62 (0,0)) := by rw [← hW2,← hN]; exact heap_alloc2_new _ _ _
 have hg2 := hg.below (by rw [hN]; exact hb2)
 have hm2 : IntRow W2 ma ml := RowOf.grow hmr (by rw [hN]; exact hb2)
 obtain ⟨nm,hnm⟩ : ∃ z,ml.length = z := ⟨_,rfl⟩
 obtain ⟨TL,hTL⟩ : ∃ T,ofTy g i = T := ⟨_,rfl⟩
 have hlen := ho.len
 rw [hTL] at hlen
 have HCLS := Lib.hid ho.cls
 rw [hTL] at HCLS
 have HTL := Lib.hid hTL
 have HNM := Lib.hid hnm
 have HLEN : Hid (TL.length = nm) := by unfold Hid; omega
 have HFN : Hid (∀ W,Below W2.heap.size W2 W → W.heap[N]? = some (.cells #[.string g.c.nm,.int .i64 g.c.par,.slice g.c.varsA g.vs.length g.c.varsC,.bool g.c.rp,.string g.c.rto,.int .i64 g.c.rcl,.slice g.c.fromA g.c.nfrom g.c.fromC,.slice g.c.insA g.c.ins.length g.c.insC] 50 (0,0)) ∧ g.inn W ∧ Below N w W) := fun W hW => by
  refine ⟨?_,hg2.below hW,hb2.trans (hW.mono (by omega))⟩
  rw [hW.block N (by omega),hr0,← hg.nvars]; rfl
 have HIN : Hid (∀ W,Below W2.heap.size W2 W → W.heap[N + 1]? = some (.cells #[.int .i64 i.op,.int .i64 i.d,.int .i64 i.a,.int .i64 i.b,.int .i64 i.f,.int .i64 i.n,.string i.sign,.slice a3 i.args.length c3,.slice ma nm mc,.int .i64 i.to,.int .i64 i.els,.int .i64 i.ln,.int .i64 i.cl] 62 (0,0)) ∧ IntRow W ma ml ∧ IntRow W a3 i.args) := fun W hW => by
  refine ⟨?_,RowOf.grow hm2 hW,RowOf.grow (RowOf.grow har (by rw [hN]; exact hb2)) hW⟩
  rw [hW.block (N + 1) (by omega),hr1,← hnm,← em,← e3]; rfl
 have hCC : ∀ (v : Vr) (W : World),Calls Try.prog 54 #[.agg v.cells] W fun e w' => e = .returned (.bool (okC v)) ∧ Below W.heap.size W w' := fun v W => classed20_calls v W
 simp only [Vr.cells] at hCC
 have HCC := Lib.hid hCC
 have HS2 := Lib.hid hs2
 obtain ⟨q0,_,_⟩ := HFN.out W2 (Below.refl _ _)
 obtain ⟨q1,_,_⟩ := HIN.out W2 (Below.refl _ _)
 have i0 : W2.cell? ⟨N + 1,0,none⟩ = some (.int .i64 15) := by rw [cell_of_row _ _ _ _ _ _ q1,← hop]; rfl
 have HTE : Hid (ofTy g i = i.args.map (tyAt g.vs)) := by unfold Hid ofTy; rw [if_neg (by omega),if_neg (by omega),if_pos hop]
 have HAV := Lib.hid (ho.av hop)
 have HSH := Lib.hid ho.short
 have i7 : W2.cell? ⟨N + 1,7,none⟩ = some (.slice a3 i.args.length c3) := by rw [cell_of_row _ _ _ _ _ _ q1]; rfl
 clear hop
 have hW2' := hW2
 simp only [Fn.cells,Cod.cells,Ins.cells] at hW2'
 have HW2 := Lib.hid hW2'
 have HO := Lib.hid ho
 have HNN := Lib.hid hN
 simp only [Fn.cells,Cod.cells,Ins.cells]
 rw [hN]
 clear hg hmr har hW2 hW2' hb2 hs2 hr0 hr1 hg2 hm2 hnm hTL hlen hCC q0 q1 em e1 e2 e3 ho
 obtain ⟨t0,ht0,ht1,ht2,ht3⟩ := info_parts info_ty
 go_enter Try.func56,Try.ntmps56
 go_upto_region 1 with (fail)
 rw [HW2.out]
 clear hN HW2
 have hnm1 : nm = i.args.length := by have := HLEN.out; rw [← HTL.out,HTE.out,List.length_map] at this; exact this.symm
 subst hnm1
 have HM8 : Hid (∀ W,Below W2.heap.size W2 W → W.cell? ⟨N + 1,8,none⟩ = some (.slice ma i.args.length mc)) := fun W hW => by rw [cell_of_row _ _ _ _ _ _ (HIN.out W hW).1]; rfl
 obtain ⟨B,hB⟩ : ∃ z,W2.heap.size = z := ⟨_,rfl⟩
 have HB := Lib.hid hB
 have hnm3 : i.args.length ≤ 3000 := HSH.out
 go_wp2_with fail
 clear i7 i0
 go_loopw [5,6] (fun v c wq => PlJ tyC 45 2 B W2 TL v c wq) (fun _ c _ => i.args.length - (intOf c).toNat)
 case atStart => exact ⟨0,none,0,Nat.zero_le _,rfl,rfl,World.ownsRow_nil _ _ _ _,Below.refl _ _⟩
 case round =>
  obtain ⟨j,ao,cap,hj,rfl,rfl,hown,hbj⟩ := hrel
  rw [HLEN.out] at hj
  have hb : Below W2.heap.size W2 wr := by rw [HB.out]; exact hbj
  obtain ⟨q1,_,har⟩ := HIN.out wr hb
  have i7 : wr.cell? ⟨N + 1,7,none⟩ = some (.slice a3 i.args.length c3) := by rw [cell_of_row _ _ _ _ _ _ q1]; rfl
  by_cases hjl : j < i.args.length
  rotate_left
  ·have hje : j = i.args.length := by omega
   subst hje
   have HROW : Hid (wr.ownsRow B 45 2 (.slice ao i.args.length cap) i.args.length (TL.flatMap tyC)) := by
    unfold Hid
    rw [List.take_of_length_le (by rw [HLEN.out]; exact Nat.le_refl _)] at hown; exact hown
   have HBW := Lib.hid hb
   have m8 := HM8.out wr hb
   have hnn : ((i.args.length : Int) != (i.args.length : Int)) = false := by simp
   clear hown hb hbj q1 har
   obtain ⟨wx,hwx⟩ : ∃ x : World,x = wr := ⟨_,rfl⟩
   subst hwx
   go_wp2_with fail
   clear i7 m8
   go_loopw [7] (fun c wr => ∃ k : Nat,k ≤ i.args.length ∧ c = .int .i64 (k : Int) ∧ Below (wx).heap.size wx wr) (fun c _ => i.args.length - (intOf c).toNat)
   case atStart => exact ⟨0,Nat.zero_le _,rfl,Below.refl _ _⟩
   case round =>
    obtain ⟨k,hk,rfl,hbr⟩ := hrel
    have HB2r : Hid (Below W2.heap.size W2 wr) := HBW.out.trans (hbr.mono HBW.out.size)
    by_cases hkl : k < i.args.length
    rotate_left
    ·have HEND : Hid (Below N w wr) := (HFN.out wr HB2r.out).2.2
     have hke : k = i.args.length := by omega
     subst hke
     clear hbr
     go_wp2
     go_ret
     exact ⟨rfl,HEND.out⟩
    have hkI : (k : Int) < (i.args.length : Int) := by omega
    obtain ⟨t,ht⟩ : ∃ t,TL[k]? = some t := ⟨_,List.getElem?_eq_getElem (by rw [HLEN.out]; exact hkl)⟩
    obtain ⟨c,hc⟩ : ∃ c,ml[k]? = some c := ⟨_,List.getElem?_eq_getElem (by rw [HNM.out]; exact hkl)⟩
    obtain ⟨b,hbe,_,_⟩ := ownsRow_get HROW.out (j := k * 2) (u := .bool t.1) (by have := flat_get tyLen ht 0 (by decide); rw [Nat.add_zero] at this; rw [this]; rfl)
    first
     | subst hbe
     | (simp only [Option.some.injEq,Addr.mk.injEq,and_true] at hbe; have hbe := hbe.symm; subst hbe)
    have HTC : Hid (∀ (p : BW wr) (j : Nat) (u : Value),#[.bool t.1,.string t.2].toList[j]? = some u → p.w.cell? ((⟨b,k * 2,none⟩ : Addr).add j) = some u) := fun p j u hu => owns_load (f := tyC) tyLen (ownsRow_below HROW.out (hbr.trans (p.h.mono hbr.size))) ht j u hu
    have HM : Hid (∀ p : BW wr,∃ mb mo,ma = some ⟨mb,mo,none⟩ ∧ p.w.cell? ⟨N + 1,8,none⟩ = some (.slice ma i.args.length mc) ∧ p.w.cell? ⟨mb,mo + k,none⟩ = some (.int .i64 c)) := fun p => by
     obtain ⟨z1,z2,_⟩ := HIN.out p.w (HB2r.out.trans (p.h.mono HB2r.out.size))
     obtain ⟨mb,mo,z3,_,z4⟩ := z2 (by intro e; rw [e] at hc; simp at hc)
     refine ⟨mb,mo,z3,by rw [cell_of_row _ _ _ _ _ _ z1]; rfl,?_⟩
     have := z4 k c hc 0 _ rfl
     simpa using this
    obtain ⟨mb,mo,hma,_,_⟩ := HM.out ⟨wr,Below.refl _ _⟩
    have k8 : ∀ p : BW wr,p.w.cell? ⟨N + 1,8,none⟩ = some (.slice (some ⟨mb,mo,none⟩) i.args.length mc) := fun p => by
     obtain ⟨x1,x2,x3,x4,_⟩ := HM.out p
     rw [← hma]; exact x4
    have kc : ∀ p : BW wr,p.w.cell? ⟨mb,mo + k,none⟩ = some (.int .i64 c) := fun p => by
     obtain ⟨x1,x2,x3,_,x5⟩ := HM.out p
     rw [hma] at x3
     simp only [Option.some.injEq,Addr.mk.injEq,and_true] at x3
     rw [x3.1,x3.2]; exact x5
    have HCL : Hid (∀ W : World,Calls Try.prog 54 #[.agg #[.bool t.1,.string t.2,.int .i64 c]] W fun e w' => e = .returned (.bool true) ∧ Below W.heap.size W w') := fun W => by
     have := HCC.out ⟨t.1,t.2,c⟩ W
     rw [HCLS.out k t c ht hc] at this
     exact this
    have HBR := Lib.hid hbr
    have HNX : Hid (∀ p : BW wr,∃ k' : Nat,k' ≤ i.args.length ∧ Value.int .i64 ((k : Int) + 1) = .int .i64 (k' : Int) ∧ Below (wx).heap.size wx p.w) := fun p => ⟨k + 1,hkl,by simp,HBR.out.trans (p.h.mono HBR.out.size)⟩
    clear hbr ht hc hma
    go_wp2_with fail
    refine wp_region_quiet_bw (by kernel_rfl) (by kernel_rfl) ?_
    repeat (first
     | (go_big_quiet_want; (refine quiet_load_bw 45 _ rfl ⟨b,k * 2,none⟩ rfl _ _ HTC.out Try.underlying45 rfl (by kernel_rfl) ?_); (simp only [Act.put,List.setIfInBounds_toArray,List.set_cons_zero,List.set_cons_succ]); go_big_quiet_on)
     | (go_big_quiet_step ((go_at_call 54; exact bw_of (HCL.out _)))))
    refine wpQuiet_nil ?_
    rintro _ ⟨p,rfl⟩
    clear k8 kc
    go_wp2
    go_roundw
    case rel => exact HNX.out p
    case measure => simp [intOf]; omega
  have hjI : (j : Int) < (i.args.length : Int) := by omega
  obtain ⟨a,ha⟩ : ∃ a,i.args[j]? = some a := ⟨_,List.getElem?_eq_getElem hjl⟩
  obtain ⟨d,hd,hdl⟩ := HAV.out a (List.mem_of_getElem? ha)
  subst hd
  obtain ⟨v,hv⟩ : ∃ v,g.vs[d]? = some v := ⟨_,List.getElem?_eq_getElem hdl⟩
  obtain ⟨ab,ao2,haA,_,hac⟩ := har (by intro e; rw [e] at ha; simp at ha)
  have hgi := (HFN.out wr hb).2.1
  obtain ⟨vb,vo,hvA,_,hvc⟩ := hgi.vars (by intro e; rw [e] at hv; simp at hv)
  have q0 := (HFN.out wr hb).1
  have k2 : wr.cell? ⟨N,2,none⟩ = some (.slice (some ⟨vb,vo,none⟩) g.vs.length g.c.varsC) := by rw [cell_of_row _ _ _ _ _ _ q0,← hvA]; rfl
  have ka : wr.cell? ⟨ab,ao2 + j,none⟩ = some (.int .i64 (d : Int)) := by have := hac j _ ha 0 _ rfl; simpa using this
  have hdI : (d : Int) < (g.vs.length : Int) := by omega
  rw [haA] at i7
  obtain ⟨S,hS⟩ : ∃ S : World → Prop,S = Below wr.heap.size wr := ⟨_,rfl⟩
  have HSB : Hid (∀ w',S w' ↔ Below wr.heap.size wr w') := fun w' => by rw [hS]
  have HSS : Hid (∀ w',S w' → w'.cell? ⟨N,2,none⟩ = some (.slice (some ⟨vb,vo,none⟩) g.vs.length g.c.varsC) ∧ w'.cell? ⟨N + 1,7,none⟩ = some (.slice (some ⟨ab,ao2,none⟩) i.args.length c3) ∧ w'.cell? ⟨ab,ao2 + j,none⟩ = some (.int .i64 (d : Int))) := fun w' h => by
   have h1 := (HSB.out w').1 h
   exact ⟨cell_below h1 k2,cell_below h1 i7,cell_below h1 ka⟩
  have HTY : Hid (∀ w',S w' → ∀ k u,#[.bool v.ptr,.string v.tgt].toList[k]? = some u → w'.cell? ((⟨vb,vo + d * 3,none⟩ : Addr).add k) = some u) := fun w' h k u hu => by
   rw [Addr.add_lit]
   exact cell_below ((HSB.out w').1 h) (hvc d v hv k u (by match k,hu with
    | 0,hu => exact hu
    | 1,hu => exact hu))
  have htj : TL[j]? = some (v.ptr,v.tgt) := by
   rw [← HTL.out,HTE.out,List.getElem?_map,ha]
   unfold tyAt
   rw [Option.map_some,Int.toNat_natCast,hv]; rfl
  have hlow : B ≤ wr.heap.size := by have := hbj.size; have := HB.out; omega
  have HSTEP : Hid (∀ (g8 cap8 : Nat) (w13 w8 : World) (o : Obj),Below wr.heap.size wr w13 → w8.ownsRow B 45 2 (.slice (some ⟨g8,0,none⟩) (j + 1) cap8) (j + 1) ((TL.take j).flatMap tyC ++ [.bool v.ptr,.string v.tgt]) → (w13.alloc o).grownBy w8 (Value.slice ao j cap).ownBlock → PlJ tyC 45 2 B W2 TL (.slice (some ⟨g8,0,none⟩) (j + 1) cap8) (.int .i64 ((j : Int) + 1)) w8) := fun g8 cap8 w13 w8 o h0 h1 h2 =>
   pl_push htj hown hbj (by rw [HB.out]; exact Nat.le_refl _) h0 h1 h2
  have HOW : Hid (∀ w',Below wr.heap.size wr w' → w'.ownsRow B 45 2 (.slice ao j cap) j ((TL.take j).flatMap tyC)) := fun w' h => ownsRow_below hown h
  obtain ⟨WD,hWD⟩ : ∃ W,wr.drew = W := ⟨_,rfl⟩
  have hbD : Below wr.heap.size wr WD := by rw [← hWD]; exact (Below.refl _ _).drew
  have hS0 : S WD := (HSB.out _).2 hbD
  have hj3 : j ≤ 3000 := by omega
  clear hown hb hbj q1 har ha hv haA hac hgi hvA hvc q0 hS htj
  go_wp2_with fail
  clear k2 ka i7
  refine wp_region_J 12 S (by kernel_rfl) ?_
  rw [hWD]
  refine wpAnyJ_take (i := 0) rfl (by kernel_rfl) (by kernel_rfl) (by kernel_rfl) (by kernel_rfl) (fun _ _ _ h => h) (Or.inl ⟨by rfl,fun w hSw => by obtain ⟨s1,s2,s3⟩ := HSS.out w hSw; go_simp; try rfl⟩) (by assumption) ?_
  try go_simp
  refine wpAnyJ_take (i := 1) rfl (by kernel_rfl) (by kernel_rfl) (by kernel_rfl) (by kernel_rfl) (fun _ _ _ h => h) (Or.inl ⟨by rfl,fun w hSw => by obtain ⟨s1,s2,s3⟩ := HSS.out w hSw; go_simp; try rfl⟩) (by assumption) ?_
  try go_simp
  refine wpAnyJ_take (i := 2) rfl (by kernel_rfl) (by kernel_rfl) (by kernel_rfl) (by kernel_rfl) (fun _ _ _ h => h) (Or.inl ⟨by rfl,fun w hSw => by obtain ⟨s1,s2,s3⟩ := HSS.out w hSw; go_simp; try rfl⟩) (by assumption) ?_
  try go_simp
  refine wpAnyJ_take (i := 3) rfl (by kernel_rfl) (by kernel_rfl) (by kernel_rfl) (by kernel_rfl) (fun _ _ _ h => h) (Or.inl ⟨by rfl,fun w hSw => by obtain ⟨s1,s2,s3⟩ := HSS.out w hSw; go_simp; try rfl⟩) (by assumption) ?_
  try go_simp
  refine wpAnyJ_take (i := 4) rfl (by kernel_rfl) (by kernel_rfl) (by kernel_rfl) (by kernel_rfl) (fun _ _ _ h => h) (Or.inl ⟨by rfl,fun w hSw => by obtain ⟨s1,s2,s3⟩ := HSS.out w hSw; go_simp; try rfl⟩) (by assumption) ?_
  try go_simp
  refine wpAnyJ_take (i := 5) rfl (by kernel_rfl) (by kernel_rfl) (by kernel_rfl) (by kernel_rfl) (fun _ _ _ h => h) (Or.inl ⟨by rfl,fun w hSw => by obtain ⟨s1,s2,s3⟩ := HSS.out w hSw; go_simp; try rfl⟩) (by assumption) ?_
  try go_simp
  refine wpAnyJ_take (i := 6) rfl (by kernel_rfl) (by kernel_rfl) (by kernel_rfl) (by kernel_rfl) (fun _ _ _ h => h) (Or.inl ⟨by rfl,fun w hSw => by obtain ⟨s1,s2,s3⟩ := HSS.out w hSw; go_simp; try rfl⟩) (by assumption) ?_
  try go_simp
  refine wpAnyJ_take (i := 7) rfl (by kernel_rfl) (by kernel_rfl) (by kernel_rfl) (by kernel_rfl) (fun _ _ _ h => h) (Or.inl ⟨by rfl,fun w hSw => by obtain ⟨s1,s2,s3⟩ := HSS.out w hSw; go_simp; try rfl⟩) (by assumption) ?_
  try go_simp
  refine wpAnyJ_take (i := 8) rfl (by kernel_rfl) (by kernel_rfl) (by kernel_rfl) (by kernel_rfl) (fun _ _ _ h => h) (Or.inl ⟨by rfl,fun w hSw => by obtain ⟨s1,s2,s3⟩ := HSS.out w hSw; go_simp; try rfl⟩) (by assumption) ?_
  try go_simp
  refine wpAnyJ_take (i := 9) rfl (by kernel_rfl) (by kernel_rfl) (by kernel_rfl) (by kernel_rfl) (fun _ _ _ h => h) (Or.inl ⟨by rfl,fun w hSw => by obtain ⟨s1,s2,s3⟩ := HSS.out w hSw; go_simp; try rfl⟩) (by assumption) ?_
  try go_simp
  refine wpAnyJ_take (i := 10) (v := .agg #[.bool v.ptr,.string v.tgt]) rfl (by kernel_rfl) (by kernel_rfl) (by kernel_rfl) (by kernel_rfl) (fun _ _ _ h => h) (load_yields (by rfl) 45 _ rfl ⟨vb,vo + d * 3,none⟩ rfl _ _ HTY.out Try.underlying45 rfl (by kernel_rfl)) (by assumption) ?_
  try go_simp
  refine wpAnyJ_one (i := 11) (by kernel_rfl) (by decide) rfl fun K' hK => ?_
  rw [if_pos (by rfl)]
  go_simp
  obtain ⟨bc,hbc⟩ : ∃ z,WD.heap.size = z := ⟨_,rfl⟩
  obtain ⟨Wc,hWc⟩ : ∃ W,WD.alloc (.cells #[.bool v.ptr,.string v.tgt] 45) = W := ⟨_,rfl⟩
  have hbC : Below wr.heap.size wr Wc := by rw [← hWc]; exact hbD.alloc hbD.size _
  have hSc : S Wc := (HSB.out _).2 hbC
  have hcc : ∀ k u,([.bool v.ptr,.string v.tgt] : List Value)[k]? = some u → Wc.cell? ((⟨bc,0,none⟩ : Addr).add k) = some u := by rw [← hWc,← hbc]; exact cells_new _ _ _
  try rw [hWc]
  try rw [hbc]
  refine hK _ _ hSc ?_
  clear hK
  try go_simp
  refine wpAnyJ_k (by kernel_rfl) rfl fun K' hK => ?_
  rw [if_pos (by rfl)]
  refine oper_append_row (.tmp 44) (.tmp 55) 120 rfl B 45 t0 _ 2 24 Try.underlying120 ht0 ht1 ht2 ht3 rfl (by decide) (.slice ao j cap) j ((TL.take j).flatMap tyC) rfl (HOW.out Wc hbC) (some ⟨bc,0,none⟩) 1 1 [.bool v.ptr,.string v.tgt] rfl rfl (fun h => by cases h) (fun ad e k u hu => by obtain rfl := Option.some.inj e; exact hcc k u hu) (by simp [Value.oneCell']) (by unfold maxLen; omega) (by omega) (by have := hbC.size; omega) (fun v2 w2 hown2 hgr2 hlt2 => ?_)
  obtain ⟨g8,cap8,e8⟩ : ∃ g8 cap8,v2 = .slice (some ⟨g8,0,none⟩) (j + 1) cap8 := by
   obtain ⟨a9,c9,e9⟩ := ownsRow_slice hown2
   subst e9
   obtain ⟨b9,e9,_,_⟩ := ownsRow_get hown2 (j := j * 2) (u := .bool v.ptr) (by
    have hl : ((TL.take j).flatMap tyC).length = j * 2 := by rw [flat_len tyLen,List.length_take,HLEN.out]; congr 1; omega
    rw [List.getElem?_append_right (by rw [hl]; exact Nat.le_refl _),hl,Nat.sub_self]; rfl)
   exact ⟨b9,c9,by rw [e9]⟩
  subst e8
  have hgr3 : (Wc.alloc (.cells #[] 0)).grownBy w2 (Value.slice ao j cap).ownBlock ∨ True := .inr trivial
  have HNX : Hid (PlJ tyC 45 2 B W2 TL (.slice (some ⟨g8,0,none⟩) (j + 1) cap8) (.int .i64 ((j : Int) + 1)) w2) := HSTEP.out g8 cap8 WD w2 _ hbD hown2 (by rw [hWc]; exact hgr2)
  refine hK _ _ ?_
  clear hK hgr3
  try go_simp
  refine wpAny_end 13 rfl (by kernel_rfl) (by kernel_rfl) (· = w2) rfl ?_
  dsimp only [List.drop]
  repeat (go_big_quiet_step (fail))
  refine wpQuiet_nil ?_
  intro w9 hw9
  rw [hw9]
  clear hw9 w9
  go_wp2
  go_roundw
  case rel => exact HNX.out
  case measure => simp [intOf]; omega
theorem moded20_calls (g : Fn) (i : Ins) (w : World) (hg : g.inn w) (hi : i ∈ g.c.ins) (ml : List Int) (hmd : ∃ ao cap,i.modeV = .slice ao ml.length cap ∧ IntRow w ao ml) (ho : i.modeOk g ml) :
  Calls Try.prog 56 #[.agg g.cells,.agg i.cells] w fun e w' => e = .returned (.bool true) ∧ Below w.heap.size w w' := by
 by_cases h9 : i.op = 9
 ·exact moded20_9 g i w hg hi ml hmd ho h9
 by_cases h10 : i.op = 10
 ·exact moded20_10 g i w hg hi ml hmd ho h10
 by_cases h15 : i.op = 15
 ·exact moded20_15 g i w hg hi ml hmd ho h15
 by_cases h18 : i.op = 18
 ·cases hrp : g.c.rp with
  | true => exact moded20_18p g i w hg hi ml hmd ho h18 hrp
  | false => exact moded20_18n g i w hg hi ml hmd ho h18 hrp
 exact moded20_none g i w hg hi ml hmd ho h9 h10 h15 h18
end Go.Proofs.Ytlggjbopfnndbaa
namespace Go.Proofs.Ytlggjbopfnndbaa
open Go.RowKit
structure FormOk (m : Mo) : Prop where
 right : rightF m = 0
 cls : ∀ g ∈ m.fs,(∀ v ∈ g.vs,okC v = true) ∧ okC g.retV = true
 frm : ∀ g ∈ m.fs,g.fromOk
 mds : ∀ g ∈ m.fs,∀ (k : Nat) (i : Ins) (l : List Int),g.c.ins[k]? = some i → g.mds[k]? = some l → i.modeOk g l
def formF (m : Mo) : Int := if namesF m = true then 0 else 3
set_option maxRecDepth 100000 in
set_option maxHeartbeats 8000000 in
theorem formed20_calls (m : Mo) (w : World) (hin : RightIn w m) (ho : FormOk m) : Calls Try.prog 22 #[.agg m.cells] w fun e w' => e = .returned (.int .i64 (formF m)) ∧ Below w.heap.size w w' := by
 obtain ⟨N,hN⟩ : ∃ N,w.heap.size = N := ⟨_,rfl⟩
 obtain ⟨W1,hW1⟩ : ∃ W1,w.alloc (.cells m.cells 25) = W1 := ⟨_,rfl⟩
 have hb1 : Below N w W1 := by rw [← hW1,← hN]; exact (Below.refl _ _).alloc (Nat.le_refl _) _
 have q1 : W1.heap[N]? = some (.cells m.cells 25 (0,0)) := by rw [← hW1,← hN]; exact alloc_at _ _
 have hs1 : W1.heap.size = N + 1 := by rw [← hW1]; simp [hN]
 have HK : Hid (∀ W,Below W1.heap.size W1 W → W.cell? ⟨N,0,none⟩ = some (.slice m.sA m.ss.length m.sC) ∧ W.cell? ⟨N,1,none⟩ = some (.slice m.fA m.fs.length m.fC) ∧ m.inn W ∧ Below N w W) := fun W hW => by
  have h1 := (hW.block N (by omega)).trans q1
  have h3 := hb1.trans (hW.mono (by omega))
  exact ⟨by rw [cell_of_row _ _ _ _ _ _ h1]; rfl,by rw [cell_of_row _ _ _ _ _ _ h1]; rfl,hin.mo.below (by rw [hN]; exact h3),h3⟩
 have HRI := Lib.hid (refRight_calls m W1 (hin.below (by rw [hN]; exact hb1)))
 rw [ho.right] at HRI
 have HNA : Hid (∀ W,Below W1.heap.size W1 W → Calls Try.prog 53 #[.agg m.cells] W fun e w' => e = .returned (.bool (namesF m)) ∧ Below W.heap.size W w') := fun W hW => named20_calls m W (HK.out W hW).2.2.1
 have hCC : ∀ (v : Vr) (W : World),Calls Try.prog 54 #[.agg v.cells] W fun e w' => e = .returned (.bool (okC v)) ∧ Below W.heap.size W w' := fun v W => classed20_calls v W
 have HCC := Lib.hid hCC
 have HO := Lib.hid ho
 have HOK := Lib.hid (OkR.of ho.right)
 have hW1' := hW1
 simp only [Mo.cells] at hW1' HRI HNA
 have HW1 := Lib.hid hW1'
 rw [hN]
 simp only [Mo.cells]
 obtain ⟨nf,hnf⟩ : ∃ b,namesF m = b := ⟨_,rfl⟩
 have HFF : Hid (formF m = if nf = true then 0 else 3) := by unfold Hid formF; rw [hnf]
 rw [hnf] at HNA
 clear hin ho hW1 hW1' q1 hb1 hs1 hCC hnf
 obtain ⟨c0,c1,_,_⟩ := HK.out W1 (Below.refl _ _)
 go_enter Try.func22,Try.ntmps22
 go_upto_region 1 with (fail)
 rw [HW1.out]
 clear hN HW1
 go_wp2_with fail
 go_at_call 24
 refine HRI.out.mono ?_
 rintro e w2 ⟨rfl,hb2⟩
 clear c0 c1 HRI
 obtain ⟨c0,c1,_,_⟩ := HK.out w2 hb2
 have HNW := Lib.hid (HNA.out w2 hb2)
 have HB2 := Lib.hid hb2
 clear hb2 HNA
 go_wp2_with fail
 go_at_call 53
 refine HNW.out.mono ?_
 rintro e w3 ⟨rfl,hb3⟩
 have HB3 : Hid (Below W1.heap.size W1 w3) := HB2.out.trans (hb3.mono HB2.out.size)
 clear c0 c1 HNW hb3
 cases nf with
 | false =>
  have HR : Hid (Ending.returned (.int .i64 3) = .returned (.int .i64 (formF m)) ∧ Below N w w3) := ⟨by rw [HFF.out]; rfl,(HK.out w3 HB3.out).2.2.2⟩
  go_wp2
  go_ret
  exact HR.out
 | true =>
 have HZ : Hid (formF m = 0) := by unfold Hid; rw [HFF.out]; rfl
 clear HFF
 obtain ⟨c0,c1,_,_⟩ := HK.out w3 HB3.out
 have hn60 := HOK.out.nf
 go_wp2_with fail
 clear c0 c1
 go_loopw [4] (fun c wr => ∃ f : Nat,f ≤ m.fs.length ∧ c = .int .i64 (f : Int) ∧ Below W1.heap.size W1 wr) (fun c _ => m.fs.length - (intOf c).toNat)
 case atStart => exact ⟨0,Nat.zero_le _,rfl,HB3.out⟩
 case round =>
  clear HB3
  obtain ⟨f,hf,rfl,hbr⟩ := hrel
  obtain ⟨c0,c1,hmi,hbw⟩ := HK.out wr hbr
  by_cases hfl : f < m.fs.length
  rotate_left
  ·have HR : Hid (Ending.returned (.int .i64 0) = .returned (.int .i64 (formF m)) ∧ Below N w wr) := ⟨by rw [HZ.out],hbw⟩
   clear hmi hbw hbr
   go_wp2
   go_ret
   exact HR.out
  have hfI : (f : Int) < (m.fs.length : Int) := by omega
  obtain ⟨g,hg⟩ : ∃ g,m.fs[f]? = some g := ⟨_,List.getElem?_eq_getElem hfl⟩
  have hgm := List.mem_of_getElem? hg
  obtain ⟨p0,p1,p2,p3⟩ := HOK.out.fn g hgm
  have hgi := hmi.fin g hgm
  obtain ⟨fb,fo,hfA,_,hfc⟩ := hmi.frow (by intro e; rw [e] at hfl; simp at hfl)
  have HCA : Hid (∀ k u,g.cells.toList[k]? = some u → wr.cell? ((⟨fb,fo + f * 8,none⟩ : Addr).add k) = some u) := fun k u hu => by rw [Addr.add_lit]; exact hfc _ g hg k u hu
  obtain ⟨N12,hN12⟩ : ∃ N,wr.heap.size = N := ⟨_,rfl⟩
  have hst : ∀ c : Array Value,c.size = 8 → (storeCells ⟨wr.heap.size,0,none⟩ g.cells.toList).run Try.prog (wr.alloc (.cells c 50)) = .ok () (wr.alloc (.cells g.cells 50)) := fun c hc =>
   run_storeCells_new (P := Try.prog) wr 50 c g.cells (by show _ = some 8; kernel_rfl) hc (fnOne g)
  obtain ⟨W12,hW12⟩ : ∃ W,wr.alloc (.cells g.cells 50) = W := ⟨_,rfl⟩
  rw [hW12,hN12] at hst
  have hb12 : Below wr.heap.size wr W12 := by rw [← hW12]; exact (Below.refl _ _).alloc (Nat.le_refl _) _
  have hr12 : W12.heap[N12]? = some (.cells g.cells 50 (0,0)) := by rw [← hW12,← hN12]; exact alloc_at _ _
  have hs12 : W12.heap.size = N12 + 1 := by rw [← hW12]; simp [hN12]
  have hb112 : Below W1.heap.size W1 W12 := hbr.trans (hb12.mono hbr.size)
  have HG : Hid (∀ W,Below W12.heap.size W12 W → W.heap[N12]? = some (.cells #[.string g.c.nm,.int .i64 g.c.par,.slice g.c.varsA g.vs.length g.c.varsC,.bool g.c.rp,.string g.c.rto,.int .i64 g.c.rcl,.slice g.c.fromA g.c.nfrom g.c.fromC,.slice g.c.insA g.c.ins.length g.c.insC] 50 (0,0)) ∧ W.heap[N12]? = some (.cells g.cells 50 (0,0)) ∧ g.inn W ∧ Below W1.heap.size W1 W) := fun W hW => by
   have h1 := (hW.block N12 (by omega)).trans hr12
   have h2 := hb112.trans (hW.mono hb112.size)
   refine ⟨?_,h1,(HK.out W h2).2.2.1.fin g hgm,h2⟩
   rw [h1,← hgi.nvars]; rfl
  have HNEXT : Hid (∀ W,Below W12.heap.size W12 W → ∃ f' : Nat,f' ≤ m.fs.length ∧ Value.int .i64 ((f : Int) + 1) = .int .i64 (f' : Int) ∧ Below W1.heap.size W1 W) := fun W hW => ⟨f + 1,hfl,by simp,(HG.out W hW).2.2.2⟩
  obtain ⟨hcv,hcr⟩ := HO.out.cls g hgm
  have HCV := Lib.hid hcv
  have HCR := Lib.hid hcr
  have HFR : Hid (∀ W,Below W12.heap.size W12 W → Calls Try.prog 55 #[.agg g.cells] W fun e w' => e = .returned (.bool true) ∧ Below W.heap.size W w') := fun W hW => from20_calls g W (HG.out W hW).2.2.1 (HO.out.frm g hgm)
  have HMO : Hid (∀ W,Below W12.heap.size W12 W → ∀ (k : Nat) (i : Ins),g.c.ins[k]? = some i → Calls Try.prog 56 #[.agg g.cells,.agg i.cells] W fun e w' => e = .returned (.bool true) ∧ Below W.heap.size W w') := fun W hW k i hi => by
   have hgW := (HG.out W hW).2.2.1
   obtain ⟨l,hl⟩ : ∃ l,g.mds[k]? = some l := ⟨_,List.getElem?_eq_getElem (by rw [hgW.nmds]; exact (List.getElem?_eq_some_iff.1 hi).1)⟩
   exact moded20_calls g i W hgW (List.mem_of_getElem? hi) l (hgW.mds k i l hi hl) (HO.out.mds g hgm k i l hi hl)
  obtain ⟨r0,_,_,_⟩ := HG.out W12 (Below.refl _ _)
  have e2 : W12.cell? ⟨N12,2,none⟩ = some (.slice g.c.varsA g.vs.length g.c.varsC) := by rw [cell_of_row _ _ _ _ _ _ r0]; rfl
  rw [hfA] at c1
  clear hmi hbw hbr hg hgi hfA hfc hW12 hb12 hr12 hs12 hb112 hcv hcr r0
  go_upto_region 10 with (refine wpList_load_at rfl 50 _ rfl ⟨fb,fo + f * 8,none⟩ rfl g.cells _ HCA.out Try.underlying50 rfl (by kernel_rfl) ?_)
  clear hst c0 c1 HCA hN12
  go_wp2_with fail
  clear e2
  go_loopw [6] (fun c wq => ∃ v : Nat,v ≤ g.vs.length ∧ c = .int .i64 (v : Int) ∧ Below W12.heap.size W12 wq) (fun c _ => g.vs.length - (intOf c).toNat)
  case atStart => exact ⟨0,Nat.zero_le _,rfl,Below.refl _ _⟩
  case round =>
   obtain ⟨v,hv,rfl,hbq⟩ := hrel
   obtain ⟨r0,r1,hgi,_⟩ := HG.out wr hbq
   have e2 : wr.cell? ⟨N12,2,none⟩ = some (.slice g.c.varsA g.vs.length g.c.varsC) := by rw [cell_of_row _ _ _ _ _ _ r0]; rfl
   have HBQ := Lib.hid hbq
   by_cases hvl : v < g.vs.length
   ·have hvI : (v : Int) < (g.vs.length : Int) := by omega
    obtain ⟨x,hx⟩ : ∃ x,g.vs[v]? = some x := ⟨_,List.getElem?_eq_getElem hvl⟩
    obtain ⟨vb,vo,hvA,_,hvc⟩ := hgi.vars (by intro e; rw [e] at hvl; simp at hvl)
    have HLD : Hid (∀ k u,x.cells.toList[k]? = some u → wr.cell? ((⟨vb,vo + v * 3,none⟩ : Addr).add k) = some u) := fun k u hu => by rw [Addr.add_lit]; exact hvc v x hx k u hu
    have HCX := Lib.hid (HCC.out x)
    rw [HCV.out x (List.mem_of_getElem? hx)] at HCX
    have HNX : Hid (∀ W,Below wr.heap.size wr W → ∃ v' : Nat,v' ≤ g.vs.length ∧ Value.int .i64 ((v : Int) + 1) = .int .i64 (v' : Int) ∧ Below W12.heap.size W12 W) := fun W hW => ⟨v + 1,hvl,by simp,HBQ.out.trans (hW.mono HBQ.out.size)⟩
    rw [hvA] at e2
    clear hbq r0 r1 hgi hx hvA hvc
    go_wp2_with (first
     | (refine wpList_load_at rfl 47 _ rfl ⟨vb,vo + v * 3,none⟩ rfl x.cells _ HLD.out Try.underlying47 rfl (by kernel_rfl) ?_)
     | (go_at_call 54; refine (HCX.out _).mono ?_; rintro e w4 ⟨rfl,hb4⟩; have HR := Lib.hid (HNX.out w4 hb4); clear hb4))
    go_roundw
    case rel => exact HR.out
    case measure => simp [intOf]; omega
   have HLR : Hid (∀ k u,g.retV.cells.toList[k]? = some u → wr.cell? ((⟨N12,3,none⟩ : Addr).add k) = some u) := fun k u hu => by
    rw [Addr.add_lit,cell_of_row _ _ _ _ _ _ r0]
    have hk : k < 3 := (List.getElem?_eq_some_iff.1 hu).1
    match k,hk,hu with
    | 0,_,hu => exact hu
    | 1,_,hu => exact hu
    | 2,_,hu => exact hu
   have HCX := Lib.hid (HCC.out g.retV)
   rw [HCR.out] at HCX
   have HF4 : Hid (∀ W,Below wr.heap.size wr W → Below W12.heap.size W12 W) := fun W hW => HBQ.out.trans (hW.mono HBQ.out.size)
   have HLG : Hid (∀ W,Below W12.heap.size W12 W → ∀ k u,g.cells.toList[k]? = some u → W.cell? ((⟨N12,0,none⟩ : Addr).add k) = some u) := fun W hW k u hu => by
    rw [Addr.add_lit,Nat.zero_add,cell_of_row _ _ _ _ _ _ (HG.out W hW).2.1]; simpa using hu
   have hve : v = g.vs.length := by omega
   subst hve
   clear hbq r0 r1 hgi
   go_upto_region 17 with (first
    | (refine wpList_load_at rfl 47 _ rfl ⟨N12,3,none⟩ rfl g.retV.cells _ HLR.out Try.underlying47 rfl (by kernel_rfl) ?_)
    | (go_at_call 54; refine (HCX.out _).mono ?_; rintro e w4 ⟨rfl,hb4⟩; have HB4 := Lib.hid (HF4.out w4 hb4); have HLG4 := Lib.hid (HLG.out w4 HB4.out); have HFR4 := Lib.hid (HFR.out w4 HB4.out); clear hb4))
   clear e2
   go_wp2_with (refine wpList_load_at rfl 50 _ rfl ⟨N12,0,none⟩ rfl g.cells _ HLG4.out Try.underlying50 rfl (by kernel_rfl) ?_)
   go_at_call 55
   refine HFR4.out.mono ?_
   rintro e w5 ⟨rfl,hb5⟩
   have HB5 : Hid (Below W12.heap.size W12 w5) := HB4.out.trans (hb5.mono HB4.out.size)
   obtain ⟨r0,_,_,_⟩ := HG.out w5 HB5.out
   have e7 : w5.cell? ⟨N12,7,none⟩ = some (.slice g.c.insA g.c.ins.length g.c.insC) := by rw [cell_of_row _ _ _ _ _ _ r0]; rfl
   clear r0 hb5
   go_wp2_with fail
   clear e7
   go_loopw [7] (fun c wq => ∃ k : Nat,k ≤ g.c.ins.length ∧ c = .int .i64 (k : Int) ∧ Below W12.heap.size W12 wq) (fun c _ => g.c.ins.length - (intOf c).toNat)
   case atStart => exact ⟨0,Nat.zero_le _,rfl,HB5.out⟩
   case round =>
    obtain ⟨k,hk,rfl,hbq⟩ := hrel
    obtain ⟨r0,r1,hgi,_⟩ := HG.out wr hbq
    have e7 : wr.cell? ⟨N12,7,none⟩ = some (.slice g.c.insA g.c.ins.length g.c.insC) := by rw [cell_of_row _ _ _ _ _ _ r0]; rfl
    have HBQ := Lib.hid hbq
    by_cases hkl : k < g.c.ins.length
    rotate_left
    ·have HNX := Lib.hid (HNEXT.out wr hbq)
     clear hbq r0 r1 hgi
     go_wp2
     go_roundw
     case rel => exact HNX.out
     case measure => simp [intOf]; omega
    have hkI : (k : Int) < (g.c.ins.length : Int) := by omega
    obtain ⟨i,hi⟩ : ∃ i,g.c.ins[k]? = some i := ⟨_,List.getElem?_eq_getElem hkl⟩
    obtain ⟨ib,io,hiA,hib,hic⟩ := hgi.code.row (by intro e; rw [e] at hkl; simp at hkl)
    have k7 : ∀ p : BW wr,p.w.cell? ⟨N12,7,none⟩ = some (.slice (some ⟨ib,io,none⟩) g.c.ins.length g.c.insC) := fun p => by
     rw [← hiA]; exact cell_below p.h e7
    have HIL : Hid (∀ (p : BW wr) (j : Nat) (u : Value),i.cells.toList[j]? = some u → p.w.cell? ((⟨ib,io + k * 13,none⟩ : Addr).add j) = some u) := fun p j u hu => by
     rw [Addr.add_lit]; exact cell_below p.h (hic k i hi j u hu)
    have HGL : Hid (∀ (p : BW wr) (j : Nat) (u : Value),g.cells.toList[j]? = some u → p.w.cell? ((⟨N12,0,none⟩ : Addr).add j) = some u) := fun p j u hu => HLG.out p.w (HBQ.out.trans (p.h.mono HBQ.out.size)) j u hu
    have HMI : Hid (∀ p : BW wr,Calls Try.prog 56 #[.agg g.cells,.agg i.cells] p.w fun e w' => e = .returned (.bool true) ∧ Below p.w.heap.size p.w w') := fun p => HMO.out p.w (HBQ.out.trans (p.h.mono HBQ.out.size)) k i hi
    have HNX : Hid (∀ p : BW wr,∃ k' : Nat,k' ≤ g.c.ins.length ∧ Value.int .i64 ((k : Int) + 1) = .int .i64 (k' : Int) ∧ Below W12.heap.size W12 p.w) := fun p => ⟨k + 1,hkl,by simp,HBQ.out.trans (p.h.mono HBQ.out.size)⟩
    clear hbq r0 r1 hgi hi hic
    rw [hiA] at e7
    clear hiA
    go_wp2_with fail
    clear e7
    refine wp_region_quiet_bw (by kernel_rfl) (by kernel_rfl) ?_
    repeat (first
     | (go_big_quiet_want; (refine quiet_load_bw 50 _ rfl ⟨N12,0,none⟩ rfl _ _ HGL.out Try.underlying50 rfl (by kernel_rfl) ?_); (simp only [Act.put,List.setIfInBounds_toArray,List.set_cons_zero,List.set_cons_succ]); go_big_quiet_on)
     | (go_big_quiet_want; (refine quiet_load_bw 62 _ rfl ⟨ib,io + k * 13,none⟩ rfl _ _ HIL.out Try.underlying62 rfl (by kernel_rfl) ?_); (simp only [Act.put,List.setIfInBounds_toArray,List.set_cons_zero,List.set_cons_succ]); go_big_quiet_on)
     | (go_big_quiet_step ((go_at_call 56; exact bw_of (HMI.out _)))))
    refine wpQuiet_nil ?_
    rintro _ ⟨p,rfl⟩
    clear k7
    go_wp2
    go_roundw
    case rel => exact HNX.out p
    case measure => simp [intOf]; omega
end Go.Proofs.Ytlggjbopfnndbaa
