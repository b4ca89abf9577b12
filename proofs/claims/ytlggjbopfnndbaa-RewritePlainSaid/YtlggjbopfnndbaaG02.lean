import Derived.Test.YtlggjbopfnndbaaG01
import Derived.Deep.QuietTactic
import Derived.BigQuiet
import Derived.Deep.AppendLies
import Derived.Deep.LoopGhost
import Derived.Deep.RegionHeld3
import Derived.Deep.DeepCutAuto
import Derived.RegionTactic
import Derived.Laws.OwnMore
import Derived.Laws.IdiomCopy
import Derived.WalkMore
namespace Go.Proofs.Ytlggjbopfnndbaa
open Go.RowKit
def ints (xs : List Nat) : List Int := xs.map (fun x : Nat => (x : Int))
theorem alloc_at (w : World) (o : Obj) : (w.alloc o).heap[w.heap.size]? = some o := World.alloc_heap_new w o
end Go.Proofs.Ytlggjbopfnndbaa
namespace Go.Proofs.Ytlggjbopfnndbaa
open Go.RowKit
def RowOf {α : Type} (cells : α → Array Value) (stride : Nat) (w : World) (B : Nat) (ao : Option Addr) (xs : List α) : Prop :=
 xs ≠ [] → ∃ b off,ao = some ⟨b,off,none⟩ ∧ b < B ∧ ∀ i x,xs[i]? = some x → ∀ k u,(cells x).toList[k]? = some u → w.cell? ⟨b,off + i * stride + k,none⟩ = some u
theorem RowOf.below {α : Type} {cells : α → Array Value} {stride : Nat} {w w' : World} {B n : Nat} {ao : Option Addr} {xs : List α} (h : RowOf cells stride w B ao xs) (hb : Below n w w') (hn : B ≤ n) : RowOf cells stride w' B ao xs := by
 intro hne
 obtain ⟨b,off,h1,h2,h3⟩ := h hne
 exact ⟨b,off,h1,h2,fun i x hx k u hu => by rw [hb.cell (p := ⟨b,_,none⟩) (Nat.lt_of_lt_of_le h2 hn)]; exact h3 i x hx k u hu⟩
structure Stc where
 nm : ByteArray
 fA : Option Addr
 nf : Nat
 fC : Nat
 ln : Int
 cl : Int
def Stc.cells (s : Stc) : Array Value := #[.string s.nm,.slice s.fA s.nf s.fC,.int .i64 s.ln,.int .i64 s.cl]
def Stc.light (s : Stc) : Prop := s.nf ≤ 40 ∧ s.nm.size ≤ 60
def Ins.ok (i : Ins) : Prop := (∃ ao cap,i.argsV = .slice ao i.args.length cap) ∧ ∃ ao n cap,i.modeV = .slice ao n cap
def Ins.light (i : Ins) : Prop := i.args.length ≤ 40 ∧ (∃ ao n cap,i.modeV = .slice ao n cap ∧ n ≤ 40) ∧ i.sign.size ≤ 20
def Cod.light (c : Cod) : Prop := c.ins.length ≤ 400 ∧ c.nvars ≤ 400 ∧ c.nm.size ≤ 60 ∧ c.nfrom ≤ 40 ∧ ∀ x ∈ c.ins,x.light
def totalOf : List Cod → Nat
 | [] => 0
 | c :: r => c.ins.length + c.nvars + totalOf r
theorem totalOf_append (a b : List Cod) : totalOf (a ++ b) = totalOf a + totalOf b := by
 induction a with
 | nil => simp [totalOf]
 | cons x r ih => simp [totalOf,ih]; omega
def LightM (ss : List Stc) (cs : List Cod) : Prop := ss.length ≤ 40 ∧ cs.length ≤ 70 ∧ (∀ s ∈ ss,s.light) ∧ (∀ c ∈ cs,c.light) ∧ totalOf cs ≤ 1200
def SaysIf (w : World) (B : Nat) (p : Prop) (e : Ending) (w' : World) : Prop := ∃ b : Bool,e = .returned (.bool b) ∧ (b = true → p) ∧ Below B w w'
theorem take_all {α : Type} {p : α → Prop} {xs : List α} {j : Nat} {x : α} (h : ∀ y ∈ xs.take j,p y) (hx : xs[j]? = some x) (hp : p x) : ∀ y ∈ xs.take (j + 1),p y := by
 rw [take_snocI hx]
 intro y hy
 rcases List.mem_append.1 hy with h1 | h1
 ·exact h y h1
 ·simp at h1; subst h1; exact hp
set_option maxRecDepth 100000 in
set_option maxHeartbeats 4000000 in
theorem light5_calls (w : World) (sA fA : Option Addr) (sC fC : Nat) (ss : List Stc) (cs : List Cod) (hss : RowOf Stc.cells 4 w w.heap.size sA ss) (hcs : RowOf Cod.cells 8 w w.heap.size fA cs)
  (hin : ∀ c ∈ cs,InsRow w w.heap.size c.insA c.ins) (hok : ∀ c ∈ cs,∀ x ∈ c.ins,x.ok) (hs : ss.length ≤ 9223372036854775807) (hc : cs.length ≤ 9223372036854775807) :
  Calls Try.prog 73 #[.agg #[.slice sA ss.length sC,.slice fA cs.length fC]] w (SaysIf w w.heap.size (LightM ss cs)) := by
 have HSS := Lib.hid hss
 have HCS := Lib.hid hcs
 have HIN := Lib.hid hin
 have HOK := Lib.hid hok
 clear hss hcs hin hok
 by_cases g1 : 40 < ss.length
 ·go_enter Try.func73,Try.ntmps73
  go_wp2
  go_ret
  exact ⟨_,rfl,by simp,(Below.refl _ _).alloc (Nat.le_refl _) _⟩
 by_cases g2 : 70 < cs.length
 ·go_enter Try.func73,Try.ntmps73
  go_wp2
  go_ret
  exact ⟨_,rfl,by simp,(Below.refl _ _).alloc (Nat.le_refl _) _⟩
 go_enter Try.func73,Try.ntmps73
 go_wp2
 obtain ⟨N,hN⟩ : ∃ N,w.heap.size = N := ⟨_,rfl⟩
 obtain ⟨W0,hW0⟩ : ∃ W0,w.alloc (.cells #[.slice sA ss.length sC,.slice fA cs.length fC] 25) = W0 := ⟨_,rfl⟩
 have hb0 : Below N w W0 := by rw [← hW0,← hN]; exact (Below.refl _ _).alloc (Nat.le_refl _) _
 have hrow : W0.heap[N]? = some (.cells #[.slice sA ss.length sC,.slice fA cs.length fC] 25 (0,0)) := by rw [← hW0,← hN]; exact alloc_at _ _
 have hsz : W0.heap.size = N + 1 := by rw [← hW0]; simp [hN]
 have hk0 : W0.cell? ⟨N,0,none⟩ = some (.slice sA ss.length sC) := by rw [cell_of_row _ _ _ _ _ _ hrow]; rfl
 have hk1 : W0.cell? ⟨N,1,none⟩ = some (.slice fA cs.length fC) := by rw [cell_of_row _ _ _ _ _ _ hrow]; rfl
 have HS2 : Hid (RowOf Stc.cells 4 W0 N sA ss) := by have := HSS.out; rw [hN] at this; exact this.below hb0 (Nat.le_refl _)
 have HC2 : Hid (RowOf Cod.cells 8 W0 N fA cs) := by have := HCS.out; rw [hN] at this; exact this.below hb0 (Nat.le_refl _)
 have HI2 : Hid (∀ c ∈ cs,InsRow W0 N c.insA c.ins) := fun c hc => by have := HIN.out c hc; rw [hN] at this; exact InsRow.below this hb0 (Nat.le_refl _)
 rw [hW0,hN]
 have HB0 := Lib.hid hb0
 have hNlt : N < W0.heap.size := by omega
 clear hW0 hb0 hrow HSS HCS HIN hsz
 go_loop [4] (fun c => ∃ j : Nat,j ≤ ss.length ∧ c = .int .i64 (j : Int) ∧ ∀ s ∈ ss.take j,s.light) (fun c => ss.length - (intOf c).toNat)
 case atStart => exact ⟨0,Nat.zero_le _,rfl,by simp⟩
 case round =>
  obtain ⟨j,hj,rfl,hall⟩ := hrel
  have HALL := Lib.hid hall
  clear hall
  by_cases hjl : j < ss.length
  ·obtain ⟨s,hs1⟩ : ∃ s,ss[j]? = some s := ⟨_,List.getElem?_eq_getElem hjl⟩
   obtain ⟨b,off,rfl,hb1,hcell⟩ := HS2.out (by intro e; rw [e] at hjl; simp at hjl)
   have q0 : W0.cell? ⟨b,off + j * 4,none⟩ = some (.string s.nm) := hcell j s hs1 0 _ rfl
   have q1 : W0.cell? ⟨b,off + j * 4 + 1,none⟩ = some (.slice s.fA s.nf s.fC) := hcell j s hs1 1 _ rfl
   have HS1 := Lib.hid hs1
   clear hs1 hcell
   by_cases c1 : 40 < s.nf
   ·go_wp2
    go_ret
    exact ⟨_,rfl,by simp,HB0.out⟩
   ·by_cases c2 : 60 < s.nm.size
    ·go_wp2
     go_ret
     exact ⟨_,rfl,by simp,HB0.out⟩
    ·go_wp2
     go_round
     case rel => exact ⟨j + 1,by omega,by go_num,take_all HALL.out HS1.out ⟨by omega,by omega⟩⟩
     case measure => simp [intOf]; omega
  ·have hje : j = ss.length := by omega
   subst hje
   have HSL : Hid (∀ s ∈ ss,s.light) := by have := HALL.out; rwa [List.take_length] at this
   go_wp2
   go_loopw [3,5] (fun n c wr => ∃ j : Nat,j ≤ cs.length ∧ c = .int .i64 (j : Int) ∧ n = .int .i64 ((totalOf (cs.take j) : Nat) : Int) ∧ totalOf (cs.take j) ≤ 1200 ∧ (∀ x ∈ cs.take j,x.light) ∧ Below (N + 1) W0 wr) (fun _ c _ => cs.length - (intOf c).toNat)
   case atStart => exact ⟨0,Nat.zero_le _,rfl,rfl,by simp [totalOf],by simp,Below.refl _ _⟩
   case round =>
    obtain ⟨j,hj,rfl,rfl,ht,hall,hbw⟩ := hrel
    have HALL2 := Lib.hid hall
    have HBW := Lib.hid hbw
    have hk1r : wr.cell? ⟨N,1,none⟩ = some (.slice fA cs.length fC) := by rw [hbw.cell (p := ⟨N,1,none⟩) (by simp)]; exact hk1
    clear hall hbw
    by_cases hjl : j < cs.length
    ·obtain ⟨c,hc1⟩ : ∃ c,cs[j]? = some c := ⟨_,List.getElem?_eq_getElem hjl⟩
     obtain ⟨b,off,rfl,hb1,hcell⟩ := HC2.out (by intro e; rw [e] at hjl; simp at hjl)
     have hcw : ∀ k u,c.cells.toList[k]? = some u → wr.cell? ⟨b,off + j * 8 + k,none⟩ = some u := fun k u hu => by rw [HBW.out.cell (p := ⟨b,_,none⟩) (Nat.lt_succ_of_lt hb1)]; exact hcell j c hc1 k u hu
     have q0 : wr.cell? ⟨b,off + j * 8,none⟩ = some (.string c.nm) := hcw 0 _ rfl
     have q1 : wr.cell? ⟨b,off + j * 8 + 1,none⟩ = some (.int .i64 c.par) := hcw 1 _ rfl
     have q2 : wr.cell? ⟨b,off + j * 8 + 2,none⟩ = some (.slice c.varsA c.nvars c.varsC) := hcw 2 _ rfl
     have q3 : wr.cell? ⟨b,off + j * 8 + 3,none⟩ = some (.bool c.rp) := hcw 3 _ rfl
     have q4 : wr.cell? ⟨b,off + j * 8 + 4,none⟩ = some (.string c.rto) := hcw 4 _ rfl
     have q5 : wr.cell? ⟨b,off + j * 8 + 5,none⟩ = some (.int .i64 c.rcl) := hcw 5 _ rfl
     have q6 : wr.cell? ⟨b,off + j * 8 + 6,none⟩ = some (.slice c.fromA c.nfrom c.fromC) := hcw 6 _ rfl
     have q7 : wr.cell? ⟨b,off + j * 8 + 7,none⟩ = some (.slice c.insA c.ins.length c.insC) := hcw 7 _ rfl
     have HC1 := Lib.hid hc1
     clear hc1 hcell hcw
     have hbA : ∀ o : Obj,Below N w (wr.alloc o) := fun o => (HB0.out.trans (HBW.out.mono (by omega))).alloc (by have := HBW.out.size; omega) _
     have hwN : N + 1 ≤ wr.heap.size := by have := HBW.out.size; omega
     by_cases c1 : 400 < c.ins.length
     ·go_wp2
      go_ret
      exact ⟨_,rfl,by simp,hbA _⟩
     by_cases c2 : 400 < c.nvars
     ·go_wp2
      go_ret
      exact ⟨_,rfl,by simp,hbA _⟩
     by_cases c3 : 60 < c.nm.size
     ·go_wp2
      go_ret
      exact ⟨_,rfl,by simp,hbA _⟩
     by_cases c4 : 40 < c.nfrom
     ·go_wp2
      go_ret
      exact ⟨_,rfl,by simp,hbA _⟩
     have HTT : Hid (totalOf (cs.take (j + 1)) = totalOf (cs.take j) + (c.ins.length + c.nvars)) := by
      unfold Hid; rw [take_snocI HC1.out,totalOf_append]; simp [totalOf]
     obtain ⟨T,hT⟩ : ∃ T,T = totalOf (cs.take j) := ⟨_,rfl⟩
     rw [← hT] at ht HTT ⊢
     clear hT
     by_cases c5 : 1200 < T + c.ins.length + c.nvars
     ·go_wp2
      go_ret
      exact ⟨_,rfl,by simp,hbA _⟩
     go_wp2
     obtain ⟨W2,hW2⟩ : ∃ W2,wr.alloc (.cells c.cells 50) = W2 := ⟨_,rfl⟩
     obtain ⟨M,hM⟩ : ∃ M,wr.heap.size = M := ⟨_,rfl⟩
     have hrow2 : W2.heap[M]? = some (.cells c.cells 50 (0,0)) := by rw [← hW2,← hM]; exact alloc_at _ _
     have hk7 : W2.cell? ⟨M,7,none⟩ = some (.slice c.insA c.ins.length c.insC) := by rw [cell_of_row _ _ _ _ _ _ hrow2]; rfl
     have HB2 : Hid (Below (N + 1) W0 W2) := by rw [← hW2]; exact HBW.out.alloc hwN _
     have HI3 : Hid (InsRow W2 N c.insA c.ins) := InsRow.below (HI2.out c (List.mem_of_getElem? HC1.out)) HB2.out (by omega)
     have HOKC : Hid (∀ x ∈ c.ins,x.ok) := HOK.out c (List.mem_of_getElem? HC1.out)
     have HW2 := Lib.hid hW2
     simp only [Cod.cells] at hW2
     rw [hW2,hM]
     clear hW2 hrow2 hM q0 q1 q2 q3 q4 q5 q6 q7
     go_loop [7] (fun k => ∃ q : Nat,q ≤ c.ins.length ∧ k = .int .i64 (q : Int) ∧ ∀ x ∈ c.ins.take q,x.light) (fun k => c.ins.length - (intOf k).toNat)
     case atStart => exact ⟨0,Nat.zero_le _,rfl,by simp⟩
     case round =>
      obtain ⟨q,hq,rfl,hall⟩ := hrel
      have HALL3 := Lib.hid hall
      clear hall
      by_cases hql : q < c.ins.length
      ·obtain ⟨x,hx1⟩ : ∃ x,c.ins[q]? = some x := ⟨_,List.getElem?_eq_getElem hql⟩
       obtain ⟨b2,off2,hA2,hb2,hcell⟩ := HI3.out (by intro e; rw [e] at hql; simp at hql)
       obtain ⟨⟨aoa,capa,hav⟩,aom,nm,capm,hmv⟩ := HOKC.out x (List.mem_of_getElem? hx1)
       have r7 : W2.cell? ⟨b2,off2 + q * 13 + 7,none⟩ = some (.slice aoa x.args.length capa) := hcell q x hx1 7 _ (by rw [← hav]; rfl)
       have r8 : W2.cell? ⟨b2,off2 + q * 13 + 8,none⟩ = some (.slice aom nm capm) := hcell q x hx1 8 _ (by rw [← hmv]; rfl)
       have r6 : W2.cell? ⟨b2,off2 + q * 13 + 6,none⟩ = some (.string x.sign) := hcell q x hx1 6 _ rfl
       rw [hA2] at hk7
       have HX1 := Lib.hid hx1
       have HMV := Lib.hid hmv
       clear hx1 hcell hA2 hav hmv
       by_cases d1 : 40 < x.args.length
       ·go_wp2
        go_ret
        exact ⟨_,rfl,by simp,HB0.out.trans (HB2.out.mono (by omega))⟩
       by_cases d2 : 40 < nm
       ·go_wp2
        go_ret
        exact ⟨_,rfl,by simp,HB0.out.trans (HB2.out.mono (by omega))⟩
       by_cases d3 : 20 < x.sign.size
       ·go_wp2
        go_ret
        exact ⟨_,rfl,by simp,HB0.out.trans (HB2.out.mono (by omega))⟩
       go_wp2
       go_round
       case rel => exact ⟨q + 1,by omega,by go_num,take_all HALL3.out HX1.out ⟨by omega,⟨_,_,_,HMV.out,by omega⟩,by omega⟩⟩
       case measure => simp [intOf]; omega
      ·have hqe : q = c.ins.length := by omega
       subst hqe
       have HCL : Hid c.light := by
        refine ⟨by omega,by omega,by omega,by omega,?_⟩
        have := HALL3.out; rwa [List.take_length] at this
       go_wp2
       go_roundw
       case rel => exact ⟨j + 1,by omega,by go_num,by rw [HTT.out]; go_num,by rw [HTT.out]; omega,take_all HALL2.out HC1.out HCL.out,HB2.out⟩
       case measure => simp [intOf]; omega
    ·have hje : j = cs.length := by omega
     subst hje
     have HM : Hid (LightM ss cs) := by
      refine ⟨by omega,by omega,HSL.out,?_,?_⟩
      ·have := HALL2.out; rwa [List.take_length] at this
      ·rwa [List.take_length] at ht
     go_wp2
     go_ret
     have hh : Below N w wr := HB0.out.trans (HBW.out.mono (by omega))
     exact ⟨_,rfl,fun _ => HM.out,by first | exact hh | (rw [hN]; exact hh)⟩
end Go.Proofs.Ytlggjbopfnndbaa
