/- The reference's judges: what an instruction names is there. -/
import Derived.Test.YtlggjbopfnndbaaG52
import Derived.Test.YtlggjbopfnndbaaG06
import Derived.Test.YtlggjbopfnndbaaG36
namespace Go.Proofs.Ytlggjbopfnndbaa
open Go.RowKit
theorem thereF_append (n : Nat) (xs ys : List Int) : thereF n (xs ++ ys) = (thereF n xs && thereF n ys) := by unfold thereF; rw [List.all_append]
theorem there_a {g : Fn} {i : Ins} (h : thereF g.vs.length (readsOf i) = true) (ha : shA i.op = true) : isVar g.vs.length i.a = true := by
 unfold readsOf at h
 rw [if_pos ha,thereF_append,thereF_append] at h
 simp only [Bool.and_eq_true] at h
 simpa [thereF] using h.1.1
theorem there_b {g : Fn} {i : Ins} (h : thereF g.vs.length (readsOf i) = true) (ha : shB i.op = true) : isVar g.vs.length i.b = true := by
 unfold readsOf at h
 rw [if_pos ha,thereF_append,thereF_append] at h
 simp only [Bool.and_eq_true] at h
 simpa [thereF] using h.1.2
theorem there_args {g : Fn} {i : Ins} (h : thereF g.vs.length (readsOf i) = true) (ha : i.op = 15) : ∀ a ∈ i.args,isVar g.vs.length a = true := by
 unfold readsOf at h
 rw [if_pos ha,thereF_append,thereF_append] at h
 simp only [Bool.and_eq_true] at h
 exact List.all_eq_true.1 h.2
structure Bx (m : Mo) (g : Fn) (i : Ins) (ao : Option Addr) (N : Nat) (W : World) : Prop where
 m0 : W.cell? ⟨N,0,none⟩ = some (.slice m.sA m.ss.length m.sC)
 m1 : W.cell? ⟨N,1,none⟩ = some (.slice m.fA m.fs.length m.fC)
 gr : W.heap[N + 1]? = some (.cells #[.string g.c.nm,.int .i64 g.c.par,.slice ao g.vs.length g.c.varsC,.bool g.c.rp,.string g.c.rto,.int .i64 g.c.rcl,.slice g.c.fromA g.c.nfrom g.c.fromC,.slice g.c.insA g.c.ins.length g.c.insC] 50 (0,0))
 ir : W.heap[N + 2]? = some (.cells #[.int .i64 i.op,.int .i64 i.d,.int .i64 i.a,.int .i64 i.b,.int .i64 i.f,.int .i64 i.n,.string i.sign,i.argsV,i.modeV,.int .i64 i.to,.int .i64 i.els,.int .i64 i.ln,.int .i64 i.cl] 62 (0,0))
theorem Bx.g2 {m : Mo} {g : Fn} {i : Ins} {ao : Option Addr} {N : Nat} {W : World} (h : Bx m g i ao N W) : W.cell? ⟨N + 1,2,none⟩ = some (.slice ao g.vs.length g.c.varsC) := by rw [cell_of_row _ _ _ _ _ _ h.gr]; rfl
theorem Bx.g3 {m : Mo} {g : Fn} {i : Ins} {ao : Option Addr} {N : Nat} {W : World} (h : Bx m g i ao N W) : W.cell? ⟨N + 1,3,none⟩ = some (.bool g.c.rp) := by rw [cell_of_row _ _ _ _ _ _ h.gr]; rfl
theorem Bx.g4 {m : Mo} {g : Fn} {i : Ins} {ao : Option Addr} {N : Nat} {W : World} (h : Bx m g i ao N W) : W.cell? ⟨N + 1,3 + 1,none⟩ = some (.string g.c.rto) := by rw [cell_of_row _ _ _ _ _ _ h.gr]; rfl
theorem Bx.g7 {m : Mo} {g : Fn} {i : Ins} {ao : Option Addr} {N : Nat} {W : World} (h : Bx m g i ao N W) : W.cell? ⟨N + 1,7,none⟩ = some (.slice g.c.insA g.c.ins.length g.c.insC) := by rw [cell_of_row _ _ _ _ _ _ h.gr]; rfl
theorem Bx.i0 {m : Mo} {g : Fn} {i : Ins} {ao : Option Addr} {N : Nat} {W : World} (h : Bx m g i ao N W) : W.cell? ⟨N + 2,0,none⟩ = some (.int .i64 i.op) := by rw [cell_of_row _ _ _ _ _ _ h.ir]; rfl
theorem Bx.i2 {m : Mo} {g : Fn} {i : Ins} {ao : Option Addr} {N : Nat} {W : World} (h : Bx m g i ao N W) : W.cell? ⟨N + 2,2,none⟩ = some (.int .i64 i.a) := by rw [cell_of_row _ _ _ _ _ _ h.ir]; rfl
theorem Bx.i3 {m : Mo} {g : Fn} {i : Ins} {ao : Option Addr} {N : Nat} {W : World} (h : Bx m g i ao N W) : W.cell? ⟨N + 2,3,none⟩ = some (.int .i64 i.b) := by rw [cell_of_row _ _ _ _ _ _ h.ir]; rfl
theorem Bx.i4 {m : Mo} {g : Fn} {i : Ins} {ao : Option Addr} {N : Nat} {W : World} (h : Bx m g i ao N W) : W.cell? ⟨N + 2,4,none⟩ = some (.int .i64 i.f) := by rw [cell_of_row _ _ _ _ _ _ h.ir]; rfl
theorem Bx.i6 {m : Mo} {g : Fn} {i : Ins} {ao : Option Addr} {N : Nat} {W : World} (h : Bx m g i ao N W) : W.cell? ⟨N + 2,6,none⟩ = some (.string i.sign) := by rw [cell_of_row _ _ _ _ _ _ h.ir]; rfl
theorem Bx.i9 {m : Mo} {g : Fn} {i : Ins} {ao : Option Addr} {N : Nat} {W : World} (h : Bx m g i ao N W) : W.cell? ⟨N + 2,9,none⟩ = some (.int .i64 i.to) := by rw [cell_of_row _ _ _ _ _ _ h.ir]; rfl
theorem Bx.i10 {m : Mo} {g : Fn} {i : Ins} {ao : Option Addr} {N : Nat} {W : World} (h : Bx m g i ao N W) : W.cell? ⟨N + 2,10,none⟩ = some (.int .i64 i.els) := by rw [cell_of_row _ _ _ _ _ _ h.ir]; rfl
theorem cells_at {w : World} {b : Nat} {cs : Array Value} {t : TypeId} (h : w.heap[b]? = some (.cells cs t (0,0))) : ∀ j u,cs.toList[j]? = some u → w.cell? ((⟨b,0,none⟩ : Addr).add j) = some u := by
 intro j u hu
 rw [Addr.add_lit,Nat.zero_add,cell_of_row _ _ _ _ _ _ h]
 rw [← hu,Array.getElem?_toList]
set_option maxRecDepth 100000 in
set_option maxHeartbeats 32000000 in
theorem rinstr0_calls (m : Mo) (g : Fn) (i : Ins) (w : World) (h : JIn w m g) (hi : i.args_in w) (hal : i.args.length ≤ 40) (hkn : ∀ v,isVar g.vs.length v = true → m.known (tyAt g.vs v) = true) (hop : i.op < 1 ∨ 18 < i.op) :
  Calls Try.prog 59 #[.agg m.cells,.agg g.cells,.agg i.cells] w fun e w' => e = .returned (.int .i64 (instrF m g i)) ∧ Below w.heap.size w w' := by
 obtain ⟨ao,hao⟩ : ∃ ao,g.c.varsA = ao := ⟨_,rfl⟩
 have hgc := gc_cells h.nv hao
 obtain ⟨N,hN⟩ : ∃ N,w.heap.size = N := ⟨_,rfl⟩
 obtain ⟨W1,hW1⟩ : ∃ W1,((w.alloc (.cells m.cells 25)).alloc (.cells g.cells 50)).alloc (.cells i.cells 62) = W1 := ⟨_,rfl⟩
 obtain ⟨hb1,hs1,r0,r1,r2⟩ := box3 hW1
 rw [hN] at hb1 hs1 r0 r1 r2
 rw [hgc] at r1
 have HBX : Hid (∀ W,Below (N + 3) W1 W → Bx m g i ao N W) := fun W hW => by
  have q0 := (hW.block N (by omega)).trans r0
  exact ⟨by rw [cell_of_row _ _ _ _ _ _ q0]; rfl,by rw [cell_of_row _ _ _ _ _ _ q0]; rfl,(hW.block (N + 1) (by omega)).trans r1,(hW.block (N + 2) (by omega)).trans r2⟩
 have HBN : Hid (∀ W,Below (N + 3) W1 W → Below N w W) := fun W hW => hb1.trans (hW.mono (by omega))
 have HJ : Hid (∀ W,Below (N + 3) W1 W → JIn W m g) := fun W hW => h.below (by rw [hN]; exact HBN.out W hW)
 have HAI : Hid (∀ W,Below (N + 3) W1 W → i.args_in W) := fun W hW => by
  obtain ⟨h1,ao,cap,h2,h3⟩ := hi
  exact ⟨h1,ao,cap,h2,RowOf.grow h3 (by rw [hN]; exact HBN.out W hW)⟩
 have hok := hi.1
 have HHS : Hid (∀ W ao' cap' (xs : List Int),xs.length ≤ 42 → IntsAt W ao' xs → Calls Try.prog 86 #[.agg #[.string g.c.nm,.int .i64 g.c.par,.slice ao g.vs.length g.c.varsC,.bool g.c.rp,.string g.c.rto,.int .i64 g.c.rcl,.slice g.c.fromA g.c.nfrom g.c.fromC,.slice g.c.insA g.c.ins.length g.c.insC],.slice ao' xs.length cap'] W fun e w' => e = .returned (.bool (thereF g.vs.length xs)) ∧ Below W.heap.size W w') := fun W ao' cap' xs hx hat => by
  have := rhas_calls g W ao' cap' xs h.nv (by unfold maxLen; omega) hat
  rw [hgc] at this; exact this
 have HWR : Hid (∀ W,Calls Try.prog 85 #[.agg #[.int .i64 i.op,.int .i64 i.d,.int .i64 i.a,.int .i64 i.b,.int .i64 i.f,.int .i64 i.n,.string i.sign,i.argsV,i.modeV,.int .i64 i.to,.int .i64 i.els,.int .i64 i.ln,.int .i64 i.cl]] W fun e w' => e = .returned (.tuple #[.int .i64 (writesOf i).1,.bool (writesOf i).2]) ∧ Below W.heap.size W w') := fun W => refWrites_calls i W hok
 have HRD : Hid (∀ W,Below (N + 3) W1 W → Calls Try.prog 87 #[.agg #[.int .i64 i.op,.int .i64 i.d,.int .i64 i.a,.int .i64 i.b,.int .i64 i.f,.int .i64 i.n,.string i.sign,i.argsV,i.modeV,.int .i64 i.to,.int .i64 i.els,.int .i64 i.ln,.int .i64 i.cl]] W (GivesI W (readsOf i))) := fun W hW => refReads_calls i W (HAI.out W hW) hal
 have HALQ := Lib.hid hal
 have HRL : Hid ((readsOf i).length ≤ 42) := by
  unfold Hid readsOf
  simp only [List.length_append]
  have : (if shA i.op = true then [i.a] else []).length ≤ 1 := by split <;> simp
  have : (if shB i.op = true then [i.b] else []).length ≤ 1 := by split <;> simp
  have : (if i.op = 15 then i.args else []).length ≤ 40 := by split <;> first | exact HALQ.out | simp
  omega
 have HALL := Lib.hid hal
 have HKN := Lib.hid hkn
 have HHJ := Lib.hid h
 have HHI := Lib.hid hi
 have HGC := Lib.hid hgc
 have HAO := Lib.hid hao
 rw [hgc] at hW1 ⊢
 simp only [Mo.cells,gc,Ins.cells] at hW1 ⊢
 have HW1 := Lib.hid hW1
 have HN := Lib.hid hN
 have HS1 := Lib.hid hs1
 obtain ⟨R,hR⟩ : ∃ R,instrF m g i = R := ⟨_,rfl⟩
 rw [hR]
 have HR := Lib.hid hR
 have HRR : Hid (R = 3) := by unfold Hid; rw [← HR.out]; unfold instrF; rw [if_pos hop]
 have hx1 := HBX.out W1 (Below.refl _ _)
 have HR2 := Lib.hid hx1.ir
 clear h hi hal hkn hgc hao hok hW1 hb1 r0 r1 r2 hR
 have hs1' : W1.heap.size = N + 3 := hs1
 go_enter Try.func59,Try.ntmps59
 go_upto_region 1 with (fail)
 rw [HW1.out]
 clear HW1 hx1 hN
 go_upto_region 2 with (first
  | (refine wpList_load_row rfl 62 _ rfl (N + 2) rfl 62 _ (0,0) _ HR2.out Try.underlying62 rfl (by kernel_rfl) ?_)
  | (go_at_call 85; refine (HWR.out _).mono ?_; rintro e w2 ⟨rfl,hb2⟩; have HB2 := Lib.hid hb2; clear hb2))
 have hb2 : Below (N + 3) W1 w2 := by have := HB2.out; rwa [hs1'] at this
 have i0 := (HBX.out w2 hb2).i0
 have HF2 := Lib.hid (HBN.out w2 hb2)
 by_cases h1 : i.op < 1
 ·have o1 : decide (i.op < 1) = true := decide_eq_true h1
  go_wp2
  go_ret
  rw [HRR.out,HN.out]
  exact ⟨rfl,HF2.out⟩
 ·have o1 : decide (i.op < 1) = false := decide_eq_false h1
  have h2 : 18 < i.op := by omega
  have o2 : decide (18 < i.op) = true := decide_eq_true h2
  go_wp2
  go_ret
  rw [HRR.out,HN.out]
  exact ⟨rfl,HF2.out⟩
end Go.Proofs.Ytlggjbopfnndbaa
