import Derived.Test.YtlggjbopfnndbaaG50
import Derived.Test.YtlggjbopfnndbaaIrF
namespace Go.Proofs.Ytlggjbopfnndbaa
open Go.RowKit
theorem box3 {w W1 : World} {a b c : Array Value} {ta tb tc : TypeId} (h : ((w.alloc (.cells a ta)).alloc (.cells b tb)).alloc (.cells c tc) = W1) :
  Below w.heap.size w W1 ∧ W1.heap.size = w.heap.size + 3 ∧ W1.heap[w.heap.size]? = some (.cells a ta (0,0)) ∧ W1.heap[w.heap.size + 1]? = some (.cells b tb (0,0)) ∧ W1.heap[w.heap.size + 2]? = some (.cells c tc (0,0)) := by
 subst h
 refine ⟨(((Below.refl _ _).alloc (Nat.le_refl _) _).alloc (by simp) _).alloc (by simp; omega) _,by simp,?_,?_,?_⟩
 ·rw [Below.heap_alloc _ _ _ (by simp; omega),Below.heap_alloc _ _ _ (by simp)]; exact alloc_at _ _
 ·rw [Below.heap_alloc _ _ _ (by simp)]
  have := alloc_at (w.alloc (.cells a ta)) (.cells b tb)
  rwa [World.size_alloc] at this
 ·have := alloc_at ((w.alloc (.cells a ta)).alloc (.cells b tb)) (.cells c tc)
  rwa [World.size_alloc,World.size_alloc] at this
def gc (g : Fn) (ao : Option Addr) : Array Value := #[.string g.c.nm,.int .i64 g.c.par,.slice ao g.vs.length g.c.varsC,.bool g.c.rp,.string g.c.rto,.int .i64 g.c.rcl,.slice g.c.fromA g.c.nfrom g.c.fromC,.slice g.c.insA g.c.ins.length g.c.insC]
theorem gc_cells {g : Fn} {ao : Option Addr} (h : g.c.nvars = g.vs.length) (e : g.c.varsA = ao) : g.cells = gc g ao := by
 unfold Fn.cells Cod.cells gc
 rw [h,e]
set_option maxRecDepth 100000 in
set_option maxHeartbeats 8000000 in
theorem rheap7_calls (m : Mo) (g : Fn) (i : Ins) (w : World) (h : JIn w m g) (hop : i.op = 7) (ha : isVar g.vs.length i.a = true) (ho : isVar g.vs.length i.d = true) (hk : m.known (tyAt g.vs i.a) = true) :
  Calls Try.prog 89 #[.agg m.cells,.agg g.cells,.agg i.cells] w fun e w' => e = .returned (.int .i64 (heapF m g.vs i i.d false)) ∧ Below w.heap.size w w' := by
 have HF : Hid (∀ W,Below w.heap.size w W → Calls Try.prog 109 #[.agg m.cells,.agg g.cells,.int .i64 i.a,.int .i64 i.f] W fun e w' => e = .returned (.tuple #[tyV (fieldF m g.vs i.a i.f).1,.int .i64 (fieldF m g.vs i.a i.f).2]) ∧ Below W.heap.size W w') := fun W hW => rfield_calls m g i.a i.f W (h.below hW) ha hk
 have HE : Hid (heapF m g.vs i i.d false = if (fieldF m g.vs i.a i.f).2 ≠ 0 then (fieldF m g.vs i.a i.f).2 else unl ((fieldF m g.vs i.a i.f).1 == tyAt g.vs i.d && (fieldF m g.vs i.a i.f).1.1 == false) 7) := rfl
 obtain ⟨ka,vb,vo,xa,hka,hka2,hvA,hvb,hta,ha0,ha1⟩ := var_at h.vars ha
 obtain ⟨kd,vb2,vo2,xd,hkd,hkd2,hvA2,_,htd,hd0,hd1⟩ := var_at h.vars ho
 rw [hvA] at hvA2
 simp only [Option.some.injEq,Addr.mk.injEq,and_true] at hvA2
 obtain ⟨rfl,rfl⟩ := hvA2
 rw [htd] at HE
 obtain ⟨R,hR⟩ : ∃ R,heapF m g.vs i i.d false = R := ⟨_,rfl⟩
 rw [hR] at HE ⊢
 obtain ⟨⟨⟨b,s⟩,z⟩,hz⟩ : ∃ F,fieldF m g.vs i.a i.f = F := ⟨_,rfl⟩
 rw [hz] at HE HF
 unfold tyV at HF
 have hst : ∀ (w : World) (c : Array Value),c.size = 2 → (storeCells ⟨w.heap.size,0,none⟩ [.bool b,.string s] 0).run Try.prog (w.alloc (.cells c 45)) = .ok () (w.alloc (.cells #[.bool b,.string s] 45)) := fun w c hc =>
  run_storeCells_new (P := Try.prog) w 45 c #[.bool b,.string s] (by show _ = some 2; kernel_rfl) hc (by simp [Value.oneCell'])
 have hst2 : ∀ (w : World) (c : Array Value),c.size = 2 → (storeCells ⟨w.heap.size,0,none⟩ [.bool xa.ptr,.string xa.tgt] 0).run Try.prog (w.alloc (.cells c 45)) = .ok () (w.alloc (.cells #[.bool xa.ptr,.string xa.tgt] 45)) := fun w c hc =>
  run_storeCells_new (P := Try.prog) w 45 c #[.bool xa.ptr,.string xa.tgt] (by show _ = some 2; kernel_rfl) hc (by simp [Value.oneCell'])
 have hnv := h.nv
 have hvl := h.vl
 unfold maxLen at hvl
 have hkaI : (ka : Int) < (g.vs.length : Int) := by omega
 have hkdI : (kd : Int) < (g.vs.length : Int) := by omega
 have hgc := gc_cells hnv hvA
 rw [hgc] at HF ⊢
 simp only [Mo.cells,Ins.cells] at HF ⊢
 rw [hka] at HF
 rw [hop,hka,hkd]
 simp only [gc] at HF ⊢
 obtain ⟨N,hN⟩ : ∃ N,w.heap.size = N := ⟨_,rfl⟩
 obtain ⟨W1,hW1⟩ : ∃ W1,((w.alloc (.cells m.cells 25)).alloc (.cells (gc g (some ⟨vb,vo,none⟩)) 50)).alloc (.cells i.cells 62) = W1 := ⟨_,rfl⟩
 obtain ⟨hb1,hs1,r0,r1,r2⟩ := box3 hW1
 rw [hN] at hb1 hs1 r0 r1 r2
 have HR1 : Hid (W1.heap[N + 1]? = some (.cells #[.string g.c.nm,.int .i64 g.c.par,.slice (some ⟨vb,vo,none⟩) g.vs.length g.c.varsC,.bool g.c.rp,.string g.c.rto,.int .i64 g.c.rcl,.slice g.c.fromA g.c.nfrom g.c.fromC,.slice g.c.insA g.c.ins.length g.c.insC] 50 (0,0))) := r1
 have HK : Hid (∀ W,Below (N + 3) W1 W → W.cell? ⟨N + 1,2,none⟩ = some (.slice (some ⟨vb,vo,none⟩) g.vs.length g.c.varsC) ∧ W.cell? ⟨N + 2,0,none⟩ = some (.int .i64 7) ∧ W.cell? ⟨N + 2,2,none⟩ = some (.int .i64 (ka : Int)) ∧ W.cell? ⟨N + 2,1,none⟩ = some (.int .i64 (kd : Int)) ∧
   W.cell? ⟨vb,vo + ka * 3,none⟩ = some (.bool xa.ptr) ∧ W.cell? ⟨vb,vo + ka * 3 + 1,none⟩ = some (.string xa.tgt) ∧ W.cell? ⟨vb,vo + kd * 3,none⟩ = some (.bool xd.ptr) ∧ W.cell? ⟨vb,vo + kd * 3 + 1,none⟩ = some (.string xd.tgt) ∧ Below N w W) := fun W hW => by
  have p1 := (hW.block (N + 1) (by omega)).trans r1
  have p2 := (hW.block (N + 2) (by omega)).trans r2
  have hbw := hb1.trans (hW.mono (by omega))
  refine ⟨?_,?_,?_,?_,?_,?_,?_,?_,hbw⟩
  ·rw [cell_of_row _ _ _ _ _ _ p1]; rfl
  ·rw [cell_of_row _ _ _ _ _ _ p2,← hop]; rfl
  ·rw [cell_of_row _ _ _ _ _ _ p2,← hka]; rfl
  ·rw [cell_of_row _ _ _ _ _ _ p2,← hkd]; rfl
  ·rw [hbw.cell (p := ⟨vb,_,none⟩) (show vb < N by omega)]; exact ha0
  ·rw [hbw.cell (p := ⟨vb,_,none⟩) (show vb < N by omega)]; exact ha1
  ·rw [hbw.cell (p := ⟨vb,_,none⟩) (show vb < N by omega)]; exact hd0
  ·rw [hbw.cell (p := ⟨vb,_,none⟩) (show vb < N by omega)]; exact hd1
 have c0 : W1.cell? ⟨N,0,none⟩ = some (.slice m.sA m.ss.length m.sC) := by rw [cell_of_row _ _ _ _ _ _ r0]; rfl
 have c1 : W1.cell? ⟨N,1,none⟩ = some (.slice m.fA m.fs.length m.fC) := by rw [cell_of_row _ _ _ _ _ _ r0]; rfl
 have c2 : W1.cell? ⟨N + 2,2,none⟩ = some (.int .i64 (ka : Int)) := by rw [cell_of_row _ _ _ _ _ _ r2,← hka]; rfl
 have c3 : W1.cell? ⟨N + 2,4,none⟩ = some (.int .i64 i.f) := by rw [cell_of_row _ _ _ _ _ _ r2]; rfl
 have hW1' := hW1
 simp only [Mo.cells,Ins.cells,gc] at hW1'
 rw [hop,hka] at hW1'
 rw [hkd] at hW1'
 have HW1 := Lib.hid hW1'
 have HN := Lib.hid hN
 have HB1 := Lib.hid hb1
 have HS1 := Lib.hid hs1
 rw [hN] at HF
 clear h ha ho hk hop hka hkd hvA hvb hta htd ha0 ha1 hd0 hd1 hR hz hgc hW1 hW1' hb1 r0 r1 r2 hnv hkd2 hka2 hs1
 go_enter Try.func89,Try.ntmps89
 go_upto_region 1 with (fail)
 rw [HW1.out]
 go_upto_region 2 with (first
  | (refine wpList_load_row rfl 50 _ rfl (N + 1) rfl 50 _ (0,0) _ HR1.out Try.underlying50 rfl (by kernel_rfl) ?_)
  | (go_at_call 109; refine (HF.out _ HB1.out).mono ?_; rintro e w2 ⟨rfl,hb2⟩; have HB2 := Lib.hid hb2; clear hb2))
 clear c0 c1 c2 c3 HW1
 obtain ⟨T,hT⟩ : ∃ T,w2.heap.size = T := ⟨_,rfl⟩
 obtain ⟨W3,hW3⟩ : ∃ W3,w2.alloc (.cells #[.bool b,.string s] 45) = W3 := ⟨_,rfl⟩
 rw [hT,hW3]
 have hTN : N + 3 ≤ T := by have := HB2.out.size; rw [HS1.out] at this; omega
 have hb12 : Below (N + 3) W1 w2 := by have := HB2.out; rwa [HS1.out] at this
 have hb13 : Below (N + 3) W1 W3 := by rw [← hW3]; exact hb12.alloc (by omega) _
 have hs3 : W3.heap.size = T + 1 := by rw [← hW3]; simp [hT]
 have hr3 : W3.heap[T]? = some (.cells #[.bool b,.string s] 45 (0,0)) := by rw [← hW3,← hT]; exact alloc_at _ _
 by_cases hz : z = 0
 ·subst hz
  have HRR : Hid (R = unl (((b,s) : Ty) == (xd.ptr,xd.tgt) && b == false) 7) := by unfold Hid; rw [HE.out,if_neg (by simp)]
  obtain ⟨W5,hW5⟩ : ∃ W5,W3.alloc (.cells #[.bool xa.ptr,.string xa.tgt] 45) = W5 := ⟨_,rfl⟩
  have hb15 : Below (N + 3) W1 W5 := by rw [← hW5]; exact hb13.alloc (by omega) _
  have hs5 : W5.heap.size = T + 2 := by rw [← hW5]; simp [hs3]
  have hr5 : W5.heap[T + 1]? = some (.cells #[.bool xa.ptr,.string xa.tgt] 45 (0,0)) := by rw [← hW5,← hs3]; exact alloc_at _ _
  have hr35 : W5.heap[T]? = some (.cells #[.bool b,.string s] 45 (0,0)) := by rw [← hW5,Below.heap_alloc _ _ _ (by omega)]; exact hr3
  obtain ⟨c0,c1,c2,c3,c4,c5,c6,c7,_⟩ := HK.out W3 hb13
  have HW5 := Lib.hid hW5
  have HB5 := Lib.hid hb15
  have HR5 := Lib.hid hr5
  have HR35 := Lib.hid hr35
  have HS5 := Lib.hid hs5
  have HB13 := Lib.hid hb13
  obtain ⟨d,hdd⟩ : ∃ d,(((b,s) : Ty) == (xd.ptr,xd.tgt)) = d := ⟨_,rfl⟩
  have heq : ∀ w,(Op.equalIn 10000 45 (.agg #[.bool b,.string s]) (.agg #[.bool xd.ptr,.string xd.tgt])).run Try.prog w = .ok d w := fun w => by rw [ty_eqIn,hdd]
  rw [hdd] at HRR
  have d0 : ((0 : Int) != 0) = false := rfl
  clear hst hW5 hb15 hr5 hr35 hs5 hW3 hb13 hb12 HB2 hdd HE HF
  go_upto_region 5 with (fail)
  rw [HW5.out]
  clear c0 c1 c2 c3 c4 c5 c6 c7 hst2 hr3 HW5
  obtain ⟨c0,c1,c2,c3,c4,c5,c6,c7,_⟩ := HK.out W5 HB5.out
  have k0 : W5.cell? ⟨T + 1,0,none⟩ = some (.bool xa.ptr) := by rw [cell_of_row _ _ _ _ _ _ HR5.out]; rfl
  have k1 : W5.cell? ⟨T + 1,1,none⟩ = some (.string xa.tgt) := by rw [cell_of_row _ _ _ _ _ _ HR5.out]; rfl
  have f0 : W5.frozen? ⟨T + 1,0,none⟩ = false := frozen_of_row _ _ _ _ _ HR5.out
  have f1 : W5.frozen? ⟨T + 1,1,none⟩ = false := frozen_of_row _ _ _ _ _ HR5.out
  have hlt : T + 1 < W5.heap.size := by have := HS5.out; omega
  go_upto_region 8 with (fail)
  obtain ⟨W6,hW6⟩ : ∃ W6,(W5.setCell ⟨T + 1,0,none⟩ (.bool xd.ptr)).setCell ⟨T + 1,1,none⟩ (.string xd.tgt) = W6 := ⟨_,rfl⟩
  rw [hW6]
  have hr6 : W6.heap[T + 1]? = some (.cells #[.bool xd.ptr,.string xd.tgt] 45 (0,0)) := by rw [← hW6]; exact set2_row HR5.out
  have hb56 : Below (T + 1) W5 W6 := by rw [← hW6]; exact ((Below.refl _ _).setCell (by show T + 1 ≤ T + 1; omega) _).setCell (by show T + 1 ≤ T + 1; omega) _
  have hr36 : W6.heap[T]? = some (.cells #[.bool b,.string s] 45 (0,0)) := (hb56.block T (by omega)).trans HR35.out
  have hb16 : Below (N + 3) W1 W6 := HB5.out.trans (hb56.mono (by omega))
  clear c0 c1 c2 c3 c4 c5 c6 c7 k0 k1 f0 f1 hlt hW6
  obtain ⟨_,c1,_,_,_,_,_,_,hbw⟩ := HK.out W6 hb16
  have k0 : W6.cell? ⟨T + 1,0,none⟩ = some (.bool xd.ptr) := by rw [cell_of_row _ _ _ _ _ _ hr6]; rfl
  have k1 : W6.cell? ⟨T + 1,1,none⟩ = some (.string xd.tgt) := by rw [cell_of_row _ _ _ _ _ _ hr6]; rfl
  have k2 : W6.cell? ⟨T,0,none⟩ = some (.bool b) := by rw [cell_of_row _ _ _ _ _ _ hr36]; rfl
  have k3 : W6.cell? ⟨T,1,none⟩ = some (.string s) := by rw [cell_of_row _ _ _ _ _ _ hr36]; rfl
  have HBW := Lib.hid hbw
  have HO : Hid (∀ x,Calls Try.prog 61 #[.bool x,.int .i64 7] W6 fun e w' => e = .returned (.int .i64 (unl (!x) 7)) ∧ Below W6.heap.size W6 w') := fun x => rone_calls x 7 W6
  have HBF : Hid (∀ w9,Below W6.heap.size W6 w9 → Below N w w9) := fun w9 h9 => HBW.out.trans (h9.mono (by have := HBW.out.size; rw [HN.out] at this; exact this))
  clear hr6 hr36 hb56 hb16 hbw
  cases d <;> cases b <;> (go_wp2_with (go_at_call 61; refine (HO.out _).mono ?_; rintro e w7 ⟨rfl,hb7⟩; have HB7 := Lib.hid hb7; clear hb7); go_ret; rw [HRR.out,HN.out]; exact ⟨rfl,HBF.out _ HB7.out⟩)
 ·have HRR : Hid (R = z) := by unfold Hid; rw [HE.out,if_pos hz]
  have hzb : (z != 0) = true := by rw [bne_iff_ne]; exact hz
  have HBW : Hid (Below N w W3) := (HK.out W3 hb13).2.2.2.2.2.2.2.2
  clear HE HF HK hz hst hst2 hr3 hb13 hb12 hW3
  go_wp2
  go_ret
  rw [HRR.out,HN.out]
  exact ⟨rfl,HBW.out⟩
set_option maxRecDepth 100000 in
set_option maxHeartbeats 8000000 in
theorem rheap8_calls (m : Mo) (g : Fn) (i : Ins) (w : World) (h : JIn w m g) (hop : i.op = 8) (ha : isVar g.vs.length i.a = true) (ho : isVar g.vs.length i.b = true) (hk : m.known (tyAt g.vs i.a) = true) :
  Calls Try.prog 89 #[.agg m.cells,.agg g.cells,.agg i.cells] w fun e w' => e = .returned (.int .i64 (heapF m g.vs i i.b false)) ∧ Below w.heap.size w w' := by
 have HF : Hid (∀ W,Below w.heap.size w W → Calls Try.prog 109 #[.agg m.cells,.agg g.cells,.int .i64 i.a,.int .i64 i.f] W fun e w' => e = .returned (.tuple #[tyV (fieldF m g.vs i.a i.f).1,.int .i64 (fieldF m g.vs i.a i.f).2]) ∧ Below W.heap.size W w') := fun W hW => rfield_calls m g i.a i.f W (h.below hW) ha hk
 have HE : Hid (heapF m g.vs i i.b false = if (fieldF m g.vs i.a i.f).2 ≠ 0 then (fieldF m g.vs i.a i.f).2 else unl ((fieldF m g.vs i.a i.f).1 == tyAt g.vs i.b && (fieldF m g.vs i.a i.f).1.1 == false) 7) := rfl
 obtain ⟨ka,vb,vo,xa,hka,hka2,hvA,hvb,hta,ha0,ha1⟩ := var_at h.vars ha
 obtain ⟨kd,vb2,vo2,xd,hkd,hkd2,hvA2,_,htd,hd0,hd1⟩ := var_at h.vars ho
 rw [hvA] at hvA2
 simp only [Option.some.injEq,Addr.mk.injEq,and_true] at hvA2
 obtain ⟨rfl,rfl⟩ := hvA2
 rw [htd] at HE
 obtain ⟨R,hR⟩ : ∃ R,heapF m g.vs i i.b false = R := ⟨_,rfl⟩
 rw [hR] at HE ⊢
 obtain ⟨⟨⟨b,s⟩,z⟩,hz⟩ : ∃ F,fieldF m g.vs i.a i.f = F := ⟨_,rfl⟩
 rw [hz] at HE HF
 unfold tyV at HF
 have hst : ∀ (w : World) (c : Array Value),c.size = 2 → (storeCells ⟨w.heap.size,0,none⟩ [.bool b,.string s] 0).run Try.prog (w.alloc (.cells c 45)) = .ok () (w.alloc (.cells #[.bool b,.string s] 45)) := fun w c hc =>
  run_storeCells_new (P := Try.prog) w 45 c #[.bool b,.string s] (by show _ = some 2; kernel_rfl) hc (by simp [Value.oneCell'])
 have hst2 : ∀ (w : World) (c : Array Value),c.size = 2 → (storeCells ⟨w.heap.size,0,none⟩ [.bool xa.ptr,.string xa.tgt] 0).run Try.prog (w.alloc (.cells c 45)) = .ok () (w.alloc (.cells #[.bool xa.ptr,.string xa.tgt] 45)) := fun w c hc =>
  run_storeCells_new (P := Try.prog) w 45 c #[.bool xa.ptr,.string xa.tgt] (by show _ = some 2; kernel_rfl) hc (by simp [Value.oneCell'])
 have hnv := h.nv
 have hvl := h.vl
 unfold maxLen at hvl
 have hkaI : (ka : Int) < (g.vs.length : Int) := by omega
 have hkdI : (kd : Int) < (g.vs.length : Int) := by omega
 have hgc := gc_cells hnv hvA
 rw [hgc] at HF ⊢
 simp only [Mo.cells,Ins.cells] at HF ⊢
 rw [hka] at HF
 rw [hop,hka,hkd]
 simp only [gc] at HF ⊢
 obtain ⟨N,hN⟩ : ∃ N,w.heap.size = N := ⟨_,rfl⟩
 obtain ⟨W1,hW1⟩ : ∃ W1,((w.alloc (.cells m.cells 25)).alloc (.cells (gc g (some ⟨vb,vo,none⟩)) 50)).alloc (.cells i.cells 62) = W1 := ⟨_,rfl⟩
 obtain ⟨hb1,hs1,r0,r1,r2⟩ := box3 hW1
 rw [hN] at hb1 hs1 r0 r1 r2
 have HR1 : Hid (W1.heap[N + 1]? = some (.cells #[.string g.c.nm,.int .i64 g.c.par,.slice (some ⟨vb,vo,none⟩) g.vs.length g.c.varsC,.bool g.c.rp,.string g.c.rto,.int .i64 g.c.rcl,.slice g.c.fromA g.c.nfrom g.c.fromC,.slice g.c.insA g.c.ins.length g.c.insC] 50 (0,0))) := r1
 have HK : Hid (∀ W,Below (N + 3) W1 W → W.cell? ⟨N + 1,2,none⟩ = some (.slice (some ⟨vb,vo,none⟩) g.vs.length g.c.varsC) ∧ W.cell? ⟨N + 2,0,none⟩ = some (.int .i64 8) ∧ W.cell? ⟨N + 2,2,none⟩ = some (.int .i64 (ka : Int)) ∧ W.cell? ⟨N + 2,3,none⟩ = some (.int .i64 (kd : Int)) ∧
   W.cell? ⟨vb,vo + ka * 3,none⟩ = some (.bool xa.ptr) ∧ W.cell? ⟨vb,vo + ka * 3 + 1,none⟩ = some (.string xa.tgt) ∧ W.cell? ⟨vb,vo + kd * 3,none⟩ = some (.bool xd.ptr) ∧ W.cell? ⟨vb,vo + kd * 3 + 1,none⟩ = some (.string xd.tgt) ∧ Below N w W) := fun W hW => by
  have p1 := (hW.block (N + 1) (by omega)).trans r1
  have p2 := (hW.block (N + 2) (by omega)).trans r2
  have hbw := hb1.trans (hW.mono (by omega))
  refine ⟨?_,?_,?_,?_,?_,?_,?_,?_,hbw⟩
  ·rw [cell_of_row _ _ _ _ _ _ p1]; rfl
  ·rw [cell_of_row _ _ _ _ _ _ p2,← hop]; rfl
  ·rw [cell_of_row _ _ _ _ _ _ p2,← hka]; rfl
  ·rw [cell_of_row _ _ _ _ _ _ p2,← hkd]; rfl
  ·rw [hbw.cell (p := ⟨vb,_,none⟩) (show vb < N by omega)]; exact ha0
  ·rw [hbw.cell (p := ⟨vb,_,none⟩) (show vb < N by omega)]; exact ha1
  ·rw [hbw.cell (p := ⟨vb,_,none⟩) (show vb < N by omega)]; exact hd0
  ·rw [hbw.cell (p := ⟨vb,_,none⟩) (show vb < N by omega)]; exact hd1
 have c0 : W1.cell? ⟨N,0,none⟩ = some (.slice m.sA m.ss.length m.sC) := by rw [cell_of_row _ _ _ _ _ _ r0]; rfl
 have c1 : W1.cell? ⟨N,1,none⟩ = some (.slice m.fA m.fs.length m.fC) := by rw [cell_of_row _ _ _ _ _ _ r0]; rfl
 have c2 : W1.cell? ⟨N + 2,2,none⟩ = some (.int .i64 (ka : Int)) := by rw [cell_of_row _ _ _ _ _ _ r2,← hka]; rfl
 have c3 : W1.cell? ⟨N + 2,4,none⟩ = some (.int .i64 i.f) := by rw [cell_of_row _ _ _ _ _ _ r2]; rfl
 have hW1' := hW1
 simp only [Mo.cells,Ins.cells,gc] at hW1'
 rw [hop,hka] at hW1'
 rw [hkd] at hW1'
 have HW1 := Lib.hid hW1'
 have HN := Lib.hid hN
 have HB1 := Lib.hid hb1
 have HS1 := Lib.hid hs1
 rw [hN] at HF
 clear h ha ho hk hop hka hkd hvA hvb hta htd ha0 ha1 hd0 hd1 hR hz hgc hW1 hW1' hb1 r0 r1 r2 hnv hkd2 hka2 hs1
 go_enter Try.func89,Try.ntmps89
 go_upto_region 1 with (fail)
 rw [HW1.out]
 go_upto_region 2 with (first
  | (refine wpList_load_row rfl 50 _ rfl (N + 1) rfl 50 _ (0,0) _ HR1.out Try.underlying50 rfl (by kernel_rfl) ?_)
  | (go_at_call 109; refine (HF.out _ HB1.out).mono ?_; rintro e w2 ⟨rfl,hb2⟩; have HB2 := Lib.hid hb2; clear hb2))
 clear c0 c1 c2 c3 HW1
 obtain ⟨T,hT⟩ : ∃ T,w2.heap.size = T := ⟨_,rfl⟩
 obtain ⟨W3,hW3⟩ : ∃ W3,w2.alloc (.cells #[.bool b,.string s] 45) = W3 := ⟨_,rfl⟩
 rw [hT,hW3]
 have hTN : N + 3 ≤ T := by have := HB2.out.size; rw [HS1.out] at this; omega
 have hb12 : Below (N + 3) W1 w2 := by have := HB2.out; rwa [HS1.out] at this
 have hb13 : Below (N + 3) W1 W3 := by rw [← hW3]; exact hb12.alloc (by omega) _
 have hs3 : W3.heap.size = T + 1 := by rw [← hW3]; simp [hT]
 have hr3 : W3.heap[T]? = some (.cells #[.bool b,.string s] 45 (0,0)) := by rw [← hW3,← hT]; exact alloc_at _ _
 by_cases hz : z = 0
 ·subst hz
  have HRR : Hid (R = unl (((b,s) : Ty) == (xd.ptr,xd.tgt) && b == false) 7) := by unfold Hid; rw [HE.out,if_neg (by simp)]
  obtain ⟨W5,hW5⟩ : ∃ W5,W3.alloc (.cells #[.bool xa.ptr,.string xa.tgt] 45) = W5 := ⟨_,rfl⟩
  have hb15 : Below (N + 3) W1 W5 := by rw [← hW5]; exact hb13.alloc (by omega) _
  have hs5 : W5.heap.size = T + 2 := by rw [← hW5]; simp [hs3]
  have hr5 : W5.heap[T + 1]? = some (.cells #[.bool xa.ptr,.string xa.tgt] 45 (0,0)) := by rw [← hW5,← hs3]; exact alloc_at _ _
  have hr35 : W5.heap[T]? = some (.cells #[.bool b,.string s] 45 (0,0)) := by rw [← hW5,Below.heap_alloc _ _ _ (by omega)]; exact hr3
  obtain ⟨c0,c1,c2,c3,c4,c5,c6,c7,_⟩ := HK.out W3 hb13
  have HW5 := Lib.hid hW5
  have HB5 := Lib.hid hb15
  have HR5 := Lib.hid hr5
  have HR35 := Lib.hid hr35
  have HS5 := Lib.hid hs5
  have HB13 := Lib.hid hb13
  obtain ⟨d,hdd⟩ : ∃ d,(((b,s) : Ty) == (xd.ptr,xd.tgt)) = d := ⟨_,rfl⟩
  have heq : ∀ w,(Op.equalIn 10000 45 (.agg #[.bool b,.string s]) (.agg #[.bool xd.ptr,.string xd.tgt])).run Try.prog w = .ok d w := fun w => by rw [ty_eqIn,hdd]
  rw [hdd] at HRR
  have d0 : ((0 : Int) != 0) = false := rfl
  clear hst hW5 hb15 hr5 hr35 hs5 hW3 hb13 hb12 HB2 hdd HE HF
  go_upto_region 5 with (fail)
  rw [HW5.out]
  clear c0 c1 c2 c3 c4 c5 c6 c7 hst2 hr3 HW5
  obtain ⟨c0,c1,c2,c3,c4,c5,c6,c7,_⟩ := HK.out W5 HB5.out
  have k0 : W5.cell? ⟨T + 1,0,none⟩ = some (.bool xa.ptr) := by rw [cell_of_row _ _ _ _ _ _ HR5.out]; rfl
  have k1 : W5.cell? ⟨T + 1,1,none⟩ = some (.string xa.tgt) := by rw [cell_of_row _ _ _ _ _ _ HR5.out]; rfl
  have f0 : W5.frozen? ⟨T + 1,0,none⟩ = false := frozen_of_row _ _ _ _ _ HR5.out
  have f1 : W5.frozen? ⟨T + 1,1,none⟩ = false := frozen_of_row _ _ _ _ _ HR5.out
  have hlt : T + 1 < W5.heap.size := by have := HS5.out; omega
  go_upto_region 8 with (fail)
  obtain ⟨W6,hW6⟩ : ∃ W6,(W5.setCell ⟨T + 1,0,none⟩ (.bool xd.ptr)).setCell ⟨T + 1,1,none⟩ (.string xd.tgt) = W6 := ⟨_,rfl⟩
  rw [hW6]
  have hr6 : W6.heap[T + 1]? = some (.cells #[.bool xd.ptr,.string xd.tgt] 45 (0,0)) := by rw [← hW6]; exact set2_row HR5.out
  have hb56 : Below (T + 1) W5 W6 := by rw [← hW6]; exact ((Below.refl _ _).setCell (by show T + 1 ≤ T + 1; omega) _).setCell (by show T + 1 ≤ T + 1; omega) _
  have hr36 : W6.heap[T]? = some (.cells #[.bool b,.string s] 45 (0,0)) := (hb56.block T (by omega)).trans HR35.out
  have hb16 : Below (N + 3) W1 W6 := HB5.out.trans (hb56.mono (by omega))
  clear c0 c1 c2 c3 c4 c5 c6 c7 k0 k1 f0 f1 hlt hW6
  obtain ⟨_,c1,_,_,_,_,_,_,hbw⟩ := HK.out W6 hb16
  have k0 : W6.cell? ⟨T + 1,0,none⟩ = some (.bool xd.ptr) := by rw [cell_of_row _ _ _ _ _ _ hr6]; rfl
  have k1 : W6.cell? ⟨T + 1,1,none⟩ = some (.string xd.tgt) := by rw [cell_of_row _ _ _ _ _ _ hr6]; rfl
  have k2 : W6.cell? ⟨T,0,none⟩ = some (.bool b) := by rw [cell_of_row _ _ _ _ _ _ hr36]; rfl
  have k3 : W6.cell? ⟨T,1,none⟩ = some (.string s) := by rw [cell_of_row _ _ _ _ _ _ hr36]; rfl
  have HBW := Lib.hid hbw
  have HO : Hid (∀ x,Calls Try.prog 61 #[.bool x,.int .i64 7] W6 fun e w' => e = .returned (.int .i64 (unl (!x) 7)) ∧ Below W6.heap.size W6 w') := fun x => rone_calls x 7 W6
  have HBF : Hid (∀ w9,Below W6.heap.size W6 w9 → Below N w w9) := fun w9 h9 => HBW.out.trans (h9.mono (by have := HBW.out.size; rw [HN.out] at this; exact this))
  clear hr6 hr36 hb56 hb16 hbw
  cases d <;> cases b <;> (go_wp2_with (go_at_call 61; refine (HO.out _).mono ?_; rintro e w7 ⟨rfl,hb7⟩; have HB7 := Lib.hid hb7; clear hb7); go_ret; rw [HRR.out,HN.out]; exact ⟨rfl,HBF.out _ HB7.out⟩)
 ·have HRR : Hid (R = z) := by unfold Hid; rw [HE.out,if_pos hz]
  have hzb : (z != 0) = true := by rw [bne_iff_ne]; exact hz
  have HBW : Hid (Below N w W3) := (HK.out W3 hb13).2.2.2.2.2.2.2.2
  clear HE HF HK hz hst hst2 hr3 hb13 hb12 hW3
  go_wp2
  go_ret
  rw [HRR.out,HN.out]
  exact ⟨rfl,HBW.out⟩
set_option maxRecDepth 100000 in
set_option maxHeartbeats 8000000 in
theorem rheap10_calls (m : Mo) (g : Fn) (i : Ins) (w : World) (h : JIn w m g) (hop : i.op = 10) (ha : isVar g.vs.length i.a = true) (ho : isVar g.vs.length i.d = true) (hk : m.known (tyAt g.vs i.a) = true) :
  Calls Try.prog 89 #[.agg m.cells,.agg g.cells,.agg i.cells] w fun e w' => e = .returned (.int .i64 (heapF m g.vs i i.d true)) ∧ Below w.heap.size w w' := by
 have HF : Hid (∀ W,Below w.heap.size w W → Calls Try.prog 109 #[.agg m.cells,.agg g.cells,.int .i64 i.a,.int .i64 i.f] W fun e w' => e = .returned (.tuple #[tyV (fieldF m g.vs i.a i.f).1,.int .i64 (fieldF m g.vs i.a i.f).2]) ∧ Below W.heap.size W w') := fun W hW => rfield_calls m g i.a i.f W (h.below hW) ha hk
 have HE : Hid (heapF m g.vs i i.d true = if (fieldF m g.vs i.a i.f).2 ≠ 0 then (fieldF m g.vs i.a i.f).2 else unl ((fieldF m g.vs i.a i.f).1 == tyAt g.vs i.d && (fieldF m g.vs i.a i.f).1.1 == true) 7) := rfl
 obtain ⟨ka,vb,vo,xa,hka,hka2,hvA,hvb,hta,ha0,ha1⟩ := var_at h.vars ha
 obtain ⟨kd,vb2,vo2,xd,hkd,hkd2,hvA2,_,htd,hd0,hd1⟩ := var_at h.vars ho
 rw [hvA] at hvA2
 simp only [Option.some.injEq,Addr.mk.injEq,and_true] at hvA2
 obtain ⟨rfl,rfl⟩ := hvA2
 rw [htd] at HE
 obtain ⟨R,hR⟩ : ∃ R,heapF m g.vs i i.d true = R := ⟨_,rfl⟩
 rw [hR] at HE ⊢
 obtain ⟨⟨⟨b,s⟩,z⟩,hz⟩ : ∃ F,fieldF m g.vs i.a i.f = F := ⟨_,rfl⟩
 rw [hz] at HE HF
 unfold tyV at HF
 have hst : ∀ (w : World) (c : Array Value),c.size = 2 → (storeCells ⟨w.heap.size,0,none⟩ [.bool b,.string s] 0).run Try.prog (w.alloc (.cells c 45)) = .ok () (w.alloc (.cells #[.bool b,.string s] 45)) := fun w c hc =>
  run_storeCells_new (P := Try.prog) w 45 c #[.bool b,.string s] (by show _ = some 2; kernel_rfl) hc (by simp [Value.oneCell'])
 have hst2 : ∀ (w : World) (c : Array Value),c.size = 2 → (storeCells ⟨w.heap.size,0,none⟩ [.bool xa.ptr,.string xa.tgt] 0).run Try.prog (w.alloc (.cells c 45)) = .ok () (w.alloc (.cells #[.bool xa.ptr,.string xa.tgt] 45)) := fun w c hc =>
  run_storeCells_new (P := Try.prog) w 45 c #[.bool xa.ptr,.string xa.tgt] (by show _ = some 2; kernel_rfl) hc (by simp [Value.oneCell'])
 have hnv := h.nv
 have hvl := h.vl
 unfold maxLen at hvl
 have hkaI : (ka : Int) < (g.vs.length : Int) := by omega
 have hkdI : (kd : Int) < (g.vs.length : Int) := by omega
 have hgc := gc_cells hnv hvA
 rw [hgc] at HF ⊢
 simp only [Mo.cells,Ins.cells] at HF ⊢
 rw [hka] at HF
 rw [hop,hka,hkd]
 simp only [gc] at HF ⊢
 obtain ⟨N,hN⟩ : ∃ N,w.heap.size = N := ⟨_,rfl⟩
 obtain ⟨W1,hW1⟩ : ∃ W1,((w.alloc (.cells m.cells 25)).alloc (.cells (gc g (some ⟨vb,vo,none⟩)) 50)).alloc (.cells i.cells 62) = W1 := ⟨_,rfl⟩
 obtain ⟨hb1,hs1,r0,r1,r2⟩ := box3 hW1
 rw [hN] at hb1 hs1 r0 r1 r2
 have HR1 : Hid (W1.heap[N + 1]? = some (.cells #[.string g.c.nm,.int .i64 g.c.par,.slice (some ⟨vb,vo,none⟩) g.vs.length g.c.varsC,.bool g.c.rp,.string g.c.rto,.int .i64 g.c.rcl,.slice g.c.fromA g.c.nfrom g.c.fromC,.slice g.c.insA g.c.ins.length g.c.insC] 50 (0,0))) := r1
 have HK : Hid (∀ W,Below (N + 3) W1 W → W.cell? ⟨N + 1,2,none⟩ = some (.slice (some ⟨vb,vo,none⟩) g.vs.length g.c.varsC) ∧ W.cell? ⟨N + 2,0,none⟩ = some (.int .i64 10) ∧ W.cell? ⟨N + 2,2,none⟩ = some (.int .i64 (ka : Int)) ∧ W.cell? ⟨N + 2,1,none⟩ = some (.int .i64 (kd : Int)) ∧
   W.cell? ⟨vb,vo + ka * 3,none⟩ = some (.bool xa.ptr) ∧ W.cell? ⟨vb,vo + ka * 3 + 1,none⟩ = some (.string xa.tgt) ∧ W.cell? ⟨vb,vo + kd * 3,none⟩ = some (.bool xd.ptr) ∧ W.cell? ⟨vb,vo + kd * 3 + 1,none⟩ = some (.string xd.tgt) ∧ Below N w W) := fun W hW => by
  have p1 := (hW.block (N + 1) (by omega)).trans r1
  have p2 := (hW.block (N + 2) (by omega)).trans r2
  have hbw := hb1.trans (hW.mono (by omega))
  refine ⟨?_,?_,?_,?_,?_,?_,?_,?_,hbw⟩
  ·rw [cell_of_row _ _ _ _ _ _ p1]; rfl
  ·rw [cell_of_row _ _ _ _ _ _ p2,← hop]; rfl
  ·rw [cell_of_row _ _ _ _ _ _ p2,← hka]; rfl
  ·rw [cell_of_row _ _ _ _ _ _ p2,← hkd]; rfl
  ·rw [hbw.cell (p := ⟨vb,_,none⟩) (show vb < N by omega)]; exact ha0
  ·rw [hbw.cell (p := ⟨vb,_,none⟩) (show vb < N by omega)]; exact ha1
  ·rw [hbw.cell (p := ⟨vb,_,none⟩) (show vb < N by omega)]; exact hd0
  ·rw [hbw.cell (p := ⟨vb,_,none⟩) (show vb < N by omega)]; exact hd1
 have c0 : W1.cell? ⟨N,0,none⟩ = some (.slice m.sA m.ss.length m.sC) := by rw [cell_of_row _ _ _ _ _ _ r0]; rfl
 have c1 : W1.cell? ⟨N,1,none⟩ = some (.slice m.fA m.fs.length m.fC) := by rw [cell_of_row _ _ _ _ _ _ r0]; rfl
 have c2 : W1.cell? ⟨N + 2,2,none⟩ = some (.int .i64 (ka : Int)) := by rw [cell_of_row _ _ _ _ _ _ r2,← hka]; rfl
 have c3 : W1.cell? ⟨N + 2,4,none⟩ = some (.int .i64 i.f) := by rw [cell_of_row _ _ _ _ _ _ r2]; rfl
 have hW1' := hW1
 simp only [Mo.cells,Ins.cells,gc] at hW1'
 rw [hop,hka] at hW1'
 rw [hkd] at hW1'
 have HW1 := Lib.hid hW1'
 have HN := Lib.hid hN
 have HB1 := Lib.hid hb1
 have HS1 := Lib.hid hs1
 rw [hN] at HF
 clear h ha ho hk hop hka hkd hvA hvb hta htd ha0 ha1 hd0 hd1 hR hz hgc hW1 hW1' hb1 r0 r1 r2 hnv hkd2 hka2 hs1
 go_enter Try.func89,Try.ntmps89
 go_upto_region 1 with (fail)
 rw [HW1.out]
 go_upto_region 2 with (first
  | (refine wpList_load_row rfl 50 _ rfl (N + 1) rfl 50 _ (0,0) _ HR1.out Try.underlying50 rfl (by kernel_rfl) ?_)
  | (go_at_call 109; refine (HF.out _ HB1.out).mono ?_; rintro e w2 ⟨rfl,hb2⟩; have HB2 := Lib.hid hb2; clear hb2))
 clear c0 c1 c2 c3 HW1
 obtain ⟨T,hT⟩ : ∃ T,w2.heap.size = T := ⟨_,rfl⟩
 obtain ⟨W3,hW3⟩ : ∃ W3,w2.alloc (.cells #[.bool b,.string s] 45) = W3 := ⟨_,rfl⟩
 rw [hT,hW3]
 have hTN : N + 3 ≤ T := by have := HB2.out.size; rw [HS1.out] at this; omega
 have hb12 : Below (N + 3) W1 w2 := by have := HB2.out; rwa [HS1.out] at this
 have hb13 : Below (N + 3) W1 W3 := by rw [← hW3]; exact hb12.alloc (by omega) _
 have hs3 : W3.heap.size = T + 1 := by rw [← hW3]; simp [hT]
 have hr3 : W3.heap[T]? = some (.cells #[.bool b,.string s] 45 (0,0)) := by rw [← hW3,← hT]; exact alloc_at _ _
 by_cases hz : z = 0
 ·subst hz
  have HRR : Hid (R = unl (((b,s) : Ty) == (xd.ptr,xd.tgt) && b == true) 7) := by unfold Hid; rw [HE.out,if_neg (by simp)]
  obtain ⟨W5,hW5⟩ : ∃ W5,W3.alloc (.cells #[.bool xa.ptr,.string xa.tgt] 45) = W5 := ⟨_,rfl⟩
  have hb15 : Below (N + 3) W1 W5 := by rw [← hW5]; exact hb13.alloc (by omega) _
  have hs5 : W5.heap.size = T + 2 := by rw [← hW5]; simp [hs3]
  have hr5 : W5.heap[T + 1]? = some (.cells #[.bool xa.ptr,.string xa.tgt] 45 (0,0)) := by rw [← hW5,← hs3]; exact alloc_at _ _
  have hr35 : W5.heap[T]? = some (.cells #[.bool b,.string s] 45 (0,0)) := by rw [← hW5,Below.heap_alloc _ _ _ (by omega)]; exact hr3
  obtain ⟨c0,c1,c2,c3,c4,c5,c6,c7,_⟩ := HK.out W3 hb13
  have HW5 := Lib.hid hW5
  have HB5 := Lib.hid hb15
  have HR5 := Lib.hid hr5
  have HR35 := Lib.hid hr35
  have HS5 := Lib.hid hs5
  have HB13 := Lib.hid hb13
  obtain ⟨d,hdd⟩ : ∃ d,(((b,s) : Ty) == (xd.ptr,xd.tgt)) = d := ⟨_,rfl⟩
  have heq : ∀ w,(Op.equalIn 10000 45 (.agg #[.bool b,.string s]) (.agg #[.bool xd.ptr,.string xd.tgt])).run Try.prog w = .ok d w := fun w => by rw [ty_eqIn,hdd]
  rw [hdd] at HRR
  have d0 : ((0 : Int) != 0) = false := rfl
  clear hst hW5 hb15 hr5 hr35 hs5 hW3 hb13 hb12 HB2 hdd HE HF
  go_upto_region 5 with (fail)
  rw [HW5.out]
  clear c0 c1 c2 c3 c4 c5 c6 c7 hst2 hr3 HW5
  obtain ⟨c0,c1,c2,c3,c4,c5,c6,c7,_⟩ := HK.out W5 HB5.out
  have k0 : W5.cell? ⟨T + 1,0,none⟩ = some (.bool xa.ptr) := by rw [cell_of_row _ _ _ _ _ _ HR5.out]; rfl
  have k1 : W5.cell? ⟨T + 1,1,none⟩ = some (.string xa.tgt) := by rw [cell_of_row _ _ _ _ _ _ HR5.out]; rfl
  have f0 : W5.frozen? ⟨T + 1,0,none⟩ = false := frozen_of_row _ _ _ _ _ HR5.out
  have f1 : W5.frozen? ⟨T + 1,1,none⟩ = false := frozen_of_row _ _ _ _ _ HR5.out
  have hlt : T + 1 < W5.heap.size := by have := HS5.out; omega
  go_upto_region 8 with (fail)
  obtain ⟨W6,hW6⟩ : ∃ W6,(W5.setCell ⟨T + 1,0,none⟩ (.bool xd.ptr)).setCell ⟨T + 1,1,none⟩ (.string xd.tgt) = W6 := ⟨_,rfl⟩
  rw [hW6]
  have hr6 : W6.heap[T + 1]? = some (.cells #[.bool xd.ptr,.string xd.tgt] 45 (0,0)) := by rw [← hW6]; exact set2_row HR5.out
  have hb56 : Below (T + 1) W5 W6 := by rw [← hW6]; exact ((Below.refl _ _).setCell (by show T + 1 ≤ T + 1; omega) _).setCell (by show T + 1 ≤ T + 1; omega) _
  have hr36 : W6.heap[T]? = some (.cells #[.bool b,.string s] 45 (0,0)) := (hb56.block T (by omega)).trans HR35.out
  have hb16 : Below (N + 3) W1 W6 := HB5.out.trans (hb56.mono (by omega))
  clear c0 c1 c2 c3 c4 c5 c6 c7 k0 k1 f0 f1 hlt hW6
  obtain ⟨_,c1,_,_,_,_,_,_,hbw⟩ := HK.out W6 hb16
  have k0 : W6.cell? ⟨T + 1,0,none⟩ = some (.bool xd.ptr) := by rw [cell_of_row _ _ _ _ _ _ hr6]; rfl
  have k1 : W6.cell? ⟨T + 1,1,none⟩ = some (.string xd.tgt) := by rw [cell_of_row _ _ _ _ _ _ hr6]; rfl
  have k2 : W6.cell? ⟨T,0,none⟩ = some (.bool b) := by rw [cell_of_row _ _ _ _ _ _ hr36]; rfl
  have k3 : W6.cell? ⟨T,1,none⟩ = some (.string s) := by rw [cell_of_row _ _ _ _ _ _ hr36]; rfl
  have HBW := Lib.hid hbw
  have HO : Hid (∀ x,Calls Try.prog 61 #[.bool x,.int .i64 7] W6 fun e w' => e = .returned (.int .i64 (unl (!x) 7)) ∧ Below W6.heap.size W6 w') := fun x => rone_calls x 7 W6
  have HBF : Hid (∀ w9,Below W6.heap.size W6 w9 → Below N w w9) := fun w9 h9 => HBW.out.trans (h9.mono (by have := HBW.out.size; rw [HN.out] at this; exact this))
  clear hr6 hr36 hb56 hb16 hbw
  cases d <;> cases b <;> (go_wp2_with (go_at_call 61; refine (HO.out _).mono ?_; rintro e w7 ⟨rfl,hb7⟩; have HB7 := Lib.hid hb7; clear hb7); go_ret; rw [HRR.out,HN.out]; exact ⟨rfl,HBF.out _ HB7.out⟩)
 ·have HRR : Hid (R = z) := by unfold Hid; rw [HE.out,if_pos hz]
  have hzb : (z != 0) = true := by rw [bne_iff_ne]; exact hz
  have HBW : Hid (Below N w W3) := (HK.out W3 hb13).2.2.2.2.2.2.2.2
  clear HE HF HK hz hst hst2 hr3 hb13 hb12 hW3
  go_wp2
  go_ret
  rw [HRR.out,HN.out]
  exact ⟨rfl,HBW.out⟩
set_option maxRecDepth 100000 in
set_option maxHeartbeats 8000000 in
theorem rheap11_calls (m : Mo) (g : Fn) (i : Ins) (w : World) (h : JIn w m g) (hop : i.op = 11) (ha : isVar g.vs.length i.a = true) (ho : isVar g.vs.length i.b = true) (hk : m.known (tyAt g.vs i.a) = true) :
  Calls Try.prog 89 #[.agg m.cells,.agg g.cells,.agg i.cells] w fun e w' => e = .returned (.int .i64 (heapF m g.vs i i.b true)) ∧ Below w.heap.size w w' := by
 have HF : Hid (∀ W,Below w.heap.size w W → Calls Try.prog 109 #[.agg m.cells,.agg g.cells,.int .i64 i.a,.int .i64 i.f] W fun e w' => e = .returned (.tuple #[tyV (fieldF m g.vs i.a i.f).1,.int .i64 (fieldF m g.vs i.a i.f).2]) ∧ Below W.heap.size W w') := fun W hW => rfield_calls m g i.a i.f W (h.below hW) ha hk
 have HE : Hid (heapF m g.vs i i.b true = if (fieldF m g.vs i.a i.f).2 ≠ 0 then (fieldF m g.vs i.a i.f).2 else unl ((fieldF m g.vs i.a i.f).1 == tyAt g.vs i.b && (fieldF m g.vs i.a i.f).1.1 == true) 7) := rfl
 obtain ⟨ka,vb,vo,xa,hka,hka2,hvA,hvb,hta,ha0,ha1⟩ := var_at h.vars ha
 obtain ⟨kd,vb2,vo2,xd,hkd,hkd2,hvA2,_,htd,hd0,hd1⟩ := var_at h.vars ho
 rw [hvA] at hvA2
 simp only [Option.some.injEq,Addr.mk.injEq,and_true] at hvA2
 obtain ⟨rfl,rfl⟩ := hvA2
 rw [htd] at HE
 obtain ⟨R,hR⟩ : ∃ R,heapF m g.vs i i.b true = R := ⟨_,rfl⟩
 rw [hR] at HE ⊢
 obtain ⟨⟨⟨b,s⟩,z⟩,hz⟩ : ∃ F,fieldF m g.vs i.a i.f = F := ⟨_,rfl⟩
 rw [hz] at HE HF
 unfold tyV at HF
 have hst : ∀ (w : World) (c : Array Value),c.size = 2 → (storeCells ⟨w.heap.size,0,none⟩ [.bool b,.string s] 0).run Try.prog (w.alloc (.cells c 45)) = .ok () (w.alloc (.cells #[.bool b,.string s] 45)) := fun w c hc =>
  run_storeCells_new (P := Try.prog) w 45 c #[.bool b,.string s] (by show _ = some 2; kernel_rfl) hc (by simp [Value.oneCell'])
 have hst2 : ∀ (w : World) (c : Array Value),c.size = 2 → (storeCells ⟨w.heap.size,0,none⟩ [.bool xa.ptr,.string xa.tgt] 0).run Try.prog (w.alloc (.cells c 45)) = .ok () (w.alloc (.cells #[.bool xa.ptr,.string xa.tgt] 45)) := fun w c hc =>
  run_storeCells_new (P := Try.prog) w 45 c #[.bool xa.ptr,.string xa.tgt] (by show _ = some 2; kernel_rfl) hc (by simp [Value.oneCell'])
 have hnv := h.nv
 have hvl := h.vl
 unfold maxLen at hvl
 have hkaI : (ka : Int) < (g.vs.length : Int) := by omega
 have hkdI : (kd : Int) < (g.vs.length : Int) := by omega
 have hgc := gc_cells hnv hvA
 rw [hgc] at HF ⊢
 simp only [Mo.cells,Ins.cells] at HF ⊢
 rw [hka] at HF
 rw [hop,hka,hkd]
 simp only [gc] at HF ⊢
 obtain ⟨N,hN⟩ : ∃ N,w.heap.size = N := ⟨_,rfl⟩
 obtain ⟨W1,hW1⟩ : ∃ W1,((w.alloc (.cells m.cells 25)).alloc (.cells (gc g (some ⟨vb,vo,none⟩)) 50)).alloc (.cells i.cells 62) = W1 := ⟨_,rfl⟩
 obtain ⟨hb1,hs1,r0,r1,r2⟩ := box3 hW1
 rw [hN] at hb1 hs1 r0 r1 r2
 have HR1 : Hid (W1.heap[N + 1]? = some (.cells #[.string g.c.nm,.int .i64 g.c.par,.slice (some ⟨vb,vo,none⟩) g.vs.length g.c.varsC,.bool g.c.rp,.string g.c.rto,.int .i64 g.c.rcl,.slice g.c.fromA g.c.nfrom g.c.fromC,.slice g.c.insA g.c.ins.length g.c.insC] 50 (0,0))) := r1
 have HK : Hid (∀ W,Below (N + 3) W1 W → W.cell? ⟨N + 1,2,none⟩ = some (.slice (some ⟨vb,vo,none⟩) g.vs.length g.c.varsC) ∧ W.cell? ⟨N + 2,0,none⟩ = some (.int .i64 11) ∧ W.cell? ⟨N + 2,2,none⟩ = some (.int .i64 (ka : Int)) ∧ W.cell? ⟨N + 2,3,none⟩ = some (.int .i64 (kd : Int)) ∧
   W.cell? ⟨vb,vo + ka * 3,none⟩ = some (.bool xa.ptr) ∧ W.cell? ⟨vb,vo + ka * 3 + 1,none⟩ = some (.string xa.tgt) ∧ W.cell? ⟨vb,vo + kd * 3,none⟩ = some (.bool xd.ptr) ∧ W.cell? ⟨vb,vo + kd * 3 + 1,none⟩ = some (.string xd.tgt) ∧ Below N w W) := fun W hW => by
  have p1 := (hW.block (N + 1) (by omega)).trans r1
  have p2 := (hW.block (N + 2) (by omega)).trans r2
  have hbw := hb1.trans (hW.mono (by omega))
  refine ⟨?_,?_,?_,?_,?_,?_,?_,?_,hbw⟩
  ·rw [cell_of_row _ _ _ _ _ _ p1]; rfl
  ·rw [cell_of_row _ _ _ _ _ _ p2,← hop]; rfl
  ·rw [cell_of_row _ _ _ _ _ _ p2,← hka]; rfl
  ·rw [cell_of_row _ _ _ _ _ _ p2,← hkd]; rfl
  ·rw [hbw.cell (p := ⟨vb,_,none⟩) (show vb < N by omega)]; exact ha0
  ·rw [hbw.cell (p := ⟨vb,_,none⟩) (show vb < N by omega)]; exact ha1
  ·rw [hbw.cell (p := ⟨vb,_,none⟩) (show vb < N by omega)]; exact hd0
  ·rw [hbw.cell (p := ⟨vb,_,none⟩) (show vb < N by omega)]; exact hd1
 have c0 : W1.cell? ⟨N,0,none⟩ = some (.slice m.sA m.ss.length m.sC) := by rw [cell_of_row _ _ _ _ _ _ r0]; rfl
 have c1 : W1.cell? ⟨N,1,none⟩ = some (.slice m.fA m.fs.length m.fC) := by rw [cell_of_row _ _ _ _ _ _ r0]; rfl
 have c2 : W1.cell? ⟨N + 2,2,none⟩ = some (.int .i64 (ka : Int)) := by rw [cell_of_row _ _ _ _ _ _ r2,← hka]; rfl
 have c3 : W1.cell? ⟨N + 2,4,none⟩ = some (.int .i64 i.f) := by rw [cell_of_row _ _ _ _ _ _ r2]; rfl
 have hW1' := hW1
 simp only [Mo.cells,Ins.cells,gc] at hW1'
 rw [hop,hka] at hW1'
 rw [hkd] at hW1'
 have HW1 := Lib.hid hW1'
 have HN := Lib.hid hN
 have HB1 := Lib.hid hb1
 have HS1 := Lib.hid hs1
 rw [hN] at HF
 clear h ha ho hk hop hka hkd hvA hvb hta htd ha0 ha1 hd0 hd1 hR hz hgc hW1 hW1' hb1 r0 r1 r2 hnv hkd2 hka2 hs1
 go_enter Try.func89,Try.ntmps89
 go_upto_region 1 with (fail)
 rw [HW1.out]
 go_upto_region 2 with (first
  | (refine wpList_load_row rfl 50 _ rfl (N + 1) rfl 50 _ (0,0) _ HR1.out Try.underlying50 rfl (by kernel_rfl) ?_)
  | (go_at_call 109; refine (HF.out _ HB1.out).mono ?_; rintro e w2 ⟨rfl,hb2⟩; have HB2 := Lib.hid hb2; clear hb2))
 clear c0 c1 c2 c3 HW1
 obtain ⟨T,hT⟩ : ∃ T,w2.heap.size = T := ⟨_,rfl⟩
 obtain ⟨W3,hW3⟩ : ∃ W3,w2.alloc (.cells #[.bool b,.string s] 45) = W3 := ⟨_,rfl⟩
 rw [hT,hW3]
 have hTN : N + 3 ≤ T := by have := HB2.out.size; rw [HS1.out] at this; omega
 have hb12 : Below (N + 3) W1 w2 := by have := HB2.out; rwa [HS1.out] at this
 have hb13 : Below (N + 3) W1 W3 := by rw [← hW3]; exact hb12.alloc (by omega) _
 have hs3 : W3.heap.size = T + 1 := by rw [← hW3]; simp [hT]
 have hr3 : W3.heap[T]? = some (.cells #[.bool b,.string s] 45 (0,0)) := by rw [← hW3,← hT]; exact alloc_at _ _
 by_cases hz : z = 0
 ·subst hz
  have HRR : Hid (R = unl (((b,s) : Ty) == (xd.ptr,xd.tgt) && b == true) 7) := by unfold Hid; rw [HE.out,if_neg (by simp)]
  obtain ⟨W5,hW5⟩ : ∃ W5,W3.alloc (.cells #[.bool xa.ptr,.string xa.tgt] 45) = W5 := ⟨_,rfl⟩
  have hb15 : Below (N + 3) W1 W5 := by rw [← hW5]; exact hb13.alloc (by omega) _
  have hs5 : W5.heap.size = T + 2 := by rw [← hW5]; simp [hs3]
  have hr5 : W5.heap[T + 1]? = some (.cells #[.bool xa.ptr,.string xa.tgt] 45 (0,0)) := by rw [← hW5,← hs3]; exact alloc_at _ _
  have hr35 : W5.heap[T]? = some (.cells #[.bool b,.string s] 45 (0,0)) := by rw [← hW5,Below.heap_alloc _ _ _ (by omega)]; exact hr3
  obtain ⟨c0,c1,c2,c3,c4,c5,c6,c7,_⟩ := HK.out W3 hb13
  have HW5 := Lib.hid hW5
  have HB5 := Lib.hid hb15
  have HR5 := Lib.hid hr5
  have HR35 := Lib.hid hr35
  have HS5 := Lib.hid hs5
  have HB13 := Lib.hid hb13
  obtain ⟨d,hdd⟩ : ∃ d,(((b,s) : Ty) == (xd.ptr,xd.tgt)) = d := ⟨_,rfl⟩
  have heq : ∀ w,(Op.equalIn 10000 45 (.agg #[.bool b,.string s]) (.agg #[.bool xd.ptr,.string xd.tgt])).run Try.prog w = .ok d w := fun w => by rw [ty_eqIn,hdd]
  rw [hdd] at HRR
  have d0 : ((0 : Int) != 0) = false := rfl
  clear hst hW5 hb15 hr5 hr35 hs5 hW3 hb13 hb12 HB2 hdd HE HF
  go_upto_region 5 with (fail)
  rw [HW5.out]
  clear c0 c1 c2 c3 c4 c5 c6 c7 hst2 hr3 HW5
  obtain ⟨c0,c1,c2,c3,c4,c5,c6,c7,_⟩ := HK.out W5 HB5.out
  have k0 : W5.cell? ⟨T + 1,0,none⟩ = some (.bool xa.ptr) := by rw [cell_of_row _ _ _ _ _ _ HR5.out]; rfl
  have k1 : W5.cell? ⟨T + 1,1,none⟩ = some (.string xa.tgt) := by rw [cell_of_row _ _ _ _ _ _ HR5.out]; rfl
  have f0 : W5.frozen? ⟨T + 1,0,none⟩ = false := frozen_of_row _ _ _ _ _ HR5.out
  have f1 : W5.frozen? ⟨T + 1,1,none⟩ = false := frozen_of_row _ _ _ _ _ HR5.out
  have hlt : T + 1 < W5.heap.size := by have := HS5.out; omega
  go_upto_region 8 with (fail)
  obtain ⟨W6,hW6⟩ : ∃ W6,(W5.setCell ⟨T + 1,0,none⟩ (.bool xd.ptr)).setCell ⟨T + 1,1,none⟩ (.string xd.tgt) = W6 := ⟨_,rfl⟩
  rw [hW6]
  have hr6 : W6.heap[T + 1]? = some (.cells #[.bool xd.ptr,.string xd.tgt] 45 (0,0)) := by rw [← hW6]; exact set2_row HR5.out
  have hb56 : Below (T + 1) W5 W6 := by rw [← hW6]; exact ((Below.refl _ _).setCell (by show T + 1 ≤ T + 1; omega) _).setCell (by show T + 1 ≤ T + 1; omega) _
  have hr36 : W6.heap[T]? = some (.cells #[.bool b,.string s] 45 (0,0)) := (hb56.block T (by omega)).trans HR35.out
  have hb16 : Below (N + 3) W1 W6 := HB5.out.trans (hb56.mono (by omega))
  clear c0 c1 c2 c3 c4 c5 c6 c7 k0 k1 f0 f1 hlt hW6
  obtain ⟨_,c1,_,_,_,_,_,_,hbw⟩ := HK.out W6 hb16
  have k0 : W6.cell? ⟨T + 1,0,none⟩ = some (.bool xd.ptr) := by rw [cell_of_row _ _ _ _ _ _ hr6]; rfl
  have k1 : W6.cell? ⟨T + 1,1,none⟩ = some (.string xd.tgt) := by rw [cell_of_row _ _ _ _ _ _ hr6]; rfl
  have k2 : W6.cell? ⟨T,0,none⟩ = some (.bool b) := by rw [cell_of_row _ _ _ _ _ _ hr36]; rfl
  have k3 : W6.cell? ⟨T,1,none⟩ = some (.string s) := by rw [cell_of_row _ _ _ _ _ _ hr36]; rfl
  have HBW := Lib.hid hbw
  have HO : Hid (∀ x,Calls Try.prog 61 #[.bool x,.int .i64 7] W6 fun e w' => e = .returned (.int .i64 (unl (!x) 7)) ∧ Below W6.heap.size W6 w') := fun x => rone_calls x 7 W6
  have HBF : Hid (∀ w9,Below W6.heap.size W6 w9 → Below N w w9) := fun w9 h9 => HBW.out.trans (h9.mono (by have := HBW.out.size; rw [HN.out] at this; exact this))
  clear hr6 hr36 hb56 hb16 hbw
  cases d <;> cases b <;> (go_wp2_with (go_at_call 61; refine (HO.out _).mono ?_; rintro e w7 ⟨rfl,hb7⟩; have HB7 := Lib.hid hb7; clear hb7); go_ret; rw [HRR.out,HN.out]; exact ⟨rfl,HBF.out _ HB7.out⟩)
 ·have HRR : Hid (R = z) := by unfold Hid; rw [HE.out,if_pos hz]
  have hzb : (z != 0) = true := by rw [bne_iff_ne]; exact hz
  have HBW : Hid (Below N w W3) := (HK.out W3 hb13).2.2.2.2.2.2.2.2
  clear HE HF HK hz hst hst2 hr3 hb13 hb12 hW3
  go_wp2
  go_ret
  rw [HRR.out,HN.out]
  exact ⟨rfl,HBW.out⟩
end Go.Proofs.Ytlggjbopfnndbaa
namespace Go.Proofs.Ytlggjbopfnndbaa
open Go.RowKit
set_option maxRecDepth 100000 in
set_option maxHeartbeats 8000000 in
theorem rcall_calls (m : Mo) (g : Fn) (i : Ins) (w : World) (h : JIn w m g) (hi : i.args_in w) (hal : i.args.length ≤ maxLen) (hd : isVar g.vs.length i.d = true) (ha : ∀ a ∈ i.args,isVar g.vs.length a = true) :
  Calls Try.prog 90 #[.agg m.cells,.agg g.cells,.agg i.cells] w fun e w' => e = .returned (.int .i64 (callF m g.vs i)) ∧ Below w.heap.size w w' := by
 obtain ⟨⟨_,ao2,n2,cap2,hm2⟩,ao,cap,hav,hrow⟩ := hi
 have HA : Hid (IntsAt w ao i.args) := hrow.at_
 have HJ := Lib.hid h
 have HAV := Lib.hid ha
 have HAQ := Lib.hid hav
 have HE : Hid (callF m g.vs i = if i.f < 0 then 15 else match m.fs[i.f.toNat]? with
  | none => 15
  | some g' => if (i.args.length : Int) ≠ g'.c.par ∨ (g'.vs.length : Int) < g'.c.par then 7
   else if argsF g.vs g'.vs 0 i.args = false then 7 else unl (tyAt g.vs i.d == g'.ret) 7) := rfl
 obtain ⟨R,hR⟩ : ∃ R,callF m g.vs i = R := ⟨_,rfl⟩
 rw [hR] at HE ⊢
 obtain ⟨kd,vb,vo,xd,hkd,hkd2,hvA,hvb,htd,hd0,hd1⟩ := var_at h.vars hd
 have hnv := h.nv
 have hvl := h.vl
 unfold maxLen at hvl hal
 have hkdI : (kd : Int) < (g.vs.length : Int) := by omega
 have hgc := gc_cells hnv hvA
 rw [hgc]
 obtain ⟨N,hN⟩ : ∃ N,w.heap.size = N := ⟨_,rfl⟩
 obtain ⟨W1,hW1⟩ : ∃ W1,((w.alloc (.cells m.cells 25)).alloc (.cells (gc g (some ⟨vb,vo,none⟩)) 50)).alloc (.cells i.cells 62) = W1 := ⟨_,rfl⟩
 obtain ⟨hb1,hs1,r0,r1,r2⟩ := box3 hW1
 rw [hN] at hb1 hs1 r0 r1 r2
 have i4 : W1.cell? ⟨N + 2,4,none⟩ = some (.int .i64 i.f) := by rw [cell_of_row _ _ _ _ _ _ r2]; rfl
 have k1 : W1.cell? ⟨N,1,none⟩ = some (.slice m.fA m.fs.length m.fC) := by rw [cell_of_row _ _ _ _ _ _ r0]; rfl
 have HVC : Hid (∀ (W : World) (v : Int),Below N w W → isVar g.vs.length v = true → ∃ (k : Nat) (x : Vr),v = (k : Int) ∧ k < g.vs.length ∧ tyAt g.vs v = (x.ptr,x.tgt) ∧ W.cell? ⟨vb,vo + k * 3,none⟩ = some (.bool x.ptr) ∧ W.cell? ⟨vb,vo + k * 3 + 1,none⟩ = some (.string x.tgt)) := by
  intro W v hW hv
  obtain ⟨k,b,off,x,r1,r2,r3,r4,r5,r6,r7⟩ := var_at h.vars hv
  rw [hvA] at r3
  simp only [Option.some.injEq,Addr.mk.injEq,and_true] at r3
  obtain ⟨rfl,rfl⟩ := r3
  exact ⟨k,x,r1,r2,r5,by rw [hW.cell (p := ⟨vb,_,none⟩) (show vb < N by omega)]; exact r6,by rw [hW.cell (p := ⟨vb,_,none⟩) (show vb < N by omega)]; exact r7⟩
 have hW1' := hW1
 simp only [Mo.cells,Ins.cells,gc] at hW1'
 simp only [Mo.cells,Ins.cells,gc]
 rw [hkd]
 rw [hkd] at hW1'
 have HW1 := Lib.hid hW1'
 have HB1 := Lib.hid hb1
 have HR0 := Lib.hid r0
 have HR1 := Lib.hid r1
 have HR2 := Lib.hid r2
 have HN := Lib.hid hN
 have HS1 := Lib.hid hs1
 have HHKD := Lib.hid hkd
 have HTD := Lib.hid htd
 clear hR h hrow hd ha hm2 hav hW1 hW1' hb1 r0 r1 r2 hkd htd hd0 hd1 hvA hgc hnv hvb hkd2
 by_cases hf0 : i.f < 0
 ·have HRR : Hid (R = 15) := by unfold Hid; rw [HE.out,if_pos hf0]
  clear HE
  go_enter Try.func90,Try.ntmps90
  go_upto_region 1 with (fail)
  rw [HW1.out]
  go_wp2
  go_ret
  rw [HRR.out]
  exact ⟨rfl,by first | exact HB1.out | (rw [HN.out]; exact HB1.out)⟩
 obtain ⟨F,hF⟩ : ∃ F : Nat,i.f = (F : Int) := ⟨i.f.toNat,by omega⟩
 rw [hF] at i4
 by_cases hfl : F < m.fs.length
 rotate_left
 ·have HRR : Hid (R = 15) := by unfold Hid; rw [HE.out,if_neg hf0,hF,Int.toNat_natCast,List.getElem?_eq_none (by omega)]
  have hFI : (m.fs.length : Int) ≤ (F : Int) := by omega
  clear HE hfl hf0 hF
  go_enter Try.func90,Try.ntmps90
  go_upto_region 1 with (fail)
  rw [HW1.out]
  go_wp2
  go_ret
  rw [HRR.out]
  exact ⟨rfl,by first | exact HB1.out | (rw [HN.out]; exact HB1.out)⟩
 obtain ⟨f,hfx⟩ : ∃ f,m.fs[F]? = some f := ⟨_,List.getElem?_eq_getElem hfl⟩
 have HE2 : Hid (R = if (i.args.length : Int) ≠ f.c.par ∨ (f.vs.length : Int) < f.c.par then 7 else if argsF g.vs f.vs 0 i.args = false then 7 else unl (tyAt g.vs i.d == f.ret) 7) := by
  unfold Hid
  rw [HE.out,if_neg hf0,hF,Int.toNat_natCast,hfx]
 have hfin := HJ.out.mo.fin f (List.mem_of_getElem? hfx)
 have HFI := Lib.hid hfin
 obtain ⟨fb,foff,hfA,hfb,hfc⟩ := HJ.out.mo.frow (by intro e; rw [e] at hfl; simp at hfl)
 have hfbN : fb < N := by have := HN.out; omega
 have HFC : Hid (∀ k u,f.cells.toList[k]? = some u → W1.cell? ((⟨fb,foff + F * 8,none⟩ : Addr).add k) = some u) := fun k u hu => by
  rw [Addr.add_lit,HB1.out.cell (p := ⟨fb,_,none⟩) hfbN]; exact hfc F f hfx k u hu
 have hFI : (F : Int) < (m.fs.length : Int) := by omega
 obtain ⟨W2,hW2⟩ : ∃ W2,W1.alloc (.cells f.cells 50) = W2 := ⟨_,rfl⟩
 have hst : ∀ (c : Array Value),c.size = 8 → (storeCells ⟨N + 3,0,none⟩ f.cells.toList 0).run Try.prog (W1.alloc (.cells c 50)) = .ok () W2 := fun c hc => by
  rw [← hW2,← HS1.out]
  exact run_storeCells_new (P := Try.prog) W1 50 c f.cells (by show _ = some 8; kernel_rfl) hc (fn_cells_one f)
 have hb2 : Below (N + 3) W1 W2 := by rw [← hW2,← HS1.out]; exact (Below.refl _ _).alloc (Nat.le_refl _) _
 have hr3 : W2.heap[N + 3]? = some (.cells f.cells 50 (0,0)) := by rw [← hW2,← HS1.out]; exact alloc_at _ _
 have hs2 : W2.heap.size = N + 4 := by rw [← hW2]; simp [HS1.out]
 have HB2 : Hid (Below N w W2) := HB1.out.trans (hb2.mono (by omega))
 have HKEEP : Hid (∀ W,Below W2.heap.size W2 W → W.cell? ⟨N + 1,2,none⟩ = some (.slice (some ⟨vb,vo,none⟩) g.vs.length g.c.varsC) ∧ W.cell? ⟨N + 2,1,none⟩ = some (.int .i64 (kd : Int)) ∧ W.cell? ⟨N + 2,7,none⟩ = some (.slice ao i.args.length cap) ∧
   W.cell? ⟨N + 3,1,none⟩ = some (.int .i64 f.c.par) ∧ W.cell? ⟨N + 3,2,none⟩ = some (.slice f.c.varsA f.vs.length f.c.varsC) ∧ W.cell? ⟨N + 3,3,none⟩ = some (.bool f.c.rp) ∧ W.cell? ⟨N + 3,3 + 1,none⟩ = some (.string f.c.rto) ∧ Below N w W) := by
  intro W hW
  have q1 := (hW.block (N + 1) (by omega)).trans ((hb2.block (N + 1) (by omega)).trans HR1.out)
  have q2 := (hW.block (N + 2) (by omega)).trans ((hb2.block (N + 2) (by omega)).trans HR2.out)
  have q3 := (hW.block (N + 3) (by omega)).trans hr3
  refine ⟨?_,?_,?_,?_,?_,?_,?_,HB2.out.trans (hW.mono (by omega))⟩
  ·rw [cell_of_row _ _ _ _ _ _ q1]; rfl
  ·rw [cell_of_row _ _ _ _ _ _ q2,← HHKD.out]; rfl
  ·rw [cell_of_row _ _ _ _ _ _ q2,← HAQ.out]; rfl
  ·rw [cell_of_row _ _ _ _ _ _ q3]; rfl
  ·rw [cell_of_row _ _ _ _ _ _ q3,← hfin.nvars]; rfl
  ·rw [cell_of_row _ _ _ _ _ _ q3]; rfl
  ·rw [cell_of_row _ _ _ _ _ _ q3]; rfl
 obtain ⟨j2,j1,j7,c1,c2,c3,c4,_⟩ := HKEEP.out W2 (Below.refl _ _)
 have HFV : Hid (∀ (W : World) (v : Int),Below W2.heap.size W2 W → isVar f.vs.length v = true → ∃ (k b off : Nat) (x : Vr),v = (k : Int) ∧ k < f.vs.length ∧ f.c.varsA = some ⟨b,off,none⟩ ∧ b < W2.heap.size ∧ tyAt f.vs v = (x.ptr,x.tgt) ∧ W.cell? ⟨b,off + k * 3,none⟩ = some (.bool x.ptr) ∧ W.cell? ⟨b,off + k * 3 + 1,none⟩ = some (.string x.tgt)) := by
  intro W v hW hv
  have hWW : Below w.heap.size w W := by rw [HN.out]; exact HB2.out.trans (hW.mono (by omega))
  obtain ⟨k,b,off,x,r1,r2,r3,r4,r5,r6,r7⟩ := var_at (HFI.out.vars) hv
  exact ⟨k,b,off,x,r1,r2,r3,by omega,r5,by rw [hWW.cell (p := ⟨b,_,none⟩) r4]; exact r6,by rw [hWW.cell (p := ⟨b,_,none⟩) r4]; exact r7⟩
 have HW2 := Lib.hid hW2
 have HS2 := Lib.hid hs2
 rw [hfA] at k1
 rw [hfA] at HW1 ⊢
 have hs1' : W1.heap.size = N + 3 := HS1.out
 clear HE hf0 hF hfl hfx hfin hfA hfc hb2 hr3 HR1 HR2 HR0 hfb hW2
 have hx63 : i.args.length ≤ 9223372036854775807 := by omega
 go_enter Try.func90,Try.ntmps90
 go_upto_region 1 with (fail)
 rw [HW1.out]
 clear HW1
 go_upto_region 4 with (first
  | (refine wpList_load_at rfl 50 _ rfl ⟨fb,foff + F * 8,none⟩ rfl f.cells _ HFC.out Try.underlying50 rfl (by kernel_rfl) ?_))
 clear hst i4 k1 HFC hs1'
 by_cases hpar : (i.args.length : Int) = f.c.par
 rotate_left
 ·have HRR : Hid (R = 7) := by unfold Hid; rw [HE2.out,if_pos (.inl hpar)]
  have hpb : ((i.args.length : Int) != f.c.par) = true := by rw [bne_iff_ne]; exact hpar
  clear HE2
  go_wp2
  go_ret
  rw [HRR.out,HN.out]
  exact ⟨rfl,HB2.out⟩
 by_cases hpv : (f.vs.length : Int) < f.c.par
 ·have HRR : Hid (R = 7) := by unfold Hid; rw [HE2.out,if_pos (.inr hpv)]
  rw [← hpar] at hpv c1
  clear HE2
  go_wp2
  go_ret
  rw [HRR.out,HN.out]
  exact ⟨rfl,HB2.out⟩
 have HE3 : Hid (R = if argsF g.vs f.vs 0 i.args = false then 7 else unl (tyAt g.vs i.d == f.ret) 7) := by
  unfold Hid; rw [HE2.out,if_neg (fun h => by rcases h with h | h; exact h hpar; exact hpv h)]
 rw [← hpar] at hpv c1
 have hlv : i.args.length ≤ f.vs.length := by omega
 clear HE2 hpar
 go_upto_region 6 with (fail)
 clear c1 c2 c3 c4 j1 j2 j7
 go_wp2_with fail
 go_loopw [8] (fun c wr => ∃ j : Nat,j ≤ i.args.length ∧ c = .int .i64 (j : Int) ∧ (∀ k a,k < j → i.args[k]? = some a → (tyAt g.vs a == tyAt f.vs (k : Int)) = true) ∧ Below W2.heap.size W2 wr) (fun c _ => i.args.length - (intOf c).toNat)
 case atStart => exact ⟨0,Nat.zero_le _,rfl,fun k a hk => absurd hk (by omega),Below.refl _ _⟩
 case round =>
  obtain ⟨j,hj,rfl,hall,hb⟩ := hrel
  have HB := Lib.hid hb
  have HALL := Lib.hid hall
  obtain ⟨j2,j1,j7,c1,c2,c3,c4,hbN⟩ := HKEEP.out wr hb
  have HBN := Lib.hid hbN
  by_cases hjl : j < i.args.length
  ·obtain ⟨y,hy⟩ : ∃ y,i.args[j]? = some y := ⟨_,List.getElem?_eq_getElem hjl⟩
   obtain ⟨ab,aoff,hao,hab,hac⟩ := (HA.out.below (by rw [HN.out]; exact hbN)) (by intro e; rw [e] at hjl; simp at hjl)
   have d1 : wr.cell? ⟨ab,aoff + j,none⟩ = some (.int .i64 y) := hac j y hy
   have hyv : isVar g.vs.length y = true := HAV.out y (List.mem_of_getElem? hy)
   obtain ⟨ky,xy,hky,hkyl,hty1,e0,e1⟩ := HVC.out wr y hbN hyv
   obtain ⟨k',b,off,x,hkj,hkl,hvA,hbl,hty,x0,x1⟩ := HFV.out wr (j : Int) hb (isVar_iff.2 ⟨by omega,by omega⟩)
   obtain rfl : k' = j := by omega
   obtain ⟨d,hdd⟩ : ∃ d,(((xy.ptr,xy.tgt) : Ty) == (x.ptr,x.tgt)) = d := ⟨_,rfl⟩
   have heq : ∀ w,(Op.equalIn 10000 45 (.agg #[.bool xy.ptr,.string xy.tgt]) (.agg #[.bool x.ptr,.string x.tgt])).run Try.prog w = .ok d w := fun w => by rw [ty_eqIn,hdd]
   have HDD : Hid ((tyAt g.vs y == tyAt f.vs (k' : Int)) = d) := by unfold Hid; rw [hty1,hty]; exact hdd
   have HY := Lib.hid hy
   have hkI : (k' : Int) < (i.args.length : Int) := by omega
   have hkV : (k' : Int) < (f.vs.length : Int) := by omega
   have hkG : (ky : Int) < (g.vs.length : Int) := by omega
   subst hao
   rw [hvA] at c2
   rw [hky] at d1
   clear hall hb hbN hy hac hyv hvA hty hty1 hdd hjl hky c1 c3 c4 j1
   cases d with
   | true =>
    go_wp2_with fail
    go_quiet (fail)
    go_wp2
    go_roundw
    case rel =>
     refine ⟨k' + 1,by omega,by go_num,fun k a hk hka => ?_,below_drewN HB.out _⟩
     by_cases e : k = k'
     ·subst e
      rw [HY.out] at hka
      obtain rfl := Option.some.inj hka
      exact HDD.out
     ·exact HALL.out k a (by omega) hka
    case measure => simp [intOf]; omega
   | false =>
    have HRR : Hid (R = 7) := by
     unfold Hid
     rw [HE3.out,if_pos]
     cases hc : argsF g.vs f.vs 0 i.args with
     | false => rfl
     | true =>
      have := (argsF_iff _ _ _ _).1 hc k' y HY.out
      rw [Nat.zero_add,HDD.out] at this
      cases this
    go_wp2_with fail
    go_quiet (fail)
    go_wp2
    go_ret
    rw [HRR.out,HN.out]
    exact ⟨rfl,below_drewN HBN.out _⟩
  ·have hje : j = i.args.length := by omega
   subst hje
   have HE4 : Hid (R = unl (tyAt g.vs i.d == f.ret) 7) := by
    unfold Hid
    rw [HE3.out,if_neg]
    rw [(argsF_iff _ _ _ _).2 (fun k a hk => by rw [Nat.zero_add]; exact HALL.out k a (List.getElem?_eq_some_iff.1 hk).1 hk)]
    decide
   have hkdv : isVar g.vs.length (kd : Int) = true := isVar_iff.2 ⟨by omega,hkdI⟩
   obtain ⟨d,hdd⟩ : ∃ d,(((xd.ptr,xd.tgt) : Ty) == (f.c.rp,f.c.rto)) = d := ⟨_,rfl⟩
   have heq : ∀ w,(Op.equalIn 10000 45 (.agg #[.bool xd.ptr,.string xd.tgt]) (.agg #[.bool f.c.rp,.string f.c.rto])).run Try.prog w = .ok d w := fun w => by rw [ty_eqIn,hdd]
   have HRR : Hid (R = unl d 7) := by unfold Hid; rw [HE4.out,HTD.out,← hdd]; rfl
   have HJW : Hid (∀ p : BW wr,_) := fun p : BW wr => HKEEP.out p.w (HB.out.trans (p.h.mono HB.out.size))
   have HXD : Hid (∀ p : BW wr,p.w.cell? ⟨vb,vo + kd * 3,none⟩ = some (.bool xd.ptr) ∧ p.w.cell? ⟨vb,vo + kd * 3 + 1,none⟩ = some (.string xd.tgt)) := fun p => by
    obtain ⟨k,x,q1,_,q2,q3,q4⟩ := HVC.out p.w (kd : Int) (HJW.out p).2.2.2.2.2.2.2 hkdv
    obtain rfl : kd = k := by omega
    rw [← HHKD.out,HTD.out] at q2
    simp only [Prod.mk.injEq] at q2
    rw [q2.1,q2.2]; exact ⟨q3,q4⟩
   have g0 : ∀ p : BW wr,p.w.cell? ⟨N + 1,2,none⟩ = some (.slice (some ⟨vb,vo,none⟩) g.vs.length g.c.varsC) := fun p => (HJW.out p).1
   have g1 : ∀ p : BW wr,p.w.cell? ⟨N + 2,1,none⟩ = some (.int .i64 (kd : Int)) := fun p => (HJW.out p).2.1
   have g3 : ∀ p : BW wr,p.w.cell? ⟨N + 3,3,none⟩ = some (.bool f.c.rp) := fun p => (HJW.out p).2.2.2.2.2.1
   have g4 : ∀ p : BW wr,p.w.cell? ⟨N + 3,3 + 1,none⟩ = some (.string f.c.rto) := fun p => (HJW.out p).2.2.2.2.2.2.1
   have g5 : ∀ p : BW wr,p.w.cell? ⟨vb,vo + kd * 3,none⟩ = some (.bool xd.ptr) := fun p => (HXD.out p).1
   have g6 : ∀ p : BW wr,p.w.cell? ⟨vb,vo + kd * 3 + 1,none⟩ = some (.string xd.tgt) := fun p => (HXD.out p).2
   have HO : Hid (∀ (p : BW wr) x,Calls Try.prog 61 #[.bool x,.int .i64 7] p.w fun e w' => e = .returned (.int .i64 (unl (!x) 7)) ∧ Below p.w.heap.size p.w w') := fun p x => rone_calls x 7 p.w
   clear hall hb hbN hdd HE3 HE4 HFV c1 c2 c3 c4 j1 j2 hkdv
   cases d <;>
    (go_wp2_with fail
     clear j7
     refine wp_region_quiet_bw (by kernel_rfl) (by kernel_rfl) ?_
     repeat (go_big_quiet_step (first | (go_at_call 61; exact bw_of (HO.out _ _))))
     refine wpQuiet_nil ?_
     rintro _ ⟨p,rfl⟩
     have HBF := Lib.hid (HJW.out p).2.2.2.2.2.2.2
     clear g0 g1 g3 g4 g5 g6
     go_wp2
     go_ret
     rw [HRR.out,HN.out]
     exact ⟨rfl,HBF.out⟩)
end Go.Proofs.Ytlggjbopfnndbaa
