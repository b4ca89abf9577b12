/- rewrite's modes of an instruction. -/
import Derived.Test.YtlggjbopfnndbaaG30
import Derived.Test.YtlggjbopfnndbaaG15

namespace Go.Proofs.Ytlggjbopfnndbaa
open Go.RowKit

def clsAt (vs : List Vr) (v : Int) : Int := match vs[v.toNat]? with
  | some x => x.cls
  | none => 0

def modesF (m : Mo) (g : Fn) (i : Ins) : List Int :=
  if i.op = 9 ∨ i.op = 10 then [clsAt g.vs i.d]
  else if i.op = 18 then (if g.c.rp = true then [g.c.rcl] else [])
  else if i.op = 15 then (match m.fs[i.f.toNat]? with
    | some h => (h.vs.take i.args.length).map (fun x => x.cls)
    | none => [])
  else []

set_option maxRecDepth 100000 in
set_option maxHeartbeats 4000000 in
theorem modes_9 (w : World) (m : Mo) (hm : m.inn w) (hok : OkR m) (f : Nat) (g : Fn) (hg : m.fs[f]? = some g) (i : Ins) (hi : i ∈ g.c.ins) (hop : i.op = 9) :
    Calls Try.prog 44 #[.agg (jg m g), .agg i.cells] w (GivesI w (modesF m g i)) := by
  have hgm : g ∈ m.fs := List.mem_of_getElem? hg
  obtain ⟨p0, p1, p2, p3⟩ := hok.fn g hgm
  have hgi := hm.fin g hgm
  obtain ⟨⟨⟨a1, c1, e1⟩, a2, n2, c2, e2⟩, a3, c3, e3, har⟩ := hgi.code.args i hi
  obtain ⟨N, hN⟩ : ∃ N, w.heap.size = N := ⟨_, rfl⟩
  obtain ⟨W2, hW2⟩ : ∃ W2, (w.alloc (.cells (jg m g) 77)).alloc (.cells i.cells 62) = W2 := ⟨_, rfl⟩
  have hb2 : Below w.heap.size w W2 := by rw [← hW2]; exact ((Below.refl _ _).alloc (Nat.le_refl _) _).alloc (by simp) _
  have hs2 : W2.heap.size = N + 2 := by rw [← hW2]; simp [hN]
  have hr1 : W2.heap[N]? = some (.cells (jg m g) 77 (0, 0)) := by rw [← hW2, ← hN]; exact heap_alloc2_old _ _ _
  have hr2 : W2.heap[N + 1]? = some (.cells i.cells 62 (0, 0)) := by rw [← hW2, ← hN]; exact heap_alloc2_new _ _ _
  have hm2 := hm.below hb2
  obtain ⟨L, hL⟩ : ∃ L, modesF m g i = L := ⟨_, rfl⟩
  rw [hL]
  have HPOST : Hid (∀ (w' : World) (ao : Option Addr) (cap : Nat), OwnI w' W2.heap.size (.slice ao L.length cap) L → Below W2.heap.size W2 w' → GivesI w L (.returned (.slice ao L.length cap)) w') := fun w' ao cap h1 h2 =>
    ⟨ao, cap, rfl, h1.mono hb2.size, hb2.trans (h2.mono hb2.size)⟩
  have HW2 := Lib.hid hW2
  obtain ⟨hvd, _⟩ := hok.mv g hgm i hi (.inl hop)
  have HL : Hid (L = [clsAt g.vs i.d]) := by unfold Hid; rw [← hL]; unfold modesF; rw [if_pos (.inl hop)]
  clear hL
  obtain ⟨d, hd⟩ : ∃ d : Nat, i.d = (d : Int) := ⟨i.d.toNat, by have := isVarR_iff.1 hvd; omega⟩
  rw [hd] at hvd HL
  have hdl : d < g.vs.length := by have := (isVarR_iff.1 hvd).2; omega
  obtain ⟨x, hx⟩ : ∃ x, g.vs[d]? = some x := ⟨_, List.getElem?_eq_getElem hdl⟩
  have hcl : clsAt g.vs (d : Int) = x.cls := by unfold clsAt; rw [Int.toNat_natCast, hx]
  rw [hcl] at HL
  obtain ⟨vb, vo, hvA, hvb, hvc⟩ := (hm2.fin g hgm).vars (by intro e; rw [e] at hdl; simp at hdl)
  have q2 : W2.cell? ⟨vb, vo + d * 3 + 2, none⟩ = some (.int .i64 x.cls) := hvc d x hx 2 _ rfl
  have k4 : W2.cell? ⟨N, 4, none⟩ = some (.slice (some ⟨vb, vo, none⟩) g.vs.length g.c.varsC) := by rw [cell_of_row _ _ _ _ _ _ hr1, ← hgi.nvars, ← hvA]; rfl
  have i0 : W2.cell? ⟨N + 1, 0, none⟩ = some (.int .i64 9) := by rw [cell_of_row _ _ _ _ _ _ hr2, ← hop]; rfl
  have i1 : W2.cell? ⟨N + 1, 1, none⟩ = some (.int .i64 (d : Int)) := by rw [cell_of_row _ _ _ _ _ _ hr2, ← hd]; rfl
  have hdI : (d : Int) < (g.vs.length : Int) := by omega
  rw [HL.out] at HPOST ⊢
  clear hm hok hg hgm hgi hi hm2 hr1 hr2 hb2 hW2 hvc hx hcl hop hvd hd e1 e2 e3 har HL hvA p0 p1
  go_enter Try.func44, Try.ntmps44
  go_upto_region 1 with (fail)
  rw [HW2.out]
  go_wp2
  go_ret
  exact HPOST.out _ _ _ (OwnI.lit1 hs2.symm (by omega)) ((Below.refl _ _).alloc (Nat.le_refl _) _)

set_option maxRecDepth 100000 in
set_option maxHeartbeats 4000000 in
theorem modes_10 (w : World) (m : Mo) (hm : m.inn w) (hok : OkR m) (f : Nat) (g : Fn) (hg : m.fs[f]? = some g) (i : Ins) (hi : i ∈ g.c.ins) (hop : i.op = 10) :
    Calls Try.prog 44 #[.agg (jg m g), .agg i.cells] w (GivesI w (modesF m g i)) := by
  have hgm : g ∈ m.fs := List.mem_of_getElem? hg
  obtain ⟨p0, p1, p2, p3⟩ := hok.fn g hgm
  have hgi := hm.fin g hgm
  obtain ⟨⟨⟨a1, c1, e1⟩, a2, n2, c2, e2⟩, a3, c3, e3, har⟩ := hgi.code.args i hi
  obtain ⟨N, hN⟩ : ∃ N, w.heap.size = N := ⟨_, rfl⟩
  obtain ⟨W2, hW2⟩ : ∃ W2, (w.alloc (.cells (jg m g) 77)).alloc (.cells i.cells 62) = W2 := ⟨_, rfl⟩
  have hb2 : Below w.heap.size w W2 := by rw [← hW2]; exact ((Below.refl _ _).alloc (Nat.le_refl _) _).alloc (by simp) _
  have hs2 : W2.heap.size = N + 2 := by rw [← hW2]; simp [hN]
  have hr1 : W2.heap[N]? = some (.cells (jg m g) 77 (0, 0)) := by rw [← hW2, ← hN]; exact heap_alloc2_old _ _ _
  have hr2 : W2.heap[N + 1]? = some (.cells i.cells 62 (0, 0)) := by rw [← hW2, ← hN]; exact heap_alloc2_new _ _ _
  have hm2 := hm.below hb2
  obtain ⟨L, hL⟩ : ∃ L, modesF m g i = L := ⟨_, rfl⟩
  rw [hL]
  have HPOST : Hid (∀ (w' : World) (ao : Option Addr) (cap : Nat), OwnI w' W2.heap.size (.slice ao L.length cap) L → Below W2.heap.size W2 w' → GivesI w L (.returned (.slice ao L.length cap)) w') := fun w' ao cap h1 h2 =>
    ⟨ao, cap, rfl, h1.mono hb2.size, hb2.trans (h2.mono hb2.size)⟩
  have HW2 := Lib.hid hW2
  obtain ⟨hvd, _⟩ := hok.mv g hgm i hi (.inr hop)
  have HL : Hid (L = [clsAt g.vs i.d]) := by unfold Hid; rw [← hL]; unfold modesF; rw [if_pos (.inr hop)]
  clear hL
  obtain ⟨d, hd⟩ : ∃ d : Nat, i.d = (d : Int) := ⟨i.d.toNat, by have := isVarR_iff.1 hvd; omega⟩
  rw [hd] at hvd HL
  have hdl : d < g.vs.length := by have := (isVarR_iff.1 hvd).2; omega
  obtain ⟨x, hx⟩ : ∃ x, g.vs[d]? = some x := ⟨_, List.getElem?_eq_getElem hdl⟩
  have hcl : clsAt g.vs (d : Int) = x.cls := by unfold clsAt; rw [Int.toNat_natCast, hx]
  rw [hcl] at HL
  obtain ⟨vb, vo, hvA, hvb, hvc⟩ := (hm2.fin g hgm).vars (by intro e; rw [e] at hdl; simp at hdl)
  have q2 : W2.cell? ⟨vb, vo + d * 3 + 2, none⟩ = some (.int .i64 x.cls) := hvc d x hx 2 _ rfl
  have k4 : W2.cell? ⟨N, 4, none⟩ = some (.slice (some ⟨vb, vo, none⟩) g.vs.length g.c.varsC) := by rw [cell_of_row _ _ _ _ _ _ hr1, ← hgi.nvars, ← hvA]; rfl
  have i0 : W2.cell? ⟨N + 1, 0, none⟩ = some (.int .i64 10) := by rw [cell_of_row _ _ _ _ _ _ hr2, ← hop]; rfl
  have i1 : W2.cell? ⟨N + 1, 1, none⟩ = some (.int .i64 (d : Int)) := by rw [cell_of_row _ _ _ _ _ _ hr2, ← hd]; rfl
  have hdI : (d : Int) < (g.vs.length : Int) := by omega
  rw [HL.out] at HPOST ⊢
  clear hm hok hg hgm hgi hi hm2 hr1 hr2 hb2 hW2 hvc hx hcl hop hvd hd e1 e2 e3 har HL hvA p0 p1
  go_enter Try.func44, Try.ntmps44
  go_upto_region 1 with (fail)
  rw [HW2.out]
  go_wp2
  go_ret
  exact HPOST.out _ _ _ (OwnI.lit1 hs2.symm (by omega)) ((Below.refl _ _).alloc (Nat.le_refl _) _)

set_option maxRecDepth 100000 in
set_option maxHeartbeats 4000000 in
theorem modes_18 (w : World) (m : Mo) (hm : m.inn w) (hok : OkR m) (f : Nat) (g : Fn) (hg : m.fs[f]? = some g) (i : Ins) (hi : i ∈ g.c.ins) (hop : i.op = 18) :
    Calls Try.prog 44 #[.agg (jg m g), .agg i.cells] w (GivesI w (modesF m g i)) := by
  have hgm : g ∈ m.fs := List.mem_of_getElem? hg
  obtain ⟨p0, p1, p2, p3⟩ := hok.fn g hgm
  have hgi := hm.fin g hgm
  obtain ⟨⟨⟨a1, c1, e1⟩, a2, n2, c2, e2⟩, a3, c3, e3, har⟩ := hgi.code.args i hi
  obtain ⟨N, hN⟩ : ∃ N, w.heap.size = N := ⟨_, rfl⟩
  obtain ⟨W2, hW2⟩ : ∃ W2, (w.alloc (.cells (jg m g) 77)).alloc (.cells i.cells 62) = W2 := ⟨_, rfl⟩
  have hb2 : Below w.heap.size w W2 := by rw [← hW2]; exact ((Below.refl _ _).alloc (Nat.le_refl _) _).alloc (by simp) _
  have hs2 : W2.heap.size = N + 2 := by rw [← hW2]; simp [hN]
  have hr1 : W2.heap[N]? = some (.cells (jg m g) 77 (0, 0)) := by rw [← hW2, ← hN]; exact heap_alloc2_old _ _ _
  have hr2 : W2.heap[N + 1]? = some (.cells i.cells 62 (0, 0)) := by rw [← hW2, ← hN]; exact heap_alloc2_new _ _ _
  have hm2 := hm.below hb2
  obtain ⟨L, hL⟩ : ∃ L, modesF m g i = L := ⟨_, rfl⟩
  rw [hL]
  have HPOST : Hid (∀ (w' : World) (ao : Option Addr) (cap : Nat), OwnI w' W2.heap.size (.slice ao L.length cap) L → Below W2.heap.size W2 w' → GivesI w L (.returned (.slice ao L.length cap)) w') := fun w' ao cap h1 h2 =>
    ⟨ao, cap, rfl, h1.mono hb2.size, hb2.trans (h2.mono hb2.size)⟩
  have HW2 := Lib.hid hW2
  have HL : Hid (L = if g.c.rp = true then [g.c.rcl] else []) := by unfold Hid; rw [← hL]; unfold modesF; rw [if_neg (by omega), if_pos hop]
  clear hL
  have k5 : W2.cell? ⟨N, 5, none⟩ = some (.bool g.c.rp) := by rw [cell_of_row _ _ _ _ _ _ hr1]; rfl
  have k7 : W2.cell? ⟨N, 7, none⟩ = some (.int .i64 g.c.rcl) := by rw [cell_of_row _ _ _ _ _ _ hr1]; rfl
  have i0 : W2.cell? ⟨N + 1, 0, none⟩ = some (.int .i64 18) := by rw [cell_of_row _ _ _ _ _ _ hr2, ← hop]; rfl
  clear hm hok hg hgm hgi hi hm2 hr1 hr2 hb2 hW2 hop e1 e2 e3 har p0 p1
  cases hrp : g.c.rp with
  | true =>
    rw [hrp] at k5 HL
    have HL2 : Hid (L = [g.c.rcl]) := HL.out
    rw [HL2.out] at HPOST ⊢
    clear hrp
    go_enter Try.func44, Try.ntmps44
    go_upto_region 1 with (fail)
    rw [HW2.out]
    go_wp2
    go_ret
    exact HPOST.out _ _ _ (OwnI.lit1 hs2.symm (by omega)) ((Below.refl _ _).alloc (Nat.le_refl _) _)
  | false =>
    rw [hrp] at k5 HL
    have HL2 : Hid (L = []) := HL.out
    rw [HL2.out] at HPOST ⊢
    clear hrp
    go_enter Try.func44, Try.ntmps44
    go_upto_region 1 with (fail)
    rw [HW2.out]
    go_wp2
    go_ret
    exact HPOST.out _ _ _ (OwnI.nil _ _) (Below.refl _ _)

set_option maxRecDepth 100000 in
set_option maxHeartbeats 4000000 in
theorem modes_15 (w : World) (m : Mo) (hm : m.inn w) (hok : OkR m) (f : Nat) (g : Fn) (hg : m.fs[f]? = some g) (i : Ins) (hi : i ∈ g.c.ins) (hop : i.op = 15) :
    Calls Try.prog 44 #[.agg (jg m g), .agg i.cells] w (GivesI w (modesF m g i)) := by
  have hgm : g ∈ m.fs := List.mem_of_getElem? hg
  obtain ⟨p0, p1, p2, p3⟩ := hok.fn g hgm
  have hgi := hm.fin g hgm
  obtain ⟨⟨⟨a1, c1, e1⟩, a2, n2, c2, e2⟩, a3, c3, e3, har⟩ := hgi.code.args i hi
  obtain ⟨N, hN⟩ : ∃ N, w.heap.size = N := ⟨_, rfl⟩
  obtain ⟨W2, hW2⟩ : ∃ W2, (w.alloc (.cells (jg m g) 77)).alloc (.cells i.cells 62) = W2 := ⟨_, rfl⟩
  have hb2 : Below w.heap.size w W2 := by rw [← hW2]; exact ((Below.refl _ _).alloc (Nat.le_refl _) _).alloc (by simp) _
  have hs2 : W2.heap.size = N + 2 := by rw [← hW2]; simp [hN]
  have hr1 : W2.heap[N]? = some (.cells (jg m g) 77 (0, 0)) := by rw [← hW2, ← hN]; exact heap_alloc2_old _ _ _
  have hr2 : W2.heap[N + 1]? = some (.cells i.cells 62 (0, 0)) := by rw [← hW2, ← hN]; exact heap_alloc2_new _ _ _
  have hm2 := hm.below hb2
  obtain ⟨L, hL⟩ : ∃ L, modesF m g i = L := ⟨_, rfl⟩
  rw [hL]
  have HPOST : Hid (∀ (w' : World) (ao : Option Addr) (cap : Nat), OwnI w' W2.heap.size (.slice ao L.length cap) L → Below W2.heap.size W2 w' → GivesI w L (.returned (.slice ao L.length cap)) w') := fun w' ao cap h1 h2 =>
    ⟨ao, cap, rfl, h1.mono hb2.size, hb2.trans (h2.mono hb2.size)⟩
  have HW2 := Lib.hid hW2
  obtain ⟨_, _, hf0, h, hgh, hlen⟩ := hok.call g hgm i hi hop
  obtain ⟨r0, r1, r2, _⟩ := hok.fn h (List.mem_of_getElem? hgh)
  have HL : Hid (L = (h.vs.take i.args.length).map (fun x => x.cls)) := by unfold Hid; rw [← hL]; unfold modesF; rw [if_neg (by omega), if_neg (by omega), if_pos hop, hgh]
  clear hL
  obtain ⟨y, hy⟩ : ∃ y : Nat, i.f = (y : Int) := ⟨i.f.toNat, by omega⟩
  rw [hy, Int.toNat_natCast] at hgh
  have hyl : y < m.fs.length := (List.getElem?_eq_some_iff.1 hgh).1
  obtain ⟨fb, fo, hfA, hfb, hfc⟩ := hm2.frow (by intro e; rw [e] at hyl; simp at hyl)
  have k1 : W2.cell? ⟨N, 1, none⟩ = some (.slice (some ⟨fb, fo, none⟩) m.fs.length m.fC) := by rw [cell_of_row _ _ _ _ _ _ hr1, ← hfA]; rfl
  have i0 : W2.cell? ⟨N + 1, 0, none⟩ = some (.int .i64 15) := by rw [cell_of_row _ _ _ _ _ _ hr2, ← hop]; rfl
  have i4 : W2.cell? ⟨N + 1, 4, none⟩ = some (.int .i64 (y : Int)) := by rw [cell_of_row _ _ _ _ _ _ hr2, ← hy]; rfl
  have i7 : W2.cell? ⟨N + 1, 7, none⟩ = some (.slice a3 i.args.length c3) := by rw [cell_of_row _ _ _ _ _ _ hr2, ← e3]; rfl
  have hyI : (y : Int) < (m.fs.length : Int) := by omega
  have hn60 := hok.nf
  have hal : i.args.length ≤ h.vs.length := by omega
  have hal3 : i.args.length ≤ 300 := by omega
  obtain ⟨B, hB⟩ : ∃ B, W2.heap.size = B := ⟨_, rfl⟩
  have HK : Hid (∀ W, Below B W2 W → W.cell? ⟨N, 1, none⟩ = some (.slice (some ⟨fb, fo, none⟩) m.fs.length m.fC) ∧ W.cell? ⟨N + 1, 4, none⟩ = some (.int .i64 (y : Int)) ∧
      ∀ k, k < h.vs.length → ∃ (vb vo : Nat) (x : Vr), h.vs[k]? = some x ∧ W.cell? ⟨fb, fo + y * 8 + 2, none⟩ = some (.slice (some ⟨vb, vo, none⟩) h.vs.length h.c.varsC) ∧ W.cell? ⟨vb, vo + k * 3 + 2, none⟩ = some (.int .i64 x.cls)) := by
    intro W hW
    refine ⟨?_, ?_, fun k hk => ?_⟩
    · rw [hW.cell (p := ⟨N, 1, none⟩) (by show N < _; omega)]; exact k1
    · rw [hW.cell (p := ⟨N + 1, 4, none⟩) (by show N + 1 < _; omega)]; exact i4
    · obtain ⟨x, hx⟩ : ∃ x, h.vs[k]? = some x := ⟨_, List.getElem?_eq_getElem hk⟩
      have hhi := hm2.fin h (List.mem_of_getElem? hgh)
      obtain ⟨vb, vo, hvA, hvb, hvc⟩ := hhi.vars (by intro e; rw [e] at hk; simp at hk)
      refine ⟨vb, vo, x, hx, ?_, ?_⟩
      · rw [hW.cell (p := ⟨fb, _, none⟩) (by rw [← hB]; exact hfb), hfc y h hgh 2 _ rfl, hhi.nvars, hvA]
      · rw [hW.cell (p := ⟨vb, _, none⟩) (by rw [← hB]; exact hvb)]; exact hvc k x hx 2 _ rfl
  have HB := Lib.hid hB
  rw [hB] at HPOST
  have HHL : Hid (h.vs.length ≤ 300) := r2
  clear hm hok hg hgm hgi hi hm2 hr1 hr2 hb2 hW2 hop e1 e2 e3 har p0 p1 r0 r1 r2 hgh hfc hfA hy hlen hf0 hB
  obtain ⟨j0, hj0, hj1, hj2, hj3⟩ := info_parts info_int
  go_enter Try.func44, Try.ntmps44
  go_upto_region 1 with (fail)
  rw [HW2.out]
  go_wp2_with fail
  clear i0 i7 k1 i4
  go_loopw [4, 37] (fun v c wr => ∃ j : Nat, j ≤ i.args.length ∧ c = .int .i64 (j : Int) ∧ OwnI wr B v ((h.vs.take j).map (fun x => x.cls)) ∧ Below B W2 wr) (fun _ c _ => i.args.length - (intOf c).toNat)
  case atStart => exact ⟨0, Nat.zero_le _, rfl, OwnI.nil _ _, Below.refl _ _⟩
  case round =>
    obtain ⟨j, hj, rfl, hown, hb⟩ := hrel
    by_cases hjl : j < i.args.length
    · have hjI : (j : Int) < (i.args.length : Int) := by omega
      obtain ⟨k1, i4, hk⟩ := HK.out wr hb
      obtain ⟨vb, vo, x, hx, k2, kx⟩ := hk j (by omega)
      have hjh : (j : Int) < (h.vs.length : Int) := by omega
      have hHL := HHL.out
      have hl : ((h.vs.take j).map (fun x => x.cls)).length = j := by rw [List.length_map, List.length_take]; omega
      have hsz : B ≤ wr.heap.size := by have := hb.size; rw [HB.out] at this; exact this
      obtain ⟨ao, cap, e⟩ := hown.isSlice
      subst e
      have HOW : Hid (wr.ownsRow B 3 1 (.slice ao ((h.vs.take j).map (fun x => x.cls)).length cap) j (((h.vs.take j).map (fun x => x.cls)).map (Value.int .i64))) := by
        have h9 := hown; unfold OwnI at h9; rw [hl] at h9; unfold Hid; rw [hl]; exact h9
      rw [hl] at HOW ⊢
      have HB1 := Lib.hid hb
      have HSTEP : Hid (∀ g5 cap5 w5, w5.ownsRow B 3 1 (.slice (some ⟨g5, 0, none⟩) (j + 1) cap5) (j + 1) (((h.vs.take j).map (fun x => x.cls)).map (Value.int .i64) ++ [.int .i64 x.cls]) → (wr.alloc (.cells #[.int .i64 x.cls] 3)).grownBy w5 (Value.slice ao j cap).ownBlock →
          OwnI w5 B (.slice (some ⟨g5, 0, none⟩) (j + 1) cap5) ((h.vs.take (j + 1)).map (fun x => x.cls)) ∧ Below B W2 w5) := by
        intro g5 cap5 w5 h1 h2
        refine ⟨?_, ?_⟩
        · unfold OwnI
          rw [take_snocI hx, List.map_append, List.length_append, hl, List.map_append]
          exact h1
        · exact HB1.out.trans ((ext_grown (v := .slice ao j cap) ((Ext.refl _ _).alloc _) h2).below hsz (fun k hk => (HOW.out.lt k hk).1))
      clear hown hb hk hx hl
      go_wp2_with (at_builtin; refine wpList_append_lies _ rfl (.tmp 40) (.tmp 53) 35 rfl B 3 j0 (.int .i64 0) 1 8 Try.underlying35 hj0 hj1 hj2 hj3 rfl (by decide) (.slice ao j cap) j (((h.vs.take j).map (fun x => x.cls)).map (Value.int .i64)) rfl (ownsRow_below HOW.out ((Below.refl wr.heap.size wr).alloc (Nat.le_refl _) _)) ⟨wr.heap.size, 0, none⟩ 1 1 [.int .i64 x.cls] rfl rfl (cells_new _ _ _) (by simp [Value.oneCell']) (by decide) (by unfold maxLen; omega) (by omega) (by rw [World.size_alloc]; omega) _ rfl ?_; intro g5 cap5 w5 hown5 hgrow5 hat5 hlt5; have HN := Lib.hid (HSTEP.out g5 cap5 w5 hown5 hgrow5); clear hown5 hgrow5 hat5 hlt5)
      go_roundw
      case rel => exact ⟨j + 1, by omega, by go_num, HN.out.1, HN.out.2⟩
      case measure => simp [intOf]; omega
    · have hje : j = i.args.length := by omega
      subst hje
      rw [← HL.out] at hown
      obtain ⟨ao, cap, e⟩ := hown.isSlice
      subst e
      have HO := Lib.hid (HPOST.out wr ao cap hown hb)
      clear hown hb
      go_wp2
      go_ret
      exact HO.out

set_option maxRecDepth 100000 in
set_option maxHeartbeats 4000000 in
theorem modes_none (w : World) (m : Mo) (hm : m.inn w) (hok : OkR m) (f : Nat) (g : Fn) (hg : m.fs[f]? = some g) (i : Ins) (hi : i ∈ g.c.ins) (h9 : i.op ≠ 9) (h10 : i.op ≠ 10) (h15 : i.op ≠ 15) (h18 : i.op ≠ 18) :
    Calls Try.prog 44 #[.agg (jg m g), .agg i.cells] w (GivesI w (modesF m g i)) := by
  have hgm : g ∈ m.fs := List.mem_of_getElem? hg
  obtain ⟨p0, p1, p2, p3⟩ := hok.fn g hgm
  have hgi := hm.fin g hgm
  obtain ⟨⟨⟨a1, c1, e1⟩, a2, n2, c2, e2⟩, a3, c3, e3, har⟩ := hgi.code.args i hi
  obtain ⟨N, hN⟩ : ∃ N, w.heap.size = N := ⟨_, rfl⟩
  obtain ⟨W2, hW2⟩ : ∃ W2, (w.alloc (.cells (jg m g) 77)).alloc (.cells i.cells 62) = W2 := ⟨_, rfl⟩
  have hb2 : Below w.heap.size w W2 := by rw [← hW2]; exact ((Below.refl _ _).alloc (Nat.le_refl _) _).alloc (by simp) _
  have hs2 : W2.heap.size = N + 2 := by rw [← hW2]; simp [hN]
  have hr1 : W2.heap[N]? = some (.cells (jg m g) 77 (0, 0)) := by rw [← hW2, ← hN]; exact heap_alloc2_old _ _ _
  have hr2 : W2.heap[N + 1]? = some (.cells i.cells 62 (0, 0)) := by rw [← hW2, ← hN]; exact heap_alloc2_new _ _ _
  have hm2 := hm.below hb2
  obtain ⟨L, hL⟩ : ∃ L, modesF m g i = L := ⟨_, rfl⟩
  rw [hL]
  have HPOST : Hid (∀ (w' : World) (ao : Option Addr) (cap : Nat), OwnI w' W2.heap.size (.slice ao L.length cap) L → Below W2.heap.size W2 w' → GivesI w L (.returned (.slice ao L.length cap)) w') := fun w' ao cap h1 h2 =>
    ⟨ao, cap, rfl, h1.mono hb2.size, hb2.trans (h2.mono hb2.size)⟩
  have HW2 := Lib.hid hW2
  have HL : Hid (L = []) := by unfold Hid; rw [← hL]; unfold modesF; rw [if_neg (by omega), if_neg h18, if_neg h15]
  clear hL
  have i0 : W2.cell? ⟨N + 1, 0, none⟩ = some (.int .i64 i.op) := by rw [cell_of_row _ _ _ _ _ _ hr2]; rfl
  have e9 : (i.op == 9) = false := by rw [beq_eq_false_iff_ne]; exact h9
  have e10 : (i.op == 10) = false := by rw [beq_eq_false_iff_ne]; exact h10
  have e15 : (i.op == 15) = false := by rw [beq_eq_false_iff_ne]; exact h15
  have e18 : (i.op == 18) = false := by rw [beq_eq_false_iff_ne]; exact h18
  rw [HL.out] at HPOST ⊢
  clear hm hok hg hgm hgi hi hm2 hr1 hr2 hb2 hW2 e1 e2 e3 har p0 p1 h9 h10 h15 h18
  go_enter Try.func44, Try.ntmps44
  go_upto_region 1 with (fail)
  rw [HW2.out]
  go_wp2
  go_ret
  exact HPOST.out _ _ _ (OwnI.nil _ _) (Below.refl _ _)

theorem modes_calls (w : World) (m : Mo) (hm : m.inn w) (hok : OkR m) (f : Nat) (g : Fn) (hg : m.fs[f]? = some g) (i : Ins) (hi : i ∈ g.c.ins) :
    Calls Try.prog 44 #[.agg (jg m g), .agg i.cells] w (GivesI w (modesF m g i)) := by
  by_cases h9 : i.op = 9
  · exact modes_9 w m hm hok f g hg i hi h9
  by_cases h10 : i.op = 10
  · exact modes_10 w m hm hok f g hg i hi h10
  by_cases h15 : i.op = 15
  · exact modes_15 w m hm hok f g hg i hi h15
  by_cases h18 : i.op = 18
  · exact modes_18 w m hm hok f g hg i hi h18
  exact modes_none w m hm hok f g hg i hi h9 h10 h15 h18
end Go.Proofs.Ytlggjbopfnndbaa
