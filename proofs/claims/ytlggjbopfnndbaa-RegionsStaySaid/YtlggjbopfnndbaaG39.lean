import Derived.Test.YtlggjbopfnndbaaRewV
import Derived.Test.YtlggjbopfnndbaaG19

namespace Go.Proofs.Ytlggjbopfnndbaa
open Go.RowKit

def modeF (m : Mo) (f a : Int) : List Int :=
  if rightF m = 0 ∧ 0 ≤ f ∧ 0 ≤ a then (match m.fs[f.toNat]? with
    | some g => (match g.c.ins[a.toNat]? with
      | some i => modesF m g i
      | none => [])
    | none => []) else []

set_option maxRecDepth 100000 in
set_option maxHeartbeats 16000000 in
theorem mode_calls (m : Mo) (w : World) (hin : RightIn w m) (f a : Int) : Calls Try.prog 19 #[.agg m.cells, .int .i64 f, .int .i64 a] w (GivesI w (modeF m f a)) := by
  have HIN := Lib.hid hin
  obtain ⟨N, hN⟩ : ∃ N, w.heap.size = N := ⟨_, rfl⟩
  obtain ⟨W2, hW2⟩ : ∃ W2, w.alloc (.cells m.cells 25) = W2 := ⟨_, rfl⟩
  have hb2 : Below N w W2 := by rw [← hW2, ← hN]; exact (Below.refl _ _).alloc (Nat.le_refl _) _
  have hs2 : W2.heap.size = N + 1 := by rw [← hW2]; simp [hN]
  have hr1 : W2.heap[N]? = some (.cells m.cells 25 (0, 0)) := by rw [← hW2, ← hN]; exact alloc_at _ _
  have hin2 := hin.below (by rw [hN]; exact hb2)
  have HRI := Lib.hid (right_calls m W2 hin2)
  have HK : Hid (∀ W, Below W2.heap.size W2 W → W.cell? ⟨N, 0, none⟩ = some (.slice m.sA m.ss.length m.sC) ∧ W.cell? ⟨N, 1, none⟩ = some (.slice m.fA m.fs.length m.fC) ∧ Below N w W ∧ m.inn W) := fun W hW => by
    have h1 := (hW.block N (by omega)).trans hr1
    have h2 := hb2.trans (hW.mono (by omega))
    exact ⟨by rw [cell_of_row _ _ _ _ _ _ h1]; rfl, by rw [cell_of_row _ _ _ _ _ _ h1]; rfl, h2, hin.mo.below (by rw [hN]; exact h2)⟩
  obtain ⟨c0, c1, _, _⟩ := HK.out W2 (Below.refl _ _)
  obtain ⟨L, hL⟩ : ∃ L, modeF m f a = L := ⟨_, rfl⟩
  rw [hL]
  have HNIL : Hid (∀ W, Below W2.heap.size W2 W → L = [] → GivesI w L (.returned (.slice none 0 0)) W) := by
    intro W hW e
    rw [e]
    exact ⟨none, 0, rfl, OwnI.nil _ _, by rw [hN]; exact (HK.out W hW).2.2.1⟩
  have HL := Lib.hid hL
  have hW2' := hW2
  simp only [Mo.cells] at hW2' HRI
  have HW2 := Lib.hid hW2'
  have HS2 := Lib.hid hs2
  have HB2 := Lib.hid hb2
  have HN := Lib.hid hN
  simp only [Mo.cells]
  clear hin hin2 hW2 hW2' hb2 hs2 hr1 hL
  go_enter Try.func19, Try.ntmps19
  go_upto_region 1 with (fail)
  rw [HW2.out]
  go_wp2_with fail
  go_at_call 51
  refine HRI.out.mono ?_
  rintro e w3 ⟨rfl, hb3⟩
  obtain ⟨F, hF⟩ : ∃ F, rightF m = F := ⟨_, rfl⟩
  rw [hF]
  clear c0 c1
  obtain ⟨c0, c1, hbw, hmi⟩ := HK.out w3 hb3
  by_cases h0 : F = 0
  rotate_left
  · have d0 : (F != 0) = true := by rw [bne_iff_ne]; exact h0
    have HR := Lib.hid (HNIL.out w3 hb3 (by rw [← HL.out]; unfold modeF; rw [if_neg (by rw [hF]; omega)]))
    clear hbw hmi hb3 hF h0
    go_wp2
    go_ret
    exact HR.out
  subst h0
  have d0 : ((0 : Int) != 0) = false := rfl
  by_cases h1 : f < 0
  · have HR := Lib.hid (HNIL.out w3 hb3 (by rw [← HL.out]; unfold modeF; rw [if_neg (by omega)]))
    clear hbw hmi hb3 hF
    go_wp2
    go_ret
    exact HR.out
  obtain ⟨f, rfl⟩ : ∃ n : Nat, f = (n : Int) := ⟨f.toNat, by omega⟩
  clear h1
  by_cases h2 : f < m.fs.length
  rotate_left
  · have h2I : (m.fs.length : Int) ≤ (f : Int) := by omega
    have HR := Lib.hid (HNIL.out w3 hb3 (by rw [← HL.out]; unfold modeF; rw [Int.toNat_natCast, List.getElem?_eq_none (by omega)]; split <;> rfl))
    clear hbw hmi hb3 hF
    go_wp2
    go_ret
    exact HR.out
  have h2I : (f : Int) < (m.fs.length : Int) := by omega
  by_cases h3 : a < 0
  · have HR := Lib.hid (HNIL.out w3 hb3 (by rw [← HL.out]; unfold modeF; rw [if_neg (by omega)]))
    clear hbw hmi hb3 hF
    go_wp2
    go_ret
    exact HR.out
  obtain ⟨a, rfl⟩ : ∃ n : Nat, a = (n : Int) := ⟨a.toNat, by omega⟩
  clear h3
  obtain ⟨g, hg⟩ : ∃ g, m.fs[f]? = some g := ⟨_, List.getElem?_eq_getElem h2⟩
  have hgm := List.mem_of_getElem? hg
  obtain ⟨fb, fo, hfA, hfb, hfc⟩ := hmi.frow (by intro e; rw [e] at h2; simp at h2)
  have e7 := hfc f g hg 7 _ rfl
  by_cases h4 : a < g.c.ins.length
  rotate_left
  · have h4I : (g.c.ins.length : Int) ≤ (a : Int) := by omega
    have HR := Lib.hid (HNIL.out w3 hb3 (by rw [← HL.out]; unfold modeF; rw [Int.toNat_natCast, hg, Int.toNat_natCast]; dsimp only; rw [List.getElem?_eq_none (by omega)]; split <;> rfl))
    rw [hfA] at c1 ⊢
    clear hbw hmi hb3 hF hg hfc
    go_wp2
    go_ret
    exact HR.out
  have h4I : (a : Int) < (g.c.ins.length : Int) := by omega
  obtain ⟨i, hi⟩ : ∃ i, g.c.ins[a]? = some i := ⟨_, List.getElem?_eq_getElem h4⟩
  obtain ⟨b2, o2, hA2, hb2, hc2⟩ := (hmi.fin g hgm).code.row (by intro e; rw [e] at h4; simp at h4)
  have HOK := Lib.hid (OkR.of hF)
  have HMO : Hid (∀ p : BW w3, Calls Try.prog 44 #[.agg (jg m g), .agg i.cells] p.w (GivesI p.w (modesF m g i))) := fun p =>
    modes_calls p.w m (HK.out p.w (hb3.trans (p.h.mono hb3.size))).2.2.2 HOK.out f g hg i (List.mem_of_getElem? hi)
  have HLE : Hid (modesF m g i = L) := by rw [← HL.out]; unfold modeF; rw [if_pos ⟨hF, by omega, by omega⟩, Int.toNat_natCast, hg, Int.toNat_natCast]; dsimp only; rw [hi]; exact Lib.hid rfl
  rw [HLE.out] at HMO
  have HGL : Hid (∀ (p : BW w3) (k : Nat) (u : Value), (#[.string g.c.nm, .int .i64 g.c.par, .slice g.c.varsA g.c.nvars g.c.varsC, .bool g.c.rp, .string g.c.rto, .int .i64 g.c.rcl, .slice g.c.fromA g.c.nfrom g.c.fromC, .slice g.c.insA g.c.ins.length g.c.insC] : Array Value).toList[k]? = some u → p.w.cell? ((⟨fb, fo + f * 8, none⟩ : Addr).add k) = some u) := fun p k u hu => by
    obtain ⟨fb', fo', hfA', _, hfc'⟩ := (HK.out p.w (hb3.trans (p.h.mono hb3.size))).2.2.2.frow (by intro e; rw [e] at h2; simp at h2)
    rw [hfA] at hfA'
    simp only [Option.some.injEq, Addr.mk.injEq, and_true] at hfA'
    rw [Addr.add_lit, hfA'.1, hfA'.2]; exact hfc' f g hg k u hu
  have HIL : Hid (∀ (p : BW w3) k u, i.cells.toList[k]? = some u → p.w.cell? ((⟨b2, o2 + a * 13, none⟩ : Addr).add k) = some u) := fun p k u hu => by
    obtain ⟨fb', fo', hfA', _, hfc'⟩ := ((HK.out p.w (hb3.trans (p.h.mono hb3.size))).2.2.2.fin g hgm).code.row (by intro e; rw [e] at h4; simp at h4)
    rw [hA2] at hfA'
    simp only [Option.some.injEq, Addr.mk.injEq, and_true] at hfA'
    rw [Addr.add_lit, hfA'.1, hfA'.2]; exact hfc' a i hi k u hu
  have m0 : ∀ p : BW w3, p.w.cell? ⟨N, 0, none⟩ = some (.slice m.sA m.ss.length m.sC) := fun p => (HK.out p.w (hb3.trans (p.h.mono hb3.size))).1
  have m1 : ∀ p : BW w3, p.w.cell? ⟨N, 1, none⟩ = some (.slice (some ⟨fb, fo, none⟩) m.fs.length m.fC) := fun p => by rw [← hfA]; exact (HK.out p.w (hb3.trans (p.h.mono hb3.size))).2.1
  have m7 : ∀ p : BW w3, p.w.cell? ⟨fb, fo + f * 8 + 7, none⟩ = some (.slice (some ⟨b2, o2, none⟩) g.c.ins.length g.c.insC) := fun p => by
    have := HGL.out p 7 (.slice g.c.insA g.c.ins.length g.c.insC) rfl
    rw [Addr.add_lit, hA2] at this; exact this
  have HPOST : Hid (∀ (p : BW w3) e w', GivesI p.w L e w' → GivesI w L e w') := by
    rintro p e w' ⟨ao, cap, rfl, h1, h2⟩
    have hb := hb3.trans (p.h.mono hb3.size)
    refine ⟨ao, cap, rfl, h1.mono ?_, ?_⟩
    · have := hb.size; rw [HS2.out] at this; rw [HN.out]; omega
    · rw [HN.out]; exact (HK.out p.w hb).2.2.1.trans (h2.mono (by have := hb.size; rw [HS2.out] at this; omega))
  unfold jg at HMO
  rw [hfA] at c1 HMO ⊢
  rw [hA2] at e7 HMO
  clear hmi hb3 hbw hF hg hfc hi hc2
  go_wp2_with fail
  clear e7 c0 c1
  refine wp_region_phase 16 1 rfl (by kernel_rfl) (by kernel_rfl) (by kernel_rfl) (fun w' => ∃ p : BW w3, w' = p.w) ⟨⟨w3.drew, (Below.refl _ _).drew⟩, rfl⟩ ?_
  dsimp only [List.take]
  repeat (first
    | (go_big_quiet_want; (refine quiet_load_bw 50 _ rfl ⟨fb, fo + f * 8, none⟩ rfl _ _ HGL.out Try.underlying50 rfl (by kernel_rfl) ?_); (simp only [Act.put, List.setIfInBounds_toArray, List.set_cons_zero, List.set_cons_succ]); go_big_quiet_on)
    | (go_big_quiet_want; (refine quiet_load_bw 62 _ rfl ⟨b2, o2 + a * 13, none⟩ rfl _ _ HIL.out Try.underlying62 rfl (by kernel_rfl) ?_); (simp only [Act.put, List.setIfInBounds_toArray, List.set_cons_zero, List.set_cons_succ]); go_big_quiet_on)
    | (go_big_quiet_step (fail)))
  refine wpQuiet_nil ?_
  rintro _ ⟨p, rfl⟩
  refine wpOp_step rfl fun K' hK => ?_
  rw [if_pos (by rfl)]
  go_simp
  go_at_call 44
  refine (HMO.out p).mono ?_
  intro e w4 hg4
  have HR := Lib.hid (HPOST.out p e w4 hg4)
  obtain ⟨ao, cap, rfl, _, _⟩ := hg4
  refine hK _ _ ?_
  clear hK
  try simp only [Act.put, List.getElem_toArray, List.getElem_cons_zero, List.getElem_cons_succ, List.setIfInBounds_toArray, List.set_cons_zero, List.set_cons_succ]
  refine wpAny_end 17 rfl (by kernel_rfl) (by kernel_rfl) (· = w4) rfl ?_
  dsimp only [List.drop]
  repeat (go_big_quiet_step (fail))
  refine wpQuiet_nil ?_
  rintro _ rfl
  go_wp2
  go_ret
  exact HR.out
end Go.Proofs.Ytlggjbopfnndbaa


namespace Go.Proofs.Ytlggjbopfnndbaa
open Go.RowKit

def alI (op d a : Int) : Ins := ⟨op, d, a, 0, 0, 0, ⟨#[]⟩, .slice none 0 0, .slice none 0 0, 0, 0, 0, 0, []⟩
def alV (p : Bool) (t : ByteArray) (c : Int) : Vr := ⟨p, t, c⟩
def alG (N : Nat) : Fn := ⟨⟨mainB, 0, some ⟨N + 1 + 1, 0, none⟩, 3, 3, false, ⟨#[]⟩, 0, none, 0, 0, some ⟨N + 1 + 1 + 1 + 1, 0, none⟩, 4, [alI 12 0 0, alI 9 1 0, alI 1 2 0, alI 18 0 2]⟩, [alV true ⟨#[83]⟩ 1, alV true ⟨#[83]⟩ 1, alV false ⟨#[]⟩ 0], [], [[], [], [], []]⟩
def alM (N : Nat) : Mo := ⟨some ⟨N + 1 + 1 + 1 + 1 + 1, 0, none⟩, 1, some ⟨N + 1 + 1 + 1 + 1 + 1 + 1, 0, none⟩, 1, [⟨⟨⟨#[83]⟩, none, 0, 0, 0, 0⟩, []⟩], [alG N]⟩

theorem rowOf_heap {α : Type} {cells : α → Array Value} {k b : Nat} {t : TypeId} (hc : ∀ a, (cells a).toList.length = k) {w : World} {xs : List α} {cs : Array Value} (h : w.heap[b]? = some (.cells cs t (0, 0))) (e : (xs.flatMap fun a => (cells a).toList) = cs.toList) : RowOf cells k w w.heap.size (some ⟨b, 0, none⟩) xs := by
  intro _
  refine ⟨b, 0, rfl, (Array.getElem?_eq_some_iff.1 h).1, fun i x hx q u hu => ?_⟩
  rw [cell_of_row _ _ _ _ _ _ h, Nat.zero_add, ← Array.getElem?_toList, ← e, flat_get hc hx q (by rw [← hc x]; exact (List.getElem?_eq_some_iff.1 hu).1)]
  exact hu

theorem gives27_results (tmps : Array Value) (w : World) (b : Nat) (u v : Value) (ht : tmps[0]? = some (.pointer (some ⟨b, 0, none⟩))) (hc : w.cell? ⟨b, 0, none⟩ = some u) (hc2 : w.cell? ⟨b, 1, none⟩ = some v) :
    (results Try.f42 tmps).run Try.prog w = .ok (.agg #[u, v]) w := by
  have h : Try.f42.results = #[.cell 0 25] := rfl
  have hu : Try.prog.underlying 25 = _ := Try.underlying25
  simp [results, go_sem, ht, hc, hc2]

theorem rowOf_nil {α : Type} (cells : α → Array Value) (k : Nat) (w : World) (B : Nat) (ao : Option Addr) : RowOf cells k w B ao [] := fun h => (h rfl).elim

theorem alM_in {w : World} {N : Nat} {t3 t5 t6 t7 : TypeId}
    (h2 : w.heap[N + 1 + 1]? = some (.cells (((alG N).vs.flatMap fun v => v.cells.toList)).toArray t3 (0, 0)))
    (h4 : w.heap[N + 1 + 1 + 1 + 1]? = some (.cells (((alG N).c.ins.flatMap fun v => v.cells.toList)).toArray t5 (0, 0)))
    (h5 : w.heap[N + 1 + 1 + 1 + 1 + 1]? = some (.cells (((alM N).ss.flatMap fun v => v.cells.toList)).toArray t6 (0, 0)))
    (h6 : w.heap[N + 1 + 1 + 1 + 1 + 1 + 1]? = some (.cells (((alM N).fs.flatMap fun v => v.cells.toList)).toArray t7 (0, 0))) : RightIn w (alM N) := by
  have hv : RowOf Vr.cells 3 w w.heap.size (some ⟨N + 1 + 1, 0, none⟩) (alG N).vs := rowOf_heap vrLen h2 (by simp)
  have hi : RowOf Ins.cells 13 w w.heap.size (some ⟨N + 1 + 1 + 1 + 1, 0, none⟩) (alG N).c.ins := rowOf_heap insLen h4 (by simp)
  have hs : RowOf St.cells 4 w w.heap.size (some ⟨N + 1 + 1 + 1 + 1 + 1, 0, none⟩) (alM N).ss := rowOf_heap stLen h5 (by simp)
  have hf : RowOf Fn.cells 8 w w.heap.size (some ⟨N + 1 + 1 + 1 + 1 + 1 + 1, 0, none⟩) (alM N).fs := rowOf_heap fnLen h6 (by simp)
  have hai : ∀ x ∈ (alG N).c.ins, x.args = [] ∧ x.argsV = .slice none 0 0 ∧ x.modeV = .slice none 0 0 := by
    intro x hx
    simp only [alG, List.mem_cons, List.not_mem_nil, or_false] at hx
    rcases hx with rfl | rfl | rfl | rfl <;> exact ⟨rfl, rfl, rfl⟩
  refine ⟨⟨hs, hf, ?_, ?_, Nat.le_of_ble_eq_true (by kernel_rfl), Nat.le_of_ble_eq_true (by kernel_rfl)⟩, Nat.le_of_ble_eq_true (by kernel_rfl), Nat.le_of_ble_eq_true (by kernel_rfl), ?_, ?_, ?_⟩
  · intro s hs'
    simp only [alM, List.mem_singleton] at hs'
    subst hs'
    exact ⟨rfl, rowOf_nil _ _ _ _ _, Nat.le_of_ble_eq_true (by kernel_rfl), Nat.le_of_ble_eq_true (by kernel_rfl), by simp⟩
  · intro f hf'
    simp only [alM, List.mem_singleton] at hf'
    subst hf'
    refine ⟨⟨hi, ?_, Nat.le_of_ble_eq_true (by kernel_rfl), ⟨_, rfl, hv⟩, Nat.le_of_ble_eq_true (by kernel_rfl), Nat.le_of_ble_eq_true (by kernel_rfl), ⟨[], rfl, rowOf_nil _ _ _ _ _⟩⟩, Nat.le_of_ble_eq_true (by kernel_rfl), rfl, hv, rfl, rowOf_nil _ _ _ _ _, rfl, ?_⟩
    · intro x hx
      obtain ⟨e1, e2, e3⟩ := hai x hx
      exact ⟨⟨⟨_, _, by rw [e1]; exact e2⟩, _, _, _, e3⟩, _, _, by rw [e1]; exact e2, by rw [e1]; exact rowOf_nil _ _ _ _ _⟩
    · intro k i l h1 h2
      have e1 : l = [] := by
        have := List.mem_of_getElem? h2
        simpa [alG] using this
      rw [e1]
      exact ⟨_, _, (hai i (List.mem_of_getElem? h1)).2.2, rowOf_nil _ _ _ _ _⟩
  · intro s hs'
    simp only [alM, List.mem_singleton] at hs'
    subst hs'; exact Nat.zero_le _
  · intro f hf'
    simp only [alM, List.mem_singleton] at hf'
    subst hf'
    show 3 ≤ 90000
    decide
  · intro f hf' i hi'
    simp only [alM, List.mem_singleton] at hf'
    subst hf'
    rw [(hai i hi').1]; decide

theorem alM_right (N : Nat) : rightF (alM N) = 0 := by kernel_rfl
theorem alM_classed (N : Nat) : classedF (alM N) = true := by kernel_rfl
theorem alM_mode (N : Nat) : modeF (alM N) 0 1 = [1] := by kernel_rfl
theorem alM_modes (N : Nat) : (alG N).c.ins.map (modesF (alM N) (alG N)) = [[], [1], [], []] := by kernel_rfl

theorem alloc_at2 {w : World} {o : Obj} {n : Nat} (h : w.heap.size = n) : (w.alloc o).heap[n]? = some o := by rw [← h]; exact alloc_at _ _

def alW (w : World) (N : Nat) (t0 t3 t5 t6 t7 : TypeId) (o1 o3 : Obj) : World :=
  ((((((w.alloc (.cells (alM N).cells t0)).alloc o1).alloc (.cells (((alG N).vs.flatMap fun v => v.cells.toList)).toArray t3)).alloc o3).alloc (.cells (((alG N).c.ins.flatMap fun v => v.cells.toList)).toArray t5)).alloc (.cells (((alM N).ss.flatMap fun v => v.cells.toList)).toArray t6)).alloc (.cells (((alM N).fs.flatMap fun v => v.cells.toList)).toArray t7)

theorem alW_ok (w : World) (N : Nat) (hN : w.heap.size = N) (t0 t3 t5 t6 t7 : TypeId) (o1 o3 : Obj) :
    RightIn (alW w N t0 t3 t5 t6 t7 o1 o3) (alM N) ∧ Below w.heap.size w (alW w N t0 t3 t5 t6 t7 o1 o3) ∧ (alW w N t0 t3 t5 t6 t7 o1 o3).cell? ⟨N, 0, none⟩ = some (.slice (alM N).sA 1 1) ∧ (alW w N t0 t3 t5 t6 t7 o1 o3).cell? ⟨N, 1, none⟩ = some (.slice (alM N).fA 1 1) := by
  have g0 : (alW w N t0 t3 t5 t6 t7 o1 o3).heap[N]? = some (.cells (alM N).cells t0 (0, 0)) := by
    unfold alW
    rw [Below.heap_alloc _ _ _ (by simp only [World.size_alloc]; omega), Below.heap_alloc _ _ _ (by simp only [World.size_alloc]; omega), Below.heap_alloc _ _ _ (by simp only [World.size_alloc]; omega), Below.heap_alloc _ _ _ (by simp only [World.size_alloc]; omega), Below.heap_alloc _ _ _ (by simp only [World.size_alloc]; omega), Below.heap_alloc _ _ _ (by simp only [World.size_alloc]; omega)]
    exact alloc_at2 hN
  refine ⟨alM_in (t3 := t3) (t5 := t5) (t6 := t6) (t7 := t7) ?_ ?_ ?_ ?_, ?_, ?_, ?_⟩
  · unfold alW
    rw [Below.heap_alloc _ _ _ (by simp only [World.size_alloc]; omega), Below.heap_alloc _ _ _ (by simp only [World.size_alloc]; omega), Below.heap_alloc _ _ _ (by simp only [World.size_alloc]; omega), Below.heap_alloc _ _ _ (by simp only [World.size_alloc]; omega)]
    exact alloc_at2 (by simp only [World.size_alloc]; omega)
  · unfold alW
    rw [Below.heap_alloc _ _ _ (by simp only [World.size_alloc]; omega), Below.heap_alloc _ _ _ (by simp only [World.size_alloc]; omega)]
    exact alloc_at2 (by simp only [World.size_alloc]; omega)
  · unfold alW
    rw [Below.heap_alloc _ _ _ (by simp only [World.size_alloc]; omega)]
    exact alloc_at2 (by simp only [World.size_alloc]; omega)
  · unfold alW
    exact alloc_at2 (by simp only [World.size_alloc]; omega)
  · unfold alW
    exact (((((((Below.refl _ _).alloc (Nat.le_refl _) _).alloc (by simp only [World.size_alloc]; omega) _).alloc (by simp only [World.size_alloc]; omega) _).alloc (by simp only [World.size_alloc]; omega) _).alloc (by simp only [World.size_alloc]; omega) _).alloc (by simp only [World.size_alloc]; omega) _).alloc (by simp only [World.size_alloc]; omega) _
  · rw [cell_of_row _ _ _ _ _ _ g0]; rfl
  · rw [cell_of_row _ _ _ _ _ _ g0]; rfl

set_option maxRecDepth 100000 in
set_option maxHeartbeats 16000000 in
theorem gives27_calls (w : World) : Calls Try.prog 42 #[] w fun e w' => ∃ N, e = .returned (.agg (alM N).cells) ∧ RightIn w' (alM N) ∧ Below w.heap.size w w' := by
  obtain ⟨N, hN⟩ : ∃ N, w.heap.size = N := ⟨_, rfl⟩
  have HF := Lib.hid (fun t0 t3 t5 t6 t7 o1 o3 => alW_ok w N hN t0 t3 t5 t6 t7 o1 o3)
  go_enter Try.func42, Try.ntmps42
  go_wp2
  exact bodyPost_ret (gives27_results _ _ N _ _ rfl (HF.out 25 _ _ _ _ _ _).2.2.1 (HF.out 25 _ _ _ _ _ _).2.2.2) rfl ⟨N, rfl, (HF.out 25 _ _ _ _ _ _).1, (HF.out 25 _ _ _ _ _ _).2.1⟩
end Go.Proofs.Ytlggjbopfnndbaa


namespace Go.Proofs.Ytlggjbopfnndbaa
open Go.RowKit

theorem alive_sums {N : Nat} {n : Mo} (h : RewOf (alM N) n) : n.fs.length = 1 ∧ sumF ownOne n.fs = 1 ∧ sumF lentOne n.fs = 0 ∧ ∀ g ∈ n.fs, g.mds.length ≤ 3000 ∧ ∀ x ∈ g.mds, x.length ≤ 400 := by
  obtain ⟨_, hl, k, _, hf⟩ := h
  obtain ⟨g', h1, h2⟩ := hf 0 (alG N) rfl
  have e := h2.mds
  rw [alM_modes] at e
  have hl' : n.fs.length = 1 := hl
  obtain ⟨x, hx⟩ := List.length_eq_one_iff.1 hl'
  rw [hx] at h1 ⊢
  have e2 : x = g' := by simpa using h1
  subst e2
  refine ⟨rfl, ?_, ?_, ?_⟩
  · simp only [sumF, e]; decide
  · simp only [sumF, e]; decide
  · intro g hg
    have e3 : g = x := by simpa using hg
    rw [e3, e]
    refine ⟨by decide, fun y hy => ?_⟩
    simp only [List.mem_cons, List.not_mem_nil, or_false] at hy
    rcases hy with rfl | rfl | rfl | rfl <;> decide

set_option maxRecDepth 100000 in
set_option maxHeartbeats 16000000 in
theorem alive27_calls (w : World) : Calls Try.prog 12 #[] w fun e w' => e = .returned (.bool true) ∧ Below w.heap.size w w' := by
  go_enter Try.func12, Try.ntmps12
  go_wp2_with fail
  go_at_call 42
  refine (gives27_calls w).mono ?_
  rintro e w1 ⟨N1, rfl, hin1, hb1⟩
  have HRW := Lib.hid (rewrite_calls (alM N1) w1 hin1)
  have HB1 := Lib.hid hb1
  clear hin1 hb1
  go_wp2_with fail
  go_at_call 13
  refine HRW.out.mono ?_
  rintro e w2 (⟨h, _⟩ | ⟨_, h, _⟩ | ⟨_, _, n, rfl, hn, hrw, hb2⟩)
  · exact (h (alM_right N1)).elim
  · rw [alM_classed] at h; exact absurd h (by simp)
  clear HRW
  obtain ⟨hl, hso, hsl, hmx⟩ := alive_sums hrw
  obtain ⟨N2, hN2⟩ : ∃ N, w2.heap.size = N := ⟨_, rfl⟩
  obtain ⟨W3, hW3⟩ : ∃ W3, w2.alloc (.cells n.cells 25) = W3 := ⟨_, rfl⟩
  have hb3 : Below w2.heap.size w2 W3 := by rw [← hW3]; exact (Below.refl _ _).alloc (Nat.le_refl _) _
  have hs3 : W3.heap.size = N2 + 1 := by rw [← hW3]; simp [hN2]
  have hr3 : W3.heap[N2]? = some (.cells n.cells 25 (0, 0)) := by rw [← hW3, ← hN2]; exact alloc_at _ _
  have hb13 : Below w.heap.size w W3 := (HB1.out.trans (hb2.mono HB1.out.size)).trans (hb3.mono (by have := HB1.out.size; have := hb2.size; omega))
  have HK : Hid (∀ W, Below W3.heap.size W3 W → W.cell? ⟨N2, 0, none⟩ = some (.slice n.sA n.ss.length n.sC) ∧ W.cell? ⟨N2, 1, none⟩ = some (.slice n.fA n.fs.length n.fC) ∧ n.inn W ∧ Below w.heap.size w W) := fun W hW => by
    have h1 := (hW.block N2 (by omega)).trans hr3
    exact ⟨by rw [cell_of_row _ _ _ _ _ _ h1]; rfl, by rw [cell_of_row _ _ _ _ _ _ h1]; rfl, (hn.below hb3).below hW, hb13.trans (hW.mono hb13.size)⟩
  have hW3' := hW3
  simp only [Mo.cells] at hW3'
  have HW3 := Lib.hid hW3'
  have HHL := Lib.hid hl
  have HSO := Lib.hid hso
  have HSL := Lib.hid hsl
  have HMX := Lib.hid hmx
  have HN2 := Lib.hid hN2
  obtain ⟨c0, c1, _, _⟩ := HK.out W3 (Below.refl _ _)
  clear hW3 hW3' hb13 hr3 hs3 hb3 hn hrw hb2 hl hso hsl hmx HB1
  simp only [Mo.cells]
  go_upto_region 2 with (fail)
  rw [HW3.out]
  clear c0 c1
  go_wp2_with fail
  go_at_call 42
  refine (gives27_calls W3).mono ?_
  rintro e w4 ⟨N4, rfl, hin4, hb4⟩
  have HMD := Lib.hid (mode_calls (alM N4) w4 hin4 0 1)
  have HB4 := Lib.hid hb4
  rw [alM_mode] at HMD
  clear hin4 hb4
  go_wp2_with fail
  go_at_call 19
  refine HMD.out.mono ?_
  rintro e w5 ⟨ao, cap, rfl, hown, hb5⟩
  clear HMD
  have hir : IntRow w5 ao [1] := intRow_own (M := fun _ => False) hown (Ext.refl _ _) (fun _ _ h => h)
  have hb5' := HB4.out.trans (hb5.mono HB4.out.size)
  obtain ⟨c0, c1, hn5, _⟩ := HK.out w5 hb5'
  have HMV := Lib.hid (moves_calls w5 n hn5 (by rw [HHL.out]; decide) HMX.out)
  rw [HSO.out, HSL.out] at HMV
  simp only [Mo.cells] at HMV
  have HB5 := Lib.hid hb5'
  have HIR := Lib.hid hir
  clear hown hb5 hb5' hn5 hir
  go_wp2_with fail
  go_at_call 15
  refine HMV.out.mono ?_
  rintro e w6 ⟨rfl, hb6⟩
  have hb6' := HB5.out.trans (hb6.mono HB5.out.size)
  clear c0 c1
  obtain ⟨_, c1, _, hbw⟩ := HK.out w6 hb6'
  have hir6 : IntRow w6 ao [1] := RowOf.grow HIR.out hb6
  obtain ⟨b, o, rfl, hb, hc⟩ := hir6 (by simp)
  have d0 := hc 0 1 rfl 0 _ rfl
  simp only [Nat.mul_one, Nat.add_zero] at d0
  have HR := Lib.hid hbw
  rw [HHL.out] at c1
  clear hb6 hb6' hbw hc hb
  go_wp2
  go_ret
  exact ⟨rfl, HR.out⟩
end Go.Proofs.Ytlggjbopfnndbaa
