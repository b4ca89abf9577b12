/- The order of a code's instructions: Order itself. -/
import Derived.Test.YtpbkkajgcdahcaaOrder
namespace Go.Proofs.Ytpbkkajgcdahcaa
open Go.RowKit

/-- L: what a walk from the first instruction leaves, in order. -/
def OrderL (ins : List Ins) (L : List Nat) : Prop :=
  (ins = [] → L = []) ∧ (ins ≠ [] → ∃ (k : Nat) (M : List Nat), wlk (nextN ins) k [(0, nextN ins 0)] [0] [] = some (M, L) ∧ M.length ≤ 90000 ∧ L.length ≤ 90000)

theorem order_results (tmps : Array Value) (w : World) (ad : Addr) (v : Value) (ht : tmps[2]? = some (.pointer (some ad))) (hc : w.cell? ad = some v) : (results Try.f16 tmps).run Try.prog w = .ok v w := by
  have h : Try.f16.results = #[.cell 2 27] := rfl
  have hu : Try.prog.underlying 27 = _ := Try.underlying27
  simp [results, h, go_sem, ht, hc, hu]

set_option maxRecDepth 100000 in
set_option maxHeartbeats 2000000 in
theorem order_calls (c : Cod) (w : World) (L : List Nat) (hins : InsRow w w.heap.size c.insA c.ins) (hn : c.ins.length ≤ 90000) (hL : OrderL c.ins L) :
    Calls Try.prog 16 #[.agg c.cells] w (GivesI w (ints L.reverse)) := by
  obtain ⟨nm, par, varsA, nvars, varsC, rp, rto, rcl, fromA, nfrom, fromC, insA, insC, ins⟩ := c
  simp only at hn hL hins
  simp only [Cod.cells]
  by_cases h0 : ins = []
  · have hLe := hL.1 h0
    subst h0
    subst hLe
    clear hL hins
    go_enter Try.func16, Try.ntmps16
    go_wp2
    refine bodyPost_ret (order_results _ _ ⟨w.heap.size + 1, 0, none⟩ (.slice none 0 0) rfl (by simp)) rfl ?_
    exact ⟨none, 0, rfl, OwnI.nil _ _, ((Below.refl _ w).alloc (Nat.le_refl _) _).alloc (by simp) _⟩
  · obtain ⟨k, M, hw, hMl, hLl⟩ := hL.2 h0
    have hpos : 0 < ins.length := List.length_pos_iff.2 h0
    have hne : ((ins.length : Int) == 0) = false := by simp; omega
    obtain ⟨W1, hW1⟩ : ∃ W1, (w.alloc (.cells #[.string nm, .int .i64 par, .slice varsA nvars varsC, .bool rp, .string rto, .int .i64 rcl, .slice fromA nfrom fromC, .slice insA ins.length insC] 30)).alloc (.cells #[.slice none 0 0] 27) = W1 := ⟨_, rfl⟩
    have hs1 : W1.heap.size = w.heap.size + 2 := by rw [← hW1]; simp
    have hx1 : Ext (fun _ => False) w W1 := by rw [← hW1]; exact ((Ext.refl _ w).alloc _).alloc _
    have hv1 : W1.heap[w.heap.size + 1]? = some (.cells #[.slice none 0 0] 27 (0, 0)) := by
      rw [← hW1]
      have := alloc_at (w.alloc (.cells #[.string nm, .int .i64 par, .slice varsA nvars varsC, .bool rp, .string rto, .int .i64 rcl, .slice fromA nfrom fromC, .slice insA ins.length insC] 30)) (.cells #[.slice none 0 0] 27)
      rwa [World.size_alloc] at this
    have HK : Hid (Calls Try.prog 52 #[.agg #[.string nm, .int .i64 par, .slice varsA nvars varsC, .bool rp, .string rto, .int .i64 rcl, .slice fromA nfrom fromC, .slice insA ins.length insC], .int .i64 0, .func (.func 53) #[] #[], .func (.func 54) #[] #[.pointer (some ⟨w.heap.size + 1, 0, none⟩)]] W1
        (fun e W2 => e = .returned (.tuple #[]) ∧ ∃ v, W2.heap[w.heap.size + 1]? = some (.cells #[v] 27 (0, 0)) ∧ OwnI W2 (w.heap.size + 2) v (ints L) ∧ Below w.heap.size w W2)) := by
      have hwx : Ext (fun k => w.heap.size + 1 ≤ k) W1 W1 := Ext.refl _ _
      refine (walk_calls ⟨nm, par, varsA, nvars, varsC, rp, rto, rcl, fromA, nfrom, fromC, insA, insC, ins⟩ 0 (.func 53) #[] #[] (.func (.func 54) #[] #[.pointer (some ⟨w.heap.size + 1, 0, none⟩)])
        (fun _ l C W => OrdI w.heap.size l C W ∧ Ext (fun k => w.heap.size + 1 ≤ k) W1 W) (fun _ _ => False) (fun k => k = w.heap.size + 1) W1 M L k ?_ hpos hn hw hMl ?_ ?_ ?_ ?_ ?_).mono ?_
      · exact (hins.ext hx1 (Nat.le_refl _) (fun _ _ _ h => h)).mono hx1.size
      · exact ⟨⟨_, hv1, OwnI.nil _ _, fun k => by simp [Value.ownBlock]⟩, hwx⟩
      · rintro m l C W ⟨⟨v, h1, h2, h3⟩, hx⟩ k hk
        obtain ⟨b, off, e, hb, _⟩ := hins h0
        refine ⟨?_, fun a ha e2 => ?_⟩
        · rcases (h3 k).1 hk with rfl | h
          · exact (Array.getElem?_eq_some_iff.1 h1).1
          · exact (h2.lt k h).2
        · simp only at ha
          rw [e] at ha
          obtain rfl := Option.some.inj ha
          simp only at e2
          rcases (h3 k).1 hk with rfl | h
          · omega
          · have := (h2.lt k h).1; omega
      · rintro m l C W W' ⟨⟨v, h1, h2, h3⟩, hx⟩ hx2
        have hn1 : ¬ (W1.heap.size ≤ w.heap.size + 1 ∧ ¬ C (w.heap.size + 1)) := fun h => h.2 ((h3 _).2 (.inl rfl))
        refine ⟨⟨v, hx2.heap h1 hn1, ⟨h2.1, ?_⟩, h3⟩, hx.trans hx2 (fun j hj => .inr hj.1)⟩
        rcases h2.2 with h' | ⟨g, cap, cur, e1, e2, e3, e4⟩
        · exact .inl h'
        · exact .inr ⟨g, cap, cur, e1, e2, hx2.heap e3 (fun h => h.2 ((h3 _).2 (.inr (by rw [e1]; rfl)))), e4⟩
      · intro m l x C W hj hp
        exact (order1_meets x W (R := fun W' => W' = W) rfl).mono fun v W' h => .inl ⟨h.1, C, fun _ h => .inl h, by rw [h.2]; exact hj, by rw [h.2]; exact Ext.refl _ _⟩
      · rintro m l x C W ⟨hj, hx⟩ hp
        refine (order2_meets x w.heap.size l C W hj (by have := hp.length_le; simp at this; omega)).mono ?_
        rintro v W' ⟨C', h1, h2, h3⟩
        refine ⟨C', h1, ⟨h2, hx.trans h3 (fun j hj' => ?_)⟩, h3⟩
        obtain ⟨v, q1, q2, q3⟩ := hj
        rcases (q3 j).1 hj' with rfl | h
        · exact .inl (by omega)
        · have := (q2.lt j h).1; exact .inl (by omega)
      · rintro e W2 ⟨rfl, ⟨C', ⟨v, h1, h2, h3⟩, hx⟩ | ⟨m, _, h⟩⟩
        · refine ⟨rfl, v, h1, h2, ?_⟩
          exact ((hx1.mono (M' := fun k => w.heap.size ≤ k) (fun _ h => h.elim)).trans hx (fun j hj => .inl (by omega))).below (Nat.le_refl _) (fun k hk => hk)
        · exact h.elim
    have HW1 := Lib.hid hW1
    clear hL hw hMl hins hx1 hv1 hW1
    go_enter Try.func16, Try.ntmps16
    go_wp2_with fail
    go_at_call 52
    simp only [HW1.out]
    refine HK.out.mono ?_
    rintro e W2 ⟨rfl, v, hv, hown, hb⟩
    obtain ⟨ao, cap, rfl⟩ := hown.isSlice
    have hcv : W2.cell? ⟨w.heap.size + 1, 0, none⟩ = some (.slice ao (ints L).length cap) := by rw [cell_of_row _ _ _ _ _ _ hv]; rfl
    have hlt : w.heap.size + 1 < W2.heap.size := (Array.getElem?_eq_some_iff.1 hv).1
    have HREV := Lib.hid (reverse_own W2 (w.heap.size + 2) (ints L).length cap ao (ints L) hown (by simp [ints]; omega))
    have HB := Lib.hid hb
    have HV := Lib.hid hv
    clear hv hown hb HK HW1
    go_wp2_with fail
    go_at_call 55
    refine HREV.out.mono ?_
    rintro e W3 ⟨rfl, hown3, hb3⟩
    have hr3 : W3.heap[w.heap.size + 1]? = some (.cells #[.slice ao (ints L).length cap] 27 (0, 0)) := (hb3.block _ (by omega)).trans HV.out
    have hc3 : W3.cell? ⟨w.heap.size + 1, 0, none⟩ = some (.slice ao (ints L).length cap) := by rw [cell_of_row _ _ _ _ _ _ hr3]; rfl
    have hf3 : W3.frozen? ⟨w.heap.size + 1, 0, none⟩ = false := frozen_of_row _ _ _ _ _ hr3
    have hlr : (ints L.reverse).length = (ints L).length := by simp [ints]
    have HP : Hid (GivesI w (ints L.reverse) (.returned (.slice ao (ints L).length cap)) (W3.setCell ⟨w.heap.size + 1, 0, none⟩ (.slice ao (ints L).length cap))) := by
      have he : (ints L).reverse = ints L.reverse := by simp [ints]
      rw [he] at hown3
      refine ⟨ao, cap, by rw [hlr], ?_, (((Ext.of_below (HB.out.trans (hb3.mono (by omega)))).setCell (a := ⟨w.heap.size + 1, 0, none⟩) (.inl (by show w.heap.size ≤ w.heap.size + 1; omega)) _).below (Nat.le_refl _) (fun _ h => h))⟩
      rw [hlr]
      refine ⟨hown3.1, ?_⟩
      rcases hown3.2 with h' | ⟨g, cap', cur, e1, e2, e3, e4⟩
      · exact .inl h'
      · refine .inr ⟨g, cap', cur, e1, by omega, ?_, e4⟩
        rw [heap_setCell_other _ _ _ _ (by show g ≠ w.heap.size + 1; omega)]; exact e3
    have HC3 := Lib.hid hr3
    clear hown3 hb3 hcv hr3 HREV HV HB
    go_wp2
    refine bodyPost_ret (order_results _ _ ⟨w.heap.size + 1, 0, none⟩ (.slice ao (ints L).length cap) rfl ?_) rfl HP.out
    rw [cell_of_row _ _ _ _ _ _ (heap_setCell_same _ _ _ _ _ _ HC3.out)]; rfl
end Go.Proofs.Ytpbkkajgcdahcaa
