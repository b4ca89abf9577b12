/- DomNils, at any two numbers: true. -/
import Derived.Test.YtpbkkajgcdahcaaDomN
namespace Go.Proofs.Ytpbkkajgcdahcaa
open Go.RowKit
attribute [local go_sem] Oper.semAt_some

theorem dnils_results (tmps : Array Value) (w : World) (ad : Addr) (v : Value) (ht : tmps[4]? = some (.pointer (some ad))) (hc : w.cell? ad = some v) : (results Try.f13 tmps).run Try.prog w = .ok v w := by
  simp [results, go_sem, ht, hc]

/-- A function that gives true, and nothing that was there has changed. -/
def YesN (w : World) (e : Ending) (w' : World) : Prop := e = .returned (.bool true) ∧ Below w.heap.size w w'

set_option maxRecDepth 100000 in
set_option maxHeartbeats 4000000 in
theorem domNils_calls (a b : Int) (w : World) : Calls Try.prog 13 #[.int .i64 a, .int .i64 b] w (YesN w) := by
  obtain ⟨N, hN⟩ : ∃ N, w.heap.size = N := ⟨_, rfl⟩
  obtain ⟨W1, hW1⟩ : ∃ W1, w.alloc (.cells #[.bool false] 4) = W1 := ⟨_, rfl⟩
  have hb1 : Below w.heap.size w W1 := by rw [← hW1]; exact (Below.refl _ _).alloc (Nat.le_refl _) _
  have hsz : W1.heap.size = N + 1 := by rw [← hW1]; simp [hN]
  have hres : W1.heap[N]? = some (.cells #[.bool false] 4 (0, 0)) := by rw [← hW1, ← hN]; exact alloc_at _ _
  have HS : Hid (∀ W, Below (N + 1) W1 W → W.cell? ⟨N, 0, none⟩ = some (.bool false) ∧ W.frozen? ⟨N, 0, none⟩ = false ∧ N + 1 ≤ W.heap.size) := by
    intro W h1
    have h5 := (h1.block N (by omega)).trans hres
    exact ⟨by rw [cell_of_row _ _ _ _ _ _ h5]; rfl, frozen_of_row _ _ _ _ _ h5, by have := h1.size; omega⟩
  have HY : Hid (∀ Wx w' (M : Nat → Prop), (∀ k, M k → N + 1 ≤ k) → Below (N + 1) W1 Wx → Ext M (Wx.setCell ⟨N, 0, none⟩ (.bool true)) w' → w'.cell? ⟨N, 0, none⟩ = some (.bool true) ∧ YesN w (.returned (.bool true)) w') := by
    intro Wx w' M hM hb hx
    have hsx : N + 1 ≤ Wx.heap.size := by have := hb.size; omega
    have h0 : Ext (fun k => N ≤ k) w W1 := Ext.of_below (by rw [hN] at hb1; exact hb1)
    have h1 : Ext (fun k => N ≤ k) w (Wx.setCell ⟨N, 0, none⟩ (.bool true)) := (h0.trans (Ext.of_below hb) (fun k hk => .inl (by omega))).trans (Ext.set1 _ _ _ _) (fun k hk => .inl (by omega))
    have h2 : Ext (fun k => N ≤ k) w w' := h1.trans hx (fun k hk => .inl (by have := hM k hk; omega))
    obtain ⟨k8, _, _⟩ := HS.out Wx hb
    refine ⟨?_, rfl, by rw [hN]; exact h2.below (by omega) (fun _ h => h)⟩
    rw [hx.cell (a := ⟨N, 0, none⟩) (by rw [World.size_setCell]; show N < _; omega) (fun h => by have := hM _ h; simp only at this; omega)]
    first | exact World.cell?_setCell_same _ k8 | exact World.cell?_setCell_same _ _ k8 | exact World.cell?_setCell_same _ _ _ k8
  have HW1 := Lib.hid hW1
  have hs1 : N + 1 ≤ W1.heap.size := by omega
  clear hb1 hsz hres hW1
  (refine calls_of_wp_marks Try.func13 rfl ?_
   simp only [Try.ntmps13, List.size_toArray, List.length_cons, List.length_nil, Nat.reduceAdd, Nat.reduceSub, Array.replicate_succ,
     Array.replicate_zero, List.push_toArray, List.append_toArray, List.nil_append, List.cons_append])
  go_upto_region 1 with (fail)
  rw [HW1.out]
  go_wp2_with fail
  go_at_call 29
  refine (alive9_calls _).mono ?_
  rintro e w2 ⟨rfl, hb2⟩
  have hb2' : Below (N + 1) W1 w2 := hb2.mono hs1
  have HB2 := Lib.hid hb2'
  obtain ⟨_, _, hs2⟩ := HS.out w2 hb2'
  clear hb2 hb2'
  go_wp2_with fail
  go_at_call 48
  refine (under_calls w2 none a).mono ?_
  rintro e W3 ⟨rfl, hW3⟩
  obtain ⟨B, hB⟩ : ∃ B, w2.heap.size = B := ⟨_, rfl⟩
  have hb3 : Below (N + 1) W1 W3 := by rw [hW3]; exact (HB2.out.alloc hs2 _).alloc (by simp; omega) _
  have hp1 : W3.heap[B]? = some (.cells #[.pointer none] 48 (0, 0)) := by
    rw [hW3, ← hB, Below.heap_alloc _ _ _ (by simp)]; exact alloc_at _ _
  have hp2 : W3.heap[B + 1]? = some (.cells #[.int .i64 a] 3 (0, 0)) := by
    rw [hW3, ← hB]
    have := alloc_at (w2.alloc (.cells #[.pointer none] 48)) (.cells #[.int .i64 a] 3)
    rwa [World.size_alloc] at this
  have hs3 : W3.heap.size = B + 2 := by rw [hW3]; simp [hB]
  have hNB : N + 1 ≤ B := by omega
  rw [hB]
  have HB3 := Lib.hid hb3
  clear hW3 hb3
  go_wp2_with fail
  refine wp_rangeFunc_sep (α := Nat) (gf := 74) rfl Try.func74 (by rfl) rfl (underN_iter W3 B a hp1 hp2) ?hbel ?hRd (fun _ => rfl)
    (fun pre C W => C = (fun _ => False) ∧ Ext (fun _ => False) W3 W) (fun _ _ _ _ => False) ?hI ?hIC (fun _ _ _ _ _ h _ => h.elim) (fun _ => False) ?h0 ?hround ?hdone (fun _ _ _ _ _ _ _ _ h _ => h.elim)
  case hbel => exact Below.refl _ _
  case hRd => exact fun k h => by omega
  case hI =>
    rintro pre C W W' ⟨rfl, h2⟩ hx
    exact ⟨rfl, h2.trans hx (fun j hj => .inr hj.1)⟩
  case hIC =>
    rintro pre C W ⟨rfl, h2⟩ k h
    exact h.elim
  case h0 => exact ⟨rfl, Ext.refl _ _⟩
  case hround =>
    rintro l pre x C W hl ⟨rfl, h2⟩ hpre
    exact absurd hpre.length_le (by simp)
  case hdone =>
    rintro D C2 W hD _ ⟨_, h2⟩ hdd
    have hbW : Below (N + 1) W1 W := HB3.out.trans (h2.below (by omega) (fun _ h => h.elim))
    have hDlt : D < W.heap.size := (Array.getElem?_eq_some_iff.1 hdd).1
    have hsW := h2.size
    have HBW := Lib.hid hbW
    have HDD := Lib.hid hdd
    clear h2 hbW hdd hp1 hp2
    go_wp2_with fail
    go_at_call 33
    refine (overN_calls W a).mono ?_
    rintro e w' ⟨rfl, rfl⟩
    go_wp2_with fail
    go_at_call 38
    refine (dominatesN_calls W a b).mono ?_
    rintro e w' ⟨rfl, rfl⟩
    go_wp2_with fail
    go_at_call 37
    refine (pathN_calls W a).mono ?_
    rintro e w' ⟨rfl, rfl⟩
    go_wp2_with fail
    go_at_call 49
    refine (naturalN_calls W a).mono ?_
    rintro e w' ⟨rfl, rfl⟩
    go_wp2_with fail
    go_at_call 35
    refine (depthN_calls W b).mono ?_
    rintro e w' ⟨rfl, rfl⟩
    go_wp2_with fail
    go_at_call 29
    refine (alive9_calls _).mono ?_
    rintro e w9 ⟨rfl, hb9⟩
    have hb19 : Below (N + 1) W1 w9 := HBW.out.trans (hb9.mono (by omega))
    obtain ⟨k8, k9, _⟩ := HS.out w9 hb19
    have HD9 : Hid ((w9.setCell ⟨N, 0, none⟩ (.bool true)).heap[D]? = some (.deferred (some []))) := by
      unfold Hid
      rw [heap_setCell_other _ _ _ _ (by show D ≠ N; omega), hb9.block D hDlt]; exact HDD.out
    have HB19 := Lib.hid hb19
    clear hb9 hb19
    go_wp2
    refine ⟨[D], rfl, by simp, by intro b hb; simp at hb; subst hb; exact HD9.out, .bool true, fun w' hx => ?_⟩
    obtain ⟨h3, h4⟩ := HY.out w9 w' (· = D) (fun k hk => by omega) HB19.out (hx.mono (fun k hk => by simpa using hk))
    exact ⟨dnils_results _ _ _ _ rfl h3, h4⟩
end Go.Proofs.Ytpbkkajgcdahcaa
