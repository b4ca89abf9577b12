/- A row of a graph's table is stored anew. -/
import Derived.Test.YtbbogkcfngpbbaaCaO2
import Derived.Test.YtbbogkcfngpbbaaCaS
import Derived.Test.YtbbogkcfngpbbaaCaG4
import Derived.Test.YtbbogkcfngpbbaaRegK
namespace Go.Proofs.Ytbbogkcfngpbbaa
open Go.RowKit

section
variable {w : World} {N G n DN UP ST RE GP : Nat} {gv : Value} {tag : Nat → Nat} {d u : Nat → List Nat} {s : Nat → List (Nat × Nat)} {r : Nat → List Bool} {gi : Nat → Int}

theorem GM.storeD (h : GM w N G n DN UP ST RE GP gv tag d u s r gi) (hN : N ≤ w.heap.size) {i : Nat} (hi : i < n) :
    ∃ ao cap, w.cell? ⟨DN, i, none⟩ = some (.slice ao (d i).length cap) ∧ w.ownsRow 0 3 1 (.slice ao (d i).length cap) (d i).length ((d i).flatMap encN) ∧
      ∀ (w5 : World) (v' : Value) (ys : List (Nat)), Ext (fun k => (Value.slice ao (d i).length cap).ownBlock = some k) w w5 → w5.ownsRow 0 3 1 v' ys.length (ys.flatMap encN) →
        (∀ k, v'.ownBlock = some k → (Value.slice ao (d i).length cap).ownBlock = some k ∨ w.heap.size ≤ k) →
        w5.cell? ⟨DN, i, none⟩ = some (.slice ao (d i).length cap) ∧ w5.frozen? ⟨DN, i, none⟩ = false ∧ (∀ q x, w.cell? q = some x → tag q.block = 0 → w5.cell? q = some x) ∧
          ∃ tag', GM (w5.setCell ⟨DN, i, none⟩ v') N G n DN UP ST RE GP gv tag' (fun j => if j = i then ys else d j) u s r gi ∧ Ext (fun k => N ≤ k) w (w5.setCell ⟨DN, i, none⟩ v') ∧
            (∀ q x, w.cell? q = some x → tag q.block = 0 → (w5.setCell ⟨DN, i, none⟩ v').cell? q = some x) ∧ ∀ k, k < w.heap.size → tag' k = tag k := by
  obtain ⟨v, cv, _, ov, tv⟩ := h.D.at_ hi
  obtain ⟨ao, cap, rfl⟩ := ownsRow_slice ov
  refine ⟨ao, cap, cv, ov, fun w5 v' ys hx hnew hat => ?_⟩
  obtain ⟨p1, p2, p3, p4⟩ := h.putD (ys := ys) hN cv hx hnew hat
  have key : ∀ q x, w.cell? q = some x → tag q.block = 0 → w5.cell? q = some x := fun q x hq ht =>
    (hx.cell (spot_of_cell hq).2 (fun e => by have e2 : tag q.block = 1 := (tv _ e).1; omega)).trans hq
  refine ⟨p1, p2, key, _, p3, p4, fun q x hq ht => ?_, fun k hk => tagNew_old hk⟩
  have hxs : Ext (· = DN) w5 (w5.setCell ⟨DN, i, none⟩ v') := Ext.set1 _ _ _ _
  refine (hxs.cell (spot_of_cell (key q x hq ht)).2 (fun e => ?_)).trans (key q x hq ht)
  have e2 : tag DN = 1 := h.D.own
  have e3 : q.block = DN := e
  rw [e3] at ht
  omega

theorem GM.storeU (h : GM w N G n DN UP ST RE GP gv tag d u s r gi) (hN : N ≤ w.heap.size) {i : Nat} (hi : i < n) :
    ∃ ao cap, w.cell? ⟨UP, i, none⟩ = some (.slice ao (u i).length cap) ∧ w.ownsRow 0 3 1 (.slice ao (u i).length cap) (u i).length ((u i).flatMap encN) ∧
      ∀ (w5 : World) (v' : Value) (ys : List (Nat)), Ext (fun k => (Value.slice ao (u i).length cap).ownBlock = some k) w w5 → w5.ownsRow 0 3 1 v' ys.length (ys.flatMap encN) →
        (∀ k, v'.ownBlock = some k → (Value.slice ao (u i).length cap).ownBlock = some k ∨ w.heap.size ≤ k) →
        w5.cell? ⟨UP, i, none⟩ = some (.slice ao (u i).length cap) ∧ w5.frozen? ⟨UP, i, none⟩ = false ∧ (∀ q x, w.cell? q = some x → tag q.block = 0 → w5.cell? q = some x) ∧
          ∃ tag', GM (w5.setCell ⟨UP, i, none⟩ v') N G n DN UP ST RE GP gv tag' d (fun j => if j = i then ys else u j) s r gi ∧ Ext (fun k => N ≤ k) w (w5.setCell ⟨UP, i, none⟩ v') ∧
            (∀ q x, w.cell? q = some x → tag q.block = 0 → (w5.setCell ⟨UP, i, none⟩ v').cell? q = some x) ∧ ∀ k, k < w.heap.size → tag' k = tag k := by
  obtain ⟨v, cv, _, ov, tv⟩ := h.U.at_ hi
  obtain ⟨ao, cap, rfl⟩ := ownsRow_slice ov
  refine ⟨ao, cap, cv, ov, fun w5 v' ys hx hnew hat => ?_⟩
  obtain ⟨p1, p2, p3, p4⟩ := h.putU (ys := ys) hN cv hx hnew hat
  have key : ∀ q x, w.cell? q = some x → tag q.block = 0 → w5.cell? q = some x := fun q x hq ht =>
    (hx.cell (spot_of_cell hq).2 (fun e => by have e2 : tag q.block = 2 := (tv _ e).1; omega)).trans hq
  refine ⟨p1, p2, key, _, p3, p4, fun q x hq ht => ?_, fun k hk => tagNew_old hk⟩
  have hxs : Ext (· = UP) w5 (w5.setCell ⟨UP, i, none⟩ v') := Ext.set1 _ _ _ _
  refine (hxs.cell (spot_of_cell (key q x hq ht)).2 (fun e => ?_)).trans (key q x hq ht)
  have e2 : tag UP = 2 := h.U.own
  have e3 : q.block = UP := e
  rw [e3] at ht
  omega

theorem GM.storeS (h : GM w N G n DN UP ST RE GP gv tag d u s r gi) (hN : N ≤ w.heap.size) {i : Nat} (hi : i < n) :
    ∃ ao cap, w.cell? ⟨ST, i, none⟩ = some (.slice ao (s i).length cap) ∧ w.ownsRow 0 117 2 (.slice ao (s i).length cap) (s i).length ((s i).flatMap encP) ∧
      ∀ (w5 : World) (v' : Value) (ys : List (Nat × Nat)), Ext (fun k => (Value.slice ao (s i).length cap).ownBlock = some k) w w5 → w5.ownsRow 0 117 2 v' ys.length (ys.flatMap encP) →
        (∀ k, v'.ownBlock = some k → (Value.slice ao (s i).length cap).ownBlock = some k ∨ w.heap.size ≤ k) →
        w5.cell? ⟨ST, i, none⟩ = some (.slice ao (s i).length cap) ∧ w5.frozen? ⟨ST, i, none⟩ = false ∧ (∀ q x, w.cell? q = some x → tag q.block = 0 → w5.cell? q = some x) ∧
          ∃ tag', GM (w5.setCell ⟨ST, i, none⟩ v') N G n DN UP ST RE GP gv tag' d u (fun j => if j = i then ys else s j) r gi ∧ Ext (fun k => N ≤ k) w (w5.setCell ⟨ST, i, none⟩ v') ∧
            (∀ q x, w.cell? q = some x → tag q.block = 0 → (w5.setCell ⟨ST, i, none⟩ v').cell? q = some x) ∧ ∀ k, k < w.heap.size → tag' k = tag k := by
  obtain ⟨v, cv, _, ov, tv⟩ := h.S.at_ hi
  obtain ⟨ao, cap, rfl⟩ := ownsRow_slice ov
  refine ⟨ao, cap, cv, ov, fun w5 v' ys hx hnew hat => ?_⟩
  obtain ⟨p1, p2, p3, p4⟩ := h.putS (ys := ys) hN cv hx hnew hat
  have key : ∀ q x, w.cell? q = some x → tag q.block = 0 → w5.cell? q = some x := fun q x hq ht =>
    (hx.cell (spot_of_cell hq).2 (fun e => by have e2 : tag q.block = 3 := (tv _ e).1; omega)).trans hq
  refine ⟨p1, p2, key, _, p3, p4, fun q x hq ht => ?_, fun k hk => tagNew_old hk⟩
  have hxs : Ext (· = ST) w5 (w5.setCell ⟨ST, i, none⟩ v') := Ext.set1 _ _ _ _
  refine (hxs.cell (spot_of_cell (key q x hq ht)).2 (fun e => ?_)).trans (key q x hq ht)
  have e2 : tag ST = 3 := h.S.own
  have e3 : q.block = ST := e
  rw [e3] at ht
  omega

theorem GM.storeR (h : GM w N G n DN UP ST RE GP gv tag d u s r gi) (hN : N ≤ w.heap.size) {i : Nat} (hi : i < n) :
    ∃ ao cap, w.cell? ⟨RE, i, none⟩ = some (.slice ao (r i).length cap) ∧ w.ownsRow 0 4 1 (.slice ao (r i).length cap) (r i).length ((r i).flatMap encB) ∧
      ∀ (w5 : World) (v' : Value) (ys : List (Bool)), Ext (fun k => (Value.slice ao (r i).length cap).ownBlock = some k) w w5 → w5.ownsRow 0 4 1 v' ys.length (ys.flatMap encB) →
        (∀ k, v'.ownBlock = some k → (Value.slice ao (r i).length cap).ownBlock = some k ∨ w.heap.size ≤ k) →
        w5.cell? ⟨RE, i, none⟩ = some (.slice ao (r i).length cap) ∧ w5.frozen? ⟨RE, i, none⟩ = false ∧ (∀ q x, w.cell? q = some x → tag q.block = 0 → w5.cell? q = some x) ∧
          ∃ tag', GM (w5.setCell ⟨RE, i, none⟩ v') N G n DN UP ST RE GP gv tag' d u s (fun j => if j = i then ys else r j) gi ∧ Ext (fun k => N ≤ k) w (w5.setCell ⟨RE, i, none⟩ v') ∧
            (∀ q x, w.cell? q = some x → tag q.block = 0 → (w5.setCell ⟨RE, i, none⟩ v').cell? q = some x) ∧ ∀ k, k < w.heap.size → tag' k = tag k := by
  obtain ⟨v, cv, _, ov, tv⟩ := h.R.at_ hi
  obtain ⟨ao, cap, rfl⟩ := ownsRow_slice ov
  refine ⟨ao, cap, cv, ov, fun w5 v' ys hx hnew hat => ?_⟩
  obtain ⟨p1, p2, p3, p4⟩ := h.putR (ys := ys) hN cv hx hnew hat
  have key : ∀ q x, w.cell? q = some x → tag q.block = 0 → w5.cell? q = some x := fun q x hq ht =>
    (hx.cell (spot_of_cell hq).2 (fun e => by have e2 : tag q.block = 4 := (tv _ e).1; omega)).trans hq
  refine ⟨p1, p2, key, _, p3, p4, fun q x hq ht => ?_, fun k hk => tagNew_old hk⟩
  have hxs : Ext (· = RE) w5 (w5.setCell ⟨RE, i, none⟩ v') := Ext.set1 _ _ _ _
  refine (hxs.cell (spot_of_cell (key q x hq ht)).2 (fun e => ?_)).trans (key q x hq ht)
  have e2 : tag RE = 4 := h.R.own
  have e3 : q.block = RE := e
  rw [e3] at ht
  omega
end
end Go.Proofs.Ytbbogkcfngpbbaa
