/- Layer 9: light, and the chapter's example. -/
import Derived.Test.YtpbkkajgcdahcaaDomOf
import Derived.Test.YtpbkkajgcdahcaaLight8
namespace Go.Proofs.Ytpbkkajgcdahcaa
open Go.RowKit

def Cod.fit9 (c : Cod) : Prop := c.ins.length ≤ 60 ∧ c.short

set_option maxRecDepth 100000 in
set_option maxHeartbeats 2000000 in
theorem light9_calls (c : Cod) (w : World) (hin : c.inn w) : Calls Try.prog 28 #[.agg c.cells] w (SaysIf w w.heap.size c.fit9) := by
  obtain ⟨C, hC⟩ : ∃ C, c = C := ⟨_, rfl⟩
  have HC := Lib.hid hC
  have HIN := Lib.hid hin
  clear hin
  obtain ⟨nm, par, varsA, nvars, varsC, rp, rto, rcl, fromA, nfrom, fromC, insA, insC, ins⟩ := c
  simp only [Cod.cells]
  obtain ⟨n, hn⟩ : ∃ n, ins.length = n := ⟨_, rfl⟩
  have HN' := Lib.hid hn
  obtain ⟨N, hN⟩ : ∃ N, w.heap.size = N := ⟨_, rfl⟩
  obtain ⟨W1, hW1⟩ : ∃ W1, w.alloc (.cells #[.string nm, .int .i64 par, .slice varsA nvars varsC, .bool rp, .string rto, .int .i64 rcl, .slice fromA nfrom fromC, .slice insA n insC] 30) = W1 := ⟨_, rfl⟩
  have hb1 : Below N w W1 := by rw [← hW1, ← hN]; exact (Below.refl _ _).alloc (Nat.le_refl _) _
  have hs1 : W1.heap.size = N + 1 := by rw [← hW1]; simp [hN]
  have hrow : W1.heap[N]? = some (.cells #[.string nm, .int .i64 par, .slice varsA nvars varsC, .bool rp, .string rto, .int .i64 rcl, .slice fromA nfrom fromC, .slice insA n insC] 30 (0, 0)) := by
    rw [← hW1, ← hN]; exact alloc_at _ _
  have hin1 := HIN.out.below (by rw [hN]; exact hb1)
  have hcc : C.cells = #[.string nm, .int .i64 par, .slice varsA nvars varsC, .bool rp, .string rto, .int .i64 rcl, .slice fromA nfrom fromC, .slice insA n insC] := by rw [← hC, ← hn]; rfl
  have HL : Hid (Calls Try.prog 14 #[.agg #[.string nm, .int .i64 par, .slice varsA nvars varsC, .bool rp, .string rto, .int .i64 rcl, .slice fromA nfrom fromC, .slice insA n insC]] W1 (SaysIf W1 W1.heap.size C.short)) := by
    rw [← hcc]; exact light8_calls C W1 (by rw [← hC]; exact hin1)
  have k0 : W1.cell? ⟨N, 0, none⟩ = some (.string nm) := by rw [cell_of_row _ _ _ _ _ _ hrow]; rfl
  have k1 : W1.cell? ⟨N, 1, none⟩ = some (.int .i64 par) := by rw [cell_of_row _ _ _ _ _ _ hrow]; rfl
  have k2 : W1.cell? ⟨N, 2, none⟩ = some (.slice varsA nvars varsC) := by rw [cell_of_row _ _ _ _ _ _ hrow]; rfl
  have k3 : W1.cell? ⟨N, 3, none⟩ = some (.bool rp) := by rw [cell_of_row _ _ _ _ _ _ hrow]; rfl
  have k4 : W1.cell? ⟨N, 4, none⟩ = some (.string rto) := by rw [cell_of_row _ _ _ _ _ _ hrow]; rfl
  have k5 : W1.cell? ⟨N, 5, none⟩ = some (.int .i64 rcl) := by rw [cell_of_row _ _ _ _ _ _ hrow]; rfl
  have k6 : W1.cell? ⟨N, 6, none⟩ = some (.slice fromA nfrom fromC) := by rw [cell_of_row _ _ _ _ _ _ hrow]; rfl
  have k7 : W1.cell? ⟨N, 7, none⟩ = some (.slice insA n insC) := by rw [cell_of_row _ _ _ _ _ _ hrow]; rfl
  have HB1 := Lib.hid hb1
  have HS1 := Lib.hid hs1
  have HW1 := Lib.hid hW1
  have HCI : Hid (C.ins.length = n) := by rw [← hC]; exact hn
  clear hb1 hs1 hrow hin1 hcc hW1 hC
  rw [hn, HC.out]
  go_enter Try.func28, Try.ntmps28
  go_upto_region 1 with (fail)
  rw [HW1.out]
  by_cases h60 : n ≤ 60
  · have hI : decide ((n : Int) ≤ 60) = true := decide_eq_true (by omega)
    go_wp2_with fail
    go_at_call 14
    refine HL.out.mono ?_
    rintro e w2 ⟨b, rfl, hb, hb2⟩
    have HG : Hid (SaysIf w N C.fit9 (.returned (.bool b)) w2) := ⟨b, rfl, fun h => ⟨by rw [HCI.out]; exact h60, hb h⟩, HB1.out.trans (hb2.mono (by rw [HS1.out]; omega))⟩
    clear hb hb2
    go_wp2
    go_ret
    rw [hN]; exact HG.out
  · have hI : decide ((n : Int) ≤ 60) = false := decide_eq_false (by omega)
    have HG : Hid (SaysIf w N C.fit9 (.returned (.bool false)) W1) := ⟨false, rfl, fun h => (by cases h), HB1.out⟩
    clear h60
    go_wp2
    go_ret
    rw [hN]; exact HG.out

def insOf9 (op : Int) : Ins := ⟨op, 0, 0, 0, 0, 0, ByteArray.empty, .slice none 0 0, .slice none 0 0, 0, 0, 0, 0, []⟩
def ex9 : List Ins := [insOf9 1, insOf9 1, insOf9 18]

theorem ex9_next : nextN ex9 0 = [1] ∧ nextN ex9 1 = [2] ∧ nextN ex9 2 = [] := ⟨rfl, rfl, rfl⟩

def flat9 : List Value := ex9.flatMap fun i => i.cells.toList

theorem flat9_get (x : Ins) (k : Nat) (hk : k < 13) : ∀ (ins : List Ins) (i : Nat), ins[i]? = some x → (ins.flatMap fun i => i.cells.toList)[i * 13 + k]? = x.cells.toList[k]?
  | y :: r, 0, h => by
    simp at h; subst h
    rw [List.flatMap_cons, Nat.zero_mul, Nat.zero_add, List.getElem?_append_left (by show k < 13; exact hk)]
  | y :: r, i + 1, h => by
    simp only [List.getElem?_cons_succ] at h
    have hl : y.cells.toList.length = 13 := rfl
    rw [List.flatMap_cons, List.getElem?_append_right (by rw [hl]; omega), hl, show (i + 1) * 13 + k - 13 = i * 13 + k by omega]
    exact flat9_get x k hk r i h

def cod9 (N : Nat) : Cod := ⟨ByteArray.empty, 0, none, 0, 0, false, ByteArray.empty, 0, none, 0, 0, some ⟨N, 0, none⟩, 3, ex9⟩

theorem cod9_inn {w : World} {N : Nat} (h : w.heap[N]? = some (.cells flat9.toArray 61 (0, 0))) : (cod9 N).inn w := by
  have hlt := (Array.getElem?_eq_some_iff.1 h).1
  refine ⟨fun _ => ⟨N, 0, rfl, hlt, fun i x hx k u hu => ?_⟩, fun i hi => ?_, by unfold maxLen; show 3 ≤ _; omega, ⟨[], rfl, fun h => absurd rfl h⟩, by unfold maxLen; show 0 ≤ _; omega, by unfold maxLen; show 0 ≤ _; omega, [], rfl, fun h => absurd rfl h⟩
  · have hk : k < 13 := (List.getElem?_eq_some_iff.1 hu).1
    rw [cell_of_row _ _ _ _ _ _ h, List.getElem?_toArray, Nat.zero_add]
    unfold flat9
    rw [flat9_get x k hk ex9 i hx]
    exact hu
  · have ha : i.argsV = .slice none 0 0 ∧ i.modeV = .slice none 0 0 ∧ i.args = [] := by
      simp only [cod9, ex9, List.mem_cons, List.not_mem_nil, or_false] at hi
      rcases hi with rfl | rfl | rfl <;> exact ⟨rfl, rfl, rfl⟩
    obtain ⟨h1, h2, h3⟩ := ha
    exact ⟨⟨⟨none, 0, by rw [h1, h3]; rfl⟩, none, 0, 0, h2⟩, none, 0, by rw [h1, h3]; rfl, by rw [h3]; exact fun h => absurd rfl h⟩

theorem ex9_tree {q : List Nat} {o : Nat → Option Nat} (h : DomT ex9 q o) : 0 ∈ q ∧ 1 ∈ q ∧ 2 ∈ q ∧ o 0 = none ∧ o 1 = some 0 ∧ o 2 = some 1 := by
  obtain ⟨n0, n1, n2⟩ := ex9_next
  have hm := h.ord.mem (by simp [ex9])
  have l1 : Leads (nextN ex9) 0 1 := .step .here (by rw [n0]; simp)
  have l2 : Leads (nextN ex9) 0 2 := .step l1 (by rw [n1]; simp)
  have m0 : 0 ∈ q := (hm 0).2 .here
  have m1 : 1 ∈ q := (hm 1).2 l1
  have m2 : 2 ∈ q := (hm 2).2 l2
  have z : o 0 = none := h.tr.zero
  have r21 : RW (nextN ex9) 2 1 := .step (.here (by decide)) (by rw [n0]; simp) (by decide)
  have r12 : ¬ RW (nextN ex9) 1 2 := by
    intro hr
    cases hr with
    | @step u _ hu hv _ =>
      have h3 : u < 3 := by
        have : nextN ex9 u ≠ [] := fun e => by rw [e] at hv; simp at hv
        apply Nat.lt_of_not_le
        intro hle
        apply this
        unfold nextN
        rw [List.getElem?_eq_none (by show 3 ≤ u; exact hle)]
      obtain rfl | rfl | rfl : u = 0 ∨ u = 1 ∨ u = 2 := by omega
      · rw [n0] at hv; simp at hv
      · cases hu with
        | step _ _ hne => exact hne rfl
      · rw [n2] at hv; simp at hv
  have lt3 : ∀ x ∈ q, x < 3 := fun x hx => h.ord.ord.lt x hx
  refine ⟨m0, m1, m2, z, ?_, ?_⟩
  · cases e : o 1 with
    | none => rcases h.all 1 m1 with h' | h'; cases h'; exact absurd e h'
    | some p =>
      have hu := h.tr.up 1 p e
      have := lt3 p hu.2.2.1
      obtain rfl | rfl | rfl : p = 0 ∨ p = 1 ∨ p = 2 := by omega
      · rfl
      · have := hu.2.2.2.1; omega
      · exact absurd r21 ((h.iff 1 m1 2).1 (.step e (.refl _)))
  · cases e : o 2 with
    | none => rcases h.all 2 m2 with h' | h'; cases h'; exact absurd e h'
    | some p =>
      have hu := h.tr.up 2 p e
      have := lt3 p hu.2.2.1
      have h1 : Up o 2 1 := (h.iff 2 m2 1).2 r12
      rcases h1.cases' with h' | ⟨p', e', h'⟩
      · cases h'
      · rw [e] at e'
        obtain rfl := Option.some.inj e'
        obtain rfl | rfl | rfl : p = 0 ∨ p = 1 ∨ p = 2 := by omega
        · rcases h'.cases' with h'' | ⟨p', e', _⟩
          · cases h''
          · rw [z] at e'; cases e'
        · rfl
        · have := hu.2.2.2.1; omega

set_option maxRecDepth 100000 in
set_option maxHeartbeats 2000000 in
theorem alive9_calls (w : World) : Calls Try.prog 29 #[] w fun e w' => e = .returned (.bool true) ∧ Below w.heap.size w w' := by
  obtain ⟨N, hN⟩ : ∃ N, w.heap.size = N := ⟨_, rfl⟩
  obtain ⟨W1, hW1⟩ : ∃ W1, w.alloc (.cells flat9.toArray 61) = W1 := ⟨_, rfl⟩
  have hs1 : W1.heap.size = N + 1 := by rw [← hW1]; simp [hN]
  have hb1 : Below N w W1 := by rw [← hW1, ← hN]; exact (Below.refl _ _).alloc (Nat.le_refl _) _
  have hI : W1.heap[N]? = some (.cells flat9.toArray 61 (0, 0)) := by rw [← hW1, ← hN]; exact alloc_at _ _
  have HO := Lib.hid (domOf_calls (cod9 N) W1 (cod9_inn hI) (by show 3 ≤ 60; decide))
  have HW1 : Hid (w.alloc (.cells flat9.toArray 61) = W1) := hW1
  have HB1 : Hid (∀ w2, Below W1.heap.size W1 w2 → Below N w w2) := fun w2 h => hb1.trans (h.mono (by omega))
  clear hs1 hb1 hI hW1
  go_enter Try.func29, Try.ntmps29
  go_wp2_with fail
  go_at_call 30
  have HO1 := HO.out
  rw [← HW1.out] at HO1
  try rw [hN]
  refine HO1.mono ?_
  clear HO1
  rintro e w2 ⟨T, O, PL, R, H, o, q, rfl, hT, htree, hdt, hrows, hbel⟩
  rw [HW1.out] at hbel
  have HF := Lib.hid (HB1.out w2 hbel)
  have h3 : (cod9 N).ins.length = 3 := rfl
  rw [h3] at htree
  obtain ⟨m0, m1, m2, z0, z1, z2⟩ := ex9_tree hdt
  have hord : Ord 3 q := hdt.ord.ord
  have HOV : Hid (∀ W, TreeI W T O PL R 3 o q → ∀ a : Int, Calls Try.prog 33 #[.pointer (some ⟨T, 0, none⟩), .int .i64 a] W (OverP o q a W)) := fun W h a => over_calls W h hord (by omega) a
  have hp : PathOf o q 2 [2, 1, 0] := ⟨fun _ => .cons z2 (.cons z1 (.last z0)), fun h => by rw [show (2 : Int) = ((2 : Nat) : Int) from rfl, inQ_nat, decide_eq_true m2] at h; cases h⟩
  have HDE : Hid (∀ W, TreeI W T O PL R 3 o q → Calls Try.prog 35 #[.pointer (some ⟨T, 0, none⟩), .int .i64 2] W (DepthP W [2, 1, 0])) := fun W h => depth_calls W h hord hdt.tr (by omega) 2 [2, 1, 0] hp
  have HDO := Lib.hid (dominates_calls w2 htree hord hdt.tr hdt.all (by omega) 0 2)
  have o2 : overI o q 2 = 1 := by unfold overI; rw [show (2 : Int) = ((2 : Nat) : Int) from rfl, inQ_nat, decide_eq_true m2, if_pos rfl]; simp [z2, oI]
  have o0 : overI o q 0 = -1 := by unfold overI; rw [show (0 : Int) = ((0 : Nat) : Int) from rfl, inQ_nat, decide_eq_true m0, if_pos rfl]; simp [z0, oI]
  have HU : Hid (inQ q 0 = true ∧ inQ q 2 = true ∧ Up o (2 : Int).toNat (0 : Int).toNat) := ⟨by rw [show (0 : Int) = ((0 : Nat) : Int) from rfl, inQ_nat, decide_eq_true m0], by rw [show (2 : Int) = ((2 : Nat) : Int) from rfl, inQ_nat, decide_eq_true m2], .step z2 (.step z1 (.refl _))⟩
  have HT := Lib.hid htree
  have HO2 := Lib.hid o2
  have HO0 := Lib.hid o0
  clear hbel htree hdt hrows m0 m1 m2 z0 z1 z2 hord hp o2 o0 h3
  go_wp2_with fail
  go_at_call 33
  refine (HOV.out w2 HT.out 2).mono ?_
  rintro e w' ⟨rfl, rfl⟩
  rw [HO2.out]
  go_wp2_with fail
  go_at_call 38
  refine HDO.out.mono ?_
  rintro e w3 ⟨r, rfl, hr, k, rfl⟩
  obtain rfl : r = true := hr.2 HU.out
  clear hr
  go_wp2_with fail
  go_at_call 35
  have ht3 := HT.out.below (below_drewN (Below.refl _ _) k)
  refine (HDE.out _ ht3).mono ?_
  rintro e w4 ⟨rfl, hb4⟩
  have HT4 := Lib.hid (ht3.below hb4)
  have HF4 := Lib.hid ((below_drewN HF.out k).trans (hb4.mono (by have := (below_drewN HF.out k).size; omega)))
  clear ht3 hb4
  go_wp2_with fail
  go_at_call 33
  refine (HOV.out w4 HT4.out 0).mono ?_
  rintro e w' ⟨rfl, rfl⟩
  rw [HO0.out]
  go_wp2
  go_ret
  exact ⟨rfl, by rw [hN]; exact HF4.out⟩
end Go.Proofs.Ytpbkkajgcdahcaa
