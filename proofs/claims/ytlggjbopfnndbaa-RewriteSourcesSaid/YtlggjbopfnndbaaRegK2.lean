import Derived.Test.YtlggjbopfnndbaaQ08
import Derived.Test.YtlggjbopfnndbaaQ09

namespace Go.Proofs.Ytlggjbopfnndbaa
open Go.RowKit

theorem info_st : (Try.prog.info? 84).map (fun i => (i.zero, i.size, i.bytes)) = some (some (.agg #[.string ⟨#[]⟩, .slice none 0 0, .int .i64 0, .int .i64 0]), 4, 56) := by kernel_rfl
theorem info_vr : (Try.prog.info? 47).map (fun i => (i.zero, i.size, i.bytes)) = some (some (.agg #[.bool false, .string ⟨#[]⟩, .int .i64 0]), 3, 32) := by kernel_rfl
theorem info_ins : (Try.prog.info? 62).map (fun i => (i.zero, i.size, i.bytes)) = some (some (.agg #[.int .i64 0, .int .i64 0, .int .i64 0, .int .i64 0, .int .i64 0, .int .i64 0, .string ⟨#[]⟩, .slice none 0 0, .slice none 0 0, .int .i64 0, .int .i64 0, .int .i64 0, .int .i64 0]), 13, 144) := by kernel_rfl
theorem info_cod : (Try.prog.info? 50).map (fun i => (i.zero, i.size, i.bytes)) = some (some (.agg #[.string ⟨#[]⟩, .int .i64 0, .slice none 0 0, .bool false, .string ⟨#[]⟩, .int .i64 0, .slice none 0 0, .slice none 0 0]), 8, 128) := by kernel_rfl

set_option maxRecDepth 100000 in
set_option maxHeartbeats 2000000 in
theorem cloneSt_calls (w : World) (ao : Option Addr) (n cap : Nat) (xs : List Value) (hl : xs.length = n * 4) (hnone : ao = none → n = 0) (hc : ∀ ad, ao = some ad → ∀ j u, xs[j]? = some u → w.cell? (ad.add j) = some u) (hone : ∀ u ∈ xs, u.oneCell' = true) (hn : n ≤ 90000) :
    Calls Try.prog 67 #[.slice ao n cap] w fun e w' => ∃ v', e = .returned v' ∧ w'.ownsRow w.heap.size 84 4 v' n xs ∧ Below w.heap.size w w' := by
  have q22 : ∀ (w : World) (a : Option Addr) (n c n' c' : Nat), (binOp .eql 22 (.slice a n c) (.slice none n' c')).run Try.prog w = .ok (.bool a.isNone) w := fun w a n c n' c' => Lib.run_eql_slice_nil w _ _ a n c n' c' Try.underlying22
  cases ao with
  | none =>
    obtain rfl := hnone rfl
    have hx : xs = [] := List.eq_nil_of_length_eq_zero (by omega)
    subst hx
    clear hl hnone hc hone
    go_enter Try.func67, Try.ntmps67
    go_wp2
    go_ret
    exact ⟨_, rfl, World.ownsRow_nil _ _ _ _, Below.refl _ _⟩
  | some ad =>
    have HN : Hid (xs.length = n * 4) := hl
    have HONE := Lib.hid hone
    have HC : Hid (∀ ad', some ad = some ad' → ∀ j u, xs[j]? = some u → (w.alloc (.cells #[] 84)).cell? (ad'.add j) = some u) := by
      intro ad' e j u hu
      obtain rfl := Option.some.inj e
      have h1 := hc ad rfl j u hu
      rw [World.cell?_alloc_lt _ _ _ (spot_of_cell h1).2]
      exact h1
    have HE : Hid ((w.alloc (.cells #[] 84)).ownsRow w.heap.size 84 4 (.slice (some ⟨w.heap.size, 0, none⟩) 0 0) 0 []) := ownsRow_empty _ _ _ _ (Nat.le_refl _)
    obtain ⟨i0, hi0, hi1, hi2, hi3⟩ := info_parts info_st
    clear hl hnone hc hone
    go_enter Try.func67, Try.ntmps67
    go_wp2_with (at_builtin; refine wpList_append_row rfl _ _ 22 rfl w.heap.size 84 i0 _ 4 56 Try.underlying22 hi0 hi1 hi2 hi3 rfl (by decide) _ 0 [] rfl HE.out (some ad) n cap xs rfl HN.out (fun h => by cases h) HC.out HONE.out (by unfold maxLen; omega) (by omega) (by rw [World.size_alloc]; omega) ?_; intro v7 w7 hown7 hgrow7 hat7; have HQ7 := Lib.hid hown7; have HG7 := Lib.hid hgrow7; clear hown7 hgrow7 hat7)
    go_ret
    refine ⟨_, rfl, ?_, ?_⟩
    · have := HQ7.out
      simpa using this
    · exact ((Below.refl _ _).alloc (Nat.le_refl _) _).grown HG7.out (by rw [World.size_alloc]; omega) (fun k hk => by have h9 : some w.heap.size = some k := hk; have := Option.some.inj h9; omega)

set_option maxRecDepth 100000 in
set_option maxHeartbeats 2000000 in
theorem cloneVr_calls (w : World) (ao : Option Addr) (n cap : Nat) (xs : List Value) (hl : xs.length = n * 3) (hnone : ao = none → n = 0) (hc : ∀ ad, ao = some ad → ∀ j u, xs[j]? = some u → w.cell? (ad.add j) = some u) (hone : ∀ u ∈ xs, u.oneCell' = true) (hn : n ≤ 90000) :
    Calls Try.prog 45 #[.slice ao n cap] w fun e w' => ∃ v', e = .returned v' ∧ w'.ownsRow w.heap.size 47 3 v' n xs ∧ Below w.heap.size w w' := by
  have q22 : ∀ (w : World) (a : Option Addr) (n c n' c' : Nat), (binOp .eql 43 (.slice a n c) (.slice none n' c')).run Try.prog w = .ok (.bool a.isNone) w := fun w a n c n' c' => Lib.run_eql_slice_nil w _ _ a n c n' c' Try.underlying43
  cases ao with
  | none =>
    obtain rfl := hnone rfl
    have hx : xs = [] := List.eq_nil_of_length_eq_zero (by omega)
    subst hx
    clear hl hnone hc hone
    go_enter Try.func45, Try.ntmps45
    go_wp2
    go_ret
    exact ⟨_, rfl, World.ownsRow_nil _ _ _ _, Below.refl _ _⟩
  | some ad =>
    have HN : Hid (xs.length = n * 3) := hl
    have HONE := Lib.hid hone
    have HC : Hid (∀ ad', some ad = some ad' → ∀ j u, xs[j]? = some u → (w.alloc (.cells #[] 47)).cell? (ad'.add j) = some u) := by
      intro ad' e j u hu
      obtain rfl := Option.some.inj e
      have h1 := hc ad rfl j u hu
      rw [World.cell?_alloc_lt _ _ _ (spot_of_cell h1).2]
      exact h1
    have HE : Hid ((w.alloc (.cells #[] 47)).ownsRow w.heap.size 47 3 (.slice (some ⟨w.heap.size, 0, none⟩) 0 0) 0 []) := ownsRow_empty _ _ _ _ (Nat.le_refl _)
    obtain ⟨i0, hi0, hi1, hi2, hi3⟩ := info_parts info_vr
    clear hl hnone hc hone
    go_enter Try.func45, Try.ntmps45
    go_wp2_with (at_builtin; refine wpList_append_row rfl _ _ 43 rfl w.heap.size 47 i0 _ 3 32 Try.underlying43 hi0 hi1 hi2 hi3 rfl (by decide) _ 0 [] rfl HE.out (some ad) n cap xs rfl HN.out (fun h => by cases h) HC.out HONE.out (by unfold maxLen; omega) (by omega) (by rw [World.size_alloc]; omega) ?_; intro v7 w7 hown7 hgrow7 hat7; have HQ7 := Lib.hid hown7; have HG7 := Lib.hid hgrow7; clear hown7 hgrow7 hat7)
    go_ret
    refine ⟨_, rfl, ?_, ?_⟩
    · have := HQ7.out
      simpa using this
    · exact ((Below.refl _ _).alloc (Nat.le_refl _) _).grown HG7.out (by rw [World.size_alloc]; omega) (fun k hk => by have h9 : some w.heap.size = some k := hk; have := Option.some.inj h9; omega)

set_option maxRecDepth 100000 in
set_option maxHeartbeats 2000000 in
theorem cloneIn_calls (w : World) (ao : Option Addr) (n cap : Nat) (xs : List Value) (hl : xs.length = n * 13) (hnone : ao = none → n = 0) (hc : ∀ ad, ao = some ad → ∀ j u, xs[j]? = some u → w.cell? (ad.add j) = some u) (hone : ∀ u ∈ xs, u.oneCell' = true) (hn : n ≤ 90000) :
    Calls Try.prog 46 #[.slice ao n cap] w fun e w' => ∃ v', e = .returned v' ∧ w'.ownsRow w.heap.size 62 13 v' n xs ∧ Below w.heap.size w w' := by
  have q22 : ∀ (w : World) (a : Option Addr) (n c n' c' : Nat), (binOp .eql 48 (.slice a n c) (.slice none n' c')).run Try.prog w = .ok (.bool a.isNone) w := fun w a n c n' c' => Lib.run_eql_slice_nil w _ _ a n c n' c' Try.underlying48
  cases ao with
  | none =>
    obtain rfl := hnone rfl
    have hx : xs = [] := List.eq_nil_of_length_eq_zero (by omega)
    subst hx
    clear hl hnone hc hone
    go_enter Try.func46, Try.ntmps46
    go_wp2
    go_ret
    exact ⟨_, rfl, World.ownsRow_nil _ _ _ _, Below.refl _ _⟩
  | some ad =>
    have HN : Hid (xs.length = n * 13) := hl
    have HONE := Lib.hid hone
    have HC : Hid (∀ ad', some ad = some ad' → ∀ j u, xs[j]? = some u → (w.alloc (.cells #[] 62)).cell? (ad'.add j) = some u) := by
      intro ad' e j u hu
      obtain rfl := Option.some.inj e
      have h1 := hc ad rfl j u hu
      rw [World.cell?_alloc_lt _ _ _ (spot_of_cell h1).2]
      exact h1
    have HE : Hid ((w.alloc (.cells #[] 62)).ownsRow w.heap.size 62 13 (.slice (some ⟨w.heap.size, 0, none⟩) 0 0) 0 []) := ownsRow_empty _ _ _ _ (Nat.le_refl _)
    obtain ⟨i0, hi0, hi1, hi2, hi3⟩ := info_parts info_ins
    clear hl hnone hc hone
    go_enter Try.func46, Try.ntmps46
    go_wp2_with (at_builtin; refine wpList_append_row rfl _ _ 48 rfl w.heap.size 62 i0 _ 13 144 Try.underlying48 hi0 hi1 hi2 hi3 rfl (by decide) _ 0 [] rfl HE.out (some ad) n cap xs rfl HN.out (fun h => by cases h) HC.out HONE.out (by unfold maxLen; omega) (by omega) (by rw [World.size_alloc]; omega) ?_; intro v7 w7 hown7 hgrow7 hat7; have HQ7 := Lib.hid hown7; have HG7 := Lib.hid hgrow7; clear hown7 hgrow7 hat7)
    go_ret
    refine ⟨_, rfl, ?_, ?_⟩
    · have := HQ7.out
      simpa using this
    · exact ((Below.refl _ _).alloc (Nat.le_refl _) _).grown HG7.out (by rw [World.size_alloc]; omega) (fun k hk => by have h9 : some w.heap.size = some k := hk; have := Option.some.inj h9; omega)

theorem flat_get {α : Type} {f : α → List Value} {k : Nat} (hk : ∀ a, (f a).length = k) : ∀ {xs : List α} {i : Nat} {x : α}, xs[i]? = some x → ∀ q, q < k → (xs.flatMap f)[i * k + q]? = (f x)[q]?
  | [], _, _, h, _, _ => by simp at h
  | a :: r, 0, x, h, q, hq => by
    have e : a = x := by simpa using h
    subst e
    rw [List.flatMap_cons, Nat.zero_mul, Nat.zero_add, List.getElem?_append_left (by rw [hk]; exact hq)]
  | a :: r, i + 1, x, h, q, hq => by
    rw [List.flatMap_cons, List.getElem?_append_right (by rw [hk, Nat.add_mul]; omega), hk, show (i + 1) * k + q - k = i * k + q from by rw [Nat.add_mul]; omega]
    exact flat_get hk (by simpa using h) q hq

theorem flat_len {α : Type} {f : α → List Value} {k : Nat} (hk : ∀ a, (f a).length = k) : ∀ xs : List α, (xs.flatMap f).length = xs.length * k
  | [] => by simp
  | a :: r => by rw [List.flatMap_cons, List.length_append, hk, flat_len hk r, List.length_cons, Nat.add_mul]; omega

theorem flat_at {α : Type} {f : α → List Value} {k : Nat} (hk : ∀ a, (f a).length = k) {xs : List α} {j : Nat} {u : Value} (h : (xs.flatMap f)[j]? = some u) (hk0 : 0 < k) : ∃ x, xs[j / k]? = some x ∧ (f x)[j % k]? = some u := by
  have hj := (List.getElem?_eq_some_iff.1 h).1
  rw [flat_len hk] at hj
  have hi : j / k < xs.length := (Nat.div_lt_iff_lt_mul hk0).2 hj
  obtain ⟨x, hx⟩ : ∃ x, xs[j / k]? = some x := ⟨_, List.getElem?_eq_getElem hi⟩
  refine ⟨x, hx, ?_⟩
  rw [← flat_get hk hx (j % k) (Nat.mod_lt _ hk0), show j / k * k + j % k = j from by rw [Nat.mul_comm]; exact Nat.div_add_mod j k]
  exact h

/-- A row of one's own is a row. -/
theorem rowOf_owns {α : Type} {cells : α → Array Value} {k : Nat} (hk : ∀ a, (cells a).toList.length = k) {w : World} {base cap : Nat} {e : TypeId} {ao : Option Addr} {xs : List α} (h : w.ownsRow base e k (.slice ao xs.length cap) xs.length (xs.flatMap fun a => (cells a).toList)) :
    RowOf cells k w w.heap.size ao xs := by
  intro hne
  have hl : 0 < xs.length := List.length_pos_iff.2 hne
  rcases h.2 with ⟨_, h2⟩ | ⟨g, cap', cur, h1, h2, h3, _⟩
  · omega
  · simp only [Value.slice.injEq] at h1
    obtain ⟨rfl, _, rfl⟩ := h1
    refine ⟨g, 0, rfl, (Array.getElem?_eq_some_iff.1 h3).1, fun i x hx q u hu => ?_⟩
    have hq : q < k := by rw [← hk x]; exact (List.getElem?_eq_some_iff.1 hu).1
    have h4 := h.cells (g := g) rfl (i * k + q) u (by rw [flat_get (f := fun a => (cells a).toList) hk hx q hq]; exact hu)
    rw [Addr.add_lit] at h4
    rw [Nat.zero_add] at h4 ⊢
    exact h4

/-- A row's cells, as what a clone reads. -/
theorem rowOf_flat {α : Type} {cells : α → Array Value} {k : Nat} (hk : ∀ a, (cells a).toList.length = k) (hk0 : 0 < k) {w : World} {B : Nat} {ao : Option Addr} {xs : List α} (h : RowOf cells k w B ao xs) :
    (ao = none → xs.length = 0) ∧ ∀ ad, ao = some ad → ∀ j u, (xs.flatMap fun a => (cells a).toList)[j]? = some u → w.cell? (ad.add j) = some u := by
  refine ⟨fun e => Classical.byContradiction fun hne => ?_, fun ad e j u hu => ?_⟩
  · obtain ⟨b, off, h1, _⟩ := h (fun e2 => hne (by rw [e2]; rfl))
    rw [e] at h1; cases h1
  · obtain ⟨x, hx, hq⟩ := flat_at (f := fun a => (cells a).toList) hk hu hk0
    obtain ⟨b, off, h1, _, h3⟩ := h (fun e2 => by rw [e2] at hx; simp at hx)
    rw [e] at h1
    obtain rfl := Option.some.inj h1
    rw [Addr.add_lit]
    have := h3 _ x hx _ u hq
    rw [show off + j / k * k + j % k = off + j from by have := Nat.div_add_mod j k; rw [Nat.mul_comm] at this; omega] at this
    exact this

theorem cells_one {α : Type} {cells : α → Array Value} {xs : List α} (h : ∀ a ∈ xs, (cells a).all (·.oneCell') = true) : ∀ u ∈ xs.flatMap fun a => (cells a).toList, u.oneCell' = true := by
  intro u hu
  obtain ⟨a, ha, hm⟩ := List.mem_flatMap.1 hu
  have := h a ha
  rw [← Array.all_toList, List.all_eq_true] at this
  exact this u hm

theorem stOne (s : St) : s.cells.all (·.oneCell') = true := by rw [← Array.all_toList]; simp only [St.cells, Stc.cells, List.all_cons, List.all_nil]; rfl
theorem vrOne (x : Vr) : x.cells.all (·.oneCell') = true := by rw [← Array.all_toList]; simp only [Vr.cells, List.all_cons, List.all_nil]; rfl
end Go.Proofs.Ytlggjbopfnndbaa
