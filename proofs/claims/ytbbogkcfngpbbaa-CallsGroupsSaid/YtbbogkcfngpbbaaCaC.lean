/- slices.Clone of a row of one's own: the same row, new. -/
import Derived.Test.YtbbogkcfngpbbaaAppR
import Derived.Test.YtbbogkcfngpbbaaCaM
namespace Go.Proofs.Ytbbogkcfngpbbaa
open Go.RowKit

theorem info_pair : (Try.prog.info? 117).map (fun i => (i.zero, i.size, i.bytes)) = some (some (.agg #[.int .i64 0, .int .i64 0]), 2, 16) := by kernel_rfl

set_option maxRecDepth 100000 in
set_option maxHeartbeats 2000000 in
theorem cloneN_calls (w : World) (v : Value) (n : Nat) (xs : List Value) (base : Nat) (hown : w.ownsRow base 3 1 v n xs) (hone : ∀ u ∈ xs, u.oneCell' = true) (hn : n ≤ 90000) :
    Calls Try.prog 79 #[v] w fun e w' => ∃ v', e = .returned v' ∧ w'.ownsRow w.heap.size 3 1 v' n xs ∧ Below w.heap.size w w' := by
  have q22 : ∀ (w : World) (a : Option Addr) (n c n' c' : Nat), (binOp .eql 22 (.slice a n c) (.slice none n' c')).run Try.prog w = .ok (.bool a.isNone) w := fun w a n c n' c' => Lib.run_eql_slice_nil w _ _ a n c n' c' Try.underlying22
  rcases hown.2 with ⟨rfl, h0⟩ | ⟨g, cap, cur, rfl, h2, h3, h4, h5, h6, h7⟩
  · subst h0
    have hx : xs = [] := List.eq_nil_of_length_eq_zero (by have := hown.1; omega)
    subst hx
    clear hown
    go_enter Try.func79, Try.ntmps79
    go_wp2
    go_ret
    exact ⟨_, rfl, World.ownsRow_nil _ _ _ _, Below.refl _ _⟩
  · have HO := Lib.hid hown
    have HN : Hid (xs.length = n * 1) := hown.1
    have HONE := Lib.hid hone
    have HG : Hid (g < w.heap.size) := (Array.getElem?_eq_some_iff.1 h3).1
    clear h2 h3 h4 h5 h6 h7 hone
    have HC : Hid (∀ ad, some (⟨g, 0, none⟩ : Addr) = some ad → ∀ j u, xs[j]? = some u → (w.alloc (.cells #[] 3)).cell? (ad.add j) = some u) := by
      intro ad e j u hu
      obtain rfl := Option.some.inj e
      have := HO.out.cells (g := g) rfl j u hu
      rw [Addr.add_lit, World.cell?_alloc_lt _ _ _ (by show g < _; exact HG.out)]
      rw [Addr.add_lit] at this; exact this
    have HE : Hid ((w.alloc (.cells #[] 3)).ownsRow w.heap.size 3 1 (.slice (some ⟨w.heap.size, 0, none⟩) 0 0) 0 []) := ownsRow_empty _ _ _ _ (Nat.le_refl _)
    obtain ⟨i0, hi0, hi1, hi2, hi3⟩ := info_parts info_int
    clear hown
    go_enter Try.func79, Try.ntmps79
    go_wp2_with (at_builtin; refine wpList_append_row rfl _ _ 22 rfl w.heap.size 3 i0 _ 1 8 Try.underlying22 hi0 hi1 hi2 hi3 rfl (by decide) _ 0 [] rfl HE.out (some ⟨g, 0, none⟩) n cap xs rfl HN.out (fun h => by cases h) HC.out HONE.out (by unfold maxLen; omega) (by omega) (by rw [World.size_alloc]; omega) ?_; intro v7 w7 hown7 hgrow7 hat7; have HQ7 := Lib.hid hown7; have HG7 := Lib.hid hgrow7; clear hown7 hgrow7 hat7)
    go_ret
    refine ⟨_, rfl, ?_, ?_⟩
    · have := HQ7.out
      simpa using this
    · exact ((Below.refl _ _).alloc (Nat.le_refl _) _).grown HG7.out (by rw [World.size_alloc]; omega) (fun k hk => by have h9 : some w.heap.size = some k := hk; have := Option.some.inj h9; omega)

set_option maxRecDepth 100000 in
set_option maxHeartbeats 2000000 in
theorem cloneP_calls (w : World) (v : Value) (n : Nat) (xs : List Value) (base : Nat) (hown : w.ownsRow base 117 2 v n xs) (hone : ∀ u ∈ xs, u.oneCell' = true) (hn : n ≤ 90000) :
    Calls Try.prog 84 #[v] w fun e w' => ∃ v', e = .returned v' ∧ w'.ownsRow w.heap.size 117 2 v' n xs ∧ Below w.heap.size w w' := by
  have q22 : ∀ (w : World) (a : Option Addr) (n c n' c' : Nat), (binOp .eql 76 (.slice a n c) (.slice none n' c')).run Try.prog w = .ok (.bool a.isNone) w := fun w a n c n' c' => Lib.run_eql_slice_nil w _ _ a n c n' c' Try.underlying76
  rcases hown.2 with ⟨rfl, h0⟩ | ⟨g, cap, cur, rfl, h2, h3, h4, h5, h6, h7⟩
  · subst h0
    have hx : xs = [] := List.eq_nil_of_length_eq_zero (by have := hown.1; omega)
    subst hx
    clear hown
    go_enter Try.func84, Try.ntmps84
    go_wp2
    go_ret
    exact ⟨_, rfl, World.ownsRow_nil _ _ _ _, Below.refl _ _⟩
  · have HO := Lib.hid hown
    have HN : Hid (xs.length = n * 2) := hown.1
    have HONE := Lib.hid hone
    have HG : Hid (g < w.heap.size) := (Array.getElem?_eq_some_iff.1 h3).1
    clear h2 h3 h4 h5 h6 h7 hone
    have HC : Hid (∀ ad, some (⟨g, 0, none⟩ : Addr) = some ad → ∀ j u, xs[j]? = some u → (w.alloc (.cells #[] 117)).cell? (ad.add j) = some u) := by
      intro ad e j u hu
      obtain rfl := Option.some.inj e
      have := HO.out.cells (g := g) rfl j u hu
      rw [Addr.add_lit, World.cell?_alloc_lt _ _ _ (by show g < _; exact HG.out)]
      rw [Addr.add_lit] at this; exact this
    have HE : Hid ((w.alloc (.cells #[] 117)).ownsRow w.heap.size 117 2 (.slice (some ⟨w.heap.size, 0, none⟩) 0 0) 0 []) := ownsRow_empty _ _ _ _ (Nat.le_refl _)
    obtain ⟨i0, hi0, hi1, hi2, hi3⟩ := info_parts info_pair
    clear hown
    go_enter Try.func84, Try.ntmps84
    go_wp2_with (at_builtin; refine wpList_append_row rfl _ _ 76 rfl w.heap.size 117 i0 _ 2 16 Try.underlying76 hi0 hi1 hi2 hi3 rfl (by decide) _ 0 [] rfl HE.out (some ⟨g, 0, none⟩) n cap xs rfl HN.out (fun h => by cases h) HC.out HONE.out (by unfold maxLen; omega) (by omega) (by rw [World.size_alloc]; omega) ?_; intro v7 w7 hown7 hgrow7 hat7; have HQ7 := Lib.hid hown7; have HG7 := Lib.hid hgrow7; clear hown7 hgrow7 hat7)
    go_ret
    refine ⟨_, rfl, ?_, ?_⟩
    · have := HQ7.out
      simpa using this
    · exact ((Below.refl _ _).alloc (Nat.le_refl _) _).grown HG7.out (by rw [World.size_alloc]; omega) (fun k hk => by have h9 : some w.heap.size = some k := hk; have := Option.some.inj h9; omega)

theorem oneN (l : List Nat) : ∀ u ∈ l.flatMap encN, u.oneCell' = true := by
  intro u hu
  rw [encN_flat] at hu
  obtain ⟨z, _, rfl⟩ := List.mem_map.1 hu
  rfl
theorem oneP (l : List (Nat × Nat)) : ∀ u ∈ l.flatMap encP, u.oneCell' = true := by
  intro u hu
  obtain ⟨p, _, hp⟩ := List.mem_flatMap.1 hu
  simp only [encP, List.mem_cons, List.not_mem_nil, or_false] at hp
  rcases hp with rfl | rfl <;> rfl
end Go.Proofs.Ytbbogkcfngpbbaa
