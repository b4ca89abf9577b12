/- calls.Of: the region that makes its tables, whatever its order. -/
import Derived.Test.YtbbogkcfngpbbaaCaO
import Derived.Test.YtbbogkcfngpbbaaRegI
namespace Go.Proofs.Ytbbogkcfngpbbaa
open Go.RowKit

/-- What Of has laid ahead of its loops. -/
def OfStart (W1 : World) (n : Nat) (v : Value) (w' : World) : Prop :=
  ∃ G DN UP ST RE GP tag, v = .pointer (some ⟨G, 0, none⟩) ∧ GM w' W1.heap.size G n DN UP ST RE GP (.slice none 0 0) tag (fun _ => []) (fun _ => []) (fun _ => []) (fun _ => []) (fun _ => 0) ∧ Below W1.heap.size W1 w'

theorem wpAny_inv' {P : Program} {md : Region.Mode} {ops : Array Oper} {Q : Exit → Act → World → Prop} (I : Act → Array Bool → Act → World → Prop) {fuel : Nat} {listed : Array Bool} {a : Act} {w : World}
    (hi : I a listed a w) (hf : unN ops listed ≤ fuel)
    (hstep : ∀ listed a' w' i, I a listed a' w' → i ∈ Region.ready md ops listed → wpOp P ops Q i (fun a2 w2 => I a (listed.setIfInBounds i true) a2 w2) a' w')
    (hend : ∀ listed a' w', I a listed a' w' → Region.ready md ops listed = [] → Q .normal a' w') : wpAny P md ops Q fuel listed a w :=
  wpAny_inv (I a) hstep hend fuel listed a w hf hi

/-- Between two makes. -/
structure MkJ (W1 : World) (n : Nat) (w' : World) (l1 l3 l5 l7 l9 l10 l11 l12 : Bool) (b1 b3 b5 b7 b9 : Nat) (x15 x17 x19 x21 x23 x24 x25 x4 : Value) : Prop where
  below : Below W1.heap.size W1 w'
  c1 : l1 = true → x15 = .slice (some ⟨b1, 0, none⟩) n n ∧ w'.heap[b1]? = some (.cells (Array.replicate n (.slice none 0 0)) 22 (0, 0)) ∧ W1.heap.size ≤ b1
  c3 : l3 = true → x17 = .slice (some ⟨b3, 0, none⟩) n n ∧ w'.heap[b3]? = some (.cells (Array.replicate n (.slice none 0 0)) 22 (0, 0)) ∧ W1.heap.size ≤ b3
  c5 : l5 = true → x19 = .slice (some ⟨b5, 0, none⟩) n n ∧ w'.heap[b5]? = some (.cells (Array.replicate n (.slice none 0 0)) 76 (0, 0)) ∧ W1.heap.size ≤ b5
  c7 : l7 = true → x21 = .slice (some ⟨b7, 0, none⟩) n n ∧ w'.heap[b7]? = some (.cells (Array.replicate n (.slice none 0 0)) 79 (0, 0)) ∧ W1.heap.size ≤ b7
  c9 : l9 = true → x23 = .slice (some ⟨b9, 0, none⟩) n n ∧ w'.heap[b9]? = some (.cells (Array.replicate n (.int .i64 0)) 3 (0, 0)) ∧ W1.heap.size ≤ b9
  d1_3 : l1 = true → l3 = true → b1 ≠ b3
  d1_5 : l1 = true → l5 = true → b1 ≠ b5
  d1_7 : l1 = true → l7 = true → b1 ≠ b7
  d1_9 : l1 = true → l9 = true → b1 ≠ b9
  d3_5 : l3 = true → l5 = true → b3 ≠ b5
  d3_7 : l3 = true → l7 = true → b3 ≠ b7
  d3_9 : l3 = true → l9 = true → b3 ≠ b9
  d5_7 : l5 = true → l7 = true → b5 ≠ b7
  d5_9 : l5 = true → l9 = true → b5 ≠ b9
  d7_9 : l7 = true → l9 = true → b7 ≠ b9
  c10 : l10 = true → x24 = .agg #[.slice (some ⟨b1, 0, none⟩) n n, .slice (some ⟨b3, 0, none⟩) n n, .slice (some ⟨b5, 0, none⟩) n n, .slice (some ⟨b7, 0, none⟩) n n, .slice none 0 0, .slice (some ⟨b9, 0, none⟩) n n] ∧ l1 = true ∧ l3 = true ∧ l5 = true ∧ l7 = true ∧ l9 = true
  c11 : l11 = true → l10 = true ∧ ∃ G, x25 = .pointer (some ⟨G, 0, none⟩) ∧ w'.heap[G]? = some (.cells #[.slice (some ⟨b1, 0, none⟩) n n, .slice (some ⟨b3, 0, none⟩) n n, .slice (some ⟨b5, 0, none⟩) n n, .slice (some ⟨b7, 0, none⟩) n n, .slice none 0 0, .slice (some ⟨b9, 0, none⟩) n n] 116 (0, 0)) ∧ W1.heap.size ≤ G ∧ b1 ≠ G ∧ b3 ≠ G ∧ b5 ≠ G ∧ b7 ≠ G ∧ b9 ≠ G
  c12 : l12 = true → l11 = true ∧ x4 = x25

theorem lt_of_at {w : World} {k : Nat} {o : Obj} (h : w.heap[k]? = some o) : k < w.heap.size := (Array.getElem?_eq_some_iff.1 h).1
theorem at_later {w : World} {k : Nat} {o o' : Obj} (h : w.heap[k]? = some o) : (w.alloc o').heap[k]? = some o := (Below.heap_alloc _ _ _ (lt_of_at h)).trans h

section
variable {W1 w' : World} {n : Nat} {l1 l3 l5 l7 l9 l10 l11 l12 : Bool} {b1 b3 b5 b7 b9 : Nat} {x15 x17 x19 x21 x23 x24 x25 x4 : Value}
theorem MkJ.make1 (h : MkJ W1 n w' l1 l3 l5 l7 l9 l10 l11 l12 b1 b3 b5 b7 b9 x15 x17 x19 x21 x23 x24 x25 x4) (hl : l1 = false) : MkJ W1 n (w'.alloc (.cells (Array.replicate n (.slice none 0 0)) 22)) true l3 l5 l7 l9 l10 l11 l12 w'.heap.size b3 b5 b7 b9 (.slice (some ⟨w'.heap.size, 0, none⟩) n n) x17 x19 x21 x23 x24 x25 x4 :=
  ⟨(h.below.alloc h.below.size _), (fun _ => ⟨rfl, alloc_at _ _, h.below.size⟩), (fun q => ⟨(h.c3 q).1, at_later (h.c3 q).2.1, (h.c3 q).2.2⟩), (fun q => ⟨(h.c5 q).1, at_later (h.c5 q).2.1, (h.c5 q).2.2⟩), (fun q => ⟨(h.c7 q).1, at_later (h.c7 q).2.1, (h.c7 q).2.2⟩), (fun q => ⟨(h.c9 q).1, at_later (h.c9 q).2.1, (h.c9 q).2.2⟩), (fun _ q => by have := lt_of_at (h.c3 q).2.1; omega), (fun _ q => by have := lt_of_at (h.c5 q).2.1; omega), (fun _ q => by have := lt_of_at (h.c7 q).2.1; omega), (fun _ q => by have := lt_of_at (h.c9 q).2.1; omega), h.d3_5, h.d3_7, h.d3_9, h.d5_7, h.d5_9, h.d7_9, (fun q => by have := (h.c10 q).2.1; rw [hl] at this; cases this), (fun q => by have := (h.c10 (h.c11 q).1).2.1; rw [hl] at this; cases this), h.c12⟩
theorem MkJ.make3 (h : MkJ W1 n w' l1 l3 l5 l7 l9 l10 l11 l12 b1 b3 b5 b7 b9 x15 x17 x19 x21 x23 x24 x25 x4) (hl : l3 = false) : MkJ W1 n (w'.alloc (.cells (Array.replicate n (.slice none 0 0)) 22)) l1 true l5 l7 l9 l10 l11 l12 b1 w'.heap.size b5 b7 b9 x15 (.slice (some ⟨w'.heap.size, 0, none⟩) n n) x19 x21 x23 x24 x25 x4 :=
  ⟨(h.below.alloc h.below.size _), (fun q => ⟨(h.c1 q).1, at_later (h.c1 q).2.1, (h.c1 q).2.2⟩), (fun _ => ⟨rfl, alloc_at _ _, h.below.size⟩), (fun q => ⟨(h.c5 q).1, at_later (h.c5 q).2.1, (h.c5 q).2.2⟩), (fun q => ⟨(h.c7 q).1, at_later (h.c7 q).2.1, (h.c7 q).2.2⟩), (fun q => ⟨(h.c9 q).1, at_later (h.c9 q).2.1, (h.c9 q).2.2⟩), (fun q _ => by have := lt_of_at (h.c1 q).2.1; omega), h.d1_5, h.d1_7, h.d1_9, (fun _ q => by have := lt_of_at (h.c5 q).2.1; omega), (fun _ q => by have := lt_of_at (h.c7 q).2.1; omega), (fun _ q => by have := lt_of_at (h.c9 q).2.1; omega), h.d5_7, h.d5_9, h.d7_9, (fun q => by have := (h.c10 q).2.2.1; rw [hl] at this; cases this), (fun q => by have := (h.c10 (h.c11 q).1).2.2.1; rw [hl] at this; cases this), h.c12⟩
theorem MkJ.make5 (h : MkJ W1 n w' l1 l3 l5 l7 l9 l10 l11 l12 b1 b3 b5 b7 b9 x15 x17 x19 x21 x23 x24 x25 x4) (hl : l5 = false) : MkJ W1 n (w'.alloc (.cells (Array.replicate n (.slice none 0 0)) 76)) l1 l3 true l7 l9 l10 l11 l12 b1 b3 w'.heap.size b7 b9 x15 x17 (.slice (some ⟨w'.heap.size, 0, none⟩) n n) x21 x23 x24 x25 x4 :=
  ⟨(h.below.alloc h.below.size _), (fun q => ⟨(h.c1 q).1, at_later (h.c1 q).2.1, (h.c1 q).2.2⟩), (fun q => ⟨(h.c3 q).1, at_later (h.c3 q).2.1, (h.c3 q).2.2⟩), (fun _ => ⟨rfl, alloc_at _ _, h.below.size⟩), (fun q => ⟨(h.c7 q).1, at_later (h.c7 q).2.1, (h.c7 q).2.2⟩), (fun q => ⟨(h.c9 q).1, at_later (h.c9 q).2.1, (h.c9 q).2.2⟩), h.d1_3, (fun q _ => by have := lt_of_at (h.c1 q).2.1; omega), h.d1_7, h.d1_9, (fun q _ => by have := lt_of_at (h.c3 q).2.1; omega), h.d3_7, h.d3_9, (fun _ q => by have := lt_of_at (h.c7 q).2.1; omega), (fun _ q => by have := lt_of_at (h.c9 q).2.1; omega), h.d7_9, (fun q => by have := (h.c10 q).2.2.2.1; rw [hl] at this; cases this), (fun q => by have := (h.c10 (h.c11 q).1).2.2.2.1; rw [hl] at this; cases this), h.c12⟩
theorem MkJ.make7 (h : MkJ W1 n w' l1 l3 l5 l7 l9 l10 l11 l12 b1 b3 b5 b7 b9 x15 x17 x19 x21 x23 x24 x25 x4) (hl : l7 = false) : MkJ W1 n (w'.alloc (.cells (Array.replicate n (.slice none 0 0)) 79)) l1 l3 l5 true l9 l10 l11 l12 b1 b3 b5 w'.heap.size b9 x15 x17 x19 (.slice (some ⟨w'.heap.size, 0, none⟩) n n) x23 x24 x25 x4 :=
  ⟨(h.below.alloc h.below.size _), (fun q => ⟨(h.c1 q).1, at_later (h.c1 q).2.1, (h.c1 q).2.2⟩), (fun q => ⟨(h.c3 q).1, at_later (h.c3 q).2.1, (h.c3 q).2.2⟩), (fun q => ⟨(h.c5 q).1, at_later (h.c5 q).2.1, (h.c5 q).2.2⟩), (fun _ => ⟨rfl, alloc_at _ _, h.below.size⟩), (fun q => ⟨(h.c9 q).1, at_later (h.c9 q).2.1, (h.c9 q).2.2⟩), h.d1_3, h.d1_5, (fun q _ => by have := lt_of_at (h.c1 q).2.1; omega), h.d1_9, h.d3_5, (fun q _ => by have := lt_of_at (h.c3 q).2.1; omega), h.d3_9, (fun q _ => by have := lt_of_at (h.c5 q).2.1; omega), h.d5_9, (fun _ q => by have := lt_of_at (h.c9 q).2.1; omega), (fun q => by have := (h.c10 q).2.2.2.2.1; rw [hl] at this; cases this), (fun q => by have := (h.c10 (h.c11 q).1).2.2.2.2.1; rw [hl] at this; cases this), h.c12⟩
theorem MkJ.make9 (h : MkJ W1 n w' l1 l3 l5 l7 l9 l10 l11 l12 b1 b3 b5 b7 b9 x15 x17 x19 x21 x23 x24 x25 x4) (hl : l9 = false) : MkJ W1 n (w'.alloc (.cells (Array.replicate n (.int .i64 0)) 3)) l1 l3 l5 l7 true l10 l11 l12 b1 b3 b5 b7 w'.heap.size x15 x17 x19 x21 (.slice (some ⟨w'.heap.size, 0, none⟩) n n) x24 x25 x4 :=
  ⟨(h.below.alloc h.below.size _), (fun q => ⟨(h.c1 q).1, at_later (h.c1 q).2.1, (h.c1 q).2.2⟩), (fun q => ⟨(h.c3 q).1, at_later (h.c3 q).2.1, (h.c3 q).2.2⟩), (fun q => ⟨(h.c5 q).1, at_later (h.c5 q).2.1, (h.c5 q).2.2⟩), (fun q => ⟨(h.c7 q).1, at_later (h.c7 q).2.1, (h.c7 q).2.2⟩), (fun _ => ⟨rfl, alloc_at _ _, h.below.size⟩), h.d1_3, h.d1_5, h.d1_7, (fun q _ => by have := lt_of_at (h.c1 q).2.1; omega), h.d3_5, h.d3_7, (fun q _ => by have := lt_of_at (h.c3 q).2.1; omega), h.d5_7, (fun q _ => by have := lt_of_at (h.c5 q).2.1; omega), (fun q _ => by have := lt_of_at (h.c7 q).2.1; omega), (fun q => by have := (h.c10 q).2.2.2.2.2; rw [hl] at this; cases this), (fun q => by have := (h.c10 (h.c11 q).1).2.2.2.2.2; rw [hl] at this; cases this), h.c12⟩
theorem MkJ.build (h : MkJ W1 n w' l1 l3 l5 l7 l9 l10 l11 l12 b1 b3 b5 b7 b9 x15 x17 x19 x21 x23 x24 x25 x4) (hl : l10 = false) (t1 : l1 = true) (t3 : l3 = true) (t5 : l5 = true) (t7 : l7 = true) (t9 : l9 = true) : MkJ W1 n w' l1 l3 l5 l7 l9 true l11 l12 b1 b3 b5 b7 b9 x15 x17 x19 x21 x23 (.agg #[.slice (some ⟨b1, 0, none⟩) n n, .slice (some ⟨b3, 0, none⟩) n n, .slice (some ⟨b5, 0, none⟩) n n, .slice (some ⟨b7, 0, none⟩) n n, .slice none 0 0, .slice (some ⟨b9, 0, none⟩) n n]) x25 x4 :=
  ⟨h.below, h.c1, h.c3, h.c5, h.c7, h.c9, h.d1_3, h.d1_5, h.d1_7, h.d1_9, h.d3_5, h.d3_7, h.d3_9, h.d5_7, h.d5_9, h.d7_9, (fun _ => ⟨rfl, t1, t3, t5, t7, t9⟩), (fun q => ⟨rfl, (h.c11 q).2⟩), h.c12⟩
theorem MkJ.box (h : MkJ W1 n w' l1 l3 l5 l7 l9 true l11 l12 b1 b3 b5 b7 b9 x15 x17 x19 x21 x23 (.agg #[.slice (some ⟨b1, 0, none⟩) n n, .slice (some ⟨b3, 0, none⟩) n n, .slice (some ⟨b5, 0, none⟩) n n, .slice (some ⟨b7, 0, none⟩) n n, .slice none 0 0, .slice (some ⟨b9, 0, none⟩) n n]) x25 x4) (hl : l12 = false) : MkJ W1 n (w'.alloc (.cells #[.slice (some ⟨b1, 0, none⟩) n n, .slice (some ⟨b3, 0, none⟩) n n, .slice (some ⟨b5, 0, none⟩) n n, .slice (some ⟨b7, 0, none⟩) n n, .slice none 0 0, .slice (some ⟨b9, 0, none⟩) n n] 116)) l1 l3 l5 l7 l9 true true l12 b1 b3 b5 b7 b9 x15 x17 x19 x21 x23 (.agg #[.slice (some ⟨b1, 0, none⟩) n n, .slice (some ⟨b3, 0, none⟩) n n, .slice (some ⟨b5, 0, none⟩) n n, .slice (some ⟨b7, 0, none⟩) n n, .slice none 0 0, .slice (some ⟨b9, 0, none⟩) n n]) (.pointer (some ⟨w'.heap.size, 0, none⟩)) x4 :=
  ⟨h.below.alloc h.below.size _, (fun q => ⟨(h.c1 q).1, at_later (h.c1 q).2.1, (h.c1 q).2.2⟩), (fun q => ⟨(h.c3 q).1, at_later (h.c3 q).2.1, (h.c3 q).2.2⟩), (fun q => ⟨(h.c5 q).1, at_later (h.c5 q).2.1, (h.c5 q).2.2⟩), (fun q => ⟨(h.c7 q).1, at_later (h.c7 q).2.1, (h.c7 q).2.2⟩), (fun q => ⟨(h.c9 q).1, at_later (h.c9 q).2.1, (h.c9 q).2.2⟩), h.d1_3, h.d1_5, h.d1_7, h.d1_9, h.d3_5, h.d3_7, h.d3_9, h.d5_7, h.d5_9, h.d7_9, (fun q => ⟨rfl, (h.c10 q).2⟩), (fun _ => ⟨rfl, _, rfl, alloc_at _ _, h.below.size, (by have := lt_of_at (h.c1 (h.c10 rfl).2.1).2.1; omega), (by have := lt_of_at (h.c3 (h.c10 rfl).2.2.1).2.1; omega), (by have := lt_of_at (h.c5 (h.c10 rfl).2.2.2.1).2.1; omega), (by have := lt_of_at (h.c7 (h.c10 rfl).2.2.2.2.1).2.1; omega), (by have := lt_of_at (h.c9 (h.c10 rfl).2.2.2.2.2).2.1; omega)⟩), (fun q => by rw [hl] at q; cases q)⟩
theorem MkJ.assign (h : MkJ W1 n w' l1 l3 l5 l7 l9 l10 true l12 b1 b3 b5 b7 b9 x15 x17 x19 x21 x23 x24 x25 x4) : MkJ W1 n w' l1 l3 l5 l7 l9 l10 true true b1 b3 b5 b7 b9 x15 x17 x19 x21 x23 x24 x25 x25 :=
  ⟨h.below, h.c1, h.c3, h.c5, h.c7, h.c9, h.d1_3, h.d1_5, h.d1_7, h.d1_9, h.d3_5, h.d3_7, h.d3_9, h.d5_7, h.d5_9, h.d7_9, h.c10, h.c11, (fun _ => ⟨rfl, rfl⟩)⟩
theorem MkJ.done (h : MkJ W1 n w' true true true true true true true true b1 b3 b5 b7 b9 x15 x17 x19 x21 x23 x24 x25 x4) : OfStart W1 n x4 w' := by
  obtain ⟨_, G, hG, hg, hlG, g1, g3, g5, g7, g9⟩ := h.c11 rfl
  obtain ⟨tag, ht⟩ := GM.start hg (h.c1 rfl).2.1 (h.c3 rfl).2.1 (h.c5 rfl).2.1 (h.c7 rfl).2.1 (h.c9 rfl).2.1 (h.d1_3 rfl rfl) (h.d1_5 rfl rfl) (h.d1_7 rfl rfl) (h.d1_9 rfl rfl) g1 (h.d3_5 rfl rfl) (h.d3_7 rfl rfl) (h.d3_9 rfl rfl) g3 (h.d5_7 rfl rfl) (h.d5_9 rfl rfl) g5 (h.d7_9 rfl rfl) g7 g9  (h.c1 rfl).2.2 (h.c3 rfl).2.2 (h.c5 rfl).2.2 (h.c7 rfl).2.2 (h.c9 rfl).2.2 hlG
  exact ⟨G, b1, b3, b5, b7, b9, tag, (h.c12 rfl).2.trans hG, ht, h.below⟩
end

/-- The invariant, over the frame that the region is entered with. -/
def MkI (W1 : World) (n : Nat) (a0 : Act) (listed : Array Bool) (a' : Act) (w' : World) : Prop :=
  ∃ (l1 l3 l5 l7 l9 l10 l11 l12 : Bool) (b1 b3 b5 b7 b9 : Nat) (x15 x17 x19 x21 x23 x24 x25 x4 : Value), listed = #[true, l1, true, l3, true, l5, true, l7, true, l9, l10, l11, l12] ∧ a' = ((((((((a0.put (some 15) x15).put (some 17) x17).put (some 19) x19).put (some 21) x21).put (some 23) x23).put (some 24) x24).put (some 25) x25).put (some 4) x4) ∧ MkJ W1 n w' l1 l3 l5 l7 l9 l10 l11 l12 b1 b3 b5 b7 b9 x15 x17 x19 x21 x23 x24 x25 x4
end Go.Proofs.Ytbbogkcfngpbbaa
