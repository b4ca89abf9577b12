/- calls.Of, at any short module: what it lays first. -/
import Derived.Test.YtbbogkcfngpbbaaCaF
import Derived.Deep.RegionHeld3
import Derived.Deep.DeepCutAuto
import Derived.Deep.WholeRow
namespace Go.Proofs.Ytbbogkcfngpbbaa
open Go.RowKit

theorem info_rI : (Try.prog.info? 22).map (fun i => (i.zero, i.size, i.bytes)) = some (some (.slice none 0 0), 1, 24) := by kernel_rfl
theorem info_rP : (Try.prog.info? 76).map (fun i => (i.zero, i.size, i.bytes)) = some (some (.slice none 0 0), 1, 24) := by kernel_rfl
theorem info_rB : (Try.prog.info? 79).map (fun i => (i.zero, i.size, i.bytes)) = some (some (.slice none 0 0), 1, 24) := by kernel_rfl

theorem run_make_one {t e : TypeId} {z : Value} {b : Nat} (ht : Try.prog.underlying t = some (.slice e)) (hi : (Try.prog.info? e).map (fun i => (i.zero, i.size, i.bytes)) = some (some z, 1, b)) (hzc : z.cells = #[z]) (n : Nat) (hn : n ≤ 70) (hb : b ≤ 90000) (W : World) :
    (Instr.makeSlice t (.int .i64 (n : Int)) (.int .i64 (n : Int))).run Try.prog W = .ok (.slice (some ⟨W.heap.size, 0, none⟩) n n) (W.alloc (.cells (Array.replicate n z) e)) := by
  obtain ⟨i, h2, h3, h4, h5⟩ := info_parts hi
  have hbn : b * n ≤ 90000 * 70 := Nat.mul_le_mul hb hn
  have hr := run_make (P := Try.prog) W t e i z ht h2 h3 .i64 .i64 n n (by omega) (Int.le_refl _) (by
    rw [h5]
    have : ((b * n : Nat) : Int) ≤ 281474976710656 := by omega
    rwa [Int.natCast_mul] at this) (by omega)
  simp only [Int.toNat_natCast, h4, hzc, Nat.mul_one] at hr
  have hm : madeCells #[z] n = Array.replicate n z := by
    rw [← List.toArray_replicate, ← toList_madeCells_one]
  rw [hm] at hr
  exact hr

theorem alloc6 (w : World) (o1 o2 o3 o4 o5 o6 : Obj) : ((((((w.alloc o1).alloc o2).alloc o3).alloc o4).alloc o5).alloc o6).heap[w.heap.size]? = some o1 ∧ ((((((w.alloc o1).alloc o2).alloc o3).alloc o4).alloc o5).alloc o6).heap[w.heap.size + 1]? = some o2 ∧
    ((((((w.alloc o1).alloc o2).alloc o3).alloc o4).alloc o5).alloc o6).heap[w.heap.size + 2]? = some o3 ∧ ((((((w.alloc o1).alloc o2).alloc o3).alloc o4).alloc o5).alloc o6).heap[w.heap.size + 3]? = some o4 ∧
    ((((((w.alloc o1).alloc o2).alloc o3).alloc o4).alloc o5).alloc o6).heap[w.heap.size + 4]? = some o5 ∧ ((((((w.alloc o1).alloc o2).alloc o3).alloc o4).alloc o5).alloc o6).heap[w.heap.size + 5]? = some o6 ∧
    Below w.heap.size w ((((((w.alloc o1).alloc o2).alloc o3).alloc o4).alloc o5).alloc o6) := by
  refine ⟨?_, ?_, ?_, ?_, ?_, ?_, ?_⟩
  · rw [Below.heap_alloc _ _ _ (by simp only [World.size_alloc]; omega), Below.heap_alloc _ _ _ (by simp only [World.size_alloc]; omega), Below.heap_alloc _ _ _ (by simp only [World.size_alloc]; omega), Below.heap_alloc _ _ _ (by simp only [World.size_alloc]; omega), Below.heap_alloc _ _ _ (by simp only [World.size_alloc]; omega)]
    exact alloc_at w o1
  · rw [Below.heap_alloc _ _ _ (by simp only [World.size_alloc]; omega), Below.heap_alloc _ _ _ (by simp only [World.size_alloc]; omega), Below.heap_alloc _ _ _ (by simp only [World.size_alloc]; omega), Below.heap_alloc _ _ _ (by simp only [World.size_alloc]; omega)]
    have := alloc_at (w.alloc o1) o2
    rwa [World.size_alloc] at this
  · rw [Below.heap_alloc _ _ _ (by simp only [World.size_alloc]; omega), Below.heap_alloc _ _ _ (by simp only [World.size_alloc]; omega), Below.heap_alloc _ _ _ (by simp only [World.size_alloc]; omega)]
    have := alloc_at ((w.alloc o1).alloc o2) o3
    rwa [World.size_alloc, World.size_alloc] at this
  · rw [Below.heap_alloc _ _ _ (by simp only [World.size_alloc]; omega), Below.heap_alloc _ _ _ (by simp only [World.size_alloc]; omega)]
    have := alloc_at (((w.alloc o1).alloc o2).alloc o3) o4
    rwa [World.size_alloc, World.size_alloc, World.size_alloc] at this
  · rw [Below.heap_alloc _ _ _ (by simp only [World.size_alloc]; omega)]
    have := alloc_at ((((w.alloc o1).alloc o2).alloc o3).alloc o4) o5
    rwa [World.size_alloc, World.size_alloc, World.size_alloc, World.size_alloc] at this
  · have := alloc_at (((((w.alloc o1).alloc o2).alloc o3).alloc o4).alloc o5) o6
    rwa [World.size_alloc, World.size_alloc, World.size_alloc, World.size_alloc, World.size_alloc] at this
  · exact ((((((Below.refl _ w).alloc (Nat.le_refl _) _).alloc (by simp only [World.size_alloc]; omega) _).alloc (by simp only [World.size_alloc]; omega) _).alloc (by simp only [World.size_alloc]; omega) _).alloc (by simp only [World.size_alloc]; omega) _).alloc (by simp only [World.size_alloc]; omega) _

/-- Six blocks are a graph with no calls. -/
theorem GM.start {w : World} {N G n DN UP ST RE GP : Nat}
    (hg : w.heap[G]? = some (.cells #[.slice (some ⟨DN, 0, none⟩) n n, .slice (some ⟨UP, 0, none⟩) n n, .slice (some ⟨ST, 0, none⟩) n n, .slice (some ⟨RE, 0, none⟩) n n, .slice none 0 0, .slice (some ⟨GP, 0, none⟩) n n] 116 (0, 0)))
    (h1 : w.heap[DN]? = some (.cells (Array.replicate n (.slice none 0 0)) 22 (0, 0))) (h2 : w.heap[UP]? = some (.cells (Array.replicate n (.slice none 0 0)) 22 (0, 0)))
    (h3 : w.heap[ST]? = some (.cells (Array.replicate n (.slice none 0 0)) 76 (0, 0))) (h4 : w.heap[RE]? = some (.cells (Array.replicate n (.slice none 0 0)) 79 (0, 0))) (h5 : w.heap[GP]? = some (.cells (Array.replicate n (.int .i64 0)) 3 (0, 0)))
    (n12 : DN ≠ UP) (n13 : DN ≠ ST) (n14 : DN ≠ RE) (n15 : DN ≠ GP) (n16 : DN ≠ G) (n23 : UP ≠ ST) (n24 : UP ≠ RE) (n25 : UP ≠ GP) (n26 : UP ≠ G) (n34 : ST ≠ RE) (n35 : ST ≠ GP) (n36 : ST ≠ G) (n45 : RE ≠ GP) (n46 : RE ≠ G) (n56 : GP ≠ G)
    (l1 : N ≤ DN) (l2 : N ≤ UP) (l3 : N ≤ ST) (l4 : N ≤ RE) (l5 : N ≤ GP) (l6 : N ≤ G) :
    ∃ tag, GM w N G n DN UP ST RE GP (.slice none 0 0) tag (fun _ => []) (fun _ => []) (fun _ => []) (fun _ => []) (fun _ => 0) := by
  have q : ∀ (i : Nat) (v : Value), (Array.replicate n (Value.slice none 0 0))[i]? = some v → v = Value.slice none 0 0 := by
    intro i v h
    rw [Array.getElem?_replicate] at h
    split at h
    · exact (Option.some.inj h).symm
    · simp at h
  have lt : ∀ {k : Nat} {o : Obj}, w.heap[k]? = some o → k < w.heap.size := fun h => (Array.getElem?_eq_some_iff.1 h).1
  obtain ⟨tag, ht⟩ : ∃ tag : Nat → Nat, tag = fun k => if k = DN then 1 else if k = UP then 2 else if k = ST then 3 else if k = RE then 4 else 0 := ⟨_, rfl⟩
  have t1 : ∀ k, tag k = 1 ↔ k = DN := fun k => by rw [ht]; simp only; split <;> (try split) <;> (try split) <;> (try split) <;> omega
  have t2 : ∀ k, tag k = 2 ↔ k = UP := fun k => by rw [ht]; simp only; split <;> (try split) <;> (try split) <;> (try split) <;> omega
  have t3 : ∀ k, tag k = 3 ↔ k = ST := fun k => by rw [ht]; simp only; split <;> (try split) <;> (try split) <;> (try split) <;> omega
  have t4 : ∀ k, tag k = 4 ↔ k = RE := fun k => by rw [ht]; simp only; split <;> (try split) <;> (try split) <;> (try split) <;> omega
  have t0 : ∀ k, tag k ≠ 0 → k = DN ∨ k = UP ∨ k = ST ∨ k = RE := fun k hk => by rw [ht] at hk; simp only at hk; split at hk <;> (try split at hk) <;> (try split at hk) <;> (try split at hk) <;> omega
  have z : ∀ k, ¬ (k = DN ∨ k = UP ∨ k = ST ∨ k = RE) → tag k = 0 := fun k hk => Classical.byContradiction fun h => hk (t0 k h)
  refine ⟨tag, hg, ?_, ?_, ?_, ?_, ?_, z _ (by omega), z _ (by omega), fun e => n56 e.symm, l6, l5, fun k hk => by have := t0 k hk; omega, fun k => by rw [ht]; simp only; split <;> (try split) <;> (try split) <;> (try split) <;> omega⟩
  · exact (TabOf.start (by simp) h1 (fun i v => q i v)).mono (fun k hk => (t1 k).2 hk) (fun k hk => by rw [(t1 k).1 hk]; exact lt h1)
  · exact (TabOf.start (by simp) h2 (fun i v => q i v)).mono (fun k hk => (t2 k).2 hk) (fun k hk => by rw [(t2 k).1 hk]; exact lt h2)
  · exact (TabOf.start (by simp) h3 (fun i v => q i v)).mono (fun k hk => (t3 k).2 hk) (fun k hk => by rw [(t3 k).1 hk]; exact lt h3)
  · exact (TabOf.start (by simp) h4 (fun i v => q i v)).mono (fun k hk => (t4 k).2 hk) (fun k hk => by rw [(t4 k).1 hk]; exact lt h4)
  · rw [h5]
    congr 2
    apply Array.ext_getElem?
    intro j
    by_cases hj : j < n
    · rw [numsC_get _ hj]; simp [hj]
    · rw [Array.getElem?_eq_none (by simp; omega), Array.getElem?_eq_none (by rw [numsC_size]; omega)]

/-- A module for calls.Of. -/
structure OfIn (w : World) (m : Mo) : Prop where
  frow : RowOf Fn.cells 8 w w.heap.size m.fA m.fs
  row : ∀ f ∈ m.fs, InsRow w w.heap.size f.c.insA f.c.ins
  ok : ∀ f ∈ m.fs, ∀ i ∈ f.c.ins, i.argsV.oneCell' = true ∧ i.modeV.oneCell' = true
  nf : m.fs.length ≤ 70
  tot : (m.fs.map fun f => f.c.ins.length).sum ≤ 1200

theorem OfIn.below {w w' : World} {m : Mo} (h : OfIn w m) (hb : Below w.heap.size w w') : OfIn w' m :=
  ⟨h.frow.grow hb, fun f hf => (h.row f hf).below hb (Nat.le_refl _) |>.mono hb.size, h.ok, h.nf, h.tot⟩

theorem insOne {i : Ins} (h : i.argsV.oneCell' = true ∧ i.modeV.oneCell' = true) : i.cells.all (·.oneCell') = true := by
  rw [← Array.all_toList]; simp only [Ins.cells, h.1, h.2, List.all_cons, List.all_nil]; rfl
theorem fnOne (f : Fn) : f.cells.all (·.oneCell') = true := by
  rw [← Array.all_toList]; simp only [Fn.cells, Cod.cells, List.all_cons, List.all_nil]; rfl

theorem insCalls_len (n f : Nat) : ∀ (a : Nat) (l : List Ins), (insCalls n f a l).length ≤ l.length
  | _, [] => by simp [insCalls]
  | a, i :: r => by
    unfold insCalls
    rw [List.length_append, List.length_cons]
    have := insCalls_len n f (a + 1) r
    cases cAt n i with
    | none => simp; omega
    | some g => simp; omega
theorem allCalls_len (n : Nat) : ∀ (f : Nat) (fs : List Fn), (allCalls n f fs).length ≤ (fs.map fun f => f.c.ins.length).sum
  | _, [] => by simp [allCalls]
  | f, x :: r => by
    unfold allCalls
    rw [List.length_append, List.map_cons, List.sum_cons]
    have := allCalls_len n (f + 1) r
    have := insCalls_len n f 0 x.c.ins
    omega
theorem dOf_len (E : List (Nat × Nat × Nat)) (j : Nat) : (dOf E j).length ≤ E.length := by unfold dOf; rw [List.length_map]; exact List.length_filter_le _ _
theorem uOf_len (E : List (Nat × Nat × Nat)) (j : Nat) : (uOf E j).length ≤ E.length := by unfold uOf; rw [List.length_map]; exact List.length_filter_le _ _
theorem sOf_len (E : List (Nat × Nat × Nat)) (j : Nat) : (sOf E j).length ≤ E.length := by unfold sOf; rw [List.length_map]; exact List.length_filter_le _ _
end Go.Proofs.Ytbbogkcfngpbbaa
