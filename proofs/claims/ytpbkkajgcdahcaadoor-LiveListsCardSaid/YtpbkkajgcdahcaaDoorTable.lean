/- A row of words, cloned; the table of what is asked. -/
import Derived.Test.YtpbkkajgcdahcaaDoorFix
import Derived.Test.YtpbkkajgcdahcaaDoorLiveRows
import Derived.Test.YtpbkkajgcdahcaaDoorLight8
import Derived.Lib.Walk
import Derived.Lib.SliceRun
namespace Go.Proofs.YtpbkkajgcdahcaaDoor
open Go.RowKit

set_option maxRecDepth 100000 in
set_option maxHeartbeats 2000000 in
theorem rowClone_calls (w : World) (B n cp : Nat) (f : Nat → Nat) (h : RowW w B n f) (hn : n ≤ 90000) :
    Calls Tryd.prog 39 #[.slice (some ⟨B, 0, none⟩) n cp] w fun e w' => ∃ g cap, e = .returned (.slice (some ⟨g, 0, none⟩) n cap) ∧ w.heap.size ≤ g ∧ RowW w' g n f ∧ Below w.heap.size w w' := by
  obtain ⟨j0, hj, hj0, hj1, hj2⟩ := info_parts info_word
  have q : ∀ (w : World) (a : Option Addr) (n c n' c' : Nat), (binOp .eql 65 (.slice a n c) (.slice none n' c')).run Tryd.prog w = .ok (.bool a.isNone) w := fun w a n c n' c' => Lib.run_eql_slice_nil w _ _ a n c n' c' Tryd.underlying65
  have A := Lib.hid h
  clear h
  go_enter Tryd.func39, Tryd.ntmps39
  go_wp2_with (at_builtin; refine wpList_append_own _ rfl _ _ 65 rfl w.heap.size 79 j0 (.int .u64 0) 1 8 Tryd.underlying65 hj hj0 hj1 hj2 rfl (by decide) _ _ _ rfl (World.ownsRow_made w #[] 0 (Nat.le_refl _) (Nat.zero_le _) rfl) ⟨B, 0, none⟩ n cp ((List.range n).map fun i => Value.int .u64 (f i : Int)) rfl ?qc1 ?qc2 ?qc3 ?qc4 ?qc5 ?qc6 ?_)
  case qc1 => simp
  case qc2 =>
    intro j u hj
    have hjn : j < n := by have := (List.getElem?_eq_some_iff.1 hj).1; simpa using this
    rw [Addr.add_lit, Nat.zero_add]
    refine Lib.cell?_alloc_some _ ?_
    rw [A.out.cell hjn]
    simpa [hjn] using hj
  case qc3 => intro u hu; obtain ⟨x, _, rfl⟩ := List.mem_map.1 hu; rfl
  case qc4 => unfold maxLen; omega
  case qc5 => omega
  case qc6 => simp
  intro v' w1 hown hgrow hnil
  go_wp2
  go_ret
  have hown' : w1.ownsRow w.heap.size 79 1 v' n ((List.range n).map fun i => Value.int .u64 (f i : Int)) := by simpa using hown
  have hbel : Below w.heap.size w w1 := ((Below.refl _ w).alloc (Nat.le_refl _) _).grown hgrow (by simp) (by intro k hk; simp [Value.ownBlock] at hk; omega)
  rcases hown'.2 with ⟨e1, _⟩ | ⟨g, cap, cur, e1, e2, _⟩
  · exact absurd e1 (by first | exact hnil | (intro e; exact absurd (hnil.1 e).1 (by simp)))
  · subst e1
    exact ⟨g, cap, rfl, e2, RowW.of_owns hown', hbel⟩

/-- The cells of a table: the code, the two rows of rows. -/
def tabCells (c : Cod) (RA RB : Nat) : Array Value := #[.string c.nm, .int .i64 c.par, .slice c.varsA c.nvars c.varsC, .bool c.rp, .string c.rto, .int .i64 c.rcl, .slice c.fromA c.nfrom c.fromC, .slice c.insA c.ins.length c.insC, .slice (some ⟨RA, 0, none⟩) c.ins.length c.ins.length, .slice (some ⟨RB, 0, none⟩) c.ins.length c.ins.length]

/-- The blocks of a table that are not the rows ahead. -/
def FixB (T RA RB n g : Nat) : Prop := g = T ∨ g = RA ∨ (RB ≤ g ∧ g ≤ RB + n)

structure TabI (w : World) (T RA RB k : Nat) (c : Cod) (a b : Nat → Nat → Nat) : Prop where
  tab : w.heap[T]? = some (.cells (tabCells c RA RB) 60 (0, 0))
  ahead : ∃ cur, w.heap[RA]? = some (.cells cur 65 (0, 0)) ∧ cur.size = c.ins.length ∧ ∀ x, x < c.ins.length → ∃ g cp, cur[x]? = some (.slice (some ⟨g, 0, none⟩) k cp) ∧ ¬ FixB T RA RB c.ins.length g ∧ RowW w g k (a x)
  behind : w.heap[RB]? = some (.cells (rowVals c.ins.length k RB c.ins.length) 65 (0, 0))
  words : ∀ x, x < c.ins.length → RowW w (RB + 1 + x) k (b x)
  s1 : T ≠ RA
  s2 : ¬ (RB ≤ T ∧ T ≤ RB + c.ins.length)
  s3 : ¬ (RB ≤ RA ∧ RA ≤ RB + c.ins.length)

theorem TabI.keep {w w' : World} {T RA RB k : Nat} {c : Cod} {a b : Nat → Nat → Nat} {M : Nat → Prop} (h : TabI w T RA RB k c a b) (hx : Ext M w w') (hM : ∀ j, ¬ M j) : TabI w' T RA RB k c a b := by
  obtain ⟨cur, h1, h2, h3⟩ := h.ahead
  exact ⟨hx.heap h.tab (hM _), ⟨cur, hx.heap h1 (hM _), h2, fun x hx' => let ⟨g, cp, a, b, c⟩ := h3 x hx'; ⟨g, cp, a, b, c.ext hx (hM _)⟩⟩, hx.heap h.behind (hM _), fun x hx' => (h.words x hx').ext hx (hM _), h.s1, h.s2, h.s3⟩

/-- A row ahead is put into the table. -/
theorem TabI.put {w : World} {T RA RB k x g cp : Nat} {c : Cod} {a b : Nat → Nat → Nat} {f : Nat → Nat} (h : TabI w T RA RB k c a b) (hx : x < c.ins.length) (hg : ¬ FixB T RA RB c.ins.length g) (hr : RowW w g k f) :
    TabI (w.setCell ⟨RA, x, none⟩ (.slice (some ⟨g, 0, none⟩) k cp)) T RA RB k c (fun y => if y = x then f else a y) b := by
  have hxt : Ext (· = RA) w (w.setCell ⟨RA, x, none⟩ (.slice (some ⟨g, 0, none⟩) k cp)) := Ext.set1 _ _ _ _
  obtain ⟨cur, h1, h2, h3⟩ := h.ahead
  refine ⟨hxt.heap h.tab h.s1, ⟨_, heap_setCell_same _ _ _ _ _ _ h1, by simpa using h2, fun y hy => ?_⟩, hxt.heap h.behind (fun e => h.s3 ⟨by omega, by omega⟩), fun y hy => (h.words y hy).ext hxt (fun e => h.s3 ⟨by omega, by omega⟩), h.s1, h.s2, h.s3⟩
  rw [Array.getElem?_setIfInBounds]
  by_cases e : x = y
  · subst e
    rw [if_pos rfl, if_pos (by omega), if_pos rfl]
    exact ⟨g, cp, rfl, hg, hr.ext hxt (fun e => hg (.inr (.inl e)))⟩
  · rw [if_neg e, if_neg (fun h => e h.symm)]
    obtain ⟨g', cp', e1, e2, e3⟩ := h3 y hy
    exact ⟨g', cp', e1, e2, e3.ext hxt (fun e => e2 (.inr (.inl e)))⟩

/-- A row behind has grown. -/
theorem TabI.grow {w w' : World} {T RA RB k x : Nat} {c : Cod} {a b : Nat → Nat → Nat} {f : Nat → Nat} (h : TabI w T RA RB k c a b) (hx : x < c.ins.length) (hr : RowW w' (RB + 1 + x) k f) (hxt : Ext (· = RB + 1 + x) w w') :
    TabI w' T RA RB k c a (fun y => if y = x then f else b y) := by
  obtain ⟨cur, h1, h2, h3⟩ := h.ahead
  refine ⟨hxt.heap h.tab (fun e => h.s2 ⟨by omega, by omega⟩), ⟨cur, hxt.heap h1 (fun e => h.s3 ⟨by omega, by omega⟩), h2, fun y hy => ?_⟩, hxt.heap h.behind (by omega), fun y hy => ?_, h.s1, h.s2, h.s3⟩
  · obtain ⟨g', cp', e1, e2, e3⟩ := h3 y hy
    exact ⟨g', cp', e1, e2, e3.ext hxt (fun e => e2 (.inr (.inr ⟨by omega, by omega⟩)))⟩
  · by_cases e : y = x
    · subst e; rw [if_pos rfl]; exact hr
    · rw [if_neg e]; exact (h.words y hy).ext hxt (by omega)

/-- Behind a step. -/
def Stepped (w : World) (T RA RB k : Nat) (c : Cod) (a b : Nat → Nat → Nat) (x : Nat) (i : Ins) (e : Ending) (w' : World) : Prop :=
  e = .returned (.bool (decide (0 < countOf k (stepW i (b x))))) ∧ TabI w' T RA RB k c (fun y => if y = x then stepW i (b x) else a y) b ∧ Ext (· = RA) w w'
end Go.Proofs.YtpbkkajgcdahcaaDoor
