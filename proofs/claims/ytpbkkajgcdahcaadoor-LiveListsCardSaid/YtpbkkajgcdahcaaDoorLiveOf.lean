/- live.Of: the table of what is asked. -/
import Derived.Test.YtpbkkajgcdahcaaDoorStep
import Derived.Test.YtpbkkajgcdahcaaDoorLight10
namespace Go.Proofs.YtpbkkajgcdahcaaDoor
open Go.RowKit

/-- The rows of a table lie there, all empty. -/
theorem TabI.init {w : World} {T RA RB k : Nat} {c : Cod} (hT : w.heap[T]? = some (.cells (tabCells c RA RB) 60 (0, 0)))
    (hA : w.heap[RA]? = some (.cells (rowVals c.ins.length k RA c.ins.length) 65 (0, 0))) (hAw : ∀ i, i < c.ins.length → w.heap[RA + 1 + i]? = some (.cells (wordCells k (fun _ => 0)) 79 (0, 0)))
    (hB : w.heap[RB]? = some (.cells (rowVals c.ins.length k RB c.ins.length) 65 (0, 0))) (hBw : ∀ i, i < c.ins.length → w.heap[RB + 1 + i]? = some (.cells (wordCells k (fun _ => 0)) 79 (0, 0)))
    (hd : RA + c.ins.length < RB ∨ RB + c.ins.length < RA) (ha : RA + c.ins.length < T) (hb : RB + c.ins.length < T) : TabI w T RA RB k c (fun _ _ => 0) (fun _ _ => 0) := by
  refine ⟨hT, ⟨_, hA, rowVals_size _ _ _ _, fun x hx => ⟨RA + 1 + x, k, by rw [rowVals_get _ _ _ hx, if_pos hx], ?_, RowW.of_cells (hAw x hx)⟩⟩, hB, fun x hx => RowW.of_cells (hBw x hx), by omega, by omega, by omega⟩
  unfold FixB
  omega

/-- What a table says. -/
structure TabOk (w : World) (T RA RB : Nat) (c : Cod) (a b : Nat → Nat → Nat) : Prop where
  tab : TabI w T RA RB ((c.nvars + 63) / 64) c a b
  ltA : ∀ x j, x < c.ins.length → a x j < 18446744073709551616
  ltB : ∀ x j, b x j < 18446744073709551616
  says : ∀ x v, x < c.ins.length → v < c.nvars → (bitOf (b x) v = true ↔ AskedBehind c.ins v x) ∧ (bitOf (a x) v = true ↔ Asked c.ins v x)
  sound : Sound c.ins b

def TabMade (c : Cod) (w : World) (e : Ending) (w' : World) : Prop :=
  ∃ T RA RB a b, e = .returned (.pointer (some ⟨T, 0, none⟩)) ∧ w.heap.size ≤ T ∧ TabOk w' T RA RB c a b ∧ Below w.heap.size w w'

theorem TabOk.below {w w' : World} {T RA RB : Nat} {c : Cod} {a b : Nat → Nat → Nat} (h : TabOk w T RA RB c a b) (hb : Below w.heap.size w w') : TabOk w' T RA RB c a b :=
  ⟨h.tab.keep (Ext.of_below_size hb) (fun _ h => h), h.ltA, h.ltB, h.says, h.sound⟩

/-- The blocks that a sweep writes. -/
def FixM (RA RB n q : Nat) : Prop := q = RA ∨ (RB < q ∧ q ≤ RB + n)

/-- Between two sweeps: what the sets may yet grow by is at most m. -/
def SweepsI (T RA RB k : Nat) (c : Cod) (W3 : World) (m : Nat) (wr : World) : Prop :=
  ∃ a b, TabI wr T RA RB k c a b ∧ Sound c.ins b ∧ (∀ x j, b x j < 18446744073709551616) ∧ roomOf c.ins.length k b ≤ m ∧ Ext (FixM RA RB c.ins.length) W3 wr

/-- What is closed above j. -/
def ClosedFrom (ins : List Ins) (k j : Nat) (a b : Nat → Nat → Nat) : Prop :=
  ∀ y i, j ≤ y → ins[y]? = some i → a y = stepW i (b y) ∧ ∀ x ∈ behindOf ins y, ∀ q, q < k → b x q ||| a y q = b x q

/-- Between two steps of a sweep that began at b0: what lies from j on is done. -/
def SwI (T RA RB k : Nat) (c : Cod) (W3 : World) (b0 : Nat → Nat → Nat) (s8 s9 : Value) (wr : World) : Prop :=
  ∃ (j : Nat) (ch : Bool) (a b : Nat → Nat → Nat), j ≤ c.ins.length ∧ s9 = .int .i64 ((j : Int) - 1) ∧ s8 = .bool ch ∧ TabI wr T RA RB k c a b ∧ Sound c.ins b ∧ (∀ x j, b x j < 18446744073709551616) ∧ Ext (FixM RA RB c.ins.length) W3 wr ∧
    roomOf c.ins.length k b ≤ roomOf c.ins.length k b0 ∧ (ch = true → roomOf c.ins.length k b < roomOf c.ins.length k b0) ∧ (ch = false → b = b0 ∧ ClosedFrom c.ins k j a b)

/-- Between two joins of the step at j: q of what leads there have it. -/
def JnI (T RA RB k : Nat) (c : Cod) (W3 : World) (b0 a : Nat → Nat → Nat) (j : Nat) (s8 s46 : Value) (wr : World) : Prop :=
  ∃ (q : Nat) (ch : Bool) (b : Nat → Nat → Nat), q ≤ (behindOf c.ins j).length ∧ s46 = .int .i64 (q : Int) ∧ s8 = .bool ch ∧ TabI wr T RA RB k c a b ∧ Sound c.ins b ∧ (∀ x j, b x j < 18446744073709551616) ∧ Ext (FixM RA RB c.ins.length) W3 wr ∧
    roomOf c.ins.length k b ≤ roomOf c.ins.length k b0 ∧ (ch = true → roomOf c.ins.length k b < roomOf c.ins.length k b0) ∧ (ch = false → b = b0 ∧ (∀ i, c.ins[j]? = some i → a j = stepW i (b0 j)) ∧ ClosedFrom c.ins k (j + 1) a b ∧ ∀ x ∈ (behindOf c.ins j).take q, ∀ p, p < k → b x p ||| a j p = b x p)

theorem popc_zero : ∀ (n x : Nat), x < 2 ^ n → popc x n = 0 → x = 0
  | 0, x, h, _ => by simpa using h
  | n + 1, x, h, h0 => by
    unfold popc at h0
    simp only [bitsR, List.sum_cons] at h0
    have h1 := popc_zero n (x / 2) (by rw [Nat.pow_succ] at h; omega) (by unfold popc; omega)
    omega

theorem countOf_zero {f : Nat → Nat} (hf : ∀ i, f i < 18446744073709551616) : ∀ (n : Nat), countOf n f = 0 → ∀ i, i < n → f i = 0
  | 0, _, i, hi => by omega
  | n + 1, h, i, hi => by
    rw [countOf_succ] at h
    by_cases e : i = n
    · subst e; exact popc_zero 64 _ (hf _) (by omega)
    · exact countOf_zero hf n (by omega) i (by omega)

/-- Behind a step that has nothing. -/
theorem SwI.skip {T RA RB k j : Nat} {c : Cod} {W3 w2 : World} {a b b0 : Nat → Nat → Nat} {ch : Bool} {i : Ins} (hi : c.ins[j]? = some i) (h0 : countOf k (stepW i (b j)) = 0) (ht : TabI w2 T RA RB k c (fun y => if y = j then stepW i (b j) else a y) b) (hs : Sound c.ins b) (hb : ∀ x j, b x j < 18446744073709551616) (hx : Ext (FixM RA RB c.ins.length) W3 w2)
    (hr : roomOf c.ins.length k b ≤ roomOf c.ins.length k b0) (hc1 : ch = true → roomOf c.ins.length k b < roomOf c.ins.length k b0) (hc2 : ch = false → b = b0 ∧ ClosedFrom c.ins k (j + 1) a b) : SwI T RA RB k c W3 b0 (.bool ch) (.int .i64 ((j : Int) - 1)) w2 := by
  refine ⟨j, ch, _, b, Nat.le_of_lt (List.getElem?_eq_some_iff.1 hi).1, rfl, rfl, ht, hs, hb, hx, hr, hc1, fun h => ⟨(hc2 h).1, fun y i' hy hi' => ?_⟩⟩
  by_cases e : y = j
  · subst e
    rw [hi] at hi'
    obtain rfl := Option.some.inj hi'
    simp only [if_pos]
    exact ⟨trivial, fun x _ q hq => by rw [countOf_zero (stepW_lt i (hb y)) k h0 q hq, Nat.or_zero]⟩
  · simp only [if_neg e]
    exact (hc2 h).2 y i' (by omega) hi'

/-- .. and that has something, all joined. -/
theorem JnI.done {T RA RB k j : Nat} {c : Cod} {W3 wr : World} {a b0 : Nat → Nat → Nat} {s8 : Value} {i : Ins} (hi : c.ins[j]? = some i) (h : JnI T RA RB k c W3 b0 a j s8 (.int .i64 ((behindOf c.ins j).length : Int)) wr) : SwI T RA RB k c W3 b0 s8 (.int .i64 ((j : Int) - 1)) wr := by
  obtain ⟨q, ch, b, hq, e1, rfl, ht, hs, hb, hx, hr, hc1, hc2⟩ := h
  have hqe : q = (behindOf c.ins j).length := by simp at e1; omega
  subst hqe
  refine ⟨j, ch, a, b, Nat.le_of_lt (List.getElem?_eq_some_iff.1 hi).1, rfl, rfl, ht, hs, hb, hx, hr, hc1, fun h => ?_⟩
  obtain ⟨e, ha, h1, h2⟩ := hc2 h
  rw [List.take_length] at h2
  refine ⟨e, fun y i' hy hi' => ?_⟩
  by_cases e' : y = j
  · subst e'
    rw [hi] at hi'
    obtain rfl := Option.some.inj hi'
    exact ⟨by rw [ha _ hi, e], h2⟩
  · exact h1 y i' (by omega) hi'

/-- A sweep in which nothing turned. -/
theorem SwI.final {T RA RB : Nat} {c : Cod} {W3 wr : World} {b0 : Nat → Nat → Nat} {s9 : Value} (hf : Fits c.ins c.nvars) (h : SwI T RA RB ((c.nvars + 63) / 64) c W3 b0 (.bool false) s9 wr) (h9 : s9 = .int .i64 (-1)) : ∃ a b, TabOk wr T RA RB c a b := by
  obtain ⟨j, ch, a, b, hj, e9, e8, ht, hs, hb, hx, hr, hc1, hc2⟩ := h
  rw [h9] at e9
  have hj0 : j = 0 := by simp at e9; omega
  subst hj0
  obtain ⟨e, hcl⟩ := hc2 (by simpa using e8.symm)
  have ha : ∀ y i, c.ins[y]? = some i → a y = stepW i (b y) := fun y i hi => (hcl y i (Nat.zero_le _) hi).1
  refine ⟨a, b, ht, fun x j hx => ?_, hb, ?_, hs⟩
  · rw [ha x _ (List.getElem?_eq_getElem hx)]; exact stepW_lt _ (hb x) j
  · exact fix_of (by omega) hf hs (fun y i hi q _ => by rw [ha y i hi]) (fun y x hy hx' => (hcl y _ (Nat.zero_le _) (List.getElem?_eq_getElem hy)).2 x hx')
/-- The first join of a step. -/
theorem JnI.start {T RA RB k j : Nat} {c : Cod} {W3 w2 : World} {a b b0 : Nat → Nat → Nat} {ch : Bool} {i : Ins} (hi : c.ins[j]? = some i) (ht : TabI w2 T RA RB k c (fun y => if y = j then stepW i (b j) else a y) b) (hs : Sound c.ins b) (hb : ∀ x j, b x j < 18446744073709551616) (hx : Ext (FixM RA RB c.ins.length) W3 w2)
    (hr : roomOf c.ins.length k b ≤ roomOf c.ins.length k b0) (hc1 : ch = true → roomOf c.ins.length k b < roomOf c.ins.length k b0) (hc2 : ch = false → b = b0 ∧ ClosedFrom c.ins k (j + 1) a b) : JnI T RA RB k c W3 b0 (fun y => if y = j then stepW i (b j) else a y) j (.bool ch) (.int .i64 0) w2 := by
  refine ⟨0, ch, b, Nat.zero_le _, rfl, rfl, ht, hs, hb, hx, hr, hc1, fun h => ?_⟩
  obtain ⟨e, h1⟩ := hc2 h
  refine ⟨e, fun i' hi' => ?_, fun y i' hy hi' => ?_, by simp⟩
  · rw [hi] at hi'
    obtain rfl := Option.some.inj hi'
    simp only [if_pos, e]
  · simp only [if_neg (show y ≠ j by omega)]
    exact h1 y i' hy hi'

/-- One join more. -/
theorem JnI.next {T RA RB k j x q : Nat} {c : Cod} {W3 wr w2 : World} {a b b0 bs : Nat → Nat → Nat} {ch : Bool} {i : Ins} {nv : Nat} (hf : Fits c.ins nv) (hi : c.ins[j]? = some i) (ha : a j = stepW i (bs j)) (hsb : Sound c.ins bs) (hbs : ∀ x j, bs x j < 18446744073709551616)
    (hq : (behindOf c.ins j)[q]? = some x) (ht : TabI wr T RA RB k c a b) (hs : Sound c.ins b) (hb : ∀ x j, b x j < 18446744073709551616) (hx : Ext (FixM RA RB c.ins.length) W3 wr)
    (hr : roomOf c.ins.length k b ≤ roomOf c.ins.length k b0) (hc1 : ch = true → roomOf c.ins.length k b < roomOf c.ins.length k b0)
    (hc2 : ch = false → b = b0 ∧ (∀ i, c.ins[j]? = some i → a j = stepW i (b0 j)) ∧ ClosedFrom c.ins k (j + 1) a b ∧ ∀ x ∈ (behindOf c.ins j).take q, ∀ p, p < k → b x p ||| a j p = b x p)
    (hrow : RowW w2 (RB + 1 + x) k (orsOf (b x) (a j) k)) (hx2 : Ext (· = RB + 1 + x) wr w2) : JnI T RA RB k c W3 b0 a j (.bool (anyNew (b x) (a j) k || ch)) (.int .i64 ((q : Int) + 1)) w2 := by
  have hlt : ∀ p, a j p < 18446744073709551616 := by rw [ha]; exact stepW_lt i (hbs j)
  have hmem := List.mem_of_getElem? hq
  have hxn : x < c.ins.length := ((mem_behindOf c.ins x j).1 hmem).1
  have hrm := room_join (n := c.ins.length) (k := k) (x := x) (b := b) (g := a j) hb hlt hxn
  have hql : q < (behindOf c.ins j).length := (List.getElem?_eq_some_iff.1 hq).1
  have hje : (fun y => if y = x then orsOf (b x) (a j) k else b y) = joinR b x (a j) k := rfl
  refine ⟨q + 1, _, joinR b x (a j) k, by omega, by simp, rfl, by rw [← hje]; exact ht.grow hxn hrow hx2, ?_, ?_, ?_, Nat.le_trans hrm.1 hr, fun h => ?_, fun h => ?_⟩
  · rw [ha]; exact sound_join hf hs hi hmem hsb
  · intro y p
    unfold joinR
    split
    · exact orsOf_lt (hb x) hlt k p
    · exact hb y p
  · exact hx.trans hx2 (fun p hp => .inl (by unfold FixM; omega))
  · rcases Bool.or_eq_true _ _ ▸ h with h | h
    · exact Nat.lt_of_lt_of_le (hrm.2 h) hr
    · exact Nat.lt_of_le_of_lt hrm.1 (hc1 h)
  · have h1 : anyNew (b x) (a j) k = false := by revert h; cases anyNew (b x) (a j) k <;> simp
    have h2 : ch = false := by revert h; cases ch <;> simp
    have hsame : joinR b x (a j) k = b := by
      funext y
      unfold joinR
      split
      · rename_i e; subst e; exact orsOf_same (hb _) hlt h1
      · rfl
    rw [hsame]
    obtain ⟨e1, e2, e3, e4⟩ := hc2 h2
    refine ⟨e1, e2, e3, fun y hy p hp => ?_⟩
    rw [List.take_add_one, hq] at hy
    rcases List.mem_append.1 hy with hy | hy
    · exact e4 y hy p hp
    · simp at hy; subst hy
      exact (anyNew_iff (hb _) hlt k).1 h1 p hp
end Go.Proofs.YtpbkkajgcdahcaaDoor
