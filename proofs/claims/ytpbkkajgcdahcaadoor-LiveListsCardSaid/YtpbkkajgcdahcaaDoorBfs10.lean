/- The reference's search for what is asked, in plain words. -/
import Derived.Test.YtpbkkajgcdahcaaDoorFix
import Derived.Test.YtpbkkajgcdahcaaDoorLite
namespace Go.Proofs.YtpbkkajgcdahcaaDoor

theorem todoStep_all {succ : Nat → List Nat} {Pd : Nat → Prop} {n : Nat} (ys : List Nat) : ∀ (t : List Nat), t.Nodup → (∀ x ∈ t, x < n) → (∀ x ∈ t, Pd x) → (∀ y ∈ ys, y < n ∧ Pd y) → t.length + unmet n t ≤ n →
    (todoStep t ys).Nodup ∧ (∀ x ∈ todoStep t ys, x < n) ∧ (∀ x ∈ todoStep t ys, Pd x) ∧ (∀ y ∈ ys, y ∈ todoStep t ys) ∧ t <+: todoStep t ys ∧ (todoStep t ys).length + unmet n (todoStep t ys) ≤ n := by
  induction ys with
  | nil => intro t h1 h2 h3 _ h5; exact ⟨h1, h2, h3, by simp, List.prefix_rfl, h5⟩
  | cons y ys ih =>
    intro t h1 h2 h3 h4 h5
    have e : todoStep t (y :: ys) = todoStep (if y ∈ t then t else t ++ [y]) ys := rfl
    rw [e]
    by_cases hy : y ∈ t
    · rw [if_pos hy]
      obtain ⟨q1, q2, q3, q4, q5, q6⟩ := ih t h1 h2 h3 (fun z hz => h4 z (List.mem_cons_of_mem _ hz)) h5
      refine ⟨q1, q2, q3, fun z hz => ?_, q5, q6⟩
      rcases List.mem_cons.1 hz with rfl | hz
      · exact q5.subset hy
      · exact q4 z hz
    · rw [if_neg hy]
      have hyn := h4 y (by simp)
      have hu := unmet_snoc hyn.1 hy
      obtain ⟨q1, q2, q3, q4, q5, q6⟩ := ih (t ++ [y]) (by
          rw [List.nodup_append]
          exact ⟨h1, by simp, by intro z hz u hu; simp at hu; subst hu; intro e; subst e; exact hy hz⟩)
        (by intro x hx; rcases List.mem_append.1 hx with hx | hx; exact h2 x hx; simp at hx; subst hx; exact hyn.1)
        (by intro x hx; rcases List.mem_append.1 hx with hx | hx; exact h3 x hx; simp at hx; subst hx; exact hyn.2)
        (fun z hz => h4 z (List.mem_cons_of_mem _ hz)) (by simp; omega)
      refine ⟨q1, q2, q3, fun z hz => ?_, (List.prefix_append t [y]).trans q5, q6⟩
      rcases List.mem_cons.1 hz with rfl | hz
      · exact q5.subset (by simp)
      · exact q4 z hz

theorem bfs_all {succ : Nat → List Nat} {Pd : Nat → Prop} {n : Nat} (hP : ∀ x y, Pd x → y ∈ succ x → y < n ∧ Pd y) : ∀ (k : Nat) (t : List Nat) (i : Nat), n ≤ k + i → i ≤ t.length → t.Nodup → (∀ x ∈ t, x < n) → (∀ x ∈ t, Pd x) → t.length + unmet n t ≤ n →
    (∀ x ∈ t.take i, ∀ y ∈ succ x, y ∈ t) → ∃ T, bfs succ (k + 1) t i = some T ∧ (∀ x ∈ T, x < n) ∧ (∀ x ∈ T, Pd x) ∧ (∀ x ∈ T, ∀ y ∈ succ x, y ∈ T) ∧ t <+: T ∧ T.length ≤ n
  | k, t, i, hk, hi, h1, h2, h3, h5, h6 => by
    by_cases h : i < t.length
    · have hx : t[i]? = some t[i] := List.getElem?_eq_getElem h
      have hmem : t[i] ∈ t := List.getElem_mem h
      cases k with
      | zero => omega
      | succ k =>
        obtain ⟨q1, q2, q3, q4, q5, q6⟩ := todoStep_all (succ := succ) (Pd := Pd) (n := n) (succ t[i]) t h1 h2 h3 (fun y hy => hP _ _ (h3 _ hmem) hy) h5
        have hlen := q5.length_le
        obtain ⟨T, r1, r2, r3, r4, r5, r6⟩ := bfs_all hP k (todoStep t (succ t[i])) (i + 1) (by omega) (by omega) q1 q2 q3 q6 (by
          intro x hx' y hy
          obtain ⟨s, hs⟩ := q5
          rw [← hs, List.take_append_of_le_length (by omega), List.take_add_one, hx] at hx'
          rcases List.mem_append.1 hx' with h' | h'
          · rw [← hs]; exact List.mem_append.2 (.inl (h6 x h' y hy))
          · simp at h'; subst h'; exact q4 y hy)
        exact ⟨T, by rw [bfs, hx]; exact r1, r2, r3, r4, q5.trans r5, r6⟩
    · have hx : t[i]? = none := List.getElem?_eq_none (by omega)
      have ht : t.take i = t := List.take_of_length_le (by omega)
      rw [ht] at h6
      exact ⟨t, by rw [bfs, hx], h2, h3, h6, List.prefix_rfl, by omega⟩

/-- Does an instruction not write v? -/
def keeps (ins : List Ins) (v y : Nat) : Bool := match ins[y]? with
  | none => false
  | some i => !((writesOf i).2 && ((writesOf i).1 == (v : Int)))

def reads10 (ins : List Ins) (v y : Nat) : Bool := match ins[y]? with
  | none => false
  | some i => decide ((v : Int) ∈ readsOf i)

def succ10 (ins : List Ins) (v x : Nat) : List Nat := (behindOf ins x).filter (keeps ins v)
def start10 (ins : List Ins) (v j : Nat) : List Nat := (List.range j).filter (reads10 ins v)

theorem unmet_start {n : Nat} (p : Nat → Bool) : ((List.range n).filter p).length + unmet n ((List.range n).filter p) ≤ n := by
  unfold unmet
  have h : ∀ (l : List Nat) (q r : Nat → Bool), (∀ x ∈ l, r x = true → q x = false) → (l.filter q).length + (l.filter r).length ≤ l.length := by
    intro l q r
    induction l with
    | nil => simp
    | cons x l ih =>
      intro hh
      have := ih (fun y hy => hh y (List.mem_cons_of_mem _ hy))
      have hx := hh x (by simp)
      rw [List.filter_cons, List.filter_cons]
      cases hq : q x <;> cases hr : r x <;> simp_all <;> omega
  have := h (List.range n) p (fun x => decide (x ∉ (List.range n).filter p)) (by
    intro x hx hr
    have hr' := of_decide_eq_true hr
    cases hp : p x with
    | false => rfl
    | true => exact absurd (List.mem_filter.2 ⟨hx, hp⟩) hr')
  simpa using this

/-- The search ends, and has what is asked. -/
theorem bfs10 (ins : List Ins) (v : Nat) : ∃ T, bfs (succ10 ins v) (ins.length + 1) (start10 ins v ins.length) 0 = some T ∧ (∀ x, x ∈ T ↔ Asked ins v x) ∧ T.length ≤ ins.length ∧ ∀ x ∈ T, x < ins.length := by
  obtain ⟨T, h, h2, h3, h4, h5, h6⟩ := bfs_all (succ := succ10 ins v) (Pd := Asked ins v) (n := ins.length) (by
      intro x y hx hy
      obtain ⟨h1, h2⟩ := List.mem_filter.1 hy
      obtain ⟨h3, h4⟩ := (mem_behindOf ins y x).1 h1
      refine ⟨h3, ?_⟩
      obtain ⟨i, hi⟩ : ∃ i, ins[y]? = some i := ⟨_, List.getElem?_eq_getElem h3⟩
      refine .pass hi (fun ⟨a, b⟩ => ?_) h4 hx
      unfold keeps at h2
      rw [hi] at h2
      simp [a, b] at h2) ins.length (start10 ins v ins.length) 0 (by omega) (Nat.zero_le _) (List.nodup_range.filter _) (by intro x hx; have := (List.mem_filter.1 hx).1; simpa using this) (by
      intro x hx
      have := (List.mem_filter.1 hx).2
      unfold reads10 at this
      split at this
      · simp at this
      · rename_i i hi; exact .read hi (of_decide_eq_true this)) (unmet_start _) (by simp)
  refine ⟨T, h, fun x => ⟨h3 x, fun hx => ?_⟩, h6, h2⟩
  induction hx with
  | @read x i h1 h2 =>
    refine h5.subset (List.mem_filter.2 ⟨by simpa using (List.getElem?_eq_some_iff.1 h1).1, ?_⟩)
    unfold reads10; rw [h1]; exact decide_eq_true h2
  | @pass x y i h1 h2 h3 _ ih =>
    refine h4 _ ih x (List.mem_filter.2 ⟨(mem_behindOf ins x y).2 ⟨(List.getElem?_eq_some_iff.1 h1).1, h3⟩, ?_⟩)
    unfold keeps; rw [h1]
    cases hw : (writesOf i).2 with
    | false => simp [hw]
    | true => simp [hw]; exact fun e => h2 ⟨hw, e⟩

/-- Rows of numbers, read. -/
theorem RowsI.read {w : World} {R n : Nat} {rows : Nat → List Nat} (h : RowsI w R n (R + 1) (fun _ => False) rows) : R < w.heap.size ∧ ∀ y, y < n → ∃ ao cap, w.cell? ⟨R, y, none⟩ = some (.slice ao (rows y).length cap) ∧ ∀ (q z : Nat), (rows y)[q]? = some z → ∃ g, ao = some ⟨g, 0, none⟩ ∧ R < g ∧ g < w.heap.size ∧ w.cell? ⟨g, q, none⟩ = some (.int .i64 (z : Int)) := by
  obtain ⟨vals, _, v1, v2, _, v4, _⟩ := h
  refine ⟨(Array.getElem?_eq_some_iff.1 v2).1, fun y hy => ?_⟩
  obtain ⟨v, hv⟩ : ∃ v, vals[y]? = some v := ⟨_, Array.getElem?_eq_getElem (by omega)⟩
  have ho := v4 y v hv
  obtain ⟨ao, cap, rfl⟩ := ho.isSlice
  have hl : (ints (rows y)).length = (rows y).length := by simp [ints]
  refine ⟨ao, cap, by rw [cell_of_row _ _ _ _ _ _ v2, hv, hl], fun q z hz => ?_⟩
  obtain ⟨g, e, h1, h2, h3⟩ := ho.shape (by rw [hl]; have := (List.getElem?_eq_some_iff.1 hz).1; omega)
  exact ⟨g, e, by omega, h2, h3 q z (by simp [ints, hz])⟩
end Go.Proofs.YtpbkkajgcdahcaaDoor
