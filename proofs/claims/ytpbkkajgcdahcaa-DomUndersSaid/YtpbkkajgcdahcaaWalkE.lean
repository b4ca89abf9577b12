/- A walk through a code, as deep as it can: the first place, the top of the stack, what is left there, the way back. -/
import Derived.Test.YtpbkkajgcdahcaaEnter
namespace Go.Proofs.Ytpbkkajgcdahcaa
open Go.RowKit

/-- The walk's memory as it is laid. -/
def walkW (c : Cod) (met : Value) (w : World) : World :=
  ((((w.alloc (.cells c.cells 30)).alloc (.cells #[met] 81)).alloc (.cells (List.replicate c.ins.length (.bool false)).toArray 4)).alloc
    (.cells #[.slice (some ⟨w.heap.size + 2, 0, none⟩) c.ins.length c.ins.length] 34)).alloc (.cells #[.slice none 0 0] 104)

theorem walkW_ext (c : Cod) (met : Value) (w : World) : Ext (fun _ => False) w (walkW c met w) :=
  (((((Ext.refl _ w).alloc _).alloc _).alloc _).alloc _).alloc _

theorem walkW_size (c : Cod) (met : Value) (w : World) : (walkW c met w).heap.size = w.heap.size + 5 := by simp [walkW]

theorem WS.start {c : Cod} {w : World} (met : Value) (h : InsRow w w.heap.size c.insA c.ins) : WS c met w.heap.size (fun k => w.heap.size ≤ k ∧ k < w.heap.size + 5) [] [] (walkW c met w) := by
  have hs := walkW_size c met w
  refine ⟨fun k hk => hk.1, fun k hk => by omega, fun j hj => ⟨by omega, by omega⟩, h.ext (walkW_ext c met w) (Nat.le_refl _) (fun _ _ _ h => h), ?_, ?_, ?_, ?_, ?_, fun _ h => by simp at h⟩
  · unfold walkW
    rw [Below.heap_alloc _ _ _ (by simp; omega), Below.heap_alloc _ _ _ (by simp; omega), Below.heap_alloc _ _ _ (by simp; omega), Below.heap_alloc _ _ _ (by simp)]
    exact alloc_at _ _
  · unfold walkW
    rw [Below.heap_alloc _ _ _ (by simp), Below.heap_alloc _ _ _ (by simp), Below.heap_alloc _ _ _ (by simp)]
    have := alloc_at (w.alloc (.cells c.cells 30)) (.cells #[met] 81)
    rwa [World.size_alloc] at this
  · unfold walkW
    rw [Below.heap_alloc _ _ _ (by simp), Below.heap_alloc _ _ _ (by simp), seenCells_nil]
    have := alloc_at ((w.alloc (.cells c.cells 30)).alloc (.cells #[met] 81)) (.cells (List.replicate c.ins.length (.bool false)).toArray 4)
    rwa [World.size_alloc, World.size_alloc] at this
  · unfold walkW
    rw [Below.heap_alloc _ _ _ (by simp)]
    have := alloc_at (((w.alloc (.cells c.cells 30)).alloc (.cells #[met] 81)).alloc (.cells (List.replicate c.ins.length (.bool false)).toArray 4))
      (.cells #[.slice (some ⟨w.heap.size + 2, 0, none⟩) c.ins.length c.ins.length] 34)
    rwa [World.size_alloc, World.size_alloc, World.size_alloc] at this
  · refine ⟨.slice none 0 0, ?_, ⟨rfl, .inl ⟨rfl, rfl⟩⟩, fun k hk => by simp [Value.ownBlock] at hk⟩
    unfold walkW
    have := alloc_at ((((w.alloc (.cells c.cells 30)).alloc (.cells #[met] 81)).alloc (.cells (List.replicate c.ins.length (.bool false)).toArray 4)).alloc
      (.cells #[.slice (some ⟨w.heap.size + 2, 0, none⟩) c.ins.length c.ins.length] 34)) (.cells #[.slice none 0 0] 104)
    rwa [World.size_alloc, World.size_alloc, World.size_alloc, World.size_alloc] at this

/-- The stack where it has a top: g is its block. -/
def Top (N0 : Nat) (D : Nat → Prop) (es : List Ent) (W : World) (g cap : Nat) : Prop :=
  ∃ cur, W.heap[N0 + 4]? = some (.cells #[.slice (some ⟨g, 0, none⟩) es.length cap] 104 (0, 0)) ∧ D g ∧ N0 + 5 ≤ g ∧ W.heap[g]? = some (.cells cur 106 (0, 0)) ∧ es.length ≤ cap ∧ cap ≤ maxLen ∧ cur.size = cap * 2 ∧ cur.toList.take (es.length * 2) = entCells es

theorem WS.top {c : Cod} {met : Value} {N0 : Nat} {D : Nat → Prop} {es : List Ent} {m : List Nat} {W : World} (h : WS c met N0 D es m W) (hne : es ≠ []) : ∃ g cap, Top N0 D es W g cap := by
  obtain ⟨sv, h1, h2, h3⟩ := h.stk
  rcases h2.2 with ⟨_, h'⟩ | ⟨g, cap, cur, e1, e2, e3, e4, e5, e6, e7⟩
  · exact absurd (List.eq_nil_of_length_eq_zero h') hne
  · subst e1
    exact ⟨g, cap, cur, h1, h3 g rfl, e2, e3, e4, e5, e6, e7⟩

theorem Top.ext {N0 : Nat} {D M : Nat → Prop} {es : List Ent} {W W' : World} {g cap : Nat} (h : Top N0 D es W g cap) (hx : Ext M W W') (hD : ∀ k, D k → ¬ M k) (h4 : D (N0 + 4)) : Top N0 D es W' g cap := by
  obtain ⟨cur, t1, t2, t3, t4, t5⟩ := h
  exact ⟨cur, hx.heap t1 (hD _ h4), t2, t3, hx.heap t4 (hD _ t2), t5⟩

theorem entCells_top (e : Ent) (es : List Ent) : (entCells (e :: es))[es.length * 2]? = some (.int .i64 (e.at_ : Int)) ∧ (entCells (e :: es))[es.length * 2 + 1]? = some (.slice e.ao e.rest.length e.cap) := by
  rw [entCells_cons, List.getElem?_append_right (by rw [entCells_length]; omega), List.getElem?_append_right (by rw [entCells_length]; omega), entCells_length]
  simp

theorem Top.cells {N0 : Nat} {D : Nat → Prop} {e : Ent} {es : List Ent} {W : World} {g cap : Nat} (h : Top N0 D (e :: es) W g cap) :
    W.cell? ⟨N0 + 4, 0, none⟩ = some (.slice (some ⟨g, 0, none⟩) (es.length + 1) cap) ∧ W.frozen? ⟨N0 + 4, 0, none⟩ = false ∧ W.cell? ⟨g, es.length * 2, none⟩ = some (.int .i64 (e.at_ : Int)) ∧ W.cell? ⟨g, es.length * 2 + 1, none⟩ = some (.slice e.ao e.rest.length e.cap) ∧
      W.frozen? ⟨g, es.length * 2 + 1, none⟩ = false := by
  obtain ⟨cur, h1, h2, h3, h4, h5, h6, h7, h8⟩ := h
  have q := entCells_top e es
  have hl : (e :: es).length = es.length + 1 := rfl
  rw [← h8, List.getElem?_take, List.getElem?_take, if_pos (by rw [hl]; omega), if_pos (by rw [hl]; omega)] at q
  refine ⟨?_, frozen_of_row _ _ _ _ _ h1, ?_, ?_, frozen_of_row _ _ _ _ _ h4⟩
  · rw [cell_of_row _ _ _ _ _ _ h1]; rfl
  · rw [cell_of_row _ _ _ _ _ _ h4]; simpa using q.1
  · rw [cell_of_row _ _ _ _ _ _ h4]; simpa using q.2

theorem Top.setTop {N0 : Nat} {D : Nat → Prop} {e e' : Ent} {es : List Ent} {W : World} {g cap : Nat} (h : Top N0 D (e :: es) W g cap) (ha : e'.at_ = e.at_) :
    Top N0 D (e' :: es) (W.setCell ⟨g, es.length * 2 + 1, none⟩ (.slice e'.ao e'.rest.length e'.cap)) g cap := by
  obtain ⟨cur, h1, h2, h3, h4, h5, h6, h7, h8⟩ := h
  have hl : (e :: es).length = es.length + 1 := rfl
  rw [hl] at h1 h5 h8
  refine ⟨_, (Below.heap_setCell _ _ _ (N0 + 4) (by show N0 + 4 ≠ g; omega)).trans h1, h2, h3, heap_setCell_same _ _ _ _ _ _ h4, h5, h6, by simpa using h7, ?_⟩
  show List.take ((es.length + 1) * 2) (cur.setIfInBounds (es.length * 2 + 1) _).toList = _
  rw [entCells_cons]
  rw [entCells_cons] at h8
  have hc : (es.length + 1) * 2 ≤ cur.toList.length := by simp; omega
  apply List.ext_getElem?
  intro i
  rw [List.getElem?_take, Array.toList_setIfInBounds, List.getElem?_set]
  have q : ∀ i, i < (es.length + 1) * 2 → cur.toList[i]? = (entCells es ++ [Value.int .i64 (e.at_ : Int), Value.slice e.ao e.rest.length e.cap])[i]? := by
    intro i hi
    rw [← h8, List.getElem?_take, if_pos hi]
  have hel := entCells_length es
  by_cases hi : i < (es.length + 1) * 2
  · rw [if_pos hi]
    by_cases hi2 : es.length * 2 + 1 = i
    · subst hi2
      rw [if_pos rfl, if_pos (by omega), List.getElem?_append_right (by omega), hel]
      simp
    · rw [if_neg hi2, q i hi]
      by_cases hi3 : i < es.length * 2
      · rw [List.getElem?_append_left (by omega), List.getElem?_append_left (by omega)]
      · have : i = es.length * 2 := by omega
        subst this
        rw [List.getElem?_append_right (by omega), List.getElem?_append_right (by omega), hel]
        simp [ha]
  · rw [if_neg hi]
    symm
    apply List.getElem?_eq_none
    simp [hel]; omega

theorem WS.pop1 {c : Cod} {met : Value} {N0 : Nat} {D : Nat → Prop} {a y : Nat} {r : List Nat} {ao : Option Addr} {cp : Nat} {es : List Ent} {m : List Nat} {W : World} {g cap b off : Nat} (h : WS c met N0 D (⟨a, y :: r, ao, cp⟩ :: es) m W) (ht : Top N0 D (⟨a, y :: r, ao, cp⟩ :: es) W g cap)
    (hao : ao = some ⟨b, off, none⟩) {ao' : Option Addr} (hao' : r ≠ [] → ao' = some ⟨b, off + 1, none⟩) :
    WS c met N0 D (⟨a, r, ao', cp - 1⟩ :: es) m (W.setCell ⟨g, es.length * 2 + 1, none⟩ (.slice ao' r.length (cp - 1))) ∧
      Top N0 D (⟨a, r, ao', cp - 1⟩ :: es) (W.setCell ⟨g, es.length * 2 + 1, none⟩ (.slice ao' r.length (cp - 1))) g cap ∧
      Ext D W (W.setCell ⟨g, es.length * 2 + 1, none⟩ (.slice ao' r.length (cp - 1))) := by
  have ht' : Top N0 D (⟨a, r, ao', cp - 1⟩ :: es) (W.setCell ⟨g, es.length * 2 + 1, none⟩ (.slice ao' r.length (cp - 1))) g cap := ht.setTop (e' := ⟨a, r, ao', cp - 1⟩) rfl
  have hx : Ext (· = g) W (W.setCell ⟨g, es.length * 2 + 1, none⟩ (.slice ao' r.length (cp - 1))) := Ext.set1 _ _ _ _
  obtain ⟨cur, t1, t2, t3, t4, t5, t6, t7, t8⟩ := ht
  obtain ⟨cur', u1, u2, u3, u4, u5, u6, u7, u8⟩ := ht'
  have hg5 : ∀ j, j < 5 → ¬ (N0 + j = g) := fun j hj => by omega
  have hsz := h.hi _ (h.dB 0 (by omega))
  have hint : ∀ (b : Nat) (cu : Array Value), D b → W.heap[b]? = some (.cells cu 3 (0, 0)) → ¬ (b = g) := by
    intro b cu _ hb e
    rw [e] at hb
    have := t4.symm.trans hb; simp at this
  refine ⟨⟨h.lo, fun k hk => by rw [World.size_setCell]; exact h.hi k hk, h.dB, h.ins.ext hx (by omega) ?_, hx.heap h.code (hg5 0 (by omega)), hx.heap h.metb (hg5 1 (by omega)), hx.heap h.seen (hg5 2 (by omega)), hx.heap h.seenv (hg5 3 (by omega)),
    ⟨_, u1, ⟨by rw [entCells_length], .inr ⟨g, cap, cur', rfl, u3, u4, u5, u6, u7, u8⟩⟩, fun k hk => by simp [Value.ownBlock] at hk; rw [← hk]; exact u2⟩, ?_⟩, ⟨cur', u1, u2, u3, u4, u5, u6, u7, u8⟩, hx.mono (fun k hk => by rw [hk]; exact u2)⟩
  · intro q hne hq e
    obtain ⟨b', off', e1, e2, _⟩ := h.ins hne
    rw [hq] at e1
    obtain rfl := Option.some.inj e1
    simp at e; omega
  · intro e he
    rcases List.mem_cons.1 he with rfl | he
    · obtain ⟨hc, hr⟩ := h.rests _ (List.mem_cons_self)
      obtain ⟨b', off', cu, q1, q2, q3, q4⟩ := hr (by simp)
      simp only at q1 hc
      rw [hao] at q1
      simp only [Option.some.injEq, Addr.mk.injEq] at q1
      obtain ⟨rfl, rfl, _⟩ := q1
      refine ⟨by simp at hc ⊢; omega, fun hr0 => ⟨b, off + 1, cu, hao' (by rintro rfl; simp at hr0), q2, hx.heap q3 (hint b cu q2 q3), fun k z hk => ?_⟩⟩
      have := q4 (k + 1) z (by simpa using hk)
      rw [Nat.add_assoc, Nat.add_comm 1 k]; exact this
    · exact ⟨(h.rests e (List.mem_cons_of_mem _ he)).1, (h.rests e (List.mem_cons_of_mem _ he)).2.ext' hx (fun _ hk => hk) (fun b cu hb hcu => hint b cu hb hcu)⟩

theorem WS.pop {c : Cod} {met : Value} {N0 : Nat} {D : Nat → Prop} {e : Ent} {es : List Ent} {m : List Nat} {W : World} {g cap : Nat} (h : WS c met N0 D (e :: es) m W) (ht : Top N0 D (e :: es) W g cap) :
    WS c met N0 D es m (W.setCell ⟨N0 + 4, 0, none⟩ (.slice (some ⟨g, 0, none⟩) es.length cap)) ∧ Ext D W (W.setCell ⟨N0 + 4, 0, none⟩ (.slice (some ⟨g, 0, none⟩) es.length cap)) := by
  have hx : Ext (· = N0 + 4) W (W.setCell ⟨N0 + 4, 0, none⟩ (.slice (some ⟨g, 0, none⟩) es.length cap)) := Ext.set1 _ _ _ _
  obtain ⟨cur, t1, t2, t3, t4, t5, t6, t7, t8⟩ := ht
  have hl : (e :: es).length = es.length + 1 := rfl
  have hsz := h.hi _ (h.dB 0 (by omega))
  rw [hl] at t5 t8
  refine ⟨⟨h.lo, fun k hk => by rw [World.size_setCell]; exact h.hi k hk, h.dB, h.ins.ext hx (by omega) ?_, hx.heap h.code (by omega), hx.heap h.metb (by omega), hx.heap h.seen (by omega), hx.heap h.seenv (by omega),
    ⟨_, heap_setCell_same _ _ _ _ _ _ t1, ⟨by rw [entCells_length], .inr ⟨g, cap, cur, rfl, t3, hx.heap t4 (by omega), by omega, t6, t7, ?_⟩⟩, fun k hk => by simp [Value.ownBlock] at hk; rw [← hk]; exact t2⟩, ?_⟩, hx.mono (fun k hk => by rw [hk]; exact h.dB 4 (by omega))⟩
  · intro q hne hq e
    obtain ⟨b', off', e1, e2, _⟩ := h.ins hne
    rw [hq] at e1
    obtain rfl := Option.some.inj e1
    simp at e; omega
  · rw [entCells_cons] at t8
    have h9 := congrArg (List.take (es.length * 2)) t8
    rw [List.take_take, Nat.min_eq_left (by omega), List.take_append_of_le_length (by rw [entCells_length]; omega), List.take_of_length_le (l := entCells es) (by rw [entCells_length]; omega)] at h9
    exact h9
  · intro e' he
    refine ⟨(h.rests e' (List.mem_cons_of_mem _ he)).1, (h.rests e' (List.mem_cons_of_mem _ he)).2.ext' hx (fun _ hk => hk) (fun b cu _ hcu e => ?_)⟩
    rw [e] at hcu
    have := t1.symm.trans hcu; simp at this
end Go.Proofs.Ytpbkkajgcdahcaa
