/- A walk through a code, as deep as it can: the words. -/
import Derived.Test.YtpbkkajgcdahcaaLite
namespace Go.Proofs.Ytpbkkajgcdahcaa
open Go.RowKit

/-- One place of the walk's stack: an instruction, and the edges that are left there (with their slice's address and capacity). -/
structure Ent where
  at_ : Nat
  rest : List Nat
  ao : Option Addr
  cap : Nat

def Ent.key (e : Ent) : Nat × List Nat := (e.at_, e.rest)

/-- A walk as deep as it can: the stack, what was met, what was left; in so many steps at the most. -/
def wlk (succ : Nat → List Nat) : Nat → List (Nat × List Nat) → List Nat → List Nat → Option (List Nat × List Nat)
  | 0, _, _, _ => none
  | _ + 1, [], m, l => some (m, l)
  | k + 1, (a, []) :: st, m, l => wlk succ k st m (l ++ [a])
  | k + 1, (a, b :: r) :: st, m, l => if b ∈ m then wlk succ k ((a, r) :: st) m l else wlk succ k ((b, succ b) :: (a, r) :: st) (m ++ [b]) l

theorem wlk_prefix {succ : Nat → List Nat} {M L : List Nat} : ∀ (k : Nat) (st : List (Nat × List Nat)) (m l : List Nat), wlk succ k st m l = some (M, L) → m <+: M ∧ l <+: L
  | 0, _, _, _, h => by simp [wlk] at h
  | _ + 1, [], m, l, h => by simp [wlk] at h; obtain ⟨rfl, rfl⟩ := h; exact ⟨List.prefix_rfl, List.prefix_rfl⟩
  | k + 1, (a, []) :: st, m, l, h => by
    have ih := wlk_prefix k st m (l ++ [a]) (by simpa [wlk] using h)
    exact ⟨ih.1, (List.prefix_append l [a]).trans ih.2⟩
  | k + 1, (a, b :: r) :: st, m, l, h => by
    simp only [wlk] at h
    split at h
    · exact wlk_prefix k _ m l h
    · have ih := wlk_prefix k _ (m ++ [b]) l h
      exact ⟨(List.prefix_append m [b]).trans ih.1, ih.2⟩

def entCells (es : List Ent) : List Value := (es.reverse.map fun e => [Value.int .i64 (e.at_ : Int), Value.slice e.ao e.rest.length e.cap]).flatten

theorem entCells_cons (e : Ent) (es : List Ent) : entCells (e :: es) = entCells es ++ [Value.int .i64 (e.at_ : Int), Value.slice e.ao e.rest.length e.cap] := by
  simp [entCells]

theorem entCells_length (es : List Ent) : (entCells es).length = es.length * 2 := by
  induction es with
  | nil => rfl
  | cons e es ih => rw [entCells_cons]; simp [ih]; omega

/-- The cells of a slice of ints in a block of D. -/
def ReadD (D : Nat → Prop) (W : World) (ao : Option Addr) (xs : List Nat) : Prop :=
  0 < xs.length → ∃ b off cur, ao = some ⟨b, off, none⟩ ∧ D b ∧ W.heap[b]? = some (.cells cur 3 (0, 0)) ∧ ∀ (k y : Nat), xs[k]? = some y → cur[off + k]? = some (.int .i64 (y : Int))

/-- What the walk holds in memory: D are its blocks. -/
structure WS (c : Cod) (met : Value) (N0 : Nat) (D : Nat → Prop) (es : List Ent) (m : List Nat) (W : World) : Prop where
  lo : ∀ k, D k → N0 ≤ k
  hi : ∀ k, D k → k < W.heap.size
  dB : ∀ j, j < 5 → D (N0 + j)
  ins : InsRow W N0 c.insA c.ins
  code : W.heap[N0]? = some (.cells c.cells 30 (0, 0))
  metb : W.heap[N0 + 1]? = some (.cells #[met] 81 (0, 0))
  seen : W.heap[N0 + 2]? = some (.cells (seenCells c.ins.length m) 4 (0, 0))
  seenv : W.heap[N0 + 3]? = some (.cells #[.slice (some ⟨N0 + 2, 0, none⟩) c.ins.length c.ins.length] 34 (0, 0))
  stk : ∃ sv, W.heap[N0 + 4]? = some (.cells #[sv] 104 (0, 0)) ∧ W.ownsRow (N0 + 5) 106 2 sv es.length (entCells es) ∧ ∀ k, sv.ownBlock = some k → D k
  rests : ∀ e ∈ es, e.rest.length ≤ e.cap ∧ ReadD D W e.ao e.rest

theorem ReadD.ext {D D' M : Nat → Prop} {W W' : World} {ao : Option Addr} {xs : List Nat} (h : ReadD D W ao xs) (hx : Ext M W W') (hD : ∀ k, D k → D' k) (hM : ∀ k, D k → ¬ M k) : ReadD D' W' ao xs := by
  intro h0
  obtain ⟨b, off, cur, h1, h2, h3, h4⟩ := h h0
  exact ⟨b, off, cur, h1, hD b h2, hx.heap h3 (hM b h2), h4⟩

theorem WS.ext {c : Cod} {met : Value} {N0 : Nat} {D M : Nat → Prop} {es : List Ent} {m : List Nat} {W W' : World} (h : WS c met N0 D es m W) (hx : Ext M W W') (hD : ∀ k, D k → ¬ M k) (hM : ∀ a, c.ins ≠ [] → c.insA = some a → ¬ M a.block) : WS c met N0 D es m W' := by
  have hs := h.hi _ (h.dB 0 (by omega))
  refine ⟨h.lo, fun k hk => Nat.lt_of_lt_of_le (h.hi k hk) hx.size, h.dB, h.ins.ext hx (by omega) hM, hx.heap h.code (hD _ (h.dB 0 (by omega))), hx.heap h.metb (hD _ (h.dB 1 (by omega))), hx.heap h.seen (hD _ (h.dB 2 (by omega))), hx.heap h.seenv (hD _ (h.dB 3 (by omega))), ?_, fun e he => ⟨(h.rests e he).1, (h.rests e he).2.ext hx (fun _ h => h) hD⟩⟩
  obtain ⟨sv, h1, h2, h3⟩ := h.stk
  refine ⟨sv, hx.heap h1 (hD _ (h.dB 4 (by omega))), ⟨h2.1, ?_⟩, h3⟩
  rcases h2.2 with h' | ⟨g, cap, cur, e1, e2, e3, e4⟩
  · exact .inl h'
  · exact .inr ⟨g, cap, cur, e1, e2, hx.heap e3 (hD _ (h3 g (by rw [e1]; rfl))), e4⟩

theorem WS.mark {c : Cod} {met : Value} {N0 : Nat} {D : Nat → Prop} {es : List Ent} {m : List Nat} {W : World} (h : WS c met N0 D es m W) (x : Nat) : WS c met N0 D es (m ++ [x]) (W.setCell ⟨N0 + 2, x, none⟩ (.bool true)) := by
  have hx : Ext (· = N0 + 2) W (W.setCell ⟨N0 + 2, x, none⟩ (.bool true)) := Ext.set1 _ _ _ _
  refine ⟨h.lo, fun k hk => by rw [World.size_setCell]; exact h.hi k hk, h.dB, ?_, hx.heap h.code (by omega), hx.heap h.metb (by omega), ?_, hx.heap h.seenv (by omega), ?_, fun e he => ⟨(h.rests e he).1, ?_⟩⟩
  · intro hne
    obtain ⟨b, off, h1, h2, h3⟩ := h.ins hne
    exact ⟨b, off, h1, h2, fun i y hi k u hu => by rw [hx.cell (a := ⟨b, off + i * 13 + k, none⟩) (by show b < _; have := h.hi _ (h.dB 0 (by omega)); omega) (by show b ≠ _; omega)]; exact h3 i y hi k u hu⟩
  · rw [← seenCells_set]; exact heap_setCell_same _ _ _ _ _ _ h.seen
  · obtain ⟨sv, h1, h2, h3⟩ := h.stk
    refine ⟨sv, hx.heap h1 (by omega), ⟨h2.1, ?_⟩, h3⟩
    rcases h2.2 with h' | ⟨g, cap, cur, e1, e2, e3, e4⟩
    · exact .inl h'
    · exact .inr ⟨g, cap, cur, e1, e2, hx.heap e3 (by omega), e4⟩
  · intro h0
    obtain ⟨b, off, cur, h1, h2, h3, h4⟩ := (h.rests e he).2 h0
    refine ⟨b, off, cur, h1, h2, hx.heap h3 (fun e => ?_), h4⟩
    rw [e] at h3
    have := h.seen.symm.trans h3
    simp at this

theorem ReadD.ext' {D D' M : Nat → Prop} {W W' : World} {ao : Option Addr} {xs : List Nat} (h : ReadD D W ao xs) (hx : Ext M W W') (hD : ∀ k, D k → D' k) (hM : ∀ b cur, D b → W.heap[b]? = some (.cells cur 3 (0, 0)) → ¬ M b) : ReadD D' W' ao xs := by
  intro h0
  obtain ⟨b, off, cur, h1, h2, h3, h4⟩ := h h0
  exact ⟨b, off, cur, h1, hD b h2, hx.heap h3 (hM b cur h2 h3), h4⟩

/-- Behind the append of a new place onto the stack. -/
theorem WS.push {c : Cod} {met : Value} {N0 : Nat} {D : Nat → Prop} {es : List Ent} {m : List Nat} {W1 w2 w3 : World} {sv1 : Value} {x g cap cap3 : Nat} {ao : Option Addr} {xs : List Nat} {o : Obj} (h : WS c met N0 D es m W1)
    (hst : W1.heap[N0 + 4]? = some (.cells #[sv1] 104 (0, 0))) (hrow : W1.ownsRow (N0 + 5) 106 2 sv1 es.length (entCells es)) (hblk : ∀ k, sv1.ownBlock = some k → D k)
    (hb : Below W1.heap.size W1 w2) (hown : OwnI w2 W1.heap.size (.slice ao (ints xs).length cap) (ints xs)) (hg : (w2.alloc o).grownBy w3 sv1.ownBlock)
    (hown3 : w3.ownsRow (N0 + 5) 106 2 (.slice (some ⟨g, 0, none⟩) (es.length + 1) cap3) (es.length + 1) (entCells es ++ [.int .i64 (x : Int), .slice ao (ints xs).length cap]))
    (hat : sv1.ownBlock = some g ∨ g = (w2.alloc o).heap.size) (hlt : g < w3.heap.size) :
    WS c met N0 (fun k => D k ∨ (W1.heap.size ≤ k ∧ k < w3.heap.size)) (⟨x, xs, ao, cap⟩ :: es) m (w3.setCell ⟨N0 + 4, 0, none⟩ (.slice (some ⟨g, 0, none⟩) (es.length + 1) cap3)) ∧
      Ext D W1 (w3.setCell ⟨N0 + 4, 0, none⟩ (.slice (some ⟨g, 0, none⟩) (es.length + 1) cap3)) := by
  have hl4 : N0 + 4 < W1.heap.size := h.hi _ (h.dB 4 (by omega))
  have hob : ∀ k, sv1.ownBlock = some k → N0 + 5 ≤ k ∧ k < W1.heap.size := fun k hk => hrow.lt k hk
  have hx3 : Ext (fun k => sv1.ownBlock = some k) W1 w3 :=
    ((Ext.of_below_size hb).alloc o).trans (Ext.of_grown (M := fun k => sv1.ownBlock = some k) hg (fun k hk => .inl hk)) (fun j hj => .inl hj)
  have hx4 : Ext (fun k => k = N0 + 4 ∨ sv1.ownBlock = some k) W1 (w3.setCell ⟨N0 + 4, 0, none⟩ (.slice (some ⟨g, 0, none⟩) (es.length + 1) cap3)) :=
    (hx3.mono (fun k hk => .inr hk)).setCell (a := ⟨N0 + 4, 0, none⟩) (.inl (.inl rfl)) _
  have hs4 := hx4.size
  have hlow : ∀ j, j < 4 → ¬ (N0 + j = N0 + 4 ∨ sv1.ownBlock = some (N0 + j)) := fun j hj e => by
    rcases e with e | e
    · omega
    · have := (hob _ e).1; omega
  refine ⟨⟨?_, ?_, fun j hj => .inl (h.dB j hj), h.ins.ext hx4 (by omega) ?_, hx4.heap h.code (hlow 0 (by omega)), hx4.heap h.metb (hlow 1 (by omega)), hx4.heap h.seen (hlow 2 (by omega)), hx4.heap h.seenv (hlow 3 (by omega)), ?_, ?_⟩, hx4.mono ?_⟩
  · rintro k (hk | hk)
    · exact h.lo k hk
    · omega
  · rintro k (hk | hk)
    · exact Nat.lt_of_lt_of_le (h.hi k hk) hs4
    · rw [World.size_setCell]; exact hk.2
  · intro a hne ha e
    obtain ⟨b, off, h1, h2, _⟩ := h.ins hne
    rw [ha] at h1
    obtain rfl := Option.some.inj h1
    rcases e with e | e
    · simp at e; omega
    · have := (hob _ e).1; simp at this; omega
  · refine ⟨.slice (some ⟨g, 0, none⟩) (es.length + 1) cap3, heap_setCell_same _ _ _ _ _ _ (hx3.heap hst (fun e => by have := (hob _ e).1; omega)), ?_, ?_⟩
    · rw [entCells_cons]
      have hgN : N0 + 5 ≤ g := (hown3.lt g rfl).1
      refine ⟨by simpa [ints] using hown3.1, ?_⟩
      rcases hown3.2 with ⟨h', _⟩ | ⟨g', cap', cur, e1, e2, e3, e4⟩
      · simp at h'
      · refine .inr ⟨g', cap', cur, e1, e2, ?_, ?_⟩
        · rw [heap_setCell_other _ _ _ _ (by show g' ≠ N0 + 4; omega)]; exact e3
        · simpa [ints] using e4
    · intro k hk
      simp [Value.ownBlock] at hk
      subst hk
      rcases hat with e | e
      · exact .inl (hblk _ e)
      · right; rw [World.size_alloc] at e; have := hb.size; omega
  · intro e he
    rcases List.mem_cons.1 he with rfl | he
    · refine ⟨?_, fun h0 => ?_⟩
      · rcases hown.2 with ⟨_, h'⟩ | ⟨g', cap', cur, e1, _, _, e4, _⟩
        · simp [ints] at h'; simp [h']
        · simp only [Value.slice.injEq] at e1; simp [ints] at e4 e1; show xs.length ≤ cap; omega
      · have hol : 0 < (ints xs).length := by simpa [ints] using h0
        rcases hown.2 with ⟨_, h'⟩ | ⟨g', cap', cur, e1, e2, e3, e4, e5, e6, e7⟩
        · omega
        · have hg' : g' < w2.heap.size := (Array.getElem?_eq_some_iff.1 e3).1
          refine ⟨g', 0, cur, by simp only [Value.slice.injEq] at e1; exact e1.1, .inr ⟨e2, ?_⟩, ?_, fun k y hy => ?_⟩
          · have := hg.size; rw [World.size_alloc] at this; omega
          · rw [heap_setCell_other _ _ _ _ (by show g' ≠ N0 + 4; omega), hg.block g' (by rw [World.size_alloc]; omega) (fun e => by have := (hob _ e.symm).2; omega), Below.heap_alloc _ _ _ hg']
            exact e3
          · have hk : k < (ints xs).length := by have := (List.getElem?_eq_some_iff.1 hy).1; simpa [ints] using this
            have q : (cur.toList.take ((ints xs).length * 1))[k]? = some (.int .i64 (y : Int)) := by rw [e7]; simp [ints, hy]
            rw [List.getElem?_take, if_pos (by omega)] at q
            simpa using q
    · refine ⟨(h.rests e he).1, (h.rests e he).2.ext' hx4 (fun k hk => .inl hk) (fun b cur _ hcur e => ?_)⟩
      rcases e with rfl | e
      · have := hst.symm.trans hcur; simp at this
      · rcases hrow.2 with ⟨h', _⟩ | ⟨g', cap', cur', e1, _, e3, _⟩
        · rw [h'] at e; simp [Value.ownBlock] at e
        · rw [e1] at e
          simp [Value.ownBlock] at e
          subst e
          have := e3.symm.trans hcur; simp at this
  · rintro k (rfl | hk)
    · exact h.dB 4 (by omega)
    · exact hblk k hk

theorem info_stop : (Try.prog.info? 106).map (fun i => (i.zero, i.size, i.bytes)) = some (some (.agg #[.int .i64 0, .slice none 0 0]), 2, 32) := by kernel_rfl

end Go.Proofs.Ytpbkkajgcdahcaa
