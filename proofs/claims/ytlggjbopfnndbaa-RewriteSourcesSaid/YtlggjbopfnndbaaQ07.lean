import Derived.Test.YtlggjbopfnndbaaPop
import Derived.Test.YtlggjbopfnndbaaRef5
import Derived.RegionTactic
import Derived.Test.YtlggjbopfnndbaaSep
import Derived.Deep.AppendLies

namespace Go.Proofs.Ytlggjbopfnndbaa
open Go.RowKit

theorem w64 {n : Nat} (h : n < 18446744073709551616) : IntKind.u64.wrap (n : Int) = (n : Int) := by
  rw [IntKind.wrap_u64]; omega

/-- A row of words. -/
def wordCells (n : Nat) (f : Nat → Nat) : Array Value := ((List.range n).map fun i => Value.int .u64 (f i : Int)).toArray

theorem wordCells_size (n : Nat) (f : Nat → Nat) : (wordCells n f).size = n := by simp [wordCells]

theorem wordCells_get {n i : Nat} (f : Nat → Nat) (h : i < n) : (wordCells n f)[i]? = some (.int .u64 (f i : Int)) := by
  simp [wordCells, h]

/-- The first n cells of a block are words. -/
def RowW (w : World) (B n : Nat) (f : Nat → Nat) : Prop := ∃ cur, w.heap[B]? = some (.cells cur 125 (0, 0)) ∧ n ≤ cur.size ∧ ∀ i, i < n → cur[i]? = some (.int .u64 (f i : Int))

theorem RowW.cell {w : World} {B n i : Nat} {f : Nat → Nat} (h : RowW w B n f) (hi : i < n) : w.cell? ⟨B, i, none⟩ = some (.int .u64 (f i : Int)) := by
  obtain ⟨cur, h1, _, h3⟩ := h
  rw [cell_of_row _ _ _ _ _ _ h1]; exact h3 i hi

theorem RowW.frozen {w : World} {B n i : Nat} {f : Nat → Nat} (h : RowW w B n f) : w.frozen? ⟨B, i, none⟩ = false := by
  obtain ⟨cur, h1, _⟩ := h
  exact frozen_of_row _ _ _ _ _ h1

theorem RowW.lt {w : World} {B n : Nat} {f : Nat → Nat} (h : RowW w B n f) : B < w.heap.size := by
  obtain ⟨cur, h1, _⟩ := h
  exact (Array.getElem?_eq_some_iff.1 h1).1

theorem RowW.congr {w : World} {B n : Nat} {f g : Nat → Nat} (h : RowW w B n f) (e : ∀ i, i < n → f i = g i) : RowW w B n g := by
  obtain ⟨cur, h1, h2, h3⟩ := h
  exact ⟨cur, h1, h2, fun i hi => by rw [← e i hi]; exact h3 i hi⟩

theorem RowW.keep {w w' : World} {B n : Nat} {f : Nat → Nat} (h : RowW w B n f) (e : w'.heap[B]? = w.heap[B]?) : RowW w' B n f := by
  obtain ⟨cur, h1, h2, h3⟩ := h
  exact ⟨cur, e.trans h1, h2, h3⟩

theorem RowW.ext {w w' : World} {B n : Nat} {f : Nat → Nat} {M : Nat → Prop} (h : RowW w B n f) (hx : Ext M w w') (hM : ¬ M B) : RowW w' B n f :=
  h.keep (hx.block B h.lt hM)

theorem RowW.below {w w' : World} {B n m : Nat} {f : Nat → Nat} (h : RowW w B n f) (hx : Below m w w') (hM : B < m) : RowW w' B n f :=
  h.keep (hx.block B hM)

theorem RowW.set {w : World} {B n i v : Nat} {f : Nat → Nat} (h : RowW w B n f) : RowW (w.setCell ⟨B, i, none⟩ (.int .u64 (v : Int))) B n (fun x => if x = i then v else f x) := by
  obtain ⟨cur, h1, h2, h3⟩ := h
  refine ⟨_, heap_setCell_same _ _ _ _ _ _ h1, by simpa using h2, fun j hj => ?_⟩
  rw [Array.getElem?_setIfInBounds]
  by_cases e : i = j
  · subst e; rw [if_pos rfl, if_pos (by omega)]; simp
  · rw [if_neg e]; have e' : ¬ j = i := fun h => e h.symm
    simp only [if_neg e']; exact h3 j hj

theorem RowW.of_cells {w : World} {B n : Nat} {f : Nat → Nat} (h : w.heap[B]? = some (.cells (wordCells n f) 125 (0, 0))) : RowW w B n f :=
  ⟨_, h, by rw [wordCells_size]; exact Nat.le_refl _, fun _ hi => wordCells_get f hi⟩

theorem RowW.of_owns {w : World} {base n g cap : Nat} {f : Nat → Nat} (h : w.ownsRow base 125 1 (.slice (some ⟨g, 0, none⟩) n cap) n ((List.range n).map fun i => Value.int .u64 (f i : Int))) : RowW w g n f := by
  rcases h.2 with ⟨h1, _⟩ | ⟨g', cap', cur, h1, h2, h3, h4, h5, h6, h7⟩
  · cases h1
  · simp only [Value.slice.injEq, Option.some.injEq, Addr.mk.injEq] at h1
    obtain ⟨⟨rfl, _, _⟩, _, rfl⟩ := h1
    refine ⟨cur, h3, by omega, fun i hi => ?_⟩
    have e : (cur.toList.take (n * 1))[i]? = some (.int .u64 (f i : Int)) := by rw [h7]; simp [hi]
    rw [List.getElem?_take, if_pos (by omega)] at e
    simpa using e

/-- The set of which words tell. -/
def bitOf (f : Nat → Nat) (v : Nat) : Bool := (f (v / 64)).testBit (v % 64)

theorem bit_eq (a k : Nat) (ha : a < 18446744073709551616) : (bits .and .u64 ((a : Int) / 2 ^ k) 1 == 1) = a.testBit k := by
  have e : ((a : Int) / 2 ^ k) = ((a / 2 ^ k : Nat) : Int) := by rw [Int.natCast_ediv, Int.natCast_pow]; rfl
  have hl : a / 2 ^ k < 18446744073709551616 := Nat.lt_of_le_of_lt (Nat.div_le_self _ _) ha
  rw [e, show (1 : Int) = ((1 : Nat) : Int) from rfl, u64_and_nat _ _ hl (by decide), Nat.and_one_is_mod, Nat.testBit_eq_decide_div_mod_eq]
  by_cases h : a / 2 ^ k % 2 = 1
  · rw [h]; rfl
  · have h0 : a / 2 ^ k % 2 = 0 := by omega
    rw [h0]; rfl

set_option maxRecDepth 100000 in
set_option maxHeartbeats 1000000 in
theorem bitsHas_calls (w : World) (B n cp v : Nat) (f : Nat → Nat) (hrow : RowW w B n f) (hf : ∀ i, f i < 18446744073709551616) (hv : v / 64 < n) (hn : n ≤ 90000) :
    Calls Try.prog 69 #[.slice (some ⟨B, 0, none⟩) n cp, .int .i64 (v : Int)] w fun e w' => e = .returned (.bool (bitOf f v)) ∧ w = w' := by
  have hc : w.cell? ⟨B, v / 64, none⟩ = some (.int .u64 (f (v / 64) : Int)) := hrow.cell hv
  have hlt := hf (v / 64)
  have hvI : ((v / 64 : Nat) : Int) < (n : Int) := by omega
  have hvb : v < 9000000 := by omega
  have hq : (bits .and .u64 ((f (v / 64) : Int) / 2 ^ (v % 64)) 1 == 1) = bitOf f v := bit_eq _ _ hlt
  clear hrow hf
  go_enter Try.func69, Try.ntmps69
  go_wp2
  go_ret
  exact ⟨rfl, rfl⟩

theorem pow_lt64 {k : Nat} (h : k < 64) : 2 ^ k < 18446744073709551616 := Nat.lt_of_lt_of_le (Nat.pow_lt_pow_right (by decide) h) (by decide)

theorem wrap_pow {k : Nat} (h : k < 64) : IntKind.u64.wrap (2 ^ k) = ((2 ^ k : Nat) : Int) := by
  have e : ((2 : Int) ^ k) = ((2 ^ k : Nat) : Int) := by rw [Int.natCast_pow]; rfl
  rw [e]; exact w64 (pow_lt64 h)

theorem or_eq (a k : Nat) (ha : a < 18446744073709551616) (h : k < 64) : bits .or .u64 (a : Int) (IntKind.u64.wrap (2 ^ k)) = ((a ||| 2 ^ k : Nat) : Int) := by
  rw [wrap_pow h]; exact u64_or_nat _ _ ha (pow_lt64 h)

theorem andNot_eq (a k : Nat) (ha : a < 18446744073709551616) (h : k < 64) : bits .andNot .u64 (a : Int) (IntKind.u64.wrap (2 ^ k)) = ((a &&& (18446744073709551615 - 2 ^ k) : Nat) : Int) := by
  rw [wrap_pow h]; exact u64_andNot_nat _ _ ha (pow_lt64 h)

/-- Behind a write into a row of words. -/
def WordSet (w : World) (B n : Nat) (g : Nat → Nat) (e : Ending) (w' : World) : Prop :=
  e = .returned (.tuple #[]) ∧ RowW w' B n g ∧ Ext (· = B) w w'

set_option maxRecDepth 100000 in
set_option maxHeartbeats 2000000 in
theorem bitsAdd_calls (w : World) (B n cp v : Nat) (f : Nat → Nat) (hrow : RowW w B n f) (hf : ∀ i, f i < 18446744073709551616) (hv : v / 64 < n) (hn : n ≤ 90000) :
    Calls Try.prog 63 #[.slice (some ⟨B, 0, none⟩) n cp, .int .i64 (v : Int)] w (WordSet w B n (fun x => if x = v / 64 then f (v / 64) ||| 2 ^ (v % 64) else f x)) := by
  have hc : w.cell? ⟨B, v / 64, none⟩ = some (.int .u64 (f (v / 64) : Int)) := hrow.cell hv
  have hfz : w.frozen? ⟨B, v / 64, none⟩ = false := hrow.frozen
  have hlt := hf (v / 64)
  have hvI : ((v / 64 : Nat) : Int) < (n : Int) := by omega
  have hvb : v < 9000000 := by omega
  have ho := or_eq (f (v / 64)) (v % 64) hlt (Nat.mod_lt _ (by decide))
  have HP : Hid (WordSet w B n (fun x => if x = v / 64 then f (v / 64) ||| 2 ^ (v % 64) else f x) (.returned (.tuple #[])) (w.setCell ⟨B, v / 64, none⟩ (.int .u64 ((f (v / 64) ||| 2 ^ (v % 64) : Nat) : Int))).drew) :=
    ⟨rfl, hrow.set.keep rfl, (Ext.set1 _ _ _ _).drew⟩
  clear hrow hf
  go_enter Try.func63, Try.ntmps63
  go_wp2
  go_region
  all_goals (go_end0; exact HP.out)

theorem bit_add (f : Nat → Nat) (v u : Nat) : bitOf (fun x => if x = v / 64 then f (v / 64) ||| 2 ^ (v % 64) else f x) u = (bitOf f u || decide (u = v)) := by
  unfold bitOf
  by_cases h : u / 64 = v / 64
  · simp only [if_pos h]
    rw [Nat.testBit_or, Nat.testBit_two_pow, ← h]
    congr 1
    by_cases e : v % 64 = u % 64
    · rw [decide_eq_true e, decide_eq_true (by omega)]
    · rw [decide_eq_false e, decide_eq_false (by intro e2; subst e2; exact e rfl)]
  · simp only [if_neg h]
    rw [decide_eq_false (by intro e; subst e; exact h rfl), Bool.or_false]

theorem bit_drop (f : Nat → Nat) (v u : Nat) : bitOf (fun x => if x = v / 64 then f (v / 64) &&& (18446744073709551615 - 2 ^ (v % 64)) else f x) u = (bitOf f u && decide (u ≠ v)) := by
  unfold bitOf
  by_cases h : u / 64 = v / 64
  · simp only [if_pos h]
    have hk : v % 64 < 64 := Nat.mod_lt _ (by decide)
    have e1 : 18446744073709551615 - 2 ^ (v % 64) = 2 ^ 64 - (2 ^ (v % 64) + 1) := by omega
    rw [Nat.testBit_and, e1, Nat.testBit_two_pow_sub_succ (pow_lt64 hk), ← h, Nat.testBit_two_pow]
    congr 1
    rw [decide_eq_true (show u % 64 < 64 from Nat.mod_lt _ (by decide)), Bool.true_and]
    by_cases e : v % 64 = u % 64
    · rw [decide_eq_true e, decide_eq_false (by intro e2; exact e2 (by omega))]; rfl
    · rw [decide_eq_false e, decide_eq_true (by intro e2; subst e2; exact e rfl)]; rfl
  · simp only [if_neg h]
    rw [decide_eq_true (by intro e; subst e; exact h rfl), Bool.and_true]
end Go.Proofs.Ytlggjbopfnndbaa


namespace Go.Proofs.Ytlggjbopfnndbaa
open Go.RowKit

structure TabOf {α : Type} (enc : α → List Value) (size : Nat) (st e : TypeId) (w : World) (R n : Nat) (F : Nat → Prop) (rows : Nat → List α) : Prop where
  vals : ∃ vals : Array Value, vals.size = n ∧ w.heap[R]? = some (.cells vals st (0, 0)) ∧
    (∀ (i : Nat) (v : Value), vals[i]? = some v → w.ownsRow 0 e size v (rows i).length ((rows i).flatMap enc)) ∧
    (∀ (i : Nat) (v : Value) (k : Nat), vals[i]? = some v → v.ownBlock = some k → F k ∧ k ≠ R) ∧
    (∀ (i j k : Nat) (vi vj : Value), i ≠ j → vals[i]? = some vi → vals[j]? = some vj → vi.ownBlock = some k → vj.ownBlock ≠ some k)
  own : F R
  lt : ∀ k, F k → k < w.heap.size

section
variable {α : Type} {enc : α → List Value} {size : Nat} {st e : TypeId} {w w' w5 : World} {R n : Nat} {F : Nat → Prop} {rows : Nat → List α}

theorem ownsRow_ext {M : Nat → Prop} {base sz m : Nat} {v : Value} {xs : List Value} (h : w.ownsRow base e sz v m xs) (hx : Ext M w w') (hM : ∀ k, v.ownBlock = some k → ¬ M k) : w'.ownsRow base e sz v m xs := by
  refine ⟨h.1, ?_⟩
  rcases h.2 with h' | ⟨g, cap, cur, e1, e2, e3, e4⟩
  · exact .inl h'
  · exact .inr ⟨g, cap, cur, e1, e2, hx.heap e3 (hM g (by rw [e1]; rfl)), e4⟩

theorem ownsRow_base {base base' sz m : Nat} {v : Value} {xs : List Value} (h : w.ownsRow base e sz v m xs) (hb : ∀ k, v.ownBlock = some k → base' ≤ k) : w.ownsRow base' e sz v m xs := by
  refine ⟨h.1, ?_⟩
  rcases h.2 with h' | ⟨g, cap, cur, e1, e2, e3⟩
  · exact .inl h'
  · exact .inr ⟨g, cap, cur, e1, hb g (by rw [e1]; rfl), e3⟩

theorem TabOf.ext {M : Nat → Prop} (h : TabOf enc size st e w R n F rows) (hx : Ext M w w') (hM : ∀ k, F k → ¬ M k) : TabOf enc size st e w' R n F rows := by
  obtain ⟨⟨vals, h1, h2, h3, h4, h5⟩, hR, hl⟩ := h
  exact ⟨⟨vals, h1, hx.heap h2 (hM R hR), fun i v hv => ownsRow_ext (h3 i v hv) hx (fun k hk => hM k (h4 i v k hv hk).1), h4, h5⟩, hR, fun k hk => Nat.lt_of_lt_of_le (hl k hk) hx.size⟩

theorem TabOf.below (h : TabOf enc size st e w R n F rows) (hb : Below w.heap.size w w') : TabOf enc size st e w' R n F rows :=
  h.ext (M := fun _ => False) (Ext.of_below_size hb) (fun _ _ h => h)

/-- A row. -/
theorem TabOf.at_ (h : TabOf enc size st e w R n F rows) {i : Nat} (hi : i < n) : ∃ v, w.cell? ⟨R, i, none⟩ = some v ∧ w.frozen? ⟨R, i, none⟩ = false ∧ w.ownsRow 0 e size v (rows i).length ((rows i).flatMap enc) ∧ ∀ k, v.ownBlock = some k → F k ∧ k ≠ R := by
  obtain ⟨⟨vals, h1, h2, h3, h4, h5⟩, hR, hl⟩ := h
  obtain ⟨v, hv⟩ : ∃ v, vals[i]? = some v := ⟨_, Array.getElem?_eq_getElem (by omega)⟩
  exact ⟨v, by rw [cell_of_row _ _ _ _ _ _ h2]; exact hv, frozen_of_row _ _ _ _ _ h2, h3 i v hv, fun k hk => h4 i v k hv hk⟩

theorem TabOf.start {vals : Array Value} (hn : vals.size = n) (hR : w.heap[R]? = some (.cells vals st (0, 0))) (hv : ∀ (i : Nat) (v : Value), vals[i]? = some v → v = .slice none 0 0) : TabOf enc size st e w R n (· = R) (fun _ => []) :=
  ⟨⟨vals, hn, hR, fun i v h => by rw [hv i v h]; exact World.ownsRow_nil _ _ _ _, fun i v k h hk => by rw [hv i v h] at hk; simp [Value.ownBlock] at hk, fun i j k vi vj _ hi _ hk => by rw [hv i vi hi] at hk; simp [Value.ownBlock] at hk⟩, rfl, fun k hk => by rw [hk]; exact (Array.getElem?_eq_some_iff.1 hR).1⟩

theorem TabOf.mono {F' : Nat → Prop} (h : TabOf enc size st e w R n F rows) (hF : ∀ k, F k → F' k) (hl : ∀ k, F' k → k < w.heap.size) : TabOf enc size st e w R n F' rows := by
  obtain ⟨⟨vals, h1, h2, h3, h4, h5⟩, hR, _⟩ := h
  exact ⟨⟨vals, h1, h2, h3, fun i v k hv hk => ⟨hF _ (h4 i v k hv hk).1, (h4 i v k hv hk).2⟩, h5⟩, hF _ hR, hl⟩

/-- A row put into its place: v was there, v' is put. -/
theorem TabOf.put (h : TabOf enc size st e w R n F rows) {i : Nat} {v v' : Value} {ys : List α} (hv : w.cell? ⟨R, i, none⟩ = some v) (hx : Ext (fun k => v.ownBlock = some k) w w5)
    (hnew : w5.ownsRow 0 e size v' ys.length (ys.flatMap enc)) (hat : ∀ k, v'.ownBlock = some k → v.ownBlock = some k ∨ w.heap.size ≤ k) :
    w5.cell? ⟨R, i, none⟩ = some v ∧ w5.frozen? ⟨R, i, none⟩ = false ∧ TabOf enc size st e (w5.setCell ⟨R, i, none⟩ v') R n (fun k => F k ∨ (w.heap.size ≤ k ∧ k < w5.heap.size)) (fun j => if j = i then ys else rows j) ∧
      Ext F w (w5.setCell ⟨R, i, none⟩ v') := by
  obtain ⟨⟨vals, h1, h2, h3, h4, h5⟩, hR, hl⟩ := h
  have hvi : vals[i]? = some v := by rw [cell_of_row _ _ _ _ _ _ h2] at hv; exact hv
  have hil : i < vals.size := (Array.getElem?_eq_some_iff.1 hvi).1
  have hRn : ¬ v.ownBlock = some R := fun e => (h4 i v R hvi e).2 rfl
  have hR5 := hx.heap h2 hRn
  have hxs : Ext (· = R) w5 (w5.setCell ⟨R, i, none⟩ v') := Ext.set1 _ _ _ _
  have hnR : ∀ k, v'.ownBlock = some k → k ≠ R := by
    rintro k hk rfl
    rcases hat _ hk with h | h
    · exact hRn h
    · have := hl _ hR; omega
  have hoth : ∀ (j : Nat) (vj : Value) (k : Nat), j ≠ i → vals[j]? = some vj → vj.ownBlock = some k → v'.ownBlock ≠ some k := by
    intro j vj k hj hvj hk hk'
    rcases hat k hk' with h | h
    · exact h5 j i k vj v hj hvj hvi hk h
    · have := hl k (h4 j vj k hvj hk).1; omega
  refine ⟨by rw [cell_of_row _ _ _ _ _ _ hR5]; exact hvi, frozen_of_row _ _ _ _ _ hR5, ⟨⟨_, by simpa using h1, heap_setCell_same _ _ _ _ _ _ hR5, ?_, ?_, ?_⟩, .inl hR, ?_⟩, ?_⟩
  · intro j u hu
    rw [Array.getElem?_setIfInBounds] at hu
    by_cases ej : i = j
    · subst ej
      rw [if_pos rfl, if_pos hil] at hu
      obtain rfl := Option.some.inj hu
      show World.ownsRow _ _ _ _ _ (if i = i then ys else rows i).length ((if i = i then ys else rows i).flatMap enc)
      rw [if_pos rfl]
      exact ownsRow_ext hnew hxs (fun k hk => hnR k hk)
    · rw [if_neg ej] at hu
      show World.ownsRow _ _ _ _ _ (if j = i then ys else rows j).length ((if j = i then ys else rows j).flatMap enc)
      rw [if_neg (fun e : j = i => ej e.symm)]
      refine ownsRow_ext (ownsRow_ext (h3 j u hu) hx fun k hk hk' => h5 j i k u v (fun e => ej e.symm) hu hvi hk hk') hxs fun k hk => (h4 j u k hu hk).2
  · intro j u k hu hk
    rw [Array.getElem?_setIfInBounds] at hu
    by_cases ej : i = j
    · subst ej
      rw [if_pos rfl, if_pos hil] at hu
      obtain rfl := Option.some.inj hu
      refine ⟨?_, hnR k hk⟩
      rcases hat k hk with h | h
      · exact .inl (h4 i v k hvi h).1
      · exact .inr ⟨h, (hnew.lt k hk).2⟩
    · rw [if_neg ej] at hu
      exact ⟨.inl (h4 j u k hu hk).1, (h4 j u k hu hk).2⟩
  · intro a b k va vb hab ha hb hka hkb
    rw [Array.getElem?_setIfInBounds] at ha hb
    by_cases ea : i = a
    · subst ea
      rw [if_pos rfl, if_pos hil] at ha
      obtain rfl := Option.some.inj ha
      rw [if_neg hab] at hb
      exact hoth b vb k (fun e => hab e.symm) hb hkb hka
    · rw [if_neg ea] at ha
      by_cases eb : i = b
      · subst eb
        rw [if_pos rfl, if_pos hil] at hb
        obtain rfl := Option.some.inj hb
        exact hoth a va k (fun e => ea e.symm) ha hka hkb
      · rw [if_neg eb] at hb
        exact h5 a b k va vb hab ha hb hka hkb
  · rintro k (hk | hk)
    · rw [World.size_setCell]; exact Nat.lt_of_lt_of_le (hl k hk) hx.size
    · rw [World.size_setCell]; exact hk.2
  · exact (hx.mono (M' := F) (fun k hk => (h4 i v k hvi hk).1)).trans hxs (fun k hk => .inl (by rw [hk]; exact hR))
end

/-- The world behind an append to row v, whatever lay ahead of it. -/
theorem ext_grown {w wA w5 : World} {v : Value} (hA : Ext (fun _ => False) w wA) (hg : wA.grownBy w5 v.ownBlock) : Ext (fun k => v.ownBlock = some k) w w5 :=
  (hA.mono (fun _ h => h.elim)).trans (Ext.of_grown (M := fun k => v.ownBlock = some k) hg (fun k hk => .inl hk)) (fun j hj => .inl hj)
end Go.Proofs.Ytlggjbopfnndbaa
