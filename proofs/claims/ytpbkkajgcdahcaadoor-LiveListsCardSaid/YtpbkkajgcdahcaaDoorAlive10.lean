/- The chapter's example of layer 10. -/
import Derived.Test.YtpbkkajgcdahcaaDoorAsk
namespace Go.Proofs.YtpbkkajgcdahcaaDoor
open Go.RowKit

def insOf4 (op d a b : Int) : Ins := ⟨op, d, a, b, 0, 0, ByteArray.empty, .slice none 0 0, .slice none 0 0, 0, 0, 0, 0, []⟩

def ex10 : List Ins := [insOf4 1 0 0 0, insOf4 1 1 0 0, insOf4 4 2 0 1, insOf4 18 0 2 0]

theorem ex10_next : nextN ex10 0 = [1] ∧ nextN ex10 1 = [2] ∧ nextN ex10 2 = [3] ∧ nextN ex10 3 = [] := by
  refine ⟨?_, ?_, ?_, ?_⟩ <;> rfl

theorem ex10_b3 (v : Nat) : ¬ AskedBehind ex10 v 3 := by
  rintro ⟨y, hy, _⟩; rw [ex10_next.2.2.2] at hy; simp at hy
theorem ex10_b2 (v : Nat) : AskedBehind ex10 v 2 ↔ v = 2 := by
  have h : AskedBehind ex10 v 2 ↔ Asked ex10 v 3 := by unfold AskedBehind; rw [ex10_next.2.2.1]; simp
  rw [h, asked_iff (show ex10[3]? = some (insOf4 18 0 2 0) from rfl)]
  have := ex10_b3 v
  have e : (v : Int) ∈ readsOf (insOf4 18 0 2 0) ↔ v = 2 := by
    rw [show readsOf (insOf4 18 0 2 0) = [2] from rfl]; simp; omega
  rw [e]; simp [this]
theorem ex10_b1 (v : Nat) : AskedBehind ex10 v 1 ↔ v = 0 ∨ v = 1 := by
  have h : AskedBehind ex10 v 1 ↔ Asked ex10 v 2 := by unfold AskedBehind; rw [ex10_next.2.1]; simp
  rw [h, asked_iff (show ex10[2]? = some (insOf4 4 2 0 1) from rfl), ex10_b2]
  have e : (v : Int) ∈ readsOf (insOf4 4 2 0 1) ↔ v = 0 ∨ v = 1 := by
    rw [show readsOf (insOf4 4 2 0 1) = [0, 1] from rfl]; simp; omega
  rw [e, show writesOf (insOf4 4 2 0 1) = (2, true) from rfl]
  simp; omega
theorem ex10_b0 (v : Nat) : AskedBehind ex10 v 0 ↔ v = 0 := by
  have h : AskedBehind ex10 v 0 ↔ Asked ex10 v 1 := by unfold AskedBehind; rw [ex10_next.1]; simp
  rw [h, asked_iff (show ex10[1]? = some (insOf4 1 1 0 0) from rfl), ex10_b1]
  rw [show readsOf (insOf4 1 1 0 0) = [] from rfl, show writesOf (insOf4 1 1 0 0) = (1, true) from rfl]
  simp; omega

theorem ex10_fits : Fits ex10 3 := by
  intro i hi
  simp only [ex10, List.mem_cons, List.not_mem_nil, or_false] at hi
  rcases hi with rfl | rfl | rfl | rfl
  · rw [show readsOf (insOf4 1 0 0 0) = [] from rfl, show writesOf (insOf4 1 0 0 0) = (0, true) from rfl]; simp
  · rw [show readsOf (insOf4 1 1 0 0) = [] from rfl, show writesOf (insOf4 1 1 0 0) = (1, true) from rfl]; simp
  · rw [show readsOf (insOf4 4 2 0 1) = [0, 1] from rfl, show writesOf (insOf4 4 2 0 1) = (2, true) from rfl]; simp
  · rw [show readsOf (insOf4 18 0 2 0) = [2] from rfl, show writesOf (insOf4 18 0 2 0) = (0, false) from rfl]; simp

/-- A word with given bits. -/
theorem word_eq {x y : Nat} (hx : x < 18446744073709551616) (hy : y < 18446744073709551616) (h : ∀ v, v < 64 → x.testBit v = y.testBit v) : x = y := by
  apply Nat.eq_of_testBit_eq
  intro v
  by_cases hv : v < 64
  · exact h v hv
  · have big : ∀ z, z < 18446744073709551616 → z.testBit v = false := fun z hz => Nat.testBit_lt_two_pow (Nat.lt_of_lt_of_le (show z < 2 ^ 64 from hz) (Nat.pow_le_pow_right (by decide) (by omega)))
    rw [big x hx, big y hy]

/-- The words of one row, whose set is told for all variables. -/
theorem row_word {f : Nat → Nat} {y : Nat} (hf : f 0 < 18446744073709551616) (hy : y < 18446744073709551616) (h : ∀ v, v < 64 → (bitOf f v = true ↔ y.testBit v = true)) : f 0 = y := by
  refine word_eq hf hy fun v hv => ?_
  have := h v hv
  unfold bitOf at this
  rw [show v / 64 = 0 by omega, show v % 64 = v by omega] at this
  exact Bool.eq_iff_iff.2 this

theorem ex10_tab {w : World} {T RA RB : Nat} {c : Cod} {a b : Nat → Nat → Nat} (h : TabOk w T RA RB c a b) (hi : c.ins = ex10) (hv : c.nvars = 3) : b 0 0 = 1 ∧ b 1 0 = 3 ∧ b 2 0 = 4 ∧ b 3 0 = 0 := by
  have hs : ∀ x v, x < 4 → (bitOf (b x) v = true ↔ AskedBehind ex10 v x) := by
    intro x v hx
    by_cases h3 : v < 3
    · have := (h.says x v (by rw [hi]; exact hx) (by omega)).1
      rw [hi] at this; exact this
    · constructor
      · intro hb
        have := h.sound x v (by rw [hi]; exact hx) hb
        rw [hi] at this; exact this
      · rintro ⟨y, hy, hya⟩
        exact absurd (hya.fits ex10_fits) h3
  have hl : ∀ x, b x 0 < 18446744073709551616 := fun x => h.ltB x 0
  refine ⟨row_word (hl 0) (by decide) fun v hv => ?_, row_word (hl 1) (by decide) fun v hv => ?_, row_word (hl 2) (by decide) fun v hv => ?_, row_word (hl 3) (by decide) fun v hv => ?_⟩
  · rw [hs 0 v (by decide), ex10_b0]
    have : ∀ v, v < 64 → (v = 0 ↔ Nat.testBit 1 v = true) := by decide
    exact this v hv
  · rw [hs 1 v (by decide), ex10_b1]
    have : ∀ v, v < 64 → (v = 0 ∨ v = 1 ↔ Nat.testBit 3 v = true) := by decide
    exact this v hv
  · rw [hs 2 v (by decide), ex10_b2]
    have : ∀ v, v < 64 → (v = 2 ↔ Nat.testBit 4 v = true) := by decide
    exact this v hv
  · rw [hs 3 v (by decide)]
    simp [ex10_b3 v]

theorem ex10_most {w : World} {T RA RB : Nat} {c : Cod} {a b : Nat → Nat → Nat} (h : TabOk w T RA RB c a b) (hi : c.ins = ex10) (hv : c.nvars = 3) : mostOf ((c.nvars + 63) / 64) b c.ins.length = 2 := by
  obtain ⟨h0, h1, h2, h3⟩ := ex10_tab h hi hv
  rw [hv, hi]
  show mostOf 1 b 4 = 2
  simp only [mostOf, countOf, List.range_succ, List.range_zero, List.nil_append, List.map_cons, List.map_nil, List.sum_cons, List.sum_nil, h0, h1, h2, h3]
  decide

/-- 'make([]T, n)': the new block, as the model lays it. -/
theorem wpList_make_raw {P : Program} {w : World} {ops : Array Oper} {rest : List Oper} {o : Oper} {a : Act} {Q : Exit → Act → World → Prop}
    (hg : o.guard = none) (l c : Operand) (t : TypeId) (hop : o.op = Op.makeSlice t l c)
    (e : TypeId) (i : TypeInfo) (z : Value) (size : Nat) (h1 : P.underlying t = some (.slice e)) (h2 : P.info? e = some i) (h3 : i.zero = some z) (h4 : i.size = size)
    (kl kc : IntKind) (L C : Int) (n : Nat) (hl : a.eval l = .int kl L) (hc : a.eval c = .int kc C) (hL : L = (n : Int)) (hC : C = (n : Int)) (b2 : i.bytes * n ≤ 281474976710656) (b3 : n ≤ maxLen)
    (hK : wpList P ops Q rest (a.put o.dst (.slice (some ⟨w.heap.size, 0, none⟩) n n)) (w.alloc (.cells (madeCells z.cells (n * size)) e))) :
    wpList P ops Q (o :: rest) a w := by
  refine wpList_plain hg fun K hK' => ?_
  subst hL
  subst hC
  subst h4
  have h63' : (n : Int) ≤ 9223372036854775807 := by
    have h := b3
    simp [maxLen] at h
    omega
  have hb' : (i.bytes : Int) * (n : Int) ≤ 281474976710656 := by
    have h : ((i.bytes * n : Nat) : Int) ≤ 281474976710656 := by omega
    rwa [Int.natCast_mul] at h
  have hr := run_make (P := P) w t e i z h1 h2 h3 kl kc n n (by omega) (Int.le_refl _) hb' h63'
  simp only [Int.toNat_natCast] at hr
  unfold Oper.wp
  simp [execOp, hop, hl, hc, hr, Result.andThen]
  exact hK' _ _ (by simpa using hK)

theorem info_var : (Tryd.prog.info? 26).map (fun i => (i.zero, i.size, i.bytes)) = some (some (.agg #[.bool false, .string ByteArray.empty, .int .i64 0]), 3, 32) := by kernel_rfl

def vrZero : Vr := ⟨false, ByteArray.empty, 0⟩

theorem madeCells_get (z : Array Value) {n q : Nat} (h : q < n) : (madeCells z n)[q]? = some (z[q % z.size]!) := by
  simp [madeCells, h]

theorem rowOf_made {w : World} {N n : Nat} (h : w.heap[N]? = some (.cells (madeCells #[.bool false, .string ByteArray.empty, .int .i64 0] (n * 3)) 26 (0, 0))) :
    RowOf Vr.cells 3 w w.heap.size (some ⟨N, 0, none⟩) (List.replicate n vrZero) := by
  intro _
  refine ⟨N, 0, rfl, (Array.getElem?_eq_some_iff.1 h).1, fun i x hx k u hu => ?_⟩
  have hi : i < n := by have := (List.getElem?_eq_some_iff.1 hx).1; simpa using this
  obtain rfl : x = vrZero := by simp [hi] at hx; exact hx.symm
  have hk : k < 3 := (List.getElem?_eq_some_iff.1 hu).1
  rw [cell_of_row _ _ _ _ _ _ h, madeCells_get _ (by omega), show (0 + i * 3 + k) % (#[Value.bool false, .string ByteArray.empty, .int .i64 0] : Array Value).size = k by simp; omega]
  obtain rfl | rfl | rfl : k = 0 ∨ k = 1 ∨ k = 2 := by omega
  · exact hu
  · exact hu
  · exact hu

theorem Ins.cells_len (i : Ins) : i.cells.toList.length = 13 := rfl

theorem flat_get (x : Ins) (k : Nat) (hk : k < 13) : ∀ (ins : List Ins) (i : Nat), ins[i]? = some x → (ins.flatMap fun i => i.cells.toList)[i * 13 + k]? = x.cells.toList[k]?
  | y :: r, 0, h => by
    simp at h; subst h
    rw [List.flatMap_cons, Nat.zero_mul, Nat.zero_add, List.getElem?_append_left (by rw [Ins.cells_len]; exact hk)]
  | y :: r, i + 1, h => by
    simp only [List.getElem?_cons_succ] at h
    rw [List.flatMap_cons, List.getElem?_append_right (by rw [Ins.cells_len]; omega), Ins.cells_len, show (i + 1) * 13 + k - 13 = i * 13 + k by omega]
    exact flat_get x k hk r i h

theorem insRow_flat {w : World} {N B : Nat} {t : TypeId} {ins : List Ins} (h : w.heap[N]? = some (.cells (ins.flatMap fun i => i.cells.toList).toArray t (0, 0))) (hB : N < B) : InsRow w B (some ⟨N, 0, none⟩) ins := by
  intro _
  refine ⟨N, 0, rfl, hB, fun i x hx k u hu => ?_⟩
  have hk : k < 13 := (List.getElem?_eq_some_iff.1 hu).1
  rw [cell_of_row _ _ _ _ _ _ h, List.getElem?_toArray, Nat.zero_add, flat_get x k hk ins i hx]
  exact hu

def plainCod (V N nv : Nat) (ins : List Ins) (ic : Nat) : Cod := ⟨ByteArray.empty, 0, some ⟨V, 0, none⟩, nv, nv, false, ByteArray.empty, 0, none, 0, 0, some ⟨N, 0, none⟩, ic, ins⟩

/-- A code without names: it is as if it had come in. -/
theorem plainCod_inn {w : World} {V N nv ic : Nat} {ins : List Ins} (hV : w.heap[V]? = some (.cells (madeCells #[.bool false, .string ByteArray.empty, .int .i64 0] (nv * 3)) 26 (0, 0))) (hI : InsRow w w.heap.size (some ⟨N, 0, none⟩) ins) (ha : ∀ i ∈ ins, i.argsV = .slice none 0 0 ∧ i.modeV = .slice none 0 0 ∧ i.args = [])
    (hl : ins.length ≤ 1000) (hnv : nv ≤ 1000) : (plainCod V N nv ins ic).inn w := by
  refine ⟨hI, fun i hi => ?_, by unfold maxLen; show ins.length ≤ _; omega, ⟨_, by simp [plainCod], rowOf_made hV⟩, by unfold maxLen; show nv ≤ _; omega, by unfold maxLen; show 0 ≤ _; omega, [], rfl, fun h => absurd rfl h⟩
  obtain ⟨h1, h2, h3⟩ := ha i hi
  exact ⟨⟨⟨none, 0, by rw [h1, h3]; rfl⟩, none, 0, 0, h2⟩, none, 0, by rw [h1, h3]; rfl, by rw [h3]; exact fun h => absurd rfl h⟩

theorem plainCod_fit {V N nv ic : Nat} {ins : List Ins} (ha : ∀ i ∈ ins, i.argsV = .slice none 0 0 ∧ i.modeV = .slice none 0 0 ∧ i.args = []) (hs : ∀ i ∈ ins, i.sign.size ≤ 20) (hl : ins.length ≤ 150) (hnv : nv ≤ 80) (hf : Fits ins nv) : (plainCod V N nv ins ic).fit := by
  refine ⟨⟨hl, by show ins.length ≤ 400; omega, by show nv ≤ 400; omega, by show ByteArray.empty.size ≤ 60; decide, by show (0 : Nat) ≤ 40; decide, fun i hi => ?_⟩, hnv, hf⟩
  obtain ⟨h1, h2, h3⟩ := ha i hi
  exact ⟨by rw [h3]; decide, ⟨none, 0, 0, h2, by decide⟩, hs i hi⟩

set_option maxRecDepth 100000 in
set_option maxHeartbeats 4000000 in
theorem alive10_calls (w : World) : Calls Tryd.prog 5 #[] w fun e w' => e = .returned (.bool true) ∧ Below w.heap.size w w' := by
  obtain ⟨i0, hi0, hz0, hz1, hz2⟩ := info_parts info_var
  obtain ⟨N, hN⟩ : ∃ N, w.heap.size = N := ⟨_, rfl⟩
  obtain ⟨W1, hW1⟩ : ∃ W1, (w.alloc (.cells (madeCells #[.bool false, .string ByteArray.empty, .int .i64 0] 9) 26)).alloc (.cells (ex10.flatMap fun i => i.cells.toList).toArray 53) = W1 := ⟨_, rfl⟩
  have hs1 : W1.heap.size = N + 2 := by rw [← hW1]; simp [hN]
  have hb1 : Below N w W1 := by rw [← hW1, ← hN]; exact ((Below.refl _ _).alloc (Nat.le_refl _) _).alloc (by simp) _
  have hV : W1.heap[N]? = some (.cells (madeCells #[.bool false, .string ByteArray.empty, .int .i64 0] (3 * 3)) 26 (0, 0)) := by
    rw [← hW1, ← hN, Below.heap_alloc _ _ _ (by simp)]; exact alloc_at _ _
  have hI : W1.heap[N + 1]? = some (.cells (ex10.flatMap fun i => i.cells.toList).toArray 53 (0, 0)) := by
    rw [← hW1, ← hN]
    have := alloc_at (w.alloc (.cells (madeCells #[.bool false, .string ByteArray.empty, .int .i64 0] 9) 26)) (.cells (ex10.flatMap fun i => i.cells.toList).toArray 53)
    rwa [World.size_alloc] at this
  have ha : ∀ i ∈ ex10, i.argsV = .slice none 0 0 ∧ i.modeV = .slice none 0 0 ∧ i.args = [] := by
    intro i hi
    simp only [ex10, List.mem_cons, List.not_mem_nil, or_false] at hi
    rcases hi with rfl | rfl | rfl | rfl <;> exact ⟨rfl, rfl, rfl⟩
  have hsg : ∀ i ∈ ex10, i.sign.size ≤ 20 := by
    intro i hi
    simp only [ex10, List.mem_cons, List.not_mem_nil, or_false] at hi
    rcases hi with rfl | rfl | rfl | rfl <;> decide
  have hin : (plainCod N (N + 1) 3 ex10 4).inn W1 := plainCod_inn hV (insRow_flat hI (by omega)) ha (by decide) (by decide)
  have hfit : (plainCod N (N + 1) 3 ex10 4).fit := plainCod_fit ha hsg (by decide) (by decide) ex10_fits
  obtain ⟨P, hP⟩ : ∃ P, TabMade (plainCod N (N + 1) 3 ex10 4) W1 = P := ⟨_, rfl⟩
  have HO : Hid (Calls Tryd.prog 7 #[.agg (plainCod N (N + 1) 3 ex10 4).cells] W1 P) := by rw [← hP]; exact liveOf_calls _ W1 hin hfit
  have HP := Lib.hid hP
  have HW1 : Hid ((w.alloc (.cells (madeCells #[.bool false, .string ByteArray.empty, .int .i64 0] 9) 26)).alloc (.cells (ex10.flatMap fun i => i.cells.toList).toArray 53) = W1) := hW1
  have HB1 : Hid (∀ w2 n, Below W1.heap.size W1 w2 → Below N w (w2.drewN n)) := fun w2 n h => below_drewN (hb1.trans (h.mono (by omega))) n
  clear hs1 hb1 hV hI ha hsg hin hfit hW1 hP
  go_enter Tryd.func5, Tryd.ntmps5
  go_wp2_with (refine wpList_make_raw rfl _ _ 22 rfl 26 i0 (.agg #[.bool false, .string ByteArray.empty, .int .i64 0]) 3 Tryd.underlying22 hi0 hz0 hz1 .i64 .i64 _ _ 3 rfl rfl rfl rfl (by rw [hz2]; omega) (by unfold maxLen; omega) ?_)
  go_at_call 7
  have HO1 := HO.out
  rw [← HW1.out] at HO1
  try rw [hN]
  refine HO1.mono ?_
  clear HO1
  rintro e w2 hp
  rw [← HP.out] at hp
  obtain ⟨T, RA, RB, a, b, rfl, hT, hok, hbel⟩ := hp
  have hb : ∀ x v, x < 4 → v < 3 → (bitOf (b x) v = true ↔ AskedBehind ex10 v x) := fun x v hx hv => (hok.says x v hx hv).1
  have tb : ∀ (x v : Nat) (t : Bool), x < 4 → v < 3 → bitOf (b x) v = t → Calls Tryd.prog 18 #[.pointer (some ⟨T, 0, none⟩), .int .i64 (x : Int), .int .i64 (v : Int)] w2 fun e w' => e = .returned (.bool t) ∧ w2 = w' := by
    intro x v t hx hv ht
    rw [← ht]
    exact tbehind_calls w2 T RA RB _ a b x v hok hx hv (by show 4 ≤ 90000; decide) (by show 3 ≤ 90000; decide)
  have H1 : Hid (Calls Tryd.prog 18 #[.pointer (some ⟨T, 0, none⟩), .int .i64 1, .int .i64 0] w2 fun e w' => e = .returned (.bool true) ∧ w2 = w') := (tb 1 0 true (by decide) (by decide) ((hb 1 0 (by decide) (by decide)).2 ((ex10_b1 0).2 (.inl rfl))))
  have H2 : Hid (Calls Tryd.prog 18 #[.pointer (some ⟨T, 0, none⟩), .int .i64 1, .int .i64 1] w2 fun e w' => e = .returned (.bool true) ∧ w2 = w') := (tb 1 1 true (by decide) (by decide) ((hb 1 1 (by decide) (by decide)).2 ((ex10_b1 1).2 (.inr rfl))))
  have H3 : Hid (Calls Tryd.prog 18 #[.pointer (some ⟨T, 0, none⟩), .int .i64 1, .int .i64 2] w2 fun e w' => e = .returned (.bool false) ∧ w2 = w') := (tb 1 2 false (by decide) (by decide) (by
    have h := hb 1 2 (by decide) (by decide)
    rw [ex10_b1] at h
    simpa using h))
  have H4 : Hid (Calls Tryd.prog 18 #[.pointer (some ⟨T, 0, none⟩), .int .i64 0, .int .i64 1] w2 fun e w' => e = .returned (.bool false) ∧ w2 = w') := (tb 0 1 false (by decide) (by decide) (by
    have h := hb 0 1 (by decide) (by decide)
    rw [ex10_b0] at h
    simpa using h))
  have hm := most_calls w2 T RA RB _ a b hok (by show 4 ≤ 90000; decide) (by show 3 ≤ 90000; decide)
  rw [ex10_most hok rfl rfl] at hm
  have HM : Hid (Calls Tryd.prog 14 #[.pointer (some ⟨T, 0, none⟩)] w2 fun e w' => e = .returned (.int .i64 2) ∧ w2 = w') := hm
  have HF := Lib.hid (HB1.out w2 0 hbel)
  clear hm hb tb hok hbel
  go_wp2_with fail
  go_at_call 18
  refine H1.out.mono ?_
  rintro e w' ⟨rfl, rfl⟩
  go_wp2_with fail
  go_at_call 18
  refine H2.out.mono ?_
  rintro e w' ⟨rfl, rfl⟩
  go_wp2_with fail
  go_at_call 18
  refine H3.out.mono ?_
  rintro e w' ⟨rfl, rfl⟩
  go_wp2_with fail
  go_at_call 18
  refine H4.out.mono ?_
  rintro e w' ⟨rfl, rfl⟩
  go_wp2_with fail
  go_at_call 14
  refine HM.out.mono ?_
  rintro e w' ⟨rfl, rfl⟩
  go_wp2
  go_ret
  exact ⟨rfl, by rw [hN]; exact HF.out⟩
end Go.Proofs.YtpbkkajgcdahcaaDoor
