import Derived.Test.YtlggjbopfnndbaaQ08
import Derived.Test.YtlggjbopfnndbaaSep
import Derived.Maps.AppendAt

namespace Go.Proofs.Ytlggjbopfnndbaa
open Go.RowKit

/-- What a set is, in memory: at block b, P its parameters. -/
structure Leaf where
  enc : Nat → Nat → Value
  ok : World → Nat → Nat → (Nat → Bool) → Prop
  keep : ∀ {w w' : World} {b P : Nat} {x : Nat → Bool}, ok w b P x → w'.heap[b]? = w.heap[b]? → ok w' b P x
  lt : ∀ {w : World} {b P : Nat} {x : Nat → Bool}, ok w b P x → b < w.heap.size
  congr : ∀ {w : World} {b P : Nat} {x y : Nat → Bool}, ok w b P x → (∀ n, n < P → x n = y n) → ok w b P y
  one : ∀ b P, (enc b P).oneCell' = true

/-- A function's row: its value, its sets' blocks, its result's, how many parameters. -/
structure FR where
  tv : Value
  locs : List Nat
  fl : Nat
  P : Nat

abbrev Tag := Nat → Nat × Nat × Nat

structure RowT (K : Leaf) (E2 : TypeId) (w : World) (f : Nat) (tv : Value) (locs : List Nat) (P : Nat) (x : Nat → Nat → Bool) (tag : Tag) : Prop where
  own : w.ownsRow 0 E2 1 tv locs.length (locs.map fun b => K.enc b P)
  leaf : ∀ (u b : Nat), locs[u]? = some b → K.ok w b P (x u) ∧ tag b = (4, f, u)
  tr : ∀ k, tv.ownBlock = some k → tag k = (3, f, 0)

structure RegT (K : Leaf) (E1 E2 : TypeId) (B : Nat) (w : World) (vv fv : Value) (rows : List FR) (x : Nat → Nat → Nat → Bool) (tag : Tag) : Prop where
  vars : w.ownsRow 0 E1 1 vv rows.length (rows.map FR.tv)
  from_ : w.ownsRow 0 E2 1 fv rows.length (rows.map fun r => K.enc r.fl r.P)
  row : ∀ (f : Nat) (r : FR), rows[f]? = some r → RowT K E2 w f r.tv r.locs r.P (x f) tag
  res : ∀ (f : Nat) (r : FR), rows[f]? = some r → K.ok w r.fl r.P (x f r.locs.length) ∧ tag r.fl = (4, f, r.locs.length)
  tv : ∀ k, vv.ownBlock = some k → tag k = (1, 0, 0)
  tf : ∀ k, fv.ownBlock = some k → tag k = (2, 0, 0)
  low : ∀ k, tag k ≠ (0, 0, 0) → B ≤ k ∧ k < w.heap.size

section
variable {K : Leaf} {E1 E2 : TypeId} {B : Nat} {w w' : World} {vv fv tv : Value} {rows : List FR} {x y : Nat → Nat → Nat → Bool} {tag tag' : Tag}

/-- New blocks, from a to b, of one kind. -/
def tagNew (tag : Tag) (a b : Nat) (c : Nat × Nat × Nat) : Tag := fun k => if a ≤ k ∧ k < b then c else tag k

theorem tagNew_old {a b k : Nat} {c : Nat × Nat × Nat} (h : k < a) : tagNew tag a b c k = tag k := by unfold tagNew; rw [if_neg (by omega)]
theorem tagNew_new {a b k : Nat} {c : Nat × Nat × Nat} (h : a ≤ k) (h2 : k < b) : tagNew tag a b c k = c := by unfold tagNew; rw [if_pos ⟨h, h2⟩]

theorem own_tag {e : TypeId} {sz m base : Nat} {xs : List Value} {v : Value} {c : Nat × Nat × Nat} {M : Nat → Prop} (h : w.ownsRow base e sz v m xs) (hx : Ext M w w') (ht : ∀ k, v.ownBlock = some k → tag k = c) (hM : ∀ k, M k → k < w.heap.size → tag k ≠ c) : w'.ownsRow base e sz v m xs :=
  ownsRow_ext h hx fun k hk hk' => hM k hk' (h.lt k hk).2 (ht k hk)

theorem ok_tag {b P : Nat} {z : Nat → Bool} {c : Nat × Nat × Nat} {M : Nat → Prop} (h : K.ok w b P z) (hx : Ext M w w') (ht : tag b = c) (hM : ∀ k, M k → k < w.heap.size → tag k ≠ c) : K.ok w' b P z :=
  K.keep h (hx.block b (K.lt h) fun hk => hM b hk (K.lt h) ht)

/-- A row stays, where what is written is of none of its kinds. -/
theorem RowT.ext {f P : Nat} {locs : List Nat} {z : Nat → Nat → Bool} {M : Nat → Prop} (h : RowT K E2 w f tv locs P z tag) (hx : Ext M w w') (hM : ∀ k, M k → k < w.heap.size → tag k ≠ (3, f, 0) ∧ ∀ u, tag k ≠ (4, f, u)) (hag : ∀ k, k < w.heap.size → tag' k = tag k) : RowT K E2 w' f tv locs P z tag' := by
  refine ⟨own_tag h.own hx h.tr fun k hk hl => (hM k hk hl).1, fun u b hb => ?_, fun k hk => (hag k (h.own.lt k hk).2).trans (h.tr k hk)⟩
  obtain ⟨h1, h2⟩ := h.leaf u b hb
  exact ⟨ok_tag h1 hx h2 fun k hk hl => (hM k hk hl).2 u, (hag b (K.lt h1)).trans h2⟩

/-- All stays, where what is written is of none of the kinds. -/
theorem RegT.ext {M : Nat → Prop} (h : RegT K E1 E2 B w vv fv rows x tag) (hx : Ext M w w') (hM : ∀ k, M k → k < w.heap.size → tag k ≠ (1, 0, 0) ∧ tag k ≠ (2, 0, 0) ∧ ∀ f u, f < rows.length → tag k ≠ (3, f, 0) ∧ tag k ≠ (4, f, u))
    (hag : ∀ k, k < w.heap.size → tag' k = tag k) (hlow : ∀ k, w.heap.size ≤ k → tag' k ≠ (0, 0, 0) → B ≤ k ∧ k < w'.heap.size) : RegT K E1 E2 B w' vv fv rows x tag' := by
  have hlt : ∀ {f : Nat} {r : FR}, rows[f]? = some r → f < rows.length := fun h => (List.getElem?_eq_some_iff.1 h).1
  refine ⟨own_tag h.vars hx h.tv fun k hk hl => (hM k hk hl).1, own_tag h.from_ hx h.tf fun k hk hl => (hM k hk hl).2.1, fun f r hr => (h.row f r hr).ext hx (fun k hk hl => ⟨((hM k hk hl).2.2 f 0 (hlt hr)).1, fun u => ((hM k hk hl).2.2 f u (hlt hr)).2⟩) hag, fun f r hr => ?_,
    fun k hk => (hag k (h.vars.lt k hk).2).trans (h.tv k hk), fun k hk => (hag k (h.from_.lt k hk).2).trans (h.tf k hk), fun k hk => ?_⟩
  · obtain ⟨h1, h2⟩ := h.res f r hr
    exact ⟨ok_tag h1 hx h2 fun k hk hl => ((hM k hk hl).2.2 f _ (hlt hr)).2, (hag _ (K.lt h1)).trans h2⟩
  · rcases Nat.lt_or_ge k w.heap.size with q | q
    · rw [hag k q] at hk
      obtain ⟨h1, h2⟩ := h.low k hk
      exact ⟨h1, Nat.lt_of_lt_of_le h2 hx.size⟩
    · exact hlow k q hk

theorem RegT.below (h : RegT K E1 E2 B w vv fv rows x tag) (hb : Below w.heap.size w w') : RegT K E1 E2 B w' vv fv rows x tag :=
  h.ext (M := fun _ => False) (Ext.of_below_size hb) (fun _ h => h.elim) (fun _ _ => rfl) fun k hk hk' => by
    have := (h.low k hk').2; omega

/-- All stays, where what is written has no kind. -/
theorem RegT.keep {M : Nat → Prop} (h : RegT K E1 E2 B w vv fv rows x tag) (hx : Ext M w w') (hM : ∀ k, M k → tag k = (0, 0, 0) ∨ tag k = (5, 0, 0)) : RegT K E1 E2 B w' vv fv rows x tag :=
  h.ext hx (fun k hk _ => by rcases hM k hk with e | e <;> rw [e] <;> exact ⟨by simp, by simp, fun _ _ _ => ⟨by simp, by simp⟩⟩) (fun _ _ => rfl) fun k hk hk' => by have := (h.low k hk').2; omega

theorem RegT.congr (h : RegT K E1 E2 B w vv fv rows x tag) (he : ∀ (f : Nat) (r : FR), rows[f]? = some r → ∀ u n, n < r.P → x f u n = y f u n) : RegT K E1 E2 B w vv fv rows y tag :=
  ⟨h.vars, h.from_, fun f r hr => ⟨(h.row f r hr).own, fun u b hb => ⟨K.congr ((h.row f r hr).leaf u b hb).1 (he f r hr u), ((h.row f r hr).leaf u b hb).2⟩, (h.row f r hr).tr⟩, fun f r hr => ⟨K.congr (h.res f r hr).1 (he f r hr _), (h.res f r hr).2⟩, h.tv, h.tf, h.low⟩

/-- The block of a set. -/
def FR.at_ (r : FR) (u : Nat) : Nat := (r.locs ++ [r.fl])[u]?.getD 0

theorem FR.at_var {r : FR} {u b : Nat} (h : r.locs[u]? = some b) : r.at_ u = b := by
  unfold FR.at_
  rw [List.getElem?_append_left (List.getElem?_eq_some_iff.1 h).1, h]; rfl
theorem FR.at_res (r : FR) : r.at_ r.locs.length = r.fl := by unfold FR.at_; simp

theorem RegT.leaf (h : RegT K E1 E2 B w vv fv rows x tag) {f u : Nat} {r : FR} (hr : rows[f]? = some r) (hu : u ≤ r.locs.length) : K.ok w (r.at_ u) r.P (x f u) ∧ tag (r.at_ u) = (4, f, u) := by
  rcases Nat.lt_or_ge u r.locs.length with q | q
  · rw [FR.at_var (List.getElem?_eq_getElem q)]
    exact (h.row f r hr).leaf u _ (List.getElem?_eq_getElem q)
  · obtain rfl : u = r.locs.length := by omega
    rw [FR.at_res]
    exact h.res f r hr

/-- A set is turned. -/
theorem RegT.set (h : RegT K E1 E2 B w vv fv rows x tag) {f u : Nat} {r : FR} (hr : rows[f]? = some r) (hu : u ≤ r.locs.length) (hx : Ext (· = r.at_ u) w w') (hy : K.ok w' (r.at_ u) r.P (y f u)) (he : ∀ g v, ¬ (g = f ∧ v = u) → ∀ n, y g v n = x g v n) : RegT K E1 E2 B w' vv fv rows y tag := by
  obtain ⟨h1, h2⟩ := h.leaf hr hu
  have hne : ∀ g v, ¬ (g = f ∧ v = u) → y g v = x g v := fun g v hg => funext (he g v hg)
  have hM1 : ∀ c, c ≠ (4, f, u) → ∀ k, k = r.at_ u → k < w.heap.size → tag k ≠ c := by
    rintro c hc k rfl _ e
    rw [h2] at e
    exact hc e.symm
  have hlf : ∀ g v b P, (g = f ∧ v = u → b = r.at_ u ∧ P = r.P) → K.ok w b P (x g v) → tag b = (4, g, v) → K.ok w' b P (y g v) := by
    intro g v b P hq ho ht
    by_cases e : g = f ∧ v = u
    · obtain ⟨rfl, rfl⟩ := e
      obtain ⟨rfl, rfl⟩ := hq ⟨rfl, rfl⟩
      exact hy
    · rw [hne g v e]
      exact ok_tag ho hx ht (hM1 _ fun e2 => e (by simp only [Prod.mk.injEq] at e2; exact e2.2))
  refine ⟨own_tag h.vars hx h.tv (hM1 _ (by simp)), own_tag h.from_ hx h.tf (hM1 _ (by simp)), fun g q hq => ⟨own_tag (h.row g q hq).own hx (h.row g q hq).tr (hM1 _ (by simp)), fun v b hb => ?_, (h.row g q hq).tr⟩, fun g q hq => ?_, h.tv, h.tf, fun k hk => ⟨(h.low k hk).1, Nat.lt_of_lt_of_le (h.low k hk).2 hx.size⟩⟩
  · obtain ⟨a1, a2⟩ := (h.row g q hq).leaf v b hb
    refine ⟨hlf g v b q.P ?_ a1 a2, a2⟩
    rintro ⟨rfl, rfl⟩
    rw [hr] at hq
    obtain rfl := Option.some.inj hq
    exact ⟨(FR.at_var hb).symm, rfl⟩
  · obtain ⟨a1, a2⟩ := h.res g q hq
    refine ⟨hlf g _ q.fl q.P ?_ a1 a2, a2⟩
    rintro ⟨rfl, e⟩
    rw [hr] at hq
    obtain rfl := Option.some.inj hq
    exact ⟨by rw [← e, FR.at_res], rfl⟩

/-- Where a function's row lies. -/
theorem RegT.fn (h : RegT K E1 E2 B w vv fv rows x tag) {f : Nat} {r : FR} (hr : rows[f]? = some r) : ∃ VA FA cv cf, vv = .slice (some ⟨VA, 0, none⟩) rows.length cv ∧ fv = .slice (some ⟨FA, 0, none⟩) rows.length cf ∧ VA < w.heap.size ∧ FA < w.heap.size ∧
    w.cell? ⟨VA, f, none⟩ = some r.tv ∧ w.cell? ⟨FA, f, none⟩ = some (K.enc (r.at_ r.locs.length) r.P) := by
  obtain ⟨ao, cv, rfl⟩ := ownsRow_slice h.vars
  obtain ⟨bo, cf, rfl⟩ := ownsRow_slice h.from_
  obtain ⟨VA, rfl, h1, h2⟩ := ownsRow_get h.vars (j := f) (u := r.tv) (by rw [List.getElem?_map, hr]; rfl)
  obtain ⟨FA, rfl, h3, h4⟩ := ownsRow_get h.from_ (j := f) (u := K.enc r.fl r.P) (by rw [List.getElem?_map, hr]; rfl)
  exact ⟨VA, FA, cv, cf, rfl, rfl, h1, h3, h2, by rw [FR.at_res]; exact h4⟩

/-- Where a variable's set lies. -/
theorem RegT.var (h : RegT K E1 E2 B w vv fv rows x tag) {f u : Nat} {r : FR} (hr : rows[f]? = some r) (hu : u < r.locs.length) : ∃ T c, r.tv = .slice (some ⟨T, 0, none⟩) r.locs.length c ∧ T < w.heap.size ∧ w.cell? ⟨T, u, none⟩ = some (K.enc (r.at_ u) r.P) := by
  have ho := (h.row f r hr).own
  obtain ⟨ao, c, e⟩ := ownsRow_slice ho
  rw [e] at ho
  obtain ⟨T, rfl, h1, h2⟩ := ownsRow_get ho (j := u) (u := K.enc (r.at_ u) r.P) (by rw [List.getElem?_map, FR.at_var (List.getElem?_eq_getElem hu), List.getElem?_eq_getElem hu]; rfl)
  exact ⟨T, c, e, h1, h2⟩
end
end Go.Proofs.Ytlggjbopfnndbaa


namespace Go.Proofs.Ytlggjbopfnndbaa
open Go.RowKit

theorem run_append_nil {P : Program} (w : World) (base : Nat) (t ty e : TypeId) (i : TypeInfo) (size : Nat) (ht : P.underlying t = some (.slice e)) (hi : P.info? e = some i)
    (v : Value) (n : Nat) (xs : List Value) (hown : w.ownsRow base e size v n xs) (c : Nat) : (Builtin.append_ #[t, t] ty #[v, .slice none 0 c]).run P w = .ok v w := by
  rcases hown.2 with ⟨rfl, rfl⟩ | ⟨g, cap, cur, rfl, _, _, hnc, _⟩
  · simp [Builtin.append_, run_underlying ht, sizeOf, typeInfo, hi, Builtin.lenOf, Builtin.firstCells]
  · simp [Builtin.append_, run_underlying ht, sizeOf, typeInfo, hi, Builtin.lenOf, Builtin.firstCells, hnc, storeCells]

theorem wpList_append_row {P : Program} {w : World} {ops : Array Oper} {rest : List Oper} {o : Oper} {a : Act} {Q : Exit → Act → World → Prop} (hgd : o.guard = none) (s x : Operand) (t : TypeId)
    (ho : o.op = .call { callee := .builtin .append, args := #[s, x], argTypes := #[t, t] }) (base : Nat) (e : TypeId) (i : TypeInfo) (z : Value) (size bytes : Nat) (ht : P.underlying t = some (.slice e)) (hi : P.info? e = some i) (hz : i.zero = some z)
    (hsize : i.size = size) (hby : i.bytes = bytes) (hzs : z.cells.size = size) (hsz : 0 < size)
    (v : Value) (n : Nat) (xs : List Value) (hs : a.eval s = v) (hown : w.ownsRow base e size v n xs)
    (ao : Option Addr) (m c : Nat) (news : List Value) (hx : a.eval x = .slice ao m c) (hl : news.length = m * size) (hnone : ao = none → m = 0) (hnews : ∀ ad, ao = some ad → ∀ j u, news[j]? = some u → w.cell? (ad.add j) = some u) (h1 : ∀ u ∈ news, u.oneCell' = true)
    (h63 : n + m ≤ maxLen) (hbytes : (n + m) * bytes ≤ 140737488355328) (hbase : base ≤ w.heap.size)
    (h : ∀ v' w', w'.ownsRow base e size v' (n + m) (xs ++ news) → w.grownBy w' v.ownBlock → (∀ k, v'.ownBlock = some k → v.ownBlock = some k ∨ w.heap.size ≤ k) → wpList P ops Q rest (a.put o.dst v') w') : wpList P ops Q (o :: rest) a w := by
  refine wpList_plain hgd fun K hK => ?_
  have hrun : ∃ v' w', (Builtin.append_ #[t, t] o.type #[v, .slice ao m c]).run P w = .ok v' w' ∧ w'.ownsRow base e size v' (n + m) (xs ++ news) ∧ w.grownBy w' v.ownBlock ∧ (∀ k, v'.ownBlock = some k → v.ownBlock = some k ∨ w.heap.size ≤ k) := by
    cases ao with
    | none =>
      obtain rfl := hnone rfl
      have hn : news = [] := List.eq_nil_of_length_eq_zero (by omega)
      subst hn
      exact ⟨v, w, run_append_nil w base t o.type e i size ht hi v n xs hown c, by simpa using hown, World.grownBy.refl w _, fun k hk => .inl hk⟩
    | some ad =>
      obtain ⟨v', w', r1, r2, r3, _, r5⟩ := run_append_own_at w base t o.type e i z size bytes ht hi hz hsize hby hzs hsz v n xs hown ad m c news hl (hnews ad rfl) h1 h63 hbytes hbase
      refine ⟨v', w', r1, r2, r3, fun k hk => ?_⟩
      rcases r5 with r5 | r5
      · exact .inl (by rw [← r5]; exact hk)
      · right; rw [r5] at hk; simp at hk; omega
  obtain ⟨v', w', r1, r2, r3, r4⟩ := hrun
  unfold Oper.wp
  simp [execOp, ho, resolve, invoke, builtin, hs, hx, r1, Result.andThen]
  exact hK _ _ (h _ _ r2 r3 r4)

theorem ownsRow_empty (w : World) (e : TypeId) (size base : Nat) (hb : base ≤ w.heap.size) : (w.alloc (.cells #[] e)).ownsRow base e size (.slice (some ⟨w.heap.size, 0, none⟩) 0 0) 0 [] :=
  World.ownsRow_made w #[] 0 hb (by unfold maxLen; omega) (by simp)
end Go.Proofs.Ytlggjbopfnndbaa
