/- Rows of pairs that are the same; an append of a row in a region that draws. -/
import Derived.Test.YtbbogkcfngpbbaaCaX3
import Derived.BigQuiet
import Derived.Laws.StructEq
namespace Go.Proofs.Ytbbogkcfngpbbaa
open Go.RowKit

theorem nums_same (w : World) (p1 p2 c1 c2 : Nat) (ao1 ao2 : Option Addr) (l : List Nat) (hn : l.length ≤ 90000) (h1 : w.ownsRow p1 3 1 (.slice ao1 l.length c1) l.length (l.flatMap encN)) (h2 : w.ownsRow p2 3 1 (.slice ao2 l.length c2) l.length (l.flatMap encN)) :
    Calls Try.prog 14 #[.slice ao1 l.length c1, .slice ao2 l.length c2] w fun e w' => e = .returned (.bool true) ∧ Below w.heap.size w w' := by
  have hl : (nums l).length = l.length := by simp [nums]
  rw [encN_flat] at h1 h2
  have h := numbers_calls w p1 p2 c1 c2 ao1 ao2 (nums l) (by omega) (by unfold OwnI; rw [hl]; exact h1) (by unfold OwnI; rw [hl]; exact h2)
  rw [hl] at h
  exact h

theorem encP_get {l : List (Nat × Nat)} {k : Nat} {p : Nat × Nat} (h : l[k]? = some p) : (l.flatMap encP)[k * 2]? = some (.int .i64 (p.1 : Int)) ∧ (l.flatMap encP)[k * 2 + 1]? = some (.int .i64 (p.2 : Int)) := by
  have key : ∀ (xs : List (Nat × Nat)) (i j : Nat) (x : Nat × Nat) (u : Value), xs[i]? = some x → (encP x)[j]? = some u → (xs.flatMap encP)[i * 2 + j]? = some u := by
    intro xs
    induction xs with
    | nil => intro i j x u h; simp at h
    | cons y r ih =>
      intro i j x u hx hu
      cases i with
      | zero =>
        simp at hx; subst hx
        rw [List.flatMap_cons, Nat.zero_mul, Nat.zero_add, List.getElem?_append_left (List.getElem?_eq_some_iff.1 hu).1]; exact hu
      | succ i =>
        have := ih i j x u (by simpa using hx) hu
        rw [List.flatMap_cons, List.getElem?_append_right (by show 2 ≤ _; omega)]
        rw [show (i + 1) * 2 + j - (encP y).length = i * 2 + j from by show (i + 1) * 2 + j - 2 = _; omega]
        exact this
  exact ⟨by have := key l k 0 p _ h rfl; rwa [Nat.add_zero] at this, key l k 1 p _ h rfl⟩

theorem pair_eqD (d : Nat) (p q : Int) (W : World) : (Op.equalIn (d + 1 + 1) 117 (.agg #[.int .i64 p, .int .i64 q]) (.agg #[.int .i64 p, .int .i64 q])).run Try.prog W = .ok true W := by
  have hs : ∀ w, (Go.sizeOf 3).run Try.prog w = .ok 1 w := Try.sizeOf3
  have ha : ∀ w, (isAgg 3).run Try.prog w = .ok false w := Try.isAgg3
  have he : ∀ (a b : Int) (w : World), (Op.equalIn (d + 1) 3 (.int .i64 a) (.int .i64 b)).run Try.prog w = .ok (a == b) w := fun a b w => run_equalIn_int w d 3 .i64 .i64 a b Try.underlying3
  have hp0 : ∀ (a b : Int) (w : World), (part 3 #[.int .i64 a, .int .i64 b] 0).run Try.prog w = .ok (.int .i64 a) w := fun a b w => by simp [part, Sem.run_bind, hs, ha]
  have hp1 : ∀ (a b : Int) (w : World), (part 3 #[.int .i64 a, .int .i64 b] 1).run Try.prog w = .ok (.int .i64 b) w := fun a b w => by simp [part, Sem.run_bind, hs, ha]
  rw [Op.equalIn.eq_def]
  simp only [Sem.run_bind, run_underlying Try.underlying117, Result.andThen_ok, hs]
  simp [Std.Legacy.Range.forIn_eq_forIn_range', Std.Legacy.Range.size, List.range'_succ, Sem.run_bind, hp0, hp1, he]

theorem pair_neq (p q : Int) (W : World) : (binOp .neq 117 (.agg #[.int .i64 p, .int .i64 q]) (.agg #[.int .i64 p, .int .i64 q])).run Try.prog W = .ok (.bool false) W := by
  rw [run_neq_struct, show (10000 : Nat) = 9998 + 1 + 1 from rfl, pair_eqD]
  rfl

set_option maxRecDepth 100000 in
set_option maxHeartbeats 4000000 in
theorem pairs_same (w : World) (p1 p2 c1 c2 : Nat) (ao1 ao2 : Option Addr) (l : List (Nat × Nat)) (hn : l.length ≤ 90000) (h1 : w.ownsRow p1 117 2 (.slice ao1 l.length c1) l.length (l.flatMap encP)) (h2 : w.ownsRow p2 117 2 (.slice ao2 l.length c2) l.length (l.flatMap encP)) :
    Calls Try.prog 46 #[.slice ao1 l.length c1, .slice ao2 l.length c2] w fun e w' => e = .returned (.bool true) ∧ Below w.heap.size w w' := by
  have H1 := Lib.hid h1
  have H2 := Lib.hid h2
  clear h1 h2
  go_enter Try.func46, Try.ntmps46
  go_wp2_with fail
  go_loopw [5] (fun c wr => ∃ k : Nat, k ≤ l.length ∧ c = .int .i64 (k : Int) ∧ ∃ m, wr = w.drewN m) (fun c _ => l.length - (intOf c).toNat)
  case atStart => exact ⟨0, Nat.zero_le _, rfl, 0, rfl⟩
  case round =>
    obtain ⟨k, hk, rfl, m, rfl⟩ := hrel
    by_cases hkl : k < l.length
    · have hkI : (k : Int) < (l.length : Int) := by omega
      obtain ⟨⟨p, q⟩, hp⟩ : ∃ p, l[k]? = some p := ⟨_, List.getElem?_eq_getElem hkl⟩
      obtain ⟨e1, e2⟩ := encP_get hp
      obtain ⟨g1, rfl, _, d1⟩ := ownsRow_get H1.out e1
      obtain ⟨g1', x1, _, d2⟩ := ownsRow_get H1.out e2
      simp only [Option.some.injEq, Addr.mk.injEq, and_true] at x1
      subst x1
      obtain ⟨g2, rfl, _, d3⟩ := ownsRow_get H2.out e1
      obtain ⟨g2', x2, _, d4⟩ := ownsRow_get H2.out e2
      simp only [Option.some.injEq, Addr.mk.injEq, and_true] at x2
      subst x2
      have hneq := pair_neq (p : Int) (q : Int)
      have hgd : Try.prog.eqGuardType Try.prog.depth 117 = false := by kernel_rfl
      clear hp e1 e2
      go_wp2_with fail
      go_quiet (fail)
      go_wp2
      go_roundw
      case rel => exact ⟨k + 1, by omega, by go_num, _, rfl⟩
      case measure => simp [intOf]; omega
    · have hke : k = l.length := by omega
      subst hke
      go_wp2
      go_ret
      exact ⟨rfl, below_drewN (Below.refl _ _) m⟩

theorem wp_append_row {P : Program} {w : World} {o : Oper} {a : Act} {K : Act → World → Prop} {Q : Exit → Act → World → Prop} (s x : Operand) (t : TypeId)
    (ho : o.op = .call { callee := .builtin .append, args := #[s, x], argTypes := #[t, t] }) (base : Nat) (e : TypeId) (i : TypeInfo) (z : Value) (size bytes : Nat) (ht : P.underlying t = some (.slice e)) (hi : P.info? e = some i) (hz : i.zero = some z)
    (hsize : i.size = size) (hby : i.bytes = bytes) (hzs : z.cells.size = size) (hsz : 0 < size)
    (v : Value) (n : Nat) (xs : List Value) (hs : a.eval s = v) (hown : w.ownsRow base e size v n xs)
    (ao : Option Addr) (m c : Nat) (news : List Value) (hx : a.eval x = .slice ao m c) (hl : news.length = m * size) (hnone : ao = none → m = 0) (hnews : ∀ ad, ao = some ad → ∀ j u, news[j]? = some u → w.cell? (ad.add j) = some u) (h1 : ∀ u ∈ news, u.oneCell' = true)
    (h63 : n + m ≤ maxLen) (hbytes : (n + m) * bytes ≤ 140737488355328) (hbase : base ≤ w.heap.size)
    (h : ∀ v' w', w'.ownsRow base e size v' (n + m) (xs ++ news) → w.grownBy w' v.ownBlock → (∀ k, v'.ownBlock = some k → v.ownBlock = some k ∨ w.heap.size ≤ k) → K (a.put o.dst v') w') : Oper.wp P o a w K Q := by
  have hrun : ∃ v' w', (Builtin.append_ #[t, t] o.type #[v, .slice ao m c]).run P w = .ok v' w' ∧ w'.ownsRow base e size v' (n + m) (xs ++ news) ∧ w.grownBy w' v.ownBlock ∧ (∀ k, v'.ownBlock = some k → v.ownBlock = some k ∨ w.heap.size ≤ k) := by
    cases ao with
    | none =>
      obtain rfl := hnone rfl
      have hn : news = [] := List.eq_nil_of_length_eq_zero (by omega)
      subst hn
      exact ⟨v, w, run_append_nil w base t o.type e i size ht hi v n xs hown c, by simpa using hown, World.grownBy.refl w _, fun k hk => .inl hk⟩
    | some ad =>
      obtain ⟨v', w', r1, r2, r3, _, r5⟩ := run_append_own_at w base t o.type e i z size bytes ht hi hz hsize hby hzs hsz v n xs hown ad m c news hl (hnews ad rfl) h1 h63 hbytes hbase
      refine ⟨v', w', r1, r2, r3, fun k hk => ?_⟩
      rcases r5 with r5 | r5
      · exact .inl (by rw [← r5]; exact hk)
      · right; rw [r5] at hk; simp at hk; omega
  obtain ⟨v', w', r1, r2, r3, r4⟩ := hrun
  unfold Oper.wp execOp
  simp only [ho, resolve, invoke, builtin, Sem.run_bind, Sem.run_pure, Result.andThen_ok, List.map_toArray, List.map_cons, List.map_nil, hs, hx, r1]
  exact h v' w' r2 r3 r4

theorem Dfs.perm {D : Nat → List Nat} {f : Nat} {met : Nat → Bool} {t t' : List Nat} (h : Dfs D f met t) (ht : ∀ x, x ∈ t ↔ x ∈ t') : Dfs D f met t' :=
  ⟨fun k hk => h.sub k (hk.imp id (ht k).2), fun k hk => (h.start k hk).imp id (ht k).1, fun a ha k hk => (h.closed a ha k hk).imp id (ht k).1⟩
end Go.Proofs.Ytbbogkcfngpbbaa
