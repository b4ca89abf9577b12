/- A queue that is popped from its front, and the loop's closure that adds to it. -/
import Derived.Test.YtpbkkajgcdahcaaNatP
import Derived.Test.YtpbkkajgcdahcaaMapK
import Derived.ArgAppend
import Derived.Deep.DeepCutAuto
namespace Go.Proofs.Ytpbkkajgcdahcaa
open Go.RowKit Go.Maps

/-- Numbers in a block of the call's own, from any cell of it on. -/
def OwnQ (w : World) (H : Nat) (v : Value) (q : List Nat) : Prop :=
  (q = [] ∧ v = .slice none 0 0) ∨
  ∃ (g off L cap : Nat) (cur : Array Value), v = .slice (some ⟨g, off, none⟩) L cap ∧ L = q.length ∧ H ≤ g ∧ w.heap[g]? = some (.cells cur 3 (0, 0)) ∧ L ≤ cap ∧ off + cap ≤ cur.size ∧ ∀ (j x : Nat), q[j]? = some x → cur[off + j]? = some (.int .i64 (x : Int))

theorem OwnQ.nil (w : World) (H : Nat) : OwnQ w H (.slice none 0 0) [] := .inl ⟨rfl, rfl⟩

theorem OwnQ.ext {w w' : World} {H : Nat} {v : Value} {q : List Nat} {M : Nat → Prop} (h : OwnQ w H v q) (hx : Ext M w w') (hM : ∀ k, M k → k < H) : OwnQ w' H v q := by
  rcases h with h | ⟨g, off, L, cap, cur, e1, e2, e3, e4, e5⟩
  · exact .inl h
  · exact .inr ⟨g, off, L, cap, cur, e1, e2, e3, hx.heap e4 (fun h => by have := hM g h; omega), e5⟩

theorem OwnQ.below {w w' : World} {H : Nat} {v : Value} {q : List Nat} (h : OwnQ w H v q) (hb : Below w.heap.size w w') : OwnQ w' H v q := h.ext (M := fun _ => False) (Ext.of_below_size hb) (fun _ h => h.elim)

theorem OwnQ.of_own {w : World} {B H : Nat} {v : Value} {q : List Nat} (h : OwnI w B v (ints q)) (hB : H ≤ B) : OwnQ w H v q := by
  unfold OwnI at h
  have e1 : (ints q).length = q.length := by simp [ints]
  rw [e1] at h
  rcases h.2 with ⟨e, e2⟩ | ⟨g, cap, cur, e, e2, e3, e4, _, e6, e7⟩
  · exact .inl ⟨List.eq_nil_of_length_eq_zero e2, e⟩
  · refine .inr ⟨g, 0, q.length, cap, cur, e, rfl, by omega, e3, e4, by omega, fun j x hj => ?_⟩
    have hjl : j < q.length := (List.getElem?_eq_some_iff.1 hj).1
    have h3 : (cur.toList.take (q.length * 1))[j]? = some (.int .i64 (x : Int)) := by rw [e7]; simp [ints, hj]
    rw [List.getElem?_take_of_lt (by omega)] at h3
    rw [Nat.zero_add]
    simpa using h3

theorem OwnQ.pop {w : World} {H g off L cap x : Nat} {q : List Nat} (h : OwnQ w H (.slice (some ⟨g, off, none⟩) L cap) (x :: q)) : OwnQ w H (.slice (some ⟨g, off + 1, none⟩) (L - 1) (cap - 1)) q := by
  rcases h with ⟨h, _⟩ | ⟨g', off', L', cap', cur, e1, e2, e3, e4, e5, e6, e7⟩
  · cases h
  · cases e1
    refine .inr ⟨g, off + 1, L - 1, cap - 1, cur, rfl, by simp at e2; omega, e3, e4, by omega, by simp at e2; omega, fun j y hj => ?_⟩
    have := e7 (j + 1) y (by simpa using hj)
    rwa [show off + 1 + j = off + (j + 1) by omega]

theorem OwnQ.pop0 {w : World} {H g off L x : Nat} {q : List Nat} (h : OwnQ w H (.slice (some ⟨g, off, none⟩) L 1) (x :: q)) : OwnQ w H (.slice (some ⟨g, off, none⟩) (L - 1) 0) q := by
  rcases h with ⟨h, _⟩ | ⟨g', off', L', cap', cur, e1, e2, e3, e4, e5, e6, e7⟩
  · cases h
  · cases e1
    have hq : q = [] := List.eq_nil_of_length_eq_zero (by simp at e2; omega)
    subst hq
    exact .inr ⟨g, off, L - 1, 0, cur, rfl, by simp at e2 ⊢; omega, e3, e4, by simp at e2; omega, by omega, fun j y hj => by simp at hj⟩

theorem OwnQ.shape {w : World} {H x : Nat} {v : Value} {q : List Nat} (h : OwnQ w H v (x :: q)) : ∃ g off L cap, v = .slice (some ⟨g, off, none⟩) L cap ∧ L = q.length + 1 ∧ L ≤ cap ∧ w.cell? ⟨g, off, none⟩ = some (.int .i64 (x : Int)) := by
  rcases h with ⟨h, _⟩ | ⟨g, off, L, cap, cur, e1, e2, e3, e4, e5, e6, e7⟩
  · cases h
  · exact ⟨g, off, L, cap, e1, by simpa using e2, e5, by rw [cell_of_row _ _ _ _ _ _ e4]; simpa using e7 0 x (by simp)⟩

theorem OwnQ.isSlice {w : World} {H : Nat} {v : Value} {q : List Nat} (h : OwnQ w H v q) : ∃ ao L cap, v = .slice ao L cap ∧ L = q.length := by
  rcases h with ⟨h, e⟩ | ⟨g, off, L, cap, cur, e1, e2, _⟩
  · exact ⟨none, 0, 0, e, by rw [h]; rfl⟩
  · exact ⟨_, _, cap, e1, e2⟩

/-- One more. -/
theorem run_append_queue {w : World} {H : Nat} {v : Value} {q : List Nat} (h : OwnQ w H v q) (hH : H ≤ w.heap.size) (x : Nat) (ad : Addr) (c : Nat) (had : w.cell? ad = some (.int .i64 (x : Int))) (hq : q.length ≤ 100000) :
    ∃ v' w', (Builtin.append_ #[27, 27] 27 #[v, .slice (some ad) 1 c]).run Try.prog w = .ok v' w' ∧ OwnQ w' H v' (q ++ [x]) ∧ Ext (H ≤ ·) w w' := by
  obtain ⟨j0, hj0, hj1, hj2, hj3⟩ := info_parts info_int
  have hnews : ∀ (j : Nat) (u : Value), [Value.int .i64 (x : Int)][j]? = some u → w.cell? (ad.add j) = some u := by
    intro j u hu
    cases j with
    | zero => simp at hu; rw [← hu, ← had]; congr 1
    | succ j => simp at hu
  have hone : ∀ u ∈ [Value.int .i64 (x : Int)], u.oneCell' = true := by simp [Value.oneCell']
  have hil : (ints q).length = q.length := by simp [ints]
  have hfin : ∀ v' w', w'.ownsRow w.heap.size 3 1 v' (q.length + 1) ((ints q).map (Value.int .i64) ++ [.int .i64 (x : Int)]) → OwnQ w' H v' (q ++ [x]) := by
    intro v' w' hr
    refine OwnQ.of_own (B := w.heap.size) ?_ hH
    unfold OwnI
    have e1 : (ints (q ++ [x])).length = q.length + 1 := by simp [ints]
    have e2 : (ints (q ++ [x])).map (Value.int .i64) = (ints q).map (Value.int .i64) ++ [.int .i64 (x : Int)] := by simp [ints]
    rw [e1, e2]; exact hr
  rcases h with ⟨rfl, rfl⟩ | ⟨g, off, L, cap, cur, rfl, hL, hHg, hcur, hle, hsz, hcs⟩
  · obtain ⟨v', w', hrun, r1, r2, _⟩ := run_append_own (P := Try.prog) w w.heap.size 27 27 3 j0 (.int .i64 0) 1 8 Try.underlying27 hj0 hj1 hj2 hj3 rfl (by decide) (.slice none 0 0) 0 [] (World.ownsRow_nil w _ _ _) ad 1 c [.int .i64 (x : Int)] rfl hnews hone (by unfold maxLen; omega) (by omega) (Nat.le_refl _)
    exact ⟨v', w', hrun, hfin v' w' (by simpa [ints] using r1), Ext.of_grown r2 (fun k hk => by simp [Value.ownBlock] at hk)⟩
  · have hg : g < w.heap.size := (Array.getElem?_eq_some_iff.1 hcur).1
    have hfr : ∀ o, w.frozen? ⟨g, o, none⟩ = false := fun o => frozen_of_row _ _ _ _ _ hcur
    have hcl : ∀ o, w.cell? ⟨g, o, none⟩ = cur[o]? := fun o => cell_of_row _ _ _ _ _ _ hcur
    by_cases hr : L + 1 ≤ cap
    · have hrun := run_append_room_cells (P := Try.prog) w 27 27 3 j0 Try.underlying27 hj0 g off L cap ad 1 c [.int .i64 (x : Int)] (by rw [hj2]; rfl) hnews hone hr
        (fun j hj => by
          simp at hj
          rw [hcl, hj2, Array.getElem?_eq_getElem (by omega)]; rfl)
        (fun j hj => hfr _)
      refine ⟨_, _, hrun, .inr ⟨g, off, L + 1, cap, cur.setIfInBounds (off + L) (.int .i64 (x : Int)), rfl, by simp [hL], hHg, ?_, hr, by rw [Array.size_setIfInBounds]; exact hsz, fun j y hj => ?_⟩, ?_⟩
      · rw [hj2, Nat.mul_one]
        exact heap_setCell_same _ _ _ _ _ _ hcur
      · by_cases hjl : j < q.length
        · rw [List.getElem?_append_left hjl] at hj
          rw [Array.getElem?_setIfInBounds_ne (by omega)]
          exact hcs j y hj
        · have : j = L := by have := (List.getElem?_eq_some_iff.1 hj).1; simp at this; omega
          subst this
          rw [List.getElem?_append_right (by omega), hL, Nat.sub_self] at hj
          simp at hj
          subst hj
          rw [Array.getElem?_setIfInBounds_self_of_lt (by omega)]
      · exact (Ext.setCells g _ _ w).mono (fun k hk => by omega)
    · obtain ⟨v', w', hrun, r1, r2⟩ := run_append_arg_grows (P := Try.prog) w 27 27 3 j0 (.int .i64 0) 1 8 Try.underlying27 hj0 hj1 hj2 hj3 rfl (by decide) ⟨g, off, none⟩ L cap ((ints q).map (Value.int .i64)) (by simp [ints, hL])
        (fun j u hu => by
          rw [Addr.add_lit, hcl]
          simp only [List.getElem?_map, ints, Option.map_map, Option.map_eq_some_iff] at hu
          obtain ⟨y, hy, rfl⟩ := hu
          exact hcs j y hy) ad 1 c [.int .i64 (x : Int)] rfl hnews (by omega) (by unfold maxLen; omega) (by omega)
      exact ⟨v', w', hrun, hfin v' w' (by rw [← hL]; exact r1), Ext.of_grown r2 (fun k hk => by cases hk)⟩

theorem wpList_append_queue (w : World) {ops : Array Oper} {rest : List Oper} {o : Oper} {a : Act} {Q : Exit → Act → World → Prop} (hgd : o.guard = none) (s x : Operand)
    (ho : o.op = .call { callee := .builtin .append, args := #[s, x], argTypes := #[27, 27] }) (hty : o.type = 27) {H : Nat} {v : Value} {q : List Nat} (hs : a.eval s = v) (h : OwnQ w H v q) (hH : H ≤ w.heap.size) (y : Nat) (ad : Addr) (c : Nat)
    (hx : a.eval x = .slice (some ad) 1 c) (had : w.cell? ad = some (.int .i64 (y : Int))) (hq : q.length ≤ 100000)
    (hK : ∀ v' w', OwnQ w' H v' (q ++ [y]) → Ext (H ≤ ·) w w' → wpList Try.prog ops Q rest (a.put o.dst v') w') : wpList Try.prog ops Q (o :: rest) a w := by
  refine wpList_plain hgd fun K hK' => ?_
  obtain ⟨v', w', hrun, r1, r2⟩ := run_append_queue h hH y ad c had hq
  unfold Oper.wp
  simp [execOp, ho, hty, resolve, invoke, builtin, hs, hx, hrun, Result.andThen]
  exact hK' _ _ (hK v' w' r1 r2)

/-- The state of the walk: the set, its cell, the queue's cell. -/
structure NatQ (w wr : World) (N k : Nat) (S : List Int) (q : List Nat) : Prop where
  map : SetK wr N k S
  mb : wr.heap[N + 1]? = some (.cells #[.map (some N)] 84 (0, 0))
  tb : ∃ v, wr.heap[N + 2]? = some (.cells #[v] 27 (0, 0)) ∧ OwnQ wr (N + 3) v q
  ext : Ext (N ≤ ·) w wr
  size : w.heap.size = N

theorem NatQ.low {w wr : World} {N k : Nat} {S : List Int} {q : List Nat} (h : NatQ w wr N k S q) : N + 3 ≤ wr.heap.size := by
  obtain ⟨v, h1, _⟩ := h.tb
  have := (Array.getElem?_eq_some_iff.1 h1).1
  omega

theorem NatQ.below {w wr w' : World} {N k : Nat} {S : List Int} {q : List Nat} (h : NatQ w wr N k S q) (hb : Below wr.heap.size wr w') : NatQ w w' N k S q := by
  have hx : Ext (fun _ => False) wr w' := Ext.of_below_size hb
  obtain ⟨v, h1, h2⟩ := h.tb
  exact ⟨h.map.ext hx (fun h => h), hx.heap h.mb (fun h => h), ⟨v, hx.heap h1 (fun h => h), h2.below hb⟩, h.ext.trans hx (fun _ h => h.elim), h.size⟩

theorem NatQ.add {w wr : World} {N k : Nat} {S : List Int} {q : List Nat} (h : NatQ w wr N k S q) {x : Int} (hx : -9223372036854775808 ≤ x ∧ x ≤ 9223372036854775807) (hk : k ≤ 1000000000) :
    ∃ w', (Instr.mapUpdate 84 (.map (some N)) (.int .i64 x) (.bool true)).run Try.prog wr = .ok () w' ∧ NatQ w w' N (k + 1) (x :: S) q := by
  obtain ⟨w', hrun, r1, r2⟩ := h.map.add hx hk
  obtain ⟨v, h1, h2⟩ := h.tb
  refine ⟨w', hrun, ⟨r1, r2.heap h.mb (by omega), ⟨v, r2.heap h1 (by omega), h2.ext r2 (fun k hk => by omega)⟩, h.ext.trans r2 (fun j hj => .inl (by show N ≤ j; omega)), h.size⟩⟩

theorem NatQ.put {w wr w4 : World} {N k : Nat} {S : List Int} {q q' : List Nat} {v : Value} (h : NatQ w wr N k S q) (hx : Ext (N + 3 ≤ ·) wr w4) (hv : OwnQ w4 (N + 3) v q') : NatQ w (w4.setCell ⟨N + 2, 0, none⟩ v) N k S q' := by
  obtain ⟨v0, h1, h2⟩ := h.tb
  have h1' := hx.heap h1 (by show ¬ (N + 3 ≤ N + 2); omega)
  have h3 : Ext (· = N + 2) w4 (w4.setCell ⟨N + 2, 0, none⟩ v) := Ext.set1 _ _ _ _
  refine ⟨(h.map.ext hx (by omega)).ext h3 (by omega), h3.heap (hx.heap h.mb (by show ¬ (N + 3 ≤ N + 1); omega)) (by omega), ⟨v, ?_, hv.ext h3 (fun k hk => by omega)⟩, (h.ext.trans hx (fun j hj => .inl (by show N ≤ j; have : N + 3 ≤ j := hj; omega))).trans h3 (fun j hj => .inl (by show N ≤ j; omega)), h.size⟩
  have h5 := Go.heap_setCell_same w4 (N + 2) 0 #[v0] _ v h1'
  simpa using h5

theorem cell_new (w : World) (u : Value) (t : TypeId) : (w.alloc (.cells #[u] t)).cell? ⟨w.heap.size, 0, none⟩ = some u := by
  simp

def NAddP (w wr : World) (N k : Nat) (S : List Int) (q : List Nat) (x : Nat) (w' : World) : Prop := if (x : Int) ∈ S then w' = wr else NatQ w w' N (k + 1) ((x : Int) :: S) (q ++ [x])

set_option maxRecDepth 100000 in
set_option maxHeartbeats 4000000 in
/-- The closure. -/
theorem nadd_calls (w wr : World) (N k : Nat) (S : List Int) (q : List Nat) (h : NatQ w wr N k S q) (x : Nat) (hx : x ≤ 100000) (hk : k ≤ 100000) (hq : q.length ≤ 100000) :
    Calls Try.prog 75 #[.int .i64 (x : Int), .pointer (some ⟨N + 1, 0, none⟩), .pointer (some ⟨N + 2, 0, none⟩)] wr fun e w' =>
      e = .returned (.tuple #[]) ∧ NAddP w wr N k S q x w' := by
  have hlk := h.map.look (x := (x : Int)) (by omega)
  have c1 : wr.cell? ⟨N + 1, 0, none⟩ = some (.map (some N)) := by rw [cell_of_row _ _ _ _ _ _ h.mb]; rfl
  obtain ⟨w2, hup, h2⟩ := h.add (x := (x : Int)) (by omega) (by omega)
  obtain ⟨d, hd⟩ : ∃ d, decide ((x : Int) ∈ S) = d := ⟨_, rfl⟩
  rw [hd] at hlk
  obtain ⟨v, tb2, hq2⟩ := h2.tb
  have c2 : w2.cell? ⟨N + 2, 0, none⟩ = some v := by rw [cell_of_row _ _ _ _ _ _ tb2]; rfl
  have hlow := h2.low
  have HD := Lib.hid hd
  have H2 := Lib.hid h2
  have HQ2 := Lib.hid hq2
  have HTB := Lib.hid tb2
  clear hd h h2 hq2 tb2
  go_enter Try.func75, Try.ntmps75
  cases d with
  | true =>
    have hm : (x : Int) ∈ S := of_decide_eq_true HD.out
    have HM : Hid (NAddP w wr N k S q x wr) := by unfold Hid NAddP; rw [if_pos hm]
    clear hm
    go_wp2
    go_end0
    exact ⟨rfl, HM.out⟩
  | false =>
    have hm : ¬ ((x : Int) ∈ S) := of_decide_eq_false HD.out
    have HM := Lib.hid hm
    clear hm
    go_wp2_with (at_builtin; refine wpList_append_queue _ rfl _ _ rfl rfl rfl (HQ2.out.below ((Below.refl w2.heap.size w2).alloc (Nat.le_refl _) _)) ?c1 x ⟨w2.heap.size, 0, none⟩ 1 rfl (cell_new _ _ _) (by omega) ?_)
    case c1 => rw [World.size_alloc]; omega
    intro v' w4 hq4 hx4
    obtain ⟨ao4, L4, cap4, rfl, hL4⟩ := hq4.isSlice
    clear hL4
    have hx4' : Ext (N + 3 ≤ ·) w2 w4 := ((Ext.refl _ w2).alloc _).trans hx4 (fun j hj => .inl hj)
    have HN := Lib.hid (H2.out.put hx4' hq4)
    have f4 : w4.frozen? ⟨N + 2, 0, none⟩ = false := by
      rw [hx4'.frozen (a := ⟨N + 2, 0, none⟩) (by show N + 2 < _; omega) (by show ¬ (N + 3 ≤ N + 2); omega)]
      exact frozen_of_row _ _ _ _ _ HTB.out
    have c4 : w4.cell? ⟨N + 2, 0, none⟩ = some v := by
      rw [hx4'.cell (a := ⟨N + 2, 0, none⟩) (by show N + 2 < _; omega) (by show ¬ (N + 3 ≤ N + 2); omega)]; exact c2
    clear hq4 hx4 hx4'
    go_wp2
    go_end0
    exact ⟨rfl, by unfold NAddP; rw [if_neg HM.out]; exact HN.out⟩
end Go.Proofs.Ytpbkkajgcdahcaa
