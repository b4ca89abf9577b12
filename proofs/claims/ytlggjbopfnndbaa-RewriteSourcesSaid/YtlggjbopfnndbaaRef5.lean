import Derived.Test.YtlggjbopfnndbaaReads

namespace Go.Proofs.Ytlggjbopfnndbaa
open Go.RowKit

theorem IntsAt.lit (w : World) (cs : Array Value) (xs : List Int) {B : Nat} (hB : B = w.heap.size) (h : cs = (xs.map (Value.int .i64)).toArray) : IntsAt (w.alloc (.cells cs 3)) (some ⟨B, 0, none⟩) xs := by
  subst hB h
  intro _
  refine ⟨w.heap.size, 0, rfl, by simp, fun i u hi => ?_⟩
  rw [Nat.zero_add, World.cell?_alloc_new]
  simp [hi]

theorem in5_lit (op : Int) (xs : List Int) (n : Nat) (hn : n = xs.length) (hl : xs.length ≤ 90000) (W : World) (ao : Option Addr) (h : IntsAt W ao xs) :
    Calls Try.prog 108 #[.int .i64 op, .slice ao n n] W fun e w' => e = .returned (.bool (decide (op ∈ xs))) ∧ W = w' := by
  subst hn; exact in5_calls W _ ao xs op hl h

set_option maxRecDepth 100000 in
set_option maxHeartbeats 1000000 in
theorem refWrites_calls (i : Ins) (w : World) (hok : i.ok) : Calls Try.prog 85 #[.agg i.cells] w fun e w' => e = .returned (.tuple #[.int .i64 (writesOf i).1, .bool (writesOf i).2]) ∧ Below w.heap.size w w' := by
  obtain ⟨op, d, a, b, f, n, sign, argsV, modeV, tgt, els, ln, cl, args⟩ := i
  obtain ⟨⟨ao, cap, h1⟩, ao2, n2, cap2, h2⟩ := hok
  simp only at h1 h2
  subst h1 h2
  simp only [Ins.cells, writesOf]
  have HD : Hid (∀ (W : World) ao, IntsAt W ao [1, 2, 3, 4, 5, 7, 9, 10, 12, 14, 15] → Calls Try.prog 108 #[.int .i64 op, .slice ao 11 11] W fun e w' => e = .returned (.bool (shD op)) ∧ W = w') :=
    fun W ao h => in5_lit op [1, 2, 3, 4, 5, 7, 9, 10, 12, 14, 15] 11 rfl (by simp) W ao h
  cases hd : shD op with
  | true =>
    go_enter Try.func85, Try.ntmps85
    go_wp2_with (go_at_call 108; refine (HD.out _ _ (IntsAt.lit _ _ _ (by simp) rfl)).mono ?_; rintro e w' ⟨rfl, rfl⟩)
    go_ret2
    exact ⟨rfl, ((Below.refl _ _).alloc (Nat.le_refl _) _).alloc (by simp) _⟩
  | false =>
    go_enter Try.func85, Try.ntmps85
    go_wp2_with (go_at_call 108; refine (HD.out _ _ (IntsAt.lit _ _ _ (by simp) rfl)).mono ?_; rintro e w' ⟨rfl, rfl⟩)
    go_ret2
    exact ⟨rfl, ((Below.refl _ _).alloc (Nat.le_refl _) _).alloc (by simp) _⟩

set_option maxRecDepth 100000 in
set_option maxHeartbeats 4000000 in
theorem refReads_calls (i : Ins) (w : World) (hin : i.args_in w) (hl : i.args.length ≤ 40) : Calls Try.prog 87 #[.agg i.cells] w (GivesI w (readsOf i)) := by
  obtain ⟨op, d, a, b, f, n, sign, argsV, modeV, tgt, els, ln, cl, args⟩ := i
  obtain ⟨⟨_, ao2, n2, cap2, h2⟩, ao, cap, h1, hrow⟩ := hin
  simp only at h1 h2 hrow hl
  subst h1 h2
  simp only [Ins.cells, readsOf]
  have HA : Hid (∀ (W : World) ao, IntsAt W ao [3, 4, 6, 7, 8, 9, 10, 11, 13, 14, 17, 18] → Calls Try.prog 108 #[.int .i64 op, .slice ao 12 12] W fun e w' => e = .returned (.bool (shA op)) ∧ W = w') :=
    fun W ao h => in5_lit op [3, 4, 6, 7, 8, 9, 10, 11, 13, 14, 17, 18] 12 rfl (by simp) W ao h
  have HB : Hid (∀ (W : World) ao, IntsAt W ao [4, 8, 11] → Calls Try.prog 108 #[.int .i64 op, .slice ao 3 3] W fun e w' => e = .returned (.bool (shB op)) ∧ W = w') :=
    fun W ao h => in5_lit op [4, 8, 11] 3 rfl (by simp) W ao h
  have HROW := Lib.hid hrow.at_
  clear hrow
  obtain ⟨N, hN⟩ : ∃ N, w.heap.size = N := ⟨_, rfl⟩
  obtain ⟨W1, hW1⟩ : ∃ W1, w.alloc (.cells #[.int .i64 op, .int .i64 d, .int .i64 a, .int .i64 b, .int .i64 f, .int .i64 n, .string sign, .slice ao args.length cap, .slice ao2 n2 cap2, .int .i64 tgt, .int .i64 els, .int .i64 ln, .int .i64 cl] 62) = W1 := ⟨_, rfl⟩
  have hb1 : Below N w W1 := by rw [← hW1, ← hN]; exact (Below.refl _ _).alloc (Nat.le_refl _) _
  have hs1 : W1.heap.size = N + 1 := by rw [← hW1]; simp [hN]
  have hr1 : W1.heap[N]? = some (.cells #[.int .i64 op, .int .i64 d, .int .i64 a, .int .i64 b, .int .i64 f, .int .i64 n, .string sign, .slice ao args.length cap, .slice ao2 n2 cap2, .int .i64 tgt, .int .i64 els, .int .i64 ln, .int .i64 cl] 62 (0, 0)) := by
    rw [← hW1, ← hN]; exact alloc_at _ _
  have HK : Hid (∀ W, Ext (fun k => N + 1 ≤ k) W1 W → W.cell? ⟨N, 0, none⟩ = some (.int .i64 op) ∧ W.cell? ⟨N, 2, none⟩ = some (.int .i64 a) ∧ W.cell? ⟨N, 3, none⟩ = some (.int .i64 b) ∧ W.cell? ⟨N, 7, none⟩ = some (.slice ao args.length cap) ∧ N < W.heap.size ∧ Below N w W ∧ IntsAt W ao args) := by
    intro W hx
    have h4 := hx.heap hr1 (by omega)
    have hbW : Below N w W := hb1.trans ((hx.below (B := N + 1) (by omega) (fun k hk => hk)).mono (by omega))
    refine ⟨?_, ?_, ?_, ?_, (Array.getElem?_eq_some_iff.1 h4).1, hbW, HROW.out.below (by rw [hN]; exact hbW)⟩ <;> (rw [cell_of_row _ _ _ _ _ _ h4]; rfl)
  have HS1 := Lib.hid hs1
  have HW1 := Lib.hid hW1
  have hs1' : N + 1 ≤ W1.heap.size := by omega
  clear hb1 hs1 hr1 hW1 HROW
  by_cases h15 : op = 15
  · subst h15
    have ea : shA 15 = false := by decide
    have eb : shB 15 = false := by decide
    rw [ea, eb, if_neg (by decide), if_neg (by decide), if_pos rfl]
    rw [ea] at HA
    rw [eb] at HB
    simp only [List.nil_append]
    clear ea eb
    go_enter Try.func87, Try.ntmps87
    go_wp2_with fail
    go_at_call 108
    rw [HW1.out]
    refine (HA.out _ _ (IntsAt.lit _ _ _ (by have := HS1.out; omega) rfl)).mono ?_
    rintro e w2 ⟨rfl, hw2⟩
    have hx2 : Ext (fun k => N + 1 ≤ k) W1 w2 := by rw [← hw2]; exact (Ext.refl _ _).alloc _
    obtain ⟨k0, k2, k3, k7, hlt, hbN, hat⟩ := HK.out w2 hx2
    have HX2 := Lib.hid hx2
    have HAT2 := Lib.hid hat
    have HBN2 := Lib.hid hbN
    clear hw2 hx2 hat hbN
    go_wp2_with fail
    go_at_call 108
    refine (HB.out _ _ (IntsAt.lit _ _ _ rfl rfl)).mono ?_
    rintro e w4 ⟨rfl, hw4⟩
    have hx4 : Ext (fun k => N + 1 ≤ k) W1 w4 := by rw [← hw4]; exact HX2.out.alloc _
    have hy4 : Below w2.heap.size w2 w4 := by rw [← hw4]; exact (Below.refl _ _).alloc (Nat.le_refl _) _
    obtain ⟨k0, k2, k3, k7, hlt, hbN, hat⟩ := HK.out w4 hx4
    have HX4 := Lib.hid hx4
    have HY4 := Lib.hid hy4
    have HAT4 := Lib.hid hat
    have HBN4 := Lib.hid hbN
    clear hw4 hx4 hy4 hat hbN
    have hlt1 : N < w4.heap.size + 1 := by omega
    go_wp2_with (at_builtin; refine wpList_append_ints rfl (.tmp 25) (.tmp 27) rfl (N + 1) (.slice none 0 0) [] rfl (OwnI.nil _ _) _ args cap rfl HAT4.out ?c51 ?c52 ?_)
    case c51 => first | omega | (simp <;> omega) | simp
    case c52 => first | omega | (simp <;> omega) | simp
    intro v5 w5 hown5 hgrow5
    obtain ⟨ao5, cap5, rfl⟩ := hown5.isSlice
    have hx5 : Ext (fun k => N + 1 ≤ k) W1 w5 := HX4.out.trans (Ext.of_grown hgrow5 (fun k hk => .inl (by first | (have h3 := ((OwnI.nil _ _).lt k hk).1; exact h3) | (simp [Value.ownBlock] at hk)))) (fun j hj => .inl hj)
    have HG : Hid (GivesI w args (.returned (.slice ao5 args.length cap5)) w5) := ⟨_, _, rfl, by rw [hN]; exact OwnI.mono (by simpa using hown5) (Nat.le_succ N), by rw [hN]; exact (HK.out w5 hx5).2.2.2.2.2.1⟩
    clear hown5 hgrow5 hx5
    try simp only [List.nil_append]
    go_wp2
    go_ret
    exact HG.out
  · have h15' : (op == 15) = false := by simpa using h15
    rw [if_neg h15, List.append_nil]
    clear h15
    cases ha : shA op with
    | false =>
      have hb : shB op = false := by
        cases h : shB op with
        | false => rfl
        | true => rw [shB_shA h] at ha; cases ha
      rw [hb, if_neg (by decide), if_neg (by decide)]
      rw [ha] at HA
      rw [hb] at HB
      clear ha hb
      go_enter Try.func87, Try.ntmps87
      go_wp2_with fail
      go_at_call 108
      rw [HW1.out]
      refine (HA.out _ _ (IntsAt.lit _ _ _ (by have := HS1.out; omega) rfl)).mono ?_
      rintro e w2 ⟨rfl, hw2⟩
      have hx2 : Ext (fun k => N + 1 ≤ k) W1 w2 := by rw [← hw2]; exact (Ext.refl _ _).alloc _
      obtain ⟨k0, k2, k3, k7, hlt, hbN, hat⟩ := HK.out w2 hx2
      have HX2 := Lib.hid hx2
      have HAT2 := Lib.hid hat
      have HBN2 := Lib.hid hbN
      clear hw2 hx2 hat hbN
      go_wp2_with fail
      go_at_call 108
      refine (HB.out _ _ (IntsAt.lit _ _ _ rfl rfl)).mono ?_
      rintro e w4 ⟨rfl, hw4⟩
      have hx4 : Ext (fun k => N + 1 ≤ k) W1 w4 := by rw [← hw4]; exact HX2.out.alloc _
      have hy4 : Below w2.heap.size w2 w4 := by rw [← hw4]; exact (Below.refl _ _).alloc (Nat.le_refl _) _
      obtain ⟨k0, k2, k3, k7, hlt, hbN, hat⟩ := HK.out w4 hx4
      have HX4 := Lib.hid hx4
      have HY4 := Lib.hid hy4
      have HAT4 := Lib.hid hat
      have HBN4 := Lib.hid hbN
      clear hw4 hx4 hy4 hat hbN
      go_wp2
      go_ret
      exact ⟨none, 0, rfl, OwnI.nil _ _, by first | exact HBN4.out | (rw [hN]; exact HBN4.out)⟩
    | true =>
      rw [ha] at HA
      cases hb : shB op with
      | false =>
        rw [if_pos rfl, if_neg (by decide), List.append_nil]
        rw [hb] at HB
        clear ha hb
        go_enter Try.func87, Try.ntmps87
        go_wp2_with fail
        go_at_call 108
        rw [HW1.out]
        refine (HA.out _ _ (IntsAt.lit _ _ _ (by have := HS1.out; omega) rfl)).mono ?_
        rintro e w2 ⟨rfl, hw2⟩
        have hx2 : Ext (fun k => N + 1 ≤ k) W1 w2 := by rw [← hw2]; exact (Ext.refl _ _).alloc _
        obtain ⟨k0, k2, k3, k7, hlt, hbN, hat⟩ := HK.out w2 hx2
        have HX2 := Lib.hid hx2
        have HAT2 := Lib.hid hat
        have HBN2 := Lib.hid hbN
        clear hw2 hx2 hat hbN
        have hlt1 : N < w2.heap.size + 1 := by omega
        go_wp2_with (at_builtin; refine wpList_append_ints rfl (.tmp 8) (.tmp 11) rfl (N + 1) (.slice none 0 0) [] rfl (OwnI.nil _ _) _ [a] 1 rfl (IntsAt.one _ _ rfl) ?c31 ?c32 ?_)
        case c31 => first | omega | (simp <;> omega) | simp
        case c32 => first | omega | (simp <;> omega) | simp
        intro v3 w3 hown3 hgrow3
        obtain ⟨ao3, cap3, rfl⟩ := hown3.isSlice
        have hx3 : Ext (fun k => N + 1 ≤ k) W1 w3 := (HX2.out.alloc _).trans (Ext.of_grown hgrow3 (fun k hk => .inl (by first | (have h3 := ((OwnI.nil _ _).lt k hk).1; exact h3) | (simp [Value.ownBlock] at hk)))) (fun j hj => .inl hj)
        obtain ⟨k0, k2, k3, k7, hlt, _, _⟩ := HK.out w3 hx3
        have HX3 := Lib.hid hx3
        have HO3 : Hid (OwnI w3 (N + 1) (.slice ao3 [a].length cap3) [a]) := by unfold Hid; simpa using hown3
        clear hown3 hgrow3 hx3
        try simp only [List.nil_append]
        go_wp2_with fail
        go_at_call 108
        refine (HB.out _ _ (IntsAt.lit _ _ _ rfl rfl)).mono ?_
        rintro e w4 ⟨rfl, hw4⟩
        have hx4 : Ext (fun k => N + 1 ≤ k) W1 w4 := by rw [← hw4]; exact HX3.out.alloc _
        have hy4 : Below w3.heap.size w3 w4 := by rw [← hw4]; exact (Below.refl _ _).alloc (Nat.le_refl _) _
        obtain ⟨k0, k2, k3, k7, hlt, hbN, hat⟩ := HK.out w4 hx4
        have HX4 := Lib.hid hx4
        have HY4 := Lib.hid hy4
        have HAT4 := Lib.hid hat
        have HBN4 := Lib.hid hbN
        clear hw4 hx4 hy4 hat hbN
        have HG : Hid (GivesI w [a] (.returned (.slice ao3 [a].length cap3)) w4) := ⟨_, _, rfl, by rw [hN]; exact OwnI.mono (ownsRow_below HO3.out HY4.out) (Nat.le_succ N), by rw [hN]; exact HBN4.out⟩
        go_wp2
        go_ret
        exact HG.out
      | true =>
        rw [if_pos rfl, if_pos rfl]
        rw [hb] at HB
        clear ha hb
        go_enter Try.func87, Try.ntmps87
        go_wp2_with fail
        go_at_call 108
        rw [HW1.out]
        refine (HA.out _ _ (IntsAt.lit _ _ _ (by have := HS1.out; omega) rfl)).mono ?_
        rintro e w2 ⟨rfl, hw2⟩
        have hx2 : Ext (fun k => N + 1 ≤ k) W1 w2 := by rw [← hw2]; exact (Ext.refl _ _).alloc _
        obtain ⟨k0, k2, k3, k7, hlt, hbN, hat⟩ := HK.out w2 hx2
        have HX2 := Lib.hid hx2
        have HAT2 := Lib.hid hat
        have HBN2 := Lib.hid hbN
        clear hw2 hx2 hat hbN
        have hlt1 : N < w2.heap.size + 1 := by omega
        go_wp2_with (at_builtin; refine wpList_append_ints rfl (.tmp 8) (.tmp 11) rfl (N + 1) (.slice none 0 0) [] rfl (OwnI.nil _ _) _ [a] 1 rfl (IntsAt.one _ _ rfl) ?c31 ?c32 ?_)
        case c31 => first | omega | (simp <;> omega) | simp
        case c32 => first | omega | (simp <;> omega) | simp
        intro v3 w3 hown3 hgrow3
        obtain ⟨ao3, cap3, rfl⟩ := hown3.isSlice
        have hx3 : Ext (fun k => N + 1 ≤ k) W1 w3 := (HX2.out.alloc _).trans (Ext.of_grown hgrow3 (fun k hk => .inl (by first | (have h3 := ((OwnI.nil _ _).lt k hk).1; exact h3) | (simp [Value.ownBlock] at hk)))) (fun j hj => .inl hj)
        obtain ⟨k0, k2, k3, k7, hlt, _, _⟩ := HK.out w3 hx3
        have HX3 := Lib.hid hx3
        have HO3 : Hid (OwnI w3 (N + 1) (.slice ao3 [a].length cap3) [a]) := by unfold Hid; simpa using hown3
        clear hown3 hgrow3 hx3
        try simp only [List.nil_append]
        go_wp2_with fail
        go_at_call 108
        refine (HB.out _ _ (IntsAt.lit _ _ _ rfl rfl)).mono ?_
        rintro e w4 ⟨rfl, hw4⟩
        have hx4 : Ext (fun k => N + 1 ≤ k) W1 w4 := by rw [← hw4]; exact HX3.out.alloc _
        have hy4 : Below w3.heap.size w3 w4 := by rw [← hw4]; exact (Below.refl _ _).alloc (Nat.le_refl _) _
        obtain ⟨k0, k2, k3, k7, hlt, hbN, hat⟩ := HK.out w4 hx4
        have HX4 := Lib.hid hx4
        have HY4 := Lib.hid hy4
        have HAT4 := Lib.hid hat
        have HBN4 := Lib.hid hbN
        clear hw4 hx4 hy4 hat hbN
        have HO4 : Hid (OwnI w4 (N + 1) (.slice ao3 1 cap3) [a]) := ownsRow_below HO3.out HY4.out
        have hlt1 : N < w4.heap.size + 1 := by omega
        go_wp2_with (at_builtin; refine wpList_append_ints rfl (.tmp 17) (.tmp 20) rfl (N + 1) (.slice ao3 1 cap3) [a] rfl (ownsRow_below HO4.out ((Below.refl _ _).alloc (Nat.le_refl _) _)) _ [b] 1 rfl (IntsAt.one _ _ rfl) ?c51 ?c52 ?_)
        case c51 => first | omega | (simp <;> omega) | simp
        case c52 => first | omega | (simp <;> omega) | simp
        intro v5 w5 hown5 hgrow5
        obtain ⟨ao5, cap5, rfl⟩ := hown5.isSlice
        have hx5 : Ext (fun k => N + 1 ≤ k) W1 w5 := (HX4.out.alloc _).trans (Ext.of_grown hgrow5 (fun k hk => .inl (by first | (have h3 := (HO4.out.lt k hk).1; exact h3) | (simp [Value.ownBlock] at hk)))) (fun j hj => .inl hj)
        obtain ⟨k0, k2, k3, k7, hlt, hbN, _⟩ := HK.out w5 hx5
        have HG : Hid (GivesI w [a, b] (.returned (.slice ao5 [a, b].length cap5)) w5) := ⟨_, _, rfl, by rw [hN]; exact OwnI.mono (by simpa using hown5) (Nat.le_succ N), by rw [hN]; exact hbN⟩
        clear hown5 hgrow5 hx5 hbN
        try simp only [List.cons_append, List.nil_append]
        go_wp2
        go_ret
        exact HG.out
end Go.Proofs.Ytlggjbopfnndbaa
