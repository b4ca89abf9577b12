/- ir.Right: is a name there twice? -/
import Derived.Test.YtbbogkcfngpbbaaIrB
import Derived.Test.YtbbogkcfngpbbaaMapS
import Derived.Deep.WholeRow
import Derived.Laws.OwnMore
namespace Go.Proofs.Ytbbogkcfngpbbaa
open Go.RowKit Go.Maps

theorem info_string : (Try.prog.info? 9).map (fun i => (i.zero, i.size, i.bytes)) = some (some (.string ⟨#[]⟩), 1, 16) := by kernel_rfl

/-- A slice of strings that the call made. -/
def OwnS (w : World) (base : Nat) (v : Value) (xs : List ByteArray) : Prop := w.ownsRow base 9 1 v xs.length (xs.map Value.string)

theorem OwnS.nil (w : World) (base : Nat) : OwnS w base (.slice none 0 0) [] := World.ownsRow_nil _ _ _ _

theorem OwnS.isSlice {w : World} {base : Nat} {v : Value} {xs : List ByteArray} (h : OwnS w base v xs) : ∃ ao cap, v = .slice ao xs.length cap := by
  rcases h.2 with ⟨h1, h2⟩ | ⟨g, cap, cur, h1, _⟩
  · exact ⟨none, 0, by rw [h2]; exact h1⟩
  · exact ⟨_, _, h1⟩

theorem OwnS.at_ {w : World} {base n cap : Nat} {ao : Option Addr} {xs : List ByteArray} (h : OwnS w base (.slice ao n cap) xs) : StrsAt w ao xs := by
  intro hne
  rcases h.2 with ⟨h1, h2⟩ | ⟨g, cap', cur, h1, h2, h3, h4, h5, h6, h7⟩
  · exact absurd (List.eq_nil_of_length_eq_zero h2) hne
  · have hs : ao = some ⟨g, 0, none⟩ := by simp only [Value.slice.injEq] at h1; exact h1.1
    refine ⟨g, 0, hs, (Array.getElem?_eq_some_iff.1 h3).1, fun k z hz => ?_⟩
    rw [Nat.zero_add, cell_of_row w g k cur _ _ h3]
    have hk : k < xs.length := (List.getElem?_eq_some_iff.1 hz).1
    have e : (cur.toList.take (xs.length * 1))[k]? = some (.string z) := by rw [h7]; simp [hz]
    rw [List.getElem?_take, if_pos (by omega)] at e
    simpa using e

theorem OwnS.below {w w' : World} {base : Nat} {v : Value} {xs : List ByteArray} (h : OwnS w base v xs) (hb : Below w.heap.size w w') : OwnS w' base v xs := ownsRow_below h hb

set_option maxHeartbeats 1000000 in
/-- 'append(s, x)' of a string, s the call's own. -/
theorem wpList_append_str {w : World} {ops : Array Oper} {rest : List Oper} {o : Oper} {a : Act} {Q : Exit → Act → World → Prop} (hgd : o.guard = none) (s x : Operand)
    (ho : o.op = .call { callee := .builtin .append, args := #[s, x], argTypes := #[87, 87] }) (base : Nat) (v : Value) (xs : List ByteArray) (hs : a.eval s = v) (hown : OwnS w base v xs)
    (ad : Addr) (z : ByteArray) (c : Nat) (hx : a.eval x = .slice (some ad) 1 c) (hat : w.cell? ad = some (.string z)) (h63 : xs.length ≤ 90000) (hbase : base ≤ w.heap.size)
    (h : ∀ v' w', OwnS w' base v' (xs ++ [z]) → w.grownBy w' v.ownBlock → wpList Try.prog ops Q rest (a.put o.dst v') w') : wpList Try.prog ops Q (o :: rest) a w := by
  obtain ⟨i0, hi, hz0, hz1, hz2⟩ := info_parts info_string
  have hh : ∀ v' w', w'.ownsRow base 9 1 v' (xs.length + 1) (xs.map Value.string ++ [.string z]) → w.grownBy w' v.ownBlock → wpList Try.prog ops Q rest (a.put o.dst v') w' := fun v' w' h1 h2 => h v' w' (by unfold OwnS; simpa using h1) h2
  refine wpList_append_own _ hgd s x 87 ho base 9 i0 (.string ⟨#[]⟩) 1 16 Try.underlying87 hi hz0 hz1 hz2 rfl (by decide) v xs.length _ hs hown ad 1 c [.string z] hx (by simp) (fun j u hu => ?_) (by simp; rfl) (by unfold maxLen; omega) (by omega) hbase (fun v' w' h1 h2 _ => hh v' w' h1 h2)
  have : j < 1 := (List.getElem?_eq_some_iff.1 hu).1
  obtain rfl : j = 0 := by omega
  simp at hu; subst hu
  obtain ⟨b, o, s⟩ := ad
  simpa [Addr.add] using hat

theorem nodup_snoc {xs : List ByteArray} {j : Nat} {y : ByteArray} (h : (xs.take j).Nodup) (hy : xs[j]? = some y) (hn : y ∉ xs.take j) : (xs.take (j + 1)).Nodup := by
  rw [take_snocI hy, List.nodup_append]
  exact ⟨h, by simp, by intro a ha b hb; simp at hb; subst hb; rintro rfl; exact hn ha⟩

theorem not_nodup {xs : List ByteArray} {j : Nat} {y : ByteArray} (hy : xs[j]? = some y) (hn : y ∈ xs.take j) : ¬ xs.Nodup := by
  intro h
  have h2 : (xs.take (j + 1)).Nodup := h.sublist (List.take_sublist _ _)
  rw [take_snocI hy, List.nodup_append] at h2
  exact h2.2.2 y hn y (by simp) rfl

set_option maxRecDepth 100000 in
set_option maxHeartbeats 4000000 in
theorem doubled_calls (w : World) (c : Nat) (ao : Option Addr) (xs : List ByteArray) (hn : xs.length ≤ 90000) (hsz : ∀ x ∈ xs, x.size ≤ maxLen) (h : StrsAt w ao xs) :
    Calls Try.prog 85 #[.slice ao xs.length c] w fun e w' => e = .returned (.bool (decide (¬ xs.Nodup))) ∧ Below w.heap.size w w' := by
  have hmm := @run_makeMap Try.prog
  have H := Lib.hid h
  have HSZ := Lib.hid hsz
  obtain ⟨N, hN⟩ : ∃ N, w.heap.size = N := ⟨_, rfl⟩
  obtain ⟨W1, hW1⟩ : ∃ W1, w.alloc (.map #[] 0) = W1 := ⟨_, rfl⟩
  have hb1 : Below N w W1 := by rw [← hW1, ← hN]; exact (Below.refl _ _).alloc (Nat.le_refl _) _
  have HS0 : Hid (SetS W1 N 0 []) := by rw [← hW1, ← hN]; exact SetS.made w
  have HB1 := Lib.hid hb1
  have HN := Lib.hid hN
  obtain ⟨R, hR⟩ : ∃ R, decide (¬ xs.Nodup) = R := ⟨_, rfl⟩
  rw [hR]
  have HR := Lib.hid hR
  clear h hsz hb1 hR
  go_enter Try.func85, Try.ntmps85
  go_wp2_with fail
  go_loopw [9] (fun c wr => ∃ (j : Nat) (S : List ByteArray), j ≤ xs.length ∧ c = .int .i64 (j : Int) ∧ SetS wr N j S ∧ (∀ z, z ∈ S ↔ z ∈ xs.take j) ∧ (xs.take j).Nodup ∧ Below N w wr) (fun c _ => xs.length - (intOf c).toNat)
  case atStart => exact ⟨0, [], Nat.zero_le _, rfl, HS0.out, by simp, by simp, HB1.out⟩
  case round =>
    obtain ⟨j, S, hj, rfl, hset, hmem, hnd, hb⟩ := hrel
    have HB := Lib.hid hb
    have HND := Lib.hid hnd
    have HMEM := Lib.hid hmem
    by_cases hjl : j < xs.length
    · obtain ⟨y, hy⟩ : ∃ y, xs[j]? = some y := ⟨_, List.getElem?_eq_getElem hjl⟩
      obtain ⟨g1, off, rfl, hg1, q1⟩ := (H.out.below (by rw [HN.out]; exact hb)) (by intro e; rw [e] at hjl; simp at hjl)
      have d1 : wr.cell? ⟨g1, off + j, none⟩ = some (.string y) := q1 j y hy
      have hys := HSZ.out y (List.mem_of_getElem? hy)
      have hjI : (j : Int) < (xs.length : Int) := by omega
      have hlk := hset.look hys
      obtain ⟨w2, hup, hs2, hx2⟩ := hset.add hys (show j < maxLen by unfold maxLen; omega)
      obtain ⟨d, hd⟩ : ∃ d, decide (y ∈ S) = d := ⟨_, rfl⟩
      rw [hd] at hlk
      have HD := Lib.hid hd
      have HY := Lib.hid hy
      have HS2 := Lib.hid hs2
      have HX2 := Lib.hid hx2
      have hNw := hset.lt
      clear hset hmem hnd hb hy q1 hys hd hs2 hx2
      cases d with
      | true =>
        have HRR : Hid (R = true) := by
          unfold Hid
          rw [← HR.out]
          exact decide_eq_true (not_nodup HY.out ((HMEM.out y).1 (of_decide_eq_true HD.out)))
        go_wp2
        go_ret
        rw [HRR.out]
        try rw [HN.out]
        exact ⟨rfl, HB.out⟩
      | false =>
        go_wp2
        go_roundw
        case rel =>
          have hni : y ∉ xs.take j := fun h => of_decide_eq_false HD.out ((HMEM.out y).2 h)
          refine ⟨j + 1, y :: S, by omega, by go_num, HS2.out, fun z => ?_, nodup_snoc HND.out HY.out hni, ?_⟩
          · rw [take_snocI HY.out, List.mem_cons, List.mem_append, HMEM.out z, List.mem_singleton, or_comm]
          · have hx3 : Ext (N ≤ ·) wr w2 := HX2.out.mono (fun k hk => by show N ≤ k; omega)
            exact HB.out.trans (hx3.below (by omega) (fun k hk => hk))
        case measure => simp [intOf]; omega
    · have hje : j = xs.length := by omega
      subst hje
      have HRR : Hid (R = false) := by
        unfold Hid
        rw [List.take_length] at hnd
        rw [← HR.out]
        exact decide_eq_false (by simpa using hnd)
      clear hset hmem hnd hb
      go_wp2
      go_ret
      rw [HRR.out]
      try rw [HN.out]
      exact ⟨rfl, HB.out⟩
end Go.Proofs.Ytbbogkcfngpbbaa
