/- The reference's Table of layer 10. -/
import Derived.Test.YtpbkkajgcdahcaaDoorBeh10
namespace Go.Proofs.YtpbkkajgcdahcaaDoor
open Go.RowKit

theorem info_rowB : (Tryd.prog.info? 67).map (fun i => (i.zero, i.size, i.bytes)) = some (some (.slice none 0 0), 1, 24) := by kernel_rfl

/-- A row of m rows of truths, n each; the u-th has S u. -/
def TabB (w : World) (base n m : Nat) (S : Nat → List Nat) (v : Value) : Prop :=
  ∃ bs : Nat → Nat, w.ownsRow base 67 1 v m ((List.range m).map fun u => Value.slice (some ⟨bs u, 0, none⟩) n n) ∧ ∀ u, u < m → base ≤ bs u ∧ w.heap[bs u]? = some (.cells (seenCells n (S u)) 4 (0, 0))

theorem TabB.nil (w : World) (base n : Nat) (S : Nat → List Nat) : TabB w base n 0 S (.slice none 0 0) :=
  ⟨fun _ => 0, World.ownsRow_nil _ _ _ _, fun u hu => by omega⟩

theorem TabB.below {w w' : World} {base n m : Nat} {S : Nat → List Nat} {v : Value} (h : TabB w base n m S v) (hb : Below w.heap.size w w') : TabB w' base n m S v := by
  obtain ⟨bs, h1, h2⟩ := h
  exact ⟨bs, ownsRow_below h1 hb, fun u hu => ⟨(h2 u hu).1, (hb.block _ (Array.getElem?_eq_some_iff.1 (h2 u hu).2).1).trans (h2 u hu).2⟩⟩

theorem TabB.isSlice {w : World} {base n m : Nat} {S : Nat → List Nat} {v : Value} (h : TabB w base n m S v) : ∃ ao cap, v = .slice ao m cap := by
  obtain ⟨bs, h1, _⟩ := h
  rcases h1.2 with ⟨e, e2⟩ | ⟨g, cap, cur, e, _⟩
  · exact ⟨none, 0, by rw [e, e2]⟩
  · exact ⟨_, _, e⟩

theorem TabB.read {w : World} {base n m cap : Nat} {ao : Option Addr} {S : Nat → List Nat} (h : TabB w base n m S (.slice ao m cap)) {u : Nat} (hu : u < m) :
    ∃ g b, ao = some ⟨g, 0, none⟩ ∧ g < w.heap.size ∧ b < w.heap.size ∧ w.cell? ⟨g, u, none⟩ = some (.slice (some ⟨b, 0, none⟩) n n) ∧ ∀ x, x < n → w.cell? ⟨b, x, none⟩ = some (.bool (decide (x ∈ S u))) := by
  obtain ⟨bs, h1, h2⟩ := h
  rcases h1.2 with ⟨_, e2⟩ | ⟨g, cap', cur, e, hg, h3, h4, h5, h6, h7⟩
  · omega
  · simp only [Value.slice.injEq] at e
    refine ⟨g, bs u, e.1, (Array.getElem?_eq_some_iff.1 h3).1, (Array.getElem?_eq_some_iff.1 (h2 u hu).2).1, ?_, fun x hx => ?_⟩
    · rw [cell_of_row _ _ _ _ _ _ h3]
      have e2 : (cur.toList.take (m * 1))[u]? = some (.slice (some ⟨bs u, 0, none⟩) n n) := by rw [h7]; simp [hu]
      rw [List.getElem?_take, if_pos (by omega)] at e2
      simpa using e2
    · rw [cell_of_row _ _ _ _ _ _ (h2 u hu).2]; exact seenCells_get _ hx

theorem TabB.own_ne {w : World} {base n m : Nat} {S : Nat → List Nat} {v : Value} {bs : Nat → Nat} (h1 : w.ownsRow base 67 1 v m ((List.range m).map fun u => Value.slice (some ⟨bs u, 0, none⟩) n n)) {b : Nat} {cs : Array Value} (hb : w.heap[b]? = some (.cells cs 4 (0, 0))) : v.ownBlock ≠ some b := by
  intro hk
  rcases h1.2 with ⟨e, _⟩ | ⟨g, cap', cur, e, hg, h3, _⟩
  · subst e; simp [Value.ownBlock] at hk
  · subst e
    simp [Value.ownBlock] at hk
    subst hk
    rw [hb] at h3
    simp at h3

/-- Behind the append of one row more. -/
theorem TabB.app {w w' : World} {base n m b g cap : Nat} {S : Nat → List Nat} {v : Value} {bs : Nat → Nat} (h1 : w.ownsRow base 67 1 v m ((List.range m).map fun u => Value.slice (some ⟨bs u, 0, none⟩) n n)) (h2 : ∀ u, u < m → base ≤ bs u ∧ w.heap[bs u]? = some (.cells (seenCells n (S u)) 4 (0, 0))) (hb : w.heap[b]? = some (.cells (seenCells n (S m)) 4 (0, 0))) (hbb : base ≤ b)
    (hx : Ext (fun k => v.ownBlock = some k) w w')
    (hown : w'.ownsRow base 67 1 (.slice (some ⟨g, 0, none⟩) (m + 1) cap) (m + 1) ((List.range m).map (fun u => Value.slice (some ⟨bs u, 0, none⟩) n n) ++ [.slice (some ⟨b, 0, none⟩) n n])) : TabB w' base n (m + 1) S (.slice (some ⟨g, 0, none⟩) (m + 1) cap) := by
  have hne : ∀ u, u < m → v.ownBlock ≠ some (bs u) := fun u hu => TabB.own_ne (S := S) h1 (h2 u hu).2
  refine ⟨fun u => if u = m then b else bs u, ?_, fun u hu => ?_⟩
  · have := hown
    have e : (List.range (m + 1)).map (fun u => Value.slice (some ⟨if u = m then b else bs u, 0, none⟩) n n) = (List.range m).map (fun u => Value.slice (some ⟨bs u, 0, none⟩) n n) ++ [.slice (some ⟨b, 0, none⟩) n n] := by
      rw [List.range_succ, List.map_append]
      congr 1
      · apply List.map_congr_left
        intro u hu
        rw [if_neg (by have := List.mem_range.1 hu; omega)]
      · simp
    rw [e]; exact this
  · by_cases e : u = m
    · subst e
      simp only [if_pos]
      exact ⟨hbb, hx.heap hb (TabB.own_ne (S := S) h1 hb)⟩
    · simp only [if_neg e]
      exact ⟨(h2 u (by omega)).1, hx.heap (h2 u (by omega)).2 (hne u (by omega))⟩

set_option maxRecDepth 100000 in
set_option maxHeartbeats 8000000 in
theorem table10_calls (c : Cod) (w : World) (TT : Nat → List Nat) (hin : c.inn w) (hargs : ∀ i ∈ c.ins, i.args.length ≤ 40) (hn : c.ins.length ≤ 400) (hnv : c.nvars ≤ 400) (hT : ∀ v, bfs (succ10 c.ins v) (c.ins.length + 1) (start10 c.ins v c.ins.length) 0 = some (TT v)) (hTl : ∀ v, (TT v).length ≤ 90000) :
    Calls Tryd.prog 8 #[.agg c.cells] w fun e w' => ∃ ao cap, e = .returned (.slice ao c.nvars cap) ∧ TabB w' w.heap.size c.ins.length c.nvars (fun v => behs c.ins (TT v) c.ins.length) (.slice ao c.nvars cap) ∧ Below w.heap.size w w' := by
  have HIN := Lib.hid hin
  obtain ⟨C, hC⟩ : ∃ C, c = C := ⟨_, rfl⟩
  have HAH : Hid (∀ v W, C.inn W → Calls Tryd.prog 26 #[.agg C.cells, .int .i64 ((v : Nat) : Int)] W (Truthed W C.ins.length (behs C.ins (TT v) C.ins.length))) := by
    intro v W h; rw [← hC] at h ⊢; exact behind10_calls c W v (TT v) h hargs hn (hT v) (hTl v)
  clear hargs hT
  obtain ⟨nm, par, varsA, nvars, varsC, rp, rto, rcl, fromA, nfrom, fromC, insA, insC, ins⟩ := c
  simp only at hn hnv
  simp only [Cod.cells]
  obtain ⟨n, hnn⟩ : ∃ n, ins.length = n := ⟨_, rfl⟩
  have hcc : C.cells = #[.string nm, .int .i64 par, .slice varsA nvars varsC, .bool rp, .string rto, .int .i64 rcl, .slice fromA nfrom fromC, .slice insA n insC] := by rw [← hC, ← hnn]; rfl
  rw [hcc, show C.ins = ins by rw [← hC], hnn] at HAH
  obtain ⟨i0, hi0, hz0, hz1, hz2⟩ := info_parts info_rowB
  obtain ⟨N, hN⟩ : ∃ N, w.heap.size = N := ⟨_, rfl⟩
  obtain ⟨W0, hW0⟩ : ∃ W0, w.alloc (.cells #[.string nm, .int .i64 par, .slice varsA nvars varsC, .bool rp, .string rto, .int .i64 rcl, .slice fromA nfrom fromC, .slice insA n insC] 30) = W0 := ⟨_, rfl⟩
  have hb0 : Below N w W0 := by rw [← hW0, ← hN]; exact (Below.refl _ _).alloc (Nat.le_refl _) _
  have hcode : W0.heap[N]? = some (.cells #[.string nm, .int .i64 par, .slice varsA nvars varsC, .bool rp, .string rto, .int .i64 rcl, .slice fromA nfrom fromC, .slice insA n insC] 30 (0, 0)) := by
    rw [← hW0, ← hN]; exact alloc_at _ _
  have hs0 : W0.heap.size = N + 1 := by rw [← hW0]; simp [hN]
  have HK : Hid (∀ W, Below (N + 1) W0 W → (W.cell? ⟨N, 0, none⟩ = some (.string nm) ∧ W.cell? ⟨N, 1, none⟩ = some (.int .i64 par) ∧ W.cell? ⟨N, 2, none⟩ = some (.slice varsA nvars varsC) ∧ W.cell? ⟨N, 3, none⟩ = some (.bool rp) ∧ W.cell? ⟨N, 4, none⟩ = some (.string rto) ∧ W.cell? ⟨N, 5, none⟩ = some (.int .i64 rcl) ∧ W.cell? ⟨N, 6, none⟩ = some (.slice fromA nfrom fromC) ∧ W.cell? ⟨N, 7, none⟩ = some (.slice insA n insC)) ∧
      C.inn W ∧ Below N w W ∧ N + 1 ≤ W.heap.size) := by
    intro W hx
    have h4 := (hx.block N (by omega)).trans hcode
    have hb : Below N w W := hb0.trans (hx.mono (by omega))
    refine ⟨⟨?_, ?_, ?_, ?_, ?_, ?_, ?_, ?_⟩, by rw [← hC]; exact HIN.out.below (by rw [hN]; exact hb), hb, by have := hx.size; omega⟩ <;> (rw [cell_of_row _ _ _ _ _ _ h4]; rfl)
  have HW0 := Lib.hid hW0
  obtain ⟨S, hS⟩ : ∃ S, (fun v => behs ins (TT v) n) = S := ⟨_, rfl⟩
  have HAH2 : Hid (∀ v W, C.inn W → Calls Tryd.prog 26 #[.agg #[.string nm, .int .i64 par, .slice varsA nvars varsC, .bool rp, .string rto, .int .i64 rcl, .slice fromA nfrom fromC, .slice insA n insC], .int .i64 ((v : Nat) : Int)] W (Truthed W n (S v))) := by
    rw [← hS]; exact HAH
  rw [hnn, hS]
  rw [hnn] at hn
  clear hcode hs0 hW0 hnn hb0 hcc hC HIN HAH hS hTl hin
  go_enter Tryd.func8, Tryd.ntmps8
  go_wp2_with fail
  rw [HW0.out]
  go_loopw [3, 4] (fun va c wr => ∃ j : Nat, j ≤ nvars ∧ c = .int .i64 (j : Int) ∧ TabB wr (N + 1) n j S va ∧ Below (N + 1) W0 wr) (fun _ c _ => nvars - (intOf c).toNat)
  case atStart => exact ⟨0, Nat.zero_le _, rfl, TabB.nil _ _ _ _, Below.refl _ _⟩
  case round =>
    obtain ⟨j, hj, rfl, htab, hb⟩ := hrel
    obtain ⟨⟨k0, k1, k2, k3, k4, k5, k6, k7⟩, hinr, hbN, hszr⟩ := HK.out wr hb
    obtain ⟨ao, cap, rfl⟩ := htab.isSlice
    by_cases hjl : j < nvars
    · have HBJ := Lib.hid (HAH2.out j wr hinr)
      have hjI : (j : Int) < (nvars : Int) := by omega
      have HTAB := Lib.hid htab
      have HB := Lib.hid hb
      clear htab hb hinr hbN
      go_wp2_with (first
        | (go_at_call 26; refine HBJ.out.mono ?_; rintro e w2 ⟨b, rfl, hbb, hrow, hbel⟩; have HT2 := Lib.hid (HTAB.out.below hbel); have HB2 := Lib.hid (HB.out.trans (hbel.mono hszr)); have HROW := Lib.hid hrow; have hs2 := hbel.size; have hbl : b < w2.heap.size := (Array.getElem?_eq_some_iff.1 hrow).1; obtain ⟨bs, hbs, hbs2⟩ := HT2.out; have HBS := Lib.hid hbs; have HBS2 := Lib.hid hbs2; clear hbel hrow hbs hbs2)
        | (at_builtin; refine wpList_append_lies _ rfl _ _ 35 rfl (N + 1) 67 i0 (.slice none 0 0) 1 24 Tryd.underlying35 hi0 hz0 hz1 hz2 rfl (by decide) _ j _ rfl (ownsRow_below HBS.out ((Below.refl w2.heap.size w2).alloc (Nat.le_refl _) _)) ⟨w2.heap.size, 0, none⟩ 1 1 [.slice (some ⟨b, 0, none⟩) n n] rfl rfl (cells_new _ _ _) (by simp [Value.oneCell']) (by decide) ?c1 ?c2 ?c3 _ rfl ?_))
      case c1 => unfold maxLen; omega
      case c2 => omega
      case c3 => rw [World.size_alloc]; omega
      intro g5 cap5 w5 hown5 hgrow5 hat5 hlt5
      have hx5 : Ext (fun k => (Value.slice ao j cap).ownBlock = some k) w2 w5 := ((Ext.refl _ w2).alloc _).trans (Ext.of_grown (M := fun k => (Value.slice ao j cap).ownBlock = some k) hgrow5 (fun k hk => .inl hk)) (fun j hj => .inl hj)
      have HR : Hid (TabB w5 (N + 1) n (j + 1) S (.slice (some ⟨g5, 0, none⟩) (j + 1) cap5) ∧ Below (N + 1) W0 w5) :=
        ⟨TabB.app HBS.out HBS2.out HROW.out (by omega) hx5 hown5, HB2.out.trans (hx5.below (B := N + 1) (by omega) (fun k hk => (HBS.out.lt k hk).1))⟩
      clear hown5 hgrow5 hat5 hlt5 hx5
      go_wp2
      exact ⟨⟨j + 1, by omega, by simp, HR.out.1, HR.out.2⟩, by simp [intOf]; omega⟩
    · have hje : j = nvars := by omega
      subst hje
      have HP : Hid (TabB wr N n j S (.slice ao j cap) ∧ Below N w wr) := ⟨by
        obtain ⟨bs, h1, h2⟩ := htab
        refine ⟨bs, ⟨h1.1, ?_⟩, fun u hu => ⟨by have := (h2 u hu).1; omega, (h2 u hu).2⟩⟩
        rcases h1.2 with h | ⟨g, cap', cur, e, hg, h3⟩
        · exact .inl h
        · exact .inr ⟨g, cap', cur, e, by omega, h3⟩, hbN⟩
      clear htab hb hinr hbN
      go_wp2
      go_ret
      refine ⟨ao, cap, rfl, ?_⟩
      first | exact HP.out | (rw [hN]; exact HP.out)
end Go.Proofs.YtpbkkajgcdahcaaDoor
