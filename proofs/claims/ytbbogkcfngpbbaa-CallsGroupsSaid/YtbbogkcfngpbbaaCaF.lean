/- Who is reached from a function. -/
import Derived.Test.YtbbogkcfngpbbaaCaC
import Derived.Test.YtbbogkcfngpbbaaCaR
namespace Go.Proofs.Ytbbogkcfngpbbaa
open Go.RowKit

def truC (n : Nat) (f : Nat → Bool) : Array Value := ((List.range n).map fun i => Value.bool (f i)).toArray
theorem truC_size (n : Nat) (f : Nat → Bool) : (truC n f).size = n := by simp [truC]
theorem truC_get {n i : Nat} (f : Nat → Bool) (h : i < n) : (truC n f)[i]? = some (.bool (f i)) := by simp [truC, h]
theorem truC_set (n i : Nat) (v : Bool) (f : Nat → Bool) : (truC n f).setIfInBounds i (.bool v) = truC n (fun x => if x = i then v else f x) := by
  apply Array.ext_getElem?
  intro j
  rw [Array.getElem?_setIfInBounds]
  by_cases hj : j < n
  · rw [truC_get _ hj, truC_get _ hj]
    by_cases h : i = j
    · subst h; simp [truC_size, hj]
    · rw [if_neg h, if_neg (fun e => h e.symm)]
  · have e : ∀ g, (truC n g)[j]? = none := fun g => Array.getElem?_eq_none (by rw [truC_size]; omega)
    rw [e, e]
    by_cases h : i = j
    · subst h; rw [if_pos rfl, if_neg (by rw [truC_size]; omega)]
    · rw [if_neg h]
theorem truC_rep (n : Nat) : Array.replicate n (Value.bool false) = truC n (fun _ => false) := by
  apply Array.ext_getElem?
  intro j
  by_cases hj : j < n
  · rw [truC_get _ hj]; simp [hj]
  · rw [Array.getElem?_eq_none (by simp; omega), Array.getElem?_eq_none (by rw [truC_size]; omega)]

theorem ownsRow_pop {w : World} {base cap : Nat} {g : Nat} {t : List Nat} {h : Nat} (hw : w.ownsRow base 3 1 (.slice (some ⟨g, 0, none⟩) (t.length + 1) cap) (t.length + 1) ((t ++ [h]).flatMap encN)) :
    w.ownsRow base 3 1 (.slice (some ⟨g, 0, none⟩) t.length cap) t.length (t.flatMap encN) := by
  refine ⟨by rw [encN_len]; omega, ?_⟩
  rcases hw.2 with ⟨h1, h2⟩ | ⟨g', cap', cur, h1, h2, h3, h4, h5, h6, h7⟩
  · cases h1
  · simp only [Value.slice.injEq, Option.some.injEq, Addr.mk.injEq] at h1
    obtain ⟨⟨rfl, _, _⟩, _, rfl⟩ := h1
    refine .inr ⟨g, cap, cur, rfl, h2, h3, by omega, h5, h6, ?_⟩
    have e : (t ++ [h]).flatMap encN = t.flatMap encN ++ encN h := by simp
    rw [e] at h7
    have h8 := congrArg (List.take t.length) h7
    rw [List.take_take, List.take_left' (by rw [encN_len])] at h8
    rw [← h8]
    congr 1
    omega

/-- A row, as what comes behind the dots of an append. -/
theorem row_news {w : World} {base sz m cap : Nat} {e : TypeId} {ao : Option Addr} {xs : List Value} (h : w.ownsRow base e sz (.slice ao m cap) m xs) : (ao = none → m = 0) ∧ ∀ ad, ao = some ad → ∀ j u, xs[j]? = some u → w.cell? (ad.add j) = some u := by
  refine ⟨fun e => ?_, fun ad e j u hu => ?_⟩
  · rcases h.2 with ⟨h1, h2⟩ | ⟨g', cap', cur, h1, _⟩
    · exact h2
    · subst e; cases h1
  · subst e
    rcases h.2 with ⟨h1, h2⟩ | ⟨g', cap', cur, h1, _⟩
    · cases h1
    · simp only [Value.slice.injEq, Option.some.injEq] at h1
      obtain ⟨rfl, _⟩ := h1
      exact h.cells (g := g') rfl j u hu

/-- Between two rounds. -/
def FrI (d : Nat → List Nat) (f n M H : Nat) (w0 : World) (m : Nat) (v : Value) (wr : World) : Prop :=
  ∃ (met : Nat → Bool) (t : List Nat), Dfs d f met t ∧ wr.heap[M]? = some (.cells (truC n met) 4 (0, 0)) ∧ wr.ownsRow H 3 1 v t.length (t.flatMap encN) ∧ Below M w0 wr ∧ H ≤ wr.heap.size ∧
    t.length ≤ n + metN n met * n ∧ (∀ x ∈ t, x < n) ∧ m = (n - metN n met) * (n + 1) + t.length

theorem FrI.skip {d : Nat → List Nat} {f n M H : Nat} {w0 wr : World} {met : Nat → Bool} {t : List Nat} {h g cap : Nat} (hd : Dfs d f met (t ++ [h])) (hm : met h = true) (hM : wr.heap[M]? = some (.cells (truC n met) 4 (0, 0)))
    (hw : wr.ownsRow H 3 1 (.slice (some ⟨g, 0, none⟩) (t.length + 1) cap) (t.length + 1) ((t ++ [h]).flatMap encN)) (hb : Below M w0 wr) (hH : H ≤ wr.heap.size) (hl : t.length + 1 ≤ n + metN n met * n) (hx : ∀ x ∈ t ++ [h], x < n) :
    ∃ m, m < (n - metN n met) * (n + 1) + (t.length + 1) ∧ FrI d f n M H w0 m (.slice (some ⟨g, 0, none⟩) t.length cap) wr :=
  ⟨(n - metN n met) * (n + 1) + t.length, by omega, met, t, hd.skip hm, hM, ownsRow_pop hw, hb, hH, by omega, fun x q => hx x (by simp [q]), rfl⟩

theorem FrI.meet {d : Nat → List Nat} {f n M H : Nat} {w0 wr wA w5 : World} {met : Nat → Bool} {t : List Nat} {h : Nat} {v v5 : Value} (hd : Dfs d f met (t ++ [h])) (hm : met h = false) (hM : wr.heap[M]? = some (.cells (truC n met) 4 (0, 0)))
    (hA : Ext (fun _ => False) (wr.setCell ⟨M, h, none⟩ (.bool true)) wA) (hgrow : wA.grownBy w5 v.ownBlock) (hv : ∀ k, v.ownBlock = some k → H ≤ k) (hMH : M < H)
    (hown : w5.ownsRow H 3 1 v5 (t.length + (d h).length) (t.flatMap encN ++ (d h).flatMap encN)) (hb : Below M w0 wr) (hH : H ≤ wr.heap.size) (hl : t.length + 1 ≤ n + metN n met * n) (hx : ∀ x ∈ t ++ [h], x < n)
    (hdn : ∀ x ∈ d h, x < n) (hdl : (d h).length ≤ n) :
    ∃ m, m < (n - metN n met) * (n + 1) + (t.length + 1) ∧ FrI d f n M H w0 m v5 w5 := by
  have hhn : h < n := hx h (by simp)
  have hmet := metN_add hhn hm
  have hle := metN_le n (fun k => if k = h then true else met k)
  obtain ⟨a, ha⟩ : ∃ a, metN n met = a := ⟨_, rfl⟩
  have hxs : Ext (· = M) wr (wr.setCell ⟨M, h, none⟩ (.bool true)) := Ext.set1 _ _ _ _
  have hx5 : Ext (fun k => M ≤ k) wr w5 := (hxs.mono (M' := fun k => M ≤ k) (fun k hk => by omega)).trans ((hA.mono (M' := fun k => M ≤ k) (fun _ h => h.elim)).trans (Ext.of_grown (M := fun k => M ≤ k) hgrow (fun k hk => .inl (by have := hv k hk; omega))) (fun k hk => .inl hk)) (fun k hk => .inl hk)
  have hrow : w5.heap[M]? = some (.cells (truC n (fun k => if k = h then true else met k)) 4 (0, 0)) := by
    have h1 : (wr.setCell ⟨M, h, none⟩ (.bool true)).heap[M]? = some (.cells (truC n (fun k => if k = h then true else met k)) 4 (0, 0)) := by rw [heap_setCell_same _ _ _ _ _ _ hM, truC_set]
    have h2 := hA.heap h1 (fun h => h)
    exact (Ext.of_grown (M := fun k => H ≤ k) hgrow (fun k hk => .inl (hv k hk))).heap h2 (by omega)
  refine ⟨_, ?_, fun k => if k = h then true else met k, t ++ d h, hd.meet, hrow, ?_, hb.trans (hx5.below (Nat.le_trans (Nat.le_of_lt hMH) hH) (fun _ h => h)), by have := hx5.size; omega, ?_, ?_, rfl⟩
  · rw [hmet, ha] at hle ⊢
    rw [List.length_append]
    have h3 : n - a = (n - (a + 1)) + 1 := by omega
    rw [h3, Nat.add_mul]
    omega
  · rw [List.length_append, List.flatMap_append]; exact hown
  · rw [List.length_append, hmet, ha]
    rw [ha] at hl
    rw [Nat.add_mul]; omega
  · intro x q
    rcases List.mem_append.1 q with q | q
    · exact hx x (by simp [q])
    · exact hdn x q

set_option maxRecDepth 100000 in
set_option maxHeartbeats 4000000 in
theorem from_calls (w : World) (N G n DN UP ST RE GP : Nat) (gv : Value) (tag : Nat → Nat) (d u : Nat → List Nat) (s : Nat → List (Nat × Nat)) (r : Nat → List Bool) (gi : Nat → Int) (hg : GM w N G n DN UP ST RE GP gv tag d u s r gi) (hn : n ≤ 70)
    (hdl : ∀ x, x < n → (d x).length ≤ n) (hdn : ∀ x, ∀ y ∈ d x, y < n) (f : Nat) (hf : f < n) :
    Calls Try.prog 76 #[.pointer (some ⟨G, 0, none⟩), .int .i64 (f : Int)] w fun e w' =>
      ∃ b, e = .returned (.slice (some ⟨b, 0, none⟩) n n) ∧ w.heap.size ≤ b ∧ w'.heap[b]? = some (.cells (truC n (reachB d f)) 4 (0, 0)) ∧ Below w.heap.size w w' := by
  have HG := Lib.hid hg
  have HDN := Lib.hid hdn
  have HDL := Lib.hid hdl
  obtain ⟨c0, _⟩ := hg.cells
  obtain ⟨vf, cf, _, of, _⟩ := hg.D.at_ hf
  obtain ⟨aof, capf, rfl⟩ := ownsRow_slice of
  have HOF := Lib.hid of
  have hfI : (f : Int) < (n : Int) := by omega
  obtain ⟨i0, hi, hz0, hz1, hz2⟩ := info_parts info_bool
  clear hg of hdl hdn
  have HG2 : Hid (∀ W, Below w.heap.size w W → GM W N G n DN UP ST RE GP gv tag d u s r gi) := fun W hW => HG.out.below hW
  go_enter Try.func76, Try.ntmps76
  go_upto_region 2 with (at_make; refine wpList_make_at rfl (.tmp 12) (.tmp 12) 79 rfl 4 i0 (.bool false) Try.underlying79 hi hz0 hz1 rfl .i64 .i64 _ _ n rfl rfl rfl rfl (by rw [hz2]; omega) (by unfold maxLen; omega) ?_)
  obtain ⟨M, hM⟩ : ∃ M, w.heap.size = M := ⟨_, rfl⟩
  obtain ⟨W1, hW1⟩ : ∃ W1, w.alloc (.cells (List.replicate n (Value.bool false)).toArray 4) = W1 := ⟨_, rfl⟩
  have hb1 : Below M w W1 := by rw [← hW1, ← hM]; exact (Below.refl _ _).alloc (Nat.le_refl _) _
  have hr1 : W1.heap[M]? = some (.cells (truC n (fun _ => false)) 4 (0, 0)) := by
    rw [← hW1, ← hM, alloc_at]; rw [← truC_rep]; simp
  have hs1 : W1.heap.size = M + 1 := by rw [← hW1]; simp [hM]
  try simp only [List.toArray_replicate] at hW1
  rw [hW1, hM]
  have hG1 := HG2.out W1 (by rw [hM]; exact hb1)
  have HOF1 : Hid (W1.ownsRow 0 3 1 (.slice aof (d f).length capf) (d f).length ((d f).flatMap encN)) := ownsRow_ext HOF.out (Ext.of_below_size (M := fun _ => False) (by rw [hM]; exact hb1)) (fun _ _ h => h)
  obtain ⟨e0, _⟩ := hG1.cells
  have ef : W1.cell? ⟨DN, f, none⟩ = some (.slice aof (d f).length capf) := by
    rw [hb1.cell (p := ⟨DN, f, none⟩) (by rw [← hM]; exact HG.out.D.lt DN HG.out.D.own)]; exact cf
  have HCL := Lib.hid (cloneN_calls W1 (.slice aof (d f).length capf) (d f).length ((d f).flatMap encN) 0 HOF1.out (oneN (d f)) (by have := HDL.out f hf; omega))
  have HB1 := Lib.hid hb1
  have HR1 := Lib.hid hr1
  have HS1 := Lib.hid hs1
  clear hW1 hb1 hr1 hs1 hG1 c0 cf
  go_wp2_with fail
  go_at_call 79
  refine HCL.out.mono ?_
  rintro e w2 ⟨v2, rfl, hown2, hb2⟩
  have hs2 := hb2.size
  have HF0 : Hid (FrI d f n M (M + 1) w (n * (n + 1) + (d f).length) v2 w2) := by
    have h0 : metN n (fun _ => false) = 0 := by unfold metN; simp
    refine ⟨fun _ => false, d f, Dfs.begin d f, (hb2.block M (by rw [HS1.out]; omega)).trans HR1.out, by rw [HS1.out] at hown2; exact hown2, HB1.out.trans (hb2.mono (by rw [HS1.out]; omega)), by rw [HS1.out] at hs2; exact hs2, ?_, HDN.out f, by rw [h0, Nat.sub_zero]⟩
    have := HDL.out f hf
    omega
  clear hown2 hb2 hs2 e0 ef
  go_wp2_with fail
  go_loopg [6] (n * (n + 1) + (d f).length) (fun m v wr => FrI d f n M (M + 1) w m v wr)
  case atStart => exact HF0.out
  case round =>
    obtain ⟨met, t0, hd, hm, hown, hb, hsz, hl, hx, rfl⟩ := hrel
    have hMs : M < wr.heap.size := (Array.getElem?_eq_some_iff.1 hm).1
    have hGr := HG2.out wr (by rw [hM]; exact hb)
    obtain ⟨e0, _⟩ := hGr.cells
    rcases List.eq_nil_or_concat t0 with rfl | ⟨t, h, rfl⟩
    · obtain ⟨ao, cap, rfl⟩ := ownsRow_slice hown
      have HD := Lib.hid hd
      have HM := Lib.hid hm
      have HB := Lib.hid hb
      clear hd hm hown hb hx hl hGr
      simp only [List.length_nil]
      go_wp2
      go_ret
      have e : met = reachB d f := funext fun x => HD.out.all x
      exact ⟨M, rfl, by omega, by rw [← e]; exact HM.out, by rw [hM]; exact HB.out⟩
    · simp only [List.concat_eq_append] at hd hown hl hx ⊢
      have hlen : (t ++ [h]).length = t.length + 1 := by simp
      rw [hlen] at hown hl
      have hh : h < n := hx h (by simp)
      have hhI : (h : Int) < (n : Int) := by omega
      have hown' := hown
      rcases hown'.2 with ⟨_, h2⟩ | ⟨g, cap, cur, h1, h2, h3, hcap, _⟩
      · exact absurd h2 (by omega)
      subst h1
      clear hown' h2 h3
      have ct : wr.cell? ⟨g, t.length, none⟩ = some (.int .i64 (h : Int)) := by
        obtain ⟨g2, e2, _, e3⟩ := ownsRow_get hown (j := t.length) (u := .int .i64 (h : Int)) (by rw [encN_flat]; simp [nums])
        simp only [Option.some.injEq, Addr.mk.injEq] at e2
        obtain ⟨rfl, _⟩ := e2
        exact e3
      have cm : wr.cell? ⟨M, h, none⟩ = some (.bool (met h)) := by rw [cell_of_row _ _ _ _ _ _ hm, truC_get _ hh]
      have fm : wr.frozen? ⟨M, h, none⟩ = false := frozen_of_row _ _ _ _ _ hm
      have htl : t.length ≤ 6000 := by
        have h1 := metN_le n met
        have h2 : metN n met * n ≤ 70 * 70 := Nat.mul_le_mul (by omega) (by omega)
        omega
      obtain ⟨mh, hmh⟩ : ∃ mh, met h = mh := ⟨_, rfl⟩
      rw [hmh] at cm
      have HMH := Lib.hid hmh
      have HDF := Lib.hid hd
      have HM := Lib.hid hm
      have HOWN := Lib.hid hown
      have HB := Lib.hid hb
      have HL := Lib.hid hl
      have HX := Lib.hid hx
      have HGR := Lib.hid hGr
      have hc1 : t.length ≤ cap := by omega
      clear hmh hd hm hown hb hl hx hGr hlen
      cases mh with
      | true =>
        have HG3 := Lib.hid (FrI.skip HDF.out HMH.out HM.out HOWN.out HB.out hsz HL.out HX.out)
        go_wp2
        obtain ⟨m3, hm3, hf3⟩ := HG3.out
        go_roundg m3
        case measure => rw [List.concat_eq_append, List.length_append]; exact hm3
        case rel => exact hf3
      | false =>
        go_upto_region 8 with (fail)
        obtain ⟨W3, hW3⟩ : ∃ W3, wr.setCell ⟨M, h, none⟩ (.bool true) = W3 := ⟨_, rfl⟩
        have hx3 : Ext (· = M) wr W3 := by rw [← hW3]; exact Ext.set1 _ _ _ _
        have hb3 : Below M w W3 := HB.out.trans (hx3.below (by omega) (fun k hk => by omega))
        have hs3 : W3.heap.size = wr.heap.size := by rw [← hW3]; exact World.size_setCell _ _ _
        have hG3 := HG2.out W3 (by rw [hM]; exact hb3)
        have hown3 : W3.ownsRow (M + 1) 3 1 (.slice (some ⟨g, 0, none⟩) t.length cap) t.length (t.flatMap encN) := ownsRow_ext (ownsRow_pop HOWN.out) hx3 (fun k hk => by have := ((ownsRow_pop HOWN.out).lt k hk).1; omega)
        rw [hW3]
        obtain ⟨e0', _⟩ := hG3.cells
        obtain ⟨vh, ch, _, oh, _⟩ := hG3.D.at_ hh
        obtain ⟨aoh, caph, rfl⟩ := ownsRow_slice oh
        have HNW := Lib.hid (row_news oh)
        have HOW3 := Lib.hid hown3
        have hdl := HDL.out h hh
        have HLEN : Hid (((d h).flatMap encN).length = (d h).length * 1) := by unfold Hid; rw [encN_len, Nat.mul_one]
        have HW3 := Lib.hid hW3
        have HONE : Hid (∀ u ∈ (d h).flatMap encN, u.oneCell' = true) := oneN (d h)
        obtain ⟨j0, hj0, hj1, hj2, hj3⟩ := info_parts info_int
        clear e0 ct cm fm hW3 hx3 hb3 hG3 hown3 oh
        go_wp2_with (at_builtin; refine wpList_append_row rfl _ _ 22 rfl (M + 1) 3 j0 (.int .i64 0) 1 8 Try.underlying22 hj0 hj1 hj2 hj3 rfl (by decide) _ t.length (t.flatMap encN) rfl HOW3.out aoh (d h).length caph ((d h).flatMap encN) rfl HLEN.out HNW.out.1 HNW.out.2 HONE.out (by unfold maxLen; omega) (by omega) (by omega) ?_; intro v5 w5 hown5 hgrow5 hat5; have HO5 := Lib.hid hown5; have HG5 := Lib.hid hgrow5; clear hown5 hgrow5 hat5)
        obtain ⟨m5, hm5, hf5⟩ := FrI.meet (v := .slice (some ⟨g, 0, none⟩) t.length cap) (wA := W3) HDF.out HMH.out HM.out (by rw [HW3.out]; exact Ext.refl _ _) HG5.out (fun k hk => ((HOW3.out).lt k hk).1) (by omega) HO5.out HB.out hsz HL.out HX.out (HDN.out h) hdl
        go_roundg m5
        case measure => rw [List.concat_eq_append, List.length_append]; exact hm5
        case rel => exact hf5
end Go.Proofs.Ytbbogkcfngpbbaa
