/- The reference's table: who reaches whom. -/
import Derived.Test.YtbbogkcfngpbbaaCaX4
namespace Go.Proofs.Ytbbogkcfngpbbaa
open Go.RowKit

/-- A table of truths, in memory. -/
def TabT (w : World) (R n : Nat) (rb : Nat → Nat → Bool) : Prop := ∃ F, TabOf encB 1 79 4 w R n F (fun f => (List.range n).map (rb f))

theorem TabT.below {w w' : World} {R n : Nat} {rb : Nat → Nat → Bool} (h : TabT w R n rb) (hb : Below w.heap.size w w') : TabT w' R n rb := by
  obtain ⟨F, h⟩ := h; exact ⟨F, h.below hb⟩

theorem TabT.at_ {w : World} {R n : Nat} {rb : Nat → Nat → Bool} (h : TabT w R n rb) {f g : Nat} (hf : f < n) (hg : g < n) : ∃ b cap, w.cell? ⟨R, f, none⟩ = some (.slice (some ⟨b, 0, none⟩) n cap) ∧ w.cell? ⟨b, g, none⟩ = some (.bool (rb f g)) := by
  obtain ⟨F, h⟩ := h
  obtain ⟨v, cv, _, ov, _⟩ := h.at_ hf
  obtain ⟨ao, cap, rfl⟩ := ownsRow_slice ov
  rw [show ((List.range n).map (rb f)).length = n from by simp] at cv ov
  obtain ⟨b, rfl, _, e3⟩ := ownsRow_get ov (j := g) (u := .bool (rb f g)) (by rw [encB_flat]; simp [hg])
  exact ⟨b, cap, cv, e3⟩

/-- Between two of what is to do. -/
def TbI (d : Nat → List Nat) (n f R M H : Nat) (F : Nat → Prop) (rows : Nat → List Bool) (B : Nat) (W1 : World) (m : Nat) (v c : Value) (wr : World) : Prop :=
  ∃ (met : Nat → Bool) (t : List Nat) (i : Nat), Dfs d f met (t.drop i) ∧ i ≤ t.length ∧ c = .int .i64 (i : Int) ∧ wr.heap[M]? = some (.cells (truC n met) 4 (0, 0)) ∧ wr.cell? ⟨R, f, none⟩ = some (.slice (some ⟨M, 0, none⟩) n n) ∧
    TabOf encB 1 79 4 wr R n F (fun x => if x = f then (List.range n).map met else rows x) ∧ wr.ownsRow H 3 1 v t.length (t.flatMap encN) ∧ Below B W1 wr ∧ H ≤ wr.heap.size ∧
    t.length ≤ n + metN n met * n ∧ (∀ x ∈ t, x < n) ∧ m = (n - metN n met) * (n + 1) + (t.length - i)

theorem drop_head {t : List Nat} {i h : Nat} (hi : t[i]? = some h) : ∀ x, x ∈ t.drop i ↔ x ∈ t.drop (i + 1) ++ [h] := by
  obtain ⟨h1, h2⟩ := List.getElem?_eq_some_iff.1 hi
  intro x
  rw [List.drop_eq_getElem_cons h1, h2]
  simp [or_comm]

theorem own_tru {w : World} {b n : Nat} {f : Nat → Bool} (h : w.heap[b]? = some (.cells (truC n f) 4 (0, 0))) (hn : n ≤ 70) : w.ownsRow 0 4 1 (.slice (some ⟨b, 0, none⟩) n n) ((List.range n).map f).length (((List.range n).map f).flatMap encB) := ownB h hn

theorem TbI.drewN {d : Nat → List Nat} {n f R M H : Nat} {F : Nat → Prop} {rows : Nat → List Bool} {B : Nat} {W1 wr : World} {m : Nat} {v c : Value} (h : TbI d n f R M H F rows B W1 m v c wr) (k : Nat) : TbI d n f R M H F rows B W1 m v c (wr.drewN k) := by
  obtain ⟨met, t, i, h1, h2, h3, h4, h5, h6, h7, h8, h9⟩ := h
  exact ⟨met, t, i, h1, h2, h3, h4, h5, h6.ext ((Ext.refl (fun _ => False) wr).drewN k) (fun _ _ h => h), h7, below_drewN h8 k, h9⟩

theorem TbI.skip {d : Nat → List Nat} {n f R M H : Nat} {F : Nat → Prop} {rows : Nat → List Bool} {B : Nat} {W1 wr : World} {met : Nat → Bool} {t : List Nat} {i h : Nat} {v : Value} (hd : Dfs d f met (t.drop i)) (hi : t[i]? = some h) (hm : met h = true)
    (h4 : wr.heap[M]? = some (.cells (truC n met) 4 (0, 0))) (h5 : wr.cell? ⟨R, f, none⟩ = some (.slice (some ⟨M, 0, none⟩) n n)) (h6 : TabOf encB 1 79 4 wr R n F (fun x => if x = f then (List.range n).map met else rows x)) (h7 : wr.ownsRow H 3 1 v t.length (t.flatMap encN)) (h8 : Below B W1 wr) (h9 : H ≤ wr.heap.size)
    (hl : t.length ≤ n + metN n met * n) (hx : ∀ x ∈ t, x < n) : ∃ m, m < (n - metN n met) * (n + 1) + (t.length - i) ∧ TbI d n f R M H F rows B W1 m v (.int .i64 ((i : Int) + 1)) wr := by
  have hit : i < t.length := (List.getElem?_eq_some_iff.1 hi).1
  exact ⟨_, by omega, met, t, i + 1, (hd.perm (drop_head hi)).skip hm, by omega, by simp, h4, h5, h6, h7, h8, h9, hl, hx, rfl⟩

/-- One more is met. -/
theorem TbI.meet {d : Nat → List Nat} {n f R M H : Nat} {F : Nat → Prop} {rows : Nat → List Bool} {B : Nat} {W1 wr w4 w5 w6 : World} {met : Nat → Bool} {t : List Nat} {i h : Nat} {v v6 : Value} (hd : Dfs d f met (t.drop i)) (hi : t[i]? = some h) (hm : met h = false) (hf : f < n) (hn : n ≤ 70)
    (hM : wr.heap[M]? = some (.cells (truC n met) 4 (0, 0))) (hc : wr.cell? ⟨R, f, none⟩ = some (.slice (some ⟨M, 0, none⟩) n n)) (hT : TabOf encB 1 79 4 wr R n F (fun x => if x = f then (List.range n).map met else rows x))
    (h4 : w4 = wr.setCell ⟨M, h, none⟩ (.bool true)) (hx5 : Ext (fun _ => False) w4 w5) (hx6 : Ext (fun k => v.ownBlock = some k) w5 w6) (hvH : ∀ k, v.ownBlock = some k → H ≤ k) (hFH : ∀ k, F k → k < H) (hown : w6.ownsRow H 3 1 v6 (t.length + (d h).length) (t.flatMap encN ++ (d h).flatMap encN))
    (hb : Below B W1 w6) (hH : H ≤ wr.heap.size) (hl : t.length ≤ n + metN n met * n) (hx : ∀ x ∈ t, x < n) (hdn : ∀ x ∈ d h, x < n) (hdl : (d h).length ≤ n) :
    ∃ m, m < (n - metN n met) * (n + 1) + (t.length - i) ∧ TbI d n f R M H F rows B W1 m v6 (.int .i64 ((i : Int) + 1)) w6 := by
  have hhn : h < n := hx h (List.mem_of_getElem? hi)
  have hit : i < t.length := (List.getElem?_eq_some_iff.1 hi).1
  have hmet := metN_add hhn hm
  have hle := metN_le n (fun k => if k = h then true else met k)
  obtain ⟨a, ha⟩ : ∃ a, metN n met = a := ⟨_, rfl⟩
  have hxs : Ext (· = M) wr w4 := by rw [h4]; exact Ext.set1 _ _ _ _
  have hM4 : w4.heap[M]? = some (.cells (truC n (fun k => if k = h then true else met k)) 4 (0, 0)) := by rw [h4, heap_setCell_same _ _ _ _ _ _ hM, truC_set]
  obtain ⟨v0, q1, _, _, q4⟩ := hT.at_ hf
  have e0 := q1.symm.trans hc
  obtain rfl := Option.some.inj e0
  have hFM := (q4 M rfl)
  have hMltH := hFH M hFM.1
  have hRltH := hFH R hT.own
  have hx46 : Ext (fun k => H ≤ k) w4 w6 := (hx5.mono (M' := fun k => H ≤ k) (fun _ h => h.elim)).trans (hx6.mono (M' := fun k => H ≤ k) hvH) (fun k hk => .inl hk)
  have hM6 := hx46.heap hM4 (by omega)
  have hT4 := hT.turn hc (hxs.mono (fun k hk => by rw [hk]; rfl)) (own_tru hM4 hn)
  have hT6 := hT4.ext hx46 (fun k hk => by have := hFH k hk; omega)
  have hs6 : wr.heap.size ≤ w6.heap.size := Nat.le_trans hxs.size hx46.size
  refine ⟨_, ?_, fun k => if k = h then true else met k, t ++ d h, i + 1, ?_, by rw [List.length_append]; omega, by simp, hM6, ?_, ?_, ?_, hb, by omega, ?_, ?_, rfl⟩
  · rw [hmet, ha] at hle ⊢
    rw [List.length_append]
    have h3 : n - a = (n - (a + 1)) + 1 := by omega
    rw [h3, Nat.add_mul]
    omega
  · have h1 := (hd.perm (drop_head hi)).meet
    rw [List.drop_append_of_le_length (by omega)]
    exact h1
  · rw [hx46.cell (a := ⟨R, f, none⟩) (by show R < _; have := hxs.size; omega) (by show ¬ H ≤ R; omega), hxs.cell (a := ⟨R, f, none⟩) (by show R < _; omega) (show ¬ R = M from fun e => hFM.2 e.symm)]; exact hc
  · refine hT6.rows_congr (fun x _ => ?_)
    by_cases e : x = f
    · simp [e]
    · simp [e]
  · rw [List.length_append, List.flatMap_append]; exact hown
  · rw [List.length_append, hmet, ha]
    rw [ha] at hl
    rw [Nat.add_mul]; omega
  · intro x q
    rcases List.mem_append.1 q with q | q
    · exact hx x q
    · exact hdn x q

set_option maxRecDepth 100000 in
set_option maxHeartbeats 16000000 in
theorem table_calls (w : World) (m : Mo) (hof : OfIn w m) : Calls Try.prog 42 #[.agg m.cells] w fun e w' => ∃ R, e = .returned (.slice (some ⟨R, 0, none⟩) m.fs.length m.fs.length) ∧ TabT w' R m.fs.length (reachB (downF m)) ∧ Below w.heap.size w w' := by
  obtain ⟨M, hM⟩ : ∃ M, m = M := ⟨_, rfl⟩
  have hn70 := hof.nf
  have HOF0 := Lib.hid hof
  clear hof
  obtain ⟨sA, sC, fA, fC, ss, fs⟩ := m
  obtain ⟨n, hn⟩ : ∃ n, fs.length = n := ⟨_, rfl⟩
  have HMC : Hid (M.cells = #[.slice sA ss.length sC, .slice fA n fC]) := by unfold Hid; rw [← hM, ← hn]; rfl
  have HML : Hid (M.fs.length = n) := by unfold Hid; rw [← hM, ← hn]
  rw [hM] at HOF0 ⊢
  simp only at hn70
  rw [hn] at hn70
  rw [HMC.out, HML.out]
  clear hn hM
  obtain ⟨N, hN⟩ : ∃ N, w.heap.size = N := ⟨_, rfl⟩
  obtain ⟨W1, hW1⟩ : ∃ W1, w.alloc (.cells #[.slice sA ss.length sC, .slice fA n fC] 38) = W1 := ⟨_, rfl⟩
  have q1 : W1.heap[N]? = some (.cells #[.slice sA ss.length sC, .slice fA n fC] 38 (0, 0)) := by rw [← hW1, ← hN]; exact alloc_at _ _
  have hb1 : Below w.heap.size w W1 := by rw [← hW1]; exact (Below.refl _ _).alloc (Nat.le_refl _) _
  obtain ⟨B, hB⟩ : ∃ B, W1.heap.size = B := ⟨_, rfl⟩
  have HC : Hid (∀ W, Below B W1 W → W.cell? ⟨N, 0, none⟩ = some (.slice sA ss.length sC) ∧ W.cell? ⟨N, 1, none⟩ = some (.slice fA n fC) ∧ OfIn W M) := by
    intro W hW
    have hNl := (Array.getElem?_eq_some_iff.1 q1).1
    have h3 := (hW.block N (by omega)).trans q1
    exact ⟨(cell_of_row _ _ _ _ _ _ h3).trans rfl, (cell_of_row _ _ _ _ _ _ h3).trans rfl, HOF0.out.below (hb1.trans (hW.mono (by rw [← hB]; exact hb1.size)))⟩
  have HRCA : Hid (∀ W, Below B W1 W → ∀ x : Nat, x < n → Calls Try.prog 44 #[.agg #[.slice sA ss.length sC, .slice fA n fC], .int .i64 (x : Int)] W (GivesN W (downF M x))) := by
    intro W hW x hx
    have hrc := rCallees_calls W M (HC.out W hW).2.2 (x : Int)
    rw [HML.out, HMC.out, if_pos (by rw [inR_nat]; exact decide_eq_true hx), Int.toNat_natCast] at hrc
    exact hrc
  have HB1 := Lib.hid hb1
  have HW1 := Lib.hid hW1
  have HB := Lib.hid hB
  have HDL : Hid (∀ h, (downF M h).length ≤ n) := fun h => by have := downF_len M h; have := HML.out; omega
  have HDN : Hid (∀ h, ∀ y ∈ downF M h, y < n) := fun h y hy => by have := downF_lt hy; have := HML.out; omega
  obtain ⟨c0, c1, _⟩ := HC.out W1 (Below.refl _ _)
  obtain ⟨i0, hi, hz0, hz1, hz2⟩ := info_parts info_rB
  clear q1 hb1 hW1 hB
  go_enter Try.func42, Try.ntmps42
  go_upto_region 1 with (fail)
  rw [HW1.out]
  go_upto_region 3 with (at_make; refine wpList_make_at rfl (.tmp 11) (.tmp 11) 72 rfl 79 i0 (.slice none 0 0) Try.underlying72 hi hz0 hz1 rfl .i64 .i64 _ _ n rfl rfl rfl rfl (by rw [hz2]; omega) (by unfold maxLen; omega) ?_)
  try simp only [List.toArray_replicate]
  obtain ⟨W2, hW2⟩ : ∃ W2, W1.alloc (.cells (Array.replicate n (Value.slice none 0 0)) 79) = W2 := ⟨_, rfl⟩
  have hr2 : W2.heap[B]? = some (.cells (Array.replicate n (Value.slice none 0 0)) 79 (0, 0)) := by rw [← hW2, ← HB.out]; exact alloc_at _ _
  have hb2 : Below B W1 W2 := by rw [← hW2, ← HB.out]; exact (Below.refl _ _).alloc (Nat.le_refl _) _
  have HT2 : Hid (TabOf encB 1 79 4 W2 B n (· = B) (fun _ => [])) := TabOf.start (by simp) hr2 (fun i v h => by
    rw [Array.getElem?_replicate] at h
    split at h
    · exact (Option.some.inj h).symm
    · simp at h)
  rw [hW2, HB.out]
  have HB2 := Lib.hid hb2
  clear hW2 hr2 hb2 c0 c1 hi hz0 hz1 hz2 i0
  go_wp2_with fail
  go_loopw [5] (fun c wr => ∃ (f : Nat) (F : Nat → Prop) (rows : Nat → List Bool), f ≤ n ∧ c = .int .i64 (f : Int) ∧ TabOf encB 1 79 4 wr B n F rows ∧ (∀ x, x < f → rows x = (List.range n).map (reachB (downF M) x)) ∧ (∀ k, F k → B ≤ k) ∧ Below B W1 wr) (fun c _ => n - (intOf c).toNat)
  case atStart => exact ⟨0, _, _, Nat.zero_le _, rfl, HT2.out, fun x h => absurd h (Nat.not_lt_zero _), fun k hk => by omega, HB2.out⟩
  case round =>
    obtain ⟨f, F, rows, hf, rfl, hT, hrows, hF, hb⟩ := hrel
    by_cases hfn : f < n
    · have hfI : (f : Int) < (n : Int) := by omega
      obtain ⟨v0, cv, fv, ov, tv⟩ := hT.at_ hfn
      obtain ⟨i1, hi, hz0, hz1, hz2⟩ := info_parts info_bool
      obtain ⟨Mb, hMb⟩ : ∃ Mb, wr.heap.size = Mb := ⟨_, rfl⟩
      obtain ⟨W3, hW3⟩ : ∃ W3, wr.alloc (.cells (Array.replicate n (Value.bool false)) 4) = W3 := ⟨_, rfl⟩
      have hr3 : W3.heap[Mb]? = some (.cells (truC n (fun _ => false)) 4 (0, 0)) := by rw [← hW3, ← hMb, alloc_at, truC_rep]
      have hx3 : Ext (fun k => v0.ownBlock = some k) wr W3 := by rw [← hW3]; exact (Ext.refl _ _).alloc _
      obtain ⟨p1, p2, p3, p4⟩ := hT.put (ys := (List.range n).map (fun _ => false)) cv hx3 (own_tru hr3 hn70) (fun k hk => by
        have e : some Mb = some k := hk
        have := Option.some.inj e
        right; omega)
      have hs3 : W3.heap.size = Mb + 1 := by rw [← hW3, World.size_alloc, hMb]
      obtain ⟨W4, hW4⟩ : ∃ W4, W3.setCell ⟨B, f, none⟩ (.slice (some ⟨Mb, 0, none⟩) n n) = W4 := ⟨_, rfl⟩
      rw [hW4] at p3 p4
      have hs4 : W4.heap.size = Mb + 1 := by rw [← hW4, World.size_setCell, hs3]
      have hsB : B ≤ wr.heap.size := by have := hb.size; have := HB.out; omega
      have hb4 : Below B W1 W4 := hb.trans (p4.below hsB hF)
      have hBF : B < Mb := by rw [← hMb]; exact hT.lt B hT.own
      have hr4 : W4.heap[Mb]? = some (.cells (truC n (fun _ => false)) 4 (0, 0)) := by
        rw [← hW4, (Ext.set1 W3 B f _).block Mb (by omega) (by omega)]; exact hr3
      have hc4 : W4.cell? ⟨B, f, none⟩ = some (.slice (some ⟨Mb, 0, none⟩) n n) := by
        obtain ⟨va, ca, _, oa, _⟩ := p3.at_ hfn
        rw [← hW4]
        first | exact World.cell?_setCell_same _ p1 | exact World.cell?_setCell_same _ _ p1 | exact World.cell?_setCell_same _ _ _ p1
      obtain ⟨k0, k1, _⟩ := HC.out W4 hb4
      have HT4 := Lib.hid p3
      have HR4 := Lib.hid hr4
      have HC4 := Lib.hid hc4
      have HB4 := Lib.hid hb4
      have HROWS := Lib.hid hrows
      have HF0 : Hid (∀ k, F k → B ≤ k ∧ k < Mb) := fun k hk => ⟨hF k hk, by rw [← hMb]; exact hT.lt k hk⟩
      have HRC := Lib.hid (HRCA.out W4 hb4 f hfn)
      have HW3 := Lib.hid hW3
      have HW4 := Lib.hid hW4
      clear hT hrows hF hb cv fv ov tv hr3 hx3 p3 p4 hr4 hc4 hb4 hW3 hW4
      go_upto_region 7 with (at_make; refine wpList_make_at rfl (.tmp 20) (.tmp 20) 79 rfl 4 i1 (.bool false) Try.underlying79 hi hz0 hz1 rfl .i64 .i64 _ _ n rfl rfl rfl rfl (by rw [hz2]; omega) (by unfold maxLen; omega) ?_; (try simp only [List.toArray_replicate]); rw [HW3.out, hMb])
      rw [HW4.out]
      clear p1 p2 hi hz0 hz1 hz2 i1
      go_wp2_with fail
      go_at_call 44
      refine HRC.out.mono ?_
      rintro e w5 ⟨v5, rfl, hown5, hb5⟩
      rw [hs4] at hown5
      obtain ⟨H, hH⟩ : ∃ H, Mb + 1 = H := ⟨_, rfl⟩
      rw [hH] at hown5
      have hs5 : H ≤ w5.heap.size := by have := hb5.size; omega
      have HTB0 : Hid (TbI (downF M) n f B Mb H (fun k => F k ∨ (wr.heap.size ≤ k ∧ k < W3.heap.size)) rows B W1 (n * (n + 1) + ((downF M f).length - 0)) v5 (.int .i64 0) w5) := by
        have h0 : metN n (fun _ => false) = 0 := by unfold metN; simp
        refine ⟨fun _ => false, downF M f, 0, by rw [List.drop_zero]; exact Dfs.begin _ f, Nat.zero_le _, rfl, (hb5.block Mb (by omega)).trans HR4.out, (hb5.cell (p := ⟨B, f, none⟩) (by show B < _; omega)).trans HC4.out, HT4.out.below hb5, hown5, HB4.out.trans (hb5.mono (by omega)), hs5, by have := HDL.out f; omega, HDN.out f, by simp only [h0, Nat.sub_zero]⟩
      have HFH : Hid (∀ k, (F k ∨ (wr.heap.size ≤ k ∧ k < W3.heap.size)) → B ≤ k ∧ k < H) := by
        rintro k (hk | hk)
        · have := HF0.out k hk; omega
        · omega
      obtain ⟨F2, hF2⟩ : ∃ F2 : Nat → Prop, (fun k => F k ∨ (wr.heap.size ≤ k ∧ k < W3.heap.size)) = F2 := ⟨_, rfl⟩
      rw [hF2] at HTB0
      have HFH2 : Hid (∀ k, F2 k → B ≤ k ∧ k < H) := by rw [← hF2]; exact HFH.out
      have hMH : Mb < H := by omega
      have hBH : B < H := by omega
      have hfv : f < n := hfn
      clear hown5 hb5 k0 k1 hF2 HFH HT4 HR4 HC4 HW3 HW4 HRC
      clear hMb
      go_wp2_with fail
      go_loopg [6, 7] (n * (n + 1) + ((downF M f).length - 0)) (fun m v c wr => TbI (downF M) n f B Mb H F2 rows B W1 m v c wr)
      case atStart => exact HTB0.out
      case round =>
        obtain ⟨met, t, i, hd, hit, rfl, hm, hc, hT, hown, hb, hsz, hl, hx, rfl⟩ := hrel
        obtain ⟨aot, capt, hv⟩ := ownsRow_slice hown
        subst hv
        by_cases hil : i < t.length
        · have hiI : (i : Int) < (t.length : Int) := by omega
          obtain ⟨h, hh⟩ : ∃ h, t[i]? = some h := ⟨_, List.getElem?_eq_getElem hil⟩
          have hhn : h < n := hx h (List.mem_of_getElem? hh)
          have hhI : (h : Int) < (n : Int) := by omega
          obtain ⟨gt, rfl, hgt, ct⟩ := ownsRow_get hown (j := i) (u := .int .i64 (h : Int)) (by rw [encN_flat]; simp [nums, hh])
          have hgtH := (hown.lt gt rfl).1
          have cm : wr.cell? ⟨Mb, h, none⟩ = some (.bool (met h)) := by rw [cell_of_row _ _ _ _ _ _ hm, truC_get _ hhn]
          have fm : wr.frozen? ⟨Mb, h, none⟩ = false := frozen_of_row _ _ _ _ _ hm
          have htl : t.length ≤ 6000 := by
            have h1 := metN_le n met
            have h2 : metN n met * n ≤ 70 * 70 := Nat.mul_le_mul (by omega) (by omega)
            omega
          obtain ⟨mh, hmh⟩ : ∃ mh, met h = mh := ⟨_, rfl⟩
          rw [hmh] at cm
          have HD := Lib.hid hd
          have HHH := Lib.hid hh
          have HMH := Lib.hid hmh
          have HM := Lib.hid hm
          have HCC := Lib.hid hc
          have HTT := Lib.hid hT
          have HOWN := Lib.hid hown
          have HBB := Lib.hid hb
          have HL := Lib.hid hl
          have HX := Lib.hid hx
          clear hd hh hmh hm hT hown hb hl hx
          cases mh with
          | true =>
            obtain ⟨m2, hm2, htb2⟩ := TbI.skip HD.out HHH.out HMH.out HM.out HCC.out HTT.out HOWN.out HBB.out hsz HL.out HX.out
            have HTB2 := Lib.hid htb2
            have HM2 := Lib.hid hm2
            clear hm2 htb2
            go_wp2_with fail
            go_quiet (fail)
            go_wp2
            go_roundg m2
            case measure => exact HM2.out
            case rel =>
              have h := HTB2.out.drewN nq
              first | exact h | (simpa using h)
          | false =>
            go_wp2_with fail
            go_quiet (fail)
            go_wp2_with fail
            go_region
            all_goals
              go_wp2_with fail
            obtain ⟨wd, hwd⟩ : ∃ wd, wr.drewN (nq + 1) = wd := ⟨_, rfl⟩
            have HMd : Hid (wd.heap[Mb]? = some (.cells (truC n met) 4 (0, 0))) := by rw [← hwd]; exact HM.out
            have HCd : Hid (wd.cell? ⟨B, f, none⟩ = some (.slice (some ⟨Mb, 0, none⟩) n n)) := by rw [← hwd]; exact HCC.out
            have HTd : Hid (TabOf encB 1 79 4 wd B n F2 (fun x => if x = f then (List.range n).map met else rows x)) := by rw [← hwd]; exact HTT.out.ext ((Ext.refl (fun _ => False) wr).drewN _) (fun _ _ h => h)
            have HOd : Hid (wd.ownsRow H 3 1 (.slice (some ⟨gt, 0, none⟩) t.length capt) t.length (t.flatMap encN)) := by rw [← hwd]; exact HOWN.out
            have HBd : Hid (Below B W1 wd) := by rw [← hwd]; exact below_drewN HBB.out _
            have hszd : H ≤ wd.heap.size := by rw [← hwd]; exact hsz
            have hctd : wd.cell? ⟨gt, i, none⟩ = some (.int .i64 (h : Int)) := by rw [← hwd]; exact ct
            obtain ⟨W4, hW4⟩ : ∃ W4, wd.setCell ⟨Mb, h, none⟩ (.bool true) = W4 := ⟨_, rfl⟩
            rw [hwd, hW4]
            have hx4 : Ext (· = Mb) wd W4 := by rw [← hW4]; exact Ext.set1 _ _ _ _
            have HB4 : Hid (Below B W1 W4) := HBd.out.trans (hx4.below (by omega) (fun k hk => by omega))
            have HOT4 : Hid (W4.ownsRow H 3 1 (.slice (some ⟨gt, 0, none⟩) t.length capt) t.length (t.flatMap encN)) := ownsRow_ext HOd.out hx4 (fun k hk => by have := (HOd.out.lt k hk).1; omega)
            have ct4 : W4.cell? ⟨gt, i, none⟩ = some (.int .i64 (h : Int)) := (hx4.cell (a := ⟨gt, i, none⟩) (spot_of_cell hctd).2 (show ¬ gt = Mb by omega)).trans hctd
            have hsz4 : H ≤ W4.heap.size := by have := hx4.size; omega
            have HRC := Lib.hid (HRCA.out W4.drew HB4.out.drew h hhn)
            have hdl := HDL.out h
            have HW4 := Lib.hid hW4
            clear hW4 hx4 hctd cm fm ct hwd
            obtain ⟨S, hS⟩ : ∃ S : World → Prop, S = fun w' => w'.cell? ⟨N, 0, none⟩ = some (.slice sA ss.length sC) ∧ w'.cell? ⟨N, 1, none⟩ = some (.slice fA n fC) := ⟨_, rfl⟩
            have HSS : Hid (∀ w', S w' → w'.cell? ⟨N, 0, none⟩ = some (.slice sA ss.length sC) ∧ w'.cell? ⟨N, 1, none⟩ = some (.slice fA n fC)) := fun w' h => by rw [hS] at h; exact h
            have HSM : Hid (∀ w', Below B W1 w' → S w') := fun w' h => by rw [hS]; exact ⟨(HC.out w' h).1, (HC.out w' h).2.1⟩
            have hS0 : S W4.drew := HSM.out _ HB4.out.drew
            clear hS
            refine wp_region_K 8 S (by kernel_rfl) ?_
            refine wpAnyK_take (i := 0) rfl (by kernel_rfl) (by kernel_rfl) (by kernel_rfl) (by kernel_rfl) (fun _ _ _ h => h) (Or.inl ⟨by rfl, fun w hSw => by obtain ⟨s1, s2⟩ := HSS.out w hSw; go_simp; rfl⟩) (by assumption) ?_
            simp only [List.getElem_toArray, List.getElem_cons_zero, Act.put, List.setIfInBounds_toArray, List.set_cons_zero, List.set_cons_succ]
            refine wpAnyK_take (i := 1) rfl (by kernel_rfl) (by kernel_rfl) (by kernel_rfl) (by kernel_rfl) (fun _ _ _ h => h) (Or.inl ⟨by rfl, fun w hSw => by obtain ⟨s1, s2⟩ := HSS.out w hSw; go_simp; rfl⟩) (by assumption) ?_
            simp only [List.getElem_toArray, List.getElem_cons_succ, List.getElem_cons_zero, Act.put, List.setIfInBounds_toArray, List.set_cons_zero, List.set_cons_succ]
            refine wpAnyK_take (i := 2) rfl (by kernel_rfl) (by kernel_rfl) (by kernel_rfl) (by kernel_rfl) (fun _ _ _ h => h) (Or.inl ⟨by rfl, fun w hSw => by obtain ⟨s1, s2⟩ := HSS.out w hSw; go_simp; rfl⟩) (by assumption) ?_
            simp only [List.getElem_toArray, List.getElem_cons_succ, List.getElem_cons_zero, Act.put, List.setIfInBounds_toArray, List.set_cons_zero, List.set_cons_succ]
            refine wpAnyK_take (i := 3) rfl (by kernel_rfl) (by kernel_rfl) (by kernel_rfl) (by kernel_rfl) (fun _ _ _ h => h) (Or.inl ⟨by rfl, fun w hSw => by obtain ⟨s1, s2⟩ := HSS.out w hSw; go_simp; rfl⟩) (by assumption) ?_
            simp only [List.getElem_toArray, List.getElem_cons_succ, List.getElem_cons_zero, Act.put, List.setIfInBounds_toArray, List.set_cons_zero, List.set_cons_succ]
            refine wpAnyK_take (i := 4) rfl (by kernel_rfl) (by kernel_rfl) (by kernel_rfl) (by kernel_rfl) (fun _ _ _ h => h) (Or.inl ⟨by rfl, fun w hSw => by obtain ⟨s1, s2⟩ := HSS.out w hSw; go_simp; rfl⟩) (by assumption) ?_
            simp only [List.getElem_toArray, List.getElem_cons_succ, List.getElem_cons_zero, Act.put, List.setIfInBounds_toArray, List.set_cons_zero, List.set_cons_succ]
            refine wpAnyK_run (i := 5) (v := .int .i64 (h : Int)) (w' := W4.drew) (by kernel_rfl) rfl (by rfl) (Or.inl (by go_simp)) (fun _ => hS0) ?_
            simp only [List.getElem_toArray, List.getElem_cons_succ, List.getElem_cons_zero, Act.put, List.setIfInBounds_toArray, List.set_cons_zero, List.set_cons_succ]
            refine wpAnyK_one (i := 6) (by kernel_rfl) rfl fun K' hK => ?_
            rw [if_pos (by rfl)]
            go_simp
            go_at_call 44
            refine HRC.out.mono ?_
            rintro e w5 ⟨v5, rfl, hown5, hb5⟩
            obtain ⟨ao5, cap5, rfl⟩ := ownsRow_slice hown5
            have hs5 := hb5.size
            have hs45 : W4.heap.size ≤ w5.heap.size := hs5
            have hb15 : Below B W1 w5 := HB4.out.drew.trans (hb5.mono (by have := HB4.out.size; have := HB.out; have e : W4.drew.heap.size = W4.heap.size := rfl; omega))
            have hx45 : Ext (fun _ => False) W4 w5 := ((Ext.refl _ W4).drew).trans (Ext.of_below_size hb5) (fun _ h => h)
            have hS5 := HSM.out _ hb15
            have HOT5 : Hid (w5.ownsRow H 3 1 (.slice (some ⟨gt, 0, none⟩) t.length capt) t.length (t.flatMap encN)) := ownsRow_ext HOT4.out hx45 (fun _ _ h => h)
            have HNW := row_news hown5
            have hlen5 : ((downF M h).flatMap encN).length = (downF M h).length * 1 := by rw [encN_len, Nat.mul_one]
            obtain ⟨i0, hi0, hi1, hi2, hi3⟩ := info_parts info_int
            refine hK _ _ (fun _ => hS5) ?_
            try simp only [List.getElem_toArray, List.getElem_cons_succ, List.getElem_cons_zero, Act.put, List.setIfInBounds_toArray, List.set_cons_zero, List.set_cons_succ]
            refine wpAnyK_one (i := 7) (by kernel_rfl) rfl fun K' hK => ?_
            rw [if_pos (by rfl)]
            refine wp_append_row (.tmp 52) (.tmp 58) 22 rfl H 3 i0 (.int .i64 0) 1 8 Try.underlying22 hi0 hi1 hi2 hi3 rfl (by decide) (.slice (some ⟨gt, 0, none⟩) t.length capt) t.length (t.flatMap encN) rfl HOT5.out ao5 (downF M h).length cap5 ((downF M h).flatMap encN) rfl hlen5 HNW.1 HNW.2 (oneN _) (by unfold maxLen; omega) (by omega) (by omega) fun v6 w6 hown6 hgrow6 _ => ?_
            have hx56 : Ext (fun k => H ≤ k) w5 w6 := Ext.of_grown (M := fun k => H ≤ k) hgrow6 (fun k hk => .inl (HOT5.out.lt k hk).1)
            have hb16 : Below B W1 w6 := hb15.trans (hx56.below (by omega) (fun k hk => by omega))
            have hS6 := HSM.out _ hb16
            refine hK _ _ (fun _ => hS6) ?_
            simp only [List.getElem_toArray, List.getElem_cons_succ, List.getElem_cons_zero, Act.put, List.setIfInBounds_toArray, List.set_cons_zero, List.set_cons_succ]
            refine wpAnyK_run (i := 8) (v := v6) (w' := w6) (by kernel_rfl) rfl (by rfl) (Or.inl (by go_simp)) (fun h => absurd rfl h) ?_
            simp only [List.getElem_toArray, List.getElem_cons_succ, List.getElem_cons_zero, Act.put, List.setIfInBounds_toArray, List.set_cons_zero, List.set_cons_succ]
            refine wpAnyK_done (by kernel_rfl) ?_ _
            obtain ⟨m6, hm6, htb6⟩ := TbI.meet (w5 := w5) HD.out HHH.out HMH.out hfv hn70 HMd.out HCd.out HTd.out HW4.out.symm hx45 (Ext.of_grown (M := fun k => (Value.slice (some ⟨gt, 0, none⟩) t.length capt).ownBlock = some k) hgrow6 (fun k hk => .inl hk)) (fun k hk => (HOT5.out.lt k hk).1) (fun k hk => (HFH2.out k hk).2) hown6 hb16 hszd HL.out HX.out (HDN.out h) hdl
            have HTB6 := Lib.hid htb6
            have HM6 := Lib.hid hm6
            clear htb6 hm6 hx45 hx56 hb15 hb16 hS0 hS5 hS6 HNW hown5 hown6 hgrow6 hlen5 hs5 hs45 hi0 hi1 hi2 hi3 hb5
            go_wp2
            go_roundg m6
            case measure => exact HM6.out
            case rel => exact HTB6.out
        · have hie : t.drop i = [] := List.drop_of_length_le (by omega)
          have HT3 : Hid (TabOf encB 1 79 4 wr B n F2 (fun x => if x = f then (List.range n).map (reachB (downF M) f) else rows x)) := by
            rw [hie] at hd
            have e : met = reachB (downF M) f := funext fun x => hd.all x
            rw [← e]; exact hT
          have HB3 := Lib.hid hb
          have hdi : decide (i < t.length) = false := decide_eq_false hil
          clear hd hm hc hT hown hb hl hx hie
          go_wp2
          go_roundw
          case rel =>
            refine ⟨f + 1, F2, _, by omega, by go_num, HT3.out, fun x hx => ?_, fun k hk => (HFH2.out k hk).1, HB3.out⟩
            by_cases e : x = f
            · rw [e]; exact if_pos rfl
            · exact (if_neg e).trans (HROWS.out x (by omega))
          case measure => simp [intOf]; omega
    · have hfe : f = n := by omega
      subst hfe
      have HTT : Hid (TabT wr B f (reachB (downF M))) := ⟨F, hT.rows_congr (fun x hx => hrows x hx)⟩
      have HBB := Lib.hid hb
      clear hT hrows hF hb
      go_wp2
      go_ret
      exact ⟨B, rfl, HTT.out, HB1.out.trans (HBB.out.mono (by have := HB1.out.size; have := HB.out; omega))⟩
end Go.Proofs.Ytbbogkcfngpbbaa
