/- FlowSame, at any short code: true. -/
import Derived.Test.YtpbkkajgcdahcaaReaches
namespace Go.Proofs.Ytpbkkajgcdahcaa
open Go.RowKit Go.Maps
attribute [local go_sem] Oper.semAt_some

/-! ### What leads to an instruction, in plain words -/

theorem mem_behAdd_fold (a k : Nat) (z : Nat) : ∀ (ys : List Nat) (rows : Nat → List Nat), z ∈ ys.foldl (behAdd a) rows k ↔ z ∈ rows k ∨ (z = a ∧ k ∈ ys)
  | [], _ => by simp
  | y :: r, rows => by
    rw [List.foldl_cons, mem_behAdd_fold a k z r]
    unfold behAdd
    by_cases h : k = y
    · subst h; simp; grind
    · simp [h]

theorem mem_behindOf (ins : List Ins) (z k : Nat) : z ∈ behindOf ins k ↔ z < ins.length ∧ k ∈ nextN ins z := by
  have key : ∀ n, z ∈ ((List.range n).foldl (behStep ins) (fun _ => [])) k ↔ z < n ∧ k ∈ nextN ins z := by
    intro n
    induction n with
    | zero => simp
    | succ n ih =>
      rw [List.range_succ, List.foldl_append]
      simp only [List.foldl_cons, List.foldl_nil]
      have e : ∀ X, behStep ins X n k = (nextN ins n).foldl (behAdd n) X k := fun _ => rfl
      rw [e, mem_behAdd_fold, ih]
      constructor
      · rintro (⟨h1, h2⟩ | ⟨rfl, h2⟩)
        · exact ⟨by omega, h2⟩
        · exact ⟨by omega, h2⟩
      · rintro ⟨h1, h2⟩
        by_cases e : z = n
        · exact .inr ⟨e, by rw [← e]; exact h2⟩
        · exact .inl ⟨by omega, h2⟩
  exact key ins.length

theorem mem_ints {x : Nat} {xs : List Nat} : (x : Int) ∈ ints xs ↔ x ∈ xs := by
  unfold ints
  rw [List.mem_map]
  constructor
  · rintro ⟨a, h1, h2⟩
    have : a = x := by omega
    subst this; exact h1
  · exact fun h => ⟨x, h, rfl⟩

theorem same_results (tmps : Array Value) (w : World) (ad : Addr) (v : Value) (ht : tmps[2]? = some (.pointer (some ad))) (hc : w.cell? ad = some v) : (results Try.f5 tmps).run Try.prog w = .ok v w := by
  have h : Try.f5.results = #[.cell 2 4] := rfl
  have hu : Try.prog.underlying 4 = _ := Try.underlying4
  simp [results, h, go_sem, ht, hc, hu]

set_option maxRecDepth 100000 in
set_option maxHeartbeats 4000000 in
theorem same_calls (c : Cod) (w : World) (hin : c.inn w) : Calls Try.prog 5 #[.agg c.cells] w (Yes w) := by
  have HIN := Lib.hid hin
  clear hin
  obtain ⟨nm, par, varsA, nvars, varsC, rp, rto, rcl, fromA, nfrom, fromC, insA, insC, ins⟩ := c
  simp only [Cod.cells]
  obtain ⟨i0, hi, hz0, hz1, hz2⟩ := info_parts info_bool
  obtain ⟨N, hN⟩ : ∃ N, w.heap.size = N := ⟨_, rfl⟩
  obtain ⟨W1, hW1⟩ : ∃ W1, (w.alloc (.cells #[.string nm, .int .i64 par, .slice varsA nvars varsC, .bool rp, .string rto, .int .i64 rcl, .slice fromA nfrom fromC, .slice insA ins.length insC] 30)).alloc (.cells #[.bool false] 4) = W1 := ⟨_, rfl⟩
  have hb1 : Below w.heap.size w W1 := by rw [← hW1]; exact ((Below.refl _ _).alloc (Nat.le_refl _) _).alloc (by simp) _
  have hsz : W1.heap.size = N + 2 := by rw [← hW1]; simp [hN]
  have hrow : W1.heap[N]? = some (.cells #[.string nm, .int .i64 par, .slice varsA nvars varsC, .bool rp, .string rto, .int .i64 rcl, .slice fromA nfrom fromC, .slice insA ins.length insC] 30 (0, 0)) := by
    rw [← hW1, ← hN, Below.heap_alloc _ _ _ (by simp)]; exact alloc_at _ _
  have hres : W1.heap[N + 1]? = some (.cells #[.bool false] 4 (0, 0)) := by
    rw [← hW1, ← hN]
    have := alloc_at (w.alloc (.cells #[.string nm, .int .i64 par, .slice varsA nvars varsC, .bool rp, .string rto, .int .i64 rcl, .slice fromA nfrom fromC, .slice insA ins.length insC] 30)) (.cells #[.bool false] 4)
    rwa [World.size_alloc] at this
  have hin1 := HIN.out.below hb1
  have HK : Hid (∀ W, Below (N + 2) W1 W → Cod.inn W ⟨nm, par, varsA, nvars, varsC, rp, rto, rcl, fromA, nfrom, fromC, insA, insC, ins⟩) := fun W hb => hin1.below (by rw [hsz]; exact hb)
  have HS : Hid (∀ W, Below (N + 2) W1 W → W.cell? ⟨N, 0, none⟩ = some (.string nm) ∧ W.cell? ⟨N, 1, none⟩ = some (.int .i64 par) ∧ W.cell? ⟨N, 2, none⟩ = some (.slice varsA nvars varsC) ∧ W.cell? ⟨N, 3, none⟩ = some (.bool rp) ∧ W.cell? ⟨N, 4, none⟩ = some (.string rto) ∧ W.cell? ⟨N, 5, none⟩ = some (.int .i64 rcl) ∧ W.cell? ⟨N, 6, none⟩ = some (.slice fromA nfrom fromC) ∧ W.cell? ⟨N, 7, none⟩ = some (.slice insA ins.length insC) ∧ W.cell? ⟨N + 1, 0, none⟩ = some (.bool false) ∧ W.frozen? ⟨N + 1, 0, none⟩ = false) := by
    intro W h1
    have h4 := (h1.block N (by omega)).trans hrow
    have h5 := (h1.block (N + 1) (by omega)).trans hres
    refine ⟨?_, ?_, ?_, ?_, ?_, ?_, ?_, ?_, ?_, frozen_of_row _ _ _ _ _ h5⟩
    all_goals first
      | (rw [cell_of_row _ _ _ _ _ _ h4]; rfl)
      | (rw [cell_of_row _ _ _ _ _ _ h5]; rfl)
  have HB1 : Hid (∀ W, Ext (fun k => N + 1 ≤ k) W1 W → Below N w W) := fun W hb => by
    have h2 := Ext.of_below hb1
    exact (h2.trans hb (fun k hk => .inl (by omega))).below (by omega) (fun k (h : w.heap.size ≤ k) => by omega)
  have HL : Hid (∀ W, Below (N + 2) W1 W → Calls Try.prog 14 #[.agg #[.string nm, .int .i64 par, .slice varsA nvars varsC, .bool rp, .string rto, .int .i64 rcl, .slice fromA nfrom fromC, .slice insA ins.length insC]] W (SaysIf W W.heap.size (Cod.short ⟨nm, par, varsA, nvars, varsC, rp, rto, rcl, fromA, nfrom, fromC, insA, insC, ins⟩))) :=
    fun W hb => light8_calls _ W (HK.out W hb)
  have hs1 : N + 2 ≤ W1.heap.size := by omega
  have HW1 := Lib.hid hW1
  clear hb1 hsz hrow hres hin1 hW1 HIN
  (refine calls_of_wp_marks Try.func5 rfl ?_
   simp only [Try.ntmps5, List.size_toArray, List.length_cons, List.length_nil, Nat.reduceAdd, Nat.reduceSub, Array.replicate_succ,
     Array.replicate_zero, List.push_toArray, List.append_toArray, List.nil_append, List.cons_append])
  go_wp2_with fail
  go_at_call 15
  rw [HW1.out]
  refine (alive_calls _).mono ?_
  rintro e w2 ⟨rfl, hb2⟩
  have hb2' : Below (N + 2) W1 w2 := hb2.mono hs1
  obtain ⟨k0, k1, k2, k3, k4, k5, k6, k7, k8, k9⟩ := HS.out w2 hb2'
  have HB2 := Lib.hid hb2'
  clear hb2 hb2'
  go_wp2_with fail
  go_at_call 14
  refine (HL.out w2 HB2.out).mono ?_
  rintro e w3 ⟨b, rfl, hb, hb3⟩
  have hb3' : Below (N + 2) W1 w3 := HB2.out.trans (hb3.mono (by have := HB2.out.size; omega))
  obtain ⟨k0, k1, k2, k3, k4, k5, k6, k7, k8, k9⟩ := HS.out w3 hb3'
  have HBB := Lib.hid hb
  have HB3 := Lib.hid hb3'
  clear hb hb3 hb3'
  cases b with
  | false =>
    have HY : Hid (∀ w', Ext (fun _ => False) (w3.setCell ⟨N + 1, 0, none⟩ (.bool true)) w' → w'.cell? ⟨N + 1, 0, none⟩ = some (.bool true) ∧ Yes w (.returned (.bool true)) w') := by
      intro w' hx
      have h1 : Ext (fun k => N + 1 ≤ k) W1 (w3.setCell ⟨N + 1, 0, none⟩ (.bool true)) := ((Ext.of_below HB3.out).mono (fun k hk => by omega)).trans (Ext.set1 _ _ _ _) (fun k hk => .inl (by omega))
      have h2 := HB1.out _ (h1.trans hx (fun _ h => h.elim))
      refine ⟨?_, rfl, by rw [hN]; exact h2⟩
      rw [hx.cell (a := ⟨N + 1, 0, none⟩) (by rw [World.size_setCell]; have := HB3.out.size; show N + 1 < _; omega) (fun h => h)]
      first | exact World.cell?_setCell_same _ k8 | exact World.cell?_setCell_same _ _ k8 | exact World.cell?_setCell_same _ _ _ k8
    go_wp2
    refine ⟨[], rfl, by simp, by simp, .bool true, fun w' hx => ?_⟩
    obtain ⟨h1, h2⟩ := HY.out w' (hx.mono (fun k hk => by simp at hk))
    exact ⟨same_results _ _ _ _ rfl h1, h2⟩
  | true =>
    have hsh : ins.length ≤ 150 := (HBB.out rfl).1
    obtain ⟨M, L, T, hp⟩ := plan_of ins (by omega)
    have hpm : ∀ x, x < ins.length → (x ∈ M ↔ x ∈ T) := fun x _ => hp.same x
    have hlM := hp.lm
    have HM : Hid (FromL ins 0 M) := hp.from_
    have HMN : Hid (M.Nodup) := hp.nodup
    have HR : Hid (∀ W, Below (N + 2) W1 W → Calls Try.prog 17 #[.agg #[.string nm, .int .i64 par, .slice varsA nvars varsC, .bool rp, .string rto, .int .i64 rcl, .slice fromA nfrom fromC, .slice insA ins.length insC]] W (Truthed W ins.length M)) :=
      fun W hb => reach_calls ⟨nm, par, varsA, nvars, varsC, rp, rto, rcl, fromA, nfrom, fromC, insA, insC, ins⟩ W M (HK.out W hb).row (by show ins.length ≤ 90000; omega) hp.from_ (by omega)
    have HBE : Hid (∀ W, Below (N + 2) W1 W → Calls Try.prog 24 #[.agg #[.string nm, .int .i64 par, .slice varsA nvars varsC, .bool rp, .string rto, .int .i64 rcl, .slice fromA nfrom fromC, .slice insA ins.length insC]] W (GivesR W ins.length (behindOf ins))) :=
      fun W hb => behind_calls ⟨nm, par, varsA, nvars, varsC, rp, rto, rcl, fromA, nfrom, fromC, insA, insC, ins⟩ W (HK.out W hb).row (by show ins.length ≤ 90000; omega)
    have HNX : Hid (∀ W x, Below (N + 2) W1 W → x < ins.length → Calls Try.prog 19 #[.agg #[.string nm, .int .i64 par, .slice varsA nvars varsC, .bool rp, .string rto, .int .i64 rcl, .slice fromA nfrom fromC, .slice insA ins.length insC], .int .i64 (x : Int)] W (GivesI W (ints (nextN ins x)))) :=
      fun W x hb hx => ref08_nextN ⟨nm, par, varsA, nvars, varsC, rp, rto, rcl, fromA, nfrom, fromC, insA, insC, ins⟩ x W (HK.out W hb).row hx (by show ins.length ≤ 90000; omega)
    have HTR : Hid (∀ (W : World) b1 b2, W.heap[b1]? = some (.cells (seenCells ins.length M) 4 (0, 0)) → W.heap[b2]? = some (.cells (seenCells ins.length M) 4 (0, 0)) → Calls Try.prog 21 #[.slice (some ⟨b1, 0, none⟩) ins.length ins.length, .slice (some ⟨b2, 0, none⟩) ins.length ins.length] W (Yes W)) :=
      fun W b1 b2 h1 h2 => truths_calls W b1 b2 ins.length M M (by omega) h1 h2 (fun _ _ => Iff.rfl)
    clear hp hpm
    have hq : N + 1 < w3.heap.size := by have := HB3.out.size; omega
    have hq0 : N < w3.heap.size := by omega
    have hq1 : N < w3.heap.size + 1 := by omega
    have hq2 : N < w3.heap.size + 1 + 1 := by omega
    go_wp2_with (at_make; refine wpList_make_at rfl (.tmp 18) (.tmp 18) 34 rfl 4 i0 (.bool false) Try.underlying34 hi hz0 hz1 rfl .i64 .i64 _ _ ins.length rfl rfl rfl rfl (by rw [hz2]; omega) (by unfold maxLen; omega) ?_)
    obtain ⟨Z, hZ⟩ : ∃ Z, w3.heap.size = Z := ⟨_, rfl⟩
    obtain ⟨W4, hW4⟩ : ∃ W4, ((w3.alloc (.cells #[.int .i64 (ins.length : Int)] 3)).alloc (.cells (Array.replicate ins.length (.bool false)) 4)).alloc (.cells #[.slice (some ⟨w3.heap.size + 1, 0, none⟩) ins.length ins.length] 34) = W4 := ⟨_, rfl⟩
    have hs4 : W4.heap.size = Z + 3 := by rw [← hW4]; simp [hZ]
    have hb4 : Below w3.heap.size w3 W4 := by rw [← hW4]; exact (((Below.refl _ _).alloc (Nat.le_refl _) _).alloc (by simp) _).alloc (by simp; omega) _
    have hn4 : W4.heap[Z]? = some (.cells #[.int .i64 (ins.length : Int)] 3 (0, 0)) := by
      rw [← hW4, ← hZ, Below.heap_alloc _ _ _ (by simp; omega), Below.heap_alloc _ _ _ (by simp)]; exact alloc_at _ _
    have hr4 : W4.heap[Z + 1]? = some (.cells (seenCells ins.length []) 4 (0, 0)) := by
      rw [← hW4, ← hZ, Below.heap_alloc _ _ _ (by simp), seenCells_nil, List.toArray_replicate]
      have := alloc_at (w3.alloc (.cells #[.int .i64 (ins.length : Int)] 3)) (.cells (Array.replicate ins.length (.bool false)) 4)
      rwa [World.size_alloc] at this
    have hv4 : W4.heap[Z + 2]? = some (.cells #[.slice (some ⟨Z + 1, 0, none⟩) ins.length ins.length] 34 (0, 0)) := by
      rw [← hW4, ← hZ]
      have := alloc_at ((w3.alloc (.cells #[.int .i64 (ins.length : Int)] 3)).alloc (.cells (Array.replicate ins.length (.bool false)) 4)) (.cells #[.slice (some ⟨w3.heap.size + 1, 0, none⟩) ins.length ins.length] 34)
      rwa [World.size_alloc, World.size_alloc] at this
    have hb14 : Below (N + 2) W1 W4 := HB3.out.trans (hb4.mono (by omega))
    have HC := Lib.hid (from_calls ⟨nm, par, varsA, nvars, varsC, rp, rto, rcl, fromA, nfrom, fromC, insA, insC, ins⟩ 0 W4)
    have HZ := Lib.hid hZ
    have hqz : N + 1 < Z := by omega
    go_at_call 26
    simp only [hW4]
    refine HC.out.mono ?_
    clear hi hz0 hz1 hz2 HC hW4
    rintro e W5 ⟨rfl, hW5⟩
    have HIT := Lib.hid (from_iter ⟨nm, par, varsA, nvars, varsC, rp, rto, rcl, fromA, nfrom, fromC, insA, insC, ins⟩ 0 W4 M (HK.out W4 hb14).row (by show ins.length ≤ 90000; omega) HM.out (by omega))
    have hx5 : Ext (fun _ => False) W4 W5 := by rw [hW5]; exact ((Ext.refl _ W4).alloc _).alloc _
    have hs5 : W5.heap.size = Z + 5 := by rw [hW5]; simp; omega
    try simp only [] at HIT
    rw [← hW5] at HIT
    rw [hs4] at HIT ⊢
    have HX5 := Lib.hid hx5
    have HS5 := Lib.hid hs5
    have HN4 := Lib.hid hn4
    have HR4 := Lib.hid hr4
    have HV4 := Lib.hid hv4
    have HB14 := Lib.hid hb14
    clear hq hq0 hq1 hq2 hW5 hx5 hs5 hs4 hn4 hr4 hv4 hb14 hb4 k0 k1 k2 k3 k4 k5 k6 k7 k8 k9
    try simp only [Nat.add_assoc, Nat.reduceAdd]
    try simp only [Nat.add_assoc, Nat.reduceAdd] at HIT
    rw [hZ]
    clear hZ
    go_wp2_with fail
    refine wp_rangeFunc_sep (gf := 60) rfl Try.func60 (by rfl) rfl HIT.out ?hbel ?hRd (fun _ => rfl)
      (fun pre C W => C = (· = Z + 1) ∧ W.heap[Z + 1]? = some (.cells (seenCells ins.length pre) 4 (0, 0)) ∧ Ext (· = Z + 1) W5 W) (fun _ _ _ _ => False) ?hI ?hIC (fun _ _ _ _ _ h _ => h.elim) (· = Z + 1) ?h0 ?hround ?hdone (fun _ _ _ _ _ _ _ _ h _ => h.elim)
    case hbel => exact Below.refl _ _
    case hRd =>
      have hrr := (HK.out W4 HB14.out).row
      rintro k (rfl | rfl | ⟨a, hne, ha, rfl⟩)
      · have := HS5.out; omega
      · have := HS5.out; omega
      · obtain ⟨b, off, e, hb, _⟩ := hrr hne
        simp only at ha
        simp only [ha] at e
        obtain rfl := Option.some.inj e
        have := HX5.out.size
        show b < _; omega
    case hI =>
      rintro pre C W W' ⟨rfl, h1, h2⟩ hx
      have := HS5.out
      exact ⟨rfl, hx.heap h1 (fun h => by omega), h2.trans hx (fun j hj => .inr hj.1)⟩
    case hIC =>
      have hrr := (HK.out w3 HB3.out).row
      have h3Z := HZ.out
      rintro pre C W ⟨rfl, h1, h2⟩ k rfl
      have := HS5.out
      refine ⟨by have := h2.size; omega, ?_⟩
      rintro (h | h | ⟨a, hne, ha, h⟩)
      · omega
      · omega
      · obtain ⟨b, off, e, hb, _⟩ := hrr hne
        simp only at ha
        simp only [ha] at e
        obtain rfl := Option.some.inj e
        simp only at h; omega
    case h0 =>
      exact ⟨rfl, HX5.out.heap HR4.out (fun h => h), Ext.refl _ _⟩
    case hround =>
      rintro l pre x C W hl ⟨rfl, h1, h2⟩ hpre
      have hxn : x < ins.length := HM.out.lt x (hpre.subset (by simp))
      have hxp : x ∉ pre := by
        have := HMN.out.sublist hpre.sublist
        rw [List.nodup_append] at this
        exact fun h => this.2.2 x h x (by simp) rfl
      rw [fold_one]
      simp only [List.setIfInBounds_toArray, List.set_cons_zero, List.set_cons_succ]
      have HI := Lib.hid (And.intro h1 h2)
      clear h1 h2 hpre
      obtain ⟨F, hF⟩ : ∃ F, F = Fence.wide.inRound l := ⟨_, rfl⟩
      have hFr : F.round = some l := by rw [hF]; rfl
      have hFf : ∀ f, F.fn f := fun f => by rw [hF]; trivial
      have hFd : F.depth = none := by rw [hF]; rfl
      rw [← hF]
      clear hF
      gi_wp2
      refine ⟨_, fun k hk => .inl hk, ⟨rfl, HI.out.1, HI.out.2⟩, Ext.refl _ _, ?_⟩
      rintro W₂ ⟨_, g1, g2⟩ hl2
      have hs5 := HS5.out
      have hv : W₂.cell? ⟨Z + 2, 0, none⟩ = some (.slice (some ⟨Z + 1, 0, none⟩) ins.length ins.length) := by
        rw [cell_of_row _ _ _ _ _ _ (g2.heap (HX5.out.heap HV4.out (fun h => h)) (by omega))]; rfl
      have hvn : W₂.cell? ⟨Z, 0, none⟩ = some (.int .i64 (ins.length : Int)) := by
        rw [cell_of_row _ _ _ _ _ _ (g2.heap (HX5.out.heap HN4.out (fun h => h)) (by omega))]; rfl
      have hfz : W₂.frozen? ⟨Z + 1, x, none⟩ = false := frozen_of_row _ _ _ _ _ g1
      have hcx : W₂.cell? ⟨Z + 1, x, none⟩ = some (.bool false) := by rw [cell_of_row _ _ _ _ _ _ g1, seenCells_get pre hxn, decide_eq_false hxp]
      have hxi : (x : Int) < (ins.length : Int) := by omega
      have hd0 : decide ((x : Int) < 0) = false := decide_eq_false (by omega)
      have hd1 : decide ((ins.length : Int) ≤ (x : Int)) = false := decide_eq_false (by omega)
      have HG : Hid (((W₂.setCell ⟨Z + 1, x, none⟩ (.bool true)).heap[Z + 1]? = some (.cells (seenCells ins.length (pre ++ [x])) 4 (0, 0)) ∧ Ext (· = Z + 1) W5 (W₂.setCell ⟨Z + 1, x, none⟩ (.bool true))) ∧ Ext (· = Z + 1) W₂ (W₂.setCell ⟨Z + 1, x, none⟩ (.bool true))) :=
        ⟨⟨by rw [← seenCells_set]; exact heap_setCell_same _ _ _ _ _ _ g1, g2.trans (Ext.set1 _ _ _ _) (fun j hj => .inl hj)⟩, Ext.set1 _ _ _ _⟩
      clear g1 g2 hs5 hxp hl2
      gi_wp2
      exact ⟨_, fun k hk => .inl hk, ⟨rfl, HG.out.1.1, HG.out.1.2⟩, HG.out.2⟩
    case hdone =>
      rintro D C W hD hCD ⟨hCe, h1, h2⟩ hdd
      have hs5 := HS5.out
      have hx4W : Ext (· = Z + 1) W4 W := (HX5.out.mono (fun _ h => h.elim)).trans h2 (fun j hj => .inl hj)
      have hbW : Below (N + 2) W1 W := (((Ext.of_below HB14.out).mono (fun k hk => hk)).trans hx4W (fun k hk => .inl (by show N + 2 ≤ k; omega))).below hs1 (fun _ h => h)
      have hnW := hx4W.heap HN4.out (by omega)
      have hvW := hx4W.heap HV4.out (by omega)
      have hDlt : D < W.heap.size := (Array.getElem?_eq_some_iff.1 hdd).1
      have hWZ : Z + 5 ≤ W.heap.size := by have := h2.size; omega
      have HSW : Hid (∀ W', Below W.heap.size W W' → W'.cell? ⟨N, 0, none⟩ = some (.string nm) ∧ W'.cell? ⟨N, 1, none⟩ = some (.int .i64 par) ∧ W'.cell? ⟨N, 2, none⟩ = some (.slice varsA nvars varsC) ∧ W'.cell? ⟨N, 3, none⟩ = some (.bool rp) ∧ W'.cell? ⟨N, 4, none⟩ = some (.string rto) ∧ W'.cell? ⟨N, 5, none⟩ = some (.int .i64 rcl) ∧ W'.cell? ⟨N, 6, none⟩ = some (.slice fromA nfrom fromC) ∧ W'.cell? ⟨N, 7, none⟩ = some (.slice insA ins.length insC) ∧
          W'.cell? ⟨Z, 0, none⟩ = some (.int .i64 (ins.length : Int)) ∧ W'.cell? ⟨Z + 2, 0, none⟩ = some (.slice (some ⟨Z + 1, 0, none⟩) ins.length ins.length) ∧ Below W.heap.size W W') := by
        intro W' hb
        obtain ⟨k0, k1, k2, k3, k4, k5, k6, k7, _, _⟩ := HS.out W' (hbW.trans (hb.mono (by omega)))
        refine ⟨k0, k1, k2, k3, k4, k5, k6, k7, ?_, ?_, hb⟩
        · rw [cell_of_row _ _ _ _ _ _ ((hb.block Z (by omega)).trans hnW)]; rfl
        · rw [cell_of_row _ _ _ _ _ _ ((hb.block (Z + 2) (by omega)).trans hvW)]; rfl
      have HRES : Hid (∀ W', Below W.heap.size W W' → W'.cell? ⟨N + 1, 0, none⟩ = some (.bool false) ∧ W'.frozen? ⟨N + 1, 0, none⟩ = false) := fun W' hb => by
        obtain ⟨_, _, _, _, _, _, _, _, k8, k9⟩ := HS.out W' (hbW.trans (hb.mono (by omega)))
        exact ⟨k8, k9⟩
      have HEND : Hid (∀ W', Below W.heap.size W W' → (W'.setCell ⟨N + 1, 0, none⟩ (.bool true)).heap[D]? = some (.deferred (some [])) ∧ ∀ w', Ext (fun k => k = D) (W'.setCell ⟨N + 1, 0, none⟩ (.bool true)) w' → w'.cell? ⟨N + 1, 0, none⟩ = some (.bool true) ∧ Yes w (.returned (.bool true)) w') := by
        intro W' hb
        obtain ⟨_, _, _, _, _, _, _, _, k8, k9⟩ := HS.out W' (hbW.trans (hb.mono (by omega)))
        have hxs : Ext (· = N + 1) W' (W'.setCell ⟨N + 1, 0, none⟩ (.bool true)) := Ext.set1 _ _ _ _
        refine ⟨?_, fun w' hx => ⟨?_, rfl, ?_⟩⟩
        · rw [hxs.block D (by have := hb.size; omega) (by omega)]
          exact (hb.block D hDlt).trans hdd
        · rw [hx.cell (a := ⟨N + 1, 0, none⟩) (by rw [World.size_setCell]; have := hb.size; show N + 1 < _; omega) (by show ¬ N + 1 = D; omega)]
          first | exact World.cell?_setCell_same _ k8 | exact World.cell?_setCell_same _ _ k8 | exact World.cell?_setCell_same _ _ _ k8
        · rw [hN]
          refine HB1.out _ ?_
          have e1 : Ext (fun k => N + 1 ≤ k) W1 W := (Ext.of_below hbW).mono (fun k hk => by omega)
          exact ((e1.trans (Ext.of_below hb) (fun k hk => .inl (by omega))).trans hxs (fun k hk => .inl (by omega))).trans hx (fun k hk => .inl (by omega))
      have HROW := Lib.hid h1
      have HBW := Lib.hid hbW
      obtain ⟨k0, k1, k2, k3, k4, k5, k6, k7, k8, k9, _⟩ := HSW.out W (Below.refl _ _)
      clear h1 h2 hdd hx4W hbW hnW hvW hCe hCD hs5
      go_wp2_with fail
      go_at_call 24
      refine (HBE.out W HBW.out).mono ?_
      rintro e w6 ⟨R, rfl, hR, hrows, hb6⟩
      obtain ⟨k0, k1, k2, k3, k4, k5, k6, k7, k8, k9, _⟩ := HSW.out w6 hb6
      have HB6 := Lib.hid hb6
      have HROWS := Lib.hid hrows
      clear hb6 hrows
      go_wp2_with fail
      go_region_held3 (fun w' => w'.cell? ⟨N, 0, none⟩ = some (.string nm) ∧ w'.cell? ⟨N, 1, none⟩ = some (.int .i64 par) ∧ w'.cell? ⟨N, 2, none⟩ = some (.slice varsA nvars varsC) ∧ w'.cell? ⟨N, 3, none⟩ = some (.bool rp) ∧ w'.cell? ⟨N, 4, none⟩ = some (.string rto) ∧ w'.cell? ⟨N, 5, none⟩ = some (.int .i64 rcl) ∧ w'.cell? ⟨N, 6, none⟩ = some (.slice fromA nfrom fromC) ∧ w'.cell? ⟨N, 7, none⟩ = some (.slice insA ins.length insC) ∧
            w'.cell? ⟨Z, 0, none⟩ = some (.int .i64 (ins.length : Int)) ∧ w'.cell? ⟨Z + 2, 0, none⟩ = some (.slice (some ⟨Z + 1, 0, none⟩) ins.length ins.length) ∧ Below W.heap.size W w')
        (first | (exact hS) | (exact ⟨k0, k1, k2, k3, k4, k5, k6, k7, k8, k9, below_drewN HB6.out 1⟩))
        (first
          | (go_at_call 17; refine (HR.out _ (HBW.out.trans (Below.mono (by go_split_ands; assumption) (by omega)))).mono ?_; rintro e w7 ⟨b1, rfl, hb1, hrow1, hbel1⟩; have hS := HSW.out _ (HB6.out.trans ((below_drewN (Below.refl _ w6) 1).trans (hbel1.mono (Nat.le_refl _)) |>.mono HB6.out.size)))
          | (go_at_call 21; refine (HTR.out _ _ _ ((hS.2.2.2.2.2.2.2.2.2.2.block (Z + 1) (by omega)).trans HROW.out) hrow1).mono ?_; rintro e w8 ⟨rfl, hbel8⟩; have hS := HSW.out _ (hS.2.2.2.2.2.2.2.2.2.2.trans (hbel8.mono hS.2.2.2.2.2.2.2.2.2.2.size))))
      have hb68 : Below w6.heap.size w6 w8 := ((below_drewN (Below.refl _ w6) 1).trans hbel1).trans (hbel8.mono hbel1.size)
      have hr8 := HROWS.out.below hb68
      have hb8 := hS.2.2.2.2.2.2.2.2.2.2
      have HR8 := Lib.hid hr8
      have HB8 := Lib.hid hb8
      clear hb68 hr8 hb8 hS hbel1 hbel8 hrow1 k0 k1 k2 k3 k4 k5 k6 k7 k8 k9
      go_wp2_with fail
      go_loopw [7] (fun c wr => ∃ j : Nat, j ≤ ins.length ∧ c = .int .i64 (j : Int) ∧ Below w8.heap.size w8 wr) (fun c _ => ins.length - (intOf c).toNat)
      case atStart => exact ⟨0, Nat.zero_le _, rfl, Below.refl _ _⟩
      case round =>
        obtain ⟨j, hj, rfl, hbr⟩ := hrel
        have hbWr : Below W.heap.size W wr := HB8.out.trans (hbr.mono HB8.out.size)
        obtain ⟨k0, k1, k2, k3, k4, k5, k6, k7, k8, k9, _⟩ := HSW.out wr hbWr
        have HBR := Lib.hid hbr
        have HBWR := Lib.hid hbWr
        clear hbr hbWr
        by_cases hjl : j < ins.length
        · have hjI : (j : Int) < (ins.length : Int) := by omega
          have HNXT := Lib.hid (HNX.out wr j (HBW.out.trans (HBWR.out.mono (by omega))) hjl)
          go_wp2_with (go_at_call 19; refine HNXT.out.mono ?_; rintro e w9 ⟨ao, cap, rfl, hown, hb9⟩)
          have hb99 : Below w8.heap.size w8 w9 := HBR.out.trans (hb9.mono HBR.out.size)
          have hbW9 : Below W.heap.size W w9 := HBWR.out.trans (hb9.mono HBWR.out.size)
          obtain ⟨k0, k1, k2, k3, k4, k5, k6, k7, k8, k9, _⟩ := HSW.out w9 hbW9
          have HR9 := Lib.hid (HR8.out.below hb99)
          have HO9 := Lib.hid hown
          have HB99 := Lib.hid hb99
          clear hown hb9 hb99 hbW9 HNXT
          go_wp2_with fail
          go_loopw [9] (fun c w10 => ∃ q : Nat, q ≤ ins.length ∧ c = .int .i64 (q : Int) ∧ ∃ m, w10 = w9.drewN m) (fun c _ => ins.length - (intOf c).toNat)
          case atStart => exact ⟨0, Nat.zero_le _, rfl, 0, rfl⟩
          case round =>
            obtain ⟨q, hq, rfl, m, rfl⟩ := hrel
            by_cases hql : q < ins.length
            · have hqI : (q : Int) < (ins.length : Int) := by omega
              obtain ⟨vals, _, e1, e2, _, e4, _⟩ := HR9.out
              obtain ⟨v, hv⟩ : ∃ v, vals[q]? = some v := ⟨_, Array.getElem?_eq_getElem (by omega)⟩
              have o1 := e4 q v hv
              obtain ⟨ao1, c1, rfl⟩ := o1.isSlice
              have d1 : w9.cell? ⟨R, q, none⟩ = some (.slice ao1 (ints (behindOf ins q)).length c1) := by rw [cell_of_row _ _ _ _ _ _ e2]; exact hv
              obtain ⟨d, hd⟩ : ∃ d, d = decide (q ∈ nextN ins j) := ⟨_, rfl⟩
              have hd1 : decide ((q : Int) ∈ ints (nextN ins j)) = d := by rw [hd, decide_eq_decide]; exact mem_ints
              have hd2 : decide ((j : Int) ∈ ints (behindOf ins q)) = d := by rw [hd, decide_eq_decide, mem_ints, mem_behindOf]; exact ⟨fun h => h.2, fun h => ⟨hjl, h⟩⟩
              have HH : Hid (∀ k (v : Value) (z : Int), (v = .slice ao (ints (nextN ins j)).length cap ∧ z = (q : Int)) ∨ (v = .slice ao1 (ints (behindOf ins q)).length c1 ∧ z = (j : Int)) → Calls Try.prog 27 #[v, .int .i64 z] (w9.drewN k) fun e w' => e = .returned (.bool d) ∧ ∃ m, w' = (w9.drewN k).drewN m) := by
                rintro k v z (⟨rfl, rfl⟩ | ⟨rfl, rfl⟩)
                · rw [← hd1]; exact has_quiet (w9.drewN k) _ cap ao _ _ (by have := nextN_length ins j; simp [ints]; omega) HO9.out
                · rw [← hd2]; exact has_quiet (w9.drewN k) _ c1 ao1 _ _ (by have := behindOf_len ins q; simp [ints]; omega) o1
              clear e4 hv o1 e2 e1 hd hd1 hd2
              go_wp2
              go_quiet ((go_at_call 27; exact quiet_add (HH.out _ _ _ (by first | exact .inl ⟨rfl, rfl⟩ | exact .inr ⟨rfl, rfl⟩))))
              go_wp2
              go_roundw
              case rel => exact ⟨q + 1, by omega, by go_num, _, rfl⟩
              case measure => simp [intOf]; omega
            · have hqe : q = ins.length := by omega
              subst hqe
              go_wp2
              go_roundw
              case rel => exact ⟨j + 1, by omega, by go_num, below_drewN HB99.out m⟩
              case measure => simp [intOf]; omega
        · have hje : j = ins.length := by omega
          subst hje
          obtain ⟨r1, r2⟩ := HRES.out wr HBWR.out
          go_wp2
          obtain ⟨h1, h2⟩ := HEND.out wr HBWR.out
          refine ⟨[D], rfl, by simp, by intro b hb; simp at hb; subst hb; exact h1, .bool true, fun w' hx => ?_⟩
          obtain ⟨h3, h4⟩ := h2 w' (hx.mono (fun k hk => by simpa using hk))
          exact ⟨same_results _ _ _ _ rfl h3, h4⟩
end Go.Proofs.Ytpbkkajgcdahcaa
