/- IrGrow, at any module: true. -/
import Derived.Test.YtbbogkcfngpbbaaGrowQ
import Derived.Test.YtbbogkcfngpbbaaISames
import Derived.Test.YtbbogkcfngpbbaaAppR
import Derived.Test.YtbbogkcfngpbbaaRw
namespace Go.Proofs.Ytbbogkcfngpbbaa
open Go.RowKit

theorem info_var : (Try.prog.info? 45).map (fun i => (i.zero, i.size, i.bytes)) = some (some (.agg #[.bool false, .string ⟨#[]⟩, .int .i64 0]), 3, 32) := by kernel_rfl
theorem info_code : (Try.prog.info? 48).map (fun i => (i.zero, i.size, i.bytes)) = some (some (.agg #[.string ⟨#[]⟩, .int .i64 0, .slice none 0 0, .bool false, .string ⟨#[]⟩, .int .i64 0, .slice none 0 0, .slice none 0 0]), 8, 128) := by kernel_rfl

/-- f with its variables at b, one more. -/
def growC (f : Fn) (b cap : Nat) : Fn := ⟨{ f.c with varsA := some ⟨b, 0, none⟩, nvars := f.vs.length + 1, varsC := cap }, f.vs ++ [zVr], f.frm, f.mds⟩

theorem growC_grown (f : Fn) (b cap : Nat) : Grown f (growC f b cap) := ⟨rfl, rfl, rfl, rfl, rfl, rfl⟩

def vrFlat (vs : List Vr) : List Value := vs.flatMap fun v => v.cells.toList
def fnFlat (gs : List Fn) : List Value := gs.flatMap fun g => g.cells.toList

theorem flat_get {α : Type} {cells : α → List Value} {k : Nat} (hc : ∀ a, (cells a).length = k) : ∀ (xs : List α) (i j : Nat) (x : α) (u : Value), xs[i]? = some x → (cells x)[j]? = some u → (xs.flatMap cells)[i * k + j]? = some u
  | [], i, j, x, u, h, _ => by simp at h
  | y :: r, 0, j, x, u, h, hu => by
    simp at h; subst h
    rw [List.flatMap_cons, Nat.zero_mul, Nat.zero_add, List.getElem?_append_left (List.getElem?_eq_some_iff.1 hu).1]; exact hu
  | y :: r, i + 1, j, x, u, h, hu => by
    have := flat_get hc r i j x u (by simpa using h) hu
    rw [List.flatMap_cons, List.getElem?_append_right (by rw [hc]; rw [Nat.add_mul]; omega), hc]
    rw [show (i + 1) * k + j - k = i * k + j from by rw [Nat.add_mul]; omega]; exact this

theorem flat_len {α : Type} {cells : α → List Value} {k : Nat} (hc : ∀ a, (cells a).length = k) : ∀ xs : List α, (xs.flatMap cells).length = xs.length * k
  | [] => by simp
  | x :: r => by rw [List.flatMap_cons, List.length_append, hc, flat_len hc r, List.length_cons, Nat.add_mul]; omega

/-- A row that is owned, read as a row of things. -/
theorem RowOf.of_own {α : Type} {cells : α → Array Value} {k : Nat} (hc : ∀ a, (cells a).toList.length = k) {w : World} {base cap : Nat} {e : TypeId} {ao : Option Addr} {xs : List α} (h : w.ownsRow base e k (.slice ao xs.length cap) xs.length (xs.flatMap fun a => (cells a).toList)) :
    RowOf cells k w w.heap.size ao xs := by
  intro hne
  have hpos := List.length_pos_iff.2 hne
  rcases h.2 with ⟨h1, h2⟩ | ⟨g, cap', cur, h1, h2, h3, h4, h5, h6, h7⟩
  · omega
  · have hs : ao = some ⟨g, 0, none⟩ := by simp only [Value.slice.injEq] at h1; exact h1.1
    refine ⟨g, 0, hs, (Array.getElem?_eq_some_iff.1 h3).1, fun i x hx j u hu => ?_⟩
    have hj : j < k := by rw [← hc x]; exact (List.getElem?_eq_some_iff.1 hu).1
    have hi : i < xs.length := (List.getElem?_eq_some_iff.1 hx).1
    have e := flat_get (cells := fun a => (cells a).toList) hc xs i j x u hx hu
    rw [← h7, List.getElem?_take] at e
    split at e
    · rw [Nat.zero_add, cell_of_row _ _ _ _ _ _ h3]; simpa using e
    · simp at e

/-- What has been made behind j functions. -/
structure GrI (fs : List Fn) (sV : Value) (NB : Nat) (W4 : World) (w : World) (j : Nat) (gs : List Fn) (v : Value) : Prop where
  len : gs.length = j
  blk : w.heap[NB]? = some (.cells #[sV, v] 38 (0, 0))
  own : w.ownsRow (NB + 1) 48 8 v j (fnFlat gs)
  below : Below NB W4 w
  at_ : ∀ (k : Nat) (f g : Fn), fs[k]? = some f → gs[k]? = some g → f.vs.length < 300 ∧ ∃ b cap, g = growC f b cap ∧ w.ownsRow (NB + 1) 45 3 (.slice (some ⟨b, 0, none⟩) (f.vs.length + 1) cap) (f.vs.length + 1) (vrFlat (f.vs ++ [zVr])) ∧ v.ownBlock ≠ some b

/-- Behind 'n.Funcs = append(n.Funcs, c)'. -/
theorem GrI.app {fs : List Fn} {sV v : Value} {NB j b cap g5 cap5 : Nat} {W4 w wA w9 w11 : World} {gs : List Fn} {f : Fn} (h : GrI fs sV NB W4 w j gs v) (hf : fs[j]? = some f) (hv : f.vs.length < 300)
    (hx : Ext (fun k => w.heap.size ≤ k) w w9) (hvar : w9.ownsRow (NB + 1) 45 3 (.slice (some ⟨b, 0, none⟩) (f.vs.length + 1) cap) (f.vs.length + 1) (vrFlat (f.vs ++ [zVr]))) (hb : w.heap.size ≤ b)
    (hA : Ext (fun _ => False) w9 wA) (hown : w11.ownsRow (NB + 1) 48 8 (.slice (some ⟨g5, 0, none⟩) (j + 1) cap5) (j + 1) (fnFlat gs ++ (growC f b cap).cells.toList)) (hgrow : wA.grownBy w11 v.ownBlock) (hat : v.ownBlock = some g5 ∨ g5 = wA.heap.size) :
    w11.cell? ⟨NB, 1, none⟩ = some v ∧ w11.frozen? ⟨NB, 1, none⟩ = false ∧ GrI fs sV NB W4 (w11.setCell ⟨NB, 1, none⟩ (.slice (some ⟨g5, 0, none⟩) (j + 1) cap5)) (j + 1) (gs ++ [growC f b cap]) (.slice (some ⟨g5, 0, none⟩) (j + 1) cap5) := by
  have hlt : ∀ k, v.ownBlock = some k → NB + 1 ≤ k ∧ k < w.heap.size := fun k hk => h.own.lt k hk
  have hNB : NB < w.heap.size := (Array.getElem?_eq_some_iff.1 h.blk).1
  have hx11 : Ext (fun k => v.ownBlock = some k) w9 w11 := ext_grown hA hgrow
  have hb9 := hx.heap h.blk (fun e => by omega)
  have hb11 := hx11.heap hb9 (fun e => by have := (hlt _ e).1; omega)
  have hxs : Ext (· = NB) w11 (w11.setCell ⟨NB, 1, none⟩ (.slice (some ⟨g5, 0, none⟩) (j + 1) cap5)) := Ext.set1 _ _ _ _
  have hg5 : NB + 1 ≤ g5 := (hown.lt g5 rfl).1
  have hbv : ¬ v.ownBlock = some b := fun e => by have := (hlt _ e).2; omega
  have hb9' : b < w9.heap.size := (hvar.lt b rfl).2
  refine ⟨by rw [cell_of_row _ _ _ _ _ _ hb11]; rfl, frozen_of_row _ _ _ _ _ hb11, by simp [h.len], ?_, ?_, ?_, ?_⟩
  · rw [heap_setCell_same _ _ _ _ _ _ hb11]; rfl
  · have e : fnFlat (gs ++ [growC f b cap]) = fnFlat gs ++ (growC f b cap).cells.toList := by unfold fnFlat; simp
    rw [e]
    exact ownsRow_ext hown hxs (fun k hk => by have := (hown.lt k hk).1; omega)
  · have q1 : Below NB w w9 := hx.below (by omega) (fun k hk => by omega)
    have q2 : Below NB w9 w11 := hx11.below (by have := hx.size; omega) (fun k hk => by have := (hlt _ hk).1; omega)
    exact ((h.below.trans q1).trans q2).trans (hxs.below (by have := hx.size; have := hx11.size; omega) (fun k hk => by omega))
  · intro k f' g hf' hg
    rcases Nat.lt_or_ge k j with hk | hk
    · rw [List.getElem?_append_left (by rw [h.len]; exact hk)] at hg
      obtain ⟨h1, b', cap', e1, e2, e3⟩ := h.at_ k f' g hf' hg
      have hb' := (e2.lt b' rfl)
      refine ⟨h1, b', cap', e1, ownsRow_ext (ownsRow_ext (ownsRow_ext e2 hx (fun q hq => by have := (e2.lt q hq).2; omega)) hx11 (fun q hq hq' => ?_)) hxs (fun q hq => by have := (e2.lt q hq).1; omega), ?_⟩
      · have : b' = q := by simpa [Value.ownBlock] using hq
        subst this; exact e3 hq'
      · simp only [Value.ownBlock, ne_eq, Option.some.injEq]
        rintro rfl
        rcases hat with q | q
        · exact e3 q
        · have := hA.size; have := hx.size; omega
    · have hkj : k = j := by
        have := (List.getElem?_eq_some_iff.1 hg).1
        simp [h.len] at this
        omega
      subst hkj
      rw [List.getElem?_append_right (by rw [h.len]; exact Nat.le_refl _), h.len, Nat.sub_self] at hg
      simp at hg
      subst hg
      rw [hf] at hf'
      obtain rfl := Option.some.inj hf'
      refine ⟨hv, b, cap, rfl, ownsRow_ext (ownsRow_ext hvar hx11 (fun q hq hq' => ?_)) hxs (fun q hq => by have := (hvar.lt q hq).1; omega), ?_⟩
      · have : b = q := by simpa [Value.ownBlock] using hq
        subst this; exact hbv hq'
      · simp only [Value.ownBlock, ne_eq, Option.some.injEq]
        rintro rfl
        rcases hat with q | q
        · exact hbv q
        · have := hA.size; omega

/-- The module that was made. -/
def growM (m : Mo) (gs : List Fn) (fA : Option Addr) (fC : Nat) : Mo := ⟨m.sA, m.sC, fA, fC, m.ss, gs⟩

theorem GrI.done {m : Mo} {sV : Value} {NB fC : Nat} {W4 w : World} {gs : List Fn} {fA : Option Addr} (h : GrI m.fs sV NB W4 w m.fs.length gs (.slice fA m.fs.length fC)) (hm : m.inn w) (hl : m.light) :
    GrownM m (growM m gs fA fC) ∧ (growM m gs fA fC).inn w ∧ RightIn w (growM m gs fA fC) ∧ (growM m gs fA fC).fitS (mdOf w) w := by
  have G : GrownM m (growM m gs fA fC) := ⟨rfl, h.len, fun k f g hf hg => by
    obtain ⟨_, b, cap, rfl, _⟩ := h.at_ k f g hf hg
    exact growC_grown _ _ _⟩
  have hin : ∀ g ∈ gs, ∃ f ∈ m.fs, f.vs.length < 300 ∧ ∃ b cap, g = growC f b cap ∧ w.ownsRow (NB + 1) 45 3 (.slice (some ⟨b, 0, none⟩) (f.vs.length + 1) cap) (f.vs.length + 1) (vrFlat (f.vs ++ [zVr])) := by
    intro g hg
    obtain ⟨k, hk⟩ := List.mem_iff_getElem?.1 hg
    have hlt := (List.getElem?_eq_some_iff.1 hk).1
    obtain ⟨f, hf⟩ : ∃ f, m.fs[k]? = some f := ⟨_, List.getElem?_eq_getElem (by rw [← h.len]; exact hlt)⟩
    obtain ⟨h1, b, cap, e1, e2, _⟩ := h.at_ k f g hf hk
    exact ⟨f, List.mem_of_getElem? hf, h1, b, cap, e1, e2⟩
  have hfn : ∀ g ∈ gs, g.inn w := by
    intro g hg
    obtain ⟨f, hf, h1, b, cap, rfl, e2⟩ := hin g hg
    have hi := hm.fin f hf
    have hrow : RowOf Vr.cells 3 w w.heap.size (some ⟨b, 0, none⟩) (f.vs ++ [zVr]) := RowOf.of_own (cells := Vr.cells) (fun _ => rfl) (cap := cap) (by simpa [vrFlat] using e2)
    refine ⟨⟨hi.code.row, hi.code.args, hi.code.len, ⟨f.vs ++ [zVr], by simp [growC], hrow⟩, ?_, hi.code.nfrom, hi.code.froms⟩, hi.nm, by simp [growC], hrow, hi.nfrom, hi.frm, hi.nmds, hi.mds⟩
    show f.vs.length + 1 ≤ maxLen
    unfold maxLen; omega
  obtain ⟨l1, l2, l3, l4, _⟩ := hl
  simp only [List.length_map] at l1 l2
  have hfrow : RowOf Fn.cells 8 w w.heap.size fA gs := RowOf.of_own (cells := Fn.cells) (fun _ => rfl) (cap := fC) (by have := h.own; unfold fnFlat at this; rw [← h.len] at this; exact this)
  have hinn : (growM m gs fA fC).inn w := ⟨hm.srow, hfrow, hm.sin, hfn, hm.ns, by show gs.length ≤ maxLen; rw [h.len]; exact hm.nf⟩
  have hfit := fitS_light hm ⟨by simpa using l1, by simpa using l2, l3, l4, by assumption⟩
  refine ⟨G, hinn, ⟨hinn, by show m.ss.length ≤ 90000; omega, by show gs.length ≤ 90000; rw [h.len]; omega, ?_, ?_, ?_⟩, ⟨hinn, ?_, by show m.ss.length ≤ 90000; omega, by show gs.length ≤ 90000; rw [h.len]; omega⟩⟩
  · intro s hs
    have := (l3 s.s (List.mem_map.2 ⟨s, hs, rfl⟩)).1
    rw [(hm.sin s hs).nf] at this
    omega
  · intro g hg
    obtain ⟨f, hf, h1, b, cap, rfl, e2⟩ := hin g hg
    show (f.vs ++ [zVr]).length ≤ 90000
    simp; omega
  · intro g hg i hi
    obtain ⟨f, hf, h1, b, cap, rfl, e2⟩ := hin g hg
    exact ((l4 f.c (List.mem_map.2 ⟨f, hf, rfl⟩)).2.2.2.2 i hi).1
  · intro g hg
    have hgi := hfn g hg
    obtain ⟨f, hf, h1, b, cap, rfl, e2⟩ := hin g hg
    have hff := hfit.fit f hf
    exact ⟨hgi, hff.mode, hff.nfrm, by show (f.vs ++ [zVr]).length ≤ 90000; simp; omega, hff.nins, hff.args⟩

theorem var_cells_one (vs : List Vr) : ∀ u ∈ vrFlat vs, u.oneCell' = true := by
  intro u hu
  obtain ⟨v, _, h⟩ := List.mem_flatMap.1 hu
  simp [Vr.cells] at h
  rcases h with rfl | rfl | rfl <;> rfl

set_option maxRecDepth 100000 in
set_option maxHeartbeats 8000000 in
theorem irGrow_calls (m : Mo) (w : World) (hm : m.inn w) : Calls Try.prog 5 #[.agg m.cells] w fun e w' => e = .returned (.bool true) ∧ Below w.heap.size w w' := by
  have HA5 : Hid (∀ W, Calls Try.prog 11 #[] W fun e w' => e = .returned (.bool true) ∧ Below W.heap.size W w') := fun W => alive5_calls W
  have HL1 : Hid (∀ W, Below w.heap.size w W → Calls Try.prog 21 #[.agg m.cells] W (SaysIf W W.heap.size m.light)) := fun W hW => lightMo_calls W m (hm.below hW)
  have HRM : Hid (m.light → ∀ W, Below w.heap.size w W → Calls Try.prog 30 #[.agg m.cells] W fun e w' => e = .returned (.int .i64 (rightF m)) ∧ Below W.heap.size W w') := by
    intro hl W hW
    have hf := fitS_light (hm.below hW) hl
    refine right_calls m W ⟨hm.below hW, by have := hf.ns; omega, by have := hf.nf; omega, fun s hs => ?_, fun f h => (hf.fit f h).nvs, fun f h i hi => ?_⟩
    · have := (hl.2.2.1 s.s (List.mem_map.2 ⟨s, hs, rfl⟩)).1
      rw [(hm.sin s hs).nf] at this
      omega
    · exact ((hl.2.2.2.1 f.c (List.mem_map.2 ⟨f, h, rfl⟩)).2.2.2.2 i hi).1
  have HFN : Hid (∀ W, Below w.heap.size w W → ∀ nm, Calls Try.prog 26 #[.agg m.cells, .string nm] W fun e w' => e = .returned (.int .i64 (m.fnIx nm)) ∧ Below W.heap.size W w') := fun W hW nm => func_calls5 m nm W hm.nf (hm.frow.grow hW)
  have HMI : Hid (∀ W, Below w.heap.size w W → m.inn W) := fun W hW => hm.below hW
  have HLL : Hid (m.light → m.fs.length ≤ 70) := fun h => by have := h.2.1; simpa using this
  have HN : Hid (rightF m = 0 → ∀ (j : Nat) (f : Fn), m.fs[j]? = some f → m.fnIx f.c.nm = (j : Int)) := fun h j f hf => right_names h hf
  have HFIN : Hid (rightF m = 0 → m.light → ∀ (NB fC : Nat) (fA : Option Addr) (W4 W : World) (gs : List Fn), Below w.heap.size w W → GrI m.fs (.slice m.sA m.ss.length m.sC) NB W4 W m.fs.length gs (.slice fA m.fs.length fC) →
      (∀ W', Below W.heap.size W W' → Calls Try.prog 30 #[.agg #[.slice m.sA m.ss.length m.sC, .slice fA m.fs.length fC]] W' fun e w' => e = .returned (.int .i64 0) ∧ Below W'.heap.size W' w') ∧
      (∀ W', Below W.heap.size W W' → Calls Try.prog 24 #[.agg m.cells, .agg #[.slice m.sA m.ss.length m.sC, .slice fA m.fs.length fC]] W' fun e w' => e = .returned (.bool false) ∧ Below W'.heap.size W' w')) := by
    intro hr hl NB fC fA W4 W gs hW hg
    obtain ⟨G, h1, h2, h3⟩ := hg.done (hm.below hW) hl
    have hlen : gs.length = m.fs.length := hg.len
    have hv : ∀ f ∈ m.fs, f.vs.length < 300 := by
      intro f hf
      obtain ⟨k, hk⟩ := List.mem_iff_getElem?.1 hf
      have hlt := (List.getElem?_eq_some_iff.1 hk).1
      obtain ⟨g, hgk⟩ : ∃ g, gs[k]? = some g := ⟨_, List.getElem?_eq_getElem (by rw [hlen]; exact hlt)⟩
      exact (hg.at_ k f g hk hgk).1
    have hcells : (growM m gs fA fC).cells = #[.slice m.sA m.ss.length m.sC, .slice fA m.fs.length fC] := by
      show (#[Value.slice m.sA m.ss.length m.sC, Value.slice fA gs.length fC] : Array Value) = _
      rw [hlen]
    refine ⟨fun W' hW' => ?_, fun W' hW' => ?_⟩
    · have := right_calls (growM m gs fA fC) W' ⟨h2.mo.below hW', h2.sl, h2.fl, h2.fd, h2.vl, h2.al⟩
      rw [hcells, grow_right G hr hv] at this
      exact this
    · have := irSame_calls W' (mdOf W) m (growM m gs fA fC) ((fitS_light (hm.below hW) hl).below hW') (h3.below hW')
      rw [hcells, grow_other G hr] at this
      exact this
  clear hm
  obtain ⟨R, hR⟩ : ∃ R, rightF m = R := ⟨_, rfl⟩
  rw [hR] at HRM HN HFIN
  obtain ⟨L1, hL1⟩ : ∃ L, m.light = L := ⟨_, rfl⟩
  rw [hL1] at HL1 HLL HRM HFIN
  clear hR hL1
  obtain ⟨sA, sC, fA, fC, ss, fs⟩ := m
  simp only [Mo.cells] at HL1 HRM HFN HMI HLL HN HFIN ⊢
  obtain ⟨N, hN⟩ : ∃ N, w.heap.size = N := ⟨_, rfl⟩
  obtain ⟨W1, hW1⟩ : ∃ W1, W1 = w.alloc (.cells #[.slice sA ss.length sC, .slice fA fs.length fC] 38) := ⟨_, rfl⟩
  have q1 : W1.heap[N]? = some (.cells #[.slice sA ss.length sC, .slice fA fs.length fC] 38 (0, 0)) := by rw [hW1, ← hN]; exact alloc_at _ _
  have hs1 : W1.heap.size = N + 1 := by rw [hW1]; simp [hN]
  have HBX : Hid (Below w.heap.size w W1) := by unfold Hid; rw [hW1]; exact (Below.refl _ _).alloc (Nat.le_refl _) _
  have HS : Hid (∀ W, Below W1.heap.size W1 W → W.cell? ⟨N, 0, none⟩ = some (.slice sA ss.length sC) ∧ W.cell? ⟨N, 1, none⟩ = some (.slice fA fs.length fC) ∧ Below w.heap.size w W ∧ N + 1 ≤ W.heap.size) := by
    intro W hW
    have p1 := (hW.block N (by omega)).trans q1
    exact ⟨(cell_of_row _ _ _ _ _ _ p1).trans rfl, (cell_of_row _ _ _ _ _ _ p1).trans rfl, HBX.out.trans (hW.mono HBX.out.size), by have := hW.size; omega⟩
  have HW1 := Lib.hid hW1
  clear q1 hW1
  go_enter Try.func5, Try.ntmps5
  go_upto_region 1 with (fail)
  rw [← HW1.out]
  obtain ⟨c1, c2, _, _⟩ := HS.out W1 (Below.refl _ _)
  go_wp2_with fail
  go_at_call 21
  refine (HL1.out W1 HBX.out).mono ?_
  rintro e w2 ⟨b1, rfl, hp1, hb2⟩
  have HP1 := Lib.hid hp1
  have HB2 := Lib.hid hb2
  clear c1 c2 hp1 hb2
  obtain ⟨c1, c2, _, _⟩ := HS.out w2 HB2.out
  cases b1 with
  | false =>
    go_wp2_with (go_at_call 11; refine (HA5.out _).mono ?_; rintro e w3 ⟨rfl, hb3⟩; have HB3 := Lib.hid (HB2.out.trans (hb3.mono HB2.out.size)); clear hb3)
    go_ret
    exact ⟨rfl, HBX.out.trans (HB3.out.mono HBX.out.size)⟩
  | true =>
    have HPA : Hid L1 := HP1.out rfl
    clear HP1
    go_wp2_with fail
    go_at_call 30
    refine (HRM.out HPA.out w2 (HBX.out.trans (HB2.out.mono HBX.out.size))).mono ?_
    rintro e w3 ⟨rfl, hb3⟩
    have HB3 := Lib.hid (HB2.out.trans (hb3.mono HB2.out.size))
    clear c1 c2 hb3
    obtain ⟨c1, c2, _, hsz3⟩ := HS.out w3 HB3.out
    by_cases hR0 : R = 0
    rotate_left
    · go_wp2_with (go_at_call 11; refine (HA5.out _).mono ?_; rintro e w4 ⟨rfl, hb4⟩; have HB4 := Lib.hid (HB3.out.trans (hb4.mono HB3.out.size)); clear hb4)
      go_ret
      exact ⟨rfl, HBX.out.trans (HB4.out.mono HBX.out.size)⟩
    subst hR0
    have hfl : fs.length ≤ 70 := HLL.out HPA.out
    have HNM : Hid (∀ (j : Nat) (f : Fn), fs[j]? = some f → Mo.fnIx ⟨sA, sC, fA, fC, ss, fs⟩ f.c.nm = (j : Int)) := HN.out rfl
    have HFI := Lib.hid (HFIN.out rfl HPA.out)
    clear HN HFIN HLL HRM
    obtain ⟨NB, hNB⟩ : ∃ NB, w3.heap.size = NB := ⟨_, rfl⟩
    go_upto_region 4 with (fail)
    obtain ⟨W4, hW4⟩ : ∃ W4, w3.alloc (.cells #[.slice sA ss.length sC, .slice none 0 0] 38) = W4 := ⟨_, rfl⟩
    rw [hW4]
    have hb4 : Below NB w3 W4 := by rw [← hW4, ← hNB]; exact (Below.refl _ _).alloc (Nat.le_refl _) _
    have HB4 : Hid (Below W1.heap.size W1 W4) := HB3.out.trans (hb4.mono (by omega))
    have HG0 : Hid (GrI fs (.slice sA ss.length sC) NB W4 W4 0 [] (.slice none 0 0)) := by
      refine ⟨rfl, ?_, World.ownsRow_nil _ _ _ _, Below.refl _ _, fun k f g _ h => by simp at h⟩
      rw [← hW4, ← hNB]; exact alloc_at _ _
    have HNB : Hid (N + 1 ≤ NB) := by unfold Hid; omega
    clear c1 c2 hW4 hb4 hNB hsz3
    go_wp2_with fail
    go_loopw [4] (fun k wr => ∃ (j : Nat) (gs : List Fn) (v : Value), j ≤ fs.length ∧ k = .int .i64 (j : Int) ∧ GrI fs (.slice sA ss.length sC) NB W4 wr j gs v) (fun k _ => fs.length - (intOf k).toNat)
    case atStart => exact ⟨0, [], _, Nat.zero_le _, rfl, HG0.out⟩
    case round =>
      obtain ⟨j, gs, v, hj, rfl, hg⟩ := hrel
      have HG := Lib.hid hg
      have hbr : Below W1.heap.size W1 wr := HB4.out.trans (hg.below.mono (by have := HNB.out; omega))
      have HBR := Lib.hid hbr
      obtain ⟨c1, c2, hbw, hszr⟩ := HS.out wr hbr
      have HBW := Lib.hid hbw
      have n0 : wr.cell? ⟨NB, 1, none⟩ = some v := (cell_of_row _ _ _ _ _ _ hg.blk).trans rfl
      have n00 : wr.cell? ⟨NB, 0, none⟩ = some (.slice sA ss.length sC) := (cell_of_row _ _ _ _ _ _ hg.blk).trans rfl
      have hNBr : NB < wr.heap.size := (Array.getElem?_eq_some_iff.1 hg.blk).1
      clear hg hbr hbw
      by_cases hjl : j < fs.length
      · obtain ⟨f, hf⟩ : ∃ f, fs[j]? = some f := ⟨_, List.getElem?_eq_getElem hjl⟩
        have hmi := HMI.out wr HBW.out
        obtain ⟨g1, o1, hA, hg1, q1⟩ := hmi.frow (by intro e; simp only at e; rw [e] at hjl; simp at hjl)
        simp only at hA q1
        subst hA
        have hfi : f.inn wr := hmi.fin f (List.mem_of_getElem? hf)
        have HFI2 : Hid (∀ W, Below wr.heap.size wr W → f.inn W) := fun W hW => hfi.below hW
        have hnv := hfi.nvars
        have HCA : Hid (∀ k u, f.cells.toList[k]? = some u → wr.cell? ((⟨g1, o1 + j * 8, none⟩ : Addr).add k) = some u) := fun k u hu => by rw [Addr.add_lit]; exact q1 j f hf k u hu
        have HFX := HNM.out j f hf
        have HF := Lib.hid hf
        have hjI : (j : Int) < (fs.length : Int) := by omega
        clear hmi hfi hf q1
        obtain ⟨⟨nm, par, varsA, nvars, varsC, rp, rto, rcl, fromA, nfrom, fromC, insA, insC, ins⟩, vs, frm, mds⟩ := f
        simp only at hnv HFX
        subst hnv
        simp only [Fn.cells, Cod.cells] at HCA
        have HFX := Lib.hid HFX
        obtain ⟨P, hP⟩ : ∃ P, wr.heap.size = P := ⟨_, rfl⟩
        obtain ⟨W5, hW5⟩ : ∃ W5, wr.alloc (.cells #[.string nm, .int .i64 par, .slice varsA vs.length varsC, .bool rp, .string rto, .int .i64 rcl, .slice fromA nfrom fromC, .slice insA ins.length insC] 48) = W5 := ⟨_, rfl⟩
        have hp5 : W5.heap[P]? = some (.cells #[.string nm, .int .i64 par, .slice varsA vs.length varsC, .bool rp, .string rto, .int .i64 rcl, .slice fromA nfrom fromC, .slice insA ins.length insC] 48 (0, 0)) := by rw [← hW5, ← hP]; exact alloc_at _ _
        have hb5 : Below P wr W5 := by rw [← hW5, ← hP]; exact (Below.refl _ _).alloc (Nat.le_refl _) _
        have hs5 : W5.heap.size = P + 1 := by rw [← hW5]; simp [hP]
        have HCB : Hid (∀ W, Below (P + 1) W5 W → W.heap[P]? = some (.cells #[.string nm, .int .i64 par, .slice varsA vs.length varsC, .bool rp, .string rto, .int .i64 rcl, .slice fromA nfrom fromC, .slice insA ins.length insC] 48 (0, 0))) := fun W hW => (hW.block P (by omega)).trans hp5
        have HW5 := Lib.hid hW5
        have HP := Lib.hid hP
        have HB5 := Lib.hid hb5
        have HS5 := Lib.hid hs5
        clear hW5 hp5 hb5 hs5
        go_upto_region 8 with (refine wpList_load_at rfl 48 _ rfl ⟨g1, o1 + j * 8, none⟩ rfl #[.string nm, .int .i64 par, .slice varsA vs.length varsC, .bool rp, .string rto, .int .i64 rcl, .slice fromA nfrom fromC, .slice insA ins.length insC] _ HCA.out Try.underlying48 rfl (by kernel_rfl) ?_)
        rw [HW5.out]
        have hb15 : Below W1.heap.size W1 W5 := HBR.out.trans (HB5.out.mono (by have := HBR.out.size; have := HP.out; omega))
        have HB15 := Lib.hid hb15
        clear c1 c2 n0 n00
        obtain ⟨c1, c2, _, _⟩ := HS.out W5 hb15
        have e2 : W5.cell? ⟨P, 2, none⟩ = some (.slice varsA vs.length varsC) := (cell_of_row _ _ _ _ _ _ (HCB.out W5 (Below.refl _ _))).trans rfl
        have e0 : W5.cell? ⟨P, 0, none⟩ = some (.string nm) := (cell_of_row _ _ _ _ _ _ (HCB.out W5 (Below.refl _ _))).trans rfl
        clear hb15
        by_cases hv : 300 ≤ vs.length
        · go_wp2_with (go_at_call 11; refine (HA5.out _).mono ?_; rintro e w6 ⟨rfl, hb6⟩; have HB6 := Lib.hid (HB15.out.trans (hb6.mono HB15.out.size)); clear hb6)
          go_ret
          exact ⟨rfl, HBX.out.trans (HB6.out.mono HBX.out.size)⟩
        · have HVL : Hid (vs.length < 300) := by unfold Hid; omega
          have HFC : Hid (Calls Try.prog 26 #[.agg #[.slice sA ss.length sC, .slice (some ⟨g1, o1, none⟩) fs.length fC], .string nm] W5 fun e w' => e = .returned (.int .i64 (j : Int)) ∧ Below W5.heap.size W5 w') := by
            have := HFN.out W5 (HS.out W5 HB15.out).2.2.1 nm
            rw [HFX.out] at this
            exact this
          go_upto_region 10 with (go_at_call 26; refine HFC.out.mono ?_; rintro e w6 ⟨rfl, hb6⟩)
          have hs6 := hb6.size
          have hb6' : Below (P + 1) W5 w6 := hb6.mono (by have := HS5.out; omega)
          have HB6 := Lib.hid hb6'
          have h6 := HCB.out w6 hb6'
          clear c1 c2 e2 e0
          have e2 : w6.cell? ⟨P, 2, none⟩ = some (.slice varsA vs.length varsC) := (cell_of_row _ _ _ _ _ _ h6).trans rfl
          have HFR : Hid (RowOf Vr.cells 3 w6 w6.heap.size varsA vs) := (HFI2.out w6 ((HB5.out.mono (by have := HP.out; omega)).trans (hb6'.mono (by have := HP.out; omega)))).vars
          obtain ⟨S6, hS6⟩ : ∃ S6, w6.heap.size = S6 := ⟨_, rfl⟩
          have hPS : P + 1 ≤ S6 := by have := HS5.out; omega
          have hNBP : NB + 1 ≤ P := by have := HP.out; omega
          have hp6 : P < S6 := by omega
          obtain ⟨i0, hi0, hi1, hi2, hi3⟩ := info_parts info_var
          have hvl : vs.length < 300 := HVL.out
          have HC1 : Hid (varsA = none → vs.length = 0) := by
            intro e
            by_cases h0 : vs = []
            · rw [h0]; rfl
            · obtain ⟨b, off, h1, _⟩ := HFR.out h0
              rw [e] at h1; cases h1
          have HC2 : Hid (∀ ad, varsA = some ad → ∀ j u, (vrFlat vs)[j]? = some u → (w6.alloc (.cells #[] 45)).cell? (ad.add j) = some u) := by
            intro ad e k u hu
            have hk : k < vs.length * 3 := by
              have := (List.getElem?_eq_some_iff.1 hu).1
              rw [show (vrFlat vs).length = vs.length * 3 from flat_len (cells := fun v : Vr => v.cells.toList) (fun _ => rfl) vs] at this
              exact this
            obtain ⟨b, off, h1, h2, h3⟩ := HFR.out (by intro e; rw [e] at hk; simp at hk)
            rw [e] at h1
            obtain rfl := Option.some.inj h1
            obtain ⟨x, hx⟩ : ∃ x, vs[k / 3]? = some x := ⟨_, List.getElem?_eq_getElem (by omega)⟩
            have hq : ∃ y, x.cells.toList[k % 3]? = some y := ⟨_, List.getElem?_eq_getElem (by show k % 3 < 3; omega)⟩
            obtain ⟨y, hy⟩ := hq
            have hf := flat_get (cells := fun v : Vr => v.cells.toList) (k := 3) (fun _ => rfl) vs (k / 3) (k % 3) x y hx hy
            rw [show k / 3 * 3 + k % 3 = k from by omega] at hf
            have : u = y := by
              have h4 : (vrFlat vs)[k]? = some y := hf
              rw [hu] at h4; exact Option.some.inj h4
            subst this
            rw [Addr.add_lit, World.cell?_alloc_lt _ _ _ h2]
            have := h3 (k / 3) x hx (k % 3) u hy
            rw [show off + k / 3 * 3 + k % 3 = off + k from by omega] at this
            exact this
          have HO6 : Hid ((w6.alloc (.cells #[] 45)).ownsRow (NB + 1) 45 3 (.slice (some ⟨S6, 0, none⟩) 0 0) 0 []) := by
            unfold Hid; rw [← hS6]; exact ownsRow_empty _ _ _ _ (by omega)
          have HL3 : Hid ((vrFlat vs).length = vs.length * 3) := flat_len (cells := fun v : Vr => v.cells.toList) (fun _ => rfl) vs
          clear hb6 hb6' hs6 h6 hvl hv
          have HFZ : Hid (w6.frozen? ⟨P, 2, none⟩ = false) := frozen_of_row _ _ _ _ _ (HCB.out w6 HB6.out)
          have HE2 := Lib.hid e2
          have HK7 : Hid (∀ (v7 : Value) (w7 : World), w7.ownsRow (NB + 1) 45 3 v7 (0 + vs.length) ([] ++ vrFlat vs) → (w6.alloc (.cells #[] 45)).grownBy w7 (Value.slice (some ⟨S6, 0, none⟩) 0 0).ownBlock → (∀ k, v7.ownBlock = some k → (Value.slice (some ⟨S6, 0, none⟩) 0 0).ownBlock = some k ∨ (w6.alloc (.cells #[] 45)).heap.size ≤ k) →
              w7.ownsRow (NB + 1) 45 3 v7 vs.length (vrFlat vs) ∧ Ext (fun k => S6 ≤ k) w6 w7 ∧ (∀ k, v7.ownBlock = some k → S6 ≤ k) ∧ S6 ≤ w7.heap.size) := by
            intro v7 w7 h1 h2 h3
            have q1 : Ext (fun k => S6 ≤ k) w6 (w6.alloc (.cells #[] 45)) := (Ext.refl _ _).alloc _
            have q2 : Ext (fun k => S6 ≤ k) w6 w7 := q1.trans (Ext.of_grown (M := fun k => S6 ≤ k) h2 (fun k hk => by simp [Value.ownBlock] at hk; omega)) (fun k hk => .inl hk)
            refine ⟨by simpa using h1, q2, fun k hk => ?_, by have := q2.size; omega⟩
            rcases h3 k hk with h | h
            · simp [Value.ownBlock] at h; omega
            · rw [World.size_alloc] at h; omega
          have HK9 : Hid (∀ (v7 : Value) (w7 w9 : World) (g9 cap9 : Nat), (w7.ownsRow (NB + 1) 45 3 v7 vs.length (vrFlat vs) ∧ Ext (fun k => S6 ≤ k) w6 w7 ∧ (∀ k, v7.ownBlock = some k → S6 ≤ k) ∧ S6 ≤ w7.heap.size) → (w7.alloc (.cells zVr.cells.toList.toArray 45)).grownBy w9 v7.ownBlock → (v7.ownBlock = some g9 ∨ g9 = (w7.alloc (.cells zVr.cells.toList.toArray 45)).heap.size) →
              Ext (fun k => S6 ≤ k) w6 w9 ∧ S6 ≤ g9 ∧ w9.cell? ⟨P, 2, none⟩ = some (.slice varsA vs.length varsC) ∧ w9.frozen? ⟨P, 2, none⟩ = false) := by
            rintro v7 w7 w9 g9 cap9 ⟨_, h2, h3, h4⟩ h5 h6
            have q1 : Ext (fun k => S6 ≤ k) w7 (w7.alloc (.cells zVr.cells.toList.toArray 45)) := (Ext.refl _ _).alloc _
            have q2 : Ext (fun k => S6 ≤ k) w7 w9 := q1.trans (Ext.of_grown (M := fun k => S6 ≤ k) h5 (fun k hk => .inl (h3 k hk))) (fun k hk => .inl hk)
            have q3 : Ext (fun k => S6 ≤ k) w6 w9 := h2.trans q2 (fun k hk => .inl hk)
            refine ⟨q3, ?_, (q3.cell (a := ⟨P, 2, none⟩) (by show P < _; omega) (by show ¬ S6 ≤ P; omega)).trans HE2.out, (World.frozen?_of_block (a := ⟨P, 2, none⟩) (q3.block P (by omega) (by omega))).trans HFZ.out⟩
            rcases h6 with h | h
            · exact h3 g9 h
            · rw [World.size_alloc] at h; omega
          go_upto_region 11 with (first
            | (at_builtin; refine wpList_append_row rfl _ _ 41 rfl (NB + 1) 45 i0 _ 3 32 Try.underlying41 hi0 hi1 hi2 hi3 rfl (by decide) _ 0 [] rfl HO6.out varsA vs.length varsC (vrFlat vs) rfl HL3.out HC1.out HC2.out (var_cells_one vs) (by have := HVL.out; unfold maxLen; omega) (by have := HVL.out; omega) (by rw [World.size_alloc]; omega) ?_; intro v7 w7 hown7 hgrow7 hat7; have HQ7 := Lib.hid (HK7.out v7 w7 hown7 hgrow7 hat7); have hs7 := HQ7.out.2.2.2; clear e2 hown7 hgrow7 hat7)
            | (at_builtin; refine wpList_append_lies _ rfl _ _ 41 rfl (NB + 1) 45 i0 _ 3 32 Try.underlying41 hi0 hi1 hi2 hi3 rfl (by decide) v7 vs.length (vrFlat vs) rfl (ownsRow_below HQ7.out.1 ((Below.refl w7.heap.size w7).alloc (Nat.le_refl _) _)) ⟨w7.heap.size, 0, none⟩ 1 1 zVr.cells.toList rfl rfl (cells_new _ _ _) (by simp [zVr, Vr.cells, Value.oneCell']) (by decide) (by have := HVL.out; unfold maxLen; omega) (by have := HVL.out; omega) (by rw [World.size_alloc]; omega) _ rfl ?_; intro g9 cap9 w9 hown9 hgrow9 hat9 hlt9; have HQ9 := Lib.hid (HK9.out v7 w7 w9 g9 cap9 HQ7.out hgrow9 hat9); have e9 := HQ9.out.2.2.1; have f9 := HQ9.out.2.2.2; have HO9 := Lib.hid hown9; clear hown9 hgrow9 hat9 hlt9))
          have HX9 : Hid (Ext (fun k => S6 ≤ k) w6 w9) := HQ9.out.1
          have HG9 : Hid (S6 ≤ g9) := HQ9.out.2.1
          obtain ⟨W10, hW10⟩ : ∃ W10, w9.setCell ⟨P, 2, none⟩ (.slice (some ⟨g9, 0, none⟩) (vs.length + 1) cap9) = W10 := ⟨_, rfl⟩
          rw [hW10]
          have h9 := HX9.out.heap (HCB.out w6 HB6.out) (by omega)
          have hxs : Ext (· = P) w9 W10 := by rw [← hW10]; exact Ext.set1 _ _ _ _
          have h10 : W10.heap[P]? = some (.cells #[.string nm, .int .i64 par, .slice (some ⟨g9, 0, none⟩) (vs.length + 1) cap9, .bool rp, .string rto, .int .i64 rcl, .slice fromA nfrom fromC, .slice insA ins.length insC] 48 (0, 0)) := by
            rw [← hW10, heap_setCell_same _ _ _ _ _ _ h9]; rfl
          have HX10 : Hid (Ext (fun k => wr.heap.size ≤ k) wr W10) := by
            have a1 : Ext (fun k => wr.heap.size ≤ k) wr W5 := Ext.of_below (by rw [HP.out]; exact HB5.out)
            have a2 : Ext (fun k => wr.heap.size ≤ k) wr w6 := a1.trans (Ext.of_below HB6.out) (fun k hk => .inl (by have := HP.out; omega))
            have a3 : Ext (fun k => wr.heap.size ≤ k) wr w9 := a2.trans HX9.out (fun k hk => .inl (by have := HP.out; omega))
            exact a3.trans hxs (fun k hk => .inl (by have := HP.out; omega))
          have HVR : Hid (W10.ownsRow (NB + 1) 45 3 (.slice (some ⟨g9, 0, none⟩) (vs.length + 1) cap9) (vs.length + 1) (vrFlat (vs ++ [zVr]))) := by
            have e : vrFlat (vs ++ [zVr]) = vrFlat vs ++ zVr.cells.toList := by unfold vrFlat; simp
            unfold Hid
            rw [e]
            exact ownsRow_ext HO9.out hxs (fun k hk => by have := HG9.out; simp [Value.ownBlock] at hk; omega)
          have HR10 := Lib.hid h10
          have hsz10 : wr.heap.size ≤ W10.heap.size := HX10.out.size
          have n1 : W10.cell? ⟨NB, 1, none⟩ = some v := (cell_of_row _ _ _ _ _ _ (HX10.out.heap HG.out.blk (by omega))).trans rfl
          obtain ⟨j0, hj0, hj1, hj2, hj3⟩ := info_parts info_code
          have hjs : j < 70 := by omega
          have HOW : Hid (W10.ownsRow (NB + 1) 48 8 v j (fnFlat gs)) := ownsRow_ext HG.out.own HX10.out (fun k hk => by have := (HG.out.own.lt k hk).2; omega)
          have hNB10 : NB + 1 ≤ W10.heap.size := by omega
          have HAPP : Hid (∀ (g5 cap5 : Nat) (wA w11 : World), Ext (fun _ => False) W10 wA → w11.ownsRow (NB + 1) 48 8 (.slice (some ⟨g5, 0, none⟩) (j + 1) cap5) (j + 1) (fnFlat gs ++ [.string nm, .int .i64 par, .slice (some ⟨g9, 0, none⟩) (vs.length + 1) cap9, .bool rp, .string rto, .int .i64 rcl, .slice fromA nfrom fromC, .slice insA ins.length insC]) → wA.grownBy w11 v.ownBlock → (v.ownBlock = some g5 ∨ g5 = wA.heap.size) →
              w11.cell? ⟨NB, 1, none⟩ = some v ∧ w11.frozen? ⟨NB, 1, none⟩ = false ∧ ∃ (gs' : List Fn), GrI fs (.slice sA ss.length sC) NB W4 (w11.setCell ⟨NB, 1, none⟩ (.slice (some ⟨g5, 0, none⟩) (j + 1) cap5)) (j + 1) gs' (.slice (some ⟨g5, 0, none⟩) (j + 1) cap5)) := by
            intro g5 cap5 wA w11 hA hown hgrow hat
            obtain ⟨r1, r2, r3⟩ := GrI.app (b := g9) (cap := cap9) (wA := wA) HG.out HF.out HVL.out HX10.out HVR.out (by have := HG9.out; have := HP.out; omega) hA hown hgrow hat
            exact ⟨r1, r2, _, r3⟩
          clear hW10 h9 hxs h10 e9 f9 HX9 HO9 HK7 HK9 HQ7 HQ9 HO6 HL3 HC1 HC2 HFZ HE2 HCB HFR HFI2 HCA HVR HX10
          go_wp2_with (first
            | (refine wpList_load_row rfl 48 _ rfl P rfl 48 #[.string nm, .int .i64 par, .slice (some ⟨g9, 0, none⟩) (vs.length + 1) cap9, .bool rp, .string rto, .int .i64 rcl, .slice fromA nfrom fromC, .slice insA ins.length insC] (0, 0) _ HR10.out Try.underlying48 rfl (by kernel_rfl) ?_)
            | (at_builtin; refine wpList_append_lies _ rfl _ _ 36 rfl (NB + 1) 48 j0 _ 8 128 Try.underlying36 hj0 hj1 hj2 hj3 rfl (by decide) v j (fnFlat gs) rfl (ownsRow_below HOW.out ((Below.refl W10.heap.size W10).alloc (Nat.le_refl _) _)) ⟨W10.heap.size, 0, none⟩ 1 1 [.string nm, .int .i64 par, .slice (some ⟨g9, 0, none⟩) (vs.length + 1) cap9, .bool rp, .string rto, .int .i64 rcl, .slice fromA nfrom fromC, .slice insA ins.length insC] rfl rfl (cells_new _ _ _) (by simp [Value.oneCell']) (by decide) (by unfold maxLen; omega) (by omega) (by rw [World.size_alloc]; omega) _ rfl ?_; intro g11 cap11 w11 hown11 hgrow11 hat11 hlt11; obtain ⟨r1, r2, r3⟩ := HAPP.out _ _ _ _ ((Ext.refl _ _).alloc _) hown11 hgrow11 hat11; have HR3 := Lib.hid r3; clear hown11 hgrow11 hat11 hlt11 r3))
          go_roundw
          case rel =>
            obtain ⟨gs', hg'⟩ := HR3.out
            exact ⟨j + 1, gs', _, by omega, by go_num, hg'⟩
          case measure => simp [intOf]; omega
      · have hje : j = fs.length := by omega
        subst hje
        have HV : Hid (∃ ao cap, v = .slice ao fs.length cap) := by
          rcases HG.out.own.2 with ⟨h1, h2⟩ | ⟨g, cap, cur, h1, _⟩
          · exact ⟨none, 0, by rw [h2]; exact h1⟩
          · exact ⟨_, _, h1⟩
        obtain ⟨ao, cap, rfl⟩ := HV.out
        have HQ := Lib.hid (HFI.out NB cap ao W4 wr gs HBW.out HG.out)
        have HSW : Hid (∀ W, Below wr.heap.size wr W → W.cell? ⟨N, 0, none⟩ = some (.slice sA ss.length sC) ∧ W.cell? ⟨N, 1, none⟩ = some (.slice fA fs.length fC) ∧ W.cell? ⟨NB, 0, none⟩ = some (.slice sA ss.length sC) ∧ W.cell? ⟨NB, 1, none⟩ = some (.slice ao fs.length cap) ∧ Below w.heap.size w W) := by
          intro W hW
          obtain ⟨q1, q2, q3, _⟩ := HS.out W (HBR.out.trans (hW.mono HBR.out.size))
          have q4 := (hW.block NB hNBr).trans HG.out.blk
          exact ⟨q1, q2, (cell_of_row _ _ _ _ _ _ q4).trans rfl, (cell_of_row _ _ _ _ _ _ q4).trans rfl, q3⟩
        go_wp2_with (first
          | (go_at_call 30; refine (HQ.out.1 _ (Below.refl _ _)).mono ?_; rintro e w6 ⟨rfl, hb6⟩; have HB6 := Lib.hid hb6; clear hb6 c1 c2 n0 n00; obtain ⟨c1, c2, n00, n0, _⟩ := HSW.out _ HB6.out)
          | (go_at_call 24; refine (HQ.out.2 _ HB6.out).mono ?_; rintro e w7 ⟨rfl, hb7⟩; have HB7 := Lib.hid (HB6.out.trans (hb7.mono HB6.out.size)); clear hb7)
          | (go_at_call 11; refine (HA5.out _).mono ?_; rintro e w8 ⟨rfl, hb8⟩; have HB8 := Lib.hid (HB7.out.trans (hb8.mono HB7.out.size)); clear hb8))
        go_ret
        exact ⟨rfl, (HSW.out _ HB8.out).2.2.2.2⟩
end Go.Proofs.Ytbbogkcfngpbbaa
