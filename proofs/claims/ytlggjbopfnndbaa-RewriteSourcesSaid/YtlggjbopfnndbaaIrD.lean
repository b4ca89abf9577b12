import Derived.Test.YtlggjbopfnndbaaIrC
import Derived.Deep.RegionHeld3
import Derived.Deep.WholeRow
import Derived.Laws.ResultCell

namespace Go.Proofs.Ytlggjbopfnndbaa
open Go.RowKit

/-- What a judge leans on. -/
structure JIn (w : World) (m : Mo) (g : Fn) : Prop where
  mo : m.inn w
  vars : RowOf Vr.cells 3 w w.heap.size g.c.varsA g.vs
  nv : g.c.nvars = g.vs.length
  vl : g.vs.length ≤ maxLen

theorem JIn.below {w w' : World} {m : Mo} {g : Fn} (h : JIn w m g) (hb : Below w.heap.size w w') : JIn w' m g := ⟨h.mo.below hb, h.vars.grow hb, h.nv, h.vl⟩

theorem jIn_of {w : World} {m : Mo} {g : Fn} (h : m.inn w) (hg : g.inn w) : JIn w m g := ⟨h, hg.vars, hg.nvars, by have := hg.code.nvars; rw [hg.nvars] at this; exact this⟩

theorem ixOf_cases {α : Type} (p : α → Bool) (l : List α) : ixOf p l = -1 ∨ ∃ (k : Nat) (x : α), ixOf p l = (k : Int) ∧ l[k]? = some x ∧ p x = true := by
  unfold ixOf
  by_cases h : l.findIdx p < l.length
  · rw [if_pos h]
    exact .inr ⟨_, l[l.findIdx p], rfl, List.getElem?_eq_getElem h, List.findIdx_getElem⟩
  · rw [if_neg h]; exact .inl rfl

theorem known_st {m : Mo} {t : Ty} (h : m.known t = true) (hp : t.1 = true) : ∃ (k : Nat) (s : St), m.stIx t.2 = (k : Int) ∧ m.ss[k]? = some s := by
  unfold Mo.known at h
  rw [if_pos hp] at h
  have h0 := of_decide_eq_true h
  rcases ixOf_cases (fun s : St => s.s.nm == t.2) m.ss with e | ⟨k, s, e, h1, _⟩
  · unfold Mo.stIx at h0; omega
  · exact ⟨k, s, e, h1⟩

set_option maxRecDepth 100000 in
set_option maxHeartbeats 1000000 in
theorem known_calls (m : Mo) (g : Fn) (b : Bool) (s : ByteArray) (w : World) (h : m.inn w) :
    Calls Try.prog 78 #[.agg (jg m g), .agg #[.bool b, .string s]] w fun e w' => e = .returned (.bool (m.known (b, s))) ∧ Below w.heap.size w w' := by
  have HS : Hid (∀ W, Below w.heap.size w W → Calls Try.prog 101 #[.agg m.cells, .string s] W fun e w' => e = .returned (.int .i64 (m.stIx s)) ∧ Below W.heap.size W w') :=
    fun W hW => struct_calls5 m s W h.ns (h.below hW).srow
  clear h
  simp only [Mo.cells] at HS
  unfold jg
  cases b with
  | false =>
    have HE : Hid (s.toList.isEmpty = m.known (false, s)) := by
      unfold Hid Mo.known
      rw [if_neg (by simp)]
      show s.toList.isEmpty = (s == ByteArray.empty)
      rw [beq_toListBytes]
      have e : ByteArray.empty.toList = [] := by rw [ByteArray.toList_eq]; rfl
      rw [e]
      cases s.toList <;> rfl
    clear HS
    go_enter Try.func78, Try.ntmps78
    go_wp2
    go_ret
    rw [← HE.out]
    exact ⟨rfl, ((Below.refl _ _).alloc (Nat.le_refl _) _).alloc (by simp) _⟩
  | true =>
    have HE : Hid (decide (0 ≤ m.stIx s) = m.known (true, s)) := rfl
    obtain ⟨z, hz⟩ : ∃ z, m.stIx s = z := ⟨_, rfl⟩
    rw [hz] at HE HS
    clear hz
    go_enter Try.func78, Try.ntmps78
    go_wp2_with (go_at_call 101; refine (HS.out _ (((Below.refl _ _).alloc (Nat.le_refl _) _).alloc (by simp) _)).mono ?_; rintro e w2 ⟨rfl, hb⟩; have HB2 := Lib.hid ((((Below.refl w.heap.size w).alloc (Nat.le_refl _) _).alloc (by simp) _).trans (hb.mono (by simp; omega))); clear hb)
    go_ret
    rw [← HE.out]
    exact ⟨rfl, HB2.out⟩

theorem results_cell_row_tmp {fn : Func} {p u : Tmp} {ty : TypeId} (h : fn.results = #[.cell p ty, .tmp u]) (tmps : Array Value) (w : World) (g : Nat) (t : TypeId) (cs : Array Value) (fr : Nat × Nat) (fs : Array Field)
    (hp : tmps.getD p undef = .pointer (some ⟨g, 0, none⟩)) (hg : w.heap[g]? = some (.cells cs t fr))
    (hu : Try.prog.underlying ty = some (.struct fs)) (hi : (Try.prog.info? ty).map (·.size) = some cs.size) :
    (results fn tmps).run Try.prog w = .ok (.tuple #[.agg cs, tmps.getD u undef]) w := by
  rw [results_cell_tmp h, hp]
  have e := run_loadVar_row w g t ty cs fr _ hg hu rfl hi
  simp only [asAddr, Sem.run_pure, Result.andThen_ok, e]

theorem set2_row {W : World} {b : Nat} {x y u v : Value} {t : TypeId} (h : W.heap[b]? = some (.cells #[x, y] t (0, 0))) : ((W.setCell ⟨b, 0, none⟩ u).setCell ⟨b, 1, none⟩ v).heap[b]? = some (.cells #[u, v] t (0, 0)) := by
  have h1 := Go.heap_setCell_same W b 0 _ _ u h
  have h2 := Go.heap_setCell_same _ b 1 _ _ v h1
  simpa using h2

set_option maxRecDepth 100000 in
set_option maxHeartbeats 2000000 in
theorem field_calls (m : Mo) (g : Fn) (v f : Int) (w : World) (h : JIn w m g) (hv : isVar g.vs.length v = true) (hk : m.known (tyAt g.vs v) = true) :
    Calls Try.prog 140 #[.agg (jg m g), .int .i64 v, .int .i64 f] w fun e w' => e = .returned (.tuple #[tyV (fieldF m g.vs v f).1, .int .i64 (fieldF m g.vs v f).2]) ∧ Below w.heap.size w w' := by
  have HT : Hid (∀ W, Below w.heap.size w W → Calls Try.prog 125 #[.agg (jg m g), .int .i64 v] W fun e w' => e = .returned (tyV (tyAt g.vs v)) ∧ Below W.heap.size W w') := fun W hW => typ_calls m g v W (h.below hW).vars h.nv h.vl hv
  have HS : Hid (∀ W s, Below w.heap.size w W → Calls Try.prog 101 #[.agg m.cells, .string s] W fun e w' => e = .returned (.int .i64 (m.stIx s)) ∧ Below W.heap.size W w') :=
    fun W s hW => struct_calls5 m s W h.mo.ns (h.mo.below hW).srow
  simp only [Mo.cells] at HS
  have HF : Hid (fieldF m g.vs v f = (if (tyAt g.vs v).1 = false then (noTy, 7) else match m.ss[(m.stIx (tyAt g.vs v).2).toNat]? with
    | none => (noTy, 15)
    | some s => if f < 0 then (noTy, 15) else match s.fs[f.toNat]? with
      | none => (noTy, 15)
      | some x => (x.ty, 0) : Ty × Int)) := rfl
  have HJ := Lib.hid h
  have HK := Lib.hid hk
  obtain ⟨⟨b, s⟩, ht⟩ : ∃ t, tyAt g.vs v = t := ⟨_, rfl⟩
  rw [ht] at HF HT HK
  obtain ⟨F, hF⟩ : ∃ F, fieldF m g.vs v f = F := ⟨_, rfl⟩
  rw [hF] at HF ⊢
  unfold tyV at HT
  clear h hv hk ht hF
  have hst : ∀ (w : World) (c : Array Value), c.size = 2 → (storeCells ⟨w.heap.size, 0, none⟩ [.bool b, .string s] 0).run Try.prog (w.alloc (.cells c 45)) = .ok () (w.alloc (.cells #[.bool b, .string s] 45)) := fun w c hc =>
    run_storeCells_new (P := Try.prog) w 45 c #[.bool b, .string s] (by show _ = some 2; kernel_rfl) hc (by simp [Value.oneCell'])
  obtain ⟨N, hN⟩ : ∃ N, w.heap.size = N := ⟨_, rfl⟩
  obtain ⟨W1, hW1⟩ : ∃ W1, (w.alloc (.cells (jg m g) 113)).alloc (.cells #[.bool false, .string ⟨#[]⟩] 45) = W1 := ⟨_, rfl⟩
  have hb1 : Below N w W1 := by rw [← hW1, ← hN]; exact ((Below.refl _ _).alloc (Nat.le_refl _) _).alloc (by simp) _
  have hs1 : W1.heap.size = N + 2 := by rw [← hW1]; simp [hN]
  have hr1 : W1.heap[N]? = some (.cells (jg m g) 113 (0, 0)) := by rw [← hW1, ← hN]; exact heap_alloc2_old _ _ _
  have hr2 : W1.heap[N + 1]? = some (.cells #[.bool false, .string ⟨#[]⟩] 45 (0, 0)) := by rw [← hW1, ← hN]; exact heap_alloc2_new _ _ _
  have HB1 := Lib.hid hb1
  have HR1 := Lib.hid hr1
  have HR2 := Lib.hid hr2
  have HN := Lib.hid hN
  have HS1 := Lib.hid hs1
  clear hb1 hr1 hr2 hs1
  go_enter Try.func140, Try.ntmps140
  go_upto_region 2 with (first
    | (refine wpList_load_row rfl 113 _ rfl N rfl 113 (jg m g) (0, 0) _ HR1.out Try.underlying113 rfl (by kernel_rfl) ?_)
    | (go_at_call 125; refine (HT.out _ (by rw [HN.out]; exact HB1.out)).mono ?_; rintro e w2 ⟨rfl, hb2⟩; have HB2 := Lib.hid hb2; clear hb2))
  obtain ⟨T, hT⟩ : ∃ T, w2.heap.size = T := ⟨_, rfl⟩
  obtain ⟨W3, hW3⟩ : ∃ W3, w2.alloc (.cells #[.bool b, .string s] 45) = W3 := ⟨_, rfl⟩
  rw [hT, hW3]
  have hb13 : Below W1.heap.size W1 W3 := by rw [← hW3]; exact HB2.out.alloc HB2.out.size _
  have hTN : N + 2 ≤ T := by rw [← hT, ← HS1.out]; exact HB2.out.size
  have hs3 : W3.heap.size = T + 1 := by rw [← hW3, ← hT]; simp
  have hr3 : W3.heap[N]? = some (.cells (jg m g) 113 (0, 0)) := (hb13.block N (by have := HS1.out; omega)).trans HR1.out
  have hr4 : W3.heap[N + 1]? = some (.cells #[.bool false, .string ⟨#[]⟩] 45 (0, 0)) := (hb13.block (N + 1) (by have := HS1.out; omega)).trans HR2.out
  have hr5 : W3.heap[T]? = some (.cells #[.bool b, .string s] 45 (0, 0)) := by rw [← hW3, ← hT]; exact alloc_at _ _
  have HB3 : Hid (Below N w W3) := HB1.out.trans (hb13.mono (by have := HS1.out; omega))
  have HKEEP : Hid (∀ W, Below W3.heap.size W3 W → W.cell? ⟨N, 0, none⟩ = some (.slice m.sA m.ss.length m.sC) ∧ W.cell? ⟨N, 1, none⟩ = some (.slice m.fA m.fs.length m.fC) ∧ W.cell? ⟨T, 0, none⟩ = some (.bool b) ∧ W.cell? ⟨T, 1, none⟩ = some (.string s) ∧
      W.cell? ⟨N + 1, 0, none⟩ = some (.bool false) ∧ W.cell? ⟨N + 1, 1, none⟩ = some (.string ⟨#[]⟩) ∧ W.frozen? ⟨N + 1, 0, none⟩ = false ∧ W.frozen? ⟨N + 1, 1, none⟩ = false ∧ N + 1 < W.heap.size) := by
    intro W hW
    have q3 := (hW.block N (by omega)).trans hr3
    have q4 := (hW.block (N + 1) (by omega)).trans hr4
    have q5 := (hW.block T (by omega)).trans hr5
    refine ⟨?_, ?_, ?_, ?_, ?_, ?_, ?_, ?_, (Array.getElem?_eq_some_iff.1 q4).1⟩
    · rw [cell_of_row _ _ _ _ _ _ q3]; rfl
    · rw [cell_of_row _ _ _ _ _ _ q3]; rfl
    · rw [cell_of_row _ _ _ _ _ _ q5]; rfl
    · rw [cell_of_row _ _ _ _ _ _ q5]; rfl
    · rw [cell_of_row _ _ _ _ _ _ q4]; rfl
    · rw [cell_of_row _ _ _ _ _ _ q4]; rfl
    · exact frozen_of_row _ _ _ _ _ q4
    · exact frozen_of_row _ _ _ _ _ q4
  have HR4 : Hid (∀ W, Below W3.heap.size W3 W → W.heap[N + 1]? = some (.cells #[.bool false, .string ⟨#[]⟩] 45 (0, 0))) := fun W hW => (hW.block (N + 1) (by omega)).trans hr4
  obtain ⟨k0, k1, k2, k3, k4, k5, k6, k7, hN1⟩ := HKEEP.out W3 (Below.refl _ _)
  clear hst hW1 hW3 hb13 hr3 hr4 hr5 HR1 HR2 HT hT HB2 hN HS1
  cases b with
  | false =>
    have HFF : Hid (F = (noTy, 7)) := by rw [HF.out]; rfl
    clear HF
    go_wp2
    (try simp only [Exit.inBlock, Exit.then])
    refine bodyPost_ret (results_cell_row_tmp rfl _ _ (N + 1) 45 _ (0, 0) _ rfl (set2_row (HR4.out W3 (Below.refl _ _))) Try.underlying45 (by kernel_rfl)) rfl ?_
    rw [HFF.out, HN.out]
    exact ⟨rfl, (HB3.out.setCell (by show N ≤ N + 1; omega) _).setCell (by show N ≤ N + 1; omega) _⟩
  | true =>
    obtain ⟨k, st, hk1, hk2⟩ := known_st HK.out rfl
    obtain ⟨b0, off, hA, hb0, hc0⟩ := HJ.out.mo.srow (by intro e; rw [e] at hk2; simp at hk2)
    have hkl := (List.getElem?_eq_some_iff.1 hk2).1
    have hkI : (k : Int) < (m.ss.length : Int) := by omega
    have hb0N : b0 < N := by have := HN.out; omega
    have hD : ∀ W, Below W3.heap.size W3 W → W.cell? ⟨b0, off + k * 4 + 1, none⟩ = some (.slice st.s.fA st.fs.length st.s.fC) := fun W hW => by
      rw [(HB3.out.trans (hW.mono (by omega))).cell (p := ⟨b0, _, none⟩) hb0N]
      have := hc0 k st hk2 1 _ rfl
      rw [(HJ.out.mo.sin st (List.mem_of_getElem? hk2)).nf] at this
      exact this
    have HD := Lib.hid hD
    have hd := hD W3 (Below.refl _ _)
    have HSC : Hid (∀ W, Below W3.heap.size W3 W → Calls Try.prog 101 #[.agg #[.slice (some ⟨b0, off, none⟩) m.ss.length m.sC, .slice m.fA m.fs.length m.fC], .string s] W fun e w' => e = .returned (.int .i64 (k : Int)) ∧ Below W.heap.size W w') := by
      intro W hW
      have := HS.out W s (by rw [HN.out]; exact HB3.out.trans (hW.mono (by omega)))
      rw [hk1, hA] at this
      exact this
    have HFS : Hid (F = (if f < 0 then (noTy, 15) else match st.fs[f.toNat]? with
      | none => (noTy, 15)
      | some x => (x.ty, 0) : Ty × Int)) := by
      unfold Hid
      rw [HF.out, if_neg (by decide)]
      show (match m.ss[(m.stIx s).toNat]? with
        | none => (noTy, 15)
        | some s => if f < 0 then (noTy, 15) else match s.fs[f.toNat]? with
          | none => (noTy, 15)
          | some x => (x.ty, 0) : Ty × Int) = _
      rw [hk1, Int.toNat_natCast, hk2]
    have HIN : Hid (st.inn w) := HJ.out.mo.sin st (List.mem_of_getElem? hk2)
    have HK2 := Lib.hid hk2
    rw [hA] at k0 HKEEP
    clear HF HK hk1 hk2 hA hb0 hc0 hD HJ HS
    go_wp2
    go_region_held3 (fun w' => w'.cell? ⟨N, 0, none⟩ = some (.slice (some ⟨b0, off, none⟩) m.ss.length m.sC) ∧ w'.cell? ⟨N, 1, none⟩ = some (.slice m.fA m.fs.length m.fC) ∧ w'.cell? ⟨T, 0, none⟩ = some (.bool true) ∧ w'.cell? ⟨T, 1, none⟩ = some (.string s) ∧ w'.cell? ⟨b0, off + k * 4 + 1, none⟩ = some (.slice st.s.fA st.fs.length st.s.fC) ∧ Below W3.heap.size W3 w')
      (first | (exact hS) | (exact ⟨k0, k1, k2, k3, hd, below_drewN (Below.refl _ _) 1⟩))
      (first
        | (go_at_call 101; refine (HSC.out _ (by go_split_ands; assumption)).mono ?_; rintro e w11 ⟨rfl, hb11⟩; have hbb := (below_drewN (Below.refl W3.heap.size W3) 1).trans hb11; have hS := (let h := HKEEP.out _ hbb; (⟨h.1, h.2.1, h.2.2.1, h.2.2.2.1, HD.out _ hbb, hbb⟩ : _ ∧ _ ∧ _ ∧ _ ∧ _ ∧ _))))
    obtain ⟨_, _, _, _, j4, j5, j6, j7, hN2⟩ := HKEEP.out w11 hbb
    have hr11 := HR4.out w11 hbb
    have HB11 : Hid (Below N w w11) := HB3.out.trans (hbb.mono (by omega))
    have HR11 := Lib.hid hr11
    clear hS hbb hb11 k0 k1 k2 k3 k4 k5 k6 k7 hd HKEEP HR4 HSC HD hr11
    by_cases hf0 : f < 0
    · have HFF : Hid (F = (noTy, 15)) := by unfold Hid; rw [HFS.out, if_pos hf0]
      clear HFS
      go_wp2
      (try simp only [Exit.inBlock, Exit.then])
      refine bodyPost_ret (results_cell_row_tmp rfl _ _ (N + 1) 45 _ (0, 0) _ rfl (set2_row HR11.out) Try.underlying45 (by kernel_rfl)) rfl ?_
      rw [HFF.out, HN.out]
      exact ⟨rfl, (HB11.out.setCell (by show N ≤ N + 1; omega) _).setCell (by show N ≤ N + 1; omega) _⟩
    obtain ⟨q, rfl⟩ : ∃ q : Nat, f = (q : Int) := ⟨f.toNat, by omega⟩
    rw [if_neg hf0, Int.toNat_natCast] at HFS
    by_cases hfl : q < st.fs.length
    · obtain ⟨x, hx⟩ : ∃ x, st.fs[q]? = some x := ⟨_, List.getElem?_eq_getElem hfl⟩
      have HFF : Hid (F = (x.ty, 0)) := by unfold Hid; rw [HFS.out, hx]
      obtain ⟨b1, off1, hA1, hb1, hc1⟩ := HIN.out.row (by intro e; rw [e] at hfl; simp at hfl)
      have hb1N : b1 < N := by have := HN.out; omega
      have e1 : w11.cell? ⟨b1, off1 + q * 5 + 1, none⟩ = some (.bool x.ptr) := by rw [HB11.out.cell (p := ⟨b1, _, none⟩) hb1N]; exact hc1 q x hx 1 _ rfl
      have e2 : w11.cell? ⟨b1, off1 + q * 5 + 2, none⟩ = some (.string x.tgt) := by rw [HB11.out.cell (p := ⟨b1, _, none⟩) hb1N]; exact hc1 q x hx 2 _ rfl
      have hqI : (q : Int) < (st.fs.length : Int) := by omega
      rw [hA1]
      clear HFS hx hc1 hb1 hA1 hf0 hfl
      go_wp2
      (try simp only [Exit.inBlock, Exit.then])
      refine bodyPost_ret (results_cell_row_tmp rfl _ _ (N + 1) 45 _ (0, 0) _ rfl (set2_row HR11.out) Try.underlying45 (by kernel_rfl)) rfl ?_
      rw [HFF.out, HN.out]
      exact ⟨rfl, (HB11.out.setCell (by show N ≤ N + 1; omega) _).setCell (by show N ≤ N + 1; omega) _⟩
    · have HFF : Hid (F = (noTy, 15)) := by unfold Hid; rw [HFS.out, List.getElem?_eq_none (by omega)]
      have hqI : ¬ (q : Int) < (st.fs.length : Int) := by omega
      clear HFS hf0 hfl
      go_wp2
      (try simp only [Exit.inBlock, Exit.then])
      refine bodyPost_ret (results_cell_row_tmp rfl _ _ (N + 1) 45 _ (0, 0) _ rfl (set2_row HR11.out) Try.underlying45 (by kernel_rfl)) rfl ?_
      rw [HFF.out, HN.out]
      exact ⟨rfl, (HB11.out.setCell (by show N ≤ N + 1; omega) _).setCell (by show N ≤ N + 1; omega) _⟩
end Go.Proofs.Ytlggjbopfnndbaa
