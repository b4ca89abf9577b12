import Derived.Test.YtlggjbopfnndbaaRewE
import Derived.Test.YtlggjbopfnndbaaIrQ

namespace Go.Proofs.Ytlggjbopfnndbaa
open Go.RowKit

attribute [local go_sem] Oper.semAt_some

def okC (v : Vr) : Bool := (v.ptr == (v.cls == 1 || v.cls == 2 || v.cls == 3)) && (v.ptr || v.cls == 0)
def classedF (m : Mo) : Bool := (eachF m).all fun p => okC p.1

theorem each_calls (m : Mo) (w : World) : Calls Try.prog 74 #[.agg m.cells] w fun e w' =>
    e = .returned (.func (.func 98) #[] #[.pointer (some ⟨w.heap.size, 0, none⟩)]) ∧ w' = w.alloc (.cells m.cells 25) := by
  go_enter Try.func74, Try.ntmps74
  go_wp2
  go_ret
  exact ⟨rfl, rfl⟩

theorem fold_two (p q : Tmp) (u v : Value) (t : Array Value) : ((#[p, q] : Array Tmp).zip #[u, v]).foldl (fun t (p, v) => t.setIfInBounds p v) t = (t.setIfInBounds p u).setIfInBounds q v := by simp

theorem classed_results (tmps : Array Value) (w : World) (ad : Addr) (v : Value) (ht : tmps[2]? = some (.pointer (some ad))) (hc : w.cell? ad = some v) : (results Try.f43 tmps).run Try.prog w = .ok v w := by
  have h : Try.f43.results = #[.cell 2 4] := rfl
  have hu : Try.prog.underlying 4 = _ := Try.underlying4
  simp [results, h, go_sem, ht, hc, hu]

/-- Between two rounds. -/
structure CI (N : Nat) (XS : List (Vr × Nat)) (W5 : World) (pre : List (Vr × Nat)) (C : Nat → Prop) (W : World) : Prop where
  res : W.heap[N + 1]? = some (.cells #[.bool false] 4 (0, 0))
  ext : Ext (fun k => k = N + 1) W5 W
  kn : ∀ t ∈ pre, okC t.1 = true
  own : (C = fun k => k = N + 1) ∨ ∃ (b : Nat) (t : Vr × Nat), C = (fun k => k = N + 1 ∨ k = b) ∧ XS[pre.length]? = some t ∧ W5.heap.size ≤ b ∧ W.heap[b]? = some (.cells #[.bool t.1.ptr, .string t.1.tgt, .int .i64 t.1.cls] 47 (0, 0))

theorem CI.next {N : Nat} {XS pre : List (Vr × Nat)} {W5 W W' : World} {C : Nat → Prop} (h : CI N XS W5 pre C W) (hN : N + 1 < W5.heap.size) (hx : Ext (fun k => W5.heap.size ≤ k ∧ ¬ C k) W W') : CI N XS W5 pre C W' := by
  refine ⟨hx.heap h.res (fun h => by omega), h.ext.trans hx (fun j hj => .inr hj.1), h.kn, ?_⟩
  rcases h.own with e | ⟨b, t, e, h1, h2, h3⟩
  · exact .inl e
  · exact .inr ⟨b, t, e, h1, h2, hx.heap h3 (fun h => h.2 (by rw [e]; exact .inr rfl))⟩

theorem CI.res_own {N : Nat} {XS pre : List (Vr × Nat)} {W5 W : World} {C : Nat → Prop} (h : CI N XS W5 pre C W) : C (N + 1) := by
  rcases h.own with e | ⟨b, t, e, _⟩
  · rw [e]
  · rw [e]; exact .inl rfl

/-- The world that a round leaves for good. -/
structure CX (XS : List (Vr × Nat)) (N : Nat) (W5 : World) (c : Code) (C : Nat → Prop) (W : World) : Prop where
  ret : c = .ret
  res : W.heap[N + 1]? = some (.cells #[.bool false] 4 (0, 0))
  ext : Ext (fun k => k = N + 1) W5 W
  bad : (XS.all fun p => okC p.1) = false
  own : C (N + 1)

set_option maxRecDepth 100000 in
set_option maxHeartbeats 16000000 in
theorem classed_calls (m : Mo) (w : World) (h : m.inn w) (hvl : ∀ f ∈ m.fs, f.vs.length ≤ 90000) (hfn : m.fs.length ≤ 90000) :
    Calls Try.prog 43 #[.agg m.cells] w fun e w' => e = .returned (.bool (classedF m)) ∧ Below w.heap.size w w' := by
  have HM := Lib.hid h
  have HVL := Lib.hid hvl
  obtain ⟨R, hR⟩ : ∃ R, classedF m = R := ⟨_, rfl⟩
  have HR : Hid (R = (eachF m).all fun p => okC p.1) := hR.symm
  rw [hR]
  clear h hR hvl
  obtain ⟨N, hN⟩ : ∃ N, w.heap.size = N := ⟨_, rfl⟩
  obtain ⟨W2, hW2⟩ : ∃ W2, (w.alloc (.cells m.cells 25)).alloc (.cells #[.bool false] 4) = W2 := ⟨_, rfl⟩
  have hb2 : Below N w W2 := by rw [← hW2, ← hN]; exact ((Below.refl _ _).alloc (Nat.le_refl _) _).alloc (by simp) _
  have hs2 : W2.heap.size = N + 2 := by rw [← hW2]; simp [hN]
  have hr1 : W2.heap[N]? = some (.cells m.cells 25 (0, 0)) := by rw [← hW2, ← hN]; exact heap_alloc2_old _ _ _
  have hr2 : W2.heap[N + 1]? = some (.cells #[.bool false] 4 (0, 0)) := by rw [← hW2, ← hN]; exact heap_alloc2_new _ _ _
  have HB2 := Lib.hid hb2
  have HN := Lib.hid hN
  have HROW0 := Lib.hid hr1
  have HROWB := Lib.hid hr2
  have HW2 := Lib.hid hW2
  clear hb2 hr1 hr2 hW2
  (refine calls_of_wp_marks Try.func43 rfl ?_
   simp only [Try.ntmps43, List.size_toArray, List.length_cons, List.length_nil, Nat.reduceAdd, Nat.reduceSub, Array.replicate_succ,
     Array.replicate_zero, List.push_toArray, List.append_toArray, List.nil_append, List.cons_append])
  go_upto_region 1 with (fail)
  rw [HW2.out]
  clear HW2
  obtain ⟨B, hB⟩ : ∃ B, W2.heap.size = B := ⟨_, rfl⟩
  obtain ⟨W5, hW5⟩ : ∃ W5, W2.alloc (.cells m.cells 25) = W5 := ⟨_, rfl⟩
  have HEA : Hid (Calls Try.prog 74 #[.agg m.cells] W2 fun e w' => e = .returned (.func (.func 98) #[] #[.pointer (some ⟨B, 0, none⟩)]) ∧ w' = W5) := by
    rw [← hB, ← hW5]; exact each_calls m W2
  have hx25 : Ext (fun _ => False) W2 W5 := by rw [← hW5]; exact (Ext.refl _ _).alloc _
  have hs5 : W5.heap.size = B + 1 := by rw [← hW5]; simp [hB]
  have hrB : W5.heap[B]? = some (.cells m.cells 25 (0, 0)) := by rw [← hW5, ← hB]; exact alloc_at _ _
  have HBW5 : Hid (Below N w W5) := HB2.out.trans ((hx25.below (by omega : N ≤ W2.heap.size) (fun _ h => h.elim)))
  have HIT : Hid (Iter Try.prog 98 #[.pointer (some ⟨B, 0, none⟩)] eaEnc (eachF m) (tyRd N B) W5) := by
    have := each1_iter w W5 m B HM.out (by rw [HN.out]; exact HBW5.out) hrB HVL.out hfn
    rw [HN.out] at this
    exact this
  have HX25 := Lib.hid hx25
  clear hx25 hrB hW5
  go_wp2_with (first
    | (refine wpList_load_row rfl 25 _ rfl N rfl 25 m.cells (0, 0) _ HROW0.out Try.underlying25 rfl (by kernel_rfl) ?_)
    | (go_at_call 74; refine HEA.out.mono ?_; rintro e w6 ⟨rfl, hw6⟩; rw [hw6]; clear hw6))
  have hN5 : N + 1 < W5.heap.size := by omega
  have HFX : Hid (∀ (W : World) (z : Bool) (bs : List Nat), W.heap[N + 1]? = some (.cells #[.bool z] 4 (0, 0)) → Ext (N ≤ ·) w W → (∀ b ∈ bs, N + 2 ≤ b) → ∀ w', Ext (· ∈ bs) W w' → w'.cell? ⟨N + 1, 0, none⟩ = some (.bool z) ∧ Below N w w') := by
    intro W z bs h1 h2 h3 w' hx
    have h5 := hx.heap h1 (fun h => by have := h3 _ h; omega)
    refine ⟨by rw [cell_of_row _ _ _ _ _ _ h5]; rfl, ?_⟩
    exact (h2.trans hx (fun j hj => .inl (by show N ≤ j; have := h3 _ hj; omega))).below (by omega) (fun k hk => hk)
  obtain ⟨XS, hXS⟩ : ∃ X, eachF m = X := ⟨_, rfl⟩
  rw [hXS] at HIT HR
  clear hXS
  refine wp_rangeFunc_sep (gf := 98) rfl Try.func98 (by rfl) rfl HIT.out (Below.refl _ _) ?hRd (fun _ => rfl) (CI N XS W5) (fun c _ C W => CX XS N W5 c C W) (fun pre C W W' h hx => h.next hN5 hx) ?hIC ?hIx (fun k => k = N + 1) ?h0 ?hround ?hdone ?hstop
  case hRd =>
    rintro k (h | rfl)
    · omega
    · omega
  case hIC =>
    intro pre C W h k hk
    rcases h.own with e | ⟨b, t, e, h1, h2, h3⟩
    · rw [e] at hk
      have hk : k = N + 1 := hk
      subst hk
      exact ⟨(Array.getElem?_eq_some_iff.1 h.res).1, fun h => by rcases h with h | h <;> omega⟩
    · rw [e] at hk
      rcases hk with hk | hk
      · subst hk
        exact ⟨(Array.getElem?_eq_some_iff.1 h.res).1, fun h => by rcases h with h | h <;> omega⟩
      · subst hk
        exact ⟨(Array.getElem?_eq_some_iff.1 h3).1, fun h => by rcases h with h | h <;> omega⟩
  case hIx =>
    intro c pre C W W' h hx
    exact ⟨h.ret, hx.heap h.res (fun q => by omega), h.ext.trans hx (fun j hj => .inr hj.1), h.bad, h.own⟩
  case h0 => exact ⟨HX25.out.heap HROWB.out (fun h => h), Ext.refl _ _, by simp, .inl rfl⟩
  case hround =>
    rintro l pre ⟨⟨xb, xs, xc⟩, xn⟩ C W hl hI hpre
    unfold eaEnc
    rw [fold_two]
    simp only [List.setIfInBounds_toArray, List.set_cons_zero, List.set_cons_succ]
    have HI := Lib.hid hI
    have HPRE := Lib.hid hpre
    have hxn : XS[pre.length]? = some (⟨xb, xs, xc⟩, xn) := by
      obtain ⟨t, ht⟩ := hpre
      rw [← ht]; simp
    have hsW := hI.ext.size
    obtain ⟨b, hb⟩ : ∃ b, W.heap.size = b := ⟨_, rfl⟩
    obtain ⟨W6, hW6⟩ : ∃ W6, W.alloc (.cells #[.bool xb, .string xs, .int .i64 xc] 47) = W6 := ⟨_, rfl⟩
    have hst6 : ∀ (c : Array Value), c.size = 3 → (storeCells ⟨b, 0, none⟩ [.bool xb, .string xs, .int .i64 xc] 0).run Try.prog (W.alloc (.cells c 47)) = .ok () W6 := fun c hc => by
      rw [← hW6, ← hb]
      exact run_storeCells_new (P := Try.prog) W 47 c #[.bool xb, .string xs, .int .i64 xc] (by show _ = some 3; kernel_rfl) hc (by simp [Value.oneCell'])
    have hr6 : W6.heap[b]? = some (.cells #[.bool xb, .string xs, .int .i64 xc] 47 (0, 0)) := by rw [← hW6, ← hb]; exact alloc_at _ _
    have hx6 : Ext (fun _ => False) W W6 := by rw [← hW6]; exact (Ext.refl _ _).alloc _
    have HI6 : Hid (CI N XS W5 pre (fun k => k = N + 1 ∨ k = b) W6) := by
      have h := HI.out
      exact ⟨hx6.heap h.res (fun h => h), h.ext.trans hx6 (fun _ h => h.elim), h.kn, .inr ⟨b, _, rfl, hxn, by omega, hr6⟩⟩
    have HX6 : Hid (Ext C W W6) := hx6.mono (fun _ h => h.elim)
    have HXN := Lib.hid hxn
    have HW6 := Lib.hid hW6
    clear hI hpre hxn hr6 hx6
    obtain ⟨F, hF⟩ : ∃ F, F = Fence.wide.inRound l := ⟨_, rfl⟩
    have HCI : Hid (∀ (n f : Nat) (args : Array Value) (w : World) (R : Ending → World → Prop), Calls Try.prog f args w R → CallsIn F n Try.prog f args w R) := by
      intro n f args w R h; rw [hF]; exact CallsIn.inRound l (callsIn_wide.2 h)
    have hFr : F.round = some l := by rw [hF]; rfl
    have hFf : ∀ f, F.fn f := fun f => by rw [hF]; trivial
    have hFd : F.depth = none := by rw [hF]; rfl
    rw [← hF]
    clear hF
    gi_wp2
    refine ⟨fun k => k = N + 1 ∨ k = b, ?_, HI6.out, HX6.out, ?_⟩
    · rintro k (rfl | rfl)
      · exact .inl HI.out.res_own
      · exact .inr (by omega)
    intro W₂ hI2 hl2
    have hr2 : W₂.heap[b]? = some (.cells #[.bool xb, .string xs, .int .i64 xc] 47 (0, 0)) := by
      rcases hI2.own with e | ⟨b', t', e, h1, h2, h3⟩
      · have q := congrFun e b
        simp at q
        omega
      · have q := congrFun e b
        simp at q
        rcases q with q | q
        · omega
        · subst q
          rw [HXN.out] at h1
          obtain rfl := Option.some.inj h1
          exact h3
    have hf2 := frozen_of_row _ _ 0 _ _ hI2.res
    have hz2 : W₂.cell? ⟨N + 1, 0, none⟩ = some (.bool false) := (cell_of_row _ _ _ _ _ _ hI2.res).trans rfl
    have t0 : W₂.cell? ⟨b, 0, none⟩ = some (.bool xb) := (cell_of_row _ _ _ _ _ _ hr2).trans rfl
    have t2 : W₂.cell? ⟨b, 2, none⟩ = some (.int .i64 xc) := (cell_of_row _ _ _ _ _ _ hr2).trans rfl
    have HOKN : Hid (okC ⟨xb, xs, xc⟩ = true → ∀ a : Act, sepPost (CI N XS W5) (fun c _ C W => CX XS N W5 c C W) (fun k => k = N + 1 ∨ k = b) W₂ (pre ++ [(⟨xb, xs, xc⟩, xn)]) .normal a W₂) := by
      intro hok a
      refine ⟨fun k => k = N + 1, fun k hk => .inl (.inl hk), ⟨hI2.res, hI2.ext, fun t ht => ?_, .inl rfl⟩, Ext.refl _ _⟩
      rcases List.mem_append.1 ht with h | h
      · exact hI2.kn t h
      · simp at h; subst h; exact hok
    have HBAD : Hid (okC ⟨xb, xs, xc⟩ = false → ∀ (a : Act) (W₃ : World), W₃ = W₂.setCell ⟨N + 1, 0, none⟩ (.bool false) → sepPost (CI N XS W5) (fun c _ C W => CX XS N W5 c C W) (fun k => k = N + 1 ∨ k = b) W₂ (pre ++ [(⟨xb, xs, xc⟩, xn)]) .ret a W₃) := by
      intro hok a W₃ e
      have h8 : Ext (· = N + 1) W₂ (W₂.setCell ⟨N + 1, 0, none⟩ (.bool false)) := Ext.set1 _ _ _ _
      subst e
      refine ⟨fun k => k = N + 1, fun k hk => .inl (.inl hk), ⟨rfl, ?_, hI2.ext.trans h8 (fun j hj => .inl hj), ?_, rfl⟩, h8.mono (fun j hj => .inl hj)⟩
      · have := heap_setCell_same W₂ (N + 1) 0 _ _ (.bool false) hI2.res
        simpa using this
      · rw [List.all_eq_false]
        exact ⟨(⟨xb, xs, xc⟩, xn), HPRE.out.subset (by simp), by rw [hok]; simp⟩
    have hbs2 := (Array.getElem?_eq_some_iff.1 hr2).1
    clear hr2 hI2 hl2
    by_cases h1 : xc = 1
    · subst h1
      cases xb with
      | true =>
        have HOK2 := Lib.hid (HOKN.out (by rfl))
        clear HOKN HBAD
        gi_wp2
        exact HOK2.out _
      | false =>
        have HBAD2 := Lib.hid (fun a => HBAD.out (by rfl) a _ rfl)
        clear HOKN HBAD
        gi_wp2
        exact HBAD2.out _
    by_cases h2 : xc = 2
    · subst h2
      clear h1
      cases xb with
      | true =>
        have HOK2 := Lib.hid (HOKN.out (by rfl))
        clear HOKN HBAD
        gi_wp2
        exact HOK2.out _
      | false =>
        have HBAD2 := Lib.hid (fun a => HBAD.out (by rfl) a _ rfl)
        clear HOKN HBAD
        gi_wp2
        exact HBAD2.out _
    by_cases h3 : xc = 3
    · subst h3
      clear h1 h2
      cases xb with
      | true =>
        have HOK2 := Lib.hid (HOKN.out (by rfl))
        clear HOKN HBAD
        gi_wp2
        exact HOK2.out _
      | false =>
        have HBAD2 := Lib.hid (fun a => HBAD.out (by rfl) a _ rfl)
        clear HOKN HBAD
        gi_wp2
        exact HBAD2.out _
    by_cases h0 : xc = 0
    · subst h0
      clear h1 h2 h3
      cases xb with
      | true =>
        have HBAD2 := Lib.hid (fun a => HBAD.out (by rfl) a _ rfl)
        clear HOKN HBAD
        gi_wp2
        exact HBAD2.out _
      | false =>
        have HOK2 := Lib.hid (HOKN.out (by rfl))
        clear HOKN HBAD
        gi_wp2
        exact HOK2.out _
    have e1 : (xc == 1) = false := by rw [beq_eq_false_iff_ne]; exact h1
    have e2 : (xc == 2) = false := by rw [beq_eq_false_iff_ne]; exact h2
    have e3 : (xc == 3) = false := by rw [beq_eq_false_iff_ne]; exact h3
    have e0 : (xc != 0) = true := by rw [bne_iff_ne]; exact h0
    have e00 : (xc == 0) = false := by rw [beq_eq_false_iff_ne]; exact h0
    clear h0 h1 h2 h3
    cases xb with
    | true =>
      have HBAD2 := Lib.hid (fun a => HBAD.out (by unfold okC; simp only [e1, e2, e3, e00]; rfl) a _ rfl)
      clear HOKN HBAD
      gi_wp2
      exact HBAD2.out _
    | false =>
      have HBAD2 := Lib.hid (fun a => HBAD.out (by unfold okC; simp only [e1, e2, e3, e00]; rfl) a _ rfl)
      clear HOKN HBAD
      gi_wp2
      exact HBAD2.out _
  case hstop =>
    intro D c pre C W hD hCD hpre hix hdd
    obtain ⟨rfl, hres, hext, hbad, hown⟩ := hix
    have HRR : Hid (R = false) := by unfold Hid; rw [HR.out]; exact hbad
    have HDD := Lib.hid hdd
    have HXW : Hid (Ext (N ≤ ·) w W) := (Ext.of_below HBW5.out).trans (hext.mono (M' := (N ≤ ·)) (fun k hk => by show N ≤ k; omega)) (fun j hj => .inl hj)
    have HRES := Lib.hid hres
    clear hres hext hbad hown hdd hpre
    go_wp2_with fail
    refine ⟨[D], rfl, by simp, by intro b hb; simp at hb; subst hb; exact HDD.out, .bool false, fun w' hx => ?_⟩
    obtain ⟨h1, h2⟩ := HFX.out W false [D] HRES.out HXW.out (by simp; omega) w' hx
    exact ⟨classed_results _ _ _ _ rfl h1, by rw [HRR.out], by first | exact h2 | (rw [HN.out]; exact h2)⟩
  case hdone =>
    intro D C W hD hCD hI hdd
    have HRR : Hid (R = true) := by unfold Hid; rw [HR.out, List.all_eq_true]; exact hI.kn
    have HDD := Lib.hid hdd
    have HXW : Hid (Ext (N ≤ ·) w (W.setCell ⟨N + 1, 0, none⟩ (.bool true))) := ((Ext.of_below HBW5.out).trans (hI.ext.mono (M' := (N ≤ ·)) (fun k hk => by show N ≤ k; omega)) (fun j hj => .inl hj)).trans (Ext.set1 _ _ _ _) (fun j hj => .inl (by show N ≤ j; omega))
    have z1 : W.cell? ⟨N + 1, 0, none⟩ = some (.bool false) := (cell_of_row _ _ _ _ _ _ hI.res).trans rfl
    have z2 := frozen_of_row _ _ 0 _ _ hI.res
    have HRES : Hid ((W.setCell ⟨N + 1, 0, none⟩ (.bool true)).heap[N + 1]? = some (.cells #[.bool true] 4 (0, 0))) := by
      have := heap_setCell_same W (N + 1) 0 _ _ (.bool true) hI.res
      unfold Hid
      simpa using this
    have HDD2 : Hid ((W.setCell ⟨N + 1, 0, none⟩ (.bool true)).heap[D]? = some (.deferred (some []))) := (Ext.set1 W (N + 1) 0 (.bool true)).heap hdd (by omega)
    clear hI hdd hCD
    go_wp2_with fail
    refine ⟨[D], rfl, by simp, by intro b hb; simp at hb; subst hb; exact HDD2.out, .bool true, fun w' hx => ?_⟩
    obtain ⟨h1, h2⟩ := HFX.out _ true [D] HRES.out HXW.out (by simp; omega) w' hx
    exact ⟨classed_results _ _ _ _ rfl h1, by rw [HRR.out], by first | exact h2 | (rw [HN.out]; exact h2)⟩
end Go.Proofs.Ytlggjbopfnndbaa
