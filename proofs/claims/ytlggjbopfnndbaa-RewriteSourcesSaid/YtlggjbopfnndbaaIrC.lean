import Derived.Test.YtlggjbopfnndbaaIrB

namespace Go.Proofs.Ytlggjbopfnndbaa
open Go.RowKit

set_option maxRecDepth 100000 in
set_option maxHeartbeats 1000000 in
theorem func1_calls (f : Fn) (B : Nat) (nm : ByteArray) (w : World) (hB : w.heap[B]? = some (.cells #[.string nm] 9 (0, 0))) :
    Calls Try.prog 104 #[.agg f.cells, .pointer (some ⟨B, 0, none⟩)] w fun e w' => e = .returned (.bool (f.c.nm == nm)) ∧ Below w.heap.size w w' := by
  have q : w.cell? ⟨B, 0, none⟩ = some (.string nm) := by rw [cell_of_row _ _ _ _ _ _ hB]; rfl
  have hBl := (Array.getElem?_eq_some_iff.1 hB).1
  have HE : Hid ((f.c.nm.toList == nm.toList) = (f.c.nm == nm)) := (beq_toListBytes _ _).symm
  simp only [Fn.cells, Cod.cells]
  clear hB
  go_enter Try.func104, Try.ntmps104
  go_wp2
  go_ret
  rw [← HE.out]
  exact ⟨rfl, (Below.refl _ _).alloc (Nat.le_refl _) _⟩

set_option maxRecDepth 100000 in
set_option maxHeartbeats 1000000 in
theorem ixFn_calls (w : World) (ao : Option Addr) (xs : List Fn) (c B : Nat) (nm : ByteArray) (hn : xs.length ≤ maxLen) (h : RowOf Fn.cells 8 w w.heap.size ao xs) (hB : w.heap[B]? = some (.cells #[.string nm] 9 (0, 0))) :
    Calls Try.prog 103 #[.slice ao xs.length c, .func (.func 104) #[] #[.pointer (some ⟨B, 0, none⟩)]] w fun e w' => e = .returned (.int .i64 (ixOf (fun f => f.c.nm == nm) xs)) ∧ Below w.heap.size w w' := by
  have H := Lib.hid h
  have HBB := Lib.hid hB
  unfold maxLen at hn
  have hBl := (Array.getElem?_eq_some_iff.1 hB).1
  clear h hB
  go_enter Try.func103, Try.ntmps103
  go_wp2_with fail
  go_loopw [8] (fun k wr => ∃ j : Nat, j ≤ xs.length ∧ k = .int .i64 (j : Int) ∧ (∀ f ∈ xs.take j, (f.c.nm == nm) = false) ∧ Below w.heap.size w wr) (fun k _ => xs.length - (intOf k).toNat)
  case atStart => exact ⟨0, Nat.zero_le _, rfl, by simp, Below.refl _ _⟩
  case round =>
    obtain ⟨j, hj, rfl, hz, hb⟩ := hrel
    by_cases hjl : j < xs.length
    · obtain ⟨f, hy⟩ : ∃ y, xs[j]? = some y := ⟨_, List.getElem?_eq_getElem hjl⟩
      obtain ⟨g1, off, rfl, hg1, q1⟩ := (H.out.grow hb) (by intro e; rw [e] at hjl; simp at hjl)
      have HCA : Hid (∀ k u, f.cells.toList[k]? = some u → wr.cell? ((⟨g1, off + j * 8, none⟩ : Addr).add k) = some u) := fun k u hu => by rw [Addr.add_lit]; exact q1 j f hy k u hu
      have d0 : wr.cell? ⟨g1, off + j * 8, none⟩ = some (.string f.c.nm) := q1 j f hy 0 _ rfl
      have hjI : (j : Int) < (xs.length : Int) := by omega
      have HC := Lib.hid (func1_calls f B nm wr ((hb.block B hBl).trans HBB.out))
      obtain ⟨d, hd⟩ : ∃ d, (f.c.nm == nm) = d := ⟨_, rfl⟩
      rw [hd] at HC
      have HB := Lib.hid hb
      have HZ := Lib.hid hz
      have HY := Lib.hid hy
      have HD := Lib.hid hd
      clear hb hz hy hd q1
      cases d with
      | true =>
        go_wp2_with (first
          | (refine wpList_load_at rfl 50 _ rfl ⟨g1, off + j * 8, none⟩ rfl f.cells _ HCA.out Try.underlying50 rfl (by kernel_rfl) ?_)
          | (go_at_call 104; refine HC.out.mono ?_; rintro e w2 ⟨rfl, hb2⟩; have HB2 := Lib.hid hb2; clear hb2))
        go_ret
        exact ⟨by rw [ixOf_at (p := fun f : Fn => f.c.nm == nm) HZ.out HY.out HD.out]; rfl, HB.out.trans (HB2.out.mono HB.out.size)⟩
      | false =>
        go_wp2_with (first
          | (refine wpList_load_at rfl 50 _ rfl ⟨g1, off + j * 8, none⟩ rfl f.cells _ HCA.out Try.underlying50 rfl (by kernel_rfl) ?_)
          | (go_at_call 104; refine HC.out.mono ?_; rintro e w2 ⟨rfl, hb2⟩; have HB2 := Lib.hid hb2; clear hb2))
        go_roundw
        case rel => exact ⟨j + 1, by omega, by go_num, take_false (p := fun f : Fn => f.c.nm == nm) HZ.out HY.out HD.out, HB.out.trans (HB2.out.mono HB.out.size)⟩
        case measure => simp [intOf]; omega
    · have hje : j = xs.length := by omega
      subst hje
      rw [List.take_length] at hz
      have HM := Lib.hid (ixOf_none (p := fun f : Fn => f.c.nm == nm) hz)
      have HB := Lib.hid hb
      clear hz hb
      go_wp2
      go_ret
      exact ⟨by rw [HM.out]; rfl, HB.out⟩

set_option maxRecDepth 100000 in
set_option maxHeartbeats 1000000 in
theorem func_calls5 (m : Mo) (nm : ByteArray) (w : World) (hn : m.fs.length ≤ maxLen) (h : RowOf Fn.cells 8 w w.heap.size m.fA m.fs) :
    Calls Try.prog 80 #[.agg m.cells, .string nm] w fun e w' => e = .returned (.int .i64 (m.fnIx nm)) ∧ Below w.heap.size w w' := by
  obtain ⟨N, hN⟩ : ∃ N, w.heap.size = N := ⟨_, rfl⟩
  have HIX : Hid (Calls Try.prog 103 #[.slice m.fA m.fs.length m.fC, .func (.func 104) #[] #[.pointer (some ⟨N + 1, 0, none⟩)]] ((w.alloc (.cells m.cells 25)).alloc (.cells #[.string nm] 9)) fun e w' => e = .returned (.int .i64 (m.fnIx nm)) ∧ Below N w w') := by
    have hb : Below w.heap.size w ((w.alloc (.cells m.cells 25)).alloc (.cells #[.string nm] 9)) := ((Below.refl _ _).alloc (Nat.le_refl _) _).alloc (by simp) _
    refine (ixFn_calls _ m.fA m.fs m.fC (N + 1) nm hn (h.grow hb) (by subst hN; exact heap_alloc2_new _ _ _)).mono ?_
    rintro e w' ⟨rfl, hb'⟩
    exact ⟨rfl, by rw [← hN]; exact hb.trans (hb'.mono hb.size)⟩
  simp only [Mo.cells] at HIX ⊢
  clear h hn
  obtain ⟨z, hz⟩ : ∃ z, m.fnIx nm = z := ⟨_, rfl⟩
  rw [hz] at HIX ⊢
  clear hz
  go_enter Try.func80, Try.ntmps80
  go_wp2_with (go_at_call 103; (first | refine HIX.out.mono ?_ | (rw [hN]; refine HIX.out.mono ?_)); rintro e w2 ⟨rfl, hb2⟩; have HB2 := Lib.hid hb2; clear hb2)
  go_ret
  exact ⟨rfl, by rw [hN]; exact HB2.out⟩

set_option maxRecDepth 100000 in
set_option maxHeartbeats 1000000 in
theorem struct1_calls (f : St) (B : Nat) (nm : ByteArray) (w : World) (hB : w.heap[B]? = some (.cells #[.string nm] 9 (0, 0))) :
    Calls Try.prog 117 #[.agg f.cells, .pointer (some ⟨B, 0, none⟩)] w fun e w' => e = .returned (.bool (f.s.nm == nm)) ∧ Below w.heap.size w w' := by
  have q : w.cell? ⟨B, 0, none⟩ = some (.string nm) := by rw [cell_of_row _ _ _ _ _ _ hB]; rfl
  have hBl := (Array.getElem?_eq_some_iff.1 hB).1
  have HE : Hid ((f.s.nm.toList == nm.toList) = (f.s.nm == nm)) := (beq_toListBytes _ _).symm
  simp only [St.cells, Stc.cells]
  clear hB
  go_enter Try.func117, Try.ntmps117
  go_wp2
  go_ret
  rw [← HE.out]
  exact ⟨rfl, (Below.refl _ _).alloc (Nat.le_refl _) _⟩

set_option maxRecDepth 100000 in
set_option maxHeartbeats 1000000 in
theorem ixSt_calls (w : World) (ao : Option Addr) (xs : List St) (c B : Nat) (nm : ByteArray) (hn : xs.length ≤ maxLen) (h : RowOf St.cells 4 w w.heap.size ao xs) (hB : w.heap[B]? = some (.cells #[.string nm] 9 (0, 0))) :
    Calls Try.prog 116 #[.slice ao xs.length c, .func (.func 117) #[] #[.pointer (some ⟨B, 0, none⟩)]] w fun e w' => e = .returned (.int .i64 (ixOf (fun f => f.s.nm == nm) xs)) ∧ Below w.heap.size w w' := by
  have H := Lib.hid h
  have HBB := Lib.hid hB
  unfold maxLen at hn
  have hBl := (Array.getElem?_eq_some_iff.1 hB).1
  clear h hB
  go_enter Try.func116, Try.ntmps116
  go_wp2_with fail
  go_loopw [8] (fun k wr => ∃ j : Nat, j ≤ xs.length ∧ k = .int .i64 (j : Int) ∧ (∀ f ∈ xs.take j, (f.s.nm == nm) = false) ∧ Below w.heap.size w wr) (fun k _ => xs.length - (intOf k).toNat)
  case atStart => exact ⟨0, Nat.zero_le _, rfl, by simp, Below.refl _ _⟩
  case round =>
    obtain ⟨j, hj, rfl, hz, hb⟩ := hrel
    by_cases hjl : j < xs.length
    · obtain ⟨f, hy⟩ : ∃ y, xs[j]? = some y := ⟨_, List.getElem?_eq_getElem hjl⟩
      obtain ⟨g1, off, rfl, hg1, q1⟩ := (H.out.grow hb) (by intro e; rw [e] at hjl; simp at hjl)
      have HCA : Hid (∀ k u, f.cells.toList[k]? = some u → wr.cell? ((⟨g1, off + j * 4, none⟩ : Addr).add k) = some u) := fun k u hu => by rw [Addr.add_lit]; exact q1 j f hy k u hu
      have d0 : wr.cell? ⟨g1, off + j * 4, none⟩ = some (.string f.s.nm) := q1 j f hy 0 _ rfl
      have hjI : (j : Int) < (xs.length : Int) := by omega
      have HC := Lib.hid (struct1_calls f B nm wr ((hb.block B hBl).trans HBB.out))
      obtain ⟨d, hd⟩ : ∃ d, (f.s.nm == nm) = d := ⟨_, rfl⟩
      rw [hd] at HC
      have HB := Lib.hid hb
      have HZ := Lib.hid hz
      have HY := Lib.hid hy
      have HD := Lib.hid hd
      clear hb hz hy hd q1
      cases d with
      | true =>
        go_wp2_with (first
          | (refine wpList_load_at rfl 84 _ rfl ⟨g1, off + j * 4, none⟩ rfl f.cells _ HCA.out Try.underlying84 rfl (by kernel_rfl) ?_)
          | (go_at_call 117; refine HC.out.mono ?_; rintro e w2 ⟨rfl, hb2⟩; have HB2 := Lib.hid hb2; clear hb2))
        go_ret
        exact ⟨by rw [ixOf_at (p := fun f : St => f.s.nm == nm) HZ.out HY.out HD.out]; rfl, HB.out.trans (HB2.out.mono HB.out.size)⟩
      | false =>
        go_wp2_with (first
          | (refine wpList_load_at rfl 84 _ rfl ⟨g1, off + j * 4, none⟩ rfl f.cells _ HCA.out Try.underlying84 rfl (by kernel_rfl) ?_)
          | (go_at_call 117; refine HC.out.mono ?_; rintro e w2 ⟨rfl, hb2⟩; have HB2 := Lib.hid hb2; clear hb2))
        go_roundw
        case rel => exact ⟨j + 1, by omega, by go_num, take_false (p := fun f : St => f.s.nm == nm) HZ.out HY.out HD.out, HB.out.trans (HB2.out.mono HB.out.size)⟩
        case measure => simp [intOf]; omega
    · have hje : j = xs.length := by omega
      subst hje
      rw [List.take_length] at hz
      have HM := Lib.hid (ixOf_none (p := fun f : St => f.s.nm == nm) hz)
      have HB := Lib.hid hb
      clear hz hb
      go_wp2
      go_ret
      exact ⟨by rw [HM.out]; rfl, HB.out⟩

set_option maxRecDepth 100000 in
set_option maxHeartbeats 1000000 in
theorem struct_calls5 (m : Mo) (nm : ByteArray) (w : World) (hn : m.ss.length ≤ maxLen) (h : RowOf St.cells 4 w w.heap.size m.sA m.ss) :
    Calls Try.prog 101 #[.agg m.cells, .string nm] w fun e w' => e = .returned (.int .i64 (m.stIx nm)) ∧ Below w.heap.size w w' := by
  obtain ⟨N, hN⟩ : ∃ N, w.heap.size = N := ⟨_, rfl⟩
  have HIX : Hid (Calls Try.prog 116 #[.slice m.sA m.ss.length m.sC, .func (.func 117) #[] #[.pointer (some ⟨N + 1, 0, none⟩)]] ((w.alloc (.cells m.cells 25)).alloc (.cells #[.string nm] 9)) fun e w' => e = .returned (.int .i64 (m.stIx nm)) ∧ Below N w w') := by
    have hb : Below w.heap.size w ((w.alloc (.cells m.cells 25)).alloc (.cells #[.string nm] 9)) := ((Below.refl _ _).alloc (Nat.le_refl _) _).alloc (by simp) _
    refine (ixSt_calls _ m.sA m.ss m.sC (N + 1) nm hn (h.grow hb) (by subst hN; exact heap_alloc2_new _ _ _)).mono ?_
    rintro e w' ⟨rfl, hb'⟩
    exact ⟨rfl, by rw [← hN]; exact hb.trans (hb'.mono hb.size)⟩
  simp only [Mo.cells] at HIX ⊢
  clear h hn
  obtain ⟨z, hz⟩ : ∃ z, m.stIx nm = z := ⟨_, rfl⟩
  rw [hz] at HIX ⊢
  clear hz
  go_enter Try.func101, Try.ntmps101
  go_wp2_with (go_at_call 116; (first | refine HIX.out.mono ?_ | (rw [hN]; refine HIX.out.mono ?_)); rintro e w2 ⟨rfl, hb2⟩; have HB2 := Lib.hid hb2; clear hb2)
  go_ret
  exact ⟨rfl, by rw [hN]; exact HB2.out⟩

end Go.Proofs.Ytlggjbopfnndbaa
