/- What a graph of calls is asked. -/
import Derived.Test.YtbbogkcfngpbbaaCaC
namespace Go.Proofs.Ytbbogkcfngpbbaa
open Go.RowKit

theorem inR_true {n : Nat} {f : Int} (h : inR n f = true) : ∃ x : Nat, f = (x : Int) ∧ x < n := by
  unfold inR at h
  have := of_decide_eq_true h
  exact ⟨f.toNat, by omega, by omega⟩
theorem inR_nat {n x : Nat} : inR n (x : Int) = decide (x < n) := by
  unfold inR; rw [decide_eq_decide]; omega

set_option maxRecDepth 100000 in
set_option maxHeartbeats 2000000 in
theorem inG_calls (w : World) (N G n DN UP ST RE GP : Nat) (gv : Value) (tag : Nat → Nat) (d u : Nat → List Nat) (s : Nat → List (Nat × Nat)) (r : Nat → List Bool) (gi : Nat → Int) (hg : GM w N G n DN UP ST RE GP gv tag d u s r gi) (hn : n ≤ 70) (f : Int) :
    Calls Try.prog 78 #[.pointer (some ⟨G, 0, none⟩), .int .i64 f] w fun e w' => e = .returned (.bool (inR n f)) ∧ w = w' := by
  obtain ⟨c0, _⟩ := hg.cells
  clear hg
  by_cases h0 : f < 0
  · have hr : Hid (inR n f = false) := by unfold Hid inR; exact decide_eq_false (by omega)
    have h1 : decide (0 ≤ f) = false := decide_eq_false (by omega)
    clear h0
    go_enter Try.func78, Try.ntmps78
    go_wp2
    go_ret
    rw [hr.out]
    exact ⟨rfl, rfl⟩
  · obtain ⟨x, rfl⟩ : ∃ x : Nat, f = (x : Int) := ⟨f.toNat, by omega⟩
    have hr : Hid (inR n (x : Int) = decide (x < n)) := inR_nat
    have h1 : decide (0 ≤ (x : Int)) = true := decide_eq_true (by omega)
    clear h0
    go_enter Try.func78, Try.ntmps78
    go_wp2
    go_ret
    rw [hr.out]
    exact ⟨by simp, rfl⟩

set_option maxRecDepth 100000 in
theorem inG_nil (w : World) (f : Int) :
    Calls Try.prog 78 #[.pointer none, .int .i64 f] w fun e w' => e = .returned (.bool false) ∧ w = w' := by
  go_enter Try.func78, Try.ntmps78
  go_wp2
  go_ret
  exact ⟨rfl, rfl⟩

/-- Behind a function that makes a row of numbers. -/
def GivesN (w : World) (xs : List Nat) (e : Ending) (w' : World) : Prop :=
  ∃ v, e = .returned v ∧ w'.ownsRow w.heap.size 3 1 v xs.length (xs.flatMap encN) ∧ Below w.heap.size w w'
def GivesS (w : World) (xs : List (Nat × Nat)) (e : Ending) (w' : World) : Prop :=
  ∃ v, e = .returned v ∧ w'.ownsRow w.heap.size 117 2 v xs.length (xs.flatMap encP) ∧ Below w.heap.size w w'

set_option maxRecDepth 100000 in
set_option maxHeartbeats 2000000 in
theorem callees_calls (w : World) (N G n DN UP ST RE GP : Nat) (gv : Value) (tag : Nat → Nat) (d u : Nat → List Nat) (s : Nat → List (Nat × Nat)) (r : Nat → List Bool) (gi : Nat → Int) (hg : GM w N G n DN UP ST RE GP gv tag d u s r gi) (hn : n ≤ 70) (hl : ∀ x, x < n → (d x).length ≤ 90000) (f : Int) :
    Calls Try.prog 43 #[.pointer (some ⟨G, 0, none⟩), .int .i64 f] w (GivesN w (if inR n f = true then d f.toNat else [])) := by
  have HI := Lib.hid (inG_calls w N G n DN UP ST RE GP gv tag d u s r gi hg hn f)
  obtain ⟨c0, _⟩ := hg.cells
  by_cases hr : inR n f = true
  · rw [if_pos hr]
    rw [hr] at HI
    obtain ⟨x, rfl, hx⟩ := inR_true hr
    rw [Int.toNat_natCast]
    obtain ⟨vx, cx, _, ox, _⟩ := hg.D.at_ hx
    have HCL := Lib.hid (cloneN_calls w vx (d x).length ((d x).flatMap encN) 0 ox (oneN _) (hl x hx))
    have hxI : (x : Int) < (n : Int) := by omega
    obtain ⟨aox, capx, rfl⟩ := ownsRow_slice ox
    clear hr hg hl ox
    go_enter Try.func43, Try.ntmps43
    go_wp2_with (first
      | (go_at_call 78; refine HI.out.mono ?_; rintro e w2 ⟨rfl, rfl⟩)
      | (go_at_call 79; refine HCL.out.mono ?_; rintro e w3 ⟨v3, rfl, hown3, hb3⟩; have HO3 := Lib.hid hown3; have HB3 := Lib.hid hb3; clear hown3 hb3))
    go_ret
    exact ⟨v3, rfl, HO3.out, HB3.out⟩
  · rw [if_neg hr]
    have hr' : inR n f = false := by simpa using hr
    rw [hr'] at HI
    clear hr hr' hg hl
    go_enter Try.func43, Try.ntmps43
    go_wp2_with (go_at_call 78; refine HI.out.mono ?_; rintro e w2 ⟨rfl, rfl⟩)
    go_ret
    exact ⟨_, rfl, World.ownsRow_nil _ _ _ _, Below.refl _ _⟩

set_option maxRecDepth 100000 in
theorem callees_nil (w : World) (f : Int) : Calls Try.prog 43 #[.pointer none, .int .i64 f] w fun e w' => e = .returned (.slice none 0 0) ∧ w = w' := by
  have HI := Lib.hid (inG_nil w f)
  go_enter Try.func43, Try.ntmps43
  go_wp2_with (go_at_call 78; refine HI.out.mono ?_; rintro e w2 ⟨rfl, rfl⟩)
  go_ret
  exact ⟨rfl, rfl⟩

set_option maxRecDepth 100000 in
set_option maxHeartbeats 2000000 in
theorem callers_calls (w : World) (N G n DN UP ST RE GP : Nat) (gv : Value) (tag : Nat → Nat) (d u : Nat → List Nat) (s : Nat → List (Nat × Nat)) (r : Nat → List Bool) (gi : Nat → Int) (hg : GM w N G n DN UP ST RE GP gv tag d u s r gi) (hn : n ≤ 70) (hl : ∀ x, x < n → (u x).length ≤ 90000) (f : Int) :
    Calls Try.prog 36 #[.pointer (some ⟨G, 0, none⟩), .int .i64 f] w (GivesN w (if inR n f = true then u f.toNat else [])) := by
  have HI := Lib.hid (inG_calls w N G n DN UP ST RE GP gv tag d u s r gi hg hn f)
  obtain ⟨_, c0, _⟩ := hg.cells
  by_cases hr : inR n f = true
  · rw [if_pos hr]
    rw [hr] at HI
    obtain ⟨x, rfl, hx⟩ := inR_true hr
    rw [Int.toNat_natCast]
    obtain ⟨vx, cx, _, ox, _⟩ := hg.U.at_ hx
    have HCL := Lib.hid (cloneN_calls w vx (u x).length ((u x).flatMap encN) 0 ox (oneN _) (hl x hx))
    have hxI : (x : Int) < (n : Int) := by omega
    obtain ⟨aox, capx, rfl⟩ := ownsRow_slice ox
    clear hr hg hl ox
    go_enter Try.func36, Try.ntmps36
    go_wp2_with (first
      | (go_at_call 78; refine HI.out.mono ?_; rintro e w2 ⟨rfl, rfl⟩)
      | (go_at_call 79; refine HCL.out.mono ?_; rintro e w3 ⟨v3, rfl, hown3, hb3⟩; have HO3 := Lib.hid hown3; have HB3 := Lib.hid hb3; clear hown3 hb3))
    go_ret
    exact ⟨v3, rfl, HO3.out, HB3.out⟩
  · rw [if_neg hr]
    have hr' : inR n f = false := by simpa using hr
    rw [hr'] at HI
    clear hr hr' hg hl
    go_enter Try.func36, Try.ntmps36
    go_wp2_with (go_at_call 78; refine HI.out.mono ?_; rintro e w2 ⟨rfl, rfl⟩)
    go_ret
    exact ⟨_, rfl, World.ownsRow_nil _ _ _ _, Below.refl _ _⟩

set_option maxRecDepth 100000 in
theorem callers_nil (w : World) (f : Int) : Calls Try.prog 36 #[.pointer none, .int .i64 f] w fun e w' => e = .returned (.slice none 0 0) ∧ w = w' := by
  have HI := Lib.hid (inG_nil w f)
  go_enter Try.func36, Try.ntmps36
  go_wp2_with (go_at_call 78; refine HI.out.mono ?_; rintro e w2 ⟨rfl, rfl⟩)
  go_ret
  exact ⟨rfl, rfl⟩

set_option maxRecDepth 100000 in
set_option maxHeartbeats 2000000 in
theorem sites_calls (w : World) (N G n DN UP ST RE GP : Nat) (gv : Value) (tag : Nat → Nat) (d u : Nat → List Nat) (s : Nat → List (Nat × Nat)) (r : Nat → List Bool) (gi : Nat → Int) (hg : GM w N G n DN UP ST RE GP gv tag d u s r gi) (hn : n ≤ 70) (hl : ∀ x, x < n → (s x).length ≤ 90000) (f : Int) :
    Calls Try.prog 47 #[.pointer (some ⟨G, 0, none⟩), .int .i64 f] w (GivesS w (if inR n f = true then s f.toNat else [])) := by
  have HI := Lib.hid (inG_calls w N G n DN UP ST RE GP gv tag d u s r gi hg hn f)
  obtain ⟨_, _, c0, _⟩ := hg.cells
  by_cases hr : inR n f = true
  · rw [if_pos hr]
    rw [hr] at HI
    obtain ⟨x, rfl, hx⟩ := inR_true hr
    rw [Int.toNat_natCast]
    obtain ⟨vx, cx, _, ox, _⟩ := hg.S.at_ hx
    have HCL := Lib.hid (cloneP_calls w vx (s x).length ((s x).flatMap encP) 0 ox (oneP _) (hl x hx))
    have hxI : (x : Int) < (n : Int) := by omega
    obtain ⟨aox, capx, rfl⟩ := ownsRow_slice ox
    clear hr hg hl ox
    go_enter Try.func47, Try.ntmps47
    go_wp2_with (first
      | (go_at_call 78; refine HI.out.mono ?_; rintro e w2 ⟨rfl, rfl⟩)
      | (go_at_call 84; refine HCL.out.mono ?_; rintro e w3 ⟨v3, rfl, hown3, hb3⟩; have HO3 := Lib.hid hown3; have HB3 := Lib.hid hb3; clear hown3 hb3))
    go_ret
    exact ⟨v3, rfl, HO3.out, HB3.out⟩
  · rw [if_neg hr]
    have hr' : inR n f = false := by simpa using hr
    rw [hr'] at HI
    clear hr hr' hg hl
    go_enter Try.func47, Try.ntmps47
    go_wp2_with (go_at_call 78; refine HI.out.mono ?_; rintro e w2 ⟨rfl, rfl⟩)
    go_ret
    exact ⟨_, rfl, World.ownsRow_nil _ _ _ _, Below.refl _ _⟩

set_option maxRecDepth 100000 in
theorem sites_nil (w : World) (f : Int) : Calls Try.prog 47 #[.pointer none, .int .i64 f] w fun e w' => e = .returned (.slice none 0 0) ∧ w = w' := by
  have HI := Lib.hid (inG_nil w f)
  go_enter Try.func47, Try.ntmps47
  go_wp2_with (go_at_call 78; refine HI.out.mono ?_; rintro e w2 ⟨rfl, rfl⟩)
  go_ret
  exact ⟨rfl, rfl⟩

set_option maxRecDepth 100000 in
set_option maxHeartbeats 2000000 in
theorem group_calls (w : World) (N G n DN UP ST RE GP : Nat) (gv : Value) (tag : Nat → Nat) (d u : Nat → List Nat) (s : Nat → List (Nat × Nat)) (r : Nat → List Bool) (gi : Nat → Int) (hg : GM w N G n DN UP ST RE GP gv tag d u s r gi) (hn : n ≤ 70) (f : Int) :
    Calls Try.prog 40 #[.pointer (some ⟨G, 0, none⟩), .int .i64 f] w fun e w' => e = .returned (.int .i64 (if inR n f = true then gi f.toNat else -1)) ∧ w = w' := by
  have HI := Lib.hid (inG_calls w N G n DN UP ST RE GP gv tag d u s r gi hg hn f)
  obtain ⟨_, _, _, _, _, c0⟩ := hg.cells
  by_cases hr : inR n f = true
  · rw [if_pos hr]
    rw [hr] at HI
    obtain ⟨x, rfl, hx⟩ := inR_true hr
    rw [Int.toNat_natCast]
    have cx : w.cell? ⟨GP, x, none⟩ = some (.int .i64 (gi x)) := by rw [cell_of_row _ _ _ _ _ _ hg.gp, numsC_get _ hx]
    have hxI : (x : Int) < (n : Int) := by omega
    clear hr hg
    go_enter Try.func40, Try.ntmps40
    go_wp2_with (go_at_call 78; refine HI.out.mono ?_; rintro e w2 ⟨rfl, rfl⟩)
    go_ret
    exact ⟨rfl, rfl⟩
  · rw [if_neg hr]
    have hr' : inR n f = false := by simpa using hr
    rw [hr'] at HI
    clear hr hr' hg
    go_enter Try.func40, Try.ntmps40
    go_wp2_with (go_at_call 78; refine HI.out.mono ?_; rintro e w2 ⟨rfl, rfl⟩)
    go_ret
    exact ⟨rfl, rfl⟩

set_option maxRecDepth 100000 in
theorem group_nil (w : World) (f : Int) : Calls Try.prog 40 #[.pointer none, .int .i64 f] w fun e w' => e = .returned (.int .i64 (-1)) ∧ w = w' := by
  have HI := Lib.hid (inG_nil w f)
  go_enter Try.func40, Try.ntmps40
  go_wp2_with (go_at_call 78; refine HI.out.mono ?_; rintro e w2 ⟨rfl, rfl⟩)
  go_ret
  exact ⟨rfl, rfl⟩

set_option maxRecDepth 100000 in
set_option maxHeartbeats 2000000 in
theorem reaches_calls (w : World) (N G n DN UP ST RE GP : Nat) (gv : Value) (tag : Nat → Nat) (d u : Nat → List Nat) (s : Nat → List (Nat × Nat)) (rb : Nat → Nat → Bool) (gi : Nat → Int) (hg : GM w N G n DN UP ST RE GP gv tag d u s (fun f => (List.range n).map (rb f)) gi) (hn : n ≤ 70) (f h : Int) :
    Calls Try.prog 35 #[.pointer (some ⟨G, 0, none⟩), .int .i64 f, .int .i64 h] w fun e w' => e = .returned (.bool (inR n f && (inR n h && rb f.toNat h.toNat))) ∧ w = w' := by
  have HI := Lib.hid (inG_calls w N G n DN UP ST RE GP gv tag d u s _ gi hg hn f)
  have HJ := Lib.hid (inG_calls w N G n DN UP ST RE GP gv tag d u s _ gi hg hn h)
  obtain ⟨_, _, _, c0, _⟩ := hg.cells
  by_cases hr : inR n f = true
  · rw [hr] at HI ⊢
    obtain ⟨x, rfl, hx⟩ := inR_true hr
    obtain ⟨vx, cx, _, ox, _⟩ := hg.R.at_ hx
    have hxI : (x : Int) < (n : Int) := by omega
    obtain ⟨aox, capx, rfl⟩ := ownsRow_slice ox
    have hlr : ((List.range n).map (rb x)).length = n := by simp
    rw [hlr] at cx ox
    clear hr hg
    by_cases hs : inR n h = true
    · rw [hs] at HJ ⊢
      obtain ⟨y, rfl, hy⟩ := inR_true hs
      obtain ⟨gx, rfl, _, cy⟩ := ownsRow_get ox (j := y) (u := .bool (rb x y)) (by rw [encB_flat]; simp [hy])
      have hyI : (y : Int) < (n : Int) := by omega
      simp only [Int.toNat_natCast, Bool.true_and]
      clear hs ox hlr
      go_enter Try.func35, Try.ntmps35
      go_wp2_with fail
      go_at_call 78
      refine HI.out.mono ?_
      rintro e w2 ⟨rfl, rfl⟩
      go_wp2_with fail
      go_at_call 78
      refine HJ.out.mono ?_
      rintro e w2 ⟨rfl, rfl⟩
      go_wp2
      go_ret
      exact ⟨rfl, rfl⟩
    · have hs' : inR n h = false := by simpa using hs
      rw [hs'] at HJ ⊢
      clear hs ox hlr hs'
      go_enter Try.func35, Try.ntmps35
      go_wp2_with fail
      go_at_call 78
      refine HI.out.mono ?_
      rintro e w2 ⟨rfl, rfl⟩
      go_wp2_with fail
      go_at_call 78
      refine HJ.out.mono ?_
      rintro e w2 ⟨rfl, rfl⟩
      go_wp2
      go_ret
      exact ⟨rfl, rfl⟩
  · have hr' : inR n f = false := by simpa using hr
    rw [hr'] at HI ⊢
    clear hr hr' hg
    go_enter Try.func35, Try.ntmps35
    go_wp2_with fail
    go_at_call 78
    refine HI.out.mono ?_
    rintro e w2 ⟨rfl, rfl⟩
    go_wp2
    go_ret
    exact ⟨rfl, rfl⟩

set_option maxRecDepth 100000 in
theorem reaches_nil (w : World) (f h : Int) : Calls Try.prog 35 #[.pointer none, .int .i64 f, .int .i64 h] w fun e w' => e = .returned (.bool false) ∧ w = w' := by
  have HI := Lib.hid (inG_nil w f)
  go_enter Try.func35, Try.ntmps35
  go_wp2_with fail
  go_at_call 78
  refine HI.out.mono ?_
  rintro e w2 ⟨rfl, rfl⟩
  go_wp2
  go_ret
  exact ⟨rfl, rfl⟩

set_option maxRecDepth 100000 in
theorem recursive_calls (w : World) (p : Value) (f : Int) (b : Bool) (h : Calls Try.prog 35 #[p, .int .i64 f, .int .i64 f] w fun e w' => e = .returned (.bool b) ∧ w = w') :
    Calls Try.prog 49 #[p, .int .i64 f] w fun e w' => e = .returned (.bool b) ∧ w = w' := by
  have H := Lib.hid h
  clear h
  go_enter Try.func49, Try.ntmps49
  go_wp2_with (go_at_call 35; refine H.out.mono ?_; rintro e w2 ⟨rfl, rfl⟩)
  go_ret
  exact ⟨rfl, rfl⟩
end Go.Proofs.Ytbbogkcfngpbbaa
