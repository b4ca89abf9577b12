import Derived.Test.YtlggjbopfnndbaaG24
import Derived.Test.YtlggjbopfnndbaaG08
import Derived.Test.YtlggjbopfnndbaaProg
import Derived.Room.Shelf.Join48
import Derived.Test.YtlggjbopfnndbaaG15
namespace Go.Proofs.Ytlggjbopfnndbaa
open Go.RowKit
def wordsL : List ByteArray := [⟨#[112, 108, 97, 105, 110]⟩, ⟨#[111, 119, 110]⟩, ⟨#[109, 117, 116]⟩, ⟨#[115, 104, 97, 114, 101]⟩]
/-- The word of a class. -/
def wordF (c : Int) : ByteArray := if c < 0 then ⟨#[]⟩ else wordsL.getD c.toNat ⟨#[]⟩
/-- A part of a signature. -/
def partF (v : Vr) (of_ : Bool) : ByteArray := if v.ptr = true then (if of_ = true then wordF v.cls ++ ⟨#[32]⟩ ++ v.tgt ++ ⟨#[32, 39, 114]⟩ else wordF v.cls ++ ⟨#[32]⟩ ++ v.tgt) else ⟨#[105, 110, 116]⟩
def wordsC : Array Value := #[.string ⟨#[112, 108, 97, 105, 110]⟩, .string ⟨#[111, 119, 110]⟩, .string ⟨#[109, 117, 116]⟩, .string ⟨#[115, 104, 97, 114, 101]⟩]
theorem words_calls (w : World) : Calls Try.prog 113 #[] w fun e w' => e = .returned (.slice (some ⟨w.heap.size, 0, none⟩) 4 4) ∧ w' = w.alloc (.cells wordsC 9) := by
 unfold wordsC
 go_enter Try.func113, Try.ntmps113
 go_wp2
 go_ret
 exact ⟨rfl, rfl⟩
set_option maxRecDepth 100000 in
theorem word_calls (c : Int) (w : World) : Calls Try.prog 93 #[.int .i64 c] w fun e w' => e = .returned (.string (wordF c)) ∧ Below w.heap.size w w' := by
 have HW := Lib.hid (words_calls w)
 obtain ⟨N, hN⟩ : ∃ N, w.heap.size = N := ⟨_, rfl⟩
 obtain ⟨W1, hW1⟩ : ∃ W1, w.alloc (.cells wordsC 9) = W1 := ⟨_, rfl⟩
 have HB : Hid (Below N w W1) := by rw [← hW1, ← hN]; exact (Below.refl _ _).alloc (Nat.le_refl _) _
 have hr : W1.heap[N]? = some (.cells wordsC 9 (0, 0)) := by rw [← hW1, ← hN]; exact alloc_at _ _
 have c0 : W1.cell? ⟨N, 0, none⟩ = some (.string ⟨#[112, 108, 97, 105, 110]⟩) := by rw [cell_of_row _ _ _ _ _ _ hr]; rfl
 have c1 : W1.cell? ⟨N, 1, none⟩ = some (.string ⟨#[111, 119, 110]⟩) := by rw [cell_of_row _ _ _ _ _ _ hr]; rfl
 have c2 : W1.cell? ⟨N, 2, none⟩ = some (.string ⟨#[109, 117, 116]⟩) := by rw [cell_of_row _ _ _ _ _ _ hr]; rfl
 have c3 : W1.cell? ⟨N, 3, none⟩ = some (.string ⟨#[115, 104, 97, 114, 101]⟩) := by rw [cell_of_row _ _ _ _ _ _ hr]; rfl
 rw [hN, hW1] at HW
 clear hr hW1
 obtain ⟨V, hV⟩ : ∃ v, wordF c = v := ⟨_, rfl⟩
 have HV : Hid (V = wordF c) := hV.symm
 rw [hV, hN]
 clear hV hN
 go_enter Try.func93, Try.ntmps93
 go_upto_region 2 with (go_at_call 113; refine HW.out.mono ?_; rintro e w2 ⟨rfl, rfl⟩)
 clear HW
 by_cases h0 : c < 0
 ·have HE : Hid (V = ⟨#[]⟩) := by unfold Hid; rw [HV.out]; unfold wordF; rw [if_pos h0]
  have e0 : decide (c < 0) = true := decide_eq_true h0
  go_wp2
  go_ret
  rw [HE.out]
  exact ⟨rfl, HB.out⟩
 have e0 : decide (c < 0) = false := decide_eq_false h0
 by_cases h4 : 4 ≤ c
 ·have HE : Hid (V = ⟨#[]⟩) := by
   unfold Hid; rw [HV.out]; unfold wordF
   rw [if_neg h0, List.getD_eq_getElem?_getD, List.getElem?_eq_none (by show 4 ≤ _; omega)]; rfl
  have e4 : decide (4 ≤ c) = true := decide_eq_true h4
  go_wp2
  go_ret
  rw [HE.out]
  exact ⟨rfl, HB.out⟩
 have hc : c = 0 ∨ c = 1 ∨ c = 2 ∨ c = 3 := by omega
 clear h0 h4 e0
 rcases hc with rfl | rfl | rfl | rfl
 all_goals
  go_wp2
  go_ret
  rw [HV.out]
  exact ⟨rfl, HB.out⟩
end Go.Proofs.Ytlggjbopfnndbaa
namespace Go.Proofs.Ytlggjbopfnndbaa
open Go.RowKit
theorem wordF_size (c : Int) : (wordF c).size ≤ 5 := by
 unfold wordF
 split
 ·decide
 ·rw [List.getD_eq_getElem?_getD]
  rcases h : c.toNat with _ | _ | _ | _ | k
  all_goals first | decide | (rw [List.getElem?_eq_none (by show 4 ≤ _; omega)]; decide)
set_option maxRecDepth 100000 in
theorem part_calls (v : Vr) (of_ : Bool) (w : World) (hv : v.tgt.size ≤ 1000000000000000000) : Calls Try.prog 70 #[.agg v.cells, .bool of_] w fun e w' => e = .returned (.string (partF v of_)) ∧ Below w.heap.size w w' := by
 obtain ⟨ptr, tgt, cls⟩ := v
 have HE : Hid (partF ⟨ptr, tgt, cls⟩ of_ = if ptr = true then (if of_ = true then wordF cls ++ ⟨#[32]⟩ ++ tgt ++ ⟨#[32, 39, 114]⟩ else wordF cls ++ ⟨#[32]⟩ ++ tgt) else ⟨#[105, 110, 116]⟩) := rfl
 have hwd := wordF_size cls
 have HWD : Hid (∀ W, Calls Try.prog 93 #[.int .i64 cls] W fun e w' => e = .returned (.string (wordF cls)) ∧ Below W.heap.size W w') := fun W => word_calls cls W
 obtain ⟨WD, hWD⟩ : ∃ x, wordF cls = x := ⟨_, rfl⟩
 have hv : tgt.size ≤ 1000000000000000000 := hv
 rw [hWD] at HWD HE hwd
 have k1 : ¬ 9223372036854775807 < WD.size + 1 := by omega
 have k2 : ¬ 9223372036854775807 < WD.size + 1 + tgt.size := by omega
 have k3 : ¬ 9223372036854775807 < WD.size + 1 + tgt.size + 3 := by omega
 clear hWD
 obtain ⟨V, hV⟩ : ∃ x, partF ⟨ptr, tgt, cls⟩ of_ = x := ⟨_, rfl⟩
 rw [hV] at HE ⊢
 clear hV
 simp only [Vr.cells]
 obtain ⟨N, hN⟩ : ∃ N, w.heap.size = N := ⟨_, rfl⟩
 obtain ⟨W1, hW1⟩ : ∃ W1, w.alloc (.cells #[.bool ptr, .string tgt, .int .i64 cls] 47) = W1 := ⟨_, rfl⟩
 have q1 : W1.heap[N]? = some (.cells #[.bool ptr, .string tgt, .int .i64 cls] 47 (0, 0)) := by rw [← hW1, ← hN]; exact alloc_at _ _
 have hb1 : Below N w W1 := by rw [← hW1, ← hN]; exact (Below.refl _ _).alloc (Nat.le_refl _) _
 have hs1 : W1.heap.size = N + 1 := by rw [← hW1]; simp [hN]
 have HP : Hid (∀ W, Below W1.heap.size W1 W → W.cell? ⟨N, 0, none⟩ = some (.bool ptr) ∧ W.cell? ⟨N, 1, none⟩ = some (.string tgt) ∧ W.cell? ⟨N, 2, none⟩ = some (.int .i64 cls) ∧ Below N w W) := fun W hW => by
  have q := (hW.block N (by omega)).trans q1
  exact ⟨by rw [cell_of_row _ _ _ _ _ _ q]; rfl, by rw [cell_of_row _ _ _ _ _ _ q]; rfl, by rw [cell_of_row _ _ _ _ _ _ q]; rfl, hb1.trans (hW.mono (by omega))⟩
 have HW1 := Lib.hid hW1
 have HB1 := Lib.hid hb1
 have HN := Lib.hid hN
 obtain ⟨c0, _, _, _⟩ := HP.out W1 (Below.refl _ _)
 clear q1 hW1 hb1 hs1
 go_enter Try.func70, Try.ntmps70
 go_upto_region 1 with (fail)
 rw [HW1.out]
 clear HW1
 cases ptr with
 | false =>
  have HR : Hid (V = ⟨#[105, 110, 116]⟩) := by unfold Hid; rw [HE.out]; rfl
  go_wp2
  go_ret
  rw [HR.out]
  exact ⟨rfl, by first | exact HB1.out | (rw [HN.out]; exact HB1.out)⟩
 | true =>
  have c1 : ∀ p : BW W1, p.w.cell? ⟨N, 1, none⟩ = some (.string tgt) := fun p => (HP.out p.w p.h).2.1
  have c2 : ∀ p : BW W1, p.w.cell? ⟨N, 2, none⟩ = some (.int .i64 cls) := fun p => (HP.out p.w p.h).2.2.1
  go_wp2_with fail
  clear c0
  refine wp_region_quiet_bw (by kernel_rfl) (by kernel_rfl) ?_
  repeat (go_big_quiet_step (first | (go_at_call 93; exact bw_of (HWD.out _))))
  refine wpQuiet_nil ?_
  rintro _ ⟨p, rfl⟩
  have HBF : Hid (Below N w p.w) := (HP.out p.w p.h).2.2.2
  clear c1 c2
  cases of_ with
  | false =>
   have HR : Hid (V = WD ++ ⟨#[32]⟩ ++ tgt) := by unfold Hid; rw [HE.out]; rfl
   go_wp2
   go_ret
   rw [HR.out]
   exact ⟨rfl, by first | exact HBF.out | (rw [HN.out]; exact HBF.out)⟩
  | true =>
   have HR : Hid (V = WD ++ ⟨#[32]⟩ ++ tgt ++ ⟨#[32, 39, 114]⟩) := by unfold Hid; rw [HE.out]; rfl
   go_wp2
   go_ret
   rw [HR.out]
   exact ⟨rfl, by first | exact HBF.out | (rw [HN.out]; exact HBF.out)⟩
end Go.Proofs.Ytlggjbopfnndbaa
namespace Go.Proofs.Ytlggjbopfnndbaa
open Go.Shelf Go.Proofs
def join_ren : Go.Shelf.Ren := ⟨fun | 156 => 71 | 165 => 94 | 166 => 95 | 169 => 96 | 240 => 114 | 241 => 115 | 276 => 130 | 277 => 131 | n => n, fun | 0 => 0 | 3 => 3 | 4 => 4 | 9 => 9 | 20 => 20 | 31 => 104 | 37 => 129 | 70 => 128 | 72 => 131 | 75 => 133 | 76 => 134 | 127 => 148 | 164 => 157 | 5 => 5 | 80 => 136 | n => n, fun | n => n⟩
theorem join_lays : Go.Proofs.Lays.n156 Try.prog join_ren := {
 mixed := by kernel_rfl
 f156 := Try.func71.trans (congrArg some (by kernel_rfl))
 f165 := Try.func94.trans (congrArg some (by kernel_rfl))
 f166 := Try.func95.trans (congrArg some (by kernel_rfl))
 f169 := Try.func96.trans (congrArg some (by kernel_rfl))
 f240 := Try.func114.trans (congrArg some (by kernel_rfl))
 f241 := Try.func115.trans (congrArg some (by kernel_rfl))
 f276 := Try.func130.trans (congrArg some (by kernel_rfl))
 f277 := Try.func131.trans (congrArg some (by kernel_rfl))
 t0 := Try.underlying0
 a0 := Try.isAgg0
 z0 := Try.sizeOf0
 v0 := Try.zeroValue0
 t3 := Try.underlying3
 a3 := Try.isAgg3
 z3 := Try.sizeOf3
 v3 := Try.zeroValue3
 t4 := Try.underlying4
 a4 := Try.isAgg4
 z4 := Try.sizeOf4
 v4 := Try.zeroValue4
 t9 := Try.underlying9
 a9 := Try.isAgg9
 z9 := Try.sizeOf9
 v9 := Try.zeroValue9
 t20 := Try.underlying20
 a20 := Try.isAgg20
 z20 := Try.sizeOf20
 v20 := Try.zeroValue20
 t31 := Try.underlying104
 a31 := Try.isAgg104
 z31 := Try.sizeOf104
 v31 := Try.zeroValue104
 t37 := Try.underlying129
 a37 := Try.isAgg129
 z37 := Try.sizeOf129
 v37 := Try.zeroValue129
 t70 := Try.underlying128
 a70 := Try.isAgg128
 z70 := Try.sizeOf128
 v70 := Try.zeroValue128
 t72 := Try.underlying131
 a72 := Try.isAgg131
 z72 := Try.sizeOf131
 v72 := Try.zeroValue131
 t75 := Try.underlying133
 a75 := Try.isAgg133
 z75 := Try.sizeOf133
 v75 := Try.zeroValue133
 t76 := Try.underlying134
 a76 := Try.isAgg134
 z76 := Try.sizeOf134
 v76 := Try.zeroValue134
 t127 := Try.underlying148
 a127 := Try.isAgg148
 z127 := Try.sizeOf148
 v127 := Try.zeroValue148
 t164 := Try.underlying157
 a164 := Try.isAgg157
 z164 := Try.sizeOf157
 v164 := Try.zeroValue157 }
theorem join_extra : Go.Proofs.Builder.Extra Try.prog join_ren := {
 sizeBuilder := by kernel_rfl
 liesBuilder := by kernel_rfl
 t5 := Try.underlying5
 a5 := Try.isAgg5
 z5 := Try.sizeOf5
 v5 := Try.zeroValue5
 infoByte := by kernel_rfl
 cellsByte := by kernel_rfl
 sizeByte := by kernel_rfl
 neB5 := by decide }
open Go.RowKit in
theorem join_none (a : Option Addr) (c : Nat) (sep : ByteArray) (w : World) :
  Calls Try.prog 71 #[.slice a 0 c, .string sep] w fun e w' => e = .returned (.string ⟨#[]⟩) ∧ w' = w := Any.strings_Join_none join_lays join_extra a c sep w
open Go.RowKit in
theorem join_any (bk o c : Nat) (xs : List ByteArray) (sep : ByteArray) (w : World) (hcells : ∀ (j : Nat) x, xs[j]? = some x → w.cell? ⟨bk, o + j, none⟩ = some (.string x)) (hbk : bk < w.heap.size) (hN : xs.length ≤ 140737488355328) (hcap : xs.length ≤ c) (hlen : (Lib.join (xs.map (·.data.toList)) sep.data.toList).length ≤ 281474976710656) :
  Calls Try.prog 71 #[.slice (some ⟨bk, o, none⟩) xs.length c, .string sep] w fun e w' => e = .returned (.string ⟨(Lib.join (xs.map (·.data.toList)) sep.data.toList).toArray⟩) ∧ Below w.heap.size w w' := Any.strings_Join_48 join_lays join_extra bk o c xs sep w hcells hbk hN hcap hlen
end Go.Proofs.Ytlggjbopfnndbaa
namespace Go.Proofs.Ytlggjbopfnndbaa
open Go.RowKit
/-- Joined by ', '. -/
def joinF (xs : List ByteArray) : ByteArray := ⟨(Lib.join (xs.map (·.data.toList)) [44, 32]).toArray⟩
def zvr : Vr := ⟨false, ⟨#[]⟩, 0⟩
def partsF (g : Fn) (z : Nat → Bool) (n : Nat) : List ByteArray := (List.range n).map fun v => partF (g.vs.getD v zvr) (z v)
def Fn.sigV (g : Fn) : Vr := ⟨g.c.rp, g.c.rto, g.c.rcl⟩
/-- A signature. -/
def signF (g : Fn) (z : Nat → Bool) : ByteArray := g.c.nm ++ ⟨#[40]⟩ ++ joinF (partsF g z g.c.par.toNat) ++ ⟨#[41, 32, 45, 62, 32]⟩ ++ partF g.sigV g.lentRet
/-- Names are short. -/
structure NamesR (m : Mo) : Prop where
 fn : ∀ g ∈ m.fs, g.c.nm.size ≤ 60 ∧ g.c.rto.size ≤ 60 ∧ ∀ v ∈ g.vs, v.tgt.size ≤ 60
theorem partF_size {v : Vr} (b : Bool) (h : v.tgt.size ≤ 60) : (partF v b).size ≤ 70 := by
 have h1 := wordF_size v.cls
 unfold partF
 split
 ·split
  ·rw [ByteArray.size_append, ByteArray.size_append, ByteArray.size_append]
   have a : (ByteArray.mk #[32]).size = 1 := rfl
   have b : (ByteArray.mk #[32, 39, 114]).size = 3 := rfl
   omega
  ·rw [ByteArray.size_append, ByteArray.size_append]
   have a : (ByteArray.mk #[32]).size = 1 := rfl
   omega
 ·decide
theorem lens_le {k : Nat} : ∀ xs : List ByteArray, (∀ x ∈ xs, x.size ≤ k) → Lib.lens (xs.map (·.data.toList)) ≤ k * xs.length
 | [], _ => by simp [Lib.lens]
 | x :: r, h => by
  have ih := lens_le r fun y hy => h y (by simp [hy])
  have h0 := h x (by simp)
  simp only [Lib.lens, List.map_cons, List.sum_cons, List.length_cons] at ih ⊢
  have e : x.data.toList.length = x.size := by rw [Array.length_toList]; rfl
  rw [e, Nat.mul_add]
  omega
theorem joinF_len {k : Nat} (xs : List ByteArray) (h : ∀ x ∈ xs, x.size ≤ k) : (Lib.join (xs.map (·.data.toList)) [44, 32]).length ≤ (k + 2) * xs.length := by
 cases xs with
 | nil => simp [Lib.join_nil]
 | cons x r =>
  have h1 := lens_le (x :: r) h
  rw [List.map_cons] at h1 ⊢
  rw [Lib.join_length, List.length_map, Nat.add_mul]
  simp only [List.length_cons, List.length_nil] at h1 ⊢
  omega
theorem joinF_size {k : Nat} (xs : List ByteArray) (h : ∀ x ∈ xs, x.size ≤ k) : (joinF xs).size ≤ (k + 2) * xs.length := by
 have := joinF_len xs h
 unfold joinF
 simpa [ByteArray.size] using this
theorem joinS_calls (w : World) (base : Nat) (v : Value) (xs : List ByteArray) (h : OwnS w base v xs) (hn : xs.length ≤ 90000) (hs : ∀ x ∈ xs, x.size ≤ 70) :
  Calls Try.prog 71 #[v, .string ⟨#[44, 32]⟩] w fun e w' => e = .returned (.string (joinF xs)) ∧ Below w.heap.size w w' := by
 rcases h.2 with ⟨h1, h2⟩ | ⟨g, cap', cur, h1, h2, h3, h4, h5, h6, h7⟩
 ·have : xs = [] := List.eq_nil_of_length_eq_zero h2
  subst this
  rw [h1]
  exact (join_none none 0 ⟨#[44, 32]⟩ w).mono fun e w' ⟨he, hw⟩ => ⟨he, hw ▸ Below.refl _ _⟩
 ·rw [h1]
  have hb : g < w.heap.size := (Array.getElem?_eq_some_iff.1 h3).1
  have hl := joinF_len xs hs
  refine join_any g 0 cap' xs ⟨#[44, 32]⟩ w (fun j x hx => ?_) hb (by omega) h4 (Nat.le_trans hl (by omega))
  rw [h1] at h
  obtain ⟨g', off, e, _, hc⟩ := h.at_ (by intro e; rw [e] at hx; simp at hx)
  simp only [Option.some.injEq, Addr.mk.injEq, and_true] at e
  obtain ⟨rfl, rfl⟩ := e
  exact hc j x hx
theorem partsF_succ (g : Fn) (z : Nat → Bool) (n : Nat) : partsF g z (n + 1) = partsF g z n ++ [partF (g.vs.getD n zvr) (z n)] := by
 unfold partsF; rw [List.range_succ, List.map_append]; rfl
theorem partsF_len (g : Fn) (z : Nat → Bool) (n : Nat) : (partsF g z n).length = n := by unfold partsF; simp
theorem partsF_size {g : Fn} (z : Nat → Bool) (n : Nat) (h : ∀ v ∈ g.vs, v.tgt.size ≤ 60) : ∀ x ∈ partsF g z n, x.size ≤ 70 := by
 intro x hx
 unfold partsF at hx
 obtain ⟨v, _, rfl⟩ := List.mem_map.1 hx
 refine partF_size _ ?_
 rw [List.getD_eq_getElem?_getD]
 cases e : g.vs[v]? with
 | none => decide
 | some y => exact h y (List.mem_of_getElem? e)
end Go.Proofs.Ytlggjbopfnndbaa
