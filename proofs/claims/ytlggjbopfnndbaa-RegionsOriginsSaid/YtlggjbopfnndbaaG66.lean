import Derived.Test.YtlggjbopfnndbaaG62
import Derived.Test.YtlggjbopfnndbaaG30
import Derived.Test.YtlggjbopfnndbaaG56
import Derived.Test.YtlggjbopfnndbaaG08
import Derived.Test.YtlggjbopfnndbaaG27
import Derived.Test.YtlggjbopfnndbaaG25
import Derived.Test.YtlggjbopfnndbaaRfH0
namespace Go.Proofs.Ytlggjbopfnndbaa
open Go.RowKit
set_option maxRecDepth 100000 in
set_option maxHeartbeats 2000000 in
theorem rlist_calls (w : World) (b P : Nat) (z : Nat → Bool) (hPb : P ≤ 300) (hz : boolsOk w b P z) :
  Calls Try.prog 35 #[.slice (some ⟨b, 0, none⟩) P P] w (GivesN w ((List.range P).filter z)) := by
 obtain ⟨B0, hB0⟩ : ∃ B, w.heap.size = B := ⟨_, rfl⟩
 have HZC : Hid (∀ W, Below B0 w W → ∀ v, v < P → W.cell? ⟨b, v, none⟩ = some (.bool (z v))) := by
  intro W hW v hv
  rw [hW.cell (p := ⟨b, v, none⟩) (by show b < B0; rw [← hB0]; exact hz.lt)]
  exact hz.cell hv
 have HPOST : Hid (∀ v wr, PkI z B0 w P v wr → GivesN w ((List.range P).filter z) (.returned v) wr) := by
  rintro v wr ⟨a1, a2, a3⟩
  exact ⟨v, rfl, by rw [hB0]; exact a1, by rw [hB0]; exact a2⟩
 have HP0 : Hid (PkI z B0 w 0 (.slice none 0 0) w) := ⟨World.ownsRow_nil _ _ _ _, Below.refl _ _, by omega⟩
 clear hz hB0
 obtain ⟨i0, hi0, hi1, hi2, hi3⟩ := info_parts info_int
 go_enter Try.func35, Try.ntmps35
 go_wp2
 go_loopw [3, 4] (fun v c wr => ∃ j : Nat, j ≤ P ∧ c = .int .i64 (j : Int) ∧ PkI z B0 w j v wr) (fun _ c _ => P - (intOf c).toNat)
 case atStart => exact ⟨0, Nat.zero_le _, rfl, HP0.out⟩
 case round =>
  obtain ⟨j, hj, rfl, hpk⟩ := hrel
  by_cases hjP : j < P
  ·have hjI : (j : Int) < (P : Int) := by omega
   have HPK := Lib.hid hpk
   have c0 := HZC.out wr hpk.2.1 j hjP
   obtain ⟨ao, cap, rfl⟩ := ownsRow_slice hpk.1
   have hl := rf_len z j
   have HOW := Lib.hid hpk.1
   have hsz := hpk.2.2
   clear hpk
   cases hzj : z j with
   | true =>
    have HZ := Lib.hid hzj
    rw [hzj] at c0
    clear hzj
    go_wp2_with (at_builtin; refine wpList_append_lies _ rfl _ _ 35 rfl B0 3 i0 (.int .i64 0) 1 8 Try.underlying35 hi0 hi1 hi2 hi3 rfl (by decide) (.slice ao ((List.range j).filter z).length cap) ((List.range j).filter z).length (((List.range j).filter z).flatMap encN) rfl (ownsRow_below HOW.out ((Below.refl wr.heap.size wr).alloc (Nat.le_refl _) _)) ⟨wr.heap.size, 0, none⟩ 1 1 [.int .i64 (j : Int)] rfl rfl (cells_new _ _ _) (by simp [Value.oneCell']) (by decide) (by unfold maxLen; omega) (by omega) (by rw [World.size_alloc]; omega) _ rfl ?_; intro g5 cap5 w5 hown5 hgrow5 hat5 hlt5; have HN := Lib.hid (HPK.out.app HZ.out ((Below.refl _ _).alloc hsz _) (by rw [World.size_alloc]; omega) hown5 hgrow5); clear hown5 hgrow5 hat5 hlt5)
    go_roundw
    case rel => exact ⟨j + 1, by omega, by go_num, HN.out⟩
    case measure => simp [intOf]; omega
   | false =>
    have HN := Lib.hid (HPK.out.skip hzj)
    rw [hzj] at c0
    clear hzj
    go_wp2
    go_roundw
    case rel => exact ⟨j + 1, by omega, by go_num, HN.out⟩
    case measure => simp [intOf]; omega
  ·have hje : j = P := by omega
   subst hje
   have HF := Lib.hid (HPOST.out _ _ hpk)
   clear hpk
   go_wp2
   go_ret
   exact HF.out
end Go.Proofs.Ytlggjbopfnndbaa
namespace Go.Proofs.Ytlggjbopfnndbaa
open Go.RowKit
theorem rwords_calls (w : World) : Calls Try.prog 97 #[] w fun e w' => e = .returned (.slice (some ⟨w.heap.size, 0, none⟩) 4 4) ∧ w' = w.alloc (.cells wordsC 9) := by
 unfold wordsC
 go_enter Try.func97, Try.ntmps97
 go_wp2
 go_ret
 exact ⟨rfl, rfl⟩
theorem wordF_get {c : Int} (h0 : ¬ c < 0) (h4 : c < 4) : wordsC[c.toNat]? = some (.string (wordF c)) := by
 have hc : c = 0 ∨ c = 1 ∨ c = 2 ∨ c = 3 := by omega
 rcases hc with rfl | rfl | rfl | rfl <;> rfl
theorem wordF_none {c : Int} (h : c < 0 ∨ 4 ≤ c) : wordF c = ⟨#[]⟩ := by
 unfold wordF
 rcases h with h | h
 ·rw [if_pos h]
 ·rw [if_neg (by omega), List.getD_eq_getElem?_getD, List.getElem?_eq_none (by show 4 ≤ _; omega)]; rfl
theorem empty_app (s : ByteArray) : (⟨#[]⟩ : ByteArray) ++ s = s := by
 apply ByteArray.ext; simp [ByteArray.data_append]
set_option maxRecDepth 100000 in
set_option maxHeartbeats 4000000 in
theorem rpart_calls (v : Vr) (of_ : Bool) (w : World) (hv : v.tgt.size ≤ 1000000000000000000) : Calls Try.prog 72 #[.agg v.cells, .bool of_] w fun e w' => e = .returned (.string (partF v of_)) ∧ Below w.heap.size w w' := by
 obtain ⟨ptr, tgt, cls⟩ := v
 have hv : tgt.size ≤ 1000000000000000000 := hv
 obtain ⟨V, hV⟩ : ∃ x, partF ⟨ptr, tgt, cls⟩ of_ = x := ⟨_, rfl⟩
 have HE : Hid (V = if ptr = true then (if of_ = true then wordF cls ++ ⟨#[32]⟩ ++ tgt ++ ⟨#[32, 39, 114]⟩ else wordF cls ++ ⟨#[32]⟩ ++ tgt) else ⟨#[105, 110, 116]⟩) := hV.symm
 rw [hV]
 clear hV
 simp only [Vr.cells]
 obtain ⟨N, hN⟩ : ∃ N, w.heap.size = N := ⟨_, rfl⟩
 obtain ⟨W1, hW1⟩ : ∃ W1, w.alloc (.cells #[.bool ptr, .string tgt, .int .i64 cls] 47) = W1 := ⟨_, rfl⟩
 have q1 : W1.heap[N]? = some (.cells #[.bool ptr, .string tgt, .int .i64 cls] 47 (0, 0)) := by rw [← hW1, ← hN]; exact alloc_at _ _
 have hb1 : Below N w W1 := by rw [← hW1, ← hN]; exact (Below.refl _ _).alloc (Nat.le_refl _) _
 have hs1 : W1.heap.size = N + 1 := by rw [← hW1]; simp [hN]
 have HP : Hid (∀ W, Below W1.heap.size W1 W → W.cell? ⟨N, 0, none⟩ = some (.bool ptr) ∧ W.cell? ⟨N, 1, none⟩ = some (.string tgt) ∧ W.cell? ⟨N, 2, none⟩ = some (.int .i64 cls) ∧ Below N w W) := fun W hW => by
  have q := (hW.block N (by omega)).trans q1
  exact ⟨by rw [cell_of_row _ _ _ _ _ _ q]; rfl, by rw [cell_of_row _ _ _ _ _ _ q]; rfl, by rw [cell_of_row _ _ _ _ _ _ q]; rfl, hb1.trans (hW.mono (by omega))⟩
 have HW1 := Lib.hid hW1
 have HB1 := Lib.hid hb1
 have HN := Lib.hid hN
 obtain ⟨c0, c1, c2, _⟩ := HP.out W1 (Below.refl _ _)
 clear q1 hW1 hb1 hs1
 go_enter Try.func72, Try.ntmps72
 go_upto_region 1 with (fail)
 rw [HW1.out]
 clear HW1
 cases ptr with
 | false =>
  have HR : Hid (V = ⟨#[105, 110, 116]⟩) := by unfold Hid; rw [HE.out]; rfl
  go_wp2
  go_ret
  rw [HR.out]
  exact ⟨rfl, by first | exact HB1.out | (rw [HN.out]; exact HB1.out)⟩
 | true =>
  have HE2 : Hid (V = if of_ = true then wordF cls ++ ⟨#[32]⟩ ++ tgt ++ ⟨#[32, 39, 114]⟩ else wordF cls ++ ⟨#[32]⟩ ++ tgt) := by unfold Hid; rw [HE.out]; rfl
  clear HE
  by_cases hc : 0 ≤ cls ∧ cls < 4
  ·obtain ⟨h0, h4⟩ := hc
   have e0 : decide (0 ≤ cls) = true := decide_eq_true h0
   have e4 : decide (cls < 4) = true := decide_eq_true h4
   obtain ⟨K, rfl⟩ : ∃ K : Nat, cls = (K : Int) := ⟨cls.toNat, by omega⟩
   have hK4 : K < 4 := by omega
   have hwg := wordF_get (c := (K : Int)) (by omega) h4
   have hws := wordF_size (K : Int)
   obtain ⟨WD, hWD⟩ : ∃ x, wordF (K : Int) = x := ⟨_, rfl⟩
   rw [hWD] at HE2 hwg hws
   have HWD := Lib.hid (rwords_calls W1.drew)
   obtain ⟨N1, hN1⟩ : ∃ n, W1.drew.heap.size = n := ⟨_, rfl⟩
   obtain ⟨W2, hW2⟩ : ∃ W2, W1.drew.alloc (.cells wordsC 9) = W2 := ⟨_, rfl⟩
   have hb2 : Below W1.heap.size W1 W2 := by rw [← hW2]; exact ((Below.refl _ _).drew).alloc (Nat.le_refl _) _
   have hr2 : W2.heap[N1]? = some (.cells wordsC 9 (0, 0)) := by rw [← hW2, ← hN1]; exact alloc_at _ _
   have cq : W2.cell? ⟨N1, K, none⟩ = some (.string WD) := by rw [cell_of_row _ _ _ _ _ _ hr2]; rw [Int.toNat_natCast] at hwg; exact hwg
   rw [hN1, hW2] at HWD
   have HBW2 : Hid (Below N w W2) := (HP.out W2 hb2).2.2.2
   obtain ⟨S, hS⟩ : ∃ S : World → Prop, S = Below W1.heap.size W1 := ⟨_, rfl⟩
   have HSS : Hid (∀ w', S w' → w'.cell? ⟨N, 2, none⟩ = some (.int .i64 (K : Int)) ∧ True) := fun w' h => by rw [hS] at h; exact ⟨(HP.out w' h).2.2.1, trivial⟩
   have hS0 : S W1.drew := by rw [hS]; exact (Below.refl _ _).drew
   have hS2 : S W2 := by rw [hS]; exact hb2
   have k1 : ¬ 9223372036854775807 < WD.size + 1 := by omega
   have k2 : ¬ 9223372036854775807 < WD.size + 1 + tgt.size := by omega
   have k3 : ¬ 9223372036854775807 < WD.size + 1 + tgt.size + 3 := by omega
   have hKI : (K : Int) < 4 := h4
   clear hwg hws hWD hN1 hW2 hb2 hr2 hS h0 h4
   go_upto_region 5 with (fail)
   clear c0 c1 c2
   refine wp_region_K 8 S (by kernel_rfl) ?_
   refine wpAnyK_take (i := 1) rfl (by kernel_rfl) (by kernel_rfl) (by kernel_rfl) (by kernel_rfl) (fun _ _ _ h => h) (Or.inl ⟨by rfl, fun w hSw => by obtain ⟨s1, s2⟩ := HSS.out w hSw; go_simp; try rfl⟩) (by assumption) ?_
   try go_simp
   refine wpAnyK_take (i := 2) rfl (by kernel_rfl) (by kernel_rfl) (by kernel_rfl) (by kernel_rfl) (fun _ _ _ h => h) (Or.inl ⟨by rfl, fun w hSw => by obtain ⟨s1, s2⟩ := HSS.out w hSw; go_simp; try rfl⟩) (by assumption) ?_
   try go_simp
   refine wpAnyK_take (i := 6) rfl (by kernel_rfl) (by kernel_rfl) (by kernel_rfl) (by kernel_rfl) (fun _ _ _ h => h) (Or.inl ⟨by rfl, fun w hSw => by obtain ⟨s1, s2⟩ := HSS.out w hSw; go_simp; try rfl⟩) (by assumption) ?_
   try go_simp
   refine wpAnyK_one (i := 0) (by kernel_rfl) rfl fun K' hK => ?_
   rw [if_pos (by rfl)]
   go_simp
   go_at_call 97
   refine HWD.out.mono ?_
   rintro e w2 ⟨rfl, hw2⟩
   rw [hw2]
   refine hK _ _ (fun _ => hS2) ?_
   clear hK
   try go_simp
   refine wpAnyK_run (i := 3) (v := .pointer (some ⟨N1, K, none⟩)) (w' := W2) (by kernel_rfl) rfl (by rfl) (Or.inl (by go_simp)) (fun _ => hS2) ?_
   try go_simp
   refine wpAnyK_run (i := 4) (v := .string WD) (w' := W2) (by kernel_rfl) rfl (by rfl) (Or.inl (by go_simp)) (fun _ => hS2) ?_
   try go_simp
   refine wpAnyK_run (i := 5) (v := .string (WD ++ ⟨#[32]⟩)) (w' := W2) (by kernel_rfl) rfl (by rfl) (Or.inl (by go_simp)) (fun _ => hS2) ?_
   try go_simp
   refine wpAnyK_run (i := 7) (v := .string (WD ++ ⟨#[32]⟩ ++ tgt)) (w' := W2) (by kernel_rfl) rfl (by rfl) (Or.inl (by go_simp)) (fun _ => hS2) ?_
   try go_simp
   refine wpAnyK_run (i := 8) (v := .string (WD ++ ⟨#[32]⟩ ++ tgt)) (w' := W2) (by kernel_rfl) rfl (by rfl) (Or.inl (by go_simp)) (fun _ => hS2) ?_
   try go_simp
   refine wpAnyK_done (by kernel_rfl) ?_ _
   clear hS0 hS2 cq k1 k2
   cases of_ with
   | false =>
    have HR : Hid (V = WD ++ ⟨#[32]⟩ ++ tgt) := by unfold Hid; rw [HE2.out]; rfl
    go_wp2
    go_ret
    rw [HR.out]
    exact ⟨rfl, by first | exact HBW2.out | (rw [HN.out]; exact HBW2.out)⟩
   | true =>
    have HR : Hid (V = WD ++ ⟨#[32]⟩ ++ tgt ++ ⟨#[32, 39, 114]⟩) := by unfold Hid; rw [HE2.out]; rfl
    go_wp2
    go_ret
    rw [HR.out]
    exact ⟨rfl, by first | exact HBW2.out | (rw [HN.out]; exact HBW2.out)⟩
  ·have hc2 : cls < 0 ∨ 4 ≤ cls := by omega
   have HE3 : Hid (V = if of_ = true then ⟨#[32]⟩ ++ tgt ++ ⟨#[32, 39, 114]⟩ else ⟨#[32]⟩ ++ tgt) := by unfold Hid; rw [HE2.out, wordF_none hc2, empty_app]
   have k1 : ¬ 9223372036854775807 < 1 + tgt.size := by omega
   have k2 : ¬ 9223372036854775807 < 1 + tgt.size + 3 := by omega
   rcases hc2 with h | h
   ·have e0 : decide (0 ≤ cls) = false := decide_eq_false (by omega)
    clear h hc HE2
    cases of_ with
    | false =>
     have HR : Hid (V = ⟨#[32]⟩ ++ tgt) := by unfold Hid; rw [HE3.out]; rfl
     go_wp2
     go_ret
     rw [HR.out]
     exact ⟨rfl, by first | exact HB1.out | (rw [HN.out]; exact HB1.out)⟩
    | true =>
     have HR : Hid (V = ⟨#[32]⟩ ++ tgt ++ ⟨#[32, 39, 114]⟩) := by unfold Hid; rw [HE3.out]; rfl
     go_wp2
     go_ret
     rw [HR.out]
     exact ⟨rfl, by first | exact HB1.out | (rw [HN.out]; exact HB1.out)⟩
   ·have e0 : decide (0 ≤ cls) = true := decide_eq_true (by omega)
    have e4 : decide (cls < 4) = false := decide_eq_false (by omega)
    clear h hc HE2
    cases of_ with
    | false =>
     have HR : Hid (V = ⟨#[32]⟩ ++ tgt) := by unfold Hid; rw [HE3.out]; rfl
     go_wp2
     go_ret
     rw [HR.out]
     exact ⟨rfl, by first | exact HB1.out | (rw [HN.out]; exact HB1.out)⟩
    | true =>
     have HR : Hid (V = ⟨#[32]⟩ ++ tgt ++ ⟨#[32, 39, 114]⟩) := by unfold Hid; rw [HE3.out]; rfl
     go_wp2
     go_ret
     rw [HR.out]
     exact ⟨rfl, by first | exact HB1.out | (rw [HN.out]; exact HB1.out)⟩
end Go.Proofs.Ytlggjbopfnndbaa
namespace Go.Proofs.Ytlggjbopfnndbaa
open Go.RowKit
theorem joinF_nil : joinF [] = ⟨#[]⟩ := rfl
theorem app_empty (s : ByteArray) : s ++ (⟨#[]⟩ : ByteArray) = s := by
 apply ByteArray.ext; simp [ByteArray.data_append]
theorem joinF_one (y : ByteArray) : joinF [y] = y := by
 unfold joinF
 rw [List.map_cons, List.map_nil, Lib.join_one]
theorem joinF_snoc (x : ByteArray) (r : List ByteArray) (y : ByteArray) : joinF ((x :: r) ++ [y]) = joinF (x :: r) ++ ⟨#[44, 32]⟩ ++ y := by
 apply ByteArray.ext
 unfold joinF
 rw [List.cons_append, List.map_cons, List.map_append, List.map_cons, List.map_nil, List.map_cons, Lib.join_cons, Lib.join_cons, ByteArray.data_append, ByteArray.data_append]
 apply Array.ext'
 simp [Lib.joinTail]
/-- A signature as it grows. -/
def accF (g : Fn) (z : Nat → Bool) (j : Nat) : ByteArray := g.c.nm ++ ⟨#[40]⟩ ++ joinF (partsF g z j)
theorem accF_zero (g : Fn) (z : Nat → Bool) : accF g z 0 = g.c.nm ++ ⟨#[40]⟩ := by
 unfold accF
 rw [show partsF g z 0 = [] from rfl, joinF_nil, app_empty]
theorem app_assoc (a b c : ByteArray) : a ++ (b ++ c) = a ++ b ++ c := by
 apply ByteArray.ext; simp [ByteArray.data_append]
theorem accF_one (g : Fn) (z : Nat → Bool) (y : Vr) (h : g.vs[0]? = some y) : accF g z (0 + 1) = accF g z 0 ++ partF y (z 0) := by
 rw [accF_zero]
 unfold accF
 rw [partsF_succ, show partsF g z 0 = [] from rfl, List.nil_append, joinF_one, List.getD_eq_getElem?_getD, h]; rfl
theorem accF_succ (g : Fn) (z : Nat → Bool) (j : Nat) (y : Vr) (h : g.vs[j + 1]? = some y) : accF g z (j + 1 + 1) = accF g z (j + 1) ++ ⟨#[44, 32]⟩ ++ partF y (z (j + 1)) := by
 unfold accF
 have hne : partsF g z (j + 1) ≠ [] := by
  intro e
  have := partsF_len g z (j + 1)
  rw [e] at this; simp at this
 obtain ⟨a, r, e⟩ := List.exists_cons_of_ne_nil hne
 rw [partsF_succ g z (j + 1), e, joinF_snoc, List.getD_eq_getElem?_getD, h, app_assoc, app_assoc]; rfl
theorem accF_size {g : Fn} (z : Nat → Bool) (j : Nat) (hn : g.c.nm.size ≤ 60) (h : ∀ v ∈ g.vs, v.tgt.size ≤ 60) : (accF g z j).size ≤ 61 + 72 * j := by
 unfold accF
 rw [ByteArray.size_append, ByteArray.size_append]
 have h1 := joinF_size _ (partsF_size z j h)
 rw [partsF_len] at h1
 have h2 : (ByteArray.mk #[40]).size = 1 := rfl
 omega
section
variable {w : World} {m : Mo} {B R : Nat} {vv fv : Value} {rows : List FR} {x : Nat → Nat → Nat → Bool} {tag : Tag} {rn : Int}
set_option maxRecDepth 100000 in
set_option maxHeartbeats 8000000 in
theorem rsign19_calls (h : RqM w m B R vv fv rows x tag rn) (hok : OkR m) (hnm : NamesR m) {f : Nat} {g : Fn} (hg : m.fs[f]? = some g) :
  Calls Try.prog 37 #[.pointer (some ⟨R, 0, none⟩), .agg m.cells, .int .i64 (f : Int)] w fun e w' => e = .returned (.string (signF g (x f g.vs.length))) ∧ Below w.heap.size w w' := by
 obtain ⟨p0, p1, p2, p3⟩ := hok.fn g (List.mem_of_getElem? hg)
 obtain ⟨n1, n2, n3⟩ := hnm.fn g (List.mem_of_getElem? hg)
 obtain ⟨P, hP⟩ : ∃ P, g.c.par.toNat = P := ⟨_, rfl⟩
 have hPI : g.c.par = (P : Int) := by omega
 have hPb : P ≤ 300 := by omega
 have hPv : P ≤ g.vs.length := by omega
 have hfn : f < m.fs.length := (List.getElem?_eq_some_iff.1 hg).1
 have hfI : (f : Int) < (m.fs.length : Int) := by omega
 have hn60 := hok.nf
 obtain ⟨r, hr, hrP, hrL⟩ := h.row hg
 obtain ⟨ao2, cf, hfv⟩ := ownsRow_slice h.tab.from_
 obtain ⟨VA, FA, cv', cf', e1, e2, _, hFA, _, hkf⟩ := h.tab.fn hr
 obtain ⟨z, hz⟩ : ∃ z, x f g.vs.length = z := ⟨_, rfl⟩
 have hlf := (h.tab.leaf hr (u := r.locs.length) (Nat.le_refl _)).1
 rw [hrP, hP] at hlf hkf
 rw [hrL, hz] at hlf
 obtain ⟨b, hb⟩ : ∃ b, r.at_ g.vs.length = b := ⟨_, rfl⟩
 rw [hb] at hlf
 rw [hrL, hb] at hkf
 rw [hz]
 obtain ⟨fb, fo, hfA, hfb, hfc⟩ := h.inn.frow (by intro e; rw [e] at hfn; simp at hfn)
 have hgi := h.inn.fin g (List.mem_of_getElem? hg)
 have hnvs := hgi.nvars
 obtain ⟨N, hN⟩ : ∃ N, w.heap.size = N := ⟨_, rfl⟩
 obtain ⟨W1, hW1⟩ : ∃ W, w.alloc (.cells m.cells 25) = W := ⟨_, rfl⟩
 obtain ⟨W3, hW3⟩ : ∃ W, W1.alloc (.cells g.cells 50) = W := ⟨_, rfl⟩
 have hb1 : Below N w W1 := by rw [← hW1, ← hN]; exact (Below.refl _ _).alloc (Nat.le_refl _) _
 have hs1 : W1.heap.size = N + 1 := by rw [← hW1]; simp [hN]
 have hr1 : W1.heap[N]? = some (.cells m.cells 25 (0, 0)) := by rw [← hW1, ← hN]; exact alloc_at _ _
 have c1 : W1.cell? ⟨N, 1, none⟩ = some (.slice (some ⟨fb, fo, none⟩) m.fs.length m.fC) := by rw [cell_of_row _ _ _ _ _ _ hr1, ← hfA]; rfl
 have hb3 : Below N w W3 := by rw [← hW3]; exact hb1.alloc (by omega) _
 have hs3 : W3.heap.size = N + 1 + 1 := by rw [← hW3]; simp [hs1]
 have hr3 : W3.heap[N + 1]? = some (.cells g.cells 50 (0, 0)) := by rw [← hW3, ← hs1]; exact alloc_at _ _
 have hst : ∀ (c : Array Value), c.size = 8 → (storeCells ⟨W1.heap.size, 0, none⟩ g.cells.toList 0).run Try.prog (W1.alloc (.cells c 50)) = .ok () W3 := fun c hc => by
  rw [← hW3]
  exact run_storeCells_new (P := Try.prog) W1 50 c g.cells (by show _ = some 8; kernel_rfl) hc (fn_cells_one' g)
 rw [hs1] at hst
 have HGL : Hid (∀ k u, g.cells.toList[k]? = some u → W1.cell? ((⟨fb, fo + f * 8, none⟩ : Addr).add k) = some u) := fun k u hu => by rw [Addr.add_lit, hb1.cell (p := ⟨fb, _, none⟩) (by show fb < N; omega)]; exact hfc f g hg k u hu
 have HRC : Hid (∀ W, Below W3.heap.size W3 W → W.cell? ⟨R, 1, none⟩ = some (.slice (some ⟨FA, 0, none⟩) m.fs.length cf') ∧ W.cell? ⟨FA, f, none⟩ = some (.slice (some ⟨b, 0, none⟩) P P) ∧ (∀ n, n < P → W.cell? ⟨b, n, none⟩ = some (.bool (z n))) ∧ Below N w W) := fun W hW => by
  have hq := hb3.trans (hW.mono (by omega : N ≤ W3.heap.size))
  have hRl : R < N := by rw [← hN]; exact (Array.getElem?_eq_some_iff.1 h.rec_).1
  refine ⟨?_, ?_, fun n hn => ?_, hq⟩
  ·rw [hq.cell (p := ⟨R, 1, none⟩) hRl, cell_of_row _ _ _ _ _ _ h.rec_, e2, h.n]; rfl
  ·rw [hq.cell (p := ⟨FA, f, none⟩) (by show FA < N; omega)]; exact hkf
  ·rw [hq.cell (p := ⟨b, n, none⟩) (by show b < N; rw [← hN]; exact boolsOk.lt hlf)]; exact boolsOk.cell hlf hn
 have HCB : Hid (∀ W, Below W3.heap.size W3 W → W.heap[N + 1]? = some (.cells g.cells 50 (0, 0))) := fun W hW => (hW.block (N + 1) (by omega)).trans hr3
 have HVS : Hid (P ≠ 0 → ∃ vb vo, g.c.varsA = some ⟨vb, vo, none⟩ ∧ ∀ W, Below W3.heap.size W3 W → ∀ (k : Nat) (y : Vr), g.vs[k]? = some y → ∀ q u, y.cells.toList[q]? = some u → W.cell? ((⟨vb, vo + k * 3, none⟩ : Addr).add q) = some u) := fun h0 => by
  obtain ⟨vb, vo, hA, hb, hc⟩ := hgi.vars (by intro e; rw [e] at hPv; simp at hPv; omega)
  refine ⟨vb, vo, hA, fun W hW k y hy q u hu => ?_⟩
  have hq := hb3.trans (hW.mono (by omega : N ≤ W3.heap.size))
  rw [Addr.add_lit, hq.cell (p := ⟨vb, _, none⟩) (by show vb < N; omega)]; exact hc k y hy q u hu
 have HG : Hid (∀ v ∈ g.vs, v.tgt.size ≤ 60) := n3
 have HNM : Hid (g.c.nm.size ≤ 60) := n1
 obtain ⟨S, hS⟩ : ∃ S, signF g z = S := ⟨_, rfl⟩
 have HS : Hid (S = accF g z P ++ ⟨#[41, 32, 45, 62, 32]⟩ ++ partF g.sigV g.lentRet) := by unfold Hid; rw [← hS, ← hP]; rfl
 rw [hS]
 have HHN := Lib.hid hN
 have HPI := Lib.hid hPI
 have HNV := Lib.hid hnvs
 have HN2 := Lib.hid n2
 have HW1 := Lib.hid hW1
 have HS3 := Lib.hid hs3
 clear hlf hkf e1 e2 h hok hnm hfc hgi hr hrP hrL hr3 hb3 hS hP hnvs hg hfA hfb hFA hb hz n2 n3 hPI hW3 p0 p1 hW1 hb1 hr1 hfv hs3
 rw [hN]
 go_enter Try.func37, Try.ntmps37
 go_upto_region 1 with (fail)
 rw [HW1.out]
 clear HW1 hN
 have k0 : ¬ 9223372036854775807 < g.c.nm.size + 1 := by omega
 have e0 : decide ((f : Int) < 0) = false := decide_eq_false (by omega)
 have e1 : decide ((m.fs.length : Int) ≤ (f : Int)) = false := decide_eq_false (by omega)
 go_upto_region 4 with (refine wpList_load_at rfl 50 _ rfl ⟨fb, fo + f * 8, none⟩ rfl g.cells _ HGL.out Try.underlying50 rfl (by kernel_rfl) ?_)
 clear c1 hst HGL
 have q0 : W3.cell? ⟨N + 1, 0, none⟩ = some (.string g.c.nm) := by rw [cell_of_row _ _ _ _ _ _ (HCB.out W3 (Below.refl _ _))]; rfl
 go_wp2_with fail
 clear q0 hs1 k0
 rw [← accF_zero g z]
 go_loopw [8, 9] (fun s c wr => ∃ j : Nat, j ≤ P ∧ c = .int .i64 (j : Int) ∧ s = .string (accF g z j) ∧ Below W3.heap.size W3 wr) (fun _ c _ => P - (intOf c).toNat)
 case atStart => exact ⟨0, Nat.zero_le _, rfl, rfl, Below.refl _ _⟩
 case round =>
  obtain ⟨j, hj, rfl, rfl, hbr⟩ := hrel
  have HBR := Lib.hid hbr
  have HBQ : Hid (∀ p : BW wr, Below W3.heap.size W3 p.w) := fun p => HBR.out.trans (p.h.mono HBR.out.size)
  have p1 : wr.cell? ⟨N + 1, 1, none⟩ = some (.int .i64 (P : Int)) := by rw [cell_of_row _ _ _ _ _ _ (HCB.out wr hbr), ← HPI.out]; rfl
  have hac := accF_size z j HNM.out HG.out
  by_cases hjP : j < P
  ·obtain ⟨y, hy⟩ : ∃ y, g.vs[j]? = some y := ⟨_, List.getElem?_eq_getElem (by omega)⟩
   have hjI : (j : Int) < (P : Int) := by omega
   have hjV : (j : Int) < (g.vs.length : Int) := by omega
   obtain ⟨vb, vo, hvA, hvc⟩ := HVS.out (by omega)
   have HXV : Hid (∀ (p : BW wr) k u, y.cells.toList[k]? = some u → p.w.cell? ((⟨vb, vo + j * 3, none⟩ : Addr).add k) = some u) := fun p => hvc p.w (HBQ.out p) j y hy
   have v2 : ∀ p : BW wr, p.w.cell? ⟨N + 1, 2, none⟩ = some (.slice (some ⟨vb, vo, none⟩) g.vs.length g.c.varsC) := fun p => by
    rw [cell_of_row _ _ _ _ _ _ (HCB.out p.w (HBQ.out p)), ← hvA, ← HNV.out]; rfl
   have t1 : ∀ p : BW wr, p.w.cell? ⟨R, 1, none⟩ = some (.slice (some ⟨FA, 0, none⟩) m.fs.length cf') := fun p => (HRC.out p.w (HBQ.out p)).1
   have t2 : ∀ p : BW wr, p.w.cell? ⟨FA, f, none⟩ = some (.slice (some ⟨b, 0, none⟩) P P) := fun p => (HRC.out p.w (HBQ.out p)).2.1
   have t3 : ∀ p : BW wr, p.w.cell? ⟨b, j, none⟩ = some (.bool (z j)) := fun p => (HRC.out p.w (HBQ.out p)).2.2.1 j hjP
   have hps := partF_size (v := y) (z j) (HG.out y (List.mem_of_getElem? hy))
   have HPT : Hid (∀ p : BW wr, Calls Try.prog 72 #[.agg y.cells, .bool (z j)] p.w fun e w' => e = .returned (.string (partF y (z j))) ∧ Below p.w.heap.size p.w w') := fun p => rpart_calls y (z j) p.w (by have := HG.out y (List.mem_of_getElem? hy); omega)
   obtain ⟨PT, hPT⟩ : ∃ t, partF y (z j) = t := ⟨_, rfl⟩
   obtain ⟨zj, hzj⟩ : ∃ t, z j = t := ⟨_, rfl⟩
   obtain ⟨AC, hAC⟩ : ∃ t, accF g z j = t := ⟨_, rfl⟩
   rw [hPT] at HPT hps
   rw [hzj] at HPT t3
   rw [hAC] at hac ⊢
   cases j with
   | zero =>
    have HNX : Hid (accF g z (0 + 1) = AC ++ PT) := by unfold Hid; rw [accF_one g z y hy, hAC, hPT]
    have k1 : ¬ 9223372036854775807 < AC.size + PT.size := by omega
    clear hbr hy hvA hvc hPT hzj hAC hac hps
    go_wp2_with fail
    clear p1
    refine wp_region_quiet_bw (by kernel_rfl) (by kernel_rfl) ?_
    repeat (first
     | (go_big_quiet_want; (refine quiet_load_bw 47 _ rfl ⟨vb, vo + _ * 3, none⟩ rfl _ _ HXV.out Try.underlying47 rfl (by kernel_rfl) ?_); (simp only [Act.put, List.setIfInBounds_toArray, List.set_cons_zero, List.set_cons_succ]); go_big_quiet_on)
     | (go_big_quiet_step (first | (go_at_call 72; exact bw_of (HPT.out _)))))
    refine wpQuiet_nil ?_
    rintro _ ⟨p, rfl⟩
    clear v2 t1 t2 t3 k1
    go_wp2
    go_roundw
    case rel => exact ⟨0 + 1, by omega, by go_num, by rw [HNX.out], HBQ.out p⟩
    case measure => simp [intOf]; omega
   | succ j' =>
    have HNX : Hid (accF g z (j' + 1 + 1) = AC ++ ⟨#[44, 32]⟩ ++ PT) := by unfold Hid; rw [accF_succ g z j' y hy, hAC, hPT]
    have k1 : ¬ 9223372036854775807 < AC.size + 2 := by omega
    have k2 : ¬ 9223372036854775807 < AC.size + 2 + PT.size := by omega
    clear hbr hy hvA hvc hPT hzj hAC hac hps
    go_wp2_with fail
    clear p1
    refine wp_region_quiet_bw (by kernel_rfl) (by kernel_rfl) ?_
    repeat (first
     | (go_big_quiet_want; (refine quiet_load_bw 47 _ rfl ⟨vb, vo + _ * 3, none⟩ rfl _ _ HXV.out Try.underlying47 rfl (by kernel_rfl) ?_); (simp only [Act.put, List.setIfInBounds_toArray, List.set_cons_zero, List.set_cons_succ]); go_big_quiet_on)
     | (go_big_quiet_step (first | (go_at_call 72; exact bw_of (HPT.out _)))))
    refine wpQuiet_nil ?_
    rintro _ ⟨p, rfl⟩
    clear v2 t1 t2 t3 k1 k2
    go_wp2
    go_roundw
    case rel => exact ⟨j' + 1 + 1, by omega, by go_num, by rw [HNX.out], HBQ.out p⟩
    case measure => simp [intOf]; omega
  ·have hje : j = P := by omega
   subst hje
   have hpt := partF_size (v := g.sigV) g.lentRet HN2.out
   have HPT : Hid (∀ p : BW wr, Calls Try.prog 72 #[.agg #[.bool g.c.rp, .string g.c.rto, .int .i64 g.c.rcl], .bool g.lentRet] p.w fun e w' => e = .returned (.string (partF g.sigV g.lentRet)) ∧ Below p.w.heap.size p.w w') := fun p => rpart_calls g.sigV g.lentRet p.w (by have := HN2.out; show g.c.rto.size ≤ _; omega)
   have HLT : Hid (∀ p : BW wr, Calls Try.prog 40 #[.agg #[.bool g.c.rp, .string g.c.rto, .int .i64 g.c.rcl]] p.w fun e w' => e = .returned (.bool g.lentRet) ∧ Below p.w.heap.size p.w w') := fun p => rlent19_calls g.sigV p.w
   obtain ⟨PT, hPT⟩ : ∃ t, partF g.sigV g.lentRet = t := ⟨_, rfl⟩
   obtain ⟨AC, hAC⟩ : ∃ t, accF g z j = t := ⟨_, rfl⟩
   have HSV : Hid (S = AC ++ ⟨#[41, 32, 45, 62, 32]⟩ ++ PT) := by unfold Hid; rw [HS.out, hAC, hPT]
   rw [hPT] at HPT hpt
   rw [hAC] at hac ⊢
   obtain ⟨lr, hlr⟩ : ∃ b, g.lentRet = b := ⟨_, rfl⟩
   rw [hlr] at HPT HLT
   have HRV : Hid (∀ (p : BW wr) k u, (#[.bool g.c.rp, .string g.c.rto, .int .i64 g.c.rcl] : Array Value).toList[k]? = some u → p.w.cell? ((⟨N + 1, 3, none⟩ : Addr).add k) = some u) := fun p k u hu => by
    rw [Addr.add_lit, cell_of_row _ _ _ _ _ _ (HCB.out p.w (HBQ.out p))]
    have hk : k < 3 := (List.getElem?_eq_some_iff.1 hu).1
    rcases (by omega : k = 0 ∨ k = 1 ∨ k = 2) with rfl | rfl | rfl <;> exact hu
   have k1 : ¬ 9223372036854775807 < AC.size + 5 := by omega
   have k2 : ¬ 9223372036854775807 < AC.size + 5 + PT.size := by omega
   have HNS : Hid (∀ p : BW wr, Below N w p.w) := fun p => (HRC.out p.w (HBQ.out p)).2.2.2
   clear hbr hAC hPT hlr hac hpt
   go_wp2_with fail
   clear p1
   refine wp_region_quiet_bw (by kernel_rfl) (by kernel_rfl) ?_
   repeat (first
    | (go_big_quiet_want; (refine quiet_load_bw 47 _ rfl ⟨N + 1, 3, none⟩ rfl _ _ HRV.out Try.underlying47 rfl (by kernel_rfl) ?_); (simp only [Act.put, List.setIfInBounds_toArray, List.set_cons_zero, List.set_cons_succ]); go_big_quiet_on)
    | (go_big_quiet_step (first
     | (go_at_call 40; exact bw_of (HLT.out _))
     | (go_at_call 72; exact bw_of (HPT.out _)))))
   refine wpQuiet_nil ?_
   rintro _ ⟨p, rfl⟩
   clear k1 k2
   go_wp2
   go_ret
   rw [HSV.out]
   exact ⟨rfl, HNS.out p⟩
end
end Go.Proofs.Ytlggjbopfnndbaa
