/- FlowReaches, at any short code: true. -/
import Derived.Test.YtpbkkajgcdahcaaLight8
import Derived.Deep.RegionHeld3
namespace Go.Proofs.Ytpbkkajgcdahcaa
open Go.RowKit

/-! ### What is walked, in plain words -/

theorem behAdd_fold (ins : List Ins) (at_ : Nat) (i : Nat) : ∀ (ys : List Nat) (rows : Nat → List Nat), (ys.foldl (behAdd at_) rows i).length ≤ (rows i).length + ys.length
  | [], _ => by simp
  | y :: r, rows => by
    have h := behAdd_fold ins at_ i r (behAdd at_ rows y)
    have h2 : (behAdd at_ rows y i).length ≤ (rows i).length + 1 := by unfold behAdd; split <;> simp_all
    simp only [List.foldl_cons, List.length_cons]; omega

theorem behindOf_len (ins : List Ins) (i : Nat) : (behindOf ins i).length ≤ 2 * ins.length := by
  have key : ∀ n, (((List.range n).foldl (behStep ins) (fun _ => [])) i).length ≤ 2 * n := by
    intro n
    induction n with
    | zero => simp
    | succ n ih =>
      rw [List.range_succ, List.foldl_append]
      simp only [List.foldl_cons, List.foldl_nil]
      have h := behAdd_fold ins n i (nextN ins n) ((List.range n).foldl (behStep ins) (fun _ => []))
      have h2 := nextN_length ins n
      have e : ∀ X, behStep ins X n i = (nextN ins n).foldl (behAdd n) X i := fun _ => rfl
      rw [e]
      omega
  exact key ins.length

/-- What a walk from the first instruction meets and leaves, and what the broad walk has. -/
structure Plan (ins : List Ins) (M L T : List Nat) : Prop where
  from_ : FromL ins 0 M
  order : OrderL ins L
  t0 : ins = [] → T = []
  t1 : ins ≠ [] → bfs (nextN ins) (ins.length + 1) [0] 0 = some T
  lt : ∀ x ∈ M, x < ins.length
  nodup : M.Nodup
  perm : L.Perm M
  same : ∀ x, x ∈ M ↔ x ∈ T
  lm : M.length ≤ ins.length
  lt_ : T.length ≤ ins.length
  leads : ins ≠ [] → ∀ x, x ∈ M ↔ Leads (nextN ins) 0 x

theorem plan_of (ins : List Ins) (hn : ins.length ≤ 90000) : ∃ M L T, Plan ins M L T := by
  by_cases h0 : ins = []
  · refine ⟨[], [], [], ⟨fun h => ?_, fun _ => rfl⟩, ⟨fun _ => rfl, fun h => absurd h0 h⟩, fun _ => rfl, fun h => absurd h0 h, by simp, by simp, List.Perm.refl _, by simp, by simp, by simp, fun h => absurd h0 h⟩
    rw [h0] at h; simp [inR] at h
  · have hpos : 0 < ins.length := List.length_pos_iff.2 h0
    obtain ⟨k, M, L, h1, h2, h3, h4, h5, h6⟩ := wlk_from (succ := nextN ins) (a := 0) (n := ins.length) (fun x y h => nextN_lt h) (nextN_length ins) hpos
    obtain ⟨T, t1, t2, t3, t4⟩ := bfs_from (succ := nextN ins) (a := 0) (n := ins.length) (fun x y h => nextN_lt h) hpos
    refine ⟨M, L, T, ⟨fun _ => ⟨k, 0, L, rfl, h1⟩, fun h => ?_⟩, ⟨fun h => absurd h h0, fun _ => ⟨k, M, h1, by omega, by have := h4.length_eq; omega⟩⟩, fun h => absurd h h0, fun _ => t1, h3, h2, h4, fun x => (h5 x).trans (t2 x).symm, h6, t3, fun _ => h5⟩
    exact absurd h (by rw [Bool.not_eq_false]; unfold inR; exact decide_eq_true ⟨by omega, by omega⟩)

theorem RowsI.below {w w' : World} {R n base : Nat} {A : Nat → Prop} {rows : Nat → List Nat} (h : RowsI w R n base A rows) (hb : Below w.heap.size w w') : RowsI w' R n base A rows :=
  h.ext (Ext.of_below_size hb) (fun _ _ _ h => h)

/-- Behind a law: true; what was there is as it was. -/
def Yes (w : World) (e : Ending) (w' : World) : Prop := e = .returned (.bool true) ∧ Below w.heap.size w w'

set_option maxRecDepth 100000 in
set_option maxHeartbeats 4000000 in
theorem reaches_calls (c : Cod) (w : World) (hin : c.inn w) : Calls Try.prog 4 #[.agg c.cells] w (Yes w) := by
  have HIN := Lib.hid hin
  clear hin
  obtain ⟨nm, par, varsA, nvars, varsC, rp, rto, rcl, fromA, nfrom, fromC, insA, insC, ins⟩ := c
  simp only [Cod.cells]
  obtain ⟨N, hN⟩ : ∃ N, w.heap.size = N := ⟨_, rfl⟩
  obtain ⟨W1, hW1⟩ : ∃ W1, w.alloc (.cells #[.string nm, .int .i64 par, .slice varsA nvars varsC, .bool rp, .string rto, .int .i64 rcl, .slice fromA nfrom fromC, .slice insA ins.length insC] 30) = W1 := ⟨_, rfl⟩
  have hb1 : Below w.heap.size w W1 := by rw [← hW1]; exact (Below.refl _ _).alloc (Nat.le_refl _) _
  have hsz : W1.heap.size = N + 1 := by rw [← hW1]; simp [hN]
  have hrow : W1.heap[N]? = some (.cells #[.string nm, .int .i64 par, .slice varsA nvars varsC, .bool rp, .string rto, .int .i64 rcl, .slice fromA nfrom fromC, .slice insA ins.length insC] 30 (0, 0)) := by
    rw [← hW1, ← hN]; exact alloc_at _ _
  have hin1 := HIN.out.below hb1
  have HK : Hid (∀ W, Below (N + 1) W1 W → Cod.inn W ⟨nm, par, varsA, nvars, varsC, rp, rto, rcl, fromA, nfrom, fromC, insA, insC, ins⟩) := fun W hb => hin1.below (by rw [hsz]; exact hb)
  have HS : Hid (∀ W W', Below (N + 1) W1 W → Below W.heap.size W W' → W'.cell? ⟨N, 0, none⟩ = some (.string nm) ∧ W'.cell? ⟨N, 1, none⟩ = some (.int .i64 par) ∧ W'.cell? ⟨N, 2, none⟩ = some (.slice varsA nvars varsC) ∧ W'.cell? ⟨N, 3, none⟩ = some (.bool rp) ∧ W'.cell? ⟨N, 4, none⟩ = some (.string rto) ∧ W'.cell? ⟨N, 5, none⟩ = some (.int .i64 rcl) ∧ W'.cell? ⟨N, 6, none⟩ = some (.slice fromA nfrom fromC) ∧ W'.cell? ⟨N, 7, none⟩ = some (.slice insA ins.length insC) ∧ Below (N + 1) W1 W') := by
    intro W W' h1 h2
    have h3 : Below (N + 1) W1 W' := h1.trans (h2.mono (by have := h1.size; omega))
    have h4 := (h3.block N (by omega)).trans hrow
    refine ⟨?_, ?_, ?_, ?_, ?_, ?_, ?_, ?_, h3⟩ <;> (rw [cell_of_row _ _ _ _ _ _ h4]; rfl)
  have HL : Hid (∀ W, Below (N + 1) W1 W → Calls Try.prog 14 #[.agg #[.string nm, .int .i64 par, .slice varsA nvars varsC, .bool rp, .string rto, .int .i64 rcl, .slice fromA nfrom fromC, .slice insA ins.length insC]] W (SaysIf W W.heap.size (Cod.short ⟨nm, par, varsA, nvars, varsC, rp, rto, rcl, fromA, nfrom, fromC, insA, insC, ins⟩))) :=
    fun W hb => light8_calls _ W (HK.out W hb)
  have HB1 : Hid (∀ W, Below (N + 1) W1 W → Below N w W) := fun W hb => by have := hb1; rw [hN] at this; exact this.trans (hb.mono (by omega))
  have HW1 := Lib.hid hW1
  have hs1 : N + 1 ≤ W1.heap.size := by omega
  clear hb1 hsz hrow hin1 hW1 HIN
  go_enter Try.func4, Try.ntmps4
  go_wp2_with fail
  go_at_call 14
  rw [HW1.out]
  refine (HL.out W1 (Below.refl _ _)).mono ?_
  rintro e w2 ⟨b, rfl, hb, hbw⟩
  have HBB := Lib.hid hb
  obtain ⟨k0, k1, k2, k3, k4, k5, k6, k7, hb2⟩ := HS.out W1 w2 (Below.refl _ _) hbw
  have HB2 := Lib.hid hb2
  clear hb hbw hb2
  cases b with
  | false =>
    go_wp2_with fail
    go_at_call 15
    refine (alive_calls _).mono ?_
    rintro e w3 ⟨rfl, hb3⟩
    have HB3 := Lib.hid (HB1.out w3 (HB2.out.trans (hb3.mono (by have := HB2.out.size; omega))))
    clear hb3
    go_wp2
    go_ret
    exact ⟨rfl, by first | exact HB3.out | (rw [hN]; exact HB3.out)⟩
  | true =>
    have hsh : ins.length ≤ 150 := (HBB.out rfl).1
    obtain ⟨M, L, T, hp⟩ := plan_of ins (by omega)
    have HP := Lib.hid hp
    have hpm : ∀ x, x < ins.length → (x ∈ M ↔ x ∈ T) := fun x _ => hp.same x
    have hlM := hp.lm
    have hlT := hp.lt_
    have HR : Hid (∀ W, Below (N + 1) W1 W → Calls Try.prog 17 #[.agg #[.string nm, .int .i64 par, .slice varsA nvars varsC, .bool rp, .string rto, .int .i64 rcl, .slice fromA nfrom fromC, .slice insA ins.length insC]] W (Truthed W ins.length M)) :=
      fun W hb => reach_calls ⟨nm, par, varsA, nvars, varsC, rp, rto, rcl, fromA, nfrom, fromC, insA, insC, ins⟩ W M (HK.out W hb).row (by show ins.length ≤ 90000; omega) hp.from_ (by omega)
    have HRR : Hid (∀ W, Below (N + 1) W1 W → Calls Try.prog 22 #[.agg #[.string nm, .int .i64 par, .slice varsA nvars varsC, .bool rp, .string rto, .int .i64 rcl, .slice fromA nfrom fromC, .slice insA ins.length insC]] W (Truthed W ins.length T)) :=
      fun W hb => rreach_calls ⟨nm, par, varsA, nvars, varsC, rp, rto, rcl, fromA, nfrom, fromC, insA, insC, ins⟩ W T (HK.out W hb).row (by show ins.length ≤ 90000; omega) (by omega) ⟨hp.t0, hp.t1⟩
    have HBE : Hid (∀ W, Below (N + 1) W1 W → Calls Try.prog 24 #[.agg #[.string nm, .int .i64 par, .slice varsA nvars varsC, .bool rp, .string rto, .int .i64 rcl, .slice fromA nfrom fromC, .slice insA ins.length insC]] W (GivesR W ins.length (behindOf ins))) :=
      fun W hb => behind_calls ⟨nm, par, varsA, nvars, varsC, rp, rto, rcl, fromA, nfrom, fromC, insA, insC, ins⟩ W (HK.out W hb).row (by show ins.length ≤ 90000; omega)
    have HRB : Hid (∀ W, Below (N + 1) W1 W → Calls Try.prog 25 #[.agg #[.string nm, .int .i64 par, .slice varsA nvars varsC, .bool rp, .string rto, .int .i64 rcl, .slice fromA nfrom fromC, .slice insA ins.length insC]] W (GivesR W ins.length (behindOf ins))) :=
      fun W hb => rbehind_calls ⟨nm, par, varsA, nvars, varsC, rp, rto, rcl, fromA, nfrom, fromC, insA, insC, ins⟩ W (HK.out W hb).row (by show ins.length ≤ 90000; omega)
    have HTR : Hid (∀ (W : World) b1 b2, W.heap[b1]? = some (.cells (seenCells ins.length M) 4 (0, 0)) → W.heap[b2]? = some (.cells (seenCells ins.length T) 4 (0, 0)) → Calls Try.prog 21 #[.slice (some ⟨b1, 0, none⟩) ins.length ins.length, .slice (some ⟨b2, 0, none⟩) ins.length ins.length] W (Yes W)) :=
      fun W b1 b2 h1 h2 => truths_calls W b1 b2 ins.length M T (by omega) h1 h2 hpm
    have HLI : Hid (∀ (W : World) R1 R2 p1 p2, RowsI W R1 ins.length p1 (fun _ => False) (behindOf ins) → RowsI W R2 ins.length p2 (fun _ => False) (behindOf ins) → Calls Try.prog 23 #[.slice (some ⟨R1, 0, none⟩) ins.length ins.length, .slice (some ⟨R2, 0, none⟩) ins.length ins.length] W (Yes W)) :=
      fun W R1 R2 p1 p2 h1 h2 => (lists_calls W R1 R2 ins.length p1 p2 _ _ (behindOf ins) (by omega) (fun i => by have := behindOf_len ins i; omega) h1 h2).mono fun _ _ ⟨he, m, hm⟩ => ⟨he, by rw [hm]; exact below_drewN (Below.refl _ _) m⟩
    clear hp hpm hlM hlT
    go_wp2_with fail
    go_region_held3 (fun w' => w'.cell? ⟨N, 0, none⟩ = some (.string nm) ∧ w'.cell? ⟨N, 1, none⟩ = some (.int .i64 par) ∧ w'.cell? ⟨N, 2, none⟩ = some (.slice varsA nvars varsC) ∧ w'.cell? ⟨N, 3, none⟩ = some (.bool rp) ∧ w'.cell? ⟨N, 4, none⟩ = some (.string rto) ∧ w'.cell? ⟨N, 5, none⟩ = some (.int .i64 rcl) ∧ w'.cell? ⟨N, 6, none⟩ = some (.slice fromA nfrom fromC) ∧ w'.cell? ⟨N, 7, none⟩ = some (.slice insA ins.length insC) ∧ Below (N + 1) W1 w')
      (first | (exact hS) | (exact ⟨k0, k1, k2, k3, k4, k5, k6, k7, below_drewN HB2.out 1⟩))
      (first
        | (go_at_call 17; refine (HR.out _ (by go_split_ands; assumption)).mono ?_; rintro e w3 ⟨b1, rfl, hb1, hrow1, hbel1⟩; have hS := HS.out _ _ (by go_split_ands; assumption) hbel1)
        | (go_at_call 22; refine (HRR.out _ (by go_split_ands; assumption)).mono ?_; rintro e w4 ⟨b2, rfl, hb2, hrow2, hbel2⟩; have hS := HS.out _ _ (by go_split_ands; assumption) hbel2)
        | (go_at_call 21; refine (HTR.out _ _ _ ((hbel2.block _ (Array.getElem?_eq_some_iff.1 hrow1).1).trans hrow1) hrow2).mono ?_; rintro e w5 ⟨rfl, hbel5⟩; have hS := HS.out _ _ (by go_split_ands; assumption) hbel5)
        | (go_at_call 24; refine (HBE.out _ (by go_split_ands; assumption)).mono ?_; rintro e w6 ⟨R1, rfl, hR1, hrows1, hbel6⟩; have hS := HS.out _ _ (by go_split_ands; assumption) hbel6)
        | (go_at_call 25; refine (HRB.out _ (by go_split_ands; assumption)).mono ?_; rintro e w7 ⟨R2, rfl, hR2, hrows2, hbel7⟩; have hS := HS.out _ _ (by go_split_ands; assumption) hbel7)
        | (go_at_call 23; refine (HLI.out _ _ _ _ _ (hrows1.below hbel7) hrows2).mono ?_; rintro e w8 ⟨rfl, hbel8⟩; have hS := HS.out _ _ (by go_split_ands; assumption) hbel8)
        | (go_at_call 15; refine (alive_calls _).mono ?_; rintro e w9 ⟨rfl, hbel9⟩; have hS := HS.out _ _ (by go_split_ands; assumption) hbel9))
    obtain ⟨_, _, _, _, _, _, _, _, hbe⟩ := hS
    have HBE2 := Lib.hid (HB1.out _ hbe)
    clear hbe hbel1 hbel2 hbel5 hbel6 hbel7 hbel8 hbel9 hrow1 hrow2 hrows1 hrows2
    go_wp2
    go_ret
    exact ⟨rfl, by first | exact HBE2.out | (rw [hN]; exact HBE2.out)⟩
end Go.Proofs.Ytpbkkajgcdahcaa
