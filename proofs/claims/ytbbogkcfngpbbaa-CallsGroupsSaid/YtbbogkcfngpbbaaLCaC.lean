/- CallsChain, at any module: true. -/
import Derived.Test.YtbbogkcfngpbbaaCaE
namespace Go.Proofs.Ytbbogkcfngpbbaa
open Go.RowKit

noncomputable def reachF (n : Nat) (dn : Nat → List Nat) (a b : Int) : Bool := inR n a && (inR n b && reachB dn a.toNat b.toNat)
theorem reachF_def (n : Nat) (dn : Nat → List Nat) (a b : Int) : (inR n a && (inR n b && reachB dn a.toNat b.toNat)) = reachF n dn a b := rfl

theorem reachF_trans {n : Nat} {dn : Nat → List Nat} {a b c : Int} (h1 : reachF n dn a b = true) (h2 : reachF n dn b c = true) : reachF n dn a c = true := by
  unfold reachF at *
  simp only [Bool.and_eq_true, reachB_iff] at *
  exact ⟨h1.1, h2.2.1, h1.2.2.trans h2.2.2⟩

theorem reachF_up {m : Mo} {g x : Nat} (hg : g < m.fs.length) (hx : x ∈ upF m g) : x < m.fs.length ∧ reachF m.fs.length (downF m) (x : Int) (g : Int) = true := by
  obtain ⟨h1, h2⟩ := mem_sel.1 hx
  refine ⟨h1, ?_⟩
  unfold reachF
  simp only [Bool.and_eq_true, reachB_iff, inR_nat, decide_eq_true_eq, Int.toNat_natCast]
  exact ⟨h1, hg, Rch.step (mem_sel.2 ⟨hg, mem_uOf.1 h2⟩)⟩

/-- The graph that a law asks: what its walks have of it. -/
structure AskG (m : Mo) (n : Nat) (w4 : World) (G : Nat) : Prop where
  reach : ∀ W, Below w4.heap.size w4 W → ∀ a b : Int, Calls Try.prog 35 #[.pointer (some ⟨G, 0, none⟩), .int .i64 a, .int .i64 b] W fun e w' => e = .returned (.bool (reachF n (downF m) a b)) ∧ W = w'
  recur : ∀ W, Below w4.heap.size w4 W → ∀ a : Int, Calls Try.prog 49 #[.pointer (some ⟨G, 0, none⟩), .int .i64 a] W fun e w' => e = .returned (.bool (reachF n (downF m) a a)) ∧ W = w'
  callees : ∀ W, Below w4.heap.size w4 W → ∀ a : Int, Calls Try.prog 43 #[.pointer (some ⟨G, 0, none⟩), .int .i64 a] W (GivesN W (if inR n a = true then downF m a.toNat else []))
  callers : ∀ W, Below w4.heap.size w4 W → ∀ a : Int, Calls Try.prog 36 #[.pointer (some ⟨G, 0, none⟩), .int .i64 a] W (GivesN W (if inR n a = true then upF m a.toNat else []))
  sites : ∀ W, Below w4.heap.size w4 W → ∀ a : Int, Calls Try.prog 47 #[.pointer (some ⟨G, 0, none⟩), .int .i64 a] W (GivesS W (if inR n a = true then sitesF m a.toNat else []))
  group : ∀ W, Below w4.heap.size w4 W → ∀ a : Int, Calls Try.prog 40 #[.pointer (some ⟨G, 0, none⟩), .int .i64 a] W fun e w' => e = .returned (.int .i64 (if inR n a = true then (groupsF m).1 a.toNat else -1)) ∧ W = w'
  groups : ∀ W, Below w4.heap.size w4 W → Calls Try.prog 39 #[.pointer (some ⟨G, 0, none⟩)] W (GivesG W (groupsF m).2)

theorem downF_lt {m : Mo} {x y : Nat} (h : y ∈ downF m x) : y < m.fs.length := (mem_sel.1 h).1
theorem downF_len (m : Mo) (x : Nat) : (downF m x).length ≤ m.fs.length := sel_len _ _
theorem upF_len (m : Mo) (x : Nat) : (upF m x).length ≤ m.fs.length := sel_len _ _

theorem grp_len (n : Nat) (T : Nat → Nat → Bool) (f : Nat) : (grp n T f).length ≤ n := rf_len _ n

theorem groupsF_inv (m : Mo) : PartI m.fs.length (downF m) (groupsF m) := partN_inv (fun _ _ h => downF_lt h) _

theorem groupsF_len (m : Mo) : (groupsF m).2.length ≤ m.fs.length := by
  have key : ∀ k, (partN m.fs.length (downF m) (reachB (downF m)) k).2.length ≤ k := by
    intro k
    induction k with
    | zero => exact Nat.le_refl _
    | succ k ih =>
      show (partS _ _ _ (partN m.fs.length (downF m) (reachB (downF m)) k)).2.length ≤ k + 1
      unfold partS
      cases pickF m.fs.length (downF m) (reachB (downF m)) (partN m.fs.length (downF m) (reachB (downF m)) k).1 with
      | none => exact Nat.le_succ_of_le ih
      | some f => simp only [List.length_append, List.length_singleton]; omega
  exact key _

theorem askG {m : Mo} {w w4 : World} {N G DN UP ST RE GP H : Nat} {gv : Value} {tag : Nat → Nat} (hof : OfIn w m)
    (hgm : GM w4 N G m.fs.length DN UP ST RE GP gv tag (downF m) (upF m) (sitesF m) (fun f => (List.range m.fs.length).map (reachB (downF m) f)) (groupsF m).1) (hgr : GrpI w4 H gv (groupsF m).2) : AskG m m.fs.length w4 G := by
  have hn := hof.nf
  have hE : (allCalls m.fs.length 0 m.fs).length ≤ 1200 := Nat.le_trans (allCalls_len _ _ _) hof.tot
  refine ⟨fun W hW a b => reaches_calls W N G _ DN UP ST RE GP gv tag _ _ _ _ _ (hgm.below hW) hn a b, fun W hW a => ?_, fun W hW a => callees_calls W N G _ DN UP ST RE GP gv tag _ _ _ _ _ (hgm.below hW) hn (fun x _ => by have := downF_len m x; omega) a,
    fun W hW a => callers_calls W N G _ DN UP ST RE GP gv tag _ _ _ _ _ (hgm.below hW) hn (fun x _ => by have := upF_len m x; omega) a,
    fun W hW a => sites_calls W N G _ DN UP ST RE GP gv tag _ _ _ _ _ (hgm.below hW) hn (fun x _ => by have := sOf_len (allCalls m.fs.length 0 m.fs) x; unfold sitesF; omega) a,
    fun W hW a => group_calls W N G _ DN UP ST RE GP gv tag _ _ _ _ _ (hgm.below hW) hn a, fun W hW => ?_⟩
  · exact recursive_calls W _ a _ (reaches_calls W N G _ DN UP ST RE GP gv tag _ _ _ _ _ (hgm.below hW) hn a a)
  · refine groups_calls W N G _ DN UP ST RE GP H gv tag _ _ _ _ _ _ (hgm.below hW) (hgr.below hW) (by have := groupsF_len m; omega) (fun l hl => ?_)
    obtain ⟨k, hk⟩ := List.mem_iff_getElem?.1 hl
    obtain ⟨⟨f, _, rfl⟩, _⟩ := (groupsF_inv m).of k l hk
    exact Nat.le_trans (grp_len _ _ _) hn

set_option maxRecDepth 100000 in
set_option maxHeartbeats 8000000 in
theorem callsChain_calls (m : Mo) (f g h : Int) (w : World) (hm : m.inn w) (_ : (Lit.int .i64 f).wf = true) (_ : (Lit.int .i64 g).wf = true) (_ : (Lit.int .i64 h).wf = true) :
    Calls Try.prog 7 #[.agg m.cells, .int .i64 f, .int .i64 g, .int .i64 h] w fun e w' => e = .returned (.bool true) ∧ Below w.heap.size w w' := by
  obtain ⟨M, hM⟩ : ∃ M, m = M := ⟨_, rfl⟩
  have HM := Lib.hid hM
  have HIN := Lib.hid hm
  clear hm hM
  obtain ⟨sA, sC, fA, fC, ss, fs⟩ := m
  simp only [Mo.cells]
  obtain ⟨N, hN⟩ : ∃ N, w.heap.size = N := ⟨_, rfl⟩
  obtain ⟨W1, hW1⟩ : ∃ W1, w.alloc (.cells #[.slice sA ss.length sC, .slice fA fs.length fC] 38) = W1 := ⟨_, rfl⟩
  have q1 : W1.heap[N]? = some (.cells #[.slice sA ss.length sC, .slice fA fs.length fC] 38 (0, 0)) := by rw [← hW1, ← hN]; exact alloc_at _ _
  have hb1 : Below N w W1 := by rw [← hW1, ← hN]; exact (Below.refl _ _).alloc (Nat.le_refl _) _
  have HC : Hid (∀ W, Below W1.heap.size W1 W → W.cell? ⟨N, 0, none⟩ = some (.slice sA ss.length sC) ∧ W.cell? ⟨N, 1, none⟩ = some (.slice fA fs.length fC) ∧ M.inn W ∧ Below N w W) := by
    intro W hW
    have h3 := (hW.block N (Array.getElem?_eq_some_iff.1 q1).1).trans q1
    have h4 : Below N w W := hb1.trans (hW.mono (by have := (Array.getElem?_eq_some_iff.1 q1).1; omega))
    exact ⟨(cell_of_row _ _ _ _ _ _ h3).trans rfl, (cell_of_row _ _ _ _ _ _ h3).trans rfl, by rw [← HM.out]; exact HIN.out.below (by rw [hN]; exact h4), h4⟩
  obtain ⟨c1, c2, hm1, hbb1⟩ := HC.out W1 (Below.refl _ _)
  have HLI := Lib.hid (light11_calls W1 M hm1)
  rw [← HM.out] at HLI
  simp only [Mo.cells] at HLI
  have HAL : Hid (∀ W, Calls Try.prog 33 #[] W fun e w' => e = .returned (.bool true) ∧ Below W.heap.size W w') := fun W => alive11_calls W
  have HW1 := Lib.hid hW1
  have HB1 := Lib.hid hbb1
  clear q1 hb1 hW1 hm1 hbb1
  go_enter Try.func7, Try.ntmps7
  go_upto_region 1 with (fail)
  rw [HW1.out]
  go_wp2_with fail
  go_at_call 32
  refine HLI.out.mono ?_
  rintro e w2 ⟨b, rfl, hb, hb2⟩
  obtain ⟨d1, d2, hm2, hbb2⟩ := HC.out w2 hb2
  have HBB2 := Lib.hid hbb2
  cases b with
  | false =>
    clear c1 c2 hb hb2 hm2 hbb2
    go_wp2_with (go_at_call 33; refine (HAL.out _).mono ?_; rintro e w3 ⟨rfl, hb3⟩; have HB3 := Lib.hid hb3; clear hb3)
    go_ret
    exact ⟨rfl, by first | (rw [hN]; exact HBB2.out.trans (HB3.out.mono (by have := HBB2.out.size; omega))) | exact HBB2.out.trans (HB3.out.mono (by have := HBB2.out.size; omega))⟩
  | true =>
    have hsh : M.shortC := by rw [← HM.out]; exact hb rfl
    have hof := OfIn.of hm2 hsh
    have HOC := Lib.hid (of_calls M w2 hof)
    have HOF := Lib.hid hof
    have hnM : M.fs.length ≤ 12 := hsh.1
    rw [show M.cells = #[.slice sA ss.length sC, .slice fA fs.length fC] from by rw [← HM.out]; rfl] at HOC
    clear c1 c2 hb hb2 hm2 hbb2 hsh hof
    go_wp2_with fail
    go_at_call 34
    refine HOC.out.mono ?_
    rintro e w4 ⟨N', G, DN, UP, ST, RE, GP, H, gv, tag, rfl, hgm, hgr, _, _, hb4⟩
    have HQ := Lib.hid (askG HOF.out hgm hgr)
    have HB4 : Hid (Below N w w4) := HBB2.out.trans (hb4.mono (by have := HBB2.out.size; omega))
    obtain ⟨n, hn⟩ : ∃ n, M.fs.length = n := ⟨_, rfl⟩
    rw [hn] at HQ
    have HN := Lib.hid hn
    obtain ⟨b1, hb1⟩ : ∃ b, reachF n (downF M) f g = b := ⟨_, rfl⟩
    obtain ⟨b2, hb2⟩ : ∃ b, reachF n (downF M) g h = b := ⟨_, rfl⟩
    obtain ⟨b3, hb3⟩ : ∃ b, reachF n (downF M) f h = b := ⟨_, rfl⟩
    have HR1 := HQ.out.reach w4 (Below.refl _ _) f g
    have HR2 := HQ.out.reach w4 (Below.refl _ _) g h
    have HR3 := HQ.out.reach w4 (Below.refl _ _) f h
    rw [hb1] at HR1
    rw [hb2] at HR2
    rw [hb3] at HR3
    have H1 := Lib.hid HR1
    have H2 := Lib.hid HR2
    have H3 := Lib.hid HR3
    have HB := Lib.hid (show b1 = true → b2 = true → b3 = true from fun h1 h2 => by rw [← hb3]; exact reachF_trans (hb1.trans h1) (hb2.trans h2))
    have HCR := Lib.hid (HQ.out.callers w4 (Below.refl _ _) g)
    clear HR1 HR2 HR3 hb1 hb2 hb3 hgm hgr hb4 hn d1 d2
    go_upto_region 4 with (fail)
    go_cut [34] (fun s w' => s = .bool false ∧ w' = w4)
    case first =>
      cases b1 with
      | false =>
        go_wp2_with (go_at_call 35; refine H1.out.mono ?_; rintro e w5 ⟨rfl, rfl⟩)
        go_meet
        case rel => exact ⟨rfl, rfl⟩
      | true =>
        cases b2 with
        | false =>
          go_wp2_with fail
          go_at_call 35
          refine H1.out.mono ?_
          rintro e w5 ⟨rfl, rfl⟩
          go_wp2_with fail
          go_at_call 35
          refine H2.out.mono ?_
          rintro e w5 ⟨rfl, rfl⟩
          go_wp2
          go_meet
          case rel => exact ⟨rfl, rfl⟩
        | true =>
          obtain rfl := HB.out rfl rfl
          go_wp2_with fail
          go_at_call 35
          refine H1.out.mono ?_
          rintro e w5 ⟨rfl, rfl⟩
          go_wp2_with fail
          go_at_call 35
          refine H2.out.mono ?_
          rintro e w5 ⟨rfl, rfl⟩
          go_wp2_with fail
          go_at_call 35
          refine H3.out.mono ?_
          rintro e w5 ⟨rfl, rfl⟩
          go_wp2
          go_meet
          case rel => exact ⟨rfl, rfl⟩
    case rest =>
      obtain ⟨rfl, rfl⟩ := hcut
      clear H1 H2 H3 HB
      go_wp2_with fail
      go_at_call 36
      refine HCR.out.mono ?_
      rintro e w5 ⟨v, rfl, hown5, hb5⟩
      have HRE : Hid (∀ x, x ∈ (if inR n g = true then upF M g.toNat else []) → reachF n (downF M) (x : Int) g = true) := by
        intro x hx
        by_cases hi : inR n g = true
        · rw [if_pos hi] at hx
          obtain ⟨y, rfl, hy⟩ := inR_true hi
          rw [Int.toNat_natCast] at hx
          have := (reachF_up (by rw [HN.out]; exact hy) hx).2
          rw [HN.out] at this
          exact this
        · rw [if_neg hi] at hx; simp at hx
      have hle : (if inR n g = true then upF M g.toNat else []).length ≤ 12 := by
        by_cases hi : inR n g = true
        · rw [if_pos hi]; have := upF_len M g.toNat; omega
        · rw [if_neg hi]; simp
      obtain ⟨ls, hls⟩ : ∃ ls, (if inR n g = true then upF M g.toNat else []) = ls := ⟨_, rfl⟩
      rw [hls] at hown5 HRE hle
      obtain ⟨aov, capv, rfl⟩ := ownsRow_slice hown5
      have HOW := Lib.hid hown5
      have HQ5 : Hid (∀ a b : Int, Calls Try.prog 35 #[.pointer (some ⟨G, 0, none⟩), .int .i64 a, .int .i64 b] w5 fun e w' => e = .returned (.bool (reachF n (downF M) a b)) ∧ w5 = w') := fun a b => HQ.out.reach w5 hb5 a b
      have HB5 : Hid (Below N w w5) := HB4.out.trans (hb5.mono (by have := HB4.out.size; omega))
      clear hown5 hb5 hls
      go_wp2_with fail
      go_loopw [11] (fun c wr => ∃ k : Nat, k ≤ ls.length ∧ c = .int .i64 (k : Int) ∧ wr = w5) (fun c _ => ls.length - (intOf c).toNat)
      case atStart => exact ⟨0, Nat.zero_le _, rfl, rfl⟩
      case round =>
        obtain ⟨k, hk, rfl, rfl⟩ := hrel
        by_cases hkl : k < ls.length
        · have hkI : (k : Int) < (ls.length : Int) := by omega
          obtain ⟨x, hx⟩ : ∃ x, ls[k]? = some x := ⟨_, List.getElem?_eq_getElem hkl⟩
          obtain ⟨gx, rfl, _, cx⟩ := ownsRow_get HOW.out (j := k) (u := .int .i64 (x : Int)) (by rw [encN_flat]; simp [nums, hx])
          have hq := HQ5.out (x : Int) g
          rw [HRE.out x (List.mem_of_getElem? hx)] at hq
          have HQX := Lib.hid hq
          clear hq hx
          go_wp2_with (go_at_call 35; refine HQX.out.mono ?_; rintro e w6 ⟨rfl, rfl⟩)
          go_roundw
          case rel => exact ⟨k + 1, by omega, by go_num, by first | rfl | trivial⟩
          case measure => simp [intOf]; omega
        · have hke : k = ls.length := by omega
          subst hke
          go_wp2_with (go_at_call 33; refine (HAL.out _).mono ?_; rintro e w7 ⟨rfl, hb7⟩; have HB7 := Lib.hid hb7; clear hb7)
          go_ret
          have hfin : Below N w w7 := HB5.out.trans (HB7.out.mono (by have := HB5.out.size; omega))
          exact ⟨rfl, by first | (rw [hN]; exact hfin) | exact hfin⟩
end Go.Proofs.Ytbbogkcfngpbbaa
