/- The reference's callees and callers. -/
import Derived.Test.YtbbogkcfngpbbaaLCaC
namespace Go.Proofs.Ytbbogkcfngpbbaa
open Go.RowKit

theorem modAt {W : World} {m : Mo} (hof : OfIn W m) {x : Nat} {X : Fn} (hx : m.fs[x]? = some X) : ∃ g1 o1, m.fA = some ⟨g1, o1, none⟩ ∧ W.cell? ⟨g1, o1 + x * 8 + 7, none⟩ = some (.slice X.c.insA X.c.ins.length X.c.insC) ∧
    ∀ k i, X.c.ins[k]? = some i → ∃ g2 o2, X.c.insA = some ⟨g2, o2, none⟩ ∧ W.cell? ⟨g2, o2 + k * 13, none⟩ = some (.int .i64 i.op) ∧ W.cell? ⟨g2, o2 + k * 13 + 4, none⟩ = some (.int .i64 i.f) := by
  obtain ⟨g1, o1, h1, _, h2⟩ := hof.frow (by intro e; rw [e] at hx; simp at hx)
  refine ⟨g1, o1, h1, h2 x X hx 7 _ rfl, fun k i hi => ?_⟩
  obtain ⟨g2, o2, h3, _, h4⟩ := hof.row X (List.mem_of_getElem? hx) (by intro e; rw [e] at hi; simp at hi)
  refine ⟨g2, o2, h3, ?_, h4 k i hi 4 _ rfl⟩
  have := h4 k i hi 0 _ rfl
  rwa [Nat.add_zero] at this

/-- Does it call h? -/
def isC (h : Nat) (i : Ins) : Bool := (i.op == 15) && (i.f == (h : Int))

theorem isC_cAt {n h : Nat} (hh : h < n) (i : Ins) : isC h i = true ↔ cAt n i = some h := by
  unfold isC cAt
  simp only [Bool.and_eq_true, beq_iff_eq]
  constructor
  · rintro ⟨h1, h2⟩
    rw [if_pos ⟨h1, by omega, by omega⟩, h2, Int.toNat_natCast]
  · intro h1
    split at h1
    · rename_i hc
      have := Option.some.inj h1
      exact ⟨hc.1, by omega⟩
    · cases h1

theorem downF_any {m : Mo} {x h : Nat} {X : Fn} (hx : m.fs[x]? = some X) (hh : h < m.fs.length) : decide (h ∈ dOf (allCalls m.fs.length 0 m.fs) x) = X.c.ins.any (isC h) := by
  rw [Bool.eq_iff_iff, decide_eq_true_eq, mem_dOf, List.any_eq_true]
  constructor
  · rintro ⟨Y, hY, i, hi, hc⟩
    rw [hx] at hY
    obtain rfl := Option.some.inj hY
    exact ⟨i, hi, (isC_cAt hh i).2 hc⟩
  · rintro ⟨i, hi, hc⟩
    exact ⟨X, hx, i, hi, (isC_cAt hh i).1 hc⟩

theorem filter_same {n : Nat} {p q : Nat → Bool} (h : ∀ x, x < n → p x = q x) : (List.range n).filter p = (List.range n).filter q :=
  List.filter_congr fun x hx => h x (List.mem_range.1 hx)

theorem any_snoc {α : Type} {l : List α} {k : Nat} {x : α} (p : α → Bool) (h : l[k]? = some x) : (l.take (k + 1)).any p = ((l.take k).any p || p x) := by
  rw [List.take_add_one, h, List.any_append]; simp

/-- What a picked row gives. -/
theorem PkI.gives {p : Nat → Bool} {w w1 wr : World} {n : Nat} {v : Value} {xs : List Nat} (h : PkI p w1.heap.size w1 n v wr) (hw : Below w.heap.size w w1) (hx : (List.range n).filter p = xs) : GivesN w xs (.returned v) wr := by
  subst hx
  refine ⟨v, rfl, ownsRow_base h.1 (fun k hk => Nat.le_trans hw.size (h.1.lt k hk).1), hw.trans (h.2.1.mono hw.size)⟩

set_option maxRecDepth 100000 in
set_option maxHeartbeats 8000000 in
theorem rCallees_calls (w : World) (m : Mo) (hof : OfIn w m) (f : Int) : Calls Try.prog 44 #[.agg m.cells, .int .i64 f] w (GivesN w (if inR m.fs.length f = true then downF m f.toNat else [])) := by
  obtain ⟨M, hM⟩ : ∃ M, m = M := ⟨_, rfl⟩
  have HM := Lib.hid hM
  have hn70 := hof.nf
  have HOF0 := Lib.hid hof
  rw [hM]
  clear hof
  obtain ⟨sA, sC, fA, fC, ss, fs⟩ := m
  obtain ⟨n, hn⟩ : ∃ n, fs.length = n := ⟨_, rfl⟩
  have HN := Lib.hid hn
  have HMF : Hid (M.fs = fs) := by unfold Hid; rw [← hM]
  have HMA : Hid (M.fA = fA) := by unfold Hid; rw [← hM]
  rw [hM] at HOF0
  simp only at hn70
  rw [hn] at hn70
  rw [show M.cells = #[.slice sA ss.length sC, .slice fA n fC] from by rw [← hn, ← hM]; rfl, show M.fs.length = n from by rw [← hn, ← hM]]
  clear hn hM
  obtain ⟨N, hN⟩ : ∃ N, w.heap.size = N := ⟨_, rfl⟩
  obtain ⟨W1, hW1⟩ : ∃ W1, w.alloc (.cells #[.slice sA ss.length sC, .slice fA n fC] 38) = W1 := ⟨_, rfl⟩
  have q1 : W1.heap[N]? = some (.cells #[.slice sA ss.length sC, .slice fA n fC] 38 (0, 0)) := by rw [← hW1, ← hN]; exact alloc_at _ _
  have hb1 : Below w.heap.size w W1 := by rw [← hW1]; exact (Below.refl _ _).alloc (Nat.le_refl _) _
  obtain ⟨B, hB⟩ : ∃ B, W1.heap.size = B := ⟨_, rfl⟩
  have HC : Hid (∀ W, Below B W1 W → W.cell? ⟨N, 1, none⟩ = some (.slice fA n fC) ∧ OfIn W M) := by
    intro W hW
    have hNl := (Array.getElem?_eq_some_iff.1 q1).1
    have h3 := (hW.block N (by omega)).trans q1
    exact ⟨(cell_of_row _ _ _ _ _ _ h3).trans rfl, HOF0.out.below (hb1.trans (hW.mono (by rw [← hB]; exact hb1.size)))⟩
  have HB1 := Lib.hid hb1
  have HW1 := Lib.hid hW1
  have HB := Lib.hid hB
  clear q1 hb1 hW1 hB
  by_cases hr : inR n f = true
  · rw [if_pos hr]
    obtain ⟨x, rfl, hx⟩ := inR_true hr
    rw [Int.toNat_natCast]
    have hxI : (x : Int) < (n : Int) := by omega
    have hx0 : decide (0 ≤ (x : Int)) = true := decide_eq_true (by omega)
    obtain ⟨X, hX⟩ : ∃ X, fs[x]? = some X := ⟨_, List.getElem?_eq_getElem (by have := HN.out; omega)⟩
    obtain ⟨p, hp⟩ : ∃ p : Nat → Bool, (fun h => X.c.ins.any (isC h)) = p := ⟨_, rfl⟩
    have HP : Hid (∀ h, p h = X.c.ins.any (isC h)) := fun h => by rw [← hp]
    have HRES : Hid ((List.range n).filter p = downF M x) := by
      unfold Hid downF sel
      have hl : M.fs.length = n := by rw [HMF.out, HN.out]
      rw [hl]
      refine filter_same fun h hh => ?_
      have := downF_any (m := M) (x := x) (h := h) (X := X) (by rw [HMF.out]; exact hX) (by rw [hl]; exact hh)
      rw [hl] at this
      rw [HP.out, this]
    have HMD : Hid (∀ W, Below B W1 W → ∃ g1 o1, fA = some ⟨g1, o1, none⟩ ∧ W.cell? ⟨g1, o1 + x * 8 + 7, none⟩ = some (.slice X.c.insA X.c.ins.length X.c.insC) ∧
        ∀ k i, X.c.ins[k]? = some i → ∃ g2 o2, X.c.insA = some ⟨g2, o2, none⟩ ∧ W.cell? ⟨g2, o2 + k * 13, none⟩ = some (.int .i64 i.op) ∧ W.cell? ⟨g2, o2 + k * 13 + 4, none⟩ = some (.int .i64 i.f)) := by
      intro W hW
      have h := modAt (HC.out W hW).2 (x := x) (X := X) (by rw [HMF.out]; exact hX)
      rw [HMA.out] at h
      exact h
    have HIL : Hid (X.c.ins.length ≤ 1200) := by
      have h1 := HOF0.out.tot
      rw [HMF.out] at h1
      exact Nat.le_trans (mem_le_sum _ (List.mem_map.2 ⟨X, List.mem_of_getElem? hX, rfl⟩)) h1
    have hil := HIL.out
    clear hp hX hr
    go_enter Try.func44, Try.ntmps44
    go_upto_region 1 with (fail)
    rw [HW1.out]
    go_wp2_with fail
    go_loopw [5, 6] (fun v c wr => ∃ j : Nat, j ≤ n ∧ c = .int .i64 (j : Int) ∧ PkI p B W1 j v wr) (fun _ c _ => n - (intOf c).toNat)
    case atStart => exact ⟨0, Nat.zero_le _, rfl, World.ownsRow_nil _ _ _ _, Below.refl _ _, by have := HB.out; omega⟩
    case round =>
      obtain ⟨j, hj, rfl, hpk⟩ := hrel
      have HPK := Lib.hid hpk
      have hbw := hpk.2.1
      have hsz := hpk.2.2
      obtain ⟨c1, _⟩ := HC.out wr hbw
      obtain ⟨ao, cap, hv⟩ := ownsRow_slice hpk.1
      subst hv
      by_cases hjn : j < n
      · have hjI : (j : Int) < (n : Int) := by omega
        have hlen := rf_len p j
        obtain ⟨g1, o1, hfa, e7, hins⟩ := HMD.out wr hbw
        have HINS := Lib.hid hins
        subst hfa
        obtain ⟨wo, hwo⟩ : ∃ wo, wo = wr := ⟨_, rfl⟩
        have HWO := Lib.hid hwo
        clear hpk hbw hins hwo
        go_wp2_with fail
        go_loopw [7, 8] (fun b c wr2 => ∃ k : Nat, k ≤ X.c.ins.length ∧ c = .int .i64 (k : Int) ∧ b = .bool ((X.c.ins.take k).any (isC j)) ∧ wr2 = wr) (fun _ c _ => X.c.ins.length - (intOf c).toNat)
        case atStart => exact ⟨0, Nat.zero_le _, rfl, rfl, rfl⟩
        case round =>
          obtain ⟨k, hk, rfl, rfl, rfl⟩ := hrel
          by_cases hkl : k < X.c.ins.length
          · have hkI : (k : Int) < (X.c.ins.length : Int) := by omega
            obtain ⟨i, hi⟩ : ∃ i, X.c.ins[k]? = some i := ⟨_, List.getElem?_eq_getElem hkl⟩
            obtain ⟨g2, o2, hia, d0, d4⟩ := HINS.out k i hi
            rw [hia] at e7
            have hsn := any_snoc (isC j) hi
            obtain ⟨b, hb⟩ : ∃ b, (X.c.ins.take k).any (isC j) = b := ⟨_, rfl⟩
            rw [hb] at hsn ⊢
            have HSN := Lib.hid hsn
            clear hi hia hsn hb
            cases b with
            | true =>
              go_wp2
              go_roundw
              case rel => exact ⟨k + 1, by omega, by go_num, by rw [HSN.out]; rfl, by first | rfl | trivial⟩
              case measure => simp [intOf]; omega
            | false =>
              by_cases hop : i.op = 15
              · have hopb : (i.op == 15) = true := by rw [hop]; rfl
                obtain ⟨q, hq⟩ : ∃ q, (i.f == (j : Int)) = q := ⟨_, rfl⟩
                have HN2 : Hid ((X.c.ins.take (k + 1)).any (isC j) = q) := by
                  unfold Hid; rw [HSN.out, Bool.false_or]; unfold isC; rw [hopb, hq, Bool.true_and]
                clear hop
                go_wp2
                go_roundw
                case rel => exact ⟨k + 1, by omega, by go_num, by rw [HN2.out], by first | rfl | trivial⟩
                case measure => simp [intOf]; omega
              · have hopb : (i.op == 15) = false := by rw [beq_eq_false_iff_ne]; exact hop
                have HN2 : Hid ((X.c.ins.take (k + 1)).any (isC j) = false) := by
                  unfold Hid; rw [HSN.out, Bool.false_or]; unfold isC; rw [hopb, Bool.false_and]
                clear hop
                go_wp2
                go_roundw
                case rel => exact ⟨k + 1, by omega, by go_num, by rw [HN2.out], by first | rfl | trivial⟩
                case measure => simp [intOf]; omega
          · have hke : k = X.c.ins.length := by omega
            subst hke
            have hpj := HP.out j
            rw [List.take_length, ← hpj]
            obtain ⟨b, hb⟩ : ∃ b, p j = b := ⟨_, rfl⟩
            rw [hb]
            have HPB := Lib.hid hb
            have HOW := Lib.hid HPK.out.1
            clear hb hpj
            cases b with
            | false =>
              have HN2 := Lib.hid (HPK.out.skip HPB.out)
              go_wp2
              go_roundw
              case rel => exact ⟨j + 1, by omega, by go_num, HN2.out⟩
              case measure => simp [intOf]; omega
            | true =>
              obtain ⟨i0, hi0, hi1, hi2, hi3⟩ := info_parts info_int
              have HAP : Hid (∀ (g5 cap5 : Nat) (w5 : World), w5.ownsRow B 3 1 (.slice (some ⟨g5, 0, none⟩) (((List.range j).filter p).length + 1) cap5) (((List.range j).filter p).length + 1) (((List.range j).filter p).flatMap encN ++ [.int .i64 (j : Int)]) →
                  (wr.alloc (.cells #[.int .i64 (j : Int)] 3)).grownBy w5 (Value.slice ao ((List.range j).filter p).length cap).ownBlock → PkI p B W1 (j + 1) (.slice (some ⟨g5, 0, none⟩) (((List.range j).filter p).length + 1) cap5) w5) :=
                fun g5 cap5 w5 h2 h3 => HPK.out.app HPB.out ((Below.refl _ _).alloc hsz _) (by simp) h2 h3
              go_wp2_with (at_builtin; refine wpList_append_lies _ rfl _ _ 22 rfl B 3 i0 (.int .i64 0) 1 8 Try.underlying22 hi0 hi1 hi2 hi3 rfl (by decide) _ ((List.range j).filter p).length _ rfl (ownsRow_below HOW.out ((Below.refl wr.heap.size wr).alloc (Nat.le_refl _) _)) ⟨wr.heap.size, 0, none⟩ 1 1 [.int .i64 (j : Int)] rfl rfl (cells_new _ _ _) (by simp [Value.oneCell']) (by decide) (by unfold maxLen; omega) (by omega) (by rw [World.size_alloc]; omega) _ rfl ?_; intro g5 cap5 w5 hown5 hgrow5 _ _; have HN2 := Lib.hid (HAP.out g5 cap5 w5 hown5 hgrow5); clear hown5 hgrow5)
              go_roundw
              case rel => exact ⟨j + 1, by omega, by go_num, HN2.out⟩
              case measure => simp [intOf]; omega
      · have hje : j = n := by omega
        subst hje
        clear hpk hbw
        go_wp2
        go_ret
        have h1 := HPK.out
        rw [← HB.out] at h1
        exact h1.gives HB1.out HRES.out
  · rw [if_neg hr]
    have hr' : inR n f = false := by simpa using hr
    have HF : Hid ((decide (0 ≤ f) = false) ∨ (decide (0 ≤ f) = true ∧ decide (f < (n : Int)) = false)) := by
      unfold inR at hr'
      have := of_decide_eq_false hr'
      by_cases h0 : 0 ≤ f
      · exact .inr ⟨decide_eq_true h0, decide_eq_false (by omega)⟩
      · exact .inl (decide_eq_false h0)
    clear hr hr'
    go_enter Try.func44, Try.ntmps44
    go_upto_region 1 with (fail)
    rw [HW1.out]
    go_wp2_with fail
    go_loopw [5, 6] (fun v c wr => ∃ j : Nat, j ≤ n ∧ c = .int .i64 (j : Int) ∧ v = .slice none 0 0 ∧ wr = W1) (fun _ c _ => n - (intOf c).toNat)
    case atStart => exact ⟨0, Nat.zero_le _, rfl, rfl, rfl⟩
    case round =>
      obtain ⟨j, hj, rfl, rfl, rfl⟩ := hrel
      obtain ⟨c1, _⟩ := HC.out wr (Below.refl _ _)
      by_cases hjn : j < n
      · have hjI : (j : Int) < (n : Int) := by omega
        go_wp2_with fail
        refine wp_loop_rounds 1 ?_
        rw [rounds_succ]
        rcases HF.out with h0 | ⟨h0, h1⟩
        · go_wp2
          go_roundw
          case rel => exact ⟨j + 1, by omega, by go_num, by first | rfl | trivial, by first | rfl | trivial⟩
          case measure => simp [intOf]; omega
        · go_wp2
          go_roundw
          case rel => exact ⟨j + 1, by omega, by go_num, by first | rfl | trivial, by first | rfl | trivial⟩
          case measure => simp [intOf]; omega
      · have hje : j = n := by omega
        subst hje
        go_wp2
        go_ret
        exact ⟨_, rfl, World.ownsRow_nil _ _ _ _, HB1.out⟩
end Go.Proofs.Ytbbogkcfngpbbaa
