/- RewriteTwice, at any module: true. -/
import Derived.Test.YtlggjbopfnndbaaRewT
import Derived.Test.YtlggjbopfnndbaaG39
import Derived.Test.YtlggjbopfnndbaaSmI

namespace Go.Proofs.Ytlggjbopfnndbaa
open Go.RowKit

set_option maxRecDepth 100000 in
set_option maxHeartbeats 8000000 in
theorem rewriteTwice_calls (m : Mo) (w : World) (hm : m.inn w) :
    Calls Try.prog 5 #[.agg m.cells] w fun e w' => e = .returned (.bool true) ∧ Below w.heap.size w w' := by
  obtain ⟨N, hN⟩ : ∃ N, w.heap.size = N := ⟨_, rfl⟩
  obtain ⟨W1, hW1⟩ : ∃ W1, w.alloc (.cells m.cells 25) = W1 := ⟨_, rfl⟩
  have hb1 : Below N w W1 := by rw [← hW1, ← hN]; exact (Below.refl _ _).alloc (Nat.le_refl _) _
  have hs1 : W1.heap.size = N + 1 := by rw [← hW1]; simp [hN]
  have q1 : W1.heap[N]? = some (.cells m.cells 25 (0, 0)) := by rw [← hW1, ← hN]; exact alloc_at _ _
  have HK : Hid (∀ W, Below W1.heap.size W1 W → W.cell? ⟨N, 0, none⟩ = some (.slice m.sA m.ss.length m.sC) ∧ W.cell? ⟨N, 1, none⟩ = some (.slice m.fA m.fs.length m.fC) ∧ m.inn W ∧ Below N w W) := fun W hW => by
    have h1 := (hW.block N (by omega)).trans q1
    have h3 := hb1.trans (hW.mono (by omega))
    exact ⟨by rw [cell_of_row _ _ _ _ _ _ h1]; rfl, by rw [cell_of_row _ _ _ _ _ _ h1]; rfl, hm.below (by rw [hN]; exact h3), h3⟩
  obtain ⟨c0, c1, hm1, _⟩ := HK.out W1 (Below.refl _ _)
  have HLI := Lib.hid (light17_calls W1 m hm1)
  have HAL : Hid (∀ W, Calls Try.prog 12 #[] W fun e w' => e = .returned (.bool true) ∧ Below W.heap.size W w') := fun W => alive27_calls W
  have hW1' := hW1
  simp only [Mo.cells] at hW1' HLI
  have HW1 := Lib.hid hW1'
  simp only [Mo.cells]
  clear hm hm1 q1 hW1 hW1' hb1
  go_enter Try.func5, Try.ntmps5
  go_upto_region 1 with (fail)
  rw [HW1.out]
  go_wp2_with fail
  go_at_call 11
  refine HLI.out.mono ?_
  rintro e w2 ⟨b, rfl, hb, hb2⟩
  obtain ⟨d0, d1, hm2, hbb2⟩ := HK.out w2 hb2
  have HB2 := Lib.hid hb2
  cases b with
  | false =>
    clear c0 c1 hb hb2 hm2 hbb2
    go_wp2_with (go_at_call 12; refine (HAL.out _).mono ?_; rintro e w3 ⟨rfl, hb3⟩; have HR := Lib.hid (HK.out w3 (HB2.out.trans (hb3.mono HB2.out.size))).2.2.2; clear hb3)
    go_ret
    exact ⟨rfl, by first | exact HR.out | (rw [hN]; exact HR.out)⟩
  | true =>
    have hri := short_right hm2 (hb rfl).2
    have HRI := Lib.hid hri
    have HRW := Lib.hid (rewrite_calls m w2 hri)
    simp only [Mo.cells] at HRW
    clear c0 c1 hb hb2 hm2 hbb2 hri
    go_wp2_with fail
    go_at_call 13
    refine HRW.out.mono ?_
    rintro e w3 (⟨hF, rfl, hb3⟩ | ⟨hF, hC, rfl, hb3⟩ | ⟨hF, hC, n, rfl, hn, hrw, hb3⟩)
    · obtain ⟨F, hFe⟩ : ∃ F, rightF m = F := ⟨_, rfl⟩
      rw [hFe] at hF ⊢
      have d0 : (F != 0) = true := by rw [bne_iff_ne]; exact hF
      obtain ⟨W4, hW4⟩ : ∃ W4, w3.alloc (.cells #[.slice none 0 0, .slice none 0 0] 25) = W4 := ⟨_, rfl⟩
      have hb23 := HB2.out.trans (hb3.mono HB2.out.size)
      have hb4 : Below W1.heap.size W1 W4 := by rw [← hW4]; exact hb23.alloc (by have := hb23.size; omega) _
      have HB4 := Lib.hid hb4
      have HW4 := Lib.hid hW4
      unfold zeroM
      clear hF hFe hb3 hW4 hb4 hb23
      go_upto_region 4 with (fail)
      rw [HW4.out]
      go_wp2_with (go_at_call 12; refine (HAL.out _).mono ?_; rintro e w5 ⟨rfl, hb5⟩; have HR := Lib.hid (HK.out w5 (HB4.out.trans (hb5.mono HB4.out.size))).2.2.2; clear hb5)
      go_ret
      exact ⟨rfl, by first | exact HR.out | (rw [hN]; exact HR.out)⟩
    · obtain ⟨F, hFe⟩ : ∃ F : Int, 1 = F := ⟨_, rfl⟩
      rw [hFe]
      have d0 : (F != 0) = true := by rw [bne_iff_ne]; omega
      obtain ⟨W4, hW4⟩ : ∃ W4, w3.alloc (.cells #[.slice none 0 0, .slice none 0 0] 25) = W4 := ⟨_, rfl⟩
      have hb23 := HB2.out.trans (hb3.mono HB2.out.size)
      have hb4 : Below W1.heap.size W1 W4 := by rw [← hW4]; exact hb23.alloc (by have := hb23.size; omega) _
      have HB4 := Lib.hid hb4
      have HW4 := Lib.hid hW4
      unfold zeroM
      clear hF hC hFe hb3 hW4 hb4 hb23
      go_upto_region 4 with (fail)
      rw [HW4.out]
      go_wp2_with (go_at_call 12; refine (HAL.out _).mono ?_; rintro e w5 ⟨rfl, hb5⟩; have HR := Lib.hid (HK.out w5 (HB4.out.trans (hb5.mono HB4.out.size))).2.2.2; clear hb5)
      go_ret
      exact ⟨rfl, by first | exact HR.out | (rw [hN]; exact HR.out)⟩
    · clear HRW
      obtain ⟨N4, hN4⟩ : ∃ N4, w3.heap.size = N4 := ⟨_, rfl⟩
      obtain ⟨W4, hW4⟩ : ∃ W4, w3.alloc (.cells n.cells 25) = W4 := ⟨_, rfl⟩
      have hb23 := HB2.out.trans (hb3.mono HB2.out.size)
      have hb34 : Below N4 w3 W4 := by rw [← hW4, ← hN4]; exact (Below.refl _ _).alloc (Nat.le_refl _) _
      have hs4 : W4.heap.size = N4 + 1 := by rw [← hW4]; simp [hN4]
      have hr4 : W4.heap[N4]? = some (.cells n.cells 25 (0, 0)) := by rw [← hW4, ← hN4]; exact alloc_at _ _
      have hb14 : Below W1.heap.size W1 W4 := by rw [← hW4]; exact hb23.alloc (by have := hb23.size; omega) _
      have HK4 : Hid (∀ W, Below W4.heap.size W4 W → W.cell? ⟨N4, 0, none⟩ = some (.slice n.sA n.ss.length n.sC) ∧ W.cell? ⟨N4, 1, none⟩ = some (.slice n.fA n.fs.length n.fC) ∧ n.inn W ∧ Below W1.heap.size W1 W) := fun W hW => by
        have h1 := (hW.block N4 (by omega)).trans hr4
        exact ⟨by rw [cell_of_row _ _ _ _ _ _ h1]; rfl, by rw [cell_of_row _ _ _ _ _ _ h1]; rfl, (hn.below (by rw [hN4]; exact hb34)).below hW, hb14.trans (hW.mono hb14.size)⟩
      obtain ⟨c0, c1, hn4, _⟩ := HK4.out W4 (Below.refl _ _)
      have hri4 := rewOf_right HRI.out hrw hn4
      have HRN := Lib.hid (rewrite_calls n W4 hri4)
      have he := rewOf_er hrw
      have hRn : rightF n = 0 := by rw [← rightF_er n, he, rightF_er m]; exact hF
      have hCn : classedF n = true := by rw [← classedF_er n, he, classedF_er m]; exact hC
      have HRO := Lib.hid hrw
      have HF0 := Lib.hid hF
      have HFN := Lib.hid hRn
      have HCN := Lib.hid hCn
      have HS4 := Lib.hid hs4
      have HN4 := Lib.hid hN4
      have hW4' := hW4
      simp only [Mo.cells] at hW4' HRN
      have HW4 := Lib.hid hW4'
      have d0 : ((0 : Int) != 0) = false := rfl
      simp only [Mo.cells]
      clear hF hC hn hrw hb3 hW4 hW4' hb23 hb34 hs4 hr4 hb14 hn4 hri4 he hRn hCn
      clear c0 c1
      go_upto_region 4 with (fail)
      rw [HW4.out]
      obtain ⟨c0, c1, _, _⟩ := HK4.out W4 (Below.refl _ _)
      go_wp2_with fail
      go_at_call 13
      refine HRN.out.mono ?_
      rintro e w5 (⟨h, _⟩ | ⟨_, h, _⟩ | ⟨_, _, o, rfl, ho, hro, hb5⟩)
      · exact (h HFN.out).elim
      · rw [HCN.out] at h; exact absurd h (by simp)
      clear HRN c0 c1
      obtain ⟨N6, hN6⟩ : ∃ N6, w5.heap.size = N6 := ⟨_, rfl⟩
      obtain ⟨W6, hW6⟩ : ∃ W6, w5.alloc (.cells o.cells 25) = W6 := ⟨_, rfl⟩
      have hb56 : Below N6 w5 W6 := by rw [← hW6, ← hN6]; exact (Below.refl _ _).alloc (Nat.le_refl _) _
      have hb46 : Below W4.heap.size W4 W6 := by rw [← hW6]; exact hb5.alloc (by have := hb5.size; omega) _
      have hr6 : W6.heap[N6]? = some (.cells o.cells 25 (0, 0)) := by rw [← hW6, ← hN6]; exact alloc_at _ _
      have ho6 := ho.below (by rw [hN6]; exact hb56)
      obtain ⟨c0, c1, hn6, hb16⟩ := HK4.out W6 hb46
      have c2 : W6.cell? ⟨N6, 0, none⟩ = some (.slice o.sA o.ss.length o.sC) := by rw [cell_of_row _ _ _ _ _ _ hr6]; rfl
      have c3 : W6.cell? ⟨N6, 1, none⟩ = some (.slice o.fA o.fs.length o.fC) := by rw [cell_of_row _ _ _ _ _ _ hr6]; rfl
      have hfn := rewOf_fit (w := W6) HF0.out HRI.out.al HRO.out hn6
      have hal : ∀ f ∈ n.fs, ∀ i ∈ f.c.ins, i.args.length ≤ 40 := (rewOf_right (w' := W6) HRI.out HRO.out hn6).al
      have hfo := rewOf_fit (w := W6) HFN.out hal hro ho6
      have hsm := refSame_calls W6 (mdOf W6) n o hfn hfo
      rw [rewTwice HRO.out hro (mdOf_mdAt hn6) (mdOf_mdAt ho6)] at hsm
      have HSM := Lib.hid hsm
      have HB16 := Lib.hid hb16
      have hW6' := hW6
      simp only [Mo.cells] at hW6' HSM
      have HW6 := Lib.hid hW6'
      have d1 : ((0 : Int) == 0) = true := rfl
      simp only [Mo.cells]
      have HC6 : Hid (W6.cell? ⟨N4, 0, none⟩ = some (.slice n.sA n.ss.length n.sC) ∧ W6.cell? ⟨N4, 1, none⟩ = some (.slice n.fA n.fs.length n.fC) ∧ W6.cell? ⟨N6, 0, none⟩ = some (.slice o.sA o.ss.length o.sC) ∧ W6.cell? ⟨N6, 1, none⟩ = some (.slice o.fA o.fs.length o.fC)) := ⟨c0, c1, c2, c3⟩
      clear c0 c1 c2 c3 hb5 hro ho hb56 hb46 hr6 ho6 hn6 hb16 hW6 hW6' hfn hal hfo hsm
      go_upto_region 7 with (fail)
      rw [HW6.out]
      obtain ⟨c0, c1, c2, c3⟩ := HC6.out
      go_wp2_with fail
      go_at_call 17
      refine HSM.out.mono ?_
      rintro e w7 ⟨rfl, hb7⟩
      have HB7 := Lib.hid (HB16.out.trans (hb7.mono HB16.out.size))
      clear c0 c1 c2 c3 hb7
      go_wp2_with (go_at_call 12; refine (HAL.out _).mono ?_; rintro e w8 ⟨rfl, hb8⟩; have HR := Lib.hid (HK.out w8 (HB7.out.trans (hb8.mono HB7.out.size))).2.2.2; clear hb8)
      go_ret
      exact ⟨rfl, by first | exact HR.out | (rw [hN]; exact HR.out)⟩
end Go.Proofs.Ytlggjbopfnndbaa
