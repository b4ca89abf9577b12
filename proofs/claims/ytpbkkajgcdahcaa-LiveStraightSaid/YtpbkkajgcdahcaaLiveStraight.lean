/- LiveStraight: whatever numbers come in, the call returns true, and the arguments read behind the call as they read before. No condition. -/
import Derived.Test.YtpbkkajgcdahcaaStraight
import Derived.Test.YtpbkkajgcdahcaaLawKit
import Derived.OpenShut
namespace Go.Proofs.Ytpbkkajgcdahcaa
open Go.ChangeShapes Go.WideShapes Go.ChangeAt Go.RowKit

theorem list_three {α : Type} {l : List α} (h : l.length = 3) : ∃ a b c, l = [a, b, c] := by
  match l, h with
  | [a, b, c], _ => exact ⟨a, b, c, rfl⟩

theorem open_tri {H : Type} {enc : TypeId × Value → H} {w : World} {base : Nat} {spare : Nat → Bool} {held : Bool} {n : Nat} {cs : List Value} {x : DataW H × List MemPlace} (h : DataW.trod enc Try.prog w base spare held n 65 cs = some x) : ∃ t : Tri, t.cells.toList = cs ∧ True := by
  obtain ⟨xs, m, _, _, hlen, hxl, hf⟩ := DataW.trod_array Try.underlying65 h
  have hc : Try.prog.cellsOf 65 = 3 := by kernel_rfl
  have c1 : Try.prog.cellsOf 3 = 1 := by kernel_rfl
  rw [hc] at hlen
  obtain ⟨c0, c1', c2, rfl⟩ := list_three hlen
  · skip
    have g0 := (hf 0 (by decide)).trans (List.getElem?_eq_getElem (show 0 < xs.length by omega))
    have g1 := (hf 1 (by decide)).trans (List.getElem?_eq_getElem (show 1 < xs.length by omega))
    have g2 := (hf 2 (by decide)).trans (List.getElem?_eq_getElem (show 2 < xs.length by omega))
    obtain ⟨k0, r0, _, _⟩ := DataW.trod_int Try.underlying3 g0
    obtain ⟨k1, r1, _, _⟩ := DataW.trod_int Try.underlying3 g1
    obtain ⟨k2, r2, _, _⟩ := DataW.trod_int Try.underlying3 g2
    obtain rfl : c0 = .int .i64 k0 := by simpa [c1] using r0
    obtain rfl : c1' = .int .i64 k1 := by simpa [c1] using r1
    obtain rfl : c2 = .int .i64 k2 := by simpa [c1] using r2
    exact ⟨⟨k0, k1, k2⟩, rfl, trivial⟩

set_option maxRecDepth 100000 in
theorem liveStraight_lifted (os : Os) (started : os.Started) (H : Type) (enc : TypeId × Value → H) :
    ReturnsInHanded {} Try.checked os 9 .any (Rows.liveStraightSpec.pre6 enc Try.prog Try.f9 Rows.liveStraightRow.domain false) (Rows.liveStraightSpec.post enc Try.prog Try.f9 false true false false) := by
  refine returnsInHanded_of_change (C := Try.checked) own_ started (by kernel_rfl) Try.func9
    (ChangeSpec.witness6 (enc := enc) (C := Try.checked) false ⟨#[], #[.slice none 0 0, .int .i64 0], []⟩ 8 (by kernel_rfl) (by kernel_rfl) (by kernel_rfl) (by kernel_rfl)) ?_
  intro W base args ds gs before hval0 hW hcnd _
  have hval : ∀ (j : Nat) t v, Try.f9.params[j]? = some t → args[j]? = some v → Value.okWide Try.prog W .any base t v := hval0
  have hW' := hW
  obtain ⟨p, q, hA0, hV, rfl, hfz, hnd⟩ := hW
  have hA : DataW.TrodAll enc Try.prog W 0 (fun _ => true) true Try.f9.params.toList args.toList ds p := hA0
  rw [Try.params9] at hA hval
  obtain ⟨v0, v1, d0, d1, p0, p1, rfl, rfl, rfl, h0, h1⟩ := trodAll_two hA
  obtain ⟨rfl, rfl⟩ := trodVars_none hV
  have hlt0 : ∀ x ∈ p0, x.block < W.heap.size := fun x hx => hW'.lt x (by simp [hx])
  have h0k := h0
  obtain ⟨ao, ls, cap, rfl, hl0, hin0⟩ : ∃ (ao : Option Addr) (ls : List Tri) (cap : Nat), v0 = .slice ao ls.length cap ∧ ls.length ≤ maxLen ∧ RowOf Tri.cells 3 W W.heap.size ao ls := by
    obtain ⟨a', n', c', rfl⟩ := okWide_slice Try.underlying64 (hval 0 64 v0 rfl rfl)
    obtain ⟨fuel, hf⟩ := h0
    obtain ⟨ao, ls, cap, e, h1, h2, _⟩ := open_row Tri.cells (fun _ => True) 3 (by decide) Try.underlying64 (by kernel_rfl) (fun n cs x hx => open_tri hx) hf
    exact ⟨ao, ls, cap, by simpa [Value.cells] using e, h1, h2⟩
  have h1k := h1
  obtain ⟨x1, rfl, rfl, rfl, wx1⟩ := open_int Try.underlying3 (hval 1 3 v1 rfl rfl) h1
  clear hA0 hval0
  simp only [List.append_nil] at hW'
  refine (straight_calls ls ao cap x1 W hin0 hl0).mono fun e W' ⟨he, hb⟩ => ?_
  subst he
  exact ⟨_, rfl, law_post (pa := p0 ++ ([])) (pv := []) hW' (fun _ _ _ => trodAll_mk1 (shut_true true)) (trodAll_mk2 (Below.trod laidOut_ (by kernel_rfl) (of_decide_eq_true (by kernel_rfl)) h0k hb hlt0) (shut_int Try.underlying3 wx1)) rfl (by simp) hb⟩

theorem liveStraight_holds : Rows.LiveStraightSaid :=
  OpenClaim.holds_of_wide 9 Try.f9 rfl rfl rfl rfl rfl rfl rfl ⟨rfl, rfl, rfl, rfl, rfl⟩ rfl rfl rfl rfl rfl (by kernel_rfl) Try.func9 (by kernel_rfl)
    (of_decide_eq_true (by kernel_rfl)) (by unfold Func.isWrapper; first | (rw [if_pos (by decide +kernel)]; kernel_rfl) | (rw [if_neg (by decide +kernel)]; exact ⟨rfl, rfl⟩))
    (fun os started H enc _ => liveStraight_lifted os started H enc)
end Go.Proofs.Ytpbkkajgcdahcaa
