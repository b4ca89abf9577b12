/- RewriteModes: whatever module and numbers come in, the call returns true, and the arguments read behind the call as they read before. No condition. -/
import Derived.Test.YtlggjbopfnndbaaLRwM
import Derived.Test.YtlggjbopfnndbaaG04
namespace Go.Proofs.Ytlggjbopfnndbaa
open Go.ChangeShapes Go.WideShapes Go.ChangeAt Go.RowKit
set_option maxRecDepth 100000 in
theorem rewriteModes_lifted (os : Os) (started : os.Started) (H : Type) (enc : TypeId × Value → H) :
  ReturnsInHanded {} Try.checked os 3 .any (Rows.rewriteModesSpec.pre6 enc Try.prog Try.f3 Rows.rewriteModesRow.domain false) (Rows.rewriteModesSpec.post enc Try.prog Try.f3 false true false false) := by
 refine returnsInHanded_of_change (C := Try.checked) own_ started (by kernel_rfl) Try.func3
  (ChangeSpec.witness6 (enc := enc) (C := Try.checked) false ⟨#[],#[.agg #[.slice none 0 0,.slice none 0 0],.int .i64 0,.int .i64 0],[]⟩ 8 (by kernel_rfl) (by kernel_rfl) (by kernel_rfl) (by kernel_rfl)) ?_
 intro W base args ds gs before hval0 hW hcnd _
 have hval : ∀ (j : Nat) t v,Try.f3.params[j]? = some t → args[j]? = some v → Value.okWide Try.prog W .any base t v := hval0
 have hW' := hW
 obtain ⟨p,q,hA0,hV,rfl,hfz,hnd⟩ := hW
 have hA : DataW.TrodAll enc Try.prog W 0 (fun _ => true) true Try.f3.params.toList args.toList ds p := hA0
 rw [Try.params3] at hA hval
 obtain ⟨v0,v1,v2,d0,d1,d2,p0,p1,p2,rfl,rfl,rfl,h0,h1,h2⟩ := trodAll_three hA
 obtain ⟨rfl,rfl⟩ := trodVars_none hV
 have hlt0 : ∀ x ∈ p0,x.block < W.heap.size := fun x hx => hW'.lt x (by simp [hx])
 have h0k := h0
 obtain ⟨m0,rfl,hin0⟩ := open_mo (hval 0 25 v0 rfl rfl) h0
 have h1k := h1
 obtain ⟨x1,rfl,rfl,rfl,wx1⟩ := open_int Try.underlying3 (hval 1 3 v1 rfl rfl) h1
 have h2k := h2
 obtain ⟨x2,rfl,rfl,rfl,wx2⟩ := open_int Try.underlying3 (hval 2 3 v2 rfl rfl) h2
 clear hA0 hval0
 simp only [List.append_nil] at hW'
 refine (rewriteModes_calls m0 W hin0 x1 x2).mono fun e W' ⟨he,hb⟩ => ?_
 subst he
 exact ⟨_,rfl,law_post (pa := p0 ++ ([] ++ ([]))) (pv := []) hW' (fun _ _ _ => trodAll_mk1 (shut_true true)) (trodAll_mk3 (Below.trod laidOut_ (by kernel_rfl) (of_decide_eq_true (by kernel_rfl)) h0k hb hlt0) (shut_int Try.underlying3 wx1) (shut_int Try.underlying3 wx2)) rfl (by simp) hb⟩
theorem rewriteModes_holds : Rows.RewriteModesSaid :=
 OpenClaim.holds_of_wide 3 Try.f3 rfl rfl rfl rfl rfl rfl rfl ⟨rfl,rfl,rfl,rfl,rfl⟩ rfl rfl rfl rfl rfl (by kernel_rfl) Try.func3 (by kernel_rfl)
  (of_decide_eq_true (by kernel_rfl)) (by unfold Func.isWrapper; first | (rw [if_pos (by decide +kernel)]; kernel_rfl) | (rw [if_neg (by decide +kernel)]; exact ⟨rfl,rfl⟩))
  (fun os started H enc _ => rewriteModes_lifted os started H enc)
end Go.Proofs.Ytlggjbopfnndbaa
