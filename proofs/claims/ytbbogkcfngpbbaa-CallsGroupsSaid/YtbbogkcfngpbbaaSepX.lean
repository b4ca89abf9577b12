/- 'for .. range f' that a round may break off: what comes behind it is reached either way. -/
import Derived.Test.YtbbogkcfngpbbaaSep
namespace Go.Proofs.Ytbbogkcfngpbbaa
open Go.RowKit

theorem wp_rangeFunc_out {P : Program} {α : Type} {g : Operand} {ps : Array Tmp} {assign body : Code} {R : Exit → Act → World → Prop} {id : Nat} {a : Act} {w : World} {gf : Nat} {lb : Array Value} {fn : Func} {fb : Code}
    (hg : a.eval g = .func (.func gf) #[] lb) (hf : P.funcs[gf]? = some fn) (hname : (fn.name == "runtime.NumGoroutine") = false) (hb : fn.body = some fb)
    {encs : α → Array Value} {xs : List α} {Rd : Nat → Prop} {w0 : World} (hit : Iter P gf lb encs xs Rd w0) (hb0 : Below w0.heap.size w0 w) (hRd : ∀ k, Rd k → k < w.heap.size) (hps : ∀ x, (encs x).size = ps.size)
    (I : List α → (Nat → Prop) → World → Prop) (Ix : List α → (Nat → Prop) → World → Prop)
    (hI : ∀ pre C W W', I pre C W → Ext (fun k => w.heap.size ≤ k ∧ ¬ C k) W W' → I pre C W')
    (hIC : ∀ pre C W, I pre C W → ∀ k, C k → k < W.heap.size ∧ ¬ Rd k)
    (hIx : ∀ pre C W W', Ix pre C W → Ext (fun k => w.heap.size ≤ k ∧ ¬ C k) W W' → Ix pre C W')
    (C0 : Nat → Prop) (h0 : I [] C0 w)
    (hround : ∀ (l : Nat) (pre : List α) (x : α) (C : Nat → Prop) (W : World), w.heap.size ≤ l → I pre C W → (pre ++ [x]) <+: xs →
      assign.wpIn (Fence.wide.inRound l) 0 P (Exit.then (fun a₁ W₁ => ∃ C₁ : Nat → Prop, (∀ k, C₁ k → C k ∨ W.heap.size ≤ k) ∧ I pre C₁ W₁ ∧ Ext C W W₁ ∧
        ∀ W₂, I pre C₁ W₂ → Ext (· = l) W₁ W₂ → body.wpIn (Fence.wide.inRound l) 0 P (sepPost I (fun c pre C W => c = .exit id ∧ Ix pre C W) C₁ W₂ (pre ++ [x])) a₁ W₂) (fun _ _ _ => False))
        { tmps := (ps.zip (encs x)).foldl (fun t (p, v) => t.setIfInBounds p v) a.tmps, defers := [] } W)
    (hout : ∀ (D : Nat) (pre : List α) (C : Nat → Prop) (W : World), w.heap.size ≤ D → ¬ C D → pre <+: xs → ((pre = xs ∧ I pre C W) ∨ Ix pre C W) → W.heap[D]? = some (.deferred (some [])) → R .normal { a with defers := mark D :: a.defers } W) :
    (Code.rangeFunc g ps assign body).wp P (Exit.inBlock id R) a w := by
  refine wp_rangeFunc_sep hg hf hname hb hit hb0 hRd hps I (fun c pre C W => c = .exit id ∧ Ix pre C W) hI hIC (fun c pre C W W' h hx => ⟨h.1, hIx pre C W W' h.2 hx⟩) C0 h0 hround ?_ ?_
  · intro D C W hD hC hi hd
    exact hout D xs C W hD hC List.prefix_rfl (.inl ⟨rfl, hi⟩) hd
  · rintro D c pre C W hD hC hp ⟨rfl, hx⟩ hd
    refine wp_exit ?_
    show (if id = id then R .normal _ _ else _)
    rw [if_pos rfl]
    exact hout D pre C W hD hC hp (.inr hx) hd
end Go.Proofs.Ytbbogkcfngpbbaa
