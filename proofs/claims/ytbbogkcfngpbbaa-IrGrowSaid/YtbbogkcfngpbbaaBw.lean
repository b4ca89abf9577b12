/- A region that draws its order, whose operations only read, and whose callees lay new blocks alone: one walk, in the text's order. -/
import Derived.Test.YtbbogkcfngpbbaaLitB
import Derived.BigQuiet
namespace Go.Proofs.Ytbbogkcfngpbbaa
open Go.RowKit

/-- A world that has grown from W. -/
structure BW (W : World) where
  w : World
  h : Below W.heap.size W w

instance {W : World} : Inhabited (BW W) := ⟨⟨W, Below.refl _ _⟩⟩

theorem wp_region_quiet_bw {P : Program} {id : Nat} {Q : Exit → Act → World → Prop} {a : Act} {W : World} {l : List Oper} (hm : P.follows .mixedOrders = true) (hB : Region.lexB .any l.toArray = true)
    (h : wpQuiet P l.toArray (fun w' => ∃ p : BW W, w' = p.w) (fun a' => ∀ w', (∃ p : BW W, w' = p.w) → Q .normal a' w') l a) : (Code.region id l.toArray true).wp P Q a W :=
  wp_region_quiet (C := fun w' => ∃ p : BW W, w' = p.w) hm hB ⟨⟨W.drew, (Below.refl _ _).drew⟩, rfl⟩ (by simpa using h)

theorem bw_of {P : Program} {f : FuncId} {args : Array Value} {W : World} {p : BW W} {v : Value} (h : Calls P f args p.w fun e w' => e = .returned v ∧ Below p.w.heap.size p.w w') :
    Calls P f args p.w fun e w'' => e = .returned v ∧ ∃ q : BW W, w'' = q.w :=
  h.mono fun _ w' ⟨he, hb⟩ => ⟨he, ⟨w', p.h.trans (hb.mono p.h.size)⟩, rfl⟩

theorem bw_same {P : Program} {f : FuncId} {args : Array Value} {W : World} {p : BW W} {v : Value} (h : Calls P f args p.w fun e w' => e = .returned v ∧ p.w = w') :
    Calls P f args p.w fun e w'' => e = .returned v ∧ ∃ q : BW W, w'' = q.w :=
  h.mono fun _ w' ⟨he, hb⟩ => ⟨he, p, hb.symm⟩
end Go.Proofs.Ytbbogkcfngpbbaa
