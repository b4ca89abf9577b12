/- A struct loaded whole in a region that draws (over Bw). -/
import Derived.Test.YtbbogkcfngpbbaaBw
namespace Go.Proofs.Ytbbogkcfngpbbaa
open Go.RowKit

theorem quiet_load_bw {P : Program} {W : World} {o : Oper} {a : Act} {K : Act → Prop} (ty : TypeId) (x : Operand) (ho : o.op = .load ty x)
    (ad : Addr) (hx : a.eval x = .pointer (some ad)) (cs : Array Value) (d : TypeDesc) (hcells : ∀ (p : BW W) (j : Nat) (u : Value), cs.toList[j]? = some u → p.w.cell? (ad.add j) = some u)
    (hu : P.underlying ty = some d) (hd : (match d with | .struct _ | .array _ _ => true | _ => false) = true) (hi : (P.info? ty).map (·.size) = some cs.size)
    (hk : K (a.put o.dst (.agg cs))) : o.quiet P a (fun w' => ∃ p : BW W, w' = p.w) K := by
  refine ⟨_, fun w hw => ?_, hk⟩
  obtain ⟨p, rfl⟩ := hw
  unfold Oper.quietAt execOp
  simp only [ho, hx, Instr.loadAt, Instr.sureAddr, Sem.run_bind, Sem.run_pure, Result.andThen_ok, run_loadVar_at p.w ad ty cs d (hcells p) hu hd hi]
  exact ⟨rfl, rfl⟩
end Go.Proofs.Ytbbogkcfngpbbaa
