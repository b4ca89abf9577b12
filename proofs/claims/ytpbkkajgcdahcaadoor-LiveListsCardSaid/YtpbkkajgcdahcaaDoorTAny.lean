/- The table's Vars, at any number: an iterator of what the reference picks. -/
import Derived.Test.YtpbkkajgcdahcaaDoorListsP
import Derived.Test.YtpbkkajgcdahcaaDoorNilsC
namespace Go.Proofs.YtpbkkajgcdahcaaDoor
open Go.RowKit

/-- A function value that tells xs one by one. -/
def TellsI (xs : List Nat) (w w' : World) (RB n : Nat) (e : Ending) : Prop :=
  ∃ gf lb Rd fn fb, e = .returned (.func (.func gf) #[] lb) ∧ Tryd.prog.funcs[gf]? = some fn ∧ (fn.name == "runtime.NumGoroutine") = false ∧ fn.body = some fb ∧ Iter Tryd.prog gf lb allEnc xs Rd w' ∧ Below w.heap.size w w' ∧ ∀ k, Rd k → k < w'.heap.size ∧ (k = w.heap.size ∨ k = 0 ∨ k ≤ RB + n)

set_option maxRecDepth 100000 in
theorem tvars_any (w : World) (T RA RB : Nat) (c : Cod) (a b : Nat → Nat → Nat) (S : Nat → List Nat) (at_ : Int) (h : TabOk w T RA RB c a b) (hs : SameT c.ins.length c.nvars S b) (hT : DbTab w) (hn : c.ins.length ≤ 90000) (hnv : c.nvars ≤ 90000) :
    Calls Tryd.prog 10 #[.pointer (some ⟨T, 0, none⟩), .int .i64 at_] w fun e w' => TellsI (pick (atRow S c.ins.length at_) c.nvars) w w' RB c.ins.length e := by
  by_cases hi : InT c at_ 0
  · obtain ⟨h1, h2, _, h3⟩ := hi
    obtain ⟨x, rfl⟩ : ∃ x : Nat, at_ = (x : Int) := ⟨at_.toNat, by omega⟩
    have hx : x < c.ins.length := by omega
    refine (tvars_calls w T RA RB c a b x h hx (by omega) hn hnv).mono ?_
    rintro e w' ⟨rfl, rfl⟩
    refine ⟨_, _, allRd w.heap.size (RB + 1 + x), _, _, rfl, Tryd.func44, by rfl, rfl, ?_, (Below.refl _ _).alloc (Nat.le_refl _) _, ?_⟩
    · rw [← hs.vars hx]; exact tvars_iter h hx hnv hT
    · have hl := (h.tab.words x hx).lt
      rintro k (h | h | h) <;> (rw [World.size_alloc]; omega)
  · have hp : pick (atRow S c.ins.length at_) c.nvars = [] := by
      by_cases h0 : c.nvars = 0
      · rw [h0]; rfl
      · exact atRow_none fun hh => hi ⟨hh.1, hh.2, by omega, by omega⟩
    rw [hp]
    refine (varsF_calls w _ at_ (noIn_out h.tab hi)).mono ?_
    rintro e w' ⟨rfl, rfl⟩
    exact ⟨_, _, fun _ => False, _, _, rfl, Tryd.func28, by rfl, rfl, vars1_iter w, Below.refl _ _, fun _ h => h.elim⟩
end Go.Proofs.YtpbkkajgcdahcaaDoor
