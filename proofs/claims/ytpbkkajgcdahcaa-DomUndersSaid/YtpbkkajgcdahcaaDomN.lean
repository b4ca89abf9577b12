/- What a nil tree says. -/
import Derived.Test.YtpbkkajgcdahcaaDomAl
import Derived.Test.YtpbkkajgcdahcaaSep
namespace Go.Proofs.Ytpbkkajgcdahcaa
open Go.RowKit

set_option maxRecDepth 100000 in
theorem reachedN_calls (w : World) (a : Int) : Calls Try.prog 64 #[.pointer none, .int .i64 a] w fun e w' => e = .returned (.bool false) ∧ w = w' := by
  go_enter Try.func64, Try.ntmps64
  go_wp2
  go_ret
  exact ⟨rfl, rfl⟩

set_option maxRecDepth 100000 in
theorem overN_calls (w : World) (a : Int) : Calls Try.prog 33 #[.pointer none, .int .i64 a] w fun e w' => e = .returned (.int .i64 (-1)) ∧ w = w' := by
  go_enter Try.func33, Try.ntmps33
  go_wp2_with (go_at_call 64; refine (reachedN_calls _ _).mono ?_; rintro e w2 ⟨rfl, rfl⟩)
  go_ret
  exact ⟨rfl, rfl⟩

set_option maxRecDepth 100000 in
theorem dominatesN_calls (w : World) (a b : Int) : Calls Try.prog 38 #[.pointer none, .int .i64 a, .int .i64 b] w fun e w' => e = .returned (.bool false) ∧ w = w' := by
  go_enter Try.func38, Try.ntmps38
  go_wp2_with (go_at_call 64; refine (reachedN_calls _ _).mono ?_; rintro e w2 ⟨rfl, rfl⟩)
  go_ret
  exact ⟨rfl, rfl⟩

set_option maxRecDepth 100000 in
theorem pathN_calls (w : World) (a : Int) : Calls Try.prog 37 #[.pointer none, .int .i64 a] w fun e w' => e = .returned (.slice none 0 0) ∧ w = w' := by
  go_enter Try.func37, Try.ntmps37
  go_wp2_with (go_at_call 64; refine (reachedN_calls _ _).mono ?_; rintro e w2 ⟨rfl, rfl⟩)
  go_ret
  exact ⟨rfl, rfl⟩

set_option maxRecDepth 100000 in
theorem depthN_calls (w : World) (a : Int) : Calls Try.prog 35 #[.pointer none, .int .i64 a] w fun e w' => e = .returned (.int .i64 0) ∧ w = w' := by
  go_enter Try.func35, Try.ntmps35
  go_wp2_with (go_at_call 37; refine (pathN_calls _ _).mono ?_; rintro e w2 ⟨rfl, rfl⟩)
  go_ret
  exact ⟨rfl, rfl⟩

set_option maxRecDepth 100000 in
theorem naturalN_calls (w : World) (a : Int) : Calls Try.prog 49 #[.pointer none, .int .i64 a] w fun e w' => e = .returned (.slice none 0 0) ∧ w = w' := by
  go_enter Try.func49, Try.ntmps49
  go_wp2_with (go_at_call 64; refine (reachedN_calls _ _).mono ?_; rintro e w2 ⟨rfl, rfl⟩)
  go_ret
  exact ⟨rfl, rfl⟩

/-- Behind Under: its boxes. -/
def UnderP (p : Value) (a : Int) (w : World) (e : Ending) (w' : World) : Prop :=
  e = .returned (.func (.func 74) #[] #[.pointer (some ⟨w.heap.size, 0, none⟩), .pointer (some ⟨w.heap.size + 1, 0, none⟩)]) ∧
    w' = (w.alloc (.cells #[p] 48)).alloc (.cells #[.int .i64 a] 3)

set_option maxRecDepth 100000 in
theorem under_calls (w : World) (T : Option Addr) (a : Int) : Calls Try.prog 48 #[.pointer T, .int .i64 a] w (UnderP (.pointer T) a w) := by
  have hmf : ∀ (fn : Fn) (first cap : Array Value) (w : World), (Instr.makeFunc fn first cap).run Try.prog w = .ok (.func fn first cap) w := fun _ _ _ _ => rfl
  go_enter Try.func48, Try.ntmps48
  go_wp2
  go_ret
  exact ⟨rfl, rfl⟩

/-- The iterator of a nil tree gives nothing. -/
theorem underN_iter (w : World) (B : Nat) (a : Int) (h1 : w.heap[B]? = some (.cells #[.pointer none] 48 (0, 0))) (h2 : w.heap[B + 1]? = some (.cells #[.int .i64 a] 3 (0, 0))) :
    Iter Try.prog 74 #[.pointer (some ⟨B, 0, none⟩), .pointer (some ⟨B + 1, 0, none⟩)] (α := Nat) (fun x => #[.int .i64 (x : Int)]) [] (fun k => k = B ∨ k = B + 1) w := by
  intro l J Jx C W hbw _ _ _ _ h0
  have H := Lib.hid h0
  have l1 := (Array.getElem?_eq_some_iff.1 h1).1
  have l2 := (Array.getElem?_eq_some_iff.1 h2).1
  have c1 : W.cell? ⟨B, 0, none⟩ = some (.pointer none) := by rw [cell_of_row _ _ _ _ _ _ ((hbw.block B l1).trans h1)]; rfl
  have c2 : W.cell? ⟨B + 1, 0, none⟩ = some (.int .i64 a) := by rw [cell_of_row _ _ _ _ _ _ ((hbw.block (B + 1) l2).trans h2)]; rfl
  clear h0 h1 h2 l1 l2 hbw
  show Calls _ _ #[.func (.yield l) #[] #[], .pointer (some ⟨B, 0, none⟩), .pointer (some ⟨B + 1, 0, none⟩)] _ _
  go_enter Try.func74, Try.ntmps74
  go_wp2_with (go_at_call 64; refine (reachedN_calls _ _).mono ?_; rintro e w2 ⟨rfl, rfl⟩)
  ((try simp only [Exit.inBlock, Exit.then]); (try rw [Exit.noGoto_ret]); (first | refine bodyPost_ret (results_none rfl _ _ _) rfl ?_ | refine bodyPost_end (results_none rfl _ _ _) rfl ?_))
  first | exact ⟨⟨_, rfl⟩, .inl ⟨C, H.out⟩⟩ | exact ⟨_, rfl, .inl ⟨C, H.out⟩⟩
end Go.Proofs.Ytpbkkajgcdahcaa
