/- What a nil table says, and of what is no instruction, or no variable. -/
import Derived.Test.YtpbkkajgcdahcaaDoorAsk
namespace Go.Proofs.YtpbkkajgcdahcaaDoor
open Go.RowKit

set_option maxRecDepth 100000 in
theorem inN_calls (w : World) (at_ v : Int) : Calls Tryd.prog 27 #[.pointer none, .int .i64 at_, .int .i64 v] w fun e w' => e = .returned (.bool false) ∧ w = w' := by
  go_enter Tryd.func27, Tryd.ntmps27
  go_wp2
  go_ret
  exact ⟨rfl, rfl⟩

/-- in says no. -/
def NoIn (p : Value) (at_ v : Int) (w : World) : Prop := Calls Tryd.prog 27 #[p, .int .i64 at_, .int .i64 v] w fun e w' => e = .returned (.bool false) ∧ w = w'

theorem noIn_nil (w : World) (at_ v : Int) : NoIn (.pointer none) at_ v w := inN_calls w at_ v

theorem noIn_out {w : World} {T RA RB k : Nat} {c : Cod} {a b : Nat → Nat → Nat} {at_ v : Int} (h : TabI w T RA RB k c a b) (ho : ¬ InT c at_ v) : NoIn (.pointer (some ⟨T, 0, none⟩)) at_ v w := by
  have := inT_calls w T RA RB k c a b at_ v h
  rw [decide_eq_false ho] at this
  exact this

set_option maxRecDepth 100000 in
theorem aheadF_calls (w : World) (p : Value) (at_ v : Int) (h : NoIn p at_ v w) : Calls Tryd.prog 17 #[p, .int .i64 at_, .int .i64 v] w fun e w' => e = .returned (.bool false) ∧ w = w' := by
  have H := Lib.hid h
  clear h
  go_enter Tryd.func17, Tryd.ntmps17
  go_wp2_with (go_at_call 27; refine H.out.mono ?_; rintro e w2 ⟨rfl, rfl⟩)
  go_ret
  exact ⟨rfl, rfl⟩

set_option maxRecDepth 100000 in
theorem behindF_calls (w : World) (p : Value) (at_ v : Int) (h : NoIn p at_ v w) : Calls Tryd.prog 18 #[p, .int .i64 at_, .int .i64 v] w fun e w' => e = .returned (.bool false) ∧ w = w' := by
  have H := Lib.hid h
  clear h
  go_enter Tryd.func18, Tryd.ntmps18
  go_wp2_with (go_at_call 27; refine H.out.mono ?_; rintro e w2 ⟨rfl, rfl⟩)
  go_ret
  exact ⟨rfl, rfl⟩

set_option maxRecDepth 100000 in
theorem lastF_calls (w : World) (p : Value) (v : Int) (h : NoIn p 0 v w) : Calls Tryd.prog 15 #[p, .int .i64 v] w fun e w' => e = .returned (.slice none 0 0) ∧ w = w' := by
  have H := Lib.hid h
  clear h
  go_enter Tryd.func15, Tryd.ntmps15
  go_wp2_with (go_at_call 27; refine H.out.mono ?_; rintro e w2 ⟨rfl, rfl⟩)
  go_ret
  exact ⟨rfl, rfl⟩

set_option maxRecDepth 100000 in
theorem varsF_calls (w : World) (p : Value) (at_ : Int) (h : NoIn p at_ 0 w) : Calls Tryd.prog 10 #[p, .int .i64 at_] w fun e w' => e = .returned (.func (.func 28) #[] #[]) ∧ w = w' := by
  have H := Lib.hid h
  clear h
  go_enter Tryd.func10, Tryd.ntmps10
  go_wp2_with (go_at_call 27; refine H.out.mono ?_; rintro e w2 ⟨rfl, rfl⟩)
  go_ret
  exact ⟨rfl, rfl⟩

set_option maxRecDepth 100000 in
theorem idleN_calls (w : World) : Calls Tryd.prog 12 #[.pointer none] w fun e w' => e = .returned (.slice none 0 0) ∧ w = w' := by
  go_enter Tryd.func12, Tryd.ntmps12
  go_wp2
  go_ret
  exact ⟨rfl, rfl⟩

set_option maxRecDepth 100000 in
theorem mostN_calls (w : World) : Calls Tryd.prog 14 #[.pointer none] w fun e w' => e = .returned (.int .i64 0) ∧ w = w' := by
  go_enter Tryd.func14, Tryd.ntmps14
  go_wp2
  go_ret
  exact ⟨rfl, rfl⟩

/-- The iterator that gives nothing. -/
theorem vars1_iter (w : World) : Iter Tryd.prog 28 #[] (α := Nat) (fun x => #[.int .i64 (x : Int)]) [] (fun _ => False) w := by
  intro l J Jx C W _ _ _ _ _ h0
  have H := Lib.hid h0
  clear h0
  go_enter Tryd.func28, Tryd.ntmps28
  go_wp2
  ((try simp only [Exit.inBlock, Exit.then]); (try rw [Exit.noGoto_ret]); (first | refine bodyPost_ret (results_none rfl _ _ _) rfl ?_ | refine bodyPost_end (results_none rfl _ _ _) rfl ?_))
  first | exact ⟨⟨_, rfl⟩, .inl ⟨C, H.out⟩⟩ | exact ⟨_, rfl, .inl ⟨C, H.out⟩⟩
end Go.Proofs.YtpbkkajgcdahcaaDoor
