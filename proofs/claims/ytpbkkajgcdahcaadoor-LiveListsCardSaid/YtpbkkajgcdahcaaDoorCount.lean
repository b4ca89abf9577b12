/- How many a row has; two rows joined. -/
import Derived.Test.YtpbkkajgcdahcaaDoorWords
namespace Go.Proofs.YtpbkkajgcdahcaaDoor
open Go.RowKit

def countOf (n : Nat) (f : Nat → Nat) : Nat := ((List.range n).map fun i => popc (f i) 64).sum

theorem popc_le : ∀ (n x : Nat), popc x n ≤ n
  | 0, _ => by simp [popc, bitsR]
  | n + 1, x => by
    have h := popc_le n (x / 2)
    unfold popc at h ⊢
    simp only [bitsR, List.sum_cons]; omega

theorem countOf_succ (n : Nat) (f : Nat → Nat) : countOf (n + 1) f = countOf n f + popc (f n) 64 := by
  unfold countOf; rw [List.range_succ, List.map_append, List.sum_append]; simp

theorem countOf_le (n : Nat) (f : Nat → Nat) : countOf n f ≤ 64 * n := by
  induction n with
  | zero => simp [countOf]
  | succ n ih => rw [countOf_succ]; have := popc_le 64 (f n); omega

set_option maxRecDepth 100000 in
set_option maxHeartbeats 1000000 in
theorem rowCount_calls (w : World) (B n cp : Nat) (f : Nat → Nat) (hrow : RowW w B n f) (hf : ∀ i, f i < 18446744073709551616) (hn : n ≤ 90000) :
    Calls Tryd.prog 31 #[.slice (some ⟨B, 0, none⟩) n cp] w fun e w' => e = .returned (.int .i64 (countOf n f : Nat)) ∧ w = w' := by
  have HROW := Lib.hid hrow
  have HF := Lib.hid hf
  clear hrow hf
  go_enter Tryd.func31, Tryd.ntmps31
  go_wp2_with fail
  go_loop [2, 7] (fun t c => ∃ j : Nat, j ≤ n ∧ c = .int .i64 (j : Int) ∧ t = .int .i64 ((countOf j f : Nat) : Int)) (fun _ c => n - (intOf c).toNat)
  case atStart => exact ⟨0, Nat.zero_le _, rfl, rfl⟩
  case round =>
    obtain ⟨j, hj, rfl, rfl⟩ := hrel
    have hle := countOf_le j f
    by_cases hjl : j < n
    · have hc : w.cell? ⟨B, j, none⟩ = some (.int .u64 (f j : Int)) := HROW.out.cell hjl
      have HO := Lib.hid (ones_calls (f j) w (HF.out j))
      have hp := popc_le 64 (f j)
      have hjI : (j : Int) < (n : Int) := by omega
      have HS : Hid (countOf (j + 1) f = countOf j f + popc (f j) 64) := countOf_succ j f
      go_wp2_with (go_at_call 47; refine HO.out.mono ?_; rintro e w' ⟨rfl, rfl⟩)
      go_round
      case rel => exact ⟨j + 1, by omega, by go_num, by rw [HS.out]; go_num⟩
      case measure => simp [intOf]; omega
    · have hje : j = n := by omega
      subst hje
      go_wp2
      go_ret
      exact ⟨rfl, rfl⟩

/-- Has a word a bit that another lacks? -/
def newB (x r : Nat) : Bool := (x &&& (18446744073709551615 - r)) != 0
def orsOf (f g : Nat → Nat) (j : Nat) : Nat → Nat := fun i => if i < j then f i ||| g i else f i
def anyNew (f g : Nat → Nat) (j : Nat) : Bool := (List.range j).any fun i => newB (g i) (f i)

theorem anyNew_succ (f g : Nat → Nat) (j : Nat) : anyNew f g (j + 1) = (anyNew f g j || newB (g j) (f j)) := by
  unfold anyNew; rw [List.range_succ, List.any_append]; simp

theorem new_eq (x r : Nat) (hx : x < 18446744073709551616) (hr : r < 18446744073709551616) : (bits .andNot .u64 (x : Int) (r : Int) != 0) = newB x r := by
  rw [u64_andNot_nat _ _ hx hr]
  unfold newB
  by_cases h : x &&& (18446744073709551615 - r) = 0
  · rw [h]; rfl
  · have : ((x &&& (18446744073709551615 - r) : Nat) : Int) ≠ 0 := by omega
    rw [bne_iff_ne.2 this, bne_iff_ne.2 h]

def JoinI (w : World) (B n : Nat) (f g : Nat → Nat) (b c : Value) (wr : World) : Prop :=
  ∃ j : Nat, j ≤ n ∧ c = .int .i64 (j : Int) ∧ b = .bool (anyNew f g j) ∧ RowW wr B n (orsOf f g j) ∧ Ext (· = B) w wr

def Joined (w : World) (B n : Nat) (f g : Nat → Nat) (e : Ending) (w' : World) : Prop :=
  e = .returned (.bool (anyNew f g n)) ∧ RowW w' B n (orsOf f g n) ∧ Ext (· = B) w w'

set_option maxRecDepth 100000 in
set_option maxHeartbeats 2000000 in
theorem rowJoin_calls (w : World) (B X n cp cq : Nat) (f g : Nat → Nat) (hBX : X ≠ B) (hrow : RowW w B n f) (hrx : RowW w X n g) (hf : ∀ i, f i < 18446744073709551616) (hg : ∀ i, g i < 18446744073709551616) (hn : n ≤ 90000) :
    Calls Tryd.prog 25 #[.slice (some ⟨B, 0, none⟩) n cp, .slice (some ⟨X, 0, none⟩) n cq] w (Joined w B n f g) := by
  have HROW := Lib.hid hrow
  have HRX := Lib.hid hrx
  have HF := Lib.hid hf
  have HG := Lib.hid hg
  clear hrow hf hg hrx
  go_enter Tryd.func25, Tryd.ntmps25
  go_wp2_with fail
  go_loopw [5, 10] (fun b c wr => JoinI w B n f g b c wr) (fun _ c _ => n - (intOf c).toNat)
  case atStart => exact ⟨0, Nat.zero_le _, rfl, rfl, HROW.out.congr (fun i _ => by simp [orsOf]), Ext.refl _ _⟩
  case round =>
    obtain ⟨j, hj, rfl, rfl, hr, hx⟩ := hrel
    by_cases hjl : j < n
    · have c1 : wr.cell? ⟨B, j, none⟩ = some (.int .u64 (f j : Int)) := by rw [hr.cell hjl]; simp [orsOf]
      have c2 : wr.cell? ⟨X, j, none⟩ = some (.int .u64 (g j : Int)) := (HRX.out.ext hx hBX).cell hjl
      have c3 : wr.frozen? ⟨B, j, none⟩ = false := hr.frozen
      have e1 := new_eq (g j) (f j) (HG.out j) (HF.out j)
      have e2 := u64_or_nat (f j) (g j) (HF.out j) (HG.out j)
      have hjI : (j : Int) < (n : Int) := by omega
      have HS : Hid (JoinI w B n f g (.bool (anyNew f g j || newB (g j) (f j))) (.int .i64 ((j : Int) + 1)) (wr.setCell ⟨B, j, none⟩ (.int .u64 ((f j ||| g j : Nat) : Int)))) := by
        refine ⟨j + 1, by omega, by simp, by rw [anyNew_succ], hr.set.congr (fun i _ => ?_), hx.trans (Ext.set1 _ _ _ _) (fun j hj => .inl hj)⟩
        unfold orsOf
        by_cases hi : i = j
        · subst hi; rw [if_pos rfl, if_pos (by omega)]
        · rw [if_neg hi]
          by_cases hij : i < j
          · rw [if_pos hij, if_pos (by omega)]
          · rw [if_neg hij, if_neg (by omega)]
      clear hr hx
      cases hb : anyNew f g j with
      | true =>
        rw [hb] at HS
        clear hb
        go_wp2
        exact ⟨HS.out, by simp [intOf]; omega⟩
      | false =>
        rw [hb] at HS
        clear hb
        simp only [Bool.false_or] at HS
        go_wp2
        exact ⟨HS.out, by simp [intOf]; omega⟩
    · have hje : j = n := by omega
      subst hje
      have HP : Hid (Joined w B j f g (.returned (.bool (anyNew f g j))) wr) := ⟨rfl, hr, hx⟩
      clear hr hx
      go_wp2
      go_ret
      exact HP.out
end Go.Proofs.YtpbkkajgcdahcaaDoor
