/- Rows of the numbers that a test picks: the reference's Vars. -/
import Derived.Test.YtpbkkajgcdahcaaDoorTab10
namespace Go.Proofs.YtpbkkajgcdahcaaDoor
open Go.RowKit

def pick (p : Nat → Bool) (n : Nat) : List Nat := (List.range n).filter p
theorem pick_succ (p : Nat → Bool) (j : Nat) : pick p (j + 1) = if p j = true then pick p j ++ [j] else pick p j := by
  unfold pick
  rw [List.range_succ, List.filter_append, List.filter_cons]
  split <;> simp
theorem pick_len (p : Nat → Bool) (n : Nat) : (pick p n).length ≤ n := by
  unfold pick
  exact Nat.le_trans (List.length_filter_le _ _) (by simp)

/-- Behind a function that gives a row of numbers of its own. -/
def GivesL (w : World) (xs : List Nat) (e : Ending) (w' : World) : Prop :=
  ∃ ao cap, e = .returned (.slice ao xs.length cap) ∧ OwnI w' w.heap.size (.slice ao xs.length cap) (ints xs) ∧ Below w.heap.size w w'

/-- A row that is being made: what p picks of the first j. -/
def PickI (p : Nat → Bool) (B : Nat) (w0 : World) (j : Nat) (v : Value) (wr : World) : Prop :=
  ∃ ao cap, v = .slice ao (pick p j).length cap ∧ wr.ownsRow B 3 1 (.slice ao (pick p j).length cap) (pick p j).length ((ints (pick p j)).map (Value.int .i64)) ∧ Below B w0 wr

theorem PickI.start (p : Nat → Bool) {B : Nat} {w0 wr : World} (h : Below B w0 wr) : PickI p B w0 0 (.slice none 0 0) wr :=
  ⟨none, 0, rfl, World.ownsRow_nil _ _ _ _, h⟩

theorem PickI.skip {p : Nat → Bool} {B j : Nat} {w0 wr : World} {v : Value} (h : PickI p B w0 j v wr) (hp : p j = false) : PickI p B w0 (j + 1) v wr := by
  have e : pick p (j + 1) = pick p j := by rw [pick_succ, hp]; rfl
  obtain ⟨ao, cap, h1, h2, h3⟩ := h
  exact ⟨ao, cap, by rw [e]; exact h1, by rw [e]; exact h2, h3⟩

theorem PickI.next {p : Nat → Bool} {B j : Nat} {w0 wr w' : World} {v : Value} (h : PickI p B w0 j v wr) (hb : Below wr.heap.size wr w') (hB : B ≤ wr.heap.size) : PickI p B w0 j v w' := by
  obtain ⟨ao, cap, h1, h2, h3⟩ := h
  exact ⟨ao, cap, h1, ownsRow_below h2 hb, h3.trans (hb.mono hB)⟩

theorem PickI.app {p : Nat → Bool} {B j g cap cap5 : Nat} {w0 wr w5 : World} {ao : Option Addr} (hp : p j = true) (hB : B ≤ wr.heap.size) (hb : Below B w0 wr)
    (hown : wr.ownsRow B 3 1 (.slice ao (pick p j).length cap) (pick p j).length ((ints (pick p j)).map (Value.int .i64)))
    (hown5 : w5.ownsRow B 3 1 (.slice (some ⟨g, 0, none⟩) ((pick p j).length + 1) cap5) ((pick p j).length + 1) ((ints (pick p j)).map (Value.int .i64) ++ [.int .i64 (j : Int)]))
    (hg : (wr.alloc (.cells #[.int .i64 (j : Int)] 3)).grownBy w5 (Value.slice ao (pick p j).length cap).ownBlock) : PickI p B w0 (j + 1) (.slice (some ⟨g, 0, none⟩) ((pick p j).length + 1) cap5) w5 := by
  have e : pick p (j + 1) = pick p j ++ [j] := by rw [pick_succ, hp]; rfl
  refine ⟨some ⟨g, 0, none⟩, cap5, by rw [e]; simp, ?_, ?_⟩
  · have e2 : (ints (pick p j ++ [j])).map (Value.int .i64) = (ints (pick p j)).map (Value.int .i64) ++ [.int .i64 (j : Int)] := by simp [ints]
    rw [e, e2]
    simpa using hown5
  · exact (hb.alloc hB _).grown hg (by simp; omega) (fun k hk => (hown.lt k hk).1)

theorem PickI.gives {p : Nat → Bool} {n : Nat} {w wr : World} {v : Value} (h : PickI p w.heap.size w n v wr) : GivesL w (pick p n) (.returned v) wr := by
  obtain ⟨ao, cap, h1, h2, h3⟩ := h
  refine ⟨ao, cap, by rw [h1], ?_, h3⟩
  unfold OwnI
  have : (ints (pick p n)).length = (pick p n).length := by simp [ints]
  rw [this]; exact h2

def atRow (S : Nat → List Nat) (n : Nat) (at_ : Int) (u : Nat) : Bool := decide (0 ≤ at_) && decide (at_ < (n : Int)) && decide (at_.toNat ∈ S u)

set_option maxRecDepth 100000 in
set_option maxHeartbeats 2000000 in
theorem refVars_calls (w : World) (base n m cap : Nat) (ao : Option Addr) (S : Nat → List Nat) (at_ : Int) (h : TabB w base n m S (.slice ao m cap)) (hm : m ≤ 400) (hn : n ≤ 400) :
    Calls Tryd.prog 9 #[.slice ao m cap, .int .i64 at_] w (GivesL w (pick (atRow S n at_) m)) := by
  have H := Lib.hid h
  clear h
  obtain ⟨N, hN⟩ : ∃ N, w.heap.size = N := ⟨_, rfl⟩
  obtain ⟨p, hp⟩ : ∃ p, atRow S n at_ = p := ⟨_, rfl⟩
  have HP := Lib.hid hp
  rw [hp]
  clear hp
  go_enter Tryd.func9, Tryd.ntmps9
  go_wp2_with fail
  go_loopw [5, 6] (fun v c wr => ∃ j : Nat, j ≤ m ∧ c = .int .i64 (j : Int) ∧ PickI p N w j v wr) (fun _ c _ => m - (intOf c).toNat)
  case atStart => exact ⟨0, Nat.zero_le _, rfl, PickI.start p (Below.refl _ _)⟩
  case round =>
    obtain ⟨j, hj, rfl, hpk⟩ := hrel
    have HPK := Lib.hid hpk
    obtain ⟨ao2, cap2, rfl, hown, hbl⟩ := hpk
    have hszr : N ≤ wr.heap.size := by have := hbl.size; omega
    by_cases hjm : j < m
    · obtain ⟨g, b, rfl, hg, hb, hc1, hc2⟩ := (H.out.below (by rw [hN]; exact hbl)).read hjm
      have hjI : (j : Int) < (m : Int) := by omega
      have hpj : p j = atRow S n at_ j := by rw [HP.out]
      have hpl := pick_len p j
      have HOWN := Lib.hid hown
      have HBL := Lib.hid hbl
      clear hown hbl
      by_cases a1 : 0 ≤ at_
      · by_cases a2 : at_ < (n : Int)
        · obtain ⟨x, rfl⟩ : ∃ x : Nat, at_ = (x : Int) := ⟨at_.toNat, by omega⟩
          have hxn : x < n := by omega
          have c3 := hc2 x hxn
          have hpx : p j = decide (x ∈ S j) := by rw [hpj]; unfold atRow; rw [decide_eq_true a1, decide_eq_true a2]; simp
          obtain ⟨q, hq⟩ : ∃ q, decide (x ∈ S j) = q := ⟨_, rfl⟩
          rw [hq] at c3 hpx
          have HPX := Lib.hid hpx
          clear hc2 hpj hpx hq
          cases q with
          | true =>
            obtain ⟨j0, hj0, hj1, hj2, hj3⟩ := info_parts info_int
            go_wp2_with (at_builtin; refine wpList_append_lies _ rfl _ _ 27 rfl N 3 j0 (.int .i64 0) 1 8 Tryd.underlying27 hj0 hj1 hj2 hj3 rfl (by decide) _ (pick p j).length _ rfl (ownsRow_below HOWN.out ((Below.refl wr.heap.size wr).alloc (Nat.le_refl _) _)) ⟨wr.heap.size, 0, none⟩ 1 1 [.int .i64 (j : Int)] rfl rfl (cells_new _ _ _) (by simp [Value.oneCell']) (by decide) ?c1 ?c2 ?c3 _ rfl ?_)
            case c1 => unfold maxLen; omega
            case c2 => omega
            case c3 => rw [World.size_alloc]; omega
            intro g5 cap5 w5 hown5 hgrow5 _ _
            have HR := Lib.hid (PickI.app HPX.out hszr HBL.out HOWN.out hown5 hgrow5)
            clear hown5 hgrow5
            go_wp2
            exact ⟨⟨j + 1, by omega, by simp, HR.out⟩, by simp [intOf]; omega⟩
          | false =>
            have HR := Lib.hid (HPK.out.skip HPX.out)
            go_wp2
            exact ⟨⟨j + 1, by omega, by simp, HR.out⟩, by simp [intOf]; omega⟩
        · have ha2 : decide (at_ < (n : Int)) = false := decide_eq_false a2
          have HR := Lib.hid (HPK.out.skip (by rw [hpj]; unfold atRow; rw [ha2]; simp))
          clear a2 hpj hc2
          go_wp2
          exact ⟨⟨j + 1, by omega, by simp, HR.out⟩, by simp [intOf]; omega⟩
      · have ha1 : decide (0 ≤ at_) = false := decide_eq_false a1
        have HR := Lib.hid (HPK.out.skip (by rw [hpj]; unfold atRow; rw [ha1]; simp))
        clear a1 hpj hc2
        go_wp2
        exact ⟨⟨j + 1, by omega, by simp, HR.out⟩, by simp [intOf]; omega⟩
    · have hje : j = m := by omega
      subst hje
      have HG : Hid (GivesL w (pick p j) (.returned (.slice ao2 (pick p j).length cap2)) wr) := by have := HPK.out; rw [← hN] at this; exact this.gives
      clear hown hbl
      go_wp2
      go_ret
      exact HG.out
end Go.Proofs.YtpbkkajgcdahcaaDoor
