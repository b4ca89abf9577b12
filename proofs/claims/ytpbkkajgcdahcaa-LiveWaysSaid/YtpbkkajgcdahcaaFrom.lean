/- The walk from an instruction, told one by one: From's closure. -/
import Derived.Test.YtpbkkajgcdahcaaWalk
namespace Go.Proofs.Ytpbkkajgcdahcaa
open Go.RowKit

/-- What From's closure reads. -/
def fromRd (c : Cod) (B : Nat) (k : Nat) : Prop := k = B ∨ k = B + 1 ∨ ∃ a, c.ins ≠ [] ∧ c.insA = some a ∧ a.block = k

theorem from11_meets (x : Nat) (W : World) {R : World → Prop} (h : R W) : Meets Try.prog (.func (.func 61) #[] #[]) #[.int .i64 (x : Int)] W fun _ W' => R W' := by
  refine meets_of_calls Try.func61 (by rfl) rfl ?_
  go_enter Try.func61, Try.ntmps61
  go_wp2
  ((try simp only [Exit.inBlock, Exit.then]); (try rw [Exit.noGoto_ret]); (first | refine bodyPost_ret (results_none rfl _ _ _) rfl ?_ | refine bodyPost_end (results_none rfl _ _ _) rfl ?_))
  exact ⟨_, rfl, h⟩

set_option maxRecDepth 100000 in
set_option maxHeartbeats 2000000 in
theorem from1_iter (c : Cod) (at_ : Int) (B : Nat) (w : World) (M : List Nat)
    (hins : InsRow w w.heap.size c.insA c.ins) (hn : c.ins.length ≤ 90000) (hb0 : w.heap[B]? = some (.cells c.cells 30 (0, 0))) (hb1 : w.heap[B + 1]? = some (.cells #[.int .i64 at_] 3 (0, 0)))
    (hM : (inR c.ins.length at_ = true → ∃ (k a : Nat) (L : List Nat), at_ = (a : Int) ∧ wlk (nextN c.ins) k [(a, nextN c.ins a)] [a] [] = some (M, L)) ∧ (inR c.ins.length at_ = false → M = [])) (hMl : M.length ≤ 90000) :
    Iter Try.prog 60 #[.pointer (some ⟨B + 1, 0, none⟩), .pointer (some ⟨B, 0, none⟩)] (fun x : Nat => #[.int .i64 (x : Int)]) M (fromRd c B) w := by
  intro l J Jx C W hbw hst hJC hstx hmeet hJ
  have hB : B < w.heap.size := (Array.getElem?_eq_some_iff.1 hb0).1
  have hB1 : B + 1 < w.heap.size := (Array.getElem?_eq_some_iff.1 hb1).1
  have hW0 : W.heap[B]? = some (.cells c.cells 30 (0, 0)) := (hbw.block B hB).trans hb0
  have hW1 : W.heap[B + 1]? = some (.cells #[.int .i64 at_] 3 (0, 0)) := (hbw.block (B + 1) hB1).trans hb1
  have ka : W.cell? ⟨B + 1, 0, none⟩ = some (.int .i64 at_) := by rw [cell_of_row _ _ _ _ _ _ hW1]; rfl
  obtain ⟨nm, par, varsA, nvars, varsC, rp, rto, rcl, fromA, nfrom, fromC, insA, insC, ins⟩ := c
  simp only at hn hM
  have hk : ∀ j v, ((⟨nm, par, varsA, nvars, varsC, rp, rto, rcl, fromA, nfrom, fromC, insA, insC, ins⟩ : Cod).cells)[j]? = some v → W.cell? ⟨B, j, none⟩ = some v := fun j v h => by rw [cell_of_row _ _ _ _ _ _ hW0]; exact h
  have k0 : W.cell? ⟨B, 0, none⟩ = some (.string nm) := hk 0 _ rfl
  have k1 : W.cell? ⟨B, 1, none⟩ = some (.int .i64 par) := hk 1 _ rfl
  have k2 : W.cell? ⟨B, 2, none⟩ = some (.slice varsA nvars varsC) := hk 2 _ rfl
  have k3 : W.cell? ⟨B, 3, none⟩ = some (.bool rp) := hk 3 _ rfl
  have k4 : W.cell? ⟨B, 4, none⟩ = some (.string rto) := hk 4 _ rfl
  have k5 : W.cell? ⟨B, 5, none⟩ = some (.int .i64 rcl) := hk 5 _ rfl
  have k6 : W.cell? ⟨B, 6, none⟩ = some (.slice fromA nfrom fromC) := hk 6 _ rfl
  have k7 : W.cell? ⟨B, 7, none⟩ = some (.slice insA ins.length insC) := hk 7 _ rfl
  clear hk
  by_cases hin : inR ins.length at_ = true
  · obtain ⟨q0, a, L, rfl, hwl⟩ := hM.1 hin
    have hal : a < ins.length := by simp [inR] at hin; omega
    have h0 : decide ((0 : Int) ≤ (a : Int)) = true := decide_eq_true (by omega)
    have h1 : decide ((a : Int) < (ins.length : Int)) = true := decide_eq_true (by omega)
    have HWK : Hid (∀ W' : World, Ext (fun _ => False) W W' → Calls Try.prog 52 #[.agg #[.string nm, .int .i64 par, .slice varsA nvars varsC, .bool rp, .string rto, .int .i64 rcl, .slice fromA nfrom fromC, .slice insA ins.length insC], .int .i64 (a : Int), .func (.yield l) #[] #[], .func (.func 61) #[] #[]] W'
        (fun e W2 => e = .returned (.tuple #[]) ∧ ((∃ C', J M C' W2) ∨ ∃ pre, pre <+: M ∧ Jx pre W2))) := by
      intro W' hx
      have hxw : Ext (fun _ => False) w W' := (Ext.of_below_size hbw (M := fun _ => False)).trans hx (fun _ h => .inl h)
      refine (walk_calls ⟨nm, par, varsA, nvars, varsC, rp, rto, rcl, fromA, nfrom, fromC, insA, insC, ins⟩ a (.yield l) #[] #[] (.func (.func 61) #[] #[]) (fun m _ C W => J m C W) Jx C W' M L q0 ?_ hal hn hwl hMl ?_ ?_ ?_ ?_ ?_).mono ?_
      · exact (hins.ext hxw (Nat.le_refl _) (fun _ _ _ h => h)).mono hxw.size
      · exact hst _ _ _ _ hJ (hx.mono fun _ h => h.elim)
      · intro m _ C W1 hj k hk
        have := hJC m C W1 hj k hk
        exact ⟨this.1, fun a ha e => this.2 (.inr (.inr ⟨a, by intro hnil; simp only at hnil; subst hnil; simp [inR] at hin; omega, ha, e⟩))⟩
      · intro m _ C W1 W2 hj hx2
        exact hst m C W1 W2 hj (hx2.mono fun k hk => ⟨by have := hx.size; omega, hk.2⟩)
      · exact fun m _ x C W1 hj hp => hmeet m x C W1 hj hp
      · exact fun m _ x C W1 hj hp => from11_meets x W1 ⟨C, fun _ h => .inl h, hj, Ext.refl _ _⟩
      · rintro e W2 ⟨rfl, h | h⟩
        · exact ⟨rfl, .inl h⟩
        · exact ⟨rfl, .inr h⟩
    clear hst hJC hstx hmeet hJ hM hwl hin hbw hb0 hb1 hW0 hW1 hins hMl
    go_enter Try.func60, Try.ntmps60
    go_wp2_with fail
    go_at_call 52
    refine (HWK.out _ ?_).mono ?_
    · exact Ext.refl _ _
    · rintro e W2 ⟨rfl, h⟩
      have H := Lib.hid h
      clear h HWK
      go_wp2
      ((try simp only [Exit.inBlock, Exit.then]); (try rw [Exit.noGoto_ret]); (first | refine bodyPost_ret (results_none rfl _ _ _) rfl ?_ | refine bodyPost_end (results_none rfl _ _ _) rfl ?_))
      exact ⟨_, rfl, H.out⟩
  · have hin' : inR ins.length at_ = false := by simpa using hin
    have hMe := hM.2 hin'
    have HF : Hid (M = [] ∧ J [] C W) := ⟨hMe, hJ⟩
    have hdd : decide (0 ≤ at_) = false ∨ (decide (0 ≤ at_) = true ∧ decide (at_ < (ins.length : Int)) = false) := by
      by_cases h : 0 ≤ at_
      · right; refine ⟨decide_eq_true h, decide_eq_false fun h2 => hin ?_⟩
        simp [inR]; omega
      · exact .inl (decide_eq_false h)
    clear hst hJC hstx hmeet hJ hM hMe hin hin' hbw hb0 hb1 hW0 hW1 hins hMl
    rcases hdd with hdd | ⟨hd1, hd2⟩
    · go_enter Try.func60, Try.ntmps60
      go_wp2
      ((try simp only [Exit.inBlock, Exit.then]); (try rw [Exit.noGoto_ret]); (first | refine bodyPost_ret (results_none rfl _ _ _) rfl ?_ | refine bodyPost_end (results_none rfl _ _ _) rfl ?_))
      exact ⟨_, rfl, .inl ⟨C, by rw [HF.out.1]; exact HF.out.2⟩⟩
    · go_enter Try.func60, Try.ntmps60
      go_wp2
      ((try simp only [Exit.inBlock, Exit.then]); (try rw [Exit.noGoto_ret]); (first | refine bodyPost_ret (results_none rfl _ _ _) rfl ?_ | refine bodyPost_end (results_none rfl _ _ _) rfl ?_))
      exact ⟨_, rfl, .inl ⟨C, by rw [HF.out.1]; exact HF.out.2⟩⟩
end Go.Proofs.Ytpbkkajgcdahcaa
