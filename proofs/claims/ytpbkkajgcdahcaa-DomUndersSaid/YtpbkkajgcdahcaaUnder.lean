/- The iterator of what is under one. -/
import Derived.Test.YtpbkkajgcdahcaaDomN
import Derived.Test.YtpbkkajgcdahcaaSep
namespace Go.Proofs.Ytpbkkajgcdahcaa
open Go.RowKit

theorem wpListIn_meetsW {P : Program} {n : Nat} {ops : Array Oper} {rest : List Oper} {o : Oper} {a : Act} {w : World} {Q : Exit → Act → World → Prop} {r : Option Nat} (hw : Region.wanted o (yielded ops a.tmps) = true) (f : Operand) (ys : Array Operand) (ts : Array TypeId)
    (ho : o.op = .call { callee := .value f, args := ys, argTypes := ts }) {fv : Value} {args : Array Value} {R : Value → World → Prop} (hf : a.eval f = fv) (hy : ys.map a.eval = args) (hm : Meets P fv args w R)
    (h : ∀ v w', R v w' → wpListIn { Fence.wide with round := r } n P ops Q rest (a.put o.dst v) w') : wpListIn { Fence.wide with round := r } n P ops Q (o :: rest) a w :=
  wpListIn_step fun _ hK => by
    rw [if_pos hw]
    exact hm r n o f ys ts a _ Q ho hf hy fun v w' hv => hK _ _ (h v w' hv)

theorem wpListIn_okW {P : Program} {n : Nat} {ops : Array Oper} {rest : List Oper} {o : Oper} {a : Act} {w w' : World} {Q : Exit → Act → World → Prop} {r : Option Nat} (hw : Region.wanted o (yielded ops a.tmps) = true) (hd : ∀ c, o.op ≠ .defer c) (v : Value)
    (hrun : (execOp a.eval o).run P w = .ok (.value v) w') (h : wpListIn { Fence.wide with round := r } n P ops Q rest (a.put o.dst v) w') : wpListIn { Fence.wide with round := r } n P ops Q (o :: rest) a w :=
  wpListIn_step fun _ hK => by
    rw [if_pos hw]
    refine ⟨fun _ _ => trivial, ?_⟩
    rw [Oper.semAt_eq _ _ _ hd, hrun]
    exact hK _ _ h

variable {T O PL R n : Nat} {o : Nat → Option Nat} {q : List Nat}

/-- What is right under one, of the first j. -/
def undL (o : Nat → Option Nat) (at_ : Int) (j : Nat) : List Nat := (List.range j).filter fun b => decide (oI (o b) = at_)

theorem undL_succ (o : Nat → Option Nat) (at_ : Int) (j : Nat) : undL o at_ (j + 1) = if oI (o j) = at_ then undL o at_ j ++ [j] else undL o at_ j := by
  unfold undL
  rw [List.range_succ, List.filter_append, List.filter_cons]
  by_cases h : oI (o j) = at_ <;> simp [h]

theorem undL_len (o : Nat → Option Nat) (at_ : Int) (j : Nat) : (undL o at_ j).length ≤ j := by
  unfold undL; exact Nat.le_trans (List.length_filter_le _ _) (by simp)

theorem undL_prefix (o : Nat → Option Nat) (at_ : Int) {j n : Nat} (h : j ≤ n) : undL o at_ j <+: undL o at_ n := by
  obtain ⟨d, rfl⟩ := Nat.exists_eq_add_of_le h
  induction d with
  | zero => exact List.prefix_rfl
  | succ d ih =>
    have := ih (by omega)
    rw [← Nat.add_assoc, undL_succ]
    split
    · exact this.trans (List.prefix_append _ _)
    · exact this

/-- What Under tells. -/
def undOf (o : Nat → Option Nat) (q : List Nat) (at_ : Int) (n : Nat) : List Nat := if inQ q at_ = true then undL o at_ n else []

def undRd (B T O PL : Nat) (k : Nat) : Prop := k = B ∨ k = B + 1 ∨ k = T ∨ k = O ∨ k = PL

def undEnc (x : Nat) : Array Value := #[.int .i64 (x : Int)]

set_option maxRecDepth 100000 in
set_option maxHeartbeats 4000000 in
theorem under1_iter (w : World) (B : Nat) (at_ : Int) (h1 : w.heap[B]? = some (.cells #[.pointer (some ⟨T, 0, none⟩)] 48 (0, 0))) (h2 : w.heap[B + 1]? = some (.cells #[.int .i64 at_] 3 (0, 0))) (ht : TreeI w T O PL R n o q) (hq : Ord n q) (hn : n ≤ 90000) :
    Iter Try.prog 74 #[.pointer (some ⟨B, 0, none⟩), .pointer (some ⟨B + 1, 0, none⟩)] undEnc (undOf o q at_ n) (undRd B T O PL) w := by
  intro l J Jx C W hbw hst hJC hstx hmeet hJ
  have HJC := Lib.hid hJC
  have HM := Lib.hid hmeet
  have HJ := Lib.hid hJ
  have HQ := Lib.hid hq
  have htW := ht.below hbw
  have hB1 := (hbw.block B (Array.getElem?_eq_some_iff.1 h1).1).trans h1
  have hB2 := (hbw.block (B + 1) (Array.getElem?_eq_some_iff.1 h2).1).trans h2
  have HR : Hid (∀ W1, Ext (fun k => ¬ undRd B T O PL k) W W1 → W1.cell? ⟨B, 0, none⟩ = some (.pointer (some ⟨T, 0, none⟩)) ∧ W1.cell? ⟨B + 1, 0, none⟩ = some (.int .i64 at_) ∧ TreeI W1 T O PL R n o q) := by
    intro W1 hx
    refine ⟨by rw [cell_of_row _ _ _ _ _ _ (hx.heap hB1 (fun h => h (.inl rfl)))]; rfl, by rw [cell_of_row _ _ _ _ _ _ (hx.heap hB2 (fun h => h (.inr (.inl rfl))))]; rfl, htW.ext hx (fun h => h (.inr (.inr (.inl rfl)))) (fun h => h (.inr (.inr (.inr (.inl rfl))))) (fun h => h (.inr (.inr (.inr (.inr rfl)))))⟩
  obtain ⟨c1, c2, ht0⟩ := HR.out W (Ext.refl _ _)
  have HRE := Lib.hid (reached_calls W ht0 hq hn at_)
  clear hst hJC hstx hmeet hJ h1 h2 ht hbw htW hB1 hB2 hq
  obtain ⟨XS, hXS⟩ : ∃ XS, undOf o q at_ n = XS := ⟨_, rfl⟩
  rw [hXS] at HM ⊢
  have HXS := Lib.hid hXS
  clear hXS
  have c0 := ht0.c0
  clear ht0
  show Calls _ _ #[.func (.yield l) #[] #[], .pointer (some ⟨B, 0, none⟩), .pointer (some ⟨B + 1, 0, none⟩)] _ _
  go_enter Try.func74, Try.ntmps74
  go_wp2_with fail
  go_at_call 64
  refine HRE.out.mono ?_
  rintro e w2 ⟨rfl, hw2⟩
  rw [hw2]
  clear hw2
  obtain ⟨b, hb⟩ : ∃ b, inQ q at_ = b := ⟨_, rfl⟩
  rw [hb]
  have HB := Lib.hid hb
  clear hb
  cases b with
  | false =>
    have HU : Hid (XS = []) := by unfold Hid; rw [← HXS.out]; unfold undOf; rw [HB.out]; rfl
    go_wp2
    ((try simp only [Exit.inBlock, Exit.then]); (try rw [Exit.noGoto_ret]); (first | refine bodyPost_ret (results_none rfl _ _ _) rfl ?_ | refine bodyPost_end (results_none rfl _ _ _) rfl ?_))
    exact ⟨_, rfl, .inl ⟨C, by rw [HU.out]; exact HJ.out⟩⟩
  | true =>
    have HU : Hid (XS = undL o at_ n) := by unfold Hid; rw [← HXS.out]; unfold undOf; rw [HB.out]; rfl
    go_wp2_with fail
    go_loopw [15] (fun i wr => ∃ (j : Nat) (C : Nat → Prop), j ≤ n ∧ i = .int .i64 (j : Int) ∧ J (undL o at_ j) C wr ∧ Ext (fun k => ¬ undRd B T O PL k) W wr) (fun i _ => n - (intOf i).toNat)
    case atStart => exact ⟨0, C, Nat.zero_le _, rfl, HJ.out, Ext.refl _ _⟩
    case round =>
      obtain ⟨j, C1, hj, rfl, hJ1, hx1⟩ := hrel
      by_cases hjn : j < n
      · obtain ⟨_, c2', ht'⟩ := HR.out wr hx1
        have co := ht'.co hjn
        have hjI : (j : Int) < (n : Int) := by omega
        clear ht' c0 c1 c2
        obtain ⟨z, hz⟩ : ∃ z, oI (o j) = z := ⟨_, rfl⟩
        rw [hz] at co
        by_cases he : z = at_
        · have hs : undL o at_ (j + 1) = undL o at_ j ++ [j] := by rw [undL_succ, if_pos (by rw [hz]; exact he)]
          have HS := Lib.hid hs
          have HMM := Lib.hid (HM.out (undL o at_ j) j C1 wr hJ1 (by rw [← hs, HU.out]; exact undL_prefix o at_ hjn))
          unfold undEnc at HMM
          have hzI : (z == at_) = true := by rw [he]; simp
          have HX1 := Lib.hid hx1
          have HJ1 := Lib.hid hJ1
          clear hx1 hJ1 hs hz he
          go_upto_region 4 with (fail)
          refine (wpIn_wide (n := 0)).1 ?_
          refine wpIn_region_lit (wpListIn_ok rfl (by simp) (.int .i64 z) (w' := wr) (by simp [go_sem]) ?_)
          simp only [Act.put, List.setIfInBounds_toArray, List.set_cons_zero, List.set_cons_succ]
          refine wpListIn_ok rfl (by simp) (.int .i64 at_) (w' := wr) (by simp [go_sem, c2']) ?_
          simp only [Act.put, List.setIfInBounds_toArray, List.set_cons_zero, List.set_cons_succ]
          refine wpListIn_ok rfl (by simp) (.bool true) (w' := wr) (by simp [go_sem, hzI]) ?_
          simp only [Act.put, List.setIfInBounds_toArray, List.set_cons_zero, List.set_cons_succ]
          refine wpListIn_ok rfl (by simp) (.bool true) (w' := wr) (by simp [go_sem]) ?_
          simp only [Act.put, List.setIfInBounds_toArray, List.set_cons_zero, List.set_cons_succ]
          refine wpListIn_okW (by rfl) (by simp) (.func (.yield l) #[] #[]) (w' := wr) (by simp [go_sem]) ?_
          simp only [Act.put, List.setIfInBounds_toArray, List.set_cons_zero, List.set_cons_succ]
          refine wpListIn_okW (by rfl) (by simp) (.int .i64 (j : Int)) (w' := wr) (by simp [go_sem]) ?_
          simp only [Act.put, List.setIfInBounds_toArray, List.set_cons_zero, List.set_cons_succ]
          refine wpListIn_meetsW (fv := .func (.yield l) #[] #[]) (args := #[.int .i64 (j : Int)]) (by rfl) (.tmp 24) #[.tmp 25] _ rfl rfl (by simp [Act.eval]) HMM.out ?_
          intro v w3 hv
          simp only [Act.put, List.setIfInBounds_toArray, List.set_cons_zero, List.set_cons_succ]
          rcases hv with ⟨rfl, C', hC', hJ', hx'⟩ | ⟨rfl, hJ'⟩
          · refine wpListIn_okW (by rfl) (by simp) (.bool false) (w' := w3) (by simp [go_sem]) ?_
            simp only [Act.put, List.setIfInBounds_toArray, List.set_cons_zero, List.set_cons_succ]
            refine wpListIn_ok rfl (by simp) (.bool false) (w' := w3) (by simp [go_sem]) ?_
            simp only [Act.put, List.setIfInBounds_toArray, List.set_cons_zero, List.set_cons_succ]
            refine wpListIn_nil ?_
            have HN : Hid (J (undL o at_ (j + 1)) C' w3 ∧ Ext (fun k => ¬ undRd B T O PL k) W w3) :=
              ⟨by rw [HS.out]; exact hJ', HX1.out.trans hx' (fun k hk => .inl ((HJC.out _ _ _ HJ1.out k hk).2))⟩
            clear hJ' hx' hC' c2' co
            go_wp2
            go_roundw
            case rel => exact ⟨j + 1, C', by omega, by go_num, HN.out.1, HN.out.2⟩
            case measure => simp [intOf]; omega
          · refine wpListIn_okW (by rfl) (by simp) (.bool true) (w' := w3) (by simp [go_sem]) ?_
            simp only [Act.put, List.setIfInBounds_toArray, List.set_cons_zero, List.set_cons_succ]
            refine wpListIn_ok rfl (by simp) (.bool true) (w' := w3) (by simp [go_sem]) ?_
            simp only [Act.put, List.setIfInBounds_toArray, List.set_cons_zero, List.set_cons_succ]
            refine wpListIn_nil ?_
            have HF : Hid (∃ pre, pre <+: XS ∧ Jx pre w3) := ⟨undL o at_ (j + 1), by rw [HU.out]; exact undL_prefix o at_ hjn, by rw [HS.out]; exact hJ'⟩
            clear hJ' c2' co
            go_wp2
            ((try simp only [Exit.inBlock, Exit.then]); (try rw [Exit.noGoto_ret]); (first | refine bodyPost_ret (results_none rfl _ _ _) rfl ?_ | refine bodyPost_end (results_none rfl _ _ _) rfl ?_))
            exact ⟨_, rfl, .inr HF.out⟩
        · have hs : undL o at_ (j + 1) = undL o at_ j := by rw [undL_succ, if_neg (by rw [hz]; exact he)]
          have hzI : (z == at_) = false := by rw [beq_eq_false_iff_ne]; exact he
          have HN : Hid (J (undL o at_ (j + 1)) C1 wr ∧ Ext (fun k => ¬ undRd B T O PL k) W wr) := ⟨by rw [hs]; exact hJ1, hx1⟩
          clear hx1 hJ1 hs hz he
          go_wp2
          go_roundw
          case rel => exact ⟨j + 1, C1, by omega, by go_num, HN.out.1, HN.out.2⟩
          case measure => simp [intOf]; omega
      · have hje : j = n := by omega
        subst hje
        have HF : Hid (J XS C1 wr) := by unfold Hid; rw [HU.out]; exact hJ1
        clear hJ1 hx1
        go_wp2
        ((try simp only [Exit.inBlock, Exit.then]); (try rw [Exit.noGoto_ret]); (first | refine bodyPost_ret (results_none rfl _ _ _) rfl ?_ | refine bodyPost_end (results_none rfl _ _ _) rfl ?_))
        exact ⟨_, rfl, .inl ⟨C1, HF.out⟩⟩
end Go.Proofs.Ytpbkkajgcdahcaa
