/- All functions, group by group: an iterator. -/
import Derived.Test.YtbbogkcfngpbbaaCaE
namespace Go.Proofs.Ytbbogkcfngpbbaa
open Go.RowKit

def upEnc (x : Nat) : Array Value := #[.int .i64 (x : Int)]

set_option maxRecDepth 100000 in
theorem up_calls (w : World) (p : Option Addr) : Calls Try.prog 41 #[.pointer p] w fun e w' =>
    e = .returned (.func (.func 82) #[] #[.pointer (some ⟨w.heap.size, 0, none⟩)]) ∧ w' = w.alloc (.cells #[.pointer p] 58) := by
  go_enter Try.func41, Try.ntmps41
  go_wp2
  go_ret
  exact ⟨rfl, rfl⟩

set_option maxRecDepth 100000 in
theorem upNil_iter (w : World) (B : Nat) (h1 : w.heap[B]? = some (.cells #[.pointer none] 58 (0, 0))) : Iter Try.prog 82 #[.pointer (some ⟨B, 0, none⟩)] upEnc ([] : List Nat) (fun k => k = B) w := by
  intro l J Jx C W hbw hst hJC hstx hmeet hJ
  have HJ := Lib.hid hJ
  have c0 : W.cell? ⟨B, 0, none⟩ = some (.pointer none) := by rw [cell_of_row _ _ _ _ _ _ ((hbw.block B (Array.getElem?_eq_some_iff.1 h1).1).trans h1)]; rfl
  clear hst hJC hstx hmeet hJ
  simp only [List.append_toArray, List.cons_append, List.nil_append]
  go_enter Try.func82, Try.ntmps82
  go_wp2
  ((try simp only [Exit.inBlock, Exit.then]); (try rw [Exit.noGoto_ret]); (first | refine bodyPost_ret (results_none rfl _ _ _) rfl ?_ | refine bodyPost_end (results_none rfl _ _ _) rfl ?_))
  exact ⟨_, rfl, .inl ⟨C, HJ.out⟩⟩

theorem flat_pre {ls : List (List Nat)} {a b : Nat} {l : List Nat} (hl : ls[a]? = some l) : (ls.take a).flatten ++ l.take b <+: ls.flatten := by
  obtain ⟨h1, h2⟩ := List.getElem?_eq_some_iff.1 hl
  have e : ls = ls.take a ++ l :: ls.drop (a + 1) := by
    conv => lhs; rw [← List.take_append_drop a ls]
    rw [List.drop_eq_getElem_cons h1, h2]
  conv => rhs; rw [e]
  rw [List.flatten_append, List.flatten_cons]
  refine ⟨l.drop b ++ (ls.drop (a + 1)).flatten, ?_⟩
  rw [List.append_assoc, ← List.append_assoc (l.take b), List.take_append_drop]

theorem flat_step {ls : List (List Nat)} {a : Nat} {l : List Nat} (hl : ls[a]? = some l) : (ls.take (a + 1)).flatten = (ls.take a).flatten ++ l := by
  rw [show ls.take (a + 1) = ls.take a ++ [l] from by rw [List.take_add_one, hl]; rfl, List.flatten_append]; simp

/-- What the iterator reads. -/
def upRd (B G H H2 : Nat) (k : Nat) : Prop := k = B ∨ k = G ∨ (H ≤ k ∧ k < H2)

set_option maxRecDepth 100000 in
set_option maxHeartbeats 4000000 in
theorem up1_iter (w0 w : World) (B G H : Nat) (gv : Value) (ls : List (List Nat)) (h1 : w.heap[B]? = some (.cells #[.pointer (some ⟨G, 0, none⟩)] 58 (0, 0))) (hG : w.cell? ⟨G, 4, none⟩ = some gv) (hr : GrpI w0 H gv ls) (hb0 : Below w0.heap.size w0 w)
    (hl : ls.length ≤ 70) (hll : ∀ l ∈ ls, l.length ≤ 70) :
    Iter Try.prog 82 #[.pointer (some ⟨B, 0, none⟩)] upEnc ls.flatten (upRd B G H w0.heap.size) w := by
  obtain ⟨ao, cap, rfl⟩ := hr.slice
  intro l J Jx C W hbw hst hJC hstx hmeet hJ
  have HJC := Lib.hid hJC
  have HM := Lib.hid hmeet
  have HJ := Lib.hid hJ
  have HLL := Lib.hid hll
  obtain ⟨H2, hH2⟩ : ∃ H2, w0.heap.size = H2 := ⟨_, rfl⟩
  have HRD : Hid (∀ wr, Ext (fun k => ¬ upRd B G H H2 k) W wr → wr.cell? ⟨B, 0, none⟩ = some (.pointer (some ⟨G, 0, none⟩)) ∧ wr.cell? ⟨G, 4, none⟩ = some (.slice ao ls.length cap)) := by
    intro wr hx
    have hBl := (Array.getElem?_eq_some_iff.1 h1).1
    have hGl := (spot_of_cell hG).2
    have hs := hbw.size
    have hs0 := hb0.size
    refine ⟨?_, ?_⟩
    · rw [hx.cell (a := ⟨B, 0, none⟩) (by show B < _; omega) (fun h => h (.inl rfl)), hbw.cell (p := ⟨B, 0, none⟩) hBl, cell_of_row _ _ _ _ _ _ h1]; rfl
    · rw [hx.cell (a := ⟨G, 4, none⟩) (by show G < _; have : G < w.heap.size := hGl; omega) (fun h => h (.inr (.inl rfl))), hbw.cell (p := ⟨G, 4, none⟩) hGl]; exact hG
  have HROW : Hid (∀ (a : Nat) (m : List Nat), ls[a]? = some m → ∃ g al cl, ao = some ⟨g, 0, none⟩ ∧ ∀ wr, Ext (fun k => ¬ upRd B G H H2 k) W wr → wr.cell? ⟨g, a, none⟩ = some (.slice al m.length cl) ∧ wr.ownsRow H 3 1 (.slice al m.length cl) m.length (m.flatMap encN)) := by
    intro a m hm
    obtain ⟨vals, v1, v2, v3⟩ := hr.ex
    have hs := hbw.size
    have hs0 := hb0.size
    have key : ∀ (wr : World), Ext (fun k => ¬ upRd B G H H2 k) W wr → ∀ (e : TypeId) (sz m : Nat) (v : Value) (xs : List Value), w0.ownsRow H e sz v m xs → wr.ownsRow H e sz v m xs := by
      intro wr hx e sz m v xs ho
      refine ⟨ho.1, ?_⟩
      rcases ho.2 with h' | ⟨g, cap', cur, e1, e2, e3, e4⟩
      · exact .inl h'
      · have hg : g < w0.heap.size := (Array.getElem?_eq_some_iff.1 e3).1
        have e5 := (hb0.block g hg).trans e3
        have e6 := (hbw.block g (by omega)).trans e5
        exact .inr ⟨g, cap', cur, e1, e2, hx.heap e6 (fun h => h (.inr (.inr ⟨e2, by omega⟩))), e4⟩
    obtain ⟨v, hv⟩ : ∃ v, vals[a]? = some v := ⟨_, List.getElem?_eq_getElem (by have := (List.getElem?_eq_some_iff.1 hm).1; omega)⟩
    obtain ⟨q1, _⟩ := v3 a v m hv hm
    obtain ⟨al, cl, rfl⟩ := ownsRow_slice q1
    obtain ⟨g, e, _, _⟩ := ownsRow_get v2 hv
    refine ⟨g, al, cl, e, fun wr hx => ⟨?_, key wr hx _ _ _ _ _ q1⟩⟩
    obtain ⟨g2, e2, _, c2⟩ := ownsRow_get (key wr hx _ _ _ _ _ v2) hv
    rw [e] at e2
    simp only [Option.some.injEq, Addr.mk.injEq] at e2
    obtain ⟨rfl, _⟩ := e2
    exact c2
  obtain ⟨c0, c4⟩ := HRD.out W (Ext.refl _ _)
  rw [hH2] at HJC
  clear hst hJC hstx hmeet hJ hr hb0 hbw h1 hG hll
  simp only [List.append_toArray, List.cons_append, List.nil_append]
  go_enter Try.func82, Try.ntmps82
  go_wp2_with fail
  go_loopw [14] (fun i wr => ∃ (a : Nat) (C : Nat → Prop), a ≤ ls.length ∧ i = .int .i64 (a : Int) ∧ J (ls.take a).flatten C wr ∧ Ext (fun k => ¬ upRd B G H H2 k) W wr) (fun i _ => ls.length - (intOf i).toNat)
  case atStart => exact ⟨0, C, Nat.zero_le _, rfl, HJ.out, Ext.refl _ _⟩
  case round =>
    obtain ⟨a, C1, ha, rfl, hJ1, hx1⟩ := hrel
    by_cases hal : a < ls.length
    · have haI : (a : Int) < (ls.length : Int) := by omega
      obtain ⟨m, hm⟩ : ∃ m, ls[a]? = some m := ⟨_, List.getElem?_eq_getElem hal⟩
      have hml := HLL.out m (List.mem_of_getElem? hm)
      obtain ⟨g, al, cl, rfl, hrow⟩ := HROW.out a m hm
      have cm := (hrow wr hx1).1
      have HRW := Lib.hid hrow
      have HMM := Lib.hid hm
      have HJ1 := Lib.hid hJ1
      have HX1 := Lib.hid hx1
      clear hm hJ1 hx1 hrow c0 c4
      go_wp2_with fail
      go_loopw [20] (fun i wr => ∃ (b : Nat) (C : Nat → Prop), b ≤ m.length ∧ i = .int .i64 (b : Int) ∧ J ((ls.take a).flatten ++ m.take b) C wr ∧ Ext (fun k => ¬ upRd B G H H2 k) W wr) (fun i _ => m.length - (intOf i).toNat)
      case atStart => exact ⟨0, C1, Nat.zero_le _, rfl, by rw [List.take_zero, List.append_nil]; exact HJ1.out, HX1.out⟩
      case round =>
        obtain ⟨b, C2, hb, rfl, hJ2, hx2⟩ := hrel
        by_cases hbl : b < m.length
        · have hbI : (b : Int) < (m.length : Int) := by omega
          obtain ⟨x, hx⟩ : ∃ x, m[b]? = some x := ⟨_, List.getElem?_eq_getElem hbl⟩
          obtain ⟨gx, rfl, _, cx⟩ := ownsRow_get (HRW.out wr hx2).2 (j := b) (u := .int .i64 (x : Int)) (by rw [encN_flat]; simp [nums, hx])
          have hs : (ls.take a).flatten ++ m.take (b + 1) = (ls.take a).flatten ++ m.take b ++ [x] := by rw [show m.take (b + 1) = m.take b ++ [x] from by rw [List.take_add_one, hx]; rfl, List.append_assoc]
          have HS := Lib.hid hs
          have HMC := Lib.hid (HM.out _ x C2 wr hJ2 (by rw [← hs]; exact flat_pre HMM.out))
          unfold upEnc at HMC
          have HX2 := Lib.hid hx2
          have HJ2 := Lib.hid hJ2
          clear hx2 hJ2 hs hx
          go_upto_region 7 with (fail)
          refine (wpIn_wide (n := 0)).1 ?_
          refine wpIn_region_lit (wpListIn_ok rfl (by simp) (.func (.yield l) #[] #[]) (w' := wr) (by simp [go_sem]) ?_)
          simp only [Act.put, List.setIfInBounds_toArray, List.set_cons_zero, List.set_cons_succ]
          refine wpListIn_ok rfl (by simp) (.int .i64 (x : Int)) (w' := wr) (by simp [go_sem]) ?_
          simp only [Act.put, List.setIfInBounds_toArray, List.set_cons_zero, List.set_cons_succ]
          refine wpListIn_meets (fv := .func (.yield l) #[] #[]) (args := #[.int .i64 (x : Int)]) rfl (.tmp 24) #[.tmp 25] _ rfl rfl (by simp [Act.eval]) HMC.out ?_
          intro v w3 hv
          simp only [Act.put, List.setIfInBounds_toArray, List.set_cons_zero, List.set_cons_succ]
          rcases hv with ⟨rfl, C', hC', hJ', hx'⟩ | ⟨rfl, hJ'⟩
          · refine wpListIn_ok rfl (by simp) (.bool false) (w' := w3) (by simp [go_sem]) ?_
            simp only [Act.put, List.setIfInBounds_toArray, List.set_cons_zero, List.set_cons_succ]
            refine wpListIn_nil ?_
            have HN : Hid (J ((ls.take a).flatten ++ m.take (b + 1)) C' w3 ∧ Ext (fun k => ¬ upRd B G H H2 k) W w3) :=
              ⟨by rw [HS.out]; exact hJ', HX2.out.trans hx' (fun k hk => .inl ((HJC.out _ _ _ HJ2.out k hk).2))⟩
            clear hJ' hx' hC' cx
            go_wp2
            go_roundw
            case rel => exact ⟨b + 1, C', by omega, by go_num, HN.out.1, HN.out.2⟩
            case measure => simp [intOf]; omega
          · refine wpListIn_ok rfl (by simp) (.bool true) (w' := w3) (by simp [go_sem]) ?_
            simp only [Act.put, List.setIfInBounds_toArray, List.set_cons_zero, List.set_cons_succ]
            refine wpListIn_nil ?_
            have HF : Hid (∃ pre, pre <+: ls.flatten ∧ Jx pre w3) := ⟨(ls.take a).flatten ++ m.take (b + 1), flat_pre HMM.out, by rw [HS.out]; exact hJ'⟩
            clear hJ' cx
            go_wp2
            ((try simp only [Exit.inBlock, Exit.then]); (try rw [Exit.noGoto_ret]); (first | refine bodyPost_ret (results_none rfl _ _ _) rfl ?_ | refine bodyPost_end (results_none rfl _ _ _) rfl ?_))
            exact ⟨_, rfl, .inr HF.out⟩
        · have hbe : b = m.length := by omega
          have HN : Hid (J (ls.take (a + 1)).flatten C2 wr ∧ Ext (fun k => ¬ upRd B G H H2 k) W wr) := by
            refine ⟨?_, hx2⟩
            rw [flat_step HMM.out]
            rw [hbe, List.take_length] at hJ2
            exact hJ2
          clear hJ2 hx2
          go_wp2
          go_roundw
          case rel => exact ⟨a + 1, C2, by omega, by go_num, HN.out.1, HN.out.2⟩
          case measure => simp [intOf]; omega
    · have hae : a = ls.length := by omega
      subst hae
      have HF : Hid (J ls.flatten C1 wr) := by
        rw [List.take_length] at hJ1; exact hJ1
      clear hJ1 hx1
      go_wp2
      ((try simp only [Exit.inBlock, Exit.then]); (try rw [Exit.noGoto_ret]); (first | refine bodyPost_ret (results_none rfl _ _ _) rfl ?_ | refine bodyPost_end (results_none rfl _ _ _) rfl ?_))
      exact ⟨_, rfl, .inl ⟨C1, HF.out⟩⟩
end Go.Proofs.Ytbbogkcfngpbbaa
