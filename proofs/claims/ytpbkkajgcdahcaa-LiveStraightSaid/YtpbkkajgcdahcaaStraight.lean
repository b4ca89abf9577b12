/- LiveStraight, at any numbers: true. -/
import Derived.Test.YtpbkkajgcdahcaaStraightP
namespace Go.Proofs.Ytpbkkajgcdahcaa
open Go.RowKit

def strCells (N : Nat) (v : Value) : Array Value := #[.string { data := #[] }, .int .i64 0, .slice (some ⟨N, 0, none⟩) 8 8, .bool false, .string { data := #[] }, .int .i64 0, .slice none 0 0, v]

def varCells (n : Nat) : Array Value := madeCells #[.bool false, .string ByteArray.empty, .int .i64 0] (n * 3)

/-- The code as far as it is made. -/
def StrI (w0 : World) (N : Nat) (l : List Tri) (c : Value) (wr : World) : Prop :=
  ∃ (j : Nat) (ao : Option Addr) (cap : Nat), j ≤ l.length ∧ c = .int .i64 (j : Int) ∧ (∀ t ∈ l.take j, t.fit) ∧ wr.heap[N]? = some (.cells (varCells 8) 26 (0, 0)) ∧ wr.heap[N + 1]? = some (.cells (strCells N (.slice ao j cap)) 30 (0, 0)) ∧
    wr.ownsRow (N + 2) 61 13 (.slice ao j cap) j (((l.take j).map sIns).flatMap fun i => i.cells.toList) ∧ Below N w0 wr

theorem info_ins : (Try.prog.info? 61).map (fun i => (i.zero, i.size, i.bytes)) = some (some (.agg #[.int .i64 0, .int .i64 0, .int .i64 0, .int .i64 0, .int .i64 0, .int .i64 0, .string ByteArray.empty, .slice none 0 0, .slice none 0 0, .int .i64 0, .int .i64 0, .int .i64 0, .int .i64 0]), 13, 144) := by kernel_rfl

set_option maxRecDepth 100000 in
set_option maxHeartbeats 8000000 in
theorem straight_calls (l : List Tri) (ao : Option Addr) (cap : Nat) (last : Int) (w : World) (hl : RowOf Tri.cells 3 w w.heap.size ao l) (hlen : l.length ≤ maxLen) :
    Calls Try.prog 9 #[.slice ao l.length cap, .int .i64 last] w fun e w' => e = .returned (.bool true) ∧ Below w.heap.size w w' := by
  have HL := Lib.hid hl
  unfold maxLen at hlen
  obtain ⟨N, hN⟩ : ∃ N, w.heap.size = N := ⟨_, rfl⟩
  have HAL : Hid (∀ W, Below N w W → Calls Try.prog 39 #[] W fun e w' => e = .returned (.bool true) ∧ Below N w w') := fun W h => (alive10_calls W).mono fun e w' ⟨h1, h2⟩ => ⟨h1, h.trans (h2.mono (by have := h.size; omega))⟩
  have hA0 := HAL.out w (Below.refl _ _)
  have HA0 := Lib.hid hA0
  clear hl hA0
  by_cases h60 : l.length ≤ 60
  · have hd60 : decide ((60 : Int) < (l.length : Int)) = false := decide_eq_false (by omega)
    by_cases h0 : 0 ≤ last
    · have hd0 : decide (last < 0) = false := decide_eq_false (by omega)
      by_cases h7 : last ≤ 7
      · have hd7 : decide ((7 : Int) < last) = false := decide_eq_false (by omega)
        obtain ⟨i0, hi0, hz0, hz1, hz2⟩ := info_parts info_var
        obtain ⟨W1, hW1⟩ : ∃ W1, (w.alloc (.cells (varCells 8) 26)).alloc (.cells (strCells N (.slice none 0 0)) 30) = W1 := ⟨_, rfl⟩
        have H0 : Hid (StrI w N l (.int .i64 0) W1) := by
          have hb1 : Below N w W1 := by rw [← hW1, ← hN]; exact ((Below.refl _ _).alloc (Nat.le_refl _) _).alloc (by simp) _
          refine ⟨0, none, 0, Nat.zero_le _, rfl, by simp, ?_, ?_, World.ownsRow_nil _ _ _ _, hb1⟩
          · rw [← hW1, ← hN, Below.heap_alloc _ _ _ (by simp)]; exact alloc_at _ _
          · rw [← hW1, ← hN]
            have := alloc_at (w.alloc (.cells (varCells 8) 26)) (.cells (strCells w.heap.size (.slice none 0 0)) 30)
            rwa [World.size_alloc] at this
        have HW1 := Lib.hid hW1
        have hl60 : l.length ≤ 60 := h60
        have hlast : 0 ≤ last ∧ last ≤ 7 := ⟨h0, h7⟩
        clear hW1 h60 h0 h7
        go_enter Try.func9, Try.ntmps9
        go_wp2_with (refine wpList_make_raw rfl _ _ 22 rfl 26 i0 (.agg #[.bool false, .string ByteArray.empty, .int .i64 0]) 3 Try.underlying22 hi0 hz0 hz1 .i64 .i64 _ _ 8 rfl rfl rfl rfl (by rw [hz2]; omega) (by unfold maxLen; omega) ?_)
        go_loopw [6] (fun c wr => StrI w N l c wr) (fun c _ => l.length - (intOf c).toNat)
        case atStart =>
          have h := H0.out
          rw [← HW1.out] at h
          exact h
        case round =>
          obtain ⟨j, ao2, cap2, hj, rfl, hfit, hvar, hcod, hown, hbl⟩ := hrel
          have c7 : wr.cell? ⟨N + 1, 7, none⟩ = some (.slice ao2 j cap2) := by rw [cell_of_row _ _ _ _ _ _ hcod]; rfl
          have f7 : wr.frozen? ⟨N + 1, 7, none⟩ = false := frozen_of_row _ _ _ _ _ hcod
          have hsN : N + 1 < wr.heap.size := (Array.getElem?_eq_some_iff.1 hcod).1
          have hj60 : j ≤ 60 := by omega
          by_cases hjl : j < l.length
          · obtain ⟨t, ht⟩ : ∃ t, l[j]? = some t := ⟨_, List.getElem?_eq_getElem hjl⟩
            obtain ⟨b, off, rfl, hb, hcell⟩ := HL.out (by intro e; rw [e] at hjl; simp at hjl)
            have hcw : ∀ k u, t.cells.toList[k]? = some u → wr.cell? ⟨b, off + j * 3 + k, none⟩ = some u := fun k u hu => by
              rw [hbl.cell (p := ⟨b, _, none⟩) (by rw [hN] at hb; exact hb)]; exact hcell j t ht k u hu
            obtain ⟨tx, ty, tz⟩ := t
            have r0 : wr.cell? ⟨b, off + j * 3, none⟩ = some (.int .i64 tx) := hcw 0 _ rfl
            have r1 : wr.cell? ⟨b, off + j * 3 + 1, none⟩ = some (.int .i64 ty) := hcw 1 _ rfl
            have r2 : wr.cell? ⟨b, off + j * 3 + 2, none⟩ = some (.int .i64 tz) := hcw 2 _ rfl
            have hjI : (j : Int) < (l.length : Int) := by omega
            have HT := Lib.hid ht
            have HFIT := Lib.hid hfit
            have HVAR := Lib.hid hvar
            have HCOD := Lib.hid hcod
            have HOWN := Lib.hid hown
            have HBL := Lib.hid hbl
            have hbl2 : b < wr.heap.size := by rw [hN] at hb; have := hbl.size; omega
            clear ht hfit hvar hcod hown hbl hcell hcw hb
            go_upto_region 7 with (fail)
            go_cut [66] (fun s66 wc => ∃ q, s66 = .bool q ∧ (∃ m, wc = wr.drewN m) ∧ (q = false → Tri.fit ⟨tx, ty, tz⟩))
            case first =>
              by_cases m1 : ty < tx
              · have Em1 : (ty < tx) = True := eq_true m1
                have Hm1 := Lib.hid m1
                clear m1
                by_cases m2 : tz < ty
                · have Em2 : (tz < ty) = True := eq_true m2
                  have Hm2 := Lib.hid m2
                  clear m2
                  by_cases m3 : tz < 0
                  · have Em3 : (tz < 0) = True := eq_true m3
                    have Hm3 := Lib.hid m3
                    clear m3
                    go_quiet (fail)
                    go_wp2
                    go_meet
                    case rel => exact ⟨true, rfl, ⟨_, rfl⟩, fun h => by cases h⟩
                  · have Em3 : (tz < 0) = False := eq_false m3
                    have Hm3 := Lib.hid m3
                    clear m3
                    by_cases d1 : tx < ty
                    · have Ed1 : (tx < ty) = True := eq_true d1
                      have Hd1 := Lib.hid d1
                      clear d1
                      by_cases d2 : ty < tz
                      · have Ed2 : (ty < tz) = True := eq_true d2
                        have Hd2 := Lib.hid d2
                        clear d2
                        by_cases d3 : 7 < tz
                        · have Ed3 : (7 < tz) = True := eq_true d3
                          have Hd3 := Lib.hid d3
                          clear d3
                          go_quiet (fail)
                          go_wp2
                          go_meet
                          case rel => exact ⟨true, rfl, ⟨_, rfl⟩, fun h => by cases h⟩
                        · have Ed3 : (7 < tz) = False := eq_false d3
                          have Hd3 := Lib.hid d3
                          clear d3
                          go_quiet (fail)
                          go_wp2
                          go_meet
                          case rel => exact ⟨false, rfl, ⟨_, rfl⟩, fun _ => by have kHm1 := Hm1.out; have kHm2 := Hm2.out; have kHm3 := Hm3.out; have kHd1 := Hd1.out; have kHd2 := Hd2.out; have kHd3 := Hd3.out; unfold Tri.fit; simp only; omega⟩
                      · have Ed2 : (ty < tz) = False := eq_false d2
                        have Hd2 := Lib.hid d2
                        clear d2
                        by_cases d3 : 7 < ty
                        · have Ed3 : (7 < ty) = True := eq_true d3
                          have Hd3 := Lib.hid d3
                          clear d3
                          go_quiet (fail)
                          go_wp2
                          go_meet
                          case rel => exact ⟨true, rfl, ⟨_, rfl⟩, fun h => by cases h⟩
                        · have Ed3 : (7 < ty) = False := eq_false d3
                          have Hd3 := Lib.hid d3
                          clear d3
                          go_quiet (fail)
                          go_wp2
                          go_meet
                          case rel => exact ⟨false, rfl, ⟨_, rfl⟩, fun _ => by have kHm1 := Hm1.out; have kHm2 := Hm2.out; have kHm3 := Hm3.out; have kHd1 := Hd1.out; have kHd2 := Hd2.out; have kHd3 := Hd3.out; unfold Tri.fit; simp only; omega⟩
                    · have Ed1 : (tx < ty) = False := eq_false d1
                      have Hd1 := Lib.hid d1
                      clear d1
                      by_cases d2 : tx < tz
                      · have Ed2 : (tx < tz) = True := eq_true d2
                        have Hd2 := Lib.hid d2
                        clear d2
                        by_cases d3 : 7 < tz
                        · have Ed3 : (7 < tz) = True := eq_true d3
                          have Hd3 := Lib.hid d3
                          clear d3
                          go_quiet (fail)
                          go_wp2
                          go_meet
                          case rel => exact ⟨true, rfl, ⟨_, rfl⟩, fun h => by cases h⟩
                        · have Ed3 : (7 < tz) = False := eq_false d3
                          have Hd3 := Lib.hid d3
                          clear d3
                          go_quiet (fail)
                          go_wp2
                          go_meet
                          case rel => exact ⟨false, rfl, ⟨_, rfl⟩, fun _ => by have kHm1 := Hm1.out; have kHm2 := Hm2.out; have kHm3 := Hm3.out; have kHd1 := Hd1.out; have kHd2 := Hd2.out; have kHd3 := Hd3.out; unfold Tri.fit; simp only; omega⟩
                      · have Ed2 : (tx < tz) = False := eq_false d2
                        have Hd2 := Lib.hid d2
                        clear d2
                        by_cases d3 : 7 < tx
                        · have Ed3 : (7 < tx) = True := eq_true d3
                          have Hd3 := Lib.hid d3
                          clear d3
                          go_quiet (fail)
                          go_wp2
                          go_meet
                          case rel => exact ⟨true, rfl, ⟨_, rfl⟩, fun h => by cases h⟩
                        · have Ed3 : (7 < tx) = False := eq_false d3
                          have Hd3 := Lib.hid d3
                          clear d3
                          go_quiet (fail)
                          go_wp2
                          go_meet
                          case rel => exact ⟨false, rfl, ⟨_, rfl⟩, fun _ => by have kHm1 := Hm1.out; have kHm2 := Hm2.out; have kHm3 := Hm3.out; have kHd1 := Hd1.out; have kHd2 := Hd2.out; have kHd3 := Hd3.out; unfold Tri.fit; simp only; omega⟩
                · have Em2 : (tz < ty) = False := eq_false m2
                  have Hm2 := Lib.hid m2
                  clear m2
                  by_cases m3 : ty < 0
                  · have Em3 : (ty < 0) = True := eq_true m3
                    have Hm3 := Lib.hid m3
                    clear m3
                    go_quiet (fail)
                    go_wp2
                    go_meet
                    case rel => exact ⟨true, rfl, ⟨_, rfl⟩, fun h => by cases h⟩
                  · have Em3 : (ty < 0) = False := eq_false m3
                    have Hm3 := Lib.hid m3
                    clear m3
                    by_cases d1 : tx < ty
                    · have Ed1 : (tx < ty) = True := eq_true d1
                      have Hd1 := Lib.hid d1
                      clear d1
                      by_cases d2 : ty < tz
                      · have Ed2 : (ty < tz) = True := eq_true d2
                        have Hd2 := Lib.hid d2
                        clear d2
                        by_cases d3 : 7 < tz
                        · have Ed3 : (7 < tz) = True := eq_true d3
                          have Hd3 := Lib.hid d3
                          clear d3
                          go_quiet (fail)
                          go_wp2
                          go_meet
                          case rel => exact ⟨true, rfl, ⟨_, rfl⟩, fun h => by cases h⟩
                        · have Ed3 : (7 < tz) = False := eq_false d3
                          have Hd3 := Lib.hid d3
                          clear d3
                          go_quiet (fail)
                          go_wp2
                          go_meet
                          case rel => exact ⟨false, rfl, ⟨_, rfl⟩, fun _ => by have kHm1 := Hm1.out; have kHm2 := Hm2.out; have kHm3 := Hm3.out; have kHd1 := Hd1.out; have kHd2 := Hd2.out; have kHd3 := Hd3.out; unfold Tri.fit; simp only; omega⟩
                      · have Ed2 : (ty < tz) = False := eq_false d2
                        have Hd2 := Lib.hid d2
                        clear d2
                        by_cases d3 : 7 < ty
                        · have Ed3 : (7 < ty) = True := eq_true d3
                          have Hd3 := Lib.hid d3
                          clear d3
                          go_quiet (fail)
                          go_wp2
                          go_meet
                          case rel => exact ⟨true, rfl, ⟨_, rfl⟩, fun h => by cases h⟩
                        · have Ed3 : (7 < ty) = False := eq_false d3
                          have Hd3 := Lib.hid d3
                          clear d3
                          go_quiet (fail)
                          go_wp2
                          go_meet
                          case rel => exact ⟨false, rfl, ⟨_, rfl⟩, fun _ => by have kHm1 := Hm1.out; have kHm2 := Hm2.out; have kHm3 := Hm3.out; have kHd1 := Hd1.out; have kHd2 := Hd2.out; have kHd3 := Hd3.out; unfold Tri.fit; simp only; omega⟩
                    · have Ed1 : (tx < ty) = False := eq_false d1
                      have Hd1 := Lib.hid d1
                      clear d1
                      by_cases d2 : tx < tz
                      · have Ed2 : (tx < tz) = True := eq_true d2
                        have Hd2 := Lib.hid d2
                        clear d2
                        by_cases d3 : 7 < tz
                        · have Ed3 : (7 < tz) = True := eq_true d3
                          have Hd3 := Lib.hid d3
                          clear d3
                          go_quiet (fail)
                          go_wp2
                          go_meet
                          case rel => exact ⟨true, rfl, ⟨_, rfl⟩, fun h => by cases h⟩
                        · have Ed3 : (7 < tz) = False := eq_false d3
                          have Hd3 := Lib.hid d3
                          clear d3
                          go_quiet (fail)
                          go_wp2
                          go_meet
                          case rel => exact ⟨false, rfl, ⟨_, rfl⟩, fun _ => by have kHm1 := Hm1.out; have kHm2 := Hm2.out; have kHm3 := Hm3.out; have kHd1 := Hd1.out; have kHd2 := Hd2.out; have kHd3 := Hd3.out; unfold Tri.fit; simp only; omega⟩
                      · have Ed2 : (tx < tz) = False := eq_false d2
                        have Hd2 := Lib.hid d2
                        clear d2
                        by_cases d3 : 7 < tx
                        · have Ed3 : (7 < tx) = True := eq_true d3
                          have Hd3 := Lib.hid d3
                          clear d3
                          go_quiet (fail)
                          go_wp2
                          go_meet
                          case rel => exact ⟨true, rfl, ⟨_, rfl⟩, fun h => by cases h⟩
                        · have Ed3 : (7 < tx) = False := eq_false d3
                          have Hd3 := Lib.hid d3
                          clear d3
                          go_quiet (fail)
                          go_wp2
                          go_meet
                          case rel => exact ⟨false, rfl, ⟨_, rfl⟩, fun _ => by have kHm1 := Hm1.out; have kHm2 := Hm2.out; have kHm3 := Hm3.out; have kHd1 := Hd1.out; have kHd2 := Hd2.out; have kHd3 := Hd3.out; unfold Tri.fit; simp only; omega⟩
              · have Em1 : (ty < tx) = False := eq_false m1
                have Hm1 := Lib.hid m1
                clear m1
                by_cases m2 : tz < tx
                · have Em2 : (tz < tx) = True := eq_true m2
                  have Hm2 := Lib.hid m2
                  clear m2
                  by_cases m3 : tz < 0
                  · have Em3 : (tz < 0) = True := eq_true m3
                    have Hm3 := Lib.hid m3
                    clear m3
                    go_quiet (fail)
                    go_wp2
                    go_meet
                    case rel => exact ⟨true, rfl, ⟨_, rfl⟩, fun h => by cases h⟩
                  · have Em3 : (tz < 0) = False := eq_false m3
                    have Hm3 := Lib.hid m3
                    clear m3
                    by_cases d1 : tx < ty
                    · have Ed1 : (tx < ty) = True := eq_true d1
                      have Hd1 := Lib.hid d1
                      clear d1
                      by_cases d2 : ty < tz
                      · have Ed2 : (ty < tz) = True := eq_true d2
                        have Hd2 := Lib.hid d2
                        clear d2
                        by_cases d3 : 7 < tz
                        · have Ed3 : (7 < tz) = True := eq_true d3
                          have Hd3 := Lib.hid d3
                          clear d3
                          go_quiet (fail)
                          go_wp2
                          go_meet
                          case rel => exact ⟨true, rfl, ⟨_, rfl⟩, fun h => by cases h⟩
                        · have Ed3 : (7 < tz) = False := eq_false d3
                          have Hd3 := Lib.hid d3
                          clear d3
                          go_quiet (fail)
                          go_wp2
                          go_meet
                          case rel => exact ⟨false, rfl, ⟨_, rfl⟩, fun _ => by have kHm1 := Hm1.out; have kHm2 := Hm2.out; have kHm3 := Hm3.out; have kHd1 := Hd1.out; have kHd2 := Hd2.out; have kHd3 := Hd3.out; unfold Tri.fit; simp only; omega⟩
                      · have Ed2 : (ty < tz) = False := eq_false d2
                        have Hd2 := Lib.hid d2
                        clear d2
                        by_cases d3 : 7 < ty
                        · have Ed3 : (7 < ty) = True := eq_true d3
                          have Hd3 := Lib.hid d3
                          clear d3
                          go_quiet (fail)
                          go_wp2
                          go_meet
                          case rel => exact ⟨true, rfl, ⟨_, rfl⟩, fun h => by cases h⟩
                        · have Ed3 : (7 < ty) = False := eq_false d3
                          have Hd3 := Lib.hid d3
                          clear d3
                          go_quiet (fail)
                          go_wp2
                          go_meet
                          case rel => exact ⟨false, rfl, ⟨_, rfl⟩, fun _ => by have kHm1 := Hm1.out; have kHm2 := Hm2.out; have kHm3 := Hm3.out; have kHd1 := Hd1.out; have kHd2 := Hd2.out; have kHd3 := Hd3.out; unfold Tri.fit; simp only; omega⟩
                    · have Ed1 : (tx < ty) = False := eq_false d1
                      have Hd1 := Lib.hid d1
                      clear d1
                      by_cases d2 : tx < tz
                      · have Ed2 : (tx < tz) = True := eq_true d2
                        have Hd2 := Lib.hid d2
                        clear d2
                        by_cases d3 : 7 < tz
                        · have Ed3 : (7 < tz) = True := eq_true d3
                          have Hd3 := Lib.hid d3
                          clear d3
                          go_quiet (fail)
                          go_wp2
                          go_meet
                          case rel => exact ⟨true, rfl, ⟨_, rfl⟩, fun h => by cases h⟩
                        · have Ed3 : (7 < tz) = False := eq_false d3
                          have Hd3 := Lib.hid d3
                          clear d3
                          go_quiet (fail)
                          go_wp2
                          go_meet
                          case rel => exact ⟨false, rfl, ⟨_, rfl⟩, fun _ => by have kHm1 := Hm1.out; have kHm2 := Hm2.out; have kHm3 := Hm3.out; have kHd1 := Hd1.out; have kHd2 := Hd2.out; have kHd3 := Hd3.out; unfold Tri.fit; simp only; omega⟩
                      · have Ed2 : (tx < tz) = False := eq_false d2
                        have Hd2 := Lib.hid d2
                        clear d2
                        by_cases d3 : 7 < tx
                        · have Ed3 : (7 < tx) = True := eq_true d3
                          have Hd3 := Lib.hid d3
                          clear d3
                          go_quiet (fail)
                          go_wp2
                          go_meet
                          case rel => exact ⟨true, rfl, ⟨_, rfl⟩, fun h => by cases h⟩
                        · have Ed3 : (7 < tx) = False := eq_false d3
                          have Hd3 := Lib.hid d3
                          clear d3
                          go_quiet (fail)
                          go_wp2
                          go_meet
                          case rel => exact ⟨false, rfl, ⟨_, rfl⟩, fun _ => by have kHm1 := Hm1.out; have kHm2 := Hm2.out; have kHm3 := Hm3.out; have kHd1 := Hd1.out; have kHd2 := Hd2.out; have kHd3 := Hd3.out; unfold Tri.fit; simp only; omega⟩
                · have Em2 : (tz < tx) = False := eq_false m2
                  have Hm2 := Lib.hid m2
                  clear m2
                  by_cases m3 : tx < 0
                  · have Em3 : (tx < 0) = True := eq_true m3
                    have Hm3 := Lib.hid m3
                    clear m3
                    go_quiet (fail)
                    go_wp2
                    go_meet
                    case rel => exact ⟨true, rfl, ⟨_, rfl⟩, fun h => by cases h⟩
                  · have Em3 : (tx < 0) = False := eq_false m3
                    have Hm3 := Lib.hid m3
                    clear m3
                    by_cases d1 : tx < ty
                    · have Ed1 : (tx < ty) = True := eq_true d1
                      have Hd1 := Lib.hid d1
                      clear d1
                      by_cases d2 : ty < tz
                      · have Ed2 : (ty < tz) = True := eq_true d2
                        have Hd2 := Lib.hid d2
                        clear d2
                        by_cases d3 : 7 < tz
                        · have Ed3 : (7 < tz) = True := eq_true d3
                          have Hd3 := Lib.hid d3
                          clear d3
                          go_quiet (fail)
                          go_wp2
                          go_meet
                          case rel => exact ⟨true, rfl, ⟨_, rfl⟩, fun h => by cases h⟩
                        · have Ed3 : (7 < tz) = False := eq_false d3
                          have Hd3 := Lib.hid d3
                          clear d3
                          go_quiet (fail)
                          go_wp2
                          go_meet
                          case rel => exact ⟨false, rfl, ⟨_, rfl⟩, fun _ => by have kHm1 := Hm1.out; have kHm2 := Hm2.out; have kHm3 := Hm3.out; have kHd1 := Hd1.out; have kHd2 := Hd2.out; have kHd3 := Hd3.out; unfold Tri.fit; simp only; omega⟩
                      · have Ed2 : (ty < tz) = False := eq_false d2
                        have Hd2 := Lib.hid d2
                        clear d2
                        by_cases d3 : 7 < ty
                        · have Ed3 : (7 < ty) = True := eq_true d3
                          have Hd3 := Lib.hid d3
                          clear d3
                          go_quiet (fail)
                          go_wp2
                          go_meet
                          case rel => exact ⟨true, rfl, ⟨_, rfl⟩, fun h => by cases h⟩
                        · have Ed3 : (7 < ty) = False := eq_false d3
                          have Hd3 := Lib.hid d3
                          clear d3
                          go_quiet (fail)
                          go_wp2
                          go_meet
                          case rel => exact ⟨false, rfl, ⟨_, rfl⟩, fun _ => by have kHm1 := Hm1.out; have kHm2 := Hm2.out; have kHm3 := Hm3.out; have kHd1 := Hd1.out; have kHd2 := Hd2.out; have kHd3 := Hd3.out; unfold Tri.fit; simp only; omega⟩
                    · have Ed1 : (tx < ty) = False := eq_false d1
                      have Hd1 := Lib.hid d1
                      clear d1
                      by_cases d2 : tx < tz
                      · have Ed2 : (tx < tz) = True := eq_true d2
                        have Hd2 := Lib.hid d2
                        clear d2
                        by_cases d3 : 7 < tz
                        · have Ed3 : (7 < tz) = True := eq_true d3
                          have Hd3 := Lib.hid d3
                          clear d3
                          go_quiet (fail)
                          go_wp2
                          go_meet
                          case rel => exact ⟨true, rfl, ⟨_, rfl⟩, fun h => by cases h⟩
                        · have Ed3 : (7 < tz) = False := eq_false d3
                          have Hd3 := Lib.hid d3
                          clear d3
                          go_quiet (fail)
                          go_wp2
                          go_meet
                          case rel => exact ⟨false, rfl, ⟨_, rfl⟩, fun _ => by have kHm1 := Hm1.out; have kHm2 := Hm2.out; have kHm3 := Hm3.out; have kHd1 := Hd1.out; have kHd2 := Hd2.out; have kHd3 := Hd3.out; unfold Tri.fit; simp only; omega⟩
                      · have Ed2 : (tx < tz) = False := eq_false d2
                        have Hd2 := Lib.hid d2
                        clear d2
                        by_cases d3 : 7 < tx
                        · have Ed3 : (7 < tx) = True := eq_true d3
                          have Hd3 := Lib.hid d3
                          clear d3
                          go_quiet (fail)
                          go_wp2
                          go_meet
                          case rel => exact ⟨true, rfl, ⟨_, rfl⟩, fun h => by cases h⟩
                        · have Ed3 : (7 < tx) = False := eq_false d3
                          have Hd3 := Lib.hid d3
                          clear d3
                          go_quiet (fail)
                          go_wp2
                          go_meet
                          case rel => exact ⟨false, rfl, ⟨_, rfl⟩, fun _ => by have kHm1 := Hm1.out; have kHm2 := Hm2.out; have kHm3 := Hm3.out; have kHd1 := Hd1.out; have kHd2 := Hd2.out; have kHd3 := Hd3.out; unfold Tri.fit; simp only; omega⟩
            case rest =>
              obtain ⟨q, rfl, ⟨m, rfl⟩, hq⟩ := hcut
              have HQ := Lib.hid hq
              clear hq
              cases q with
              | true =>
                have HA := Lib.hid (HAL.out (wr.drewN m) (below_drewN HBL.out m))
                go_wp2_with (go_at_call 39; refine HA.out.mono ?_; rintro e w3 ⟨rfl, hb3⟩)
                go_ret
                exact ⟨rfl, by first | exact hb3 | (rw [hN]; exact hb3)⟩
              | false =>
                have HTF := Lib.hid (HQ.out rfl)
                obtain ⟨j0, hj0, hj1, hj2, hj3⟩ := info_parts info_ins
                have hbq : Below N w (wr.drewN (m + 1)) := below_drewN HBL.out (m + 1)
                have HO9 : Hid (∀ cs : Array Value, ((wr.drewN (m + 1)).alloc (.cells cs 61)).ownsRow (N + 2) 61 13 (.slice ao2 j cap2) j (((l.take j).map sIns).flatMap fun i => i.cells.toList)) := fun cs =>
                  ownsRow_below (w := (wr.drewN (m + 1))) HOWN.out ((Below.refl _ _).alloc (Nat.le_refl _) _)
                have HG : Hid (∀ g cap5 w5, w5.ownsRow (N + 2) 61 13 (.slice (some ⟨g, 0, none⟩) (j + 1) cap5) (j + 1) ((((l.take j).map sIns).flatMap fun i => i.cells.toList) ++ (sIns ⟨tx, ty, tz⟩).cells.toList) → ((wr.drewN (m + 1)).alloc (.cells (sIns ⟨tx, ty, tz⟩).cells 61)).grownBy w5 (Value.slice ao2 j cap2).ownBlock →
                    w5.cell? ⟨N + 1, 7, none⟩ = some (.slice ao2 j cap2) ∧ w5.frozen? ⟨N + 1, 7, none⟩ = false ∧ StrI w N l (.int .i64 ((j : Int) + 1)) (w5.setCell ⟨N + 1, 7, none⟩ (.slice (some ⟨g, 0, none⟩) (j + 1) cap5))) := by
                  intro g cap5 w5 hown5 hgrow5
                  have hx5 : Ext (fun k => (Value.slice ao2 j cap2).ownBlock = some k) (wr.drewN (m + 1)) w5 := ((Ext.refl _ (wr.drewN (m + 1))).alloc _).trans (Ext.of_grown (M := fun k => (Value.slice ao2 j cap2).ownBlock = some k) hgrow5 (fun k hk => .inl hk)) (fun j hj => .inl hj)
                  have hge : ∀ k, (Value.slice ao2 j cap2).ownBlock = some k → N + 2 ≤ k := fun k hk => (HOWN.out.lt k hk).1
                  have hv5 := hx5.heap (show (wr.drewN (m + 1)).heap[N]? = _ from HVAR.out) (fun h => by have := hge _ h; omega)
                  have hc5 := hx5.heap (show (wr.drewN (m + 1)).heap[N + 1]? = _ from HCOD.out) (fun h => by have := hge _ h; omega)
                  have hb5 : Below N w w5 := hbq.trans ((hx5.below (B := N) (by show N ≤ wr.heap.size; omega) (fun k hk => by have := hge _ hk; omega)))
                  have hxs : Ext (· = N + 1) w5 (w5.setCell ⟨N + 1, 7, none⟩ (.slice (some ⟨g, 0, none⟩) (j + 1) cap5)) := Ext.set1 _ _ _ _
                  have etk : l.take (j + 1) = l.take j ++ [⟨tx, ty, tz⟩] := by rw [List.take_add_one, HT.out]; rfl
                  refine ⟨by rw [cell_of_row _ _ _ _ _ _ hc5]; rfl, frozen_of_row _ _ _ _ _ hc5, j + 1, some ⟨g, 0, none⟩, cap5, by omega, by simp, ?_, hxs.heap hv5 (by omega), ?_, ?_, ?_⟩
                  · intro t' ht'
                    rw [etk] at ht'
                    rcases List.mem_append.1 ht' with h | h
                    · exact HFIT.out t' h
                    · simp at h; subst h; exact HTF.out
                  · rw [heap_setCell_same _ _ _ _ _ _ hc5]; rfl
                  · rw [etk, List.map_append, List.flatMap_append]
                    have e1 : ([⟨tx, ty, tz⟩] : List Tri).map sIns = [sIns ⟨tx, ty, tz⟩] := rfl
                    have e2 : ([sIns ⟨tx, ty, tz⟩] : List Ins).flatMap (fun i => i.cells.toList) = (sIns ⟨tx, ty, tz⟩).cells.toList := by simp
                    rw [e1, e2]
                    refine ⟨hown5.1, ?_⟩
                    rcases hown5.2 with h' | ⟨g', cap', cur, q1, q2, q3, q4⟩
                    · exact .inl h'
                    · exact .inr ⟨g', cap', cur, q1, q2, hxs.heap q3 (by omega), q4⟩
                  · exact hb5.trans (hxs.below (B := N) (by have := hb5.size; omega) (fun k hk => by omega))
                have c7a : ((wr.drewN (m + 1)).alloc (.cells #[.int .i64 4, .int .i64 tx, .int .i64 ty, .int .i64 tz, .int .i64 0, .int .i64 0, .string { data := #[43] }, .slice none 0 0, .slice none 0 0, .int .i64 0, .int .i64 0, .int .i64 0, .int .i64 0] 61)).cell? ⟨N + 1, 7, none⟩ = some (.slice ao2 j cap2) := by
                  rw [World.cell?_alloc_lt _ _ _ (by show N + 1 < wr.heap.size; exact hsN)]; exact c7
                clear hbq HQ
                go_wp2
                go_region_law (first
                    | (refine step_append_lies _ (by rfl) (.tmp 69) (.tmp 86) 28 (by rfl) (N + 2) 61 j0 _ 13 144 Try.underlying28 hj0 hj1 hj2 hj3 rfl (by decide) (.slice ao2 j cap2) j _ (by rfl) (HO9.out _) ⟨wr.heap.size, 0, none⟩ 1 1 (sIns ⟨tx, ty, tz⟩).cells.toList (by rfl) rfl (cells_new (wr.drewN (m + 1)) (sIns ⟨tx, ty, tz⟩).cells.toList 61) (by simp [sIns, Ins.cells, Value.oneCell']) (by decide) (by unfold maxLen; omega) (by omega) (by rw [World.size_alloc]; show N + 2 ≤ wr.heap.size + 1; omega) _ rfl ?_; intro g5 cap5 w5 hown5 hgrow5 hat5 hlt5; obtain ⟨c7', f7', hR⟩ := HG.out _ _ _ hown5 hgrow5; have HR := Lib.hid hR; clear hown5 hgrow5 hat5 hlt5 hR))
                all_goals
                  go_wp2
                  exact ⟨HR.out, by simp [intOf]; omega⟩
          · have hje : j = l.length := by omega
            subst hje
            rw [List.take_length] at hfit hown
            have hb10 : Below N w wr := hbl
            obtain ⟨j0, hj0, hj1, hj2, hj3⟩ := info_parts info_ins
            have HVAR := Lib.hid hvar
            have HCOD := Lib.hid hcod
            have HOWN := Lib.hid hown
            have HBL := Lib.hid hbl
            have HFIT := Lib.hid hfit
            clear hvar hcod hown hbl hfit hb10
            go_upto_region 11 with (at_builtin; refine wpList_append_lies _ rfl _ _ 28 rfl (N + 2) 61 j0 _ 13 144 Try.underlying28 hj0 hj1 hj2 hj3 rfl (by decide) _ l.length _ rfl (ownsRow_below HOWN.out ((Below.refl wr.heap.size wr).alloc (Nat.le_refl _) _)) ⟨wr.heap.size, 0, none⟩ 1 1 (insOf4 18 0 last 0).cells.toList rfl rfl (cells_new wr (insOf4 18 0 last 0).cells.toList 61) (by simp [insOf4, Ins.cells, Value.oneCell']) (by decide) (by unfold maxLen; omega) (by omega) (by rw [World.size_alloc]; omega) _ rfl ?_; intro g5 cap5 w5 hown5 hgrow5 hat5 hlt5; have hx5 : Ext (fun k => (Value.slice ao2 l.length cap2).ownBlock = some k) wr w5 := ((Ext.refl _ wr).alloc _).trans (Ext.of_grown (M := fun k => (Value.slice ao2 l.length cap2).ownBlock = some k) hgrow5 (fun k hk => .inl hk)) (fun j hj => .inl hj); have hge : ∀ k, (Value.slice ao2 l.length cap2).ownBlock = some k → N + 2 ≤ k := fun k hk => (HOWN.out.lt k hk).1; have hc5 := hx5.heap HCOD.out (fun h => by have := hge _ h; omega); have c75 : w5.cell? ⟨N + 1, 7, none⟩ = some (.slice ao2 l.length cap2) := (cell_of_row _ _ _ _ _ _ hc5).trans rfl; have f75 : w5.frozen? ⟨N + 1, 7, none⟩ = false := frozen_of_row _ _ _ _ _ hc5)
            obtain ⟨W6, hW6⟩ : ∃ W6, w5.setCell ⟨N + 1, 7, none⟩ (.slice (some ⟨g5, 0, none⟩) (l.length + 1) cap5) = W6 := ⟨_, rfl⟩
            have hx6 : Ext (· = N + 1) w5 W6 := by rw [← hW6]; exact Ext.set1 _ _ _ _
            have hcod6 : W6.heap[N + 1]? = some (.cells (strCells N (.slice (some ⟨g5, 0, none⟩) (l.length + 1) cap5)) 30 (0, 0)) := by rw [← hW6, heap_setCell_same _ _ _ _ _ _ hc5]; rfl
            have hvar6 : W6.heap[N]? = some (.cells (varCells 8) 26 (0, 0)) := hx6.heap (hx5.heap HVAR.out (fun h => by have := hge _ h; omega)) (by omega)
            have hown6 : W6.ownsRow (N + 2) 61 13 (.slice (some ⟨g5, 0, none⟩) (l.length + 1) cap5) (l.length + 1) ((strCode l last).flatMap fun i => i.cells.toList) := by
              have e : (strCode l last).flatMap (fun i => i.cells.toList) = ((l.map sIns).flatMap fun i => i.cells.toList) ++ (insOf4 18 0 last 0).cells.toList := by unfold strCode; rw [List.flatMap_append]; simp
              rw [e]
              refine ⟨hown5.1, ?_⟩
              rcases hown5.2 with h' | ⟨g', cap', cur, q1, q2, q3, q4⟩
              · exact .inl h'
              · exact .inr ⟨g', cap', cur, q1, q2, hx6.heap q3 (by omega), q4⟩
            have hb6 : Below N w W6 := by
              have h5 : Below N w w5 := HBL.out.trans (hx5.below (B := N) (by omega) (fun k hk => by have := hge _ hk; omega))
              exact h5.trans (hx6.below (B := N) (by have := h5.size; omega) (fun k hk => by omega))
            have hin6 : (plainCod N g5 8 (strCode l last) cap5).inn W6 := plainCod_inn hvar6 (insRow_owns hown6) (str_plain l last) (by rw [strCode_len]; omega) (by decide)
            have hfit6 : (plainCod N g5 8 (strCode l last) cap5).fit := plainCod_fit (str_plain l last) (str_sign l last) (by rw [strCode_len]; omega) (by decide) (str_fits HFIT.out hlast)
            have hcc : (plainCod N g5 8 (strCode l last) cap5).cells = #[.string { data := #[] }, .int .i64 0, .slice (some ⟨N, 0, none⟩) 8 8, .bool false, .string { data := #[] }, .int .i64 0, .slice none 0 0, .slice (some ⟨g5, 0, none⟩) (l.length + 1) cap5] := by
              simp only [plainCod, Cod.cells, strCode_len]; rfl
            have hO := liveOf_calls _ W6 hin6 hfit6
            rw [hcc] at hO
            have HO := Lib.hid hO
            have hk : ∀ q v, (strCells N (.slice (some ⟨g5, 0, none⟩) (l.length + 1) cap5))[q]? = some v → W6.cell? ⟨N + 1, q, none⟩ = some v := fun q v h => by rw [cell_of_row _ _ _ _ _ _ hcod6]; exact h
            have k0 : W6.cell? ⟨N + 1, 0, none⟩ = some (.string { data := #[] }) := hk 0 _ rfl
            have k1 : W6.cell? ⟨N + 1, 1, none⟩ = some (.int .i64 0) := hk 1 _ rfl
            have k2 : W6.cell? ⟨N + 1, 2, none⟩ = some (.slice (some ⟨N, 0, none⟩) 8 8) := hk 2 _ rfl
            have k3 : W6.cell? ⟨N + 1, 3, none⟩ = some (.bool false) := hk 3 _ rfl
            have k4 : W6.cell? ⟨N + 1, 4, none⟩ = some (.string { data := #[] }) := hk 4 _ rfl
            have k5 : W6.cell? ⟨N + 1, 5, none⟩ = some (.int .i64 0) := hk 5 _ rfl
            have k6 : W6.cell? ⟨N + 1, 6, none⟩ = some (.slice none 0 0) := hk 6 _ rfl
            have k7 : W6.cell? ⟨N + 1, 7, none⟩ = some (.slice (some ⟨g5, 0, none⟩) (l.length + 1) cap5) := hk 7 _ rfl
            have HB6 := Lib.hid hb6
            have hs6 := hb6.size
            rw [hN] at hs6
            rw [hW6]
            obtain ⟨C, hC⟩ : ∃ C, plainCod N g5 8 (strCode l last) cap5 = C := ⟨_, rfl⟩
            rw [hC] at HO
            have HC := Lib.hid hC
            have hs6b : N + 1 < W6.heap.size := (Array.getElem?_eq_some_iff.1 hcod6).1
            clear hx5 hx6 hcod6 hvar6 hown6 hb6 hin6 hfit6 hcc hO hk hW6 hown5 hgrow5 hat5 hlt5 hge hc5 c75 f75 hC
            obtain ⟨i1, hi1, hy0, hy1, hy2⟩ := info_parts info_bool
            go_upto_region 13 with (first
              | (go_at_call 40; refine HO.out.mono ?_; rintro e W7 ⟨T, RA, RB, a, b, rfl, hT, hok, hb7⟩)
              | (at_make; refine wpList_make_at rfl _ _ 34 rfl 4 i1 (.bool false) Try.underlying34 hi1 hy0 hy1 rfl .i64 .i64 _ _ 8 rfl rfl rfl rfl (by rw [hy2]; omega) (by unfold maxLen; omega) ?_))
            obtain ⟨A, hA⟩ : ∃ A, W7.heap.size = A := ⟨_, rfl⟩
            obtain ⟨W8, hW8⟩ : ∃ W8, W7.alloc (.cells #[.bool false, .bool false, .bool false, .bool false, .bool false, .bool false, .bool false, .bool false] 4) = W8 := ⟨_, rfl⟩
            have hr8 : W8.heap[A]? = some (.cells (bools8 (fun _ => false)) 4 (0, 0)) := by rw [← hW8, ← hA, show bools8 (fun _ => false) = #[.bool false, .bool false, .bool false, .bool false, .bool false, .bool false, .bool false, .bool false] from rfl]; exact alloc_at _ _
            have hx78 : Ext (fun _ => False) W7 W8 := by rw [← hW8]; exact (Ext.refl _ _).alloc _
            have hs8 : W8.heap.size = A + 1 := by rw [← hW8]; simp [hA]
            have hnC : C.ins = strCode l last := by rw [← HC.out]; rfl
            have hvC : C.nvars = 8 := by rw [← HC.out]; rfl
            have hs7 := hb7.size
            have HBW : Hid (∀ W, Ext (· = A) W8 W → Below A W7 W ∧ Below N w W) := by
              intro W hx
              have h1 : Ext (fun k => A ≤ k) W7 W := (hx78.mono (fun _ h => h.elim)).trans hx (fun k hk => .inl (by omega))
              have h2 : Below A W7 W := h1.below (by omega) (fun _ h => h)
              exact ⟨h2, HB6.out.trans ((hb7.trans (h2.mono (by omega))).mono (by omega))⟩
            have HTB : Hid (∀ (W : World) (x v m : Nat), Ext (· = A) W8 W → x < l.length + 1 → v < 8 → Calls Try.prog 41 #[.pointer (some ⟨T, 0, none⟩), .int .i64 (x : Int), .int .i64 (v : Int)] (W.drewN m) fun e w' => e = .returned (.bool (bitOf (b x) v)) ∧ (W.drewN m) = w') := by
              intro W x v m hx hxl hv
              have h2 := ((HBW.out W hx).1)
              have h3 : Below W7.heap.size W7 (W.drewN m) := by rw [hA]; exact below_drewN h2 m
              have e1 : x < C.ins.length := by rw [hnC, strCode_len]; exact hxl
              have e2 : v < C.nvars := by rw [hvC]; exact hv
              have e3 : C.ins.length ≤ 90000 := by rw [hnC, strCode_len]; omega
              have e4 : C.nvars ≤ 90000 := by rw [hvC]; decide
              have h4 : TabOk (W.drewN m) T RA RB C a b := hok.below h3
              exact tbehind_calls (W.drewN m) T RA RB C a b x v h4 e1 e2 e3 e4
            have HSY : Hid (∀ (x v : Nat), x < l.length + 1 → v < 8 → (bitOf (b x) v = true ↔ AskedBehind (strCode l last) v x)) := by
              intro x v hx hv
              have := (hok.says x v (by rw [hnC, strCode_len]; exact hx) (by omega)).1
              rw [hnC] at this; exact this
            have HR8 := Lib.hid hr8
            rw [hW8]
            rw [hA]
            clear hr8 hx78 hW8 hok hb7 hnC hvC hi1 hy0 hy1 hy2 k0 k1 k2 k3 k4 k5 k6 k7
            go_wp2_with fail
            go_loopw [9] (fun c wr => ∃ (j : Nat) (f : Nat → Bool), j ≤ l.length + 1 ∧ c = .int .i64 ((j : Int) - 1) ∧ wr.heap[A]? = some (.cells (bools8 f) 4 (0, 0)) ∧ (∀ v, v < 8 → 0 < j → (f v = true ↔ AskedBehind (strCode l last) v (j - 1))) ∧ ∃ W m, Ext (· = A) W8 W ∧ wr = W.drewN m) (fun c _ => (intOf c + 1).toNat)
            case atStart => exact ⟨l.length + 1, fun _ => false, Nat.le_refl _, by simp, HR8.out, fun v _ _ => ⟨(fun h => by cases h), fun h => absurd h (by rw [Nat.add_sub_cancel]; exact str_behind_end l last v)⟩, W8, 0, Ext.refl _ _, rfl⟩
            case round =>
              rename_i wr0 _
              obtain ⟨j, f, hj, rfl, hrow, hf, W, m, hx, rfl⟩ := hrel
              cases j with
              | zero =>
                have e : (((0 : Nat) : Int) - 1) = -1 := by omega
                rw [e]
                have HA2 := Lib.hid (HAL.out (W.drewN m) (below_drewN (HBW.out W hx).2 m))
                clear hrow hf hx e
                go_wp2_with (go_at_call 39; refine HA2.out.mono ?_; rintro e w3 ⟨rfl, hb3⟩)
                go_ret
                exact ⟨rfl, by first | exact hb3 | (rw [hN]; exact hb3)⟩
              | succ j =>
                have e : (((j + 1 : Nat) : Int) - 1) = (j : Int) := by omega
                rw [e]
                have HF := Lib.hid hf
                have HROW := Lib.hid hrow
                have HX := Lib.hid hx
                have hAl : A < W.heap.size := (Array.getElem?_eq_some_iff.1 (show W.heap[A]? = _ from hrow)).1
                clear hf hrow hx e
                go_wp2_with fail
                go_loopw [10] (fun c wr2 => ∃ v q : Nat, v ≤ 8 ∧ c = .int .i64 (v : Int) ∧ wr2 = W.drewN q) (fun c _ => 8 - (intOf c).toNat)
                case atStart => exact ⟨0, m, by omega, rfl, rfl⟩
                case round =>
                  obtain ⟨v, q, hv, rfl, rfl⟩ := hrel
                  by_cases hvl : v < 8
                  · have c1 : (W.drewN q).cell? ⟨A, v, none⟩ = some (.bool (f v)) := by rw [cell_of_row _ _ _ _ _ _ (show (W.drewN q).heap[A]? = _ from HROW.out)]; exact bools8_get f hvl
                    have hfv : bitOf (b j) v = f v := by rw [Bool.eq_iff_iff, HSY.out j v (by omega) hvl]; exact (HF.out v hvl (by omega)).symm
                    have hB := HTB.out W j v (q + 1) HX.out (by omega) hvl
                    rw [hfv] at hB
                    have HB := Lib.hid hB
                    obtain ⟨p, hp⟩ : ∃ p, f v = p := ⟨_, rfl⟩
                    rw [hp] at HB c1
                    have hvI : (v : Int) < 8 := by omega
                    clear hB hfv hp
                    obtain ⟨Wq, hWq⟩ : ∃ Wq, W.drewN q = Wq := ⟨_, rfl⟩
                    have hWq1 : W.drewN (q + 1) = Wq.drew := by rw [← hWq]; rfl
                    rw [hWq1] at HB
                    rw [hWq] at c1 ⊢
                    have HWQ := Lib.hid hWq
                    clear hWq hWq1
                    cases p <;> (
                      go_wp2_with fail
                      go_region_held3 (fun w' => w' = Wq.drew) (first | (exact hS) | (exact rfl))
                        (first | (go_at_call 41; refine HB.out.mono ?_; rintro e w' ⟨rfl, rfl⟩; have hS : Wq.drew = Wq.drew := rfl))
                      clear hS
                      go_wp2
                      exact ⟨⟨v + 1, q + 1, by omega, by simp, by rw [← HWQ.out]; rfl⟩, by simp [intOf]; omega⟩)
                  · have hve : v = 8 := by omega
                    subst hve
                    obtain ⟨Wq, hWq⟩ : ∃ Wq, W.drewN q = Wq := ⟨_, rfl⟩
                    have hrq : Wq.heap[A]? = some (.cells (bools8 f) 4 (0, 0)) := by rw [← hWq]; exact HROW.out
                    have hxq : Ext (· = A) W8 Wq := by rw [← hWq]; exact HX.out.drewN q
                    rw [hWq]
                    have HXQ := Lib.hid hxq
                    have HRQ := Lib.hid hrq
                    have hbq := (HBW.out Wq hxq).2
                    have hNA : N < A := by omega
                    clear hWq hrq hxq
                    by_cases hjl : j < l.length
                    · obtain ⟨t, ht⟩ : ∃ t, l[j]? = some t := ⟨_, List.getElem?_eq_getElem hjl⟩
                      have htf := HFIT.out t (List.mem_of_getElem? ht)
                      obtain ⟨tx, ty, tz⟩ := t
                      obtain ⟨⟨x0, x7⟩, ⟨y0, y7⟩, z0, z7⟩ := htf
                      simp only at x0 x7 y0 y7 z0 z7
                      obtain ⟨dx, rfl⟩ : ∃ d : Nat, tx = (d : Int) := ⟨tx.toNat, by omega⟩
                      obtain ⟨dy, rfl⟩ : ∃ d : Nat, ty = (d : Int) := ⟨ty.toNat, by omega⟩
                      obtain ⟨dz, rfl⟩ : ∃ d : Nat, tz = (d : Int) := ⟨tz.toNat, by omega⟩
                      obtain ⟨bb, off, rfl, hbb, hcell⟩ := HL.out (by intro e; rw [e] at hjl; simp at hjl)
                      rw [hN] at hbb
                      have HCL : Hid (∀ W' k u, Ext (· = A) Wq W' → (⟨dx, dy, dz⟩ : Tri).cells.toList[k]? = some u → W'.cell? ⟨bb, off + j * 3 + k, none⟩ = some u) := fun W' k u hx hu => by
                        rw [hx.cell (a := ⟨bb, off + j * 3 + k, none⟩) (by have := hbq.size; show bb < Wq.heap.size; omega) (by show ¬ bb = A; omega), hbq.cell (p := ⟨bb, _, none⟩) hbb]; exact hcell j _ ht k u hu
                      have r0 : Wq.cell? ⟨bb, off + j * 3, none⟩ = some (.int .i64 (dx : Int)) := HCL.out Wq 0 _ (Ext.refl _ _) rfl
                      have c0 : Wq.cell? ⟨A, dx, none⟩ = some (.bool (f dx)) := by rw [cell_of_row _ _ _ _ _ _ HRQ.out]; exact bools8_get f (by omega)
                      have f0 : Wq.frozen? ⟨A, dx, none⟩ = false := frozen_of_row _ _ _ _ _ HRQ.out
                      obtain ⟨W9, hW9⟩ : ∃ W9, Wq.setCell ⟨A, dx, none⟩ (.bool false) = W9 := ⟨_, rfl⟩
                      have hx9 : Ext (· = A) Wq W9 := by rw [← hW9]; exact Ext.set1 _ _ _ _
                      have hr9 : W9.heap[A]? = some (.cells (bools8 (fun u => if u = dx then false else f u)) 4 (0, 0)) := by rw [← hW9, heap_setCell_same _ _ _ _ _ _ HRQ.out, bools8_set _ _ _ (by omega)]
                      have r1 : W9.cell? ⟨bb, off + j * 3 + 1, none⟩ = some (.int .i64 (dy : Int)) := HCL.out W9 1 _ hx9 rfl
                      have c1 : W9.cell? ⟨A, dy, none⟩ = some (.bool (if dy = dx then false else f dy)) := by rw [cell_of_row _ _ _ _ _ _ hr9]; exact bools8_get _ (by omega)
                      have f1 : W9.frozen? ⟨A, dy, none⟩ = false := frozen_of_row _ _ _ _ _ hr9
                      obtain ⟨W10, hW10⟩ : ∃ W10, W9.setCell ⟨A, dy, none⟩ (.bool true) = W10 := ⟨_, rfl⟩
                      have hx10 : Ext (· = A) Wq W10 := by rw [← hW10]; exact hx9.trans (Ext.set1 _ _ _ _) (fun _ h => .inl h)
                      have hr10 : W10.heap[A]? = some (.cells (bools8 (fun u => if u = dy then true else if u = dx then false else f u)) 4 (0, 0)) := by rw [← hW10, heap_setCell_same _ _ _ _ _ _ hr9, bools8_set _ _ _ (by omega)]
                      have r2 : W10.cell? ⟨bb, off + j * 3 + 2, none⟩ = some (.int .i64 (dz : Int)) := HCL.out W10 2 _ hx10 rfl
                      have c2 : W10.cell? ⟨A, dz, none⟩ = some (.bool (if dz = dy then true else if dz = dx then false else f dz)) := by rw [cell_of_row _ _ _ _ _ _ hr10]; exact bools8_get _ (by omega)
                      have f2 : W10.frozen? ⟨A, dz, none⟩ = false := frozen_of_row _ _ _ _ _ hr10
                      have HR : Hid (∃ (j' : Nat) (f' : Nat → Bool), j' ≤ l.length + 1 ∧ Value.int .i64 ((j : Int) - 1) = .int .i64 ((j' : Int) - 1) ∧ (W10.setCell ⟨A, dz, none⟩ (.bool true)).heap[A]? = some (.cells (bools8 f') 4 (0, 0)) ∧ (∀ v, v < 8 → 0 < j' → (f' v = true ↔ AskedBehind (strCode l last) v (j' - 1))) ∧ ∃ W' m', Ext (· = A) W8 W' ∧ W10.setCell ⟨A, dz, none⟩ (.bool true) = W'.drewN m') := by
                        refine ⟨j, _, by omega, rfl, by rw [heap_setCell_same _ _ _ _ _ _ hr10, bools8_set _ _ _ (by omega)], fun v hv h0' => ?_, _, 0, (HXQ.out.trans hx10 (fun _ h => .inl h)).trans (Ext.set1 _ _ _ _) (fun _ h => .inl h), rfl⟩
                        rw [str_behind l last v (show j - 1 < l.length by omega), show j - 1 + 1 = j by omega, str_asked l last v ht]
                        have hfv := HF.out v hv (by omega)
                        rw [Nat.add_sub_cancel] at hfv
                        rw [← hfv]
                        by_cases e1 : v = dz
                        · subst e1; simp
                        · by_cases e2 : v = dy
                          · subst e2; simp
                          · by_cases e3 : v = dx
                            · subst e3; simp [e1, e2]; omega
                            · simp only [if_neg e1, if_neg e2, if_neg e3]
                              constructor
                              · intro h; exact .inr ⟨by omega, h⟩
                              · rintro ((h | h) | ⟨_, h⟩)
                                · omega
                                · omega
                                · exact h
                      have HW9 := Lib.hid hW9
                      have HW10 := Lib.hid hW10
                      have hjI : (j : Int) < (l.length : Int) := by omega
                      have bx : (dx : Int) < 8 := by omega
                      have by_ : (dy : Int) < 8 := by omega
                      have bz : (dz : Int) < 8 := by omega
                      clear hx9 hr9 hx10 hr10 hW9 hW10 ht hcell x0 x7 y0 y7 z0 z7 hbq
                      go_upto_region 23 with (fail)
                      rw [HW9.out]
                      clear r0 c0 f0
                      go_upto_region 24 with (fail)
                      rw [HW10.out]
                      clear r1 c1 f1
                      go_wp2
                      exact ⟨HR.out, by simp [intOf]⟩
                    · have hje : j = l.length := by omega
                      subst hje
                      obtain ⟨dl, rfl⟩ : ∃ d : Nat, last = (d : Int) := ⟨last.toNat, by omega⟩
                      have hdl8 : dl < 8 := by omega
                      have c0 : Wq.cell? ⟨A, dl, none⟩ = some (.bool (f dl)) := by rw [cell_of_row _ _ _ _ _ _ HRQ.out]; exact bools8_get f (by omega)
                      have f0 : Wq.frozen? ⟨A, dl, none⟩ = false := frozen_of_row _ _ _ _ _ HRQ.out
                      have HR : Hid (∃ (j' : Nat) (f' : Nat → Bool), j' ≤ l.length + 1 ∧ Value.int .i64 ((l.length : Int) - 1) = .int .i64 ((j' : Int) - 1) ∧ (Wq.setCell ⟨A, dl, none⟩ (.bool true)).heap[A]? = some (.cells (bools8 f') 4 (0, 0)) ∧ (∀ v, v < 8 → 0 < j' → (f' v = true ↔ AskedBehind (strCode l (dl : Int)) v (j' - 1))) ∧ ∃ W' m', Ext (· = A) W8 W' ∧ Wq.setCell ⟨A, dl, none⟩ (.bool true) = W'.drewN m') := by
                        refine ⟨l.length, _, by omega, rfl, by rw [heap_setCell_same _ _ _ _ _ _ HRQ.out, bools8_set _ _ _ hdl8], fun v hv h0' => ?_, _, 0, HXQ.out.trans (Ext.set1 _ _ _ _) (fun _ h => .inl h), rfl⟩
                        rw [str_behind l (dl : Int) v (show l.length - 1 < l.length by omega), show l.length - 1 + 1 = l.length by omega, str_asked_end]
                        have hfv := HF.out v hv (by omega)
                        rw [Nat.add_sub_cancel] at hfv
                        have hff : f v = false := by
                          cases h : f v with
                          | false => rfl
                          | true => exact absurd (hfv.1 h) (str_behind_end l (dl : Int) v)
                        by_cases e1 : v = dl
                        · subst e1; simp
                        · simp only [if_neg e1, hff]
                          constructor
                          · intro h; cases h
                          · intro h; omega
                      have hdI : (dl : Int) < 8 := by omega
                      clear hbq
                      go_wp2
                      exact ⟨HR.out, by simp [intOf]⟩
      · have hd7 : (7 : Int) < last := by omega
        clear h7
        go_enter Try.func9, Try.ntmps9
        go_wp2_with (go_at_call 39; refine HA0.out.mono ?_; rintro e w3 ⟨rfl, hb3⟩)
        go_ret
        exact ⟨rfl, by first | exact hb3 | (rw [hN]; exact hb3)⟩
    · have hd0 : last < 0 := by omega
      clear h0
      go_enter Try.func9, Try.ntmps9
      go_wp2_with (go_at_call 39; refine HA0.out.mono ?_; rintro e w3 ⟨rfl, hb3⟩)
      go_ret
      exact ⟨rfl, by first | exact hb3 | (rw [hN]; exact hb3)⟩
  · have hd60 : (60 : Int) < (l.length : Int) := by omega
    clear h60
    go_enter Try.func9, Try.ntmps9
    go_wp2_with (go_at_call 39; refine HA0.out.mono ?_; rintro e w3 ⟨rfl, hb3⟩)
    go_ret
    exact ⟨rfl, by first | exact hb3 | (rw [hN]; exact hb3)⟩
end Go.Proofs.Ytpbkkajgcdahcaa
