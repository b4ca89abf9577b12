/- DomPaths, at any code and any number: true. -/
import Derived.Test.YtpbkkajgcdahcaaDomAl
import Derived.Deep.DeepCutAuto
namespace Go.Proofs.Ytpbkkajgcdahcaa
open Go.RowKit

/-- A function that gives true, and nothing that was there has changed. -/
def YesD (w : World) (e : Ending) (w' : World) : Prop := e = .returned (.bool true) ∧ Below w.heap.size w w'

theorem nodup_len_le : ∀ (a b : List Nat), a.Nodup → (∀ x ∈ a, x ∈ b) → a.length ≤ b.length
  | [], _, _, _ => Nat.zero_le _
  | x :: a, b, hn, h => by
    rw [List.nodup_cons] at hn
    have hx : x ∈ b := h x (by simp)
    have ih := nodup_len_le a (b.erase x) hn.2 (fun y hy => (List.mem_erase_of_ne (fun e => hn.1 (by rw [← e]; exact hy))).2 (h y (by simp [hy])))
    rw [List.length_erase_of_mem hx] at ih
    have := List.length_pos_of_mem hx
    simp; omega

/-- How many below j are in a list. -/
def cntIn (l : List Nat) (j : Nat) : Nat := ((List.range j).filter fun a => decide (a ∈ l)).length

theorem cntIn_succ (l : List Nat) (j : Nat) : cntIn l (j + 1) = cntIn l j + if decide (j ∈ l) = true then 1 else 0 := by
  unfold cntIn
  rw [List.range_succ, List.filter_append, List.filter_cons]
  split <;> simp

theorem cntIn_le (l : List Nat) (j : Nat) : cntIn l j ≤ j := by
  unfold cntIn; exact Nat.le_trans (List.length_filter_le _ _) (by simp)

theorem cntIn_all {l : List Nat} {n : Nat} (hn : l.Nodup) (hl : ∀ x ∈ l, x < n) : cntIn l n = l.length := by
  unfold cntIn
  apply Nat.le_antisymm
  · exact nodup_len_le _ _ (List.nodup_range.filter _) (fun x hx => by simpa using (List.mem_filter.1 hx).2)
  · exact nodup_len_le _ _ hn (fun x hx => List.mem_filter.2 ⟨List.mem_range.2 (hl x hx), by simpa using hx⟩)

variable {o : Nat → Option Nat} {q : List Nat} {n : Nat}

theorem IsPath.first {v : Nat} {l : List Nat} (h : IsPath o v l) : l[0]? = some v := by
  cases h <;> rfl

theorem IsPath.drop : ∀ {l : List Nat} {v : Nat}, IsPath o v l → ∀ (i x : Nat), l[i]? = some x → IsPath o x (l.drop i)
  | _, _, .last e, 0, x, h => by simp at h; subst h; exact .last e
  | _, _, .last e, i + 1, x, h => by simp at h
  | _, _, .cons e h', 0, x, h => by simp at h; subst h; exact .cons e h'
  | _, _, .cons e h', i + 1, x, h => by
    simp only [List.getElem?_cons_succ] at h
    rw [List.drop_succ_cons]
    exact h'.drop i x h

/-- What comes behind one on a path. -/
theorem IsPath.next {l : List Nat} {v : Nat} (h : IsPath o v l) (i x : Nat) (hx : l[i]? = some x) : oI (o x) = match l[i + 1]? with
    | some y => (y : Int)
    | none => -1 := by
  have hd := h.drop i x hx
  have e1 : l[i + 1]? = (l.drop i)[1]? := by rw [List.getElem?_drop]
  rw [e1]
  generalize l.drop i = d at hd
  cases hd with
  | last e => rw [e]; rfl
  | cons e h' => rw [e]; simp [h'.first, oI]

/-- All that is on the path that Path gives. -/
theorem PathOf.at (hall : ∀ x ∈ q, Proc o x) (ht : Tr q (plN q) o) {at_ : Int} {l : List Nat} (h : PathOf o q at_ l) {i x : Nat} (hx : l[i]? = some x) :
    inQ q at_ = true ∧ x ∈ q ∧ PathOf o q (x : Int) (l.drop i) ∧ Up o at_.toNat x ∧ (i = 0 → at_ = (x : Int)) ∧ (oI (o x) < 0 → x = 0) ∧ overI o q (x : Int) = (match l[i + 1]? with | some y => (y : Int) | none => -1) := by
  cases e : inQ q at_ with
  | false => rw [h.2 e] at hx; simp at hx
  | true =>
    have hp := h.1 e
    obtain ⟨v, rfl, hv⟩ := inQ_iff.1 e
    simp only [Int.toNat_natCast] at hp ⊢
    have hu := (hp.mem x).1 (List.mem_of_getElem? hx)
    have hxq := ht.mem hu hv
    have hin : inQ q (x : Int) = true := by rw [inQ_nat]; exact decide_eq_true hxq
    refine ⟨trivial, hxq, ⟨fun _ => by simpa using hp.drop i x hx, fun h' => by rw [hin] at h'; cases h'⟩, hu, fun hi => ?_, fun hlt => ?_, ?_⟩
    · subst hi
      rw [hp.first] at hx
      rw [Option.some.inj hx]
    · rcases hall x hxq with h' | h'
      · exact h'
      · cases e' : o x with
        | none => exact absurd e' h'
        | some p => rw [e'] at hlt; simp only [oI] at hlt; omega
    · unfold overI
      rw [if_pos hin, Int.toNat_natCast]
      exact hp.next i x hx

theorem PathOf.dom (ht : Tr q (plN q) o) {at_ : Int} {l : List Nat} (h : PathOf o q at_ l) {a : Nat} {r : Bool} (hr : r = true ↔ inQ q (a : Int) = true ∧ inQ q at_ = true ∧ Up o at_.toNat (a : Int).toNat) : r = decide (a ∈ l) := by
  rw [Bool.eq_iff_iff, hr, decide_eq_true_eq]
  cases e : inQ q at_ with
  | false => rw [h.2 e]; simp
  | true =>
    have hp := h.1 e
    obtain ⟨v, rfl, hv⟩ := inQ_iff.1 e
    simp only [Int.toNat_natCast] at hp ⊢
    rw [hp.mem]
    exact ⟨fun h => h.2.2, fun h => ⟨by rw [inQ_nat]; exact decide_eq_true (ht.mem h hv), trivial, h⟩⟩

theorem PathOf.all (hq : Ord n q) (ht : Tr q (plN q) o) {at_ : Int} {l : List Nat} (h : PathOf o q at_ l) : cntIn l n = l.length := by
  cases e : inQ q at_ with
  | false => rw [h.2 e]; exact cntIn_all (by simp) (by simp)
  | true =>
    have hp := h.1 e
    obtain ⟨v, rfl, hv⟩ := inQ_iff.1 e
    simp only [Int.toNat_natCast] at hp
    exact cntIn_all (hp.nodup ht) (fun x hx => hq.lt x (ht.mem ((hp.mem x).1 hx) hv))

set_option maxRecDepth 100000 in
set_option maxHeartbeats 4000000 in
theorem domPaths_calls (c : Cod) (at_ : Int) (w : World) (hin : c.inn w) : Calls Try.prog 8 #[.agg c.cells, .int .i64 at_] w (YesD w) := by
  obtain ⟨C, hC⟩ : ∃ C, c = C := ⟨_, rfl⟩
  have HC := Lib.hid hC
  have HIN := Lib.hid hin
  clear hin
  obtain ⟨nm, par, varsA, nvars, varsC, rp, rto, rcl, fromA, nfrom, fromC, insA, insC, ins⟩ := c
  simp only [Cod.cells]
  obtain ⟨n, hn⟩ : ∃ n, ins.length = n := ⟨_, rfl⟩
  have HN' := Lib.hid hn
  obtain ⟨N, hN⟩ : ∃ N, w.heap.size = N := ⟨_, rfl⟩
  obtain ⟨W1, hW1⟩ : ∃ W1, w.alloc (.cells #[.string nm, .int .i64 par, .slice varsA nvars varsC, .bool rp, .string rto, .int .i64 rcl, .slice fromA nfrom fromC, .slice insA n insC] 30) = W1 := ⟨_, rfl⟩
  have hb1 : Below N w W1 := by rw [← hW1, ← hN]; exact (Below.refl _ _).alloc (Nat.le_refl _) _
  have hs1 : W1.heap.size = N + 1 := by rw [← hW1]; simp [hN]
  have hrow : W1.heap[N]? = some (.cells #[.string nm, .int .i64 par, .slice varsA nvars varsC, .bool rp, .string rto, .int .i64 rcl, .slice fromA nfrom fromC, .slice insA n insC] 30 (0, 0)) := by
    rw [← hW1, ← hN]; exact alloc_at _ _
  have hin1 := HIN.out.below (by rw [hN]; exact hb1)
  have hcc : C.cells = #[.string nm, .int .i64 par, .slice varsA nvars varsC, .bool rp, .string rto, .int .i64 rcl, .slice fromA nfrom fromC, .slice insA n insC] := by rw [← hC, ← hn]; rfl
  have HS : Hid (∀ W, Below (N + 1) W1 W → W.cell? ⟨N, 0, none⟩ = some (.string nm) ∧ W.cell? ⟨N, 1, none⟩ = some (.int .i64 par) ∧ W.cell? ⟨N, 2, none⟩ = some (.slice varsA nvars varsC) ∧ W.cell? ⟨N, 3, none⟩ = some (.bool rp) ∧ W.cell? ⟨N, 4, none⟩ = some (.string rto) ∧ W.cell? ⟨N, 5, none⟩ = some (.int .i64 rcl) ∧ W.cell? ⟨N, 6, none⟩ = some (.slice fromA nfrom fromC) ∧ W.cell? ⟨N, 7, none⟩ = some (.slice insA n insC) ∧ Below (N + 1) W1 W) := by
    intro W hW
    have h4 := (hW.block N (by omega)).trans hrow
    refine ⟨?_, ?_, ?_, ?_, ?_, ?_, ?_, ?_, hW⟩ <;> (rw [cell_of_row _ _ _ _ _ _ h4]; rfl)
  have HK : Hid (∀ W, Below (N + 1) W1 W → C.inn W ∧ Below N w W ∧ N + 1 ≤ W.heap.size) := by
    intro W hW
    exact ⟨by rw [← hC]; exact hin1.below (by rw [hs1]; exact hW), hb1.trans (hW.mono (by omega)), by have := hW.size; omega⟩
  have HLI : Hid (∀ W, Below (N + 1) W1 W → Calls Try.prog 28 #[.agg #[.string nm, .int .i64 par, .slice varsA nvars varsC, .bool rp, .string rto, .int .i64 rcl, .slice fromA nfrom fromC, .slice insA n insC]] W (SaysIf W W.heap.size C.fit9)) := by
    intro W hb; rw [← hcc]; exact light9_calls C W (HK.out W hb).1
  have HOF : Hid (∀ W, Below (N + 1) W1 W → C.fit9 → Calls Try.prog 30 #[.agg #[.string nm, .int .i64 par, .slice varsA nvars varsC, .bool rp, .string rto, .int .i64 rcl, .slice fromA nfrom fromC, .slice insA n insC]] W (DomMade C W)) := by
    intro W hb hf; rw [← hcc]; exact domOf_calls C W (HK.out W hb).1 hf.1
  have HEND : Hid (∀ W, Below (N + 1) W1 W → YesD w (.returned (.bool true)) W) := fun W hb => ⟨rfl, by rw [hN]; exact (HK.out W hb).2.1⟩
  have HW1 := Lib.hid hW1
  have hsl : N + 1 ≤ W1.heap.size := by omega
  obtain ⟨k0, k1, k2, k3, k4, k5, k6, k7, _⟩ := HS.out W1 (Below.refl _ _)
  clear hb1 hs1 hrow hin1 hW1 HIN hC hcc
  rw [hn]
  clear hn
  go_enter Try.func8, Try.ntmps8
  go_upto_region 1 with (fail)
  rw [HW1.out]
  go_wp2_with fail
  go_at_call 28
  refine (HLI.out W1 (Below.refl _ _)).mono ?_
  rintro e w3 ⟨fb, rfl, hfb, hb3⟩
  have hb3' : Below (N + 1) W1 w3 := hb3.mono hsl
  clear k0 k1 k2 k3 k4 k5 k6 k7
  have HFB := Lib.hid hfb
  have HB3 := Lib.hid hb3'
  clear hfb hb3 hb3'
  cases fb with
  | false =>
    go_wp2_with fail
    go_at_call 29
    refine (alive9_calls _).mono ?_
    rintro e w4 ⟨rfl, hb4⟩
    have HB4 := Lib.hid (HB3.out.trans (hb4.mono (HK.out w3 HB3.out).2.2))
    clear hb4
    go_wp2
    go_ret
    exact HEND.out w4 HB4.out
  | true =>
    have HFIT : Hid C.fit9 := HFB.out rfl
    obtain ⟨k0, k1, k2, k3, k4, k5, k6, k7, _⟩ := HS.out w3 HB3.out
    go_wp2_with fail
    go_at_call 30
    refine (HOF.out w3 HB3.out HFIT.out).mono ?_
    rintro e W4 ⟨T, O, PL, R, H, o, q, rfl, hT, htree, hdt, hrows, hb4⟩
    have hb4' : Below (N + 1) W1 W4 := HB3.out.trans (hb4.mono (HK.out w3 HB3.out).2.2)
    have hci : C.ins.length = n := by rw [← HC.out]; exact HN'.out
    have hn60 : n ≤ 60 := by rw [← hci]; exact HFIT.out.1
    rw [hci] at htree
    have hord : Ord n q := by rw [← hci]; exact hdt.ord.ord
    have HT : Hid (∀ W, Below W4.heap.size W4 W → TreeI W T O PL R n o q) := fun W hb => htree.below hb
    obtain ⟨l, hl⟩ := PathOf.exists hdt.tr at_
    have hll := hl.len hord hdt.tr
    have HL := Lib.hid hl
    have HQ := Lib.hid hord
    have HD := Lib.hid hdt
    have HB4 := Lib.hid hb4'
    have h4 := (HK.out W4 hb4').2.2
    clear k0 k1 k2 k3 k4 k5 k6 k7 hT htree hdt hrows hb4 hb4' hord hl
    go_wp2_with fail
    go_at_call 37
    refine (path_calls W4 (HT.out W4 (Below.refl _ _)) HQ.out HD.out.tr (by omega) at_ l HL.out).mono ?_
    rintro e W5 ⟨ao, cap, rfl, hown, hb5⟩
    have HP : Hid (∀ W, Below W5.heap.size W5 W → ∀ (k x : Nat), l[k]? = some x → ∃ g, ao = some ⟨g, 0, none⟩ ∧ W.cell? ⟨g, k, none⟩ = some (.int .i64 (x : Int))) := by
      intro W hb k x hk
      obtain ⟨g, e1, e2, e3, e4⟩ := hown.shape (by simp [ints]; have := (List.getElem?_eq_some_iff.1 hk).1; omega)
      exact ⟨g, e1, by rw [hb.cell (p := ⟨g, k, none⟩) e3]; exact e4 k x (by simp [ints, hk])⟩
    have HB5 := Lib.hid hb5
    have h45 := hb5.size
    clear hown hb5
    have HOV : Hid (∀ W, Below W5.heap.size W5 W → ∀ a : Int, Calls Try.prog 33 #[.pointer (some ⟨T, 0, none⟩), .int .i64 a] W (OverP o q a W)) := fun W hb a => over_calls W (HT.out W (HB5.out.trans (hb.mono h45))) HQ.out (by omega) a
    have HDO : Hid (∀ W, Below W5.heap.size W5 W → ∀ a : Int, Calls Try.prog 38 #[.pointer (some ⟨T, 0, none⟩), .int .i64 a, .int .i64 at_] W (DomsP o q a at_ W)) := fun W hb a => dominates_calls W (HT.out W (HB5.out.trans (hb.mono h45))) HQ.out HD.out.tr HD.out.all (by omega) a at_
    have HDE : Hid (∀ W, Below W5.heap.size W5 W → ∀ (a : Int) (l' : List Nat), PathOf o q a l' → Calls Try.prog 35 #[.pointer (some ⟨T, 0, none⟩), .int .i64 a] W (DepthP W l')) := fun W hb a l' hp => depth_calls W (HT.out W (HB5.out.trans (hb.mono h45))) HQ.out HD.out.tr (by omega) a l' hp
    go_wp2_with fail
    go_loopw [7] (fun c wr => ∃ i : Nat, i ≤ l.length ∧ c = .int .i64 (i : Int) ∧ Below W5.heap.size W5 wr) (fun c _ => l.length - (intOf c).toNat)
    case atStart => exact ⟨0, Nat.zero_le _, rfl, Below.refl _ _⟩
    case round =>
      obtain ⟨i, hi, rfl, hbr⟩ := hrel
      have HBR := Lib.hid hbr
      by_cases hil : i < l.length
      · have hiI : (i : Int) < (l.length : Int) := by omega
        obtain ⟨x, hx⟩ : ∃ x, l[i]? = some x := ⟨_, List.getElem?_eq_getElem hil⟩
        obtain ⟨p1, p2, p3, p4, p5, p6, p7⟩ := HL.out.at HD.out.all HD.out.tr hx
        obtain ⟨g, hga, hcx⟩ := HP.out wr hbr i x hx
        have hx0 : overI o q (x : Int) = oI (o x) := by unfold overI; rw [inQ_nat, decide_eq_true p2, if_pos rfl, Int.toNat_natCast]
        obtain ⟨z, hz⟩ : ∃ z, overI o q (x : Int) = z := ⟨_, rfl⟩
        have HZ := Lib.hid hz
        have HZ1 : Hid (∀ y, l[i + 1]? = some y → z = (y : Int)) := fun y hy => by rw [← hz, p7, hy]
        have HZ2 : Hid (l[i + 1]? = none → z = -1) := fun hy => by rw [← hz, p7, hy]
        have HZ3 : Hid (z < 0 → x = 0) := fun h => p6 (by rw [← hx0, hz]; exact h)
        have HX := Lib.hid hx
        have H3 := Lib.hid p3
        have HDM : Hid (∀ r : Bool, (r = true ↔ inQ q (x : Int) = true ∧ inQ q at_ = true ∧ Up o at_.toNat (x : Int).toNat) → r = true) := fun r hr => hr.2 ⟨by rw [inQ_nat]; exact decide_eq_true p2, p1, by simpa using p4⟩
        have H5 := Lib.hid p5
        have hw1 : IntKind.i64.wrap ((i : Int) + 1) = (i : Int) + 1 := by rw [IntKind.wrap_i64]; omega
        subst hga
        clear hx p1 p2 p3 p4 p5 p6 p7 hx0 hz hbr
        go_upto_region 9 with (fail)
        go_cut [8, 30] from 26 to 31 (fun s8 s30 wx => s8 = .int .i64 (-1) ∧ s30 = .bool (decide (i + 1 < l.length)) ∧ wx = wr)
        case first =>
          go_wp2
          go_meet
          case rel => exact ⟨rfl, by rw [decide_eq_decide.2 (show ((i : Int) + 1 < (l.length : Int)) ↔ i + 1 < l.length by omega)], rfl⟩
        obtain ⟨rfl, rfl, rfl⟩ := hcut
        obtain ⟨dd, hdd⟩ : ∃ dd, decide (i + 1 < l.length) = dd := ⟨_, rfl⟩
        rw [hdd]
        have HDD := Lib.hid hdd
        clear hdd
        go_upto_if 30 with (fail)
        go_cut [8] from 31 to 36 (fun s8 wx => s8 = .int .i64 z ∧ wx = wc)
        case first =>
          cases dd with
          | true =>
            have hi1 : i + 1 < l.length := of_decide_eq_true HDD.out
            obtain ⟨y, hy⟩ : ∃ y, l[i + 1]? = some y := ⟨_, List.getElem?_eq_getElem hi1⟩
            obtain ⟨g', hg', hcy⟩ := HP.out wc HBR.out (i + 1) y hy
            obtain rfl : g = g' := by simpa using hg'
            have hi1I : (i : Int) + 1 < (l.length : Int) := by omega
            have HZY : Hid (z = (y : Int)) := HZ1.out y hy
            clear hy hg'
            go_wp2
            go_meet
            case rel => exact ⟨by rw [HZY.out], rfl⟩
          | false =>
            have HZY : Hid (z = -1) := HZ2.out (List.getElem?_eq_none (by have := of_decide_eq_false HDD.out; omega))
            go_wp2
            go_meet
            case rel => exact ⟨by rw [HZY.out], rfl⟩
        obtain ⟨rfl, rfl⟩ := hcut
        have hw2 : IntKind.i64.wrap ((l.length : Int) - (i : Int)) = (l.length : Int) - (i : Int) := by rw [IntKind.wrap_i64]; omega
        have hdl : ((l.drop i).length : Int) = (l.length : Int) - (i : Int) := by rw [List.length_drop]; omega
        have HDL := Lib.hid hdl
        clear hdl
        have HEX : Hid (∀ wx, Below W5.heap.size W5 wx → wx.cell? ⟨g, i, none⟩ = some (.int .i64 (x : Int))) := by
          intro wx hb
          obtain ⟨g', hg', hc'⟩ := HP.out wx hb i x HX.out
          obtain rfl : g = g' := by simpa using hg'
          exact hc'
        by_cases hi0 : i = 0
        · have hi0I : ((i : Int) == 0) = true := by rw [hi0]; rfl
          have hat : ((x : Int) != at_) = false := by rw [H5.out hi0]; simp
          clear hi0
          go_wp2_with fail
          go_at_call 33
          refine (HOV.out wc HBR.out (x : Int)).mono ?_
          rintro e w6 ⟨rfl, hw6⟩
          rw [HZ.out, hw6]
          clear hw6
          go_wp2_with fail
          go_at_call 38
          refine (HDO.out wc HBR.out (x : Int)).mono ?_
          rintro e w7 ⟨r, rfl, hr, k, rfl⟩
          obtain rfl := HDM.out r hr
          clear hr
          go_wp2_with fail
          go_at_call 35
          have hbk := below_drewN HBR.out k
          refine (HDE.out _ hbk (x : Int) (l.drop i) H3.out).mono ?_
          rintro e w8 ⟨rfl, hb8⟩
          have hb58 := hbk.trans (hb8.mono hbk.size)
          have hc8 := HEX.out w8 hb58
          rw [HDL.out]
          have HB8 := Lib.hid hb58
          clear hbk hb8 hb58
          by_cases hz0 : z < 0
          · have hxz : ((x : Int) != 0) = false := by rw [HZ3.out hz0]; rfl
            go_wp2
            go_roundw
            case rel => exact ⟨i + 1, by omega, by go_num, HB8.out⟩
            case measure => simp [intOf]; omega
          · have hz1 : decide (z < 0) = false := decide_eq_false hz0
            go_wp2
            go_roundw
            case rel => exact ⟨i + 1, by omega, by go_num, HB8.out⟩
            case measure => simp [intOf]; omega
        · have hi0I : ((i : Int) == 0) = false := by rw [beq_eq_false_iff_ne]; omega
          go_wp2_with fail
          go_at_call 33
          refine (HOV.out wc HBR.out (x : Int)).mono ?_
          rintro e w6 ⟨rfl, hw6⟩
          rw [HZ.out, hw6]
          clear hw6
          go_wp2_with fail
          go_at_call 38
          refine (HDO.out wc HBR.out (x : Int)).mono ?_
          rintro e w7 ⟨r, rfl, hr, k, rfl⟩
          obtain rfl := HDM.out r hr
          clear hr
          go_wp2_with fail
          go_at_call 35
          have hbk := below_drewN HBR.out k
          refine (HDE.out _ hbk (x : Int) (l.drop i) H3.out).mono ?_
          rintro e w8 ⟨rfl, hb8⟩
          have hb58 := hbk.trans (hb8.mono hbk.size)
          have hc8 := HEX.out w8 hb58
          rw [HDL.out]
          have HB8 := Lib.hid hb58
          clear hbk hb8 hb58
          by_cases hz0 : z < 0
          · have hxz : ((x : Int) != 0) = false := by rw [HZ3.out hz0]; rfl
            go_wp2
            go_roundw
            case rel => exact ⟨i + 1, by omega, by go_num, HB8.out⟩
            case measure => simp [intOf]; omega
          · have hz1 : decide (z < 0) = false := decide_eq_false hz0
            go_wp2
            go_roundw
            case rel => exact ⟨i + 1, by omega, by go_num, HB8.out⟩
            case measure => simp [intOf]; omega
      · have hie : i = l.length := by omega
        subst hie
        clear hbr
        go_wp2_with fail
        go_loopw [9, 10] (fun s9 c wr2 => ∃ j : Nat, j ≤ n ∧ c = .int .i64 (j : Int) ∧ s9 = .int .i64 ((cntIn l j : Nat) : Int) ∧ Below W5.heap.size W5 wr2) (fun _ c _ => n - (intOf c).toNat)
        case atStart => exact ⟨0, Nat.zero_le _, rfl, rfl, HBR.out⟩
        case round =>
          obtain ⟨j, hj, rfl, rfl, hbr⟩ := hrel
          have HBW := Lib.hid (HB4.out.trans ((HB5.out.trans (hbr.mono h45)).mono h4))
          obtain ⟨k0, k1, k2, k3, k4, k5, k6, k7, _⟩ := HS.out _ HBW.out
          have HBJ := Lib.hid hbr
          have hcl := cntIn_le l j
          clear hbr
          by_cases hjn : j < n
          · have hjI : (j : Int) < (n : Int) := by omega
            have hcs := cntIn_succ l j
            have hw1 : IntKind.i64.wrap ((cntIn l j : Int) + 1) = (cntIn l j : Int) + 1 := by rw [IntKind.wrap_i64]; omega
            go_wp2_with fail
            go_at_call 38
            refine (HDO.out _ HBJ.out (j : Int)).mono ?_
            rintro e w7 ⟨r, rfl, hr, k, rfl⟩
            have hrr := HL.out.dom HD.out.tr hr
            have HBK := Lib.hid (below_drewN HBJ.out k)
            rw [← hrr] at hcs
            have HCS := Lib.hid hcs
            clear hr hrr hcs
            cases r with
            | true =>
              have HC1 : Hid (((cntIn l (j + 1) : Nat) : Int) = (cntIn l j : Int) + 1) := by unfold Hid; rw [HCS.out, if_pos rfl]; omega
              go_wp2
              go_roundw
              case rel => exact ⟨j + 1, by omega, by go_num, by rw [HC1.out], HBK.out⟩
              case measure => simp [intOf]; omega
            | false =>
              have HC1 : Hid (cntIn l (j + 1) = cntIn l j) := by unfold Hid; rw [HCS.out, if_neg (by decide)]; rfl
              go_wp2
              go_roundw
              case rel => exact ⟨j + 1, by omega, by go_num, by rw [HC1.out], HBK.out⟩
              case measure => simp [intOf]; omega
          · have hje : j = n := by omega
            subst hje
            have hca := HL.out.all HQ.out HD.out.tr
            have hcb : ((cntIn l j : Int) == (l.length : Int)) = true := by rw [hca]; simp
            clear hca
            go_wp2_with fail
            go_at_call 29
            refine (alive9_calls _).mono ?_
            rintro e w9 ⟨rfl, hb9⟩
            have HE := Lib.hid (HEND.out w9 (HBW.out.trans (hb9.mono (HK.out _ HBW.out).2.2)))
            clear hb9
            go_wp2
            go_ret
            exact HE.out
end Go.Proofs.Ytpbkkajgcdahcaa
