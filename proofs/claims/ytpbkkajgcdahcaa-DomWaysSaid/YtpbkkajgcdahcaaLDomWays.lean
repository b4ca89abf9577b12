/- DomWays, at any code and any two numbers: true. -/
import Derived.Test.YtpbkkajgcdahcaaLDomPaths
import Derived.Test.YtpbkkajgcdahcaaRReach2
import Derived.Deep.MidRow
import Derived.Deep.WholeRow
import Derived.Deep.RegionHeld3
namespace Go.Proofs.Ytpbkkajgcdahcaa
open Go.RowKit

theorem nextN_set {ins : List Ins} {a x : Nat} (ha : a < ins.length) : nextN (ins.set a (insOf9 18)) x = if x = a then [] else nextN ins x := by
  unfold nextN
  rw [List.getElem?_set, List.length_set]
  by_cases h : x = a
  · subst h
    rw [if_pos rfl, if_pos rfl, if_pos ha]
    rfl
  · rw [if_neg (fun e => h e.symm), if_neg h]

theorem leads_set {ins : List Ins} {a b : Nat} (ha : a < ins.length) (ha0 : a ≠ 0) (hab : b ≠ a) : Leads (nextN (ins.set a (insOf9 18))) 0 b ↔ RW (nextN ins) a b := by
  constructor
  · intro h
    have : ∀ x, Leads (nextN (ins.set a (insOf9 18))) 0 x → x = a ∨ RW (nextN ins) a x := by
      intro x hx
      induction hx with
      | here => exact .inr (.here ha0)
      | @step x y _ hy ih =>
        rw [nextN_set ha] at hy
        split at hy
        · simp at hy
        · next hne =>
          rcases ih with h | h
          · exact absurd h hne
          · by_cases hya : y = a
            · exact .inl hya
            · exact .inr (.step h hy hya)
    exact (this b h).resolve_left hab
  · intro h
    have : ∀ x, RW (nextN ins) a x → x ≠ a ∧ Leads (nextN (ins.set a (insOf9 18))) 0 x := by
      intro x hx
      induction hx with
      | here => exact ⟨fun e => ha0 e.symm, .here⟩
      | @step u v _ hv hne ih => exact ⟨hne, .step ih.2 (by rw [nextN_set ha, if_neg ih.1]; exact hv)⟩
    exact (this b h).2

/-- An instruction put into a row. -/
theorem insRow_set {w : World} {B g a : Nat} {ins : List Ins} {r : Ins} (h : InsRow w B (some ⟨g, 0, none⟩) ins) (ha : a < ins.length) : InsRow (w.setCells g (a * 13) r.cells.toList) B (some ⟨g, 0, none⟩) (ins.set a r) := by
  intro _
  obtain ⟨b, off, e, hb, hc⟩ := h (by rintro rfl; simp at ha)
  obtain ⟨rfl, rfl⟩ : g = b ∧ 0 = off := by simpa using e
  refine ⟨g, 0, rfl, hb, fun i x hx k u hu => ?_⟩
  have hk : k < 13 := (List.getElem?_eq_some_iff.1 hu).1
  have hl : r.cells.toList.length = 13 := rfl
  by_cases hi : i = a
  · subst hi
    rw [List.getElem?_set, if_pos rfl, if_pos ha] at hx
    obtain rfl := Option.some.inj hx
    rw [show 0 + i * 13 + k = i * 13 + k by omega, World.cell?_setCells_in g r.cells.toList (i * 13) w (fun j hj => ?_) k hk]
    · rw [← hu]; exact (List.getElem?_eq_getElem hk).symm
    · have hy : ins[i]? = some ins[i] := List.getElem?_eq_getElem ha
      have hj' : j < 13 := hj
      have hu' : ins[i].cells.toList[j]? = some (ins[i].cells.toList[j]'hj') := List.getElem?_eq_getElem hj'
      have := hc i _ hy j _ hu'
      rw [show 0 + i * 13 + j = i * 13 + j by omega] at this
      rw [this]; rfl
  · rw [List.getElem?_set, if_neg (fun e => hi e.symm)] at hx
    rw [World.cell?_setCells_out g _ _ _ _ (fun _ _ => ?_)]
    · exact hc i x hx k u hu
    · show 0 + i * 13 + k < a * 13 ∨ a * 13 + r.cells.toList.length ≤ 0 + i * 13 + k
      rw [hl]; omega

theorem insRow_there {w : World} {B g a : Nat} {ins : List Ins} (h : InsRow w B (some ⟨g, 0, none⟩) ins) (ha : a < ins.length) {cur : Array Value} {t : TypeId} (hg : w.heap[g]? = some (.cells cur t (0, 0))) : w.there g (a * 13) 13 := by
  intro j hj
  obtain ⟨b, off, e, hb, hc⟩ := h (by rintro rfl; simp at ha)
  obtain ⟨rfl, rfl⟩ : g = b ∧ 0 = off := by simpa using e
  have hu' : ins[a].cells.toList[j]? = some (ins[a].cells.toList[j]'hj) := List.getElem?_eq_getElem (show j < ins[a].cells.toList.length from hj)
  have := hc a _ (List.getElem?_eq_getElem ha) j _ hu'
  rw [show 0 + a * 13 + j = a * 13 + j by omega] at this
  exact ⟨by rw [this]; rfl, frozen_of_row _ _ _ _ _ hg⟩

theorem insRow_owned {w : World} {base n cap : Nat} {ao : Option Addr} {ins : List Ins} (h : w.ownsRow base 61 13 (.slice ao n cap) n (ins.flatMap fun i => i.cells.toList)) : InsRow w w.heap.size ao ins := by
  intro hne
  have hcl : ∀ y : Ins, y.cells.toList.length = 13 := fun _ => rfl
  have hlen : (ins.flatMap fun i => i.cells.toList).length = ins.length * 13 := by
    have : ∀ l : List Ins, (l.flatMap fun i => i.cells.toList).length = l.length * 13 := by
      intro l
      induction l with
      | nil => rfl
      | cons a l ih => rw [List.flatMap_cons, List.length_append, hcl, ih, List.length_cons]; omega
    exact this ins
  have hpos : 0 < ins.length := List.length_pos_iff.2 hne
  rcases h.2 with ⟨_, e2⟩ | ⟨g, cap', cur, e, hg, h3, h4, h5, h6, h7⟩
  · have := h.1; rw [hlen, e2] at this; omega
  · simp only [Value.slice.injEq] at e
    refine ⟨g, 0, e.1, (Array.getElem?_eq_some_iff.1 h3).1, fun i x hx k u hu => ?_⟩
    have hk : k < 13 := (List.getElem?_eq_some_iff.1 hu).1
    have hi : i < ins.length := (List.getElem?_eq_some_iff.1 hx).1
    rw [cell_of_row _ _ _ _ _ _ h3, Nat.zero_add]
    have e2 : (cur.toList.take (n * 13))[i * 13 + k]? = some u := by rw [h7, flat9_get x k hk ins i hx]; exact hu
    have hn : n * 13 = ins.length * 13 := by rw [← hlen]; exact h.1.symm
    rw [List.getElem?_take, if_pos (by rw [hn]; omega)] at e2
    simpa using e2

theorem flat_len (l : List Ins) : (l.flatMap fun i => i.cells.toList).length = l.length * 13 := by
  have hcl : ∀ y : Ins, y.cells.toList.length = 13 := fun _ => rfl
  induction l with
  | nil => rfl
  | cons a l ih => rw [List.flatMap_cons, List.length_append, hcl, ih, List.length_cons]; omega

theorem insRow_news {w : World} {B b off : Nat} {ins : List Ins} (h : InsRow w B (some ⟨b, off, none⟩) ins) (j : Nat) (u : Value) (hu : (ins.flatMap fun i => i.cells.toList)[j]? = some u) : w.cell? ((⟨b, off, none⟩ : Addr).add j) = some u := by
  have hj := (List.getElem?_eq_some_iff.1 hu).1
  rw [flat_len] at hj
  have hi : j / 13 < ins.length := by omega
  have hx : ins[j / 13]? = some ins[j / 13] := List.getElem?_eq_getElem hi
  have hg := flat9_get _ (j % 13) (by omega) ins (j / 13) hx
  rw [show j / 13 * 13 + j % 13 = j by omega, hu] at hg
  obtain ⟨b', off', e, _, hc⟩ := h (by rintro rfl; simp at hi)
  obtain ⟨rfl, rfl⟩ : b = b' ∧ off = off' := by simpa using e
  have := hc _ _ hx _ _ hg.symm
  rw [Addr.add_lit, ← this]
  congr 2
  omega

theorem info_insW : (Try.prog.info? 61).map (fun i => (i.zero, i.size, i.bytes)) = some (some (.agg #[.int .i64 0, .int .i64 0, .int .i64 0, .int .i64 0, .int .i64 0, .int .i64 0, .string ByteArray.empty, .slice none 0 0, .slice none 0 0, .int .i64 0, .int .i64 0, .int .i64 0, .int .i64 0]), 13, 144) := by kernel_rfl

set_option maxRecDepth 100000 in
set_option maxHeartbeats 4000000 in
theorem domWays_calls (c : Cod) (a b : Int) (w : World) (hin : c.inn w) : Calls Try.prog 7 #[.agg c.cells, .int .i64 a, .int .i64 b] w (YesD w) := by
  obtain ⟨C, hC⟩ : ∃ C, c = C := ⟨_, rfl⟩
  have HC := Lib.hid hC
  have HIN := Lib.hid hin
  clear hin
  obtain ⟨nm, par, varsA, nvars, varsC, rp, rto, rcl, fromA, nfrom, fromC, insA, insC, ins⟩ := c
  simp only [Cod.cells]
  obtain ⟨n, hn⟩ : ∃ n, ins.length = n := ⟨_, rfl⟩
  have HN' := Lib.hid hn
  obtain ⟨N, hN⟩ : ∃ N, w.heap.size = N := ⟨_, rfl⟩
  obtain ⟨W1, hW1⟩ : ∃ W1, w.alloc (.cells #[.string nm, .int .i64 par, .slice varsA nvars varsC, .bool rp, .string rto, .int .i64 rcl, .slice fromA nfrom fromC, .slice insA n insC] 30) = W1 := ⟨_, rfl⟩
  have hb1 : Below N w W1 := by rw [← hW1, ← hN]; exact (Below.refl _ _).alloc (Nat.le_refl _) _
  have hs1 : W1.heap.size = N + 1 := by rw [← hW1]; simp [hN]
  have hrow : W1.heap[N]? = some (.cells #[.string nm, .int .i64 par, .slice varsA nvars varsC, .bool rp, .string rto, .int .i64 rcl, .slice fromA nfrom fromC, .slice insA n insC] 30 (0, 0)) := by
    rw [← hW1, ← hN]; exact alloc_at _ _
  have hin1 := HIN.out.below (by rw [hN]; exact hb1)
  have hcc : C.cells = #[.string nm, .int .i64 par, .slice varsA nvars varsC, .bool rp, .string rto, .int .i64 rcl, .slice fromA nfrom fromC, .slice insA n insC] := by rw [← hC, ← hn]; rfl
  have HS : Hid (∀ W, Below (N + 1) W1 W → W.cell? ⟨N, 0, none⟩ = some (.string nm) ∧ W.cell? ⟨N, 1, none⟩ = some (.int .i64 par) ∧ W.cell? ⟨N, 2, none⟩ = some (.slice varsA nvars varsC) ∧ W.cell? ⟨N, 3, none⟩ = some (.bool rp) ∧ W.cell? ⟨N, 4, none⟩ = some (.string rto) ∧ W.cell? ⟨N, 5, none⟩ = some (.int .i64 rcl) ∧ W.cell? ⟨N, 6, none⟩ = some (.slice fromA nfrom fromC) ∧ W.cell? ⟨N, 7, none⟩ = some (.slice insA n insC) ∧ Below (N + 1) W1 W) := by
    intro W hW
    have h4 := (hW.block N (by omega)).trans hrow
    refine ⟨?_, ?_, ?_, ?_, ?_, ?_, ?_, ?_, hW⟩ <;> (rw [cell_of_row _ _ _ _ _ _ h4]; rfl)
  have HK : Hid (∀ W, Below (N + 1) W1 W → C.inn W ∧ Below N w W ∧ N + 1 ≤ W.heap.size) := by
    intro W hW
    exact ⟨by rw [← hC]; exact hin1.below (by rw [hs1]; exact hW), hb1.trans (hW.mono (by omega)), by have := hW.size; omega⟩
  have HLI : Hid (∀ W, Below (N + 1) W1 W → Calls Try.prog 28 #[.agg #[.string nm, .int .i64 par, .slice varsA nvars varsC, .bool rp, .string rto, .int .i64 rcl, .slice fromA nfrom fromC, .slice insA n insC]] W (SaysIf W W.heap.size C.fit9)) := by
    intro W hb; rw [← hcc]; exact light9_calls C W (HK.out W hb).1
  have HOF : Hid (∀ W, Below (N + 1) W1 W → C.fit9 → Calls Try.prog 30 #[.agg #[.string nm, .int .i64 par, .slice varsA nvars varsC, .bool rp, .string rto, .int .i64 rcl, .slice fromA nfrom fromC, .slice insA n insC]] W (DomMade C W)) := by
    intro W hb hf; rw [← hcc]; exact domOf_calls C W (HK.out W hb).1 hf.1
  have HEND : Hid (∀ W, Below (N + 1) W1 W → YesD w (.returned (.bool true)) W) := fun W hb => ⟨rfl, by rw [hN]; exact (HK.out W hb).2.1⟩
  have HW1 := Lib.hid hW1
  have hsl : N + 1 ≤ W1.heap.size := by omega
  obtain ⟨k0, k1, k2, k3, k4, k5, k6, k7, _⟩ := HS.out W1 (Below.refl _ _)
  clear hb1 hs1 hrow hin1 hW1 HIN hC hcc
  rw [hn]
  clear hn
  go_enter Try.func7, Try.ntmps7
  go_upto_region 1 with (fail)
  rw [HW1.out]
  go_cut [40] from 11 to 41 (fun s40 wc => ∃ qq, s40 = .bool qq ∧ Below (N + 1) W1 wc ∧ (qq = false → C.fit9 ∧ 1 ≤ a ∧ a < (n : Int) ∧ 0 ≤ b ∧ b < (n : Int) ∧ a ≠ b))
  case first =>
    go_wp2_with fail
    go_at_call 28
    refine (HLI.out W1 (Below.refl _ _)).mono ?_
    rintro e w3 ⟨fb, rfl, hfb, hb3⟩
    have hb3' : Below (N + 1) W1 w3 := hb3.mono hsl
    clear k0 k1 k2 k3 k4 k5 k6 k7
    obtain ⟨k0, k1, k2, k3, k4, k5, k6, k7, _⟩ := HS.out w3 hb3'
    have HFB := Lib.hid hfb
    have HB3 := Lib.hid hb3'
    clear hfb hb3 hb3'
    cases fb with
    | false =>
      go_wp2
      go_meet
      case rel => exact ⟨true, rfl, HB3.out, fun h => by cases h⟩
    | true =>
      have HFIT : Hid C.fit9 := HFB.out rfl
      clear HFB
      by_cases a1 : a < 1
      · go_wp2
        go_meet
        case rel => exact ⟨true, rfl, HB3.out, fun h => by cases h⟩
      · have d1 : decide (a < 1) = false := decide_eq_false a1
        have H1 := Lib.hid a1
        clear a1
        by_cases a2 : (n : Int) ≤ a
        · go_wp2
          go_meet
          case rel => exact ⟨true, rfl, HB3.out, fun h => by cases h⟩
        · have d2 : decide ((n : Int) ≤ a) = false := decide_eq_false a2
          have H2 := Lib.hid a2
          clear a2
          by_cases a3 : b < 0
          · go_wp2
            go_meet
            case rel => exact ⟨true, rfl, HB3.out, fun h => by cases h⟩
          · have d3 : decide (b < 0) = false := decide_eq_false a3
            have H3 := Lib.hid a3
            clear a3
            by_cases a4 : (n : Int) ≤ b
            · go_wp2
              go_meet
              case rel => exact ⟨true, rfl, HB3.out, fun h => by cases h⟩
            · have d4 : decide ((n : Int) ≤ b) = false := decide_eq_false a4
              have H4 := Lib.hid a4
              clear a4
              by_cases a5 : a = b
              · have d5 : (a == b) = true := by rw [a5]; simp
                clear a5
                go_wp2
                go_meet
                case rel => exact ⟨true, rfl, HB3.out, fun h => by cases h⟩
              · have d5 : (a == b) = false := by rw [beq_eq_false_iff_ne]; exact a5
                have H5 := Lib.hid a5
                clear a5
                go_wp2
                go_meet
                case rel => exact ⟨false, rfl, HB3.out, fun _ => ⟨HFIT.out, by have := H1.out; omega, by have := H2.out; omega, by have := H3.out; omega, by have := H4.out; omega, H5.out⟩⟩
  case rest =>
    obtain ⟨qq, rfl, hbc, hq⟩ := hcut
    clear k0 k1 k2 k3 k4 k5 k6 k7
    have HBC := Lib.hid hbc
    have HQQ := Lib.hid hq
    clear hbc hq
    cases qq with
    | true =>
      go_wp2_with fail
      go_at_call 29
      refine (alive9_calls _).mono ?_
      rintro e w4 ⟨rfl, hb4⟩
      have HB4 := Lib.hid (HBC.out.trans (hb4.mono (HK.out wc HBC.out).2.2))
      clear hb4
      go_wp2
      go_ret
      exact HEND.out w4 HB4.out
    | false =>
      obtain ⟨hfit, a1, a2, b1, b2, hab⟩ := HQQ.out rfl
      have HFIT := Lib.hid hfit
      clear hfit HQQ
      obtain ⟨x, rfl⟩ : ∃ x : Nat, a = (x : Int) := ⟨a.toNat, by omega⟩
      obtain ⟨y, rfl⟩ : ∃ y : Nat, b = (y : Int) := ⟨b.toNat, by omega⟩
      have hx1 : 1 ≤ x := by omega
      have hxn : x < n := by omega
      have hyn : y < n := by omega
      have hxy : x ≠ y := by omega
      clear b1 hab a1
      obtain ⟨k0, k1, k2, k3, k4, k5, k6, k7, _⟩ := HS.out wc HBC.out
      go_wp2_with fail
      go_at_call 30
      refine (HOF.out wc HBC.out HFIT.out).mono ?_
      rintro e W4 ⟨T, O, PL, R, H, o, q, rfl, hT, htree, hdt, hrows, hb4⟩
      have hb4' : Below (N + 1) W1 W4 := HBC.out.trans (hb4.mono (HK.out wc HBC.out).2.2)
      have hci' : C.ins = ins := by rw [← HC.out]
      have hci : C.ins.length = n := by rw [hci']; exact HN'.out
      have hn60 : n ≤ 60 := by rw [← hci]; exact HFIT.out.1
      rw [hci] at htree
      rw [hci'] at hdt
      have hord : Ord n q := by rw [← HN'.out]; exact hdt.ord.ord
      have HT : Hid (∀ W, Below W4.heap.size W4 W → TreeI W T O PL R n o q) := fun W hb => htree.below hb
      have HQ := Lib.hid hord
      have HD := Lib.hid hdt
      have HB4 := Lib.hid hb4'
      have h4 := (HK.out W4 hb4').2.2
      have hne : ins ≠ [] := fun e => by have := HN'.out; rw [e] at this; simp at this; omega
      obtain ⟨Tq, t1, t2, t3, t4⟩ := bfs_from (succ := nextN ins) (a := 0) (n := ins.length) (fun x y h => nextN_lt h) (List.length_pos_iff.2 hne)
      have HR : Hid (∀ W, Below W4.heap.size W4 W → Calls Try.prog 22 #[.agg #[.string nm, .int .i64 par, .slice varsA nvars varsC, .bool rp, .string rto, .int .i64 rcl, .slice fromA nfrom fromC, .slice insA n insC]] W (Truthed W n Tq)) := by
        intro W hb
        have h1 := (HK.out W (HB4.out.trans (hb.mono h4))).1.row
        rw [← HC.out] at h1
        have h := rreach_calls ⟨nm, par, varsA, nvars, varsC, rp, rto, rcl, fromA, nfrom, fromC, insA, insC, ins⟩ W Tq h1 (by show ins.length ≤ 90000; have := HN'.out; omega) (by have := HN'.out; omega) ⟨fun h => absurd h hne, fun _ => t1⟩
        have e : ins.length = n := HN'.out
        simp only [Cod.cells, e] at h
        exact h
      have HTQ : Hid (∀ z, z ∈ Tq ↔ z ∈ q) := fun z => (t2 z).trans (HD.out.ord.mem hne z).symm
      have HDO : Hid (∀ W, Below W4.heap.size W4 W → Calls Try.prog 38 #[.pointer (some ⟨T, 0, none⟩), .int .i64 (x : Int), .int .i64 (y : Int)] W (DomsP o q (x : Int) (y : Int) W)) := fun W hb => dominates_calls W (HT.out W hb) HQ.out HD.out.tr HD.out.all (by omega) _ _
      have HNE := Lib.hid hne
      clear k0 k1 k2 k3 k4 k5 k6 k7 hT htree hdt hrows hb4 hb4' hord t1 t2 t3 t4 hne
      obtain ⟨k0, k1, k2, k3, k4, k5, k6, k7, _⟩ := HS.out W4 HB4.out
      go_wp2_with fail
      go_at_call 22
      refine (HR.out W4 (Below.refl _ _)).mono ?_
      rintro e W5 ⟨B5, rfl, hB5, hrow5, hb5⟩
      have HB5 := Lib.hid hb5
      have h45 := hb5.size
      have cx : W5.cell? ⟨B5, x, none⟩ = some (.bool (decide (x ∈ q))) := by rw [cell_of_row _ _ _ _ _ _ hrow5, seenCells_get _ hxn, decide_eq_decide.2 (HTQ.out x)]
      have cy : W5.cell? ⟨B5, y, none⟩ = some (.bool (decide (y ∈ q))) := by rw [cell_of_row _ _ _ _ _ _ hrow5, seenCells_get _ hyn, decide_eq_decide.2 (HTQ.out y)]
      clear hb5 hrow5 k0 k1 k2 k3 k4 k5 k6 k7
      obtain ⟨k0, k1, k2, k3, k4, k5, k6, k7, _⟩ := HS.out W5 (HB4.out.trans (HB5.out.mono h4))
      go_upto_region 5 with (fail)
      obtain ⟨dx, hdx⟩ : ∃ dx, decide (x ∈ q) = dx := ⟨_, rfl⟩
      obtain ⟨dy, hdy⟩ : ∃ dy, decide (y ∈ q) = dy := ⟨_, rfl⟩
      rw [hdx] at cx
      rw [hdy] at cy
      have HDX := Lib.hid hdx
      have HDY := Lib.hid hdy
      clear hdx hdy
      go_cut [57] from 46 to 58 (fun s57 wx => s57 = .bool (!dx || !dy) ∧ wx = W5)
      case first =>
        cases dx with
        | false =>
          go_wp2
          go_meet
          case rel => exact ⟨rfl, rfl⟩
        | true =>
          go_wp2
          go_meet
          case rel => exact ⟨rfl, rfl⟩
      obtain ⟨rfl, rfl⟩ := hcut
      clear cx cy
      by_cases hin2 : x ∈ q ∧ y ∈ q
      · obtain rfl : dx = true := by rw [← HDX.out]; exact decide_eq_true hin2.1
        obtain rfl : dy = true := by rw [← HDY.out]; exact decide_eq_true hin2.2
        have HI2 := Lib.hid hin2
        clear hin2
        have hst : ∀ c : Array Value, c.size = 8 → (storeCells ⟨wc.heap.size, 0, none⟩ [.string nm, .int .i64 par, .slice varsA nvars varsC, .bool rp, .string rto, .int .i64 rcl, .slice fromA nfrom fromC, .slice insA n insC]).run Try.prog (wc.alloc (.cells c 30)) = .ok () (wc.alloc (.cells #[.string nm, .int .i64 par, .slice varsA nvars varsC, .bool rp, .string rto, .int .i64 rcl, .slice fromA nfrom fromC, .slice insA n insC] 30)) := fun c hc =>
          run_storeCells_new (P := Try.prog) wc 30 c #[.string nm, .int .i64 par, .slice varsA nvars varsC, .bool rp, .string rto, .int .i64 rcl, .slice fromA nfrom fromC, .slice insA n insC] (by show _ = some 8; kernel_rfl) hc (by rw [← Array.all_toList]; simp only [List.all_cons, List.all_nil]; rfl)
        obtain ⟨W6, hW6⟩ : ∃ W6, wc.alloc (.cells #[.string nm, .int .i64 par, .slice varsA nvars varsC, .bool rp, .string rto, .int .i64 rcl, .slice fromA nfrom fromC, .slice insA n insC] 30) = W6 := ⟨_, rfl⟩
        rw [hW6] at hst
        go_upto_region 8 with (fail)
        obtain ⟨Z, hZ⟩ : ∃ Z, wc.heap.size = Z := ⟨_, rfl⟩
        have hb56 : Below wc.heap.size wc W6 := by rw [← hW6]; exact (Below.refl _ _).alloc (Nat.le_refl _) _
        have hs6 : W6.heap.size = Z + 1 := by rw [← hW6]; simp [hZ]
        have hrow6 : W6.heap[Z]? = some (.cells #[.string nm, .int .i64 par, .slice varsA nvars varsC, .bool rp, .string rto, .int .i64 rcl, .slice fromA nfrom fromC, .slice insA n insC] 30 (0, 0)) := by rw [← hW6, ← hZ]; exact alloc_at _ _
        have hb16 : Below (N + 1) W1 W6 := (HB4.out.trans (HB5.out.mono h4)).trans (hb56.mono (by omega))
        have hin6 := (HK.out W6 hb16).1
        rw [← HC.out] at hin6
        obtain ⟨bI, offI, hIA, _, _⟩ := hin6.row HNE.out
        have hIA' : insA = some ⟨bI, offI, none⟩ := hIA
        subst hIA'
        clear k0 k1 k2 k3 k4 k5 k6 k7
        have hb17 : Below (N + 1) W1 (W6.alloc (.cells #[] 61)) := hb16.alloc (by rw [hs6]; have := HB5.out.size; omega) _
        obtain ⟨k0, k1, k2, k3, k4, k5, k6, k7, _⟩ := HS.out _ hb17
        rw [hZ]
        have hnews : ∀ j u, (ins.flatMap fun i => i.cells.toList)[j]? = some u → (W6.alloc (.cells #[] 61)).cell? ((⟨bI, offI, none⟩ : Addr).add j) = some u := fun j u hu => insRow_news (hin6.row.below ((Below.refl W6.heap.size W6).alloc (Nat.le_refl _) _) (Nat.le_refl _)) j u hu
        have hone : ∀ u ∈ (ins.flatMap fun i => i.cells.toList), u.oneCell' = true := by
          intro u hu
          obtain ⟨i, hi, hu⟩ := List.mem_flatMap.1 hu
          obtain ⟨⟨⟨_, _, e1⟩, _, _, _, e3⟩, _⟩ := hin6.args i hi
          have h : i.cells.toList.all (·.oneCell') = true := by simp only [Ins.cells, e1, e3, List.all_cons, List.all_nil]; rfl
          exact List.all_eq_true.1 h u hu
        have hfl : (ins.flatMap fun i => i.cells.toList).length = n * 13 := by rw [flat_len, HN'.out]
        have HIN6 := Lib.hid hin6
        have HR6 := Lib.hid hrow6
        have HB17 := Lib.hid hb17
        have HNW := Lib.hid hnews
        have HON := Lib.hid hone
        have HFL := Lib.hid hfl
        clear hst hIA hin6 hrow6 hb16 hb17 hnews hone hfl
        obtain ⟨j0, hj0, hj1, hj2, hj3⟩ := info_parts info_insW
        go_wp2_with (at_builtin; refine wpList_append_lies _ rfl _ _ 28 rfl (Z + 1) 61 j0 _ 13 144 Try.underlying28 hj0 hj1 hj2 hj3 rfl (by decide) _ 0 [] rfl ?own ⟨bI, offI, none⟩ n insC _ rfl HFL.out HNW.out HON.out (by omega) (by unfold maxLen; omega) (by omega) (by rw [World.size_alloc]; omega) _ rfl ?_)
        case own =>
          have h := World.ownsRow_lit (base := Z + 1) (e := 61) (size := 13) W6 #[] 0 (by omega) (by decide) rfl
          rw [hs6] at h
          exact h
        intro g5 cap5 w5 hown5 hgrow5 hat5 hlt5
        have hZ1 : (Value.slice (some ⟨Z + 1, 0, none⟩) 0 0).ownBlock = some (Z + 1) := rfl
        have hx75 : Ext (fun k => (Value.slice (some ⟨Z + 1, 0, none⟩) 0 0).ownBlock = some k) (W6.alloc (.cells #[] 61)) w5 := Ext.of_grown hgrow5 (fun k hk => .inl hk)
        have hx65 : Ext (fun k => k = Z + 1) W6 w5 := ((Ext.refl (fun k => k = Z + 1) W6).alloc _).trans (hx75.mono (fun k hk => by rw [hZ1] at hk; exact (Option.some.inj hk).symm)) (fun j hj => .inl hj)
        have hrow5 := hx65.heap HR6.out (by omega)
        have hg5 : Z + 1 ≤ g5 := by rcases hat5 with h | h; (rw [hZ1] at h; have := Option.some.inj h; omega); omega
        have hins5 : InsRow w5 w5.heap.size (some ⟨g5, 0, none⟩) ins := insRow_owned hown5
        obtain ⟨cur5, hcur5⟩ : ∃ cur, w5.heap[g5]? = some (.cells cur 61 (0, 0)) := by
          rcases hown5.2 with ⟨e, _⟩ | ⟨g', cap', cur, e, _, h3, _⟩
          · simp at e
          · simp only [Value.slice.injEq, Option.some.injEq, Addr.mk.injEq, and_true, true_and] at e
            obtain ⟨rfl, _⟩ := e
            exact ⟨cur, h3⟩
        have c75 : w5.cell? ⟨Z, 7, none⟩ = some (.slice (some ⟨bI, offI, none⟩) n insC) := by rw [cell_of_row _ _ _ _ _ _ hrow5]; rfl
        have f75 : w5.frozen? ⟨Z, 7, none⟩ = false := frozen_of_row _ _ _ _ _ hrow5
        have hx8 : Ext (· = Z) w5 (w5.setCell ⟨Z, 7, none⟩ (.slice (some ⟨g5, 0, none⟩) n cap5)) := Ext.set1 _ _ _ _
        obtain ⟨W8, hW8⟩ : ∃ W8, w5.setCell ⟨Z, 7, none⟩ (.slice (some ⟨g5, 0, none⟩) n cap5) = W8 := ⟨_, rfl⟩
        have hrow8 : W8.heap[Z]? = some (.cells #[.string nm, .int .i64 par, .slice varsA nvars varsC, .bool rp, .string rto, .int .i64 rcl, .slice fromA nfrom fromC, .slice (some ⟨g5, 0, none⟩) n cap5] 30 (0, 0)) := by
          rw [← hW8]; exact heap_setCell_same _ _ _ _ _ _ hrow5
        rw [hW8] at hx8
        have hcur8 := hx8.heap hcur5 (by omega)
        have hs8 : W8.heap.size = w5.heap.size := by rw [← hW8, World.size_setCell]
        have hins8 : InsRow W8 W8.heap.size (some ⟨g5, 0, none⟩) ins := by
          rw [hs8]
          exact hins5.ext hx8 (Nat.le_refl _) (fun a _ ha => by rw [← Option.some.inj ha]; show ¬ g5 = Z; omega)
        have hth := insRow_there hins8 (show x < ins.length by rw [HN'.out]; exact hxn) hcur8
        have hins9 := insRow_set (r := insOf9 18) hins8 (show x < ins.length by rw [HN'.out]; exact hxn)
        have hx9 := Ext.setCells g5 (insOf9 18).cells.toList (x * 13) W8
        have hs68 : W6.heap.size ≤ w5.heap.size := hx65.size
        have hb59 : Below wc.heap.size wc (W8.setCells g5 (x * 13) (insOf9 18).cells.toList) := by
          rw [hZ]
          have e1 : Ext (fun k => Z ≤ k) wc W6 := (Ext.of_below hb56).mono (fun k hk => by omega)
          have e2 : Ext (fun k => Z ≤ k) wc w5 := e1.trans hx65 (fun k hk => .inl (by omega))
          have e3 : Ext (fun k => Z ≤ k) wc W8 := e2.trans hx8 (fun k hk => .inl (by omega))
          exact (e3.trans hx9 (fun k hk => .inl (by omega))).below (by omega) (fun _ h => h)
        obtain ⟨W9, hW9⟩ : ∃ W9, W8.setCells g5 (x * 13) (insOf9 18).cells.toList = W9 := ⟨_, rfl⟩
        rw [hW9] at hins9 hx9 hb59
        have hrow9 := hx9.heap hrow8 (by omega)
        have hs9 := hx9.size
        have hwp : ins.set x (insOf9 18) ≠ [] := by
          intro e
          have : (ins.set x (insOf9 18)).length = 0 := by rw [e]; rfl
          rw [List.length_set, HN'.out] at this; omega
        have hl9 : (ins.set x (insOf9 18)).length = n := by rw [List.length_set, HN'.out]
        obtain ⟨Tc, t1, t2, t3, t4⟩ := bfs_from (succ := nextN (ins.set x (insOf9 18))) (a := 0) (n := (ins.set x (insOf9 18)).length) (fun x y h => nextN_lt h) (List.length_pos_iff.2 hwp)
        have HR9 : Hid (Calls Try.prog 22 #[.agg #[.string nm, .int .i64 par, .slice varsA nvars varsC, .bool rp, .string rto, .int .i64 rcl, .slice fromA nfrom fromC, .slice (some ⟨g5, 0, none⟩) n cap5]] W9 (Truthed W9 n Tc)) := by
          have h := rreach_calls ⟨nm, par, varsA, nvars, varsC, rp, rto, rcl, fromA, nfrom, fromC, some ⟨g5, 0, none⟩, cap5, ins.set x (insOf9 18)⟩ W9 Tc (by
            intro hne
            obtain ⟨b', off', e1, e2, e3⟩ := hins9 hne
            exact ⟨b', off', e1, by omega, e3⟩) (by show (ins.set x (insOf9 18)).length ≤ 90000; omega) (by omega) ⟨fun h => absurd h hwp, fun _ => t1⟩
          simp only [Cod.cells, hl9] at h
          exact h
        obtain ⟨dc, hdc⟩ : ∃ dc, decide (y ∈ Tc) = dc := ⟨_, rfl⟩
        have HDM : Hid (∀ r : Bool, (r = true ↔ inQ q (x : Int) = true ∧ inQ q (y : Int) = true ∧ Up o (y : Int).toNat (x : Int).toNat) → r = !dc) := by
          intro r hr
          have hup := HD.out.iff y HI2.out.2 x
          have hld : y ∈ Tc ↔ RW (nextN ins) x y := (t2 y).trans (leads_set (by rw [HN'.out]; exact hxn) (by omega) (by omega))
          rw [Bool.eq_iff_iff, hr, ← hdc]
          simp only [Int.toNat_natCast, Bool.not_eq_true', decide_eq_false_iff_not, hld, ← hup]
          exact ⟨fun h => h.2.2, fun h => ⟨by rw [inQ_nat]; exact decide_eq_true HI2.out.1, by rw [inQ_nat]; exact decide_eq_true HI2.out.2, h⟩⟩
        have HDC := Lib.hid hdc
        have HROW8 := Lib.hid hrow8
        have HROW9 := Lib.hid hrow9
        have HTH := Lib.hid hth
        have HB59 := Lib.hid hb59
        have HW9 := Lib.hid hW9
        have c8 : W8.cell? ⟨Z, 7, none⟩ = some (.slice (some ⟨g5, 0, none⟩) n cap5) := by rw [cell_of_row _ _ _ _ _ _ hrow8]; rfl
        have hxI : (x : Int) < (n : Int) := by omega
        clear hown5 hgrow5 hat5 hlt5 hx75 hx65 hrow5 hins5 hcur5 hx8 hrow8 hcur8 hins8 hth hins9 hx9 hb59 hrow9 hwp t1 t2 t3 t4 hdc hW9 hl9 hs8 hs68 hs9 k0 k1 k2 k3 k4 k5 k6 k7
        go_upto_region 9 with (fail)
        try rw [hW8]
        obtain ⟨u0', d0⟩ := Option.isSome_iff_exists.1 (HTH.out 0 (by decide)).1
        have e0 := (HTH.out 0 (by decide)).2
        obtain ⟨u1', d1⟩ := Option.isSome_iff_exists.1 (HTH.out 1 (by decide)).1
        have e1 := (HTH.out 1 (by decide)).2
        obtain ⟨u2', d2⟩ := Option.isSome_iff_exists.1 (HTH.out 2 (by decide)).1
        have e2 := (HTH.out 2 (by decide)).2
        obtain ⟨u3', d3⟩ := Option.isSome_iff_exists.1 (HTH.out 3 (by decide)).1
        have e3 := (HTH.out 3 (by decide)).2
        obtain ⟨u4', d4⟩ := Option.isSome_iff_exists.1 (HTH.out 4 (by decide)).1
        have e4 := (HTH.out 4 (by decide)).2
        obtain ⟨u5', d5⟩ := Option.isSome_iff_exists.1 (HTH.out 5 (by decide)).1
        have e5 := (HTH.out 5 (by decide)).2
        obtain ⟨u6', d6⟩ := Option.isSome_iff_exists.1 (HTH.out 6 (by decide)).1
        have e6 := (HTH.out 6 (by decide)).2
        obtain ⟨u7', d7⟩ := Option.isSome_iff_exists.1 (HTH.out 7 (by decide)).1
        have e7 := (HTH.out 7 (by decide)).2
        obtain ⟨u8', d8⟩ := Option.isSome_iff_exists.1 (HTH.out 8 (by decide)).1
        have e8 := (HTH.out 8 (by decide)).2
        obtain ⟨u9', d9⟩ := Option.isSome_iff_exists.1 (HTH.out 9 (by decide)).1
        have e9 := (HTH.out 9 (by decide)).2
        obtain ⟨u10', d10⟩ := Option.isSome_iff_exists.1 (HTH.out 10 (by decide)).1
        have e10 := (HTH.out 10 (by decide)).2
        obtain ⟨u11', d11⟩ := Option.isSome_iff_exists.1 (HTH.out 11 (by decide)).1
        have e11 := (HTH.out 11 (by decide)).2
        obtain ⟨u12', d12⟩ := Option.isSome_iff_exists.1 (HTH.out 12 (by decide)).1
        have e12 := (HTH.out 12 (by decide)).2
        simp only [Nat.add_zero] at d0 e0
        have HNEST : Hid ((((((((((((((W8.setCell ⟨g5, x * 13, none⟩ (.int .i64 18)).setCell ⟨g5, x * 13 + 1, none⟩ (.int .i64 0)).setCell ⟨g5, x * 13 + 2, none⟩ (.int .i64 0)).setCell ⟨g5, x * 13 + 3, none⟩ (.int .i64 0)).setCell ⟨g5, x * 13 + 4, none⟩ (.int .i64 0)).setCell ⟨g5, x * 13 + 5, none⟩ (.int .i64 0)).setCell ⟨g5, x * 13 + 6, none⟩ (.string ⟨#[]⟩)).setCell ⟨g5, x * 13 + 7, none⟩ (.slice none 0 0)).setCell ⟨g5, x * 13 + 8, none⟩ (.slice none 0 0)).setCell ⟨g5, x * 13 + 9, none⟩ (.int .i64 0)).setCell ⟨g5, x * 13 + 10, none⟩ (.int .i64 0)).setCell ⟨g5, x * 13 + 11, none⟩ (.int .i64 0)).setCell ⟨g5, x * 13 + 12, none⟩ (.int .i64 0)) = W9) := by unfold Hid; rw [← HW9.out]; rfl
        go_upto_region 10 with (fail)
        rw [HNEST.out]
        clear c75 f75 c8 d0 e0 d1 e1 d2 e2 d3 e3 d4 e4 d5 e5 d6 e6 d7 e7 d8 e8 d9 e9 d10 e10 d11 e11 d12 e12
        have hz9 : ∀ k u, #[Value.string nm, .int .i64 par, .slice varsA nvars varsC, .bool rp, .string rto, .int .i64 rcl, .slice fromA nfrom fromC, .slice (some ⟨g5, 0, none⟩) n cap5][k]? = some u → W9.cell? ⟨Z, k, none⟩ = some u := fun k u hk => by rw [cell_of_row _ _ _ _ _ _ HROW9.out]; exact hk
        have k0 := hz9 0 _ rfl
        have k1 := hz9 1 _ rfl
        have k2 := hz9 2 _ rfl
        have k3 := hz9 3 _ rfl
        have k4 := hz9 4 _ rfl
        have k5 := hz9 5 _ rfl
        have k6 := hz9 6 _ rfl
        have k7 := hz9 7 _ rfl
        clear hz9
        go_wp2_with fail
        go_at_call 22
        refine HR9.out.mono ?_
        rintro e W10 ⟨BC, rfl, hBC, hrowC, hb10⟩
        have hbC : Below wc.heap.size wc W10 := HB59.out.trans (hb10.mono HB59.out.size)
        have hCC : W10.cell? ⟨BC, y, none⟩ = some (.bool dc) := by rw [cell_of_row _ _ _ _ _ _ hrowC, seenCells_get _ hyn, HDC.out]
        have HBC' := Lib.hid hbC
        have HCW : Hid (∀ W, Below W10.heap.size W10 W → W.cell? ⟨BC, y, none⟩ = some (.bool dc) ∧ Below W10.heap.size W10 W) := fun W hb => ⟨by rw [hb.cell (p := ⟨BC, y, none⟩) (Array.getElem?_eq_some_iff.1 hrowC).1]; exact hCC, hb⟩
        have hsC := hbC.size
        clear k0 k1 k2 k3 k4 k5 k6 k7 hrowC hb10 hbC
        have HDO2 : Hid (∀ W, Below W10.heap.size W10 W → Calls Try.prog 38 #[.pointer (some ⟨T, 0, none⟩), .int .i64 (x : Int), .int .i64 (y : Int)] W (DomsP o q (x : Int) (y : Int) W)) := fun W hb => HDO.out W (HB5.out.trans ((HBC'.out.trans (hb.mono hsC)).mono h45))
        go_wp2_with fail
        go_region_held3 (fun w' => w'.cell? ⟨BC, y, none⟩ = some (.bool dc) ∧ Below W10.heap.size W10 w')
          (first | (exact hS) | (exact HCW.out _ (below_drewN (Below.refl _ _) _)))
          (first
            | (go_at_call 38; refine (HDO2.out _ (below_drewN (Below.refl _ _) _)).mono ?_; rintro e w7 ⟨r, rfl, hr, k, rfl⟩; obtain rfl := HDM.out r hr; skip)
            | (go_at_call 29; refine (alive9_calls _).mono ?_; rintro e w9 ⟨rfl, hb9⟩; have hS := HCW.out _ (Below.trans (below_drewN (Below.refl _ _) _) (hb9.mono (Nat.le_refl _)))))
        have HE := Lib.hid (HEND.out w9 ((HB4.out.trans ((HB5.out.trans ((HBC'.out.trans (hS.2.mono hsC)).mono h45)).mono h4))))
        clear hS hb9
        go_wp2
        go_ret
        exact HE.out
      · have hdd : (!dx || !dy) = true := by
          rw [← HDX.out, ← HDY.out]
          by_cases e1 : x ∈ q
          · by_cases e2 : y ∈ q
            · exact absurd ⟨e1, e2⟩ hin2
            · simp [e2]
          · simp [e1]
        rw [hdd]
        have hnr : ∀ r : Bool, (r = true ↔ inQ q (x : Int) = true ∧ inQ q (y : Int) = true ∧ Up o (y : Int).toNat (x : Int).toNat) → r = false := by
          intro r hr
          cases r with
          | false => rfl
          | true =>
            obtain ⟨h1, h2, _⟩ := hr.1 rfl
            rw [inQ_nat, decide_eq_true_eq] at h1 h2
            exact absurd ⟨h1, h2⟩ hin2
        have HNR := Lib.hid hnr
        clear hnr hin2 hdd
        go_wp2_with fail
        go_at_call 38
        refine (HDO.out wc HB5.out).mono ?_
        rintro e w7 ⟨r, rfl, hr, k, rfl⟩
        obtain rfl := HNR.out r hr
        clear hr
        go_wp2_with fail
        go_at_call 29
        refine (alive9_calls _).mono ?_
        rintro e w9 ⟨rfl, hb9⟩
        have hbx : Below (N + 1) W1 (wc.drewN k) := below_drewN (HB4.out.trans (HB5.out.mono h4)) k
        have HE := Lib.hid (HEND.out w9 (hbx.trans (hb9.mono (HK.out _ hbx).2.2)))
        clear hb9 hbx
        go_wp2
        go_ret
        exact HE.out
end Go.Proofs.Ytpbkkajgcdahcaa
