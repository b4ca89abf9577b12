/- CallsUp, at any module: true. -/
import Derived.Test.YtbbogkcfngpbbaaCaT
import Derived.Test.YtbbogkcfngpbbaaCaU
namespace Go.Proofs.Ytbbogkcfngpbbaa
open Go.RowKit
attribute [local go_sem] Oper.semAt_some

theorem up_results (tmps : Array Value) (w : World) (ad : Addr) (v : Value) (ht : tmps[2]? = some (.pointer (some ad))) (hc : w.cell? ad = some v) : (results Try.f10 tmps).run Try.prog w = .ok v w := by
  simp [results, go_sem, ht, hc]

/-- Behind a law: true, and nothing that was there has changed. -/
def YesC (w : World) (e : Ending) (w' : World) : Prop := e = .returned (.bool true) ∧ Below w.heap.size w w'

set_option maxRecDepth 100000 in
set_option maxHeartbeats 16000000 in
theorem callsUp_calls (m : Mo) (w : World) (hm : m.inn w) : Calls Try.prog 10 #[.agg m.cells] w (YesC w) := by
  obtain ⟨M, hM⟩ : ∃ M, m = M := ⟨_, rfl⟩
  have HM := Lib.hid hM
  have HIN := Lib.hid hm
  clear hm hM
  obtain ⟨sA, sC, fA, fC, ss, fs⟩ := m
  simp only [Mo.cells]
  have hMf : Hid (M.fs.length = fs.length) := by unfold Hid; rw [← HM.out]
  obtain ⟨n, hn⟩ : ∃ n, fs.length = n := ⟨_, rfl⟩
  have HNN := Lib.hid hn
  rw [hn] at hMf ⊢
  clear hn
  obtain ⟨N, hN⟩ : ∃ N, w.heap.size = N := ⟨_, rfl⟩
  obtain ⟨W1, hW1⟩ : ∃ W1, (w.alloc (.cells #[.slice sA ss.length sC, .slice fA n fC] 38)).alloc (.cells #[.bool false] 4) = W1 := ⟨_, rfl⟩
  have hb1 : Below w.heap.size w W1 := by rw [← hW1]; exact ((Below.refl _ _).alloc (Nat.le_refl _) _).alloc (by simp) _
  have hsz : W1.heap.size = N + 2 := by rw [← hW1]; simp [hN]
  have hx0 : W1.heap[N]? = some (.cells #[.slice sA ss.length sC, .slice fA n fC] 38 (0, 0)) := by
    rw [← hW1, ← hN, Below.heap_alloc _ _ _ (by simp)]; exact alloc_at _ _
  have hres : W1.heap[N + 1]? = some (.cells #[.bool false] 4 (0, 0)) := by
    rw [← hW1, ← hN]
    have := alloc_at (w.alloc (.cells #[.slice sA ss.length sC, .slice fA n fC] 38)) (.cells #[.bool false] 4)
    rwa [World.size_alloc] at this
  have HS : Hid (∀ W, Below (N + 2) W1 W → W.cell? ⟨N, 0, none⟩ = some (.slice sA ss.length sC) ∧ W.cell? ⟨N, 1, none⟩ = some (.slice fA n fC) ∧ W.cell? ⟨N + 1, 0, none⟩ = some (.bool false) ∧ W.frozen? ⟨N + 1, 0, none⟩ = false ∧ M.inn W ∧ N + 2 ≤ W.heap.size) := by
    intro W h1
    have h4 := (h1.block N (by omega)).trans hx0
    have h5 := (h1.block (N + 1) (by omega)).trans hres
    refine ⟨?_, ?_, ?_, frozen_of_row _ _ _ _ _ h5, ?_, by have := h1.size; omega⟩
    · rw [cell_of_row _ _ _ _ _ _ h4]; rfl
    · rw [cell_of_row _ _ _ _ _ _ h4]; rfl
    · rw [cell_of_row _ _ _ _ _ _ h5]; rfl
    · rw [← HM.out]; exact HIN.out.below (hb1.trans (h1.mono (by omega)))
  have HY : Hid (∀ Wx w' (M : Nat → Prop), (∀ k, M k → N + 2 ≤ k) → Below (N + 2) W1 Wx → Ext M (Wx.setCell ⟨N + 1, 0, none⟩ (.bool true)) w' → w'.cell? ⟨N + 1, 0, none⟩ = some (.bool true) ∧ YesC w (.returned (.bool true)) w') := by
    intro Wx w' M hM hb hx
    have hsx : N + 2 ≤ Wx.heap.size := by have := hb.size; omega
    have h0 : Ext (fun k => N ≤ k) w W1 := Ext.of_below (by rw [hN] at hb1; exact hb1)
    have h1 : Ext (fun k => N ≤ k) w (Wx.setCell ⟨N + 1, 0, none⟩ (.bool true)) := (h0.trans (Ext.of_below hb) (fun k hk => .inl (by omega))).trans (Ext.set1 _ _ _ _) (fun k hk => .inl (by omega))
    have h2 : Ext (fun k => N ≤ k) w w' := h1.trans hx (fun k hk => .inl (by have := hM k hk; omega))
    obtain ⟨_, _, k8, _, _, _⟩ := HS.out Wx hb
    refine ⟨?_, rfl, by rw [hN]; exact h2.below (by omega) (fun _ h => h)⟩
    rw [hx.cell (a := ⟨N + 1, 0, none⟩) (by rw [World.size_setCell]; show N + 1 < _; omega) (fun h => by have := hM _ h; simp only at this; omega)]
    first | exact World.cell?_setCell_same _ k8 | exact World.cell?_setCell_same _ _ k8 | exact World.cell?_setCell_same _ _ _ k8
  have HAL : Hid (∀ W, Below (N + 2) W1 W → Calls Try.prog 33 #[] W fun e w' => e = .returned (.bool true) ∧ Below (N + 2) W1 w') := fun W hW => (alive11_calls W).mono fun e w' ⟨h1, h2⟩ => ⟨h1, hW.trans (h2.mono (by have := hW.size; omega))⟩
  have HLI : Hid (∀ W, Below (N + 2) W1 W → Calls Try.prog 32 #[.agg #[.slice sA ss.length sC, .slice fA n fC]] W (fun e w' => ∃ b : Bool, e = .returned (.bool b) ∧ (b = true → M.shortC) ∧ Below (N + 2) W1 w')) := by
    intro W hW
    have h := light11_calls W M (HS.out W hW).2.2.2.2.1
    rw [show M.cells = #[.slice sA ss.length sC, .slice fA n fC] from by rw [← HNN.out, ← HM.out]; rfl] at h
    exact h.mono fun e w' ⟨b, h1, h2, h3⟩ => ⟨b, h1, h2, hW.trans (h3.mono (by have := hW.size; omega))⟩
  have HW1 := Lib.hid hW1
  have HSZ := Lib.hid hsz
  clear hb1 hsz hx0 hres hW1 HIN
  (refine calls_of_wp_marks Try.func10 rfl ?_
   simp only [Try.ntmps10, List.size_toArray, List.length_cons, List.length_nil, Nat.reduceAdd, Nat.reduceSub, Array.replicate_succ,
     Array.replicate_zero, List.push_toArray, List.append_toArray, List.nil_append, List.cons_append])
  go_upto_region 1 with (fail)
  rw [HW1.out]
  go_upto_region 3 with (go_at_call 33; refine (HAL.out W1 (Below.refl _ _)).mono ?_; rintro e w2 ⟨rfl, hb2⟩)
  obtain ⟨k0, k1, k2, k3, _, k5⟩ := HS.out w2 hb2
  have HL2 := Lib.hid (HLI.out w2 hb2)
  clear hb2
  go_wp2_with fail
  go_at_call 32
  refine HL2.out.mono ?_
  rintro e w3 ⟨b, rfl, hsh, hb3⟩
  have HSH := Lib.hid hsh
  have HB3 := Lib.hid hb3
  clear k0 k1 k2 k3 k5 hsh hb3
  cases b with
  | false =>
    go_wp2_with fail
    go_at_call 33
    refine (HAL.out w3 HB3.out).mono ?_
    rintro e w5 ⟨rfl, hb5⟩
    obtain ⟨_, _, k2, k3, _, _⟩ := HS.out w5 hb5
    have HB5 := Lib.hid hb5
    clear hb5
    go_wp2
    refine ⟨[], rfl, by simp, by simp, .bool true, fun w' hx => ?_⟩
    obtain ⟨h1, h2⟩ := HY.out w5 w' _ (fun k hk => by simp at hk) HB5.out hx
    exact ⟨up_results _ _ _ _ rfl h1, h2⟩
  | true =>
    have hsC := HSH.out rfl
    obtain ⟨k0, k1, k2, k3, k4, k5⟩ := HS.out w3 HB3.out
    have hof := OfIn.of k4 hsC
    have HOC := Lib.hid (of_calls M w3 hof)
    have HOF := Lib.hid hof
    have hn12 : n ≤ 12 := by have := hsC.1; have := hMf.out; omega
    rw [show M.cells = #[.slice sA ss.length sC, .slice fA n fC] from by rw [← HNN.out, ← HM.out]; rfl] at HOC
    clear hsC hof k4
    go_wp2_with fail
    go_at_call 34
    refine HOC.out.mono ?_
    rintro e w4 ⟨N', G, DN, UP, ST, RE, GP, H, gv, tag, rfl, hgm, hgr, _, _, hb4⟩
    have hq := askG HOF.out hgm hgr
    rw [hMf.out] at hq
    have HQ := Lib.hid hq
    have HB4 : Hid (Below (N + 2) W1 w4) := HB3.out.trans (hb4.mono (by have := HB3.out.size; have := HSZ.out; omega))
    have HGS := Lib.hid (HQ.out.groups w4 (Below.refl _ _))
    have HLL : Hid ((groupsF M).2.length ≤ 12 ∧ (groupsF M).2.flatten.length = n) := ⟨by have := groupsF_len M; have := hMf.out; omega, by rw [groups_total M]; exact hMf.out⟩
    obtain ⟨ls, hls⟩ : ∃ ls, (groupsF M).2 = ls := ⟨_, rfl⟩
    rw [hls] at HGS HLL
    clear hgm hgr hb4 hq k0 k1 k2 k3 k5 hls
    go_wp2_with fail
    go_at_call 39
    refine HGS.out.mono ?_
    rintro e w5 ⟨v5, rfl, hgr5, hb5⟩
    obtain ⟨ao5, cap5, rfl⟩ := hgr5.slice
    have HGR5 := Lib.hid hgr5
    have HB45 := Lib.hid hb5
    have HB5 : Hid (Below (N + 2) W1 w5) := HB4.out.trans (hb5.mono (by have := HB4.out.size; have := HSZ.out; omega))
    have hll := HLL.out.1
    clear hgr5 hb5
    go_wp2_with fail
    go_loopw [4, 6] (fun s c wr => ∃ j : Nat, j ≤ ls.length ∧ c = .int .i64 (j : Int) ∧ s = .int .i64 (((ls.take j).flatten.length : Nat) : Int) ∧ wr = w5) (fun _ c _ => ls.length - (intOf c).toNat)
    case atStart => exact ⟨0, Nat.zero_le _, rfl, rfl, rfl⟩
    case round =>
      obtain ⟨j, hj, rfl, rfl, rfl⟩ := hrel
      by_cases hjl : j < ls.length
      · have hjI : (j : Int) < (ls.length : Int) := by omega
        obtain ⟨l, hl⟩ : ∃ l, ls[j]? = some l := ⟨_, List.getElem?_eq_getElem hjl⟩
        obtain ⟨g, al, cl, rfl, _, cl2, _⟩ := HGR5.out.at_ hl
        have hfl := flatten_take_len ls hl
        have hle : (ls.take (j + 1)).flatten.length ≤ 12 := by
          have h1 := HLL.out.2
          have h2 : ls = ls.take (j + 1) ++ ls.drop (j + 1) := (List.take_append_drop _ _).symm
          rw [h2, List.flatten_append, List.length_append] at h1
          omega
        obtain ⟨q, hq⟩ : ∃ q, (ls.take j).flatten.length = q := ⟨_, rfl⟩
        rw [hq] at hfl ⊢
        have HFL : Hid ((((ls.take (j + 1)).flatten.length : Nat) : Int) = (q : Int) + (l.length : Int)) := by unfold Hid; omega
        have hql : q + l.length ≤ 12 := by omega
        clear hl hfl hle hq
        go_wp2
        go_roundw
        case rel => exact ⟨j + 1, by omega, by go_num, by rw [HFL.out], by first | rfl | trivial⟩
        case measure => simp [intOf]; omega
      · have hje : j = ls.length := by omega
        subst hje
        have hfl : (ls.take ls.length).flatten.length = n := by rw [List.take_length]; exact HLL.out.2
        rw [hfl]
        clear hfl
        have HQ5 : Hid (∀ W, Below wr.heap.size wr W → Below w4.heap.size w4 W ∧ Below (N + 2) W1 W) := by
          intro W hW
          have h1 := HB45.out.size
          have h2 := HB5.out.size
          have h3 := HSZ.out
          exact ⟨HB45.out.trans (hW.mono (by omega)), HB5.out.trans (hW.mono (by omega))⟩
        have HUP : Hid (∀ f c : Nat, f < n → c ∈ downF M f → (groupsF M).1 c ≤ (groupsF M).1 f ∧ ((groupsF M).1 c = (groupsF M).1 f → reachF n (downF M) (c : Int) (f : Int) = true) ∧ c < n) := by
          intro f c hf hc
          have h := groups_up M (by rw [hMf.out]; exact hf) hc
          rw [hMf.out] at h
          exact ⟨h.1, h.2, by have := downF_lt hc; have := hMf.out; omega⟩
        have HDL : Hid (∀ f, (downF M f).length ≤ 12) := fun f => by have := downF_len M f; have := hMf.out; omega
        obtain ⟨w5, hw5⟩ : ∃ w5, w5 = wr := ⟨_, rfl⟩
        rw [← hw5] at HQ5
        have HW5 := Lib.hid hw5
        clear hw5 HGR5 HB45 HB5
        go_wp2_with fail
        go_loopw [7] (fun c wr => ∃ f : Nat, f ≤ n ∧ c = .int .i64 (f : Int) ∧ Below w5.heap.size w5 wr) (fun c _ => n - (intOf c).toNat)
        case atStart => exact ⟨0, Nat.zero_le _, rfl, by rw [HW5.out]; exact Below.refl _ _⟩
        case round =>
          obtain ⟨f, hf, rfl, hbr⟩ := hrel
          obtain ⟨hb4r, hb1r⟩ := HQ5.out wr hbr
          obtain ⟨k0, k1, k2, k3, _, k5⟩ := HS.out wr hb1r
          by_cases hfn : f < n
          · have hfI : (f : Int) < (n : Int) := by omega
            have hcc := HQ.out.callees wr hb4r (f : Int)
            rw [if_pos (by rw [inR_nat]; exact decide_eq_true hfn), Int.toNat_natCast] at hcc
            have HCC := Lib.hid hcc
            have HBR := Lib.hid hbr
            have hdl := HDL.out f
            clear hbr hb4r hb1r hcc k0 k2 k3 k5
            go_wp2_with fail
            go_at_call 43
            refine HCC.out.mono ?_
            rintro e w6 ⟨v6, rfl, hown6, hb6⟩
            obtain ⟨ao6, cap6, rfl⟩ := ownsRow_slice hown6
            have hbr6 : Below w5.heap.size w5 w6 := HBR.out.trans (hb6.mono HBR.out.size)
            have HBR6 := Lib.hid hbr6
            have HO6 := Lib.hid hown6
            clear hown6 hb6 hbr6 k1
            go_wp2_with fail
            go_loopw [9] (fun c wr => ∃ k : Nat, k ≤ (downF M f).length ∧ c = .int .i64 (k : Int) ∧ wr = w6) (fun c _ => (downF M f).length - (intOf c).toNat)
            case atStart => exact ⟨0, Nat.zero_le _, rfl, rfl⟩
            case round =>
              obtain ⟨k, hk, rfl, rfl⟩ := hrel
              by_cases hkl : k < (downF M f).length
              · have hkI : (k : Int) < ((downF M f).length : Int) := by omega
                obtain ⟨x, hx⟩ : ∃ x, (downF M f)[k]? = some x := ⟨_, List.getElem?_eq_getElem hkl⟩
                obtain ⟨gx, rfl, _, cx⟩ := ownsRow_get HO6.out (j := k) (u := .int .i64 (x : Int)) (by rw [encN_flat]; simp [nums, hx])
                obtain ⟨u1, u2, u3⟩ := HUP.out f x hfn (List.mem_of_getElem? hx)
                have hb4r := (HQ5.out wr HBR6.out).1
                have hgx := HQ.out.group wr hb4r (x : Int)
                have hgf := HQ.out.group wr hb4r (f : Int)
                have hrr := HQ.out.reach wr hb4r (x : Int) (f : Int)
                rw [if_pos (by rw [inR_nat]; exact decide_eq_true u3), Int.toNat_natCast] at hgx
                rw [if_pos (by rw [inR_nat]; exact decide_eq_true hfn), Int.toNat_natCast] at hgf
                obtain ⟨a, ha⟩ : ∃ a, (groupsF M).1 x = a := ⟨_, rfl⟩
                obtain ⟨b, hb⟩ : ∃ b, (groupsF M).1 f = b := ⟨_, rfl⟩
                obtain ⟨rr, hrb⟩ : ∃ rr, reachF n (downF M) (x : Int) (f : Int) = rr := ⟨_, rfl⟩
                rw [ha] at hgx u1 u2
                rw [hb] at hgf u1 u2
                rw [hrb] at hrr u2
                have HGX := Lib.hid hgx
                have HGF := Lib.hid hgf
                have HRR := Lib.hid hrr
                have hd : decide (b < a) = false := decide_eq_false (by omega)
                have HU2 := Lib.hid u2
                clear hx hb4r hgx hgf hrr ha hb hrb u1 u2 u3
                by_cases hab : a = b
                · subst hab
                  obtain rfl := HU2.out rfl
                  clear hd
                  go_wp2_with fail
                  go_at_call 40
                  refine HGX.out.mono ?_
                  rintro e w8 ⟨rfl, rfl⟩
                  go_wp2_with fail
                  go_at_call 40
                  refine HGF.out.mono ?_
                  rintro e w8 ⟨rfl, rfl⟩
                  go_wp2_with fail
                  go_at_call 40
                  refine HGX.out.mono ?_
                  rintro e w8 ⟨rfl, rfl⟩
                  go_wp2_with fail
                  go_at_call 40
                  refine HGF.out.mono ?_
                  rintro e w8 ⟨rfl, rfl⟩
                  go_wp2_with fail
                  go_at_call 35
                  refine HRR.out.mono ?_
                  rintro e w8 ⟨rfl, rfl⟩
                  go_wp2
                  go_roundw
                  case rel => exact ⟨k + 1, by omega, by go_num, by first | rfl | trivial⟩
                  case measure => simp [intOf]; omega
                · have hd2 : (a == b) = false := by rw [beq_eq_false_iff_ne]; exact hab
                  clear hab
                  go_wp2_with fail
                  go_at_call 40
                  refine HGX.out.mono ?_
                  rintro e w8 ⟨rfl, rfl⟩
                  go_wp2_with fail
                  go_at_call 40
                  refine HGF.out.mono ?_
                  rintro e w8 ⟨rfl, rfl⟩
                  go_wp2_with fail
                  go_at_call 40
                  refine HGX.out.mono ?_
                  rintro e w8 ⟨rfl, rfl⟩
                  go_wp2_with fail
                  go_at_call 40
                  refine HGF.out.mono ?_
                  rintro e w8 ⟨rfl, rfl⟩
                  go_wp2
                  go_roundw
                  case rel => exact ⟨k + 1, by omega, by go_num, by first | rfl | trivial⟩
                  case measure => simp [intOf]; omega
              · have hke : k = (downF M f).length := by omega
                subst hke
                go_wp2
                go_roundw
                case rel => exact ⟨f + 1, by omega, by go_num, HBR6.out⟩
                case measure => simp [intOf]; omega
          · have hfe : f = n := by omega
            subst hfe
            clear k0 k2 k3 k5
            obtain ⟨B, hB⟩ : ∃ B, wr.heap.size = B := ⟨_, rfl⟩
            obtain ⟨W9, hW9⟩ : ∃ W9, wr.alloc (.cells #[.pointer none] 58) = W9 := ⟨_, rfl⟩
            have hr9 : W9.heap[B]? = some (.cells #[.pointer none] 58 (0, 0)) := by rw [← hW9, ← hB]; exact alloc_at _ _
            have hsr : N + 2 ≤ wr.heap.size := by have := hb1r.size; have := HSZ.out; omega
            have HB9 : Hid (Below (N + 2) W1 W9) := by rw [← hW9]; exact hb1r.alloc hsr _
            have HIT := Lib.hid (upNil_iter W9 B hr9)
            have hBlt : B < W9.heap.size := (Array.getElem?_eq_some_iff.1 hr9).1
            have hs9 : N + 2 ≤ W9.heap.size := by have := HB9.out.size; have := HSZ.out; omega
            have HW9 := Lib.hid hW9
            clear hbr hb4r hb1r hr9 hW9
            go_wp2_with fail
            go_at_call 41
            refine (up_calls wr none).mono ?_
            rintro e w9 ⟨rfl, rfl⟩
            rw [hB, HW9.out]
            go_wp2_with fail
            refine wp_rangeFunc_sep (α := Nat) (gf := 82) (hf := Try.func82) (hname := by rfl) (hb := rfl) (hit := HIT.out) rfl ?hbel ?hRd (fun _ => rfl)
              (fun pre C W => C = (fun _ => False) ∧ Ext (fun _ => False) W9 W) (fun _ _ _ _ => False) ?hI ?hIC ?hIx (fun _ => False) ?h0 ?hround ?hdone ?hstop
            case hbel => exact Below.refl _ _
            case hRd => rintro k rfl; exact hBlt
            case hI =>
              rintro pre C W W' ⟨rfl, h1⟩ hx
              exact ⟨rfl, h1.trans hx (fun j hj => .inr hj.1)⟩
            case hIx => exact fun _ _ _ _ _ h => h.elim
            case hIC => rintro pre C W ⟨rfl, _⟩ k hk; exact hk.elim
            case h0 => exact ⟨rfl, Ext.refl _ _⟩
            case hround =>
              rintro l pre x C W hl _ hpre
              have := hpre.length_le
              simp at this
            case hstop => exact fun _ _ _ _ _ _ _ _ h => h.elim
            case hdone =>
              rintro D C W hD hCD ⟨rfl, hx⟩ hdd
              have hbW : Below (N + 2) W1 W := HB9.out.trans ((Ext.below hx (Nat.le_refl _) (fun _ h => h.elim)).mono hs9)
              have hDlt : D < W.heap.size := (Array.getElem?_eq_some_iff.1 hdd).1
              obtain ⟨_, k1, _, _, _, _⟩ := HS.out W hbW
              have HSW : Hid (∀ w', Below (N + 2) W1 w' → Below W.heap.size W w' → w'.cell? ⟨N + 1, 0, none⟩ = some (.bool false) ∧ w'.frozen? ⟨N + 1, 0, none⟩ = false ∧ (w'.setCell ⟨N + 1, 0, none⟩ (.bool true)).heap[D]? = some (.deferred (some []))) := by
                intro w' h1 h2
                obtain ⟨_, _, q2, q3, _, _⟩ := HS.out w' h1
                refine ⟨q2, q3, ?_⟩
                rw [heap_setCell_other _ _ _ _ (by show D ≠ N + 1; omega), h2.block D hDlt]; exact hdd
              have HAW : Hid (Calls Try.prog 33 #[] W fun e w' => e = .returned (.bool true) ∧ Below (N + 2) W1 w' ∧ Below W.heap.size W w') := (alive11_calls W).mono fun e w' ⟨h1, h2⟩ => ⟨h1, hbW.trans (h2.mono (by have := hbW.size; have := HSZ.out; omega)), h2⟩
              clear hx hdd hbW
              go_wp2_with fail
              go_at_call 43
              refine (callees_nil _ _).mono ?_
              rintro e w8 ⟨rfl, rfl⟩
              go_wp2_with fail
              go_at_call 36
              refine (callers_nil _ _).mono ?_
              rintro e w8 ⟨rfl, rfl⟩
              go_wp2_with fail
              go_at_call 39
              refine (groups_nil _).mono ?_
              rintro e w8 ⟨rfl, rfl⟩
              go_wp2_with fail
              go_at_call 47
              refine (sites_nil _ _).mono ?_
              rintro e w8 ⟨rfl, rfl⟩
              go_wp2_with fail
              go_at_call 35
              refine (reaches_nil _ _ _).mono ?_
              rintro e w8 ⟨rfl, rfl⟩
              go_wp2_with fail
              go_at_call 49
              refine (recursive_calls _ (.pointer none) 0 false (reaches_nil _ _ _)).mono ?_
              rintro e w8 ⟨rfl, rfl⟩
              go_wp2_with fail
              go_at_call 40
              refine (group_nil _ _).mono ?_
              rintro e w8 ⟨rfl, rfl⟩
              go_wp2_with (go_at_call 33; refine HAW.out.mono ?_; rintro e w12 ⟨rfl, hb12, hb13⟩; obtain ⟨r1, r2, r3⟩ := HSW.out w12 hb12 hb13; have HR := Lib.hid (And.intro hb12 r3); clear hb12 hb13 r3)
              refine ⟨[D], rfl, by simp, by intro b hb; simp at hb; subst hb; exact HR.out.2, .bool true, fun w' hx => ?_⟩
              obtain ⟨h3, h4⟩ := HY.out w12 w' (· = D) (fun k hk => by omega) HR.out.1 (hx.mono (fun k hk => by simpa using hk))
              exact ⟨up_results _ _ _ _ rfl h3, h4⟩
end Go.Proofs.Ytbbogkcfngpbbaa
