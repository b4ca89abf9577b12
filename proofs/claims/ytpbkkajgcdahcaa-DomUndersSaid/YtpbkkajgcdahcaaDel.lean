/- slices.DeleteFunc as flow.next calls it, and flow.next. -/
import Derived.Test.YtpbkkajgcdahcaaComp
namespace Go.Proofs.Ytpbkkajgcdahcaa
open Go.RowKit

/-- The closure of flow.next: is an edge's end no instruction? -/
theorem next1_in (x : Int) (bc n insC : Nat) (insA : Option Addr) (w : World) (hc : w.cell? ⟨bc, 7, none⟩ = some (.slice insA n insC)) (hx : inR n x = true) :
    Calls Try.prog 81 #[.int .i64 x, .pointer (some ⟨bc, 0, none⟩)] w fun e w' => e = .returned (.bool false) ∧ w = w' := by
  have h0 : 0 ≤ x ∧ x < n := by simpa [inR] using hx
  obtain ⟨h0, h1⟩ := h0
  have d0 : decide (x < 0) = false := by simpa using h0
  have d1 : decide ((n : Int) ≤ x) = false := by simpa using h1
  clear hx
  go_enter Try.func81, Try.ntmps81
  go_wp2
  go_ret
  exact ⟨rfl, rfl⟩

theorem next1_out (x : Int) (bc n insC : Nat) (insA : Option Addr) (w : World) (hc : w.cell? ⟨bc, 7, none⟩ = some (.slice insA n insC)) (hx : inR n x = false) :
    Calls Try.prog 81 #[.int .i64 x, .pointer (some ⟨bc, 0, none⟩)] w fun e w' => e = .returned (.bool true) ∧ w = w' := by
  by_cases h0 : 0 ≤ x
  · have h1 : n ≤ x := by simp [inR] at hx; exact hx h0
    clear hx
    go_enter Try.func81, Try.ntmps81
    go_wp2
    go_ret
    exact ⟨rfl, rfl⟩
  · have h1 : x < 0 := by omega
    clear hx h0
    go_enter Try.func81, Try.ntmps81
    go_wp2
    go_ret
    exact ⟨rfl, rfl⟩

/-- The cells of a slice of ints, to be read. -/
def ReadI (w : World) (ao : Option Addr) (xs : List Int) : Prop :=
  0 < xs.length → ∃ b off, ao = some ⟨b, off, none⟩ ∧ ∀ (k : Nat) (z : Int), xs[k]? = some z → w.cell? ⟨b, off + k, none⟩ = some (.int .i64 z)

set_option maxHeartbeats 400000 in
theorem idx_none (bc n insC : Nat) (insA : Option Addr) (ao : Option Addr) (cap : Nat) (xs : List Int) (w : World) (hc : w.cell? ⟨bc, 7, none⟩ = some (.slice insA n insC)) (hl : xs.length ≤ 100000)
    (hr : ReadI w ao xs) (hall : ∀ x ∈ xs, inR n x = true) :
    Calls Try.prog 90 #[.slice ao xs.length cap, .func (.func 81) #[] #[.pointer (some ⟨bc, 0, none⟩)]] w fun e w' => e = .returned (.int .i64 (-1)) ∧ w = w' := by
  have HR := Lib.hid hr
  have HA := Lib.hid hall
  clear hr hall
  go_enter Try.func90, Try.ntmps90
  go_wp2
  go_loop [8] (fun i => ∃ k : Nat, k ≤ xs.length ∧ i = .int .i64 (k : Int)) (fun i => xs.length - (intOf i).toNat)
  case atStart => exact ⟨0, Nat.zero_le _, rfl⟩
  case round =>
    obtain ⟨k, hk, rfl⟩ := hrel
    by_cases hkl : k < xs.length
    · obtain ⟨b, off, rfl, hcell⟩ := HR.out (by omega)
      obtain ⟨z, hz⟩ : ∃ z, xs[k]? = some z := ⟨_, List.getElem?_eq_getElem hkl⟩
      have hzc := hcell k z hz
      have HZ : Hid (inR n z = true) := HA.out z (List.mem_of_getElem? hz)
      clear hcell hz
      go_wp2_with (go_at_call 81; refine (next1_in _ bc n insC insA _ hc HZ.out).mono ?_; rintro e w1 ⟨rfl, rfl⟩)
      go_round
      case rel => exact ⟨k + 1, by omega, by go_num⟩
      case measure => simp [intOf]; omega
    · go_wp2
      go_ret
      exact ⟨rfl, rfl⟩

set_option maxHeartbeats 400000 in
theorem idx_some (bc n insC : Nat) (insA : Option Addr) (ao : Option Addr) (cap : Nat) (xs : List Int) (i : Nat) (y : Int) (w : World) (hc : w.cell? ⟨bc, 7, none⟩ = some (.slice insA n insC)) (hl : xs.length ≤ 100000)
    (hr : ReadI w ao xs) (hall : ∀ x ∈ xs.take i, inR n x = true) (hi : xs[i]? = some y) (hy : inR n y = false) :
    Calls Try.prog 90 #[.slice ao xs.length cap, .func (.func 81) #[] #[.pointer (some ⟨bc, 0, none⟩)]] w fun e w' => e = .returned (.int .i64 (i : Int)) ∧ w = w' := by
  have hil : i < xs.length := (List.getElem?_eq_some_iff.1 hi).1
  have HR := Lib.hid hr
  have HA := Lib.hid hall
  have HI := Lib.hid hi
  have HY := Lib.hid hy
  clear hr hall hi hy
  go_enter Try.func90, Try.ntmps90
  go_wp2
  go_loop [8] (fun v => ∃ k : Nat, k ≤ i ∧ v = .int .i64 (k : Int)) (fun v => xs.length - (intOf v).toNat)
  case atStart => exact ⟨0, Nat.zero_le _, rfl⟩
  case round =>
    obtain ⟨k, hk, rfl⟩ := hrel
    have hkl : k < xs.length := by omega
    obtain ⟨b, off, rfl, hcell⟩ := HR.out (by omega)
    obtain ⟨z, hz⟩ : ∃ z, xs[k]? = some z := ⟨_, List.getElem?_eq_getElem hkl⟩
    have hzc := hcell k z hz
    by_cases hki : k < i
    · have HZ : Hid (inR n z = true) := HA.out z (List.mem_of_getElem? (i := k) (by rw [List.getElem?_take, if_pos hki]; exact hz))
      clear hcell hz
      go_wp2_with (go_at_call 81; refine (next1_in _ bc n insC insA _ hc HZ.out).mono ?_; rintro e w1 ⟨rfl, rfl⟩)
      go_round
      case rel => exact ⟨k + 1, by omega, by go_num⟩
      case measure => simp [intOf]; omega
    · obtain rfl : i = k := by omega
      have e : z = y := by have := HI.out; rw [hz] at this; exact Option.some.inj this
      subst e
      clear hcell hz
      go_wp2_with (go_at_call 81; refine (next1_out _ bc n insC insA _ hc HY.out).mono ?_; rintro e w1 ⟨rfl, rfl⟩)
      go_ret
      exact ⟨rfl, rfl⟩

theorem take_filter_snoc {n : Nat} {xs : List Int} {j : Nat} {z : Int} (hz : xs[j]? = some z) :
    (xs.take (j + 1)).filter (inR n) = (xs.take j).filter (inR n) ++ (if inR n z then [z] else []) := by
  rw [take_snocI hz, List.filter_append, List.filter_cons]
  split <;> simp

/-- What slices.DeleteFunc's loop knows of its row: the first i cells are what is kept of the first j, the cells from j on are as they were. -/
def DelRow (w : World) (g cap : Nat) (n : Nat) (xs : List Int) (j : Nat) : Prop :=
  ∃ cur, w.heap[g]? = some (.cells cur 3 (0, 0)) ∧ cur.size = cap ∧ cur.toList.take ((xs.take j).filter (inR n)).length = ((xs.take j).filter (inR n)).map (Value.int .i64) ∧ ∀ (k : Nat) (z : Int), j ≤ k → xs[k]? = some z → cur[k]? = some (.int .i64 z)

theorem DelRow.cell {w : World} {g cap n : Nat} {xs : List Int} {j : Nat} (h : DelRow w g cap n xs j) {z : Int} (hz : xs[j]? = some z) : w.cell? ⟨g, j, none⟩ = some (.int .i64 z) := by
  obtain ⟨cur, h1, _, _, h4⟩ := h
  rw [cell_of_row w g j cur _ _ h1]; exact h4 j z (Nat.le_refl _) hz

theorem DelRow.skip {w : World} {g cap n : Nat} {xs : List Int} {j : Nat} (h : DelRow w g cap n xs j) {z : Int} (hz : xs[j]? = some z) (hn : inR n z = false) : DelRow w g cap n xs (j + 1) := by
  obtain ⟨cur, h1, h2, h3, h4⟩ := h
  have e : (xs.take (j + 1)).filter (inR n) = (xs.take j).filter (inR n) := by rw [take_filter_snoc hz, hn]; simp
  exact ⟨cur, h1, h2, by rw [e]; exact h3, fun k z hk hz => h4 k z (by omega) hz⟩

theorem DelRow.put {w : World} {g cap n : Nat} {xs : List Int} {j : Nat} (h : DelRow w g cap n xs j) (hcap : xs.length ≤ cap) {z : Int} (hz : xs[j]? = some z) (hn : inR n z = true) (hlt : ((xs.take j).filter (inR n)).length < j) :
    DelRow (w.setCell ⟨g, ((xs.take j).filter (inR n)).length, none⟩ (.int .i64 z)) g cap n xs (j + 1) := by
  obtain ⟨cur, h1, h2, h3, h4⟩ := h
  have e : (xs.take (j + 1)).filter (inR n) = (xs.take j).filter (inR n) ++ [z] := by rw [take_filter_snoc hz, hn]; simp
  have hj : j < xs.length := (List.getElem?_eq_some_iff.1 hz).1
  refine ⟨_, heap_setCell_same w g _ cur _ _ h1, by simpa using h2, ?_, fun k z hk hz => ?_⟩
  · rw [e]
    simp only [List.length_append, List.length_cons, List.length_nil, Array.toList_setIfInBounds, List.map_append, List.map_cons, List.map_nil]
    generalize hF : (xs.take j).filter (inR n) = F at *
    have hs : F.length < cur.toList.length := by have := cur.length_toList; omega
    rw [List.take_add_one, List.take_set, h3, List.getElem?_set_self (by exact hs)]
    rw [List.set_eq_of_length_le (by simp)]
    rfl
  · rw [Array.getElem?_setIfInBounds, if_neg (by omega)]
    exact h4 k z (by omega) hz

set_option maxHeartbeats 1000000 in
theorem del_none (base bc n insC : Nat) (insA : Option Addr) (ao : Option Addr) (cap : Nat) (xs : List Int) (w : World) (hc : w.cell? ⟨bc, 7, none⟩ = some (.slice insA n insC)) (hl : xs.length ≤ 100000)
    (hown : OwnI w base (.slice ao xs.length cap) xs) (hall : ∀ x ∈ xs, inR n x = true) :
    Calls Try.prog 79 #[.slice ao xs.length cap, .func (.func 81) #[] #[.pointer (some ⟨bc, 0, none⟩)]] w (HasI base w (xs.filter (inR n))) := by
  have hr : ReadI w ao xs := fun h0 => by
    obtain ⟨g, e, _, _, hcell⟩ := hown.shape h0
    exact ⟨g, 0, e, fun k z hz => by rw [Nat.zero_add]; exact hcell k z hz⟩
  have e : xs.filter (inR n) = xs := List.filter_eq_self.2 hall
  rw [e]
  have HO := Lib.hid hown
  have HI := Lib.hid (idx_none bc n insC insA ao cap xs w hc hl hr hall)
  clear hown hr hall e
  go_enter Try.func79, Try.ntmps79
  go_wp2_with (go_at_call 90; refine HI.out.mono ?_; rintro e w1 ⟨rfl, rfl⟩)
  go_ret
  exact ⟨_, _, rfl, HO.out, Below.refl _ _⟩

theorem DelRow.start {w : World} {base : Nat} {g cap n : Nat} {xs : List Int} {i : Nat} {y : Int} (h : OwnI w base (.slice (some ⟨g, 0, none⟩) xs.length cap) xs) (hall : ∀ x ∈ xs.take i, inR n x = true) (hi : xs[i]? = some y) (hy : inR n y = false) :
    DelRow w g cap n xs (i + 1) ∧ ((xs.take (i + 1)).filter (inR n)).length = i ∧ xs.length ≤ cap ∧ base ≤ g ∧ cap ≤ maxLen := by
  have hil : i < xs.length := (List.getElem?_eq_some_iff.1 hi).1
  have e : (xs.take (i + 1)).filter (inR n) = xs.take i := by
    rw [take_filter_snoc hi, hy, List.filter_eq_self.2 hall]; simp
  rcases h.2 with ⟨h1, _⟩ | ⟨g', cap', cur, h1, h2, h3, h4, h5, h6, h7⟩
  · simp at h1
  · simp only [Value.slice.injEq, Option.some.injEq, Addr.mk.injEq, and_true, true_and] at h1
    obtain ⟨rfl, rfl⟩ := h1
    have hall : ∀ (k : Nat) (z : Int), xs[k]? = some z → cur[k]? = some (.int .i64 z) := fun k z hz => by
      have hk : k < xs.length := (List.getElem?_eq_some_iff.1 hz).1
      have q : (cur.toList.take (xs.length * 1))[k]? = some (.int .i64 z) := by rw [h7]; simp [hz]
      rw [List.getElem?_take, if_pos (by omega)] at q
      simpa using q
    refine ⟨⟨cur, h3, by omega, ?_, fun k z _ hz => hall k z hz⟩, by rw [e, List.length_take]; omega, h4, h2, h5⟩
    rw [e, List.length_take, Nat.min_eq_left (by omega)]
    have q := congrArg (List.take i) h7
    rw [List.take_take, Nat.min_eq_left (by omega)] at q
    rw [q, List.map_take]

theorem DelRow.finish {w : World} {base g cap n : Nat} {xs : List Int} (h : DelRow w g cap n xs xs.length) (hg : base ≤ g) (hcap : xs.length ≤ cap) (hm : cap ≤ maxLen) (m : Nat) (hm2 : (xs.filter (inR n)).length + m ≤ xs.length)  :
    ∃ cur, w.heap[g]? = some (.cells cur 3 (0, 0)) ∧ cur.size = cap ∧
      OwnI (w.setRow g (cur.toList.take (xs.filter (inR n)).length ++ List.replicate m (Value.int .i64 0) ++ cur.toList.drop ((xs.filter (inR n)).length + m)).toArray) base (.slice (some ⟨g, 0, none⟩) (xs.filter (inR n)).length cap) (xs.filter (inR n)) := by
  obtain ⟨cur, h1, h2, h3, h4⟩ := h
  rw [List.take_of_length_le (Nat.le_refl _)] at h3
  have hs : cur.toList.length = cap := by rw [Array.length_toList]; exact h2
  refine ⟨cur, h1, h2, by simp, .inr ⟨g, cap, _, rfl, hg, setRow_heap _ _ _ _ _ _ h1, by omega, hm, ?_, ?_⟩⟩
  · simp only [List.size_toArray, List.length_append, List.length_take, List.length_replicate, List.length_drop]; omega
  · rw [h3, List.append_assoc, Nat.mul_one]
    exact List.take_left' (by simp)

set_option maxRecDepth 100000 in
set_option maxHeartbeats 1000000 in
theorem del_some (base bc n insC : Nat) (insA : Option Addr) (g : Nat) (cap : Nat) (xs : List Int) (i : Nat) (y : Int) (w : World) (hc : w.cell? ⟨bc, 7, none⟩ = some (.slice insA n insC)) (hl : xs.length ≤ 100000) 
    (hbc : bc < base) (hown : OwnI w base (.slice (some ⟨g, 0, none⟩) xs.length cap) xs) (hall : ∀ x ∈ xs.take i, inR n x = true) (hi : xs[i]? = some y) (hy : inR n y = false) :
    Calls Try.prog 79 #[.slice (some ⟨g, 0, none⟩) xs.length cap, .func (.func 81) #[] #[.pointer (some ⟨bc, 0, none⟩)]] w (HasI base w (xs.filter (inR n))) := by
  have hil : i < xs.length := (List.getElem?_eq_some_iff.1 hi).1
  have hr : ReadI w (some ⟨g, 0, none⟩) xs := fun h0 => by
    obtain ⟨g', e, _, _, hcell⟩ := hown.shape h0
    exact ⟨g', 0, e, fun k z hz => by rw [Nat.zero_add]; exact hcell k z hz⟩
  obtain ⟨hd0, hdl, hcap, hg, hcm⟩ := DelRow.start hown hall hi hy
  have HI := Lib.hid (idx_some bc n insC insA (some ⟨g, 0, none⟩) cap xs i y w hc hl hr hall hi hy)
  have HD0 := Lib.hid hd0
  have HCM := Lib.hid hcm
  clear hcm
  have HDL := Lib.hid hdl
  obtain ⟨i0, hti, hz0, hz1, hz2⟩ := info_parts info_int
  have hm1 : ((i : Int) == -1) = false := beq_eq_false_iff_ne.2 (by omega)
  clear hown hr hall hi hy hd0 hdl
  go_enter Try.func79, Try.ntmps79
  go_wp2_with (go_at_call 90; refine HI.out.mono ?_; rintro e w1 ⟨rfl, rfl⟩)
  go_loopw [5, 6] (fun vi vj wr => ∃ j : Nat, j ≤ xs.length ∧ i < j ∧ vj = .int .i64 (j : Int) ∧ vi = .int .i64 ((((xs.take j).filter (inR n)).length : Nat) : Int) ∧ ((xs.take j).filter (inR n)).length < j ∧ DelRow wr g cap n xs j ∧ Below base w wr) (fun _ vj _ => xs.length - (intOf vj).toNat)
  case atStart => exact ⟨i + 1, by omega, by omega, by go_num, by rw [HDL.out], by rw [HDL.out]; omega, HD0.out, Below.refl _ _⟩
  case round =>
    obtain ⟨j, hj, hij, rfl, rfl, hjl, hdr, hb⟩ := hrel
    have hcr : wr.cell? ⟨bc, 7, none⟩ = some (.slice insA n insC) := (hb.cell (p := ⟨bc, 7, none⟩) hbc).trans hc
    by_cases hjx : j < xs.length
    · obtain ⟨z, hz⟩ : ∃ z, xs[j]? = some z := ⟨_, List.getElem?_eq_getElem hjx⟩
      have hzc := hdr.cell hz
      have HZ := Lib.hid hz
      have HR := Lib.hid hdr
      clear hz hdr
      by_cases hn : inR n z = true
      · have HN := Lib.hid hn
        clear hn
        have hfz : wr.frozen? ⟨g, ((xs.take j).filter (inR n)).length, none⟩ = false := by
          obtain ⟨cur, h1, _⟩ := HR.out; exact frozen_of_row _ _ _ _ _ h1
        obtain ⟨u, hcu⟩ : ∃ u, wr.cell? ⟨g, ((xs.take j).filter (inR n)).length, none⟩ = some u := by
          obtain ⟨cur, h1, h2, _⟩ := HR.out
          rw [cell_of_row _ _ _ _ _ _ h1]
          exact ⟨_, Array.getElem?_eq_getElem (by omega)⟩
        have HP : Hid (DelRow (wr.setCell ⟨g, ((xs.take j).filter (inR n)).length, none⟩ (.int .i64 z)) g cap n xs (j + 1) ∧ ((xs.take (j + 1)).filter (inR n)).length = ((xs.take j).filter (inR n)).length + 1) :=
          ⟨HR.out.put hcap HZ.out HN.out hjl, by rw [take_filter_snoc HZ.out, HN.out]; simp⟩
        go_wp2_with (go_at_call 81; refine (next1_in _ bc n insC insA _ hcr HN.out).mono ?_; rintro e w1 ⟨rfl, rfl⟩)
        go_roundw
        case rel => exact ⟨j + 1, by omega, by omega, by go_num, by rw [HP.out.2]; go_num, by rw [HP.out.2]; omega, HP.out.1, hb.setCell (by exact hg) _⟩
        case measure => simp [intOf]; omega
      · have HN : Hid (inR n z = false) := by unfold Hid; simpa using hn
        clear hn
        have HP : Hid (DelRow wr g cap n xs (j + 1) ∧ ((xs.take (j + 1)).filter (inR n)).length = ((xs.take j).filter (inR n)).length) :=
          ⟨HR.out.skip HZ.out HN.out, by rw [take_filter_snoc HZ.out, HN.out]; simp⟩
        go_wp2_with (go_at_call 81; refine (next1_out _ bc n insC insA _ hcr HN.out).mono ?_; rintro e w1 ⟨rfl, rfl⟩)
        go_roundw
        case rel => exact ⟨j + 1, by omega, by omega, by go_num, by rw [HP.out.2], by rw [HP.out.2]; omega, HP.out.1, hb⟩
        case measure => simp [intOf]; omega
    · obtain rfl : j = xs.length := by omega
      rw [List.take_of_length_le (Nat.le_refl _)] at *
      obtain ⟨cur, hcur, hcs, hfin⟩ := hdr.finish hg hcap HCM.out (xs.length - (xs.filter (inR n)).length) (by omega)
      have HC := Lib.hid hcur
      have HF := Lib.hid hfin
      have HS : Hid (0 < xs.length - (xs.filter (inR n)).length) := by unfold Hid; omega
      have HT : Hid ((xs.filter (inR n)).length + (xs.length - (xs.filter (inR n)).length) ≤ cur.size) := by unfold Hid; omega
      have hne : ¬ cap = (xs.filter (inR n)).length := by omega
      clear hcur hfin hdr
      go_wp2_with (refine wpList_clear _ rfl (.tmp 38) 27 3 rfl i0 (.int .i64 0) Try.underlying27 hti hz0 rfl rfl g (xs.filter (inR n)).length (xs.length - (xs.filter (inR n)).length) (cap - (xs.filter (inR n)).length) rfl cur 3 HC.out HT.out HS.out ?_)
      go_ret
      exact ⟨_, _, rfl, by have := HF.out; rwa [List.append_assoc] at this, below_setRow hb hg _⟩

theorem first_out (p : Int → Bool) (xs : List Int) : (∀ x ∈ xs, p x = true) ∨ ∃ i y, (∀ x ∈ xs.take i, p x = true) ∧ xs[i]? = some y ∧ p y = false := by
  induction xs with
  | nil => exact .inl (by simp)
  | cons a l ih =>
    by_cases ha : p a = true
    · rcases ih with h | ⟨i, y, h1, h2, h3⟩
      · exact .inl (by simpa [ha] using h)
      · exact .inr ⟨i + 1, y, by simpa [ha] using h1, by simpa using h2, h3⟩
    · exact .inr ⟨0, a, by simp, by simp, by simpa using ha⟩

theorem nextOf_le (x : Ins) (at_ : Int) : (nextOf x at_).length ≤ 2 := by
  unfold nextOf; repeat' split
  all_goals simp

set_option maxRecDepth 100000 in
set_option maxHeartbeats 1000000 in
theorem flow_next (c : Cod) (at_ : Nat) (x : Ins) (w : World) (hc : InsRow w w.heap.size c.insA c.ins) (hx : c.ins[at_]? = some x) (hn : c.ins.length ≤ 90000) :
    Calls Try.prog 57 #[.agg c.cells, .int .i64 (at_ : Int)] w (GivesI w ((nextOf x at_).filter (inR c.ins.length))) := by
  obtain ⟨nm, par, varsA, nvars, varsC, rp, rto, rcl, fromA, nfrom, fromC, insA, insC, ins⟩ := c
  simp only at hc hx hn
  have hlt : at_ < ins.length := (List.getElem?_eq_some_iff.1 hx).1
  have hltI : (at_ : Int) < (ins.length : Int) := by omega
  obtain ⟨b, off, rfl, hb, hcell⟩ := hc (by intro e; rw [e] at hlt; simp at hlt)
  have hcell' : ∀ W, Below w.heap.size w W → ∀ j u, x.cells.toList[j]? = some u → W.cell? ((⟨b, off + at_ * 13, none⟩ : Addr).add j) = some u := fun W hW j u hu => by
    rw [Addr.add_lit, hW.cell (p := ⟨b, _, none⟩) hb]; exact hcell at_ x hx j u hu
  have HC := Lib.hid hcell'
  have hxl : (nextOf x (at_ : Int)).length ≤ 2 := nextOf_le _ _
  obtain ⟨xs, hxs⟩ : ∃ xs, nextOf x (at_ : Int) = xs := ⟨_, rfl⟩
  rw [hxs] at hxl ⊢
  have HXS := Lib.hid hxs
  clear hcell hcell' hx hc hxs
  simp only [Cod.cells]
  go_enter Try.func57, Try.ntmps57
  go_wp2_with (first | (refine wpList_load_at rfl 61 _ rfl _ rfl x.cells _ (HC.out _ ((Below.refl _ _).alloc (Nat.le_refl _) _)) Try.underlying61 rfl (by kernel_rfl) ?_) | (go_at_call 80; refine (ir_Next x _ _ (by omega) (by omega)).mono ?_; rintro e w1 ⟨ao, cap, rfl, hown, hbel⟩))
  rw [HXS.out] at hown ⊢
  clear HXS
  have hcc : w1.cell? ⟨w.heap.size, 7, none⟩ = some (.slice (some ⟨b, off, none⟩) ins.length insC) := by
    rw [hbel.cell (p := ⟨w.heap.size, 7, none⟩) (by simp), World.cell?_alloc_new]; rfl
  have HD : Hid (Calls Try.prog 79 #[.slice ao xs.length cap, .func (.func 81) #[] #[.pointer (some ⟨w.heap.size, 0, none⟩)]] w1 (HasI (w.heap.size + 1) w1 (xs.filter (inR ins.length)))) := by
    have hown' : OwnI w1 (w.heap.size + 1) (.slice ao xs.length cap) xs := hown.mono (by simp)
    rcases first_out (inR ins.length) xs with h | ⟨i, y, h1, h2, h3⟩
    · exact del_none _ w.heap.size ins.length insC _ ao cap xs w1 hcc (by omega) hown' h
    · obtain ⟨g, rfl, _⟩ := hown'.shape (by have := (List.getElem?_eq_some_iff.1 h2).1; omega)
      exact del_some _ w.heap.size ins.length insC _ g cap xs i y w1 hcc (by omega) (by omega) hown' h1 h2 h3
  have HB : Hid (Below w.heap.size w w1) := ((Below.refl _ _).alloc (Nat.le_refl _) _).trans (hbel.mono (by simp))
  clear hown hbel hcc HC
  go_wp2_with (go_at_call 79; refine HD.out.mono ?_; rintro e w2 ⟨ao2, cap2, rfl, hown2, hbel2⟩)
  go_ret
  exact ⟨_, _, rfl, hown2.mono (by omega), HB.out.trans (hbel2.mono (by omega))⟩
end Go.Proofs.Ytpbkkajgcdahcaa
