/- FlowForwards, at any short code: true. -/
import Derived.Test.YtpbkkajgcdahcaaFwdPlain
import Derived.IntWalk
namespace Go.Proofs.Ytpbkkajgcdahcaa
open Go.RowKit

/-- A row of numbers. -/
def natCells (n : Nat) (f : Nat → Nat) : Array Value := ((List.range n).map fun i => Value.int .i64 (f i : Int)).toArray

theorem natCells_size (n : Nat) (f : Nat → Nat) : (natCells n f).size = n := by simp [natCells]

theorem natCells_get {n i : Nat} (f : Nat → Nat) (h : i < n) : (natCells n f)[i]? = some (.int .i64 (f i : Int)) := by
  simp [natCells, h]

theorem natCells_set (n i v : Nat) (f : Nat → Nat) : (natCells n f).setIfInBounds i (.int .i64 (v : Int)) = natCells n (fun x => if x = i then v else f x) := by
  apply Array.ext_getElem?
  intro j
  rw [Array.getElem?_setIfInBounds]
  by_cases hj : j < n
  · rw [natCells_get _ hj, natCells_get _ hj]
    by_cases h : i = j
    · subst h; simp [natCells_size, hj]
    · rw [if_neg h, if_neg (fun e => h e.symm)]
  · have e : ∀ g, (natCells n g)[j]? = none := fun g => Array.getElem?_eq_none (by rw [natCells_size]; omega)
    rw [e, e]
    by_cases h : i = j
    · subst h; rw [if_pos rfl, if_neg (by rw [natCells_size]; omega)]
    · rw [if_neg h]

theorem natCells_zero (n : Nat) : (List.replicate n (Value.int .i64 0)).toArray = natCells n (fun _ => 0) := by
  apply Array.ext_getElem?
  intro j
  by_cases hj : j < n
  · rw [natCells_get _ hj]; simp [hj]
  · rw [Array.getElem?_eq_none (by simp; omega), Array.getElem?_eq_none (by rw [natCells_size]; omega)]

theorem natCells_congr {n : Nat} {f g : Nat → Nat} (h : ∀ x, x < n → f x = g x) : natCells n f = natCells n g := by
  apply Array.ext_getElem?
  intro j
  by_cases hj : j < n
  · rw [natCells_get _ hj, natCells_get _ hj, h j hj]
  · rw [Array.getElem?_eq_none (by rw [natCells_size]; omega), Array.getElem?_eq_none (by rw [natCells_size]; omega)]

/-- Between two rounds of the first loop. -/
def PlcI (n B : Nat) (o : List Nat) (W : World) (c : Value) (wr : World) : Prop :=
  ∃ j : Nat, j ≤ o.length ∧ c = .int .i64 (j : Int) ∧ wr.heap[B]? = some (.cells (natCells n (plc (o.take j))) 3 (0, 0)) ∧ Ext (· = B) W wr

/-- Between two rounds of the second. -/
def LpI (n B : Nat) (l : List Nat) (W : World) (c : Value) (wr : World) : Prop :=
  ∃ j : Nat, j ≤ l.length ∧ c = .int .i64 (j : Int) ∧ wr.heap[B]? = some (.cells (seenCells n (l.take j)) 4 (0, 0)) ∧ Ext (· = B) W wr

theorem OwnI.ext {M : Nat → Prop} {w w' : World} {base : Nat} {v : Value} {xs : List Int} (h : OwnI w base v xs) (hx : Ext M w w') (hM : ∀ k, v.ownBlock = some k → ¬ M k) : OwnI w' base v xs := by
  refine ⟨h.1, ?_⟩
  rcases h.2 with h' | ⟨g, cap, cur, e1, e2, e3, e4⟩
  · exact .inl h'
  · exact .inr ⟨g, cap, cur, e1, e2, hx.heap e3 (hM g (by rw [e1]; rfl)), e4⟩

theorem pairs_shape {w : World} {base n cap : Nat} {ao : Option Addr} {l : List (Nat × Nat)} (h : w.ownsRow base 39 2 (.slice ao n cap) l.length (pairCells l)) (hn : 0 < l.length) :
    ∃ g, ao = some ⟨g, 0, none⟩ ∧ g < w.heap.size ∧ ∀ (i : Nat) (p : Nat × Nat), l[i]? = some p → w.cell? ⟨g, i * 2, none⟩ = some (.int .i64 (p.1 : Int)) ∧ w.cell? ⟨g, i * 2 + 1, none⟩ = some (.int .i64 (p.2 : Int)) := by
  rcases h.2 with ⟨h1, h2⟩ | ⟨g, cap', cur, e1, e2, e3, e4, e5, e6, e7⟩
  · omega
  · have hs : ao = some ⟨g, 0, none⟩ := by simp only [Value.slice.injEq] at e1; exact e1.1
    refine ⟨g, hs, (Array.getElem?_eq_some_iff.1 e3).1, fun i p hp => ?_⟩
    have hi : i < l.length := (List.getElem?_eq_some_iff.1 hp).1
    have q : ∀ (j : Nat) (v : Value), j < l.length * 2 → (pairCells l)[j]? = some v → w.cell? ⟨g, j, none⟩ = some v := by
      intro j v hj hv
      rw [cell_of_row w g j cur _ _ e3]
      rw [← e7, List.getElem?_take, if_pos hj] at hv
      simpa using hv
    have hsp : l = l.take i ++ p :: l.drop (i + 1) := by
      conv => lhs; rw [← List.take_append_drop i l]
      rw [List.drop_eq_getElem_cons hi]
      rw [List.getElem?_eq_getElem hi] at hp
      rw [Option.some.inj hp]
    have hpc : pairCells l = pairCells (l.take i) ++ Value.int .i64 (p.1 : Int) :: Value.int .i64 (p.2 : Int) :: pairCells (l.drop (i + 1)) := by
      conv => lhs; rw [hsp]
      simp [pairCells]
    have hlt : (pairCells (l.take i)).length = i * 2 := by rw [pairCells_length, List.length_take]; congr 1; omega
    refine ⟨q _ _ (by omega) ?_, q _ _ (by omega) ?_⟩
    · rw [hpc, List.getElem?_append_right (by omega), hlt]; simp
    · rw [hpc, List.getElem?_append_right (by omega), hlt]; simp

def sizesOf (l : List (Nat × Nat)) : Nat := (l.map fun p => p.2 - p.1 + 1).sum

theorem sizesOf_snoc (l : List (Nat × Nat)) (p : Nat × Nat) : sizesOf (l ++ [p]) = sizesOf l + (p.2 - p.1 + 1) := by simp [sizesOf]

set_option maxRecDepth 100000 in
set_option maxHeartbeats 8000000 in
theorem forwards_calls (c : Cod) (w : World) (hin : c.inn w) : Calls Try.prog 3 #[.agg c.cells] w (Yes w) := by
  have HIN := Lib.hid hin
  clear hin
  obtain ⟨nm, par, varsA, nvars, varsC, rp, rto, rcl, fromA, nfrom, fromC, insA, insC, ins⟩ := c
  simp only [Cod.cells]
  obtain ⟨i0, hi, hz0, hz1, hz2⟩ := info_parts info_bool
  obtain ⟨j0, hj, hj0, hj1, hj2⟩ := info_parts info_int
  obtain ⟨N, hN⟩ : ∃ N, w.heap.size = N := ⟨_, rfl⟩
  obtain ⟨W1, hW1⟩ : ∃ W1, w.alloc (.cells #[.string nm, .int .i64 par, .slice varsA nvars varsC, .bool rp, .string rto, .int .i64 rcl, .slice fromA nfrom fromC, .slice insA ins.length insC] 30) = W1 := ⟨_, rfl⟩
  have hb1 : Below w.heap.size w W1 := by rw [← hW1]; exact (Below.refl _ _).alloc (Nat.le_refl _) _
  have hsz : W1.heap.size = N + 1 := by rw [← hW1]; simp [hN]
  have hrow : W1.heap[N]? = some (.cells #[.string nm, .int .i64 par, .slice varsA nvars varsC, .bool rp, .string rto, .int .i64 rcl, .slice fromA nfrom fromC, .slice insA ins.length insC] 30 (0, 0)) := by
    rw [← hW1, ← hN]; exact alloc_at _ _
  have hin1 := HIN.out.below hb1
  have HK : Hid (∀ W, Below (N + 1) W1 W → Cod.inn W ⟨nm, par, varsA, nvars, varsC, rp, rto, rcl, fromA, nfrom, fromC, insA, insC, ins⟩) := fun W hb => hin1.below (by rw [hsz]; exact hb)
  have HS : Hid (∀ W', Below (N + 1) W1 W' → W'.cell? ⟨N, 0, none⟩ = some (.string nm) ∧ W'.cell? ⟨N, 1, none⟩ = some (.int .i64 par) ∧ W'.cell? ⟨N, 2, none⟩ = some (.slice varsA nvars varsC) ∧ W'.cell? ⟨N, 3, none⟩ = some (.bool rp) ∧ W'.cell? ⟨N, 4, none⟩ = some (.string rto) ∧ W'.cell? ⟨N, 5, none⟩ = some (.int .i64 rcl) ∧ W'.cell? ⟨N, 6, none⟩ = some (.slice fromA nfrom fromC) ∧ W'.cell? ⟨N, 7, none⟩ = some (.slice insA ins.length insC)) := by
    intro W' h3
    have h4 := (h3.block N (by omega)).trans hrow
    refine ⟨?_, ?_, ?_, ?_, ?_, ?_, ?_, ?_⟩ <;> (rw [cell_of_row _ _ _ _ _ _ h4]; rfl)
  have HL : Hid (∀ W, Below (N + 1) W1 W → Calls Try.prog 14 #[.agg #[.string nm, .int .i64 par, .slice varsA nvars varsC, .bool rp, .string rto, .int .i64 rcl, .slice fromA nfrom fromC, .slice insA ins.length insC]] W (SaysIf W W.heap.size (Cod.short ⟨nm, par, varsA, nvars, varsC, rp, rto, rcl, fromA, nfrom, fromC, insA, insC, ins⟩))) :=
    fun W hb => light8_calls _ W (HK.out W hb)
  have HB1 : Hid (∀ W, Below (N + 1) W1 W → Below N w W) := fun W hb => by have := hb1; rw [hN] at this; exact this.trans (hb.mono (by omega))
  have HW1 := Lib.hid hW1
  have hs1 : N + 1 ≤ W1.heap.size := by omega
  clear hb1 hsz hrow hin1 hW1 HIN
  go_enter Try.func3, Try.ntmps3
  go_wp2_with fail
  go_at_call 14
  rw [HW1.out]
  refine (HL.out W1 (Below.refl _ _)).mono ?_
  rintro e w2 ⟨b, rfl, hb, hbw⟩
  have HBB := Lib.hid hb
  have hb2 : Below (N + 1) W1 w2 := hbw.mono hs1
  obtain ⟨k0, k1, k2, k3, k4, k5, k6, k7⟩ := HS.out w2 hb2
  have HB2 := Lib.hid hb2
  clear hb hbw hb2
  cases b with
  | false =>
    go_wp2_with fail
    go_at_call 15
    refine (alive_calls _).mono ?_
    rintro e w3 ⟨rfl, hb3⟩
    have HB3 := Lib.hid (HB1.out w3 (HB2.out.trans (hb3.mono (by have := HB2.out.size; omega))))
    clear hb3
    go_wp2
    go_ret
    exact ⟨rfl, by first | exact HB3.out | (rw [hN]; exact HB3.out)⟩
  | true =>
    have hsh : ins.length ≤ 150 := (HBB.out rfl).1
    have hok : ∀ x ∈ ins, x.argsV.oneCell' = true ∧ x.modeV.oneCell' = true := fun x hx => by
      obtain ⟨⟨ao, cap, h1⟩, ao2, n2, cap2, h2⟩ := ((HK.out w2 HB2.out).args x hx).1
      rw [h1, h2]; exact ⟨rfl, rfl⟩
    obtain ⟨M, L, T, hp⟩ := plan_of ins (by omega)
    have HP := Lib.hid hp
    have hlM := hp.lm
    have hlL : L.length = M.length := hp.perm.length_eq
    obtain ⟨o, ho⟩ : ∃ o, o = L.reverse := ⟨_, rfl⟩
    have hoM : ∀ x, x ∈ o → x ∈ M := fun x hx => hp.perm.mem_iff.1 (List.mem_reverse.1 (by rw [← ho]; exact hx))
    have hoN : o.Nodup := by rw [ho]; exact List.pairwise_reverse.2 ((hp.perm.nodup_iff.2 hp.nodup).imp (fun h e => h e.symm))
    have hol : o.length ≤ 150 := by rw [ho, List.length_reverse]; omega
    have HOM := Lib.hid hoM
    have HON := Lib.hid hoN
    have HOR : Hid (∀ W, Below (N + 1) W1 W → Calls Try.prog 16 #[.agg #[.string nm, .int .i64 par, .slice varsA nvars varsC, .bool rp, .string rto, .int .i64 rcl, .slice fromA nfrom fromC, .slice insA ins.length insC]] W (GivesI W (ints o))) :=
      fun W hb => by rw [ho]; exact order_calls ⟨nm, par, varsA, nvars, varsC, rp, rto, rcl, fromA, nfrom, fromC, insA, insC, ins⟩ W L (HK.out W hb).row (by show ins.length ≤ 90000; omega) hp.order
    have HR : Hid (∀ W, Below (N + 1) W1 W → Calls Try.prog 17 #[.agg #[.string nm, .int .i64 par, .slice varsA nvars varsC, .bool rp, .string rto, .int .i64 rcl, .slice fromA nfrom fromC, .slice insA ins.length insC]] W (Truthed W ins.length M)) :=
      fun W hb => reach_calls ⟨nm, par, varsA, nvars, varsC, rp, rto, rcl, fromA, nfrom, fromC, insA, insC, ins⟩ W M (HK.out W hb).row (by show ins.length ≤ 90000; omega) hp.from_ (by omega)
    have HLO : Hid (∀ W, Below (N + 1) W1 W → Calls Try.prog 18 #[.agg #[.string nm, .int .i64 par, .slice varsA nvars varsC, .bool rp, .string rto, .int .i64 rcl, .slice fromA nfrom fromC, .slice insA ins.length insC]] W (GivesI W (ints (loopsOf ins L)))) :=
      fun W hb => loops_calls ⟨nm, par, varsA, nvars, varsC, rp, rto, rcl, fromA, nfrom, fromC, insA, insC, ins⟩ W L (HK.out W hb).row (by show ins.length ≤ 90000; omega) hp.order (by omega) (fun x hx => hp.lt x (hp.perm.mem_iff.1 hx))
    have HBL : Hid (∀ W, Below (N + 1) W1 W → Calls Try.prog 20 #[.agg #[.string nm, .int .i64 par, .slice varsA nvars varsC, .bool rp, .string rto, .int .i64 rcl, .slice fromA nfrom fromC, .slice insA ins.length insC]] W (GivesP W (blocksOf ins M))) :=
      fun W hb => blocks_calls ⟨nm, par, varsA, nvars, varsC, rp, rto, rcl, fromA, nfrom, fromC, insA, insC, ins⟩ W M hok (HK.out W hb).row (by show ins.length ≤ 90000; omega) hp.from_ (by omega)
    have HNX : Hid (∀ W x, Below (N + 1) W1 W → x < ins.length → Calls Try.prog 19 #[.agg #[.string nm, .int .i64 par, .slice varsA nvars varsC, .bool rp, .string rto, .int .i64 rcl, .slice fromA nfrom fromC, .slice insA ins.length insC], .int .i64 (x : Int)] W (GivesI W (ints (nextN ins x)))) :=
      fun W x hb hx => ref08_nextN ⟨nm, par, varsA, nvars, varsC, rp, rto, rcl, fromA, nfrom, fromC, insA, insC, ins⟩ x W (HK.out W hb).row hx (by show ins.length ≤ 90000; omega)
    have HOE := Lib.hid ho
    clear hp hok ho hoM hoN hlL
    have hq0 : N < w2.heap.size := by have := HB2.out.size; omega
    have hq1 : N < w2.heap.size + 1 := by omega
    go_wp2_with (at_make; refine wpList_make_at rfl (.tmp 24) (.tmp 24) 27 rfl 3 j0 (.int .i64 0) Try.underlying27 hj hj0 hj1 rfl .i64 .i64 _ _ ins.length rfl rfl rfl rfl (by rw [hj2]; omega) (by unfold maxLen; omega) ?_)
    obtain ⟨B, hB⟩ : ∃ B, w2.heap.size = B := ⟨_, rfl⟩
    obtain ⟨W3, hW3⟩ : ∃ W3, w2.alloc (.cells (Array.replicate ins.length (Value.int .i64 0)) 3) = W3 := ⟨_, rfl⟩
    have hx3 : Below w2.heap.size w2 W3 := by rw [← hW3]; exact (Below.refl _ _).alloc (Nat.le_refl _) _
    have hr3 : W3.heap[B]? = some (.cells (natCells ins.length (fun _ => 0)) 3 (0, 0)) := by
      rw [← hW3, ← hB, ← natCells_zero, List.toArray_replicate]; exact alloc_at _ _
    have hs3 : W3.heap.size = B + 1 := by rw [← hW3]; simp [hB]
    have hNB : N + 1 ≤ B := by omega
    have hb13 : Below (N + 1) W1 W3 := HB2.out.trans (hx3.mono (by omega))
    rw [hW3, hB]
    go_at_call 16
    refine (HOR.out W3 hb13).mono ?_
    rintro e w4 ⟨ao, cap, rfl, hown, hb4⟩
    have hb14 : Below (N + 1) W1 w4 := hb13.trans (hb4.mono (by omega))
    have hr4 := (hb4.block B (by omega)).trans hr3
    obtain ⟨k0, k1, k2, k3, k4, k5, k6, k7⟩ := HS.out w4 hb14
    have HR5 := Lib.hid (HR.out w4 hb14)
    have HB14 := Lib.hid hb14
    have HR4 := Lib.hid hr4
    have HO4 := Lib.hid hown
    have hs4 : B + 1 ≤ w4.heap.size := by have := hb4.size; omega
    have hs3' : B + 1 ≤ W3.heap.size := by omega
    clear hq0 hq1 hB hW3 hx3 hr3 hs3 hb13 hb4 hb14 hr4 hown hj hj0 hj1 hj2
    go_wp2_with fail
    go_at_call 17
    refine HR5.out.mono ?_
    rintro e w5 ⟨b5, rfl, hb5, hr5, hb45⟩
    have hb15 : Below (N + 1) W1 w5 := HB14.out.trans (hb45.mono (by omega))
    have hp5 := (hb45.block B (by omega)).trans HR4.out
    have hown5 := ownsRow_below HO4.out hb45
    have HP5 := Lib.hid hp5
    have HR5' := Lib.hid hr5
    have HO5 : Hid (OwnI w5 W3.heap.size (.slice ao (ints o).length cap) (ints o)) := hown5
    have HB15 := Lib.hid hb15
    have hs5 : w4.heap.size ≤ w5.heap.size := hb45.size
    have hb5' : b5 < w5.heap.size := (Array.getElem?_eq_some_iff.1 hr5).1
    have HLL : Hid ((ints o).length = o.length) := by simp [Hid, ints]
    clear HR5 hb45 hr5 hb15 hp5 hown5
    go_wp2_with fail
    go_loopw [7] (fun c wr => PlcI ins.length B o w5 c wr) (fun c _ => o.length - (intOf c).toNat)
    case atStart => exact ⟨0, Nat.zero_le _, rfl, by rw [HP5.out]; rfl, Ext.refl _ _⟩
    case round =>
      obtain ⟨j, hj, rfl, hpr, hxr⟩ := hrel
      rw [HLL.out]
      by_cases hjl : j < o.length
      · obtain ⟨x, hx⟩ : ∃ x, o[j]? = some x := ⟨_, List.getElem?_eq_getElem hjl⟩
        have hxM : x ∈ M := HOM.out x (List.mem_of_getElem? hx)
        have hxn : x < ins.length := HP.out.lt x hxM
        have hxt : x ∉ o.take j := by
          intro h
          have hno := HON.out
          rw [← List.take_append_drop j o, List.nodup_append] at hno
          refine hno.2.2 x h x ?_ rfl
          rw [List.drop_eq_getElem_cons hjl]
          rw [List.getElem?_eq_getElem hjl] at hx
          simp [Option.some.inj hx]
        have hpo : wr.heap.size ≤ wr.heap.size := Nat.le_refl _
        have hoo : OwnI wr W3.heap.size (.slice ao (ints o).length cap) (ints o) := HO5.out.ext hxr (fun k hk e => by have := (HO5.out.lt k hk).1; omega)
        obtain ⟨g, rfl, hg1, hg2, hgc⟩ := hoo.shape (by rw [HLL.out]; omega)
        have d1 : wr.cell? ⟨g, j, none⟩ = some (.int .i64 (x : Int)) := hgc j x (by simp [ints, hx])
        have d2 : wr.cell? ⟨B, x, none⟩ = some (.int .i64 0) := by rw [cell_of_row _ _ _ _ _ _ hpr, natCells_get _ hxn]; simp [plc, hxt]
        have d3 : wr.frozen? ⟨B, x, none⟩ = false := frozen_of_row _ _ _ _ _ hpr
        have d4 : wr.cell? ⟨b5, x, none⟩ = some (.bool true) := by
          rw [cell_of_row _ _ _ _ _ _ (hxr.heap HR5'.out (by omega)), seenCells_get M hxn, decide_eq_true hxM]
        have hxI : (x : Int) < (ins.length : Int) := by omega
        have hd0 : decide ((x : Int) < 0) = false := decide_eq_false (by omega)
        have hd1 : decide ((ins.length : Int) ≤ (x : Int)) = false := decide_eq_false (by omega)
        have hjI : (j : Int) < (o.length : Int) := by omega
        have HG : Hid (PlcI ins.length B o w5 (.int .i64 ((j : Int) + 1)) (wr.setCell ⟨B, x, none⟩ (.int .i64 ((j : Int) + 1)))) := by
          refine ⟨j + 1, by omega, by simp, ?_, hxr.trans (Ext.set1 _ _ _ _) (fun j hj => .inl hj)⟩
          have e := natCells_set ins.length x (j + 1) (plc (o.take j))
          rw [heap_setCell_same _ _ _ _ _ _ hpr, show ((j : Int) + 1) = ((j + 1 : Nat) : Int) by omega, e]
          congr 2
          refine natCells_congr (fun y _ => ?_)
          rw [List.take_add_one, hx, Option.toList_some, plc_snoc hxt]
          have : (o.take j).length = j := by rw [List.length_take]; omega
          rw [this]
        clear hpr hxr hx hxt hpo hgc hoo
        go_wp2
        exact ⟨HG.out, by simp [intOf]; omega⟩
      · have hje : j = o.length := by omega
        subst hje
        rw [List.take_length] at hpr
        have hb16 : Below (N + 1) W1 wr := HB15.out.trans ((hxr.below (B := N + 1) (by omega) (fun k hk => by omega)).mono (Nat.le_refl _))
        obtain ⟨k0, k1, k2, k3, k4, k5, k6, k7⟩ := HS.out wr hb16
        have HO6 : Hid (OwnI wr W3.heap.size (.slice ao (ints o).length cap) (ints o)) := HO5.out.ext hxr (fun k hk e => by have := (HO5.out.lt k hk).1; omega)
        have HPR := Lib.hid hpr
        have HB16 := Lib.hid hb16
        have hs6 : B < wr.heap.size := (Array.getElem?_eq_some_iff.1 hpr).1
        have hq0 : N < wr.heap.size := by omega
        clear hpr hxr hb16
        go_wp2_with (at_make; refine wpList_make_at rfl (.tmp 83) (.tmp 83) 34 rfl 4 i0 (.bool false) Try.underlying34 hi hz0 hz1 rfl .i64 .i64 _ _ ins.length rfl rfl rfl rfl (by rw [hz2]; omega) (by unfold maxLen; omega) ?_)
        obtain ⟨B2, hB2⟩ : ∃ B2, wr.heap.size = B2 := ⟨_, rfl⟩
        obtain ⟨W7, hW7⟩ : ∃ W7, wr.alloc (.cells (Array.replicate ins.length (Value.bool false)) 4) = W7 := ⟨_, rfl⟩
        have hx7 : Below wr.heap.size wr W7 := by rw [← hW7]; exact (Below.refl _ _).alloc (Nat.le_refl _) _
        have hr7 : W7.heap[B2]? = some (.cells (seenCells ins.length []) 4 (0, 0)) := by
          rw [← hW7, ← hB2, seenCells_nil, List.toArray_replicate]; exact alloc_at _ _
        have hs7 : W7.heap.size = B2 + 1 := by rw [← hW7]; simp [hB2]
        have hb17 : Below (N + 1) W1 W7 := HB16.out.trans (hx7.mono (by omega))
        have hp7 := (hx7.block B (by omega)).trans HPR.out
        have HO7 : Hid (OwnI W7 W3.heap.size (.slice ao (ints o).length cap) (ints o)) := ownsRow_below HO6.out hx7
        rw [hW7, hB2]
        go_at_call 18
        refine (HLO.out W7 hb17).mono ?_
        rintro e w8 ⟨ao8, cap8, rfl, hown8, hb8⟩
        obtain ⟨ll, hll⟩ : ∃ ll, ll = loopsOf ins L := ⟨_, rfl⟩
        rw [← hll] at hown8 ⊢
        have hb18 : Below (N + 1) W1 w8 := hb17.trans (hb8.mono (by omega))
        have hp8 := (hb8.block B (by omega)).trans hp7
        have hr8 := (hb8.block B2 (by omega)).trans hr7
        have HO8 : Hid (OwnI w8 W3.heap.size (.slice ao (ints o).length cap) (ints o)) := ownsRow_below HO7.out hb8
        have HW8 := Lib.hid hown8
        have HB18 := Lib.hid hb18
        have HP8 := Lib.hid hp8
        have HR8 := Lib.hid hr8
        have hlln : ll.length ≤ 150 := by
          rw [hll]; unfold loopsOf
          refine Nat.le_trans (List.length_filter_le _ _) ?_
          simp; exact hsh
        have HLT : Hid (∀ x ∈ ll, x < ins.length) := fun x hx => by
          rw [hll] at hx; unfold loopsOf at hx
          simpa using (List.mem_filter.1 hx).1
        have hs8 : B2 + 1 ≤ w8.heap.size := by have := hb8.size; omega
        have hs78 : W7.heap.size ≤ w8.heap.size := hb8.size
        have hs7' : B2 + 1 ≤ W7.heap.size := by omega
        have hBB : B < B2 := by omega
        have HLL8 : Hid ((ints ll).length = ll.length) := by simp [Hid, ints]
        have HLLE := Lib.hid hll
        have HOB : Hid (∀ k, (Value.slice ao (ints o).length cap).ownBlock = some k → k < B2) := fun k hk => by have := (HO6.out.lt k hk).2; omega
        clear hq0 hB2 hW7 hx7 hr7 hs7 hb17 hp7 hown8 hb8 hll hb18 hp8 hr8 hi hz0 hz1 hz2
        go_wp2_with fail
        go_loopw [10] (fun c wr => LpI ins.length B2 ll w8 c wr) (fun c _ => ll.length - (intOf c).toNat)
        case atStart => exact ⟨0, Nat.zero_le _, rfl, by rw [HR8.out]; rfl, Ext.refl _ _⟩
        case round =>
          obtain ⟨j, hj, rfl, hpr, hxr⟩ := hrel
          rw [HLL8.out]
          by_cases hjl : j < ll.length
          · obtain ⟨x, hx⟩ : ∃ x, ll[j]? = some x := ⟨_, List.getElem?_eq_getElem hjl⟩
            have hxn : x < ins.length := HLT.out x (List.mem_of_getElem? hx)
            obtain ⟨g, rfl, hg1, hg2, hgc⟩ := HW8.out.shape (by rw [HLL8.out]; omega)
            have d1 : wr.cell? ⟨g, j, none⟩ = some (.int .i64 (x : Int)) := by
              rw [hxr.cell (a := ⟨g, j, none⟩) hg2 (by show ¬ g = B2; omega)]; exact hgc j x (by simp [ints, hx])
            have d2 : wr.cell? ⟨B2, x, none⟩ = some (.bool (decide (x ∈ ll.take j))) := by rw [cell_of_row _ _ _ _ _ _ hpr, seenCells_get _ hxn]
            have d3 : wr.frozen? ⟨B2, x, none⟩ = false := frozen_of_row _ _ _ _ _ hpr
            have hxI : (x : Int) < (ins.length : Int) := by omega
            have hd0 : decide ((x : Int) < 0) = false := decide_eq_false (by omega)
            have hd1 : decide ((ins.length : Int) ≤ (x : Int)) = false := decide_eq_false (by omega)
            have hjI : (j : Int) < (ll.length : Int) := by omega
            have HG : Hid (LpI ins.length B2 ll w8 (.int .i64 ((j : Int) + 1)) (wr.setCell ⟨B2, x, none⟩ (.bool true))) := by
              refine ⟨j + 1, by omega, by simp, ?_, hxr.trans (Ext.set1 _ _ _ _) (fun j hj => .inl hj)⟩
              rw [heap_setCell_same _ _ _ _ _ _ hpr, seenCells_set, List.take_add_one, hx, Option.toList_some]
            clear hpr hxr hx hgc
            go_wp2
            exact ⟨HG.out, by simp [intOf]; omega⟩
          · have hje : j = ll.length := by omega
            subst hje
            rw [List.take_length] at hpr
            obtain ⟨w9, rfl⟩ : ∃ w9 : World, w9 = wr := ⟨_, rfl⟩
            have hb19 : Below (N + 1) W1 w9 := HB18.out.trans (hxr.below (B := N + 1) (by omega) (fun k hk => by omega))
            have HO9 : Hid (OwnI w9 W3.heap.size (.slice ao (ints o).length cap) (ints o)) := HO8.out.ext hxr (fun k hk e => by have := HOB.out k hk; omega)
            have HP9 := Lib.hid (hxr.heap HP8.out (by omega))
            have HR9 := Lib.hid hpr
            have HB19 := Lib.hid hb19
            have hs9 : B2 < w9.heap.size := (Array.getElem?_eq_some_iff.1 hpr).1
            have HSX : Hid (∀ W', Below w9.heap.size w9 W' → W'.cell? ⟨N, 0, none⟩ = some (.string nm) ∧ W'.cell? ⟨N, 1, none⟩ = some (.int .i64 par) ∧ W'.cell? ⟨N, 2, none⟩ = some (.slice varsA nvars varsC) ∧ W'.cell? ⟨N, 3, none⟩ = some (.bool rp) ∧ W'.cell? ⟨N, 4, none⟩ = some (.string rto) ∧ W'.cell? ⟨N, 5, none⟩ = some (.int .i64 rcl) ∧ W'.cell? ⟨N, 6, none⟩ = some (.slice fromA nfrom fromC) ∧ W'.cell? ⟨N, 7, none⟩ = some (.slice insA ins.length insC)) :=
              fun W' hb => HS.out W' (HB19.out.trans (hb.mono (by omega)))
            clear hpr hxr hb19 k0 k1 k2 k3 k4 k5 k6 k7
            go_wp2_with fail
            go_loopw [11] (fun c w10 => ∃ j : Nat, j ≤ o.length ∧ c = .int .i64 (j : Int) ∧ Below w9.heap.size w9 w10) (fun c _ => o.length - (intOf c).toNat)
            case atStart => exact ⟨0, Nat.zero_le _, rfl, Below.refl _ _⟩
            case round =>
              obtain ⟨j, hj, rfl, hb⟩ := hrel
              have hb1 : Below (N + 1) W1 wr := HB19.out.trans (hb.mono (by omega))
              have HB := Lib.hid hb
              have HB1W := Lib.hid hb1
              obtain ⟨k0, k1, k2, k3, k4, k5, k6, k7⟩ := HSX.out wr hb
              clear hb hb1
              by_cases hjl : j < o.length
              · obtain ⟨x, hx⟩ : ∃ x, o[j]? = some x := ⟨_, List.getElem?_eq_getElem hjl⟩
                have hxM : x ∈ M := HOM.out x (List.mem_of_getElem? hx)
                have hxn : x < ins.length := HP.out.lt x hxM
                obtain ⟨g, rfl, hg1, hg2, hgc⟩ := HO9.out.shape (by rw [HLL.out]; omega)
                have HGC : Hid (∀ W', Below w9.heap.size w9 W' → W'.cell? ⟨g, j, none⟩ = some (.int .i64 (x : Int))) := fun W' hb => by
                  rw [hb.cell (p := ⟨g, j, none⟩) hg2]; exact hgc j x (by simp [ints, hx])
                have d1 : wr.cell? ⟨g, j, none⟩ = some (.int .i64 (x : Int)) := HGC.out wr HB.out
                have hjI : (j : Int) < (o.length : Int) := by omega
                have HX := Lib.hid hx
                have HNXT : Hid (∀ W, Below w9.heap.size w9 W → Calls Try.prog 19 #[.agg #[.string nm, .int .i64 par, .slice varsA nvars varsC, .bool rp, .string rto, .int .i64 rcl, .slice fromA nfrom fromC, .slice insA ins.length insC], .int .i64 (x : Int)] W (GivesI W (ints (nextN ins x)))) :=
                  fun W hb => HNX.out W x (HB19.out.trans (hb.mono (by omega))) hxn
                clear hx hgc
                go_wp2
                go_region_held3 (fun w' => w'.cell? ⟨N, 0, none⟩ = some (.string nm) ∧ w'.cell? ⟨N, 1, none⟩ = some (.int .i64 par) ∧ w'.cell? ⟨N, 2, none⟩ = some (.slice varsA nvars varsC) ∧ w'.cell? ⟨N, 3, none⟩ = some (.bool rp) ∧ w'.cell? ⟨N, 4, none⟩ = some (.string rto) ∧ w'.cell? ⟨N, 5, none⟩ = some (.int .i64 rcl) ∧ w'.cell? ⟨N, 6, none⟩ = some (.slice fromA nfrom fromC) ∧ w'.cell? ⟨N, 7, none⟩ = some (.slice insA ins.length insC) ∧ w'.cell? ⟨g, j, none⟩ = some (.int .i64 (x : Int)) ∧ Below w9.heap.size w9 w')
                  (first | (exact hS) | (exact ⟨k0, k1, k2, k3, k4, k5, k6, k7, d1, below_drewN HB.out 1⟩))
                  (first
                    | (go_at_call 19; refine (HNXT.out _ (by go_split_ands; assumption)).mono ?_; rintro e w11 ⟨ao11, cap11, rfl, hown11, hbel11⟩; have hbb := HB.out.trans (((below_drewN (Below.refl _ wr) 1).trans hbel11).mono HB.out.size); have hS := (let h := HSX.out _ hbb; (⟨h.1, h.2.1, h.2.2.1, h.2.2.2.1, h.2.2.2.2.1, h.2.2.2.2.2.1, h.2.2.2.2.2.2.1, h.2.2.2.2.2.2.2, HGC.out _ hbb, hbb⟩ : _ ∧ _ ∧ _ ∧ _ ∧ _ ∧ _ ∧ _ ∧ _ ∧ _ ∧ _))))
                obtain ⟨nx, hnx⟩ : ∃ nx, nx = nextN ins x := ⟨_, rfl⟩
                rw [← hnx] at hown11 ⊢
                have hnxl : nx.length ≤ 2 := by rw [hnx]; exact nextN_length ins x
                have HNE := Lib.hid hnx
                have HOW := Lib.hid hown11
                have HBB2 := Lib.hid hbb
                have HLN : Hid ((ints nx).length = nx.length) := by simp [Hid, ints]
                have hpr11 := (hbb.block B (by omega)).trans HP9.out
                have hlr11 := (hbb.block B2 (by omega)).trans HR9.out
                have HPR11 := Lib.hid hpr11
                have HLR11 := Lib.hid hlr11
                clear hnx hown11 hbel11 hbb hS k0 k1 k2 k3 k4 k5 k6 k7 d1 hpr11 hlr11
                go_wp2_with fail
                go_loop [13] (fun c => ∃ q : Nat, q ≤ nx.length ∧ c = .int .i64 (q : Int)) (fun c => nx.length - (intOf c).toNat)
                case atStart => exact ⟨0, Nat.zero_le _, rfl⟩
                case round =>
                  obtain ⟨q, hq, rfl⟩ := hrel
                  rw [HLN.out]
                  by_cases hql : q < nx.length
                  · obtain ⟨y, hy⟩ : ∃ y, nx[q]? = some y := ⟨_, List.getElem?_eq_getElem hql⟩
                    have hyx : y ∈ nextN ins x := by rw [← HNE.out]; exact List.mem_of_getElem? hy
                    have hyn : y < ins.length := nextN_lt hyx
                    have hne : ins ≠ [] := by intro e; rw [e] at hyn; simp at hyn
                    have hyM : y ∈ M := (HP.out.leads hne y).2 (.step ((HP.out.leads hne x).1 hxM) hyx)
                    have hyL : y ∈ L := HP.out.perm.mem_iff.2 hyM
                    have hyo : y ∈ o := by rw [HOE.out]; exact List.mem_reverse.2 hyL
                    obtain ⟨p, hp⟩ : ∃ p, p = plc o y := ⟨_, rfl⟩
                    have hp1 : 1 ≤ p ∧ p ≤ 150 := by
                      rw [hp]; unfold plc; rw [if_pos hyo]
                      have := List.idxOf_lt_length_iff.2 hyo; omega
                    have hpl : p ≤ j + 1 → y ∈ ll := fun h => by
                      rw [HLLE.out]
                      refine fwd_ok (HP.out.perm.nodup_iff.2 HP.out.nodup) (i := j) (x := x) ?_ hyx hyL ?_
                      · rw [← HOE.out]; exact HX.out
                      · rw [← HOE.out, ← hp]; exact h
                    obtain ⟨gn, hgn, hn1, hn2, hnc⟩ := HOW.out.shape (by rw [HLN.out]; omega)
                    subst hgn
                    have c1 : w11.cell? ⟨gn, q, none⟩ = some (.int .i64 (y : Int)) := hnc q y (by simp [ints, hy])
                    have c2 : w11.cell? ⟨B, y, none⟩ = some (.int .i64 (p : Int)) := by rw [cell_of_row _ _ _ _ _ _ HPR11.out, natCells_get _ hyn, hp]
                    have c3 : w11.cell? ⟨B2, y, none⟩ = some (.bool (decide (y ∈ ll))) := by rw [cell_of_row _ _ _ _ _ _ HLR11.out, seenCells_get _ hyn]
                    have hyI : (y : Int) < (ins.length : Int) := by omega
                    have hqI : (q : Int) < (nx.length : Int) := by omega
                    have e1 : ((p : Int) == 0) = false := by simp; omega
                    by_cases hpj : p ≤ j + 1
                    · have e2 : decide ((p : Int) ≤ (j : Int) + 1) = true := decide_eq_true (by omega)
                      rw [decide_eq_true (hpl hpj)] at c3
                      clear hy hyx hne hyM hyL hyo hp hpl hnc
                      go_wp2
                      go_round
                      case rel => exact ⟨q + 1, by omega, by go_num⟩
                      case measure => simp [intOf]; omega
                    · have e2 : decide ((p : Int) ≤ (j : Int) + 1) = false := decide_eq_false (by omega)
                      clear hy hyx hne hyM hyL hyo hp hpl hnc c3
                      go_wp2
                      go_round
                      case rel => exact ⟨q + 1, by omega, by go_num⟩
                      case measure => simp [intOf]; omega
                  · have hqe : q = nx.length := by omega
                    subst hqe
                    go_wp2
                    go_roundw
                    case rel => exact ⟨j + 1, by omega, by go_num, HBB2.out⟩
                    case measure => simp [intOf]; omega
              · have hje : j = o.length := by omega
                subst hje
                obtain ⟨w12, rfl⟩ : ∃ w12 : World, w12 = wr := ⟨_, rfl⟩
                obtain ⟨bl, hbl⟩ : ∃ bl, bl = blocksOf ins M := ⟨_, rfl⟩
                have HBLK : Hid ((∀ p ∈ bl, p.1 ≤ p.2 ∧ p.2 < ins.length) ∧ bl.Pairwise (fun p q => p.2 < q.1) ∧ sizesOf bl = o.length) := by
                  have h := blocks_ok (ins := ins) HP.out.nodup HP.out.lt
                  rw [hbl]
                  refine ⟨h.1, h.2.1, ?_⟩
                  show ((blocksOf ins M).map fun p => p.2 - p.1 + 1).sum = _
                  rw [h.2.2, HOE.out, List.length_reverse]; exact HP.out.perm.length_eq.symm
                have HB12 := Lib.hid (HBL.out w12 HB1W.out)
                rw [← hbl] at HB12
                have HBE := Lib.hid hbl
                clear hbl
                go_wp2_with fail
                go_at_call 20
                refine HB12.out.mono ?_
                rintro e w13 ⟨ao13, cap13, rfl, hown13, hb13⟩
                have HOW13 := Lib.hid hown13
                have HB13 : Hid (Below N w w13) := HB1.out w13 (HB1W.out.trans (hb13.mono (by have := HB.out.size; omega)))
                clear hown13 hb13 k0 k1 k2 k3 k4 k5 k6 k7
                go_wp2_with fail
                go_loopw [14, 16] (fun t c w14 => ∃ j : Nat, j ≤ bl.length ∧ c = .int .i64 (j : Int) ∧ t = .int .i64 ((sizesOf (bl.take j) : Nat) : Int) ∧ ∃ m, w14 = w13.drewN m) (fun _ c _ => bl.length - (intOf c).toNat)
                case atStart => exact ⟨0, Nat.zero_le _, rfl, rfl, 0, rfl⟩
                case round =>
                  obtain ⟨j, hj, rfl, rfl, m, rfl⟩ := hrel
                  have hsl : sizesOf bl = sizesOf (bl.take j) + sizesOf (bl.drop j) := by
                    unfold sizesOf
                    conv => lhs; rw [← List.take_append_drop j bl]
                    rw [List.map_append, List.sum_append]
                  have htl : sizesOf (bl.take j) ≤ 150 := by have := HBLK.out.2.2; omega
                  obtain ⟨tt, htt⟩ : ∃ tt, tt = sizesOf (bl.take j) := ⟨_, rfl⟩
                  rw [← htt] at htl ⊢
                  by_cases hjl : j < bl.length
                  · obtain ⟨⟨s, e⟩, hp⟩ : ∃ p, bl[j]? = some p := ⟨_, List.getElem?_eq_getElem hjl⟩
                    have hpb := HBLK.out.1 _ (List.mem_of_getElem? hp)
                    simp only at hpb
                    obtain ⟨g, rfl, hg1, hgc⟩ := pairs_shape HOW13.out (by omega)
                    obtain ⟨c1, c2⟩ := hgc j _ hp
                    simp only at c1 c2
                    have HTT : Hid (((sizesOf (bl.take (j + 1)) : Nat) : Int) = (tt : Int) + (e : Int) - (s : Int) + 1) := by
                      unfold Hid
                      rw [take_snocI hp, sizesOf_snoc, ← htt]; simp only; omega
                    have hjI : (j : Int) < (bl.length : Int) := by omega
                    have hbl150 : bl.length ≤ 150 := by
                      have hq : ∀ (l : List (Nat × Nat)), l.length ≤ sizesOf l := by
                        intro l; induction l with
                        | nil => simp
                        | cons a r ih => simp only [sizesOf, List.map_cons, List.sum_cons, List.length_cons] at ih ⊢; omega
                      have := hq bl; have := HBLK.out.2.2; omega
                    have d1 : decide (e < s) = false := decide_eq_false (by omega)
                    clear htt hsl
                    by_cases hj0 : j = 0
                    · subst hj0
                      simp only [Nat.zero_mul, Nat.zero_add] at c1 c2
                      have i5 : 0 < bl.length := by omega
                      clear hp hgc
                      go_wp2
                      go_quiet (fail)
                      go_wp2
                      go_quiet (fail)
                      go_wp2
                      go_roundw
                      case rel => exact ⟨1, by omega, by go_num, by rw [← HTT.out], _, rfl⟩
                      case measure => simp [intOf]; omega
                    · have hprev : ∃ q, bl[j - 1]? = some q := ⟨_, List.getElem?_eq_getElem (by omega)⟩
                      obtain ⟨⟨s', e'⟩, hq⟩ := hprev
                      have hlt : e' < s := by
                        have := List.pairwise_iff_getElem.1 HBLK.out.2.1 (j - 1) j (by omega) hjl (by omega)
                        rw [List.getElem?_eq_getElem (by omega)] at hq hp
                        rw [Option.some.inj hq, Option.some.inj hp] at this
                        exact this
                      obtain ⟨c3, c4⟩ := hgc (j - 1) _ hq
                      simp only at c3 c4
                      obtain ⟨k, rfl⟩ : ∃ k, j = k + 1 := ⟨j - 1, by omega⟩
                      have d3 : decide (s ≤ e') = false := decide_eq_false (by omega)
                      simp only [Nat.add_sub_cancel] at c3 c4
                      have i4 : (k : Int) < (bl.length : Int) := by omega
                      have i5 : k < bl.length := by omega
                      have i6 : (k : Int) + 1 - 1 = (k : Int) := by omega
                      clear hp hq hgc hj0
                      go_wp2
                      go_quiet (fail)
                      clear i6
                      go_wp2
                      go_quiet (fail)
                      go_wp2
                      go_roundw
                      case rel => exact ⟨k + 1 + 1, by omega, by go_num, by rw [HTT.out], _, rfl⟩
                      case measure => simp [intOf]; omega
                  · have hje : j = bl.length := by omega
                    subst hje
                    rw [List.take_length] at htt
                    have hte : tt = o.length := by rw [htt]; exact HBLK.out.2.2
                    have hd : ((tt : Int) == (o.length : Int)) = true := by rw [hte]; simp
                    have hd' : (tt == o.length) = true := by rw [hte]; simp
                    have hll : (ints o).length = o.length := HLL.out
                    clear htt hte hsl
                    go_wp2_with fail
                    go_at_call 15
                    refine (alive_calls _).mono ?_
                    rintro e w15 ⟨rfl, hb15⟩
                    have hf : Below N w w15 := (below_drewN HB13.out m).trans (hb15.mono (by have h1 := HB13.out.size; have h2 : (w13.drewN m).heap.size = w13.heap.size := rfl; omega))
                    have HF := Lib.hid hf
                    clear hb15 hf
                    go_wp2
                    go_ret
                    exact ⟨rfl, by first | exact HF.out | (rw [hN]; exact HF.out)⟩
end Go.Proofs.Ytpbkkajgcdahcaa
