/- The loops' heads of a code. -/
import Derived.Test.YtpbkkajgcdahcaaBack
import Derived.Sort.LoopGhostIn
import Derived.Sort.QuietIn
import Derived.Maps.OwnIn
namespace Go.Proofs.Ytpbkkajgcdahcaa
open Go.RowKit Go.Maps
attribute [local go_sem] Oper.semAt_some

/-- The edges' ends that are loops' heads, as at_ is met. -/
def addHeads (met : List Int) (at_ : Int) (h : List Int) (l : List Int) : List Int := l.foldl (fun h x => if x ∈ met ∧ x ≠ at_ then h else x :: h) h

theorem addHeads_snoc (met : List Int) (at_ : Int) (h l : List Int) (y : Int) : addHeads met at_ h (l ++ [y]) = if y ∈ met ∧ y ≠ at_ then addHeads met at_ h l else y :: addHeads met at_ h l := by
  unfold addHeads; rw [List.foldl_append]; rfl

/-- What is met, and the heads, after at_. -/
def headStep (ins : List Ins) (s : List Int × List Int) (at_ : Int) : List Int × List Int := (at_ :: s.1, addHeads (at_ :: s.1) at_ s.2 (ints (nextN ins at_.toNat)))

def headsOf (ins : List Ins) (l : List Int) : List Int × List Int := l.foldl (headStep ins) ([], [])

/-- The instructions that are loops' heads, L having been left in order. -/
def loopsOf (ins : List Ins) (L : List Nat) : List Nat := (List.range ins.length).filter fun i => decide ((i : Int) ∈ (headsOf ins (ints L)).2)

theorem backward_calls (ao : Option Addr) (n cap : Nat) (w : World) : Calls Try.prog 56 #[.slice ao n cap] w fun e w' => e = .returned (.func (.func 78) #[] #[.pointer (some ⟨w.heap.size, 0, none⟩)]) ∧ w' = w.alloc (.cells #[.slice ao n cap] 27) := by
  go_enter Try.func56, Try.ntmps56
  go_wp2
  go_ret
  exact ⟨rfl, rfl⟩

theorem nextN_length (ins : List Ins) (x : Nat) : (nextN ins x).length ≤ 2 := by
  unfold nextN
  split
  · simp
  · rename_i i _
    have h : (nextOf i x).length ≤ 2 := by unfold nextOf; repeat' split
                                           all_goals simp
    simp only [List.length_map]
    exact Nat.le_trans (List.length_filter_le _ _) h

theorem bpairs_snd (xs : List Int) : (bpairs xs).map Prod.snd = xs.reverse := by
  apply List.ext_getElem?
  intro j
  rw [List.getElem?_map]
  by_cases h : j < xs.length
  · rw [bpairs_get xs j h, List.getElem?_reverse h]
    simp
    rw [List.getElem?_eq_getElem (by omega)]; simp
  · rw [List.getElem?_eq_none (by rw [bpairs_length]; omega), List.getElem?_eq_none (by simp; omega)]; rfl

/-- Between two rounds of Loops. -/
def LoopI (ins : List Ins) (N : Nat) (W4 : World) (pre : List (Nat × Int)) (C : Nat → Prop) (W : World) : Prop :=
  (∀ k, C k ↔ k = N + 1 ∨ k = N + 3) ∧ Ext (fun k => k = N + 1 ∨ k = N + 3) W4 W ∧ SetM W (N + 1) pre.length (headsOf ins (pre.map Prod.snd)).1 ∧ ∃ n2, n2 ≤ 2 * pre.length ∧ SetM W (N + 3) n2 (headsOf ins (pre.map Prod.snd)).2

/-- Between two edges of a round. -/
def EdgeI (ins : List Ins) (N x n2 : Nat) (met heads : List Int) (W6 : World) (c : Value) (wr : World) : Prop :=
  ∃ j : Nat, j ≤ (ints (nextN ins x)).length ∧ c = .int .i64 (j : Int) ∧ Ext (fun k => k = N + 3) W6 wr ∧ SetM wr (N + 3) (n2 + j) (addHeads met (x : Int) heads ((ints (nextN ins x)).take j))

theorem fold_two (p q : Tmp) (u v : Value) (t : Array Value) : ((#[p, q] : Array Tmp).zip #[u, v]).foldl (fun t (p, v) => t.setIfInBounds p v) t = (t.setIfInBounds p u).setIfInBounds q v := by simp

set_option maxRecDepth 100000 in
set_option maxHeartbeats 4000000 in
theorem loops_calls (c : Cod) (w : World) (L : List Nat) (hins : InsRow w w.heap.size c.insA c.ins) (hn : c.ins.length ≤ 90000) (hL : OrderL c.ins L) (hLn : L.length ≤ 90000) (hLlt : ∀ x ∈ L, x < c.ins.length) :
    Calls Try.prog 18 #[.agg c.cells] w (GivesI w (ints (loopsOf c.ins L))) := by
  have hmm := @run_makeMap Try.prog
  obtain ⟨nm, par, varsA, nvars, varsC, rp, rto, rcl, fromA, nfrom, fromC, insA, insC, ins⟩ := c
  simp only at hn hL hins hLlt
  simp only [Cod.cells]
  obtain ⟨W1, hW1⟩ : ∃ W1, ((((w.alloc (.cells #[.string nm, .int .i64 par, .slice varsA nvars varsC, .bool rp, .string rto, .int .i64 rcl, .slice fromA nfrom fromC, .slice insA ins.length insC] 30)).alloc (.map #[] 0)).alloc (.cells #[.map (some (w.heap.size + 1))] 84)).alloc (.map #[] 0)).alloc (.cells #[.map (some (w.heap.size + 3))] 84) = W1 := ⟨_, rfl⟩
  have hs1 : W1.heap.size = w.heap.size + 5 := by rw [← hW1]; simp
  have hx1 : Ext (fun _ => False) w W1 := by rw [← hW1]; exact (((((Ext.refl _ w).alloc _).alloc _).alloc _).alloc _).alloc _
  have HORD := Lib.hid (order_calls ⟨nm, par, varsA, nvars, varsC, rp, rto, rcl, fromA, nfrom, fromC, insA, insC, ins⟩ W1 L ((hins.ext hx1 (Nat.le_refl _) (fun _ _ _ h => h)).mono hx1.size) hn hL)
  have HW1 := Lib.hid hW1
  clear hW1
  (refine calls_of_wp_marks Try.func18 rfl ?_
   simp only [Try.ntmps18, List.size_toArray, List.length_cons, List.length_nil, Nat.reduceAdd, Nat.reduceSub, Array.replicate_succ,
     Array.replicate_zero, List.push_toArray, List.append_toArray, List.nil_append, List.cons_append])
  go_wp2_with fail
  obtain ⟨N, hN⟩ : ∃ N, w.heap.size = N := ⟨_, rfl⟩
  have hcode : W1.heap[N]? = some (.cells #[.string nm, .int .i64 par, .slice varsA nvars varsC, .bool rp, .string rto, .int .i64 rcl, .slice fromA nfrom fromC, .slice insA ins.length insC] 30 (0, 0)) := by
    rw [← HW1.out, ← hN, Below.heap_alloc _ _ _ (by simp; omega), Below.heap_alloc _ _ _ (by simp; omega), Below.heap_alloc _ _ _ (by simp; omega), Below.heap_alloc _ _ _ (by simp)]; exact alloc_at _ _
  have hm1 : SetM W1 (N + 1) 0 [] := by
    rw [← HW1.out, ← hN]
    have := SetM.made (w.alloc (.cells #[.string nm, .int .i64 par, .slice varsA nvars varsC, .bool rp, .string rto, .int .i64 rcl, .slice fromA nfrom fromC, .slice insA ins.length insC] 30))
    rw [World.size_alloc] at this
    exact this.heap (by rw [Below.heap_alloc _ _ _ (by simp +arith), Below.heap_alloc _ _ _ (by simp +arith), Below.heap_alloc _ _ _ (by simp +arith)])
  have hv1 : W1.heap[N + 2]? = some (.cells #[.map (some (N + 1))] 84 (0, 0)) := by
    rw [← HW1.out, ← hN, Below.heap_alloc _ _ _ (by simp +arith), Below.heap_alloc _ _ _ (by simp +arith)]
    have := alloc_at ((w.alloc (.cells #[.string nm, .int .i64 par, .slice varsA nvars varsC, .bool rp, .string rto, .int .i64 rcl, .slice fromA nfrom fromC, .slice insA ins.length insC] 30)).alloc (.map #[] 0)) (.cells #[.map (some (w.heap.size + 1))] 84)
    rwa [World.size_alloc, World.size_alloc] at this
  have hm3 : SetM W1 (N + 3) 0 [] := by
    rw [← HW1.out, ← hN]
    have := SetM.made (((w.alloc (.cells #[.string nm, .int .i64 par, .slice varsA nvars varsC, .bool rp, .string rto, .int .i64 rcl, .slice fromA nfrom fromC, .slice insA ins.length insC] 30)).alloc (.map #[] 0)).alloc (.cells #[.map (some (w.heap.size + 1))] 84))
    rw [World.size_alloc, World.size_alloc, World.size_alloc] at this
    exact this.heap (by rw [Below.heap_alloc _ _ _ (by simp)])
  have hv3 : W1.heap[N + 4]? = some (.cells #[.map (some (N + 3))] 84 (0, 0)) := by
    rw [← HW1.out, ← hN]
    have := alloc_at ((((w.alloc (.cells #[.string nm, .int .i64 par, .slice varsA nvars varsC, .bool rp, .string rto, .int .i64 rcl, .slice fromA nfrom fromC, .slice insA ins.length insC] 30)).alloc (.map #[] 0)).alloc (.cells #[.map (some (w.heap.size + 1))] 84)).alloc (.map #[] 0)) (.cells #[.map (some (w.heap.size + 3))] 84)
    rwa [World.size_alloc, World.size_alloc, World.size_alloc, World.size_alloc] at this
  have HINS := Lib.hid hins
  have HX1 := Lib.hid hx1
  have HS1 := Lib.hid hs1
  have HC1 := Lib.hid hcode
  have HM1 := Lib.hid hm1
  have HM3 := Lib.hid hm3
  have HV1 := Lib.hid hv1
  have HV3 := Lib.hid hv3
  clear hins hx1 hs1 hcode hm1 hm3 hv1 hv3 hL hmm
  go_at_call 16
  simp only [Nat.add_assoc, Nat.reduceAdd]
  rw [HW1.out]
  refine HORD.out.mono ?_
  rintro e W3 ⟨ao, cap, rfl, hown, hb3⟩
  rw [hN]
  have HOWN := Lib.hid hown
  have HB3 := Lib.hid hb3
  clear hown hb3 HORD HW1
  have HBK := Lib.hid (backward_calls ao (ints L.reverse).length cap W3)
  go_wp2_with fail
  go_at_call 56
  refine HBK.out.mono ?_
  rintro e W4 ⟨rfl, hW4⟩
  have HIT := Lib.hid (back1_iter W3.heap.size cap W1.heap.size ao (ints L.reverse) W4 (by rw [hW4]; exact alloc_at _ _) (by rw [hW4]; exact ownsRow_below HOWN.out ((Below.refl _ W3).alloc (Nat.le_refl _) _)) (by simp [ints]; omega))
  have hx4 : Ext (fun _ => False) W1 W4 := by rw [hW4]; exact (Ext.of_below_size HB3.out).alloc _
  have hs4 : W4.heap.size = W3.heap.size + 1 := by rw [hW4]; simp
  have hs3 : N + 5 ≤ W3.heap.size := by have := HB3.out.size; have := HS1.out; omega
  have HX4 := Lib.hid hx4
  have HS4 := Lib.hid hs4
  have HS3 := Lib.hid hs3
  clear hW4 hx4 hs4 hs3 HBK
  go_wp2_with fail
  have HREAD : Hid (∀ W, Ext (fun k => k = N + 1 ∨ k = N + 3 ∨ W4.heap.size ≤ k) W4 W → (W.cell? ⟨N, 0, none⟩ = some (.string nm) ∧ W.cell? ⟨N, 1, none⟩ = some (.int .i64 par) ∧ W.cell? ⟨N, 2, none⟩ = some (.slice varsA nvars varsC) ∧ W.cell? ⟨N, 3, none⟩ = some (.bool rp) ∧
      W.cell? ⟨N, 4, none⟩ = some (.string rto) ∧ W.cell? ⟨N, 5, none⟩ = some (.int .i64 rcl) ∧ W.cell? ⟨N, 6, none⟩ = some (.slice fromA nfrom fromC) ∧ W.cell? ⟨N, 7, none⟩ = some (.slice insA ins.length insC) ∧ W.cell? ⟨N + 2, 0, none⟩ = some (.map (some (N + 1))) ∧ W.cell? ⟨N + 4, 0, none⟩ = some (.map (some (N + 3)))) ∧
      InsRow W W.heap.size insA ins) := by
    intro W hx
    have hS4 := HS4.out
    have hS3 := HS3.out
    have hS1 := HS1.out
    have q : ∀ j, j < N + 5 → ¬ (j = N + 1 ∨ j = N + 3) → ¬ (j = N + 1 ∨ j = N + 3 ∨ W4.heap.size ≤ j) := by omega
    have hc := hx.heap (HX4.out.heap HC1.out (fun h => h)) (q N (by omega) (by omega))
    have hv2 := hx.heap (HX4.out.heap HV1.out (fun h => h)) (q (N + 2) (by omega) (by omega))
    have hv4 := hx.heap (HX4.out.heap HV3.out (fun h => h)) (q (N + 4) (by omega) (by omega))
    refine ⟨⟨?_, ?_, ?_, ?_, ?_, ?_, ?_, ?_, ?_, ?_⟩, ?_⟩
    all_goals first
      | (rw [cell_of_row _ _ _ _ _ _ hc]; rfl)
      | (rw [cell_of_row _ _ _ _ _ _ hv2]; rfl)
      | (rw [cell_of_row _ _ _ _ _ _ hv4]; rfl)
      | skip
    have h4 : InsRow W4 w.heap.size insA ins := (HINS.out.ext HX1.out (Nat.le_refl _) (fun _ _ _ h => h)).ext HX4.out HX1.out.size (fun _ _ _ h => h)
    have hsz := HX1.out.size
    have hsz4 := HX4.out.size
    refine (h4.ext hx (by omega) (fun a hne ha => ?_)).mono (by have := hx.size; omega)
    obtain ⟨b, off, e, hb, _⟩ := HINS.out hne
    rw [ha] at e
    obtain rfl := Option.some.inj e
    show ¬ (b = N + 1 ∨ b = N + 3 ∨ W4.heap.size ≤ b); omega
  refine wp_rangeFunc_sep (gf := 78) rfl Try.func78 (by rfl) rfl HIT.out ?hbel ?hRd (fun _ => rfl)
    (LoopI ins N W4) (fun _ _ _ _ => False) ?hI ?hIC (fun _ _ _ _ _ h _ => h.elim) (fun k => k = N + 1 ∨ k = N + 3) ?h0 ?hround ?hdone (fun _ _ _ _ _ _ _ _ h _ => h.elim)
  case hbel => exact Below.refl _ _
  case hRd =>
    rintro k (rfl | ⟨a, ha, rfl⟩)
    · have := HS4.out; omega
    · have := (HOWN.out.lt a.block (by rw [ha]; rfl)).2
      have := HS4.out; omega
  case hI =>
    rintro pre C W W' ⟨h1, h2, h3, n2, h4, h5⟩ hx
    have e1 : ¬ (W4.heap.size ≤ N + 1 ∧ ¬ C (N + 1)) := fun h => h.2 ((h1 _).2 (.inl rfl))
    have e3 : ¬ (W4.heap.size ≤ N + 3 ∧ ¬ C (N + 3)) := fun h => h.2 ((h1 _).2 (.inr rfl))
    exact ⟨h1, h2.trans hx (fun j hj => .inr hj.1), h3.ext hx e1, n2, h4, h5.ext hx e3⟩
  case hIC =>
    rintro pre C W ⟨h1, h2, h3, n2, h4, h5⟩ k hk
    have hS3 := HS3.out
    have hS1 := HS1.out
    refine ⟨?_, ?_⟩
    · rcases (h1 k).1 hk with rfl | rfl
      · exact h3.lt
      · exact h5.lt
    · rintro (rfl | ⟨a, ha, rfl⟩)
      · rcases (h1 _).1 hk with h | h <;> omega
      · have := (HOWN.out.lt a.block (by rw [ha]; rfl)).1
        rcases (h1 _).1 hk with h | h <;> omega
  case h0 => exact ⟨fun _ => Iff.rfl, Ext.refl _ _, HM1.out.ext HX4.out (fun h => h), 0, Nat.zero_le _, HM3.out.ext HX4.out (fun h => h)⟩
  case hround =>
    rintro l pre ⟨i, v⟩ C W hl hI hpre
    rw [show backEnc (i, v) = #[.int .i64 (i : Int), .int .i64 v] from rfl, fold_two]
    simp only [List.setIfInBounds_toArray, List.set_cons_zero, List.set_cons_succ]
    obtain ⟨x, hx, hv⟩ : ∃ x : Nat, x ∈ L ∧ v = (x : Int) := by
      have h := (hpre.map Prod.snd).subset (show v ∈ _ by simp)
      rw [bpairs_snd] at h
      simp [ints] at h
      obtain ⟨x, h1, h2⟩ := h
      exact ⟨x, h1, h2.symm⟩
    subst hv
    have hxl := hLlt x hx
    have hpl : pre.length < 90000 := by
      have := hpre.length_le
      rw [bpairs_length] at this
      simp [ints] at this; omega
    have HI := Lib.hid hI
    clear hI hpre hx
    obtain ⟨F, hF⟩ : ∃ F, F = Fence.wide.inRound l := ⟨_, rfl⟩
    have HCI : Hid (∀ (n f : Nat) (args : Array Value) (w : World) (R : Ending → World → Prop), Calls Try.prog f args w R → CallsIn F n Try.prog f args w R) := by
      intro n f args w R h; rw [hF]; exact CallsIn.inRound l (callsIn_wide.2 h)
    have hFr : F.round = some l := by rw [hF]; rfl
    have hFf : ∀ f, F.fn f := fun f => by rw [hF]; trivial
    have hFd : F.depth = none := by rw [hF]; rfl
    rw [← hF]
    clear hF
    gi_wp2
    refine ⟨C, fun k hk => .inl hk, HI.out, Ext.refl _ _, ?_⟩
    intro W2 hI2 hl2
    obtain ⟨hC, hx2, hmet, n2, hn2, hheads⟩ := hI2
    have hrd := HREAD.out W2 (hx2.mono fun k hk => by rcases hk with h | h <;> simp [h])
    obtain ⟨⟨k0, k1, k2, k3, k4, k5, k6, k7, kv2, kv4⟩, _⟩ := hrd
    obtain ⟨W5, hup, hmet5, hx5⟩ := hmet.add (x := (x : Int)) (by omega) (by have := hpl; omega)
    have hrd5 := HREAD.out W5 ((hx2.mono fun k hk => by rcases hk with h | h <;> simp [h]).trans hx5 (fun k hk => by simp [hk]))
    obtain ⟨⟨p0, p1, p2, p3, p4, p5, p6, p7, pv2, pv4⟩, hins5⟩ := hrd5
    have HNX := Lib.hid (flow_nextN ⟨nm, par, varsA, nvars, varsC, rp, rto, rcl, fromA, nfrom, fromC, insA, insC, ins⟩ x W5 hins5 hxl hn)
    have HM5 := Lib.hid hmet5
    have HH5 := Lib.hid (hheads.ext hx5 (by omega))
    have HX2 := Lib.hid hx2
    have HX5 := Lib.hid hx5
    have HCC := Lib.hid hC
    clear hmet5 hx5 hx2 hC hins5 hmet hheads
    gi_wp2_with (gi_at_call 57; refine (HCI.out _ _ _ _ _ HNX.out).mono ?_; rintro e W6 ⟨ao6, cap6, rfl, hown6, hb6⟩)
    have HO6 := Lib.hid hown6
    have HB6 := Lib.hid hb6
    have HN6 := Lib.hid (nextN_length ins x)
    clear hown6 hb6 HNX hup p0 p1 p2 p3 p4 p5 p6 p7 pv2 pv4 k0 k1 k2 k3 k4 k5 k6 k7 kv2 kv4
    gi_wp2
    obtain ⟨met, hmet⟩ : ∃ met, met = (x : Int) :: (headsOf ins (pre.map Prod.snd)).1 := ⟨_, rfl⟩
    obtain ⟨hds, hhds⟩ : ∃ hds, hds = (headsOf ins (pre.map Prod.snd)).2 := ⟨_, rfl⟩
    rw [← hmet] at HM5
    rw [← hhds] at HH5
    have HMET := Lib.hid hmet
    have HHDS := Lib.hid hhds
    clear hmet hhds
    gi_loopw [23] (fun c wr => EdgeI ins N x n2 met hds W6 c wr) (fun c _ => (ints (nextN ins x)).length - (intOf c).toNat)
    case atStart => exact ⟨0, Nat.zero_le _, rfl, Ext.refl _ _, by simpa [addHeads] using HH5.out.ext (Ext.of_below_size (M := fun _ => False) HB6.out) (fun h => h)⟩
    case round =>
      obtain ⟨j, hj, rfl, hxr, hset⟩ := hrel
      have hsz5 : N + 3 < W5.heap.size := HH5.out.lt
      have hx56 : Ext (fun _ => False) W5 W6 := Ext.of_below_size HB6.out
      have hmr : SetM wr (N + 1) (pre.length + 1) met := (HM5.out.ext hx56 (fun h => h)).ext hxr (by omega)
      have hxall : Ext (fun k => k = N + 1 ∨ k = N + 3) W4 wr := ((HX2.out.trans HX5.out (fun k hk => .inl (.inl hk))).trans hx56 (fun _ h => h.elim)).trans hxr (fun k hk => .inl (.inr hk))
      obtain ⟨⟨_, _, _, _, _, _, _, _, kv2, kv4⟩, _⟩ := HREAD.out wr (hxall.mono fun k hk => by rcases hk with h | h <;> simp [h])
      by_cases hjl : j < (ints (nextN ins x)).length
      · obtain ⟨g6, rfl, hg1, hg2, hgc⟩ := HO6.out.shape (by omega)
        obtain ⟨y, hy⟩ : ∃ y, (ints (nextN ins x))[j]? = some y := ⟨_, List.getElem?_eq_getElem hjl⟩
        have hcy : wr.cell? ⟨g6, j, none⟩ = some (.int .i64 y) := by rw [hxr.cell (a := ⟨g6, j, none⟩) hg2 (by show ¬ g6 = N + 3; omega)]; exact hgc j y hy
        have hyb : -9223372036854775808 ≤ y ∧ y ≤ 9223372036854775807 := by
          obtain ⟨y', h1, rfl⟩ := ints_get hy
          have := nextN_lt (List.mem_of_getElem? h1); omega
        have hlk := hmr.look hyb
        have hj2 : j < 2 := by have h1 := HN6.out; have h2 : (ints (nextN ins x)).length = (nextN ins x).length := by simp [ints]
                               omega
        have hsn : (ints (nextN ins x)).take (j + 1) = (ints (nextN ins x)).take j ++ [y] := by rw [List.take_add_one, hy]; rfl
        have hjI : (j : Int) < ((ints (nextN ins x)).length : Int) := by omega
        have HSN := Lib.hid hsn
        have HXR := Lib.hid hxr
        have HSET := Lib.hid hset
        obtain ⟨W7, hup7, hset7, hx7⟩ := hset.add hyb (by have := HN6.out; simp [ints] at hj; omega)
        have HS7 := Lib.hid hset7
        have HX7 := Lib.hid hx7
        obtain ⟨nx, hnx⟩ : ∃ nx, (ints (nextN ins x)).length = nx := ⟨_, rfl⟩
        clear hset hxr hset7 hx7 hy hsn hgc hmr hxall hx56
        by_cases hc1 : y ∈ met
        · by_cases hc2 : y = (x : Int)
          · have hd : decide (y ∈ met) = true := decide_eq_true hc1
            rw [hd] at hlk
            have HE : Hid (addHeads met (x : Int) hds ((ints (nextN ins x)).take (j + 1)) = y :: addHeads met (x : Int) hds ((ints (nextN ins x)).take j)) := by
              unfold Hid; rw [HSN.out, addHeads_snoc, if_neg (fun h => h.2 hc2)]
            have hyx : (y == (x : Int)) = true := by simp [hc2]
            clear hc1 hc2 hd
            gi_wp2
            have hq : EdgeI ins N x n2 met hds W6 (.int .i64 ((j : Int) + 1)) W7 := ⟨j + 1, by omega, by simp, HXR.out.trans HX7.out (fun _ h => .inl h), by rw [HE.out]; exact HS7.out⟩
            exact ⟨hq, by simp [intOf]; omega⟩
          · have hd : decide (y ∈ met) = true := decide_eq_true hc1
            rw [hd] at hlk
            have HE : Hid (addHeads met (x : Int) hds ((ints (nextN ins x)).take (j + 1)) = addHeads met (x : Int) hds ((ints (nextN ins x)).take j)) := by
              unfold Hid; rw [HSN.out, addHeads_snoc, if_pos ⟨hc1, hc2⟩]
            have hyx : (y == (x : Int)) = false := by simpa using hc2
            clear hc1 hc2 hd hup7 HS7 HX7
            gi_wp2
            have hq : EdgeI ins N x n2 met hds W6 (.int .i64 ((j : Int) + 1)) wr := ⟨j + 1, by omega, by simp, HXR.out, by rw [HE.out]; exact HSET.out.mono (by omega)⟩
            exact ⟨hq, by simp [intOf]; omega⟩
        · have hd : decide (y ∈ met) = false := decide_eq_false hc1
          rw [hd] at hlk
          have HE : Hid (addHeads met (x : Int) hds ((ints (nextN ins x)).take (j + 1)) = y :: addHeads met (x : Int) hds ((ints (nextN ins x)).take j)) := by
            unfold Hid; rw [HSN.out, addHeads_snoc, if_neg (fun h => hc1 h.1)]
          clear hc1 hd
          gi_wp2
          have hq : EdgeI ins N x n2 met hds W6 (.int .i64 ((j : Int) + 1)) W7 := ⟨j + 1, by omega, by simp, HXR.out.trans HX7.out (fun _ h => .inl h), by rw [HE.out]; exact HS7.out⟩
          exact ⟨hq, by simp [intOf]; omega⟩
      · have hje : (ints (nextN ins x)).take j = ints (nextN ins x) := List.take_of_length_le (by omega)
        rw [hje] at hset
        have HR : Hid (sepPost (LoopI ins N W4) (fun _ _ _ _ => False) C W2 (pre ++ [(i, (x : Int))]) .normal { tmps := #[], defers := [] } wr) := by
          have hl6 : Ext (fun _ => False) W5 W6 := hx56
          have hcx : Ext C W2 wr := ((HX5.out.mono (fun k hk => (HCC.out k).2 (.inl hk))).trans hl6 (fun _ h => h.elim)).trans hxr (fun k hk => .inl ((HCC.out k).2 (.inr hk)))
          refine ⟨C, fun k hk => .inl hk, ⟨HCC.out, hxall, ?_, n2 + j, ?_, ?_⟩, hcx⟩
          · rw [List.map_append, headsOf, List.foldl_append]
            simpa [headStep, headsOf, HMET.out] using hmr
          · have h1 := HN6.out
            have h2 : (ints (nextN ins x)).length = (nextN ins x).length := by simp [ints]
            simp; omega
          · rw [List.map_append, headsOf, List.foldl_append]
            simpa [headStep, headsOf, HMET.out, HHDS.out] using hset
        clear hset hxr hmr hxall hx56
        gi_wp2
        exact HR.out
  case hdone =>
    rintro D C W hD hCD ⟨hC, hxW, hmet, n2, hn2, hheads⟩ hdd
    rw [bpairs_snd] at hheads
    have hrev : (ints L.reverse).reverse = ints L := by simp [ints]
    rw [hrev] at hheads
    obtain ⟨⟨k0, k1, k2, k3, k4, k5, k6, k7, kv2, kv4⟩, _⟩ := HREAD.out W (hxW.mono fun k hk => by rcases hk with h | h <;> simp [h])
    have HD := Lib.hid hdd
    have HH := Lib.hid hheads
    have HXW := Lib.hid hxW
    have HDW : Hid (D < W.heap.size) := (Array.getElem?_eq_some_iff.1 hdd).1
    obtain ⟨i0, hi, hz0, hz1, hz2⟩ := info_parts info_int
    obtain ⟨hs, hhs⟩ : ∃ hs, hs = (headsOf ins (ints L)).2 := ⟨_, rfl⟩
    rw [← hhs] at HH
    have HHS := Lib.hid hhs
    clear hhs hdd hheads hxW hmet hC k0 k1 k2 k3 k4 k5 k6 kv2
    go_wp2
    go_loopw [2, 42] (fun v c wr => ∃ j : Nat, j ≤ ins.length ∧ c = .int .i64 (j : Int) ∧ OwnI wr W.heap.size v (ints ((List.range j).filter fun i => decide ((i : Int) ∈ hs))) ∧ Below W.heap.size W wr) (fun _ c _ => ins.length - (intOf c).toNat)
    case atStart => exact ⟨0, Nat.zero_le _, rfl, OwnI.nil _ _, Below.refl _ _⟩
    case round =>
      obtain ⟨j, hj, rfl, hv, hb⟩ := hrel
      have hk4 : wr.cell? ⟨N + 4, 0, none⟩ = some (.map (some (N + 3))) := by
        rw [hb.cell (p := ⟨N + 4, 0, none⟩) (by have := HXW.out.size; have := HS4.out; have := HS3.out; show N + 4 < _; omega)]; exact kv4
      by_cases hjl : j < ins.length
      · have hlk := (HH.out.ext (Ext.of_below_size (M := fun _ => False) hb) (fun h => h)).look (x := (j : Int)) (by omega)
        have hjI : (j : Int) < (ins.length : Int) := by omega
        have HV := Lib.hid hv
        have HB := Lib.hid hb
        have hsz := hb.size
        have hrn : (List.range (j + 1)).filter (fun i : Nat => decide ((i : Int) ∈ hs)) = (List.range j).filter (fun i : Nat => decide ((i : Int) ∈ hs)) ++ (if (j : Int) ∈ hs then [j] else []) := by
          rw [List.range_succ, List.filter_append]
          by_cases h : (j : Int) ∈ hs <;> simp [h]
        have HRN := Lib.hid hrn
        have hfl : (ints ((List.range j).filter fun i : Nat => decide ((i : Int) ∈ hs))).length ≤ j := by
          simp only [ints, List.length_map]
          exact Nat.le_trans (List.length_filter_le _ _) (by simp)
        clear hv hb hrn
        by_cases hc : (j : Int) ∈ hs
        · have hd : decide ((j : Int) ∈ hs) = true := decide_eq_true hc
          rw [hd] at hlk
          have HE : Hid (ints ((List.range (j + 1)).filter (fun i : Nat => decide ((i : Int) ∈ hs))) = ints ((List.range j).filter (fun i : Nat => decide ((i : Int) ∈ hs))) ++ [(j : Int)]) := by
            unfold Hid; rw [HRN.out, if_pos hc]; simp [ints]
          clear hc hd
          generalize hfs : ints ((List.range j).filter fun i : Nat => decide ((i : Int) ∈ hs)) = fs at HV HE hfl
          clear hfs
          go_wp2_with (at_builtin; refine wpList_append_own _ rfl _ _ 27 rfl W.heap.size 3 i0 (.int .i64 0) 1 8 Try.underlying27 hi hz0 hz1 hz2 rfl (by decide) _ _ _ rfl (ownsRow_below HV.out ((Below.refl wr.heap.size wr).alloc (Nat.le_refl _) _)) ⟨wr.heap.size, 0, none⟩ 1 1 [.int .i64 (j : Int)] rfl rfl (cell_one_new _ _ _) (by simp [Value.oneCell']) ?c3 ?c4 ?c5 ?_)
          case c3 => unfold maxLen; omega
          case c4 => omega
          case c5 => rw [World.size_alloc]; omega
          intro v' w2 hown2 hgrow2 _
          have HN : Hid (OwnI w2 W.heap.size v' (ints ((List.range (j + 1)).filter fun i : Nat => decide ((i : Int) ∈ hs))) ∧ Below W.heap.size W w2) :=
            ⟨by rw [HE.out]; exact OwnI.app hown2, below_grow HB.out hsz HV.out hgrow2⟩
          clear hown2 hgrow2 hlk
          go_wp2
          go_roundw
          case rel => exact ⟨j + 1, by omega, by go_num, HN.out.1, HN.out.2⟩
          case measure => simp [intOf]; omega
        · have hd : decide ((j : Int) ∈ hs) = false := decide_eq_false hc
          rw [hd] at hlk
          have HE : Hid (ints ((List.range (j + 1)).filter (fun i : Nat => decide ((i : Int) ∈ hs))) = ints ((List.range j).filter (fun i : Nat => decide ((i : Int) ∈ hs)))) := by
            unfold Hid; rw [HRN.out, if_neg hc]; simp
          clear hc hd
          go_wp2
          go_roundw
          case rel => exact ⟨j + 1, by omega, by go_num, by rw [HE.out]; exact HV.out, HB.out⟩
          case measure => simp [intOf]; omega
      · have hje : j = ins.length := by omega
        subst hje
        have HV := Lib.hid hv
        have HB := Lib.hid hb
        have hs : ∃ ao cap, u2 = .slice ao (ints (loopsOf ins L)).length cap := by
          have := hv.isSlice
          rw [HHS.out] at this; exact this
        obtain ⟨ao', cap', rfl⟩ := hs
        clear hv hb
        go_wp2
        have hdw := HDW.out
        have hS4 := HS4.out
        have hS3 := HS3.out
        refine ⟨[D], rfl, by simp, fun b hb => ?_, .slice ao' (ints (loopsOf ins L)).length cap', fun w' hx => ⟨results_tmp (t := 2) rfl _ _ _, ao', cap', rfl, ?_, ?_⟩⟩
        · simp at hb; subst hb
          exact (HB.out.block _ hdw).trans HD.out
        · have hv := HV.out
          rw [HHS.out] at hv
          refine ⟨hv.1, ?_⟩
          rcases hv.2 with h' | ⟨g, cap', cur, e1, e2, e3, e4⟩
          · exact .inl h'
          · exact .inr ⟨g, cap', cur, e1, by omega, hx.heap e3 (by simp; omega), e4⟩
        · have h1 : Ext (fun k => w.heap.size ≤ k) w W :=
            ((HX1.out.mono (M' := fun k => w.heap.size ≤ k) (fun _ h => h.elim)).trans HX4.out (fun _ h => h.elim)).trans HXW.out (fun k hk => .inl (by omega))
          exact ((h1.trans (Ext.of_below HB.out) (fun k hk => .inr (by have := h1.size; omega))).trans hx (fun k hk => .inl (by simp at hk; omega))).below (Nat.le_refl _) (fun _ h => h)
end Go.Proofs.Ytpbkkajgcdahcaa
