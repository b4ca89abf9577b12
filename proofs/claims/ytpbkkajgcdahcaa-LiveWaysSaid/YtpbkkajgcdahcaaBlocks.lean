/- The blocks of a code. -/
import Derived.Test.YtpbkkajgcdahcaaLoops
import Derived.Deep.WholeRow
namespace Go.Proofs.Ytpbkkajgcdahcaa
open Go.RowKit Go.Maps

/-- Does an operation leap? -/
def leapOp (op : Int) : Bool := decide (op = 16 ∨ op = 17 ∨ op = 18)

theorem leaps_calls (op : Int) (w : World) : Calls Try.prog 59 #[.int .i64 op] w fun e w' => e = .returned (.bool (leapOp op)) ∧ w' = w := by
  unfold leapOp
  by_cases h1 : op = 16
  · subst h1
    go_enter Try.func59, Try.ntmps59
    go_wp2
    go_ret
    exact ⟨rfl, rfl⟩
  · have d1 : (op == 16) = false := by simpa using h1
    by_cases h2 : op = 17
    · subst h2
      go_enter Try.func59, Try.ntmps59
      go_wp2
      go_ret
      exact ⟨rfl, rfl⟩
    · have d2 : (op == 17) = false := by simpa using h2
      have e : decide (op = 16 ∨ op = 17 ∨ op = 18) = (op == 18) := by simp [h1, h2]; rfl
      rw [e]
      clear h1 h2 e
      go_enter Try.func59, Try.ntmps59
      go_wp2
      go_ret
      exact ⟨rfl, rfl⟩

/-- Where blocks begin: what is told of the first instructions. -/
def beginStep (ins : List Ins) (M : List Nat) (s : List Int) (at_ : Nat) : List Int :=
  match ins[at_]? with
  | none => s
  | some i => if at_ ∈ M ∧ leapOp i.op = true then (ints (nextN ins at_)).reverse ++ ((at_ : Int) + 1) :: s else s

def beginsOf (ins : List Ins) (M : List Nat) : List Int := (List.range ins.length).foldl (beginStep ins M) []

/-- The last block made longer. -/
def setEnd (l : List (Nat × Nat)) (b : Nat) : List (Nat × Nat) := l.dropLast ++ [((l.getLast?.getD (0, 0)).1, b)]

theorem setEnd_snoc (l : List (Nat × Nat)) (p : Nat × Nat) (b : Nat) : setEnd (l ++ [p]) b = l ++ [(p.1, b)] := by simp [setEnd]

def blockStep (begins : List Int) (M : List Nat) (s : List (Nat × Nat) × Int) (at_ : Nat) : List (Nat × Nat) × Int :=
  if at_ ∈ M then (if (at_ : Int) ∈ begins ∨ s.2 ≠ (at_ : Int) - 1 then (s.1 ++ [(at_, at_)], (at_ : Int)) else (setEnd s.1 at_, (at_ : Int))) else s

def blocksOf (ins : List Ins) (M : List Nat) : List (Nat × Nat) := ((List.range ins.length).foldl (blockStep (beginsOf ins M) M) ([], -2)).1

def pairCells (l : List (Nat × Nat)) : List Value := (l.map fun p => [Value.int .i64 (p.1 : Int), Value.int .i64 (p.2 : Int)]).flatten

theorem pairCells_snoc (l : List (Nat × Nat)) (p : Nat × Nat) : pairCells (l ++ [p]) = pairCells l ++ [Value.int .i64 (p.1 : Int), Value.int .i64 (p.2 : Int)] := by simp [pairCells]

theorem pairCells_length (l : List (Nat × Nat)) : (pairCells l).length = l.length * 2 := by
  induction l with
  | nil => rfl
  | cons p l ih => simp [pairCells] at ih ⊢; omega

theorem info_pair : (Try.prog.info? 39).map (fun i => (i.zero, i.size, i.bytes)) = some (some (.agg #[.int .i64 0, .int .i64 0]), 2, 16) := by kernel_rfl

/-- The last pair's second number is set. -/
theorem ownsRow_setEnd {w : World} {base g cap : Nat} {l : List (Nat × Nat)} {p : Nat × Nat} {b : Nat} (h : w.ownsRow base 39 2 (.slice (some ⟨g, 0, none⟩) (l ++ [p]).length cap) (l ++ [p]).length (pairCells (l ++ [p]))) :
    (w.setCell ⟨g, l.length * 2 + 1, none⟩ (.int .i64 (b : Int))).ownsRow base 39 2 (.slice (some ⟨g, 0, none⟩) (l ++ [(p.1, b)]).length cap) (l ++ [(p.1, b)]).length (pairCells (l ++ [(p.1, b)])) := by
  rcases h.2 with ⟨h1, _⟩ | ⟨g', cap', cur, e1, e2, e3, e4, e5, e6, e7⟩
  · simp at h1
  · simp only [Value.slice.injEq, Option.some.injEq, Addr.mk.injEq] at e1
    obtain ⟨⟨rfl, _⟩, _, rfl⟩ := e1
    refine ⟨by rw [pairCells_length], .inr ⟨g, cap, _, by simp, e2, heap_setCell_same _ _ _ _ _ _ e3, by simpa using e4, e5, by simpa using e6, ?_⟩⟩
    rw [pairCells_snoc] at e7 ⊢
    have hl := pairCells_length l
    have hlen : (l ++ [p]).length = l.length + 1 := by simp
    have hlen' : (l ++ [(p.1, b)]).length = l.length + 1 := by simp
    rw [hlen] at e7 e4
    rw [hlen']
    have hc : (l.length + 1) * 2 ≤ cur.toList.length := by simp; omega
    apply List.ext_getElem?
    intro i
    rw [List.getElem?_take, Array.toList_setIfInBounds, List.getElem?_set]
    have q : ∀ i, i < (l.length + 1) * 2 → cur.toList[i]? = (pairCells l ++ [Value.int .i64 (p.1 : Int), Value.int .i64 (p.2 : Int)])[i]? := by
      intro i hi
      rw [← e7, List.getElem?_take, if_pos hi]
    by_cases hi : i < (l.length + 1) * 2
    · rw [if_pos hi]
      by_cases hi2 : l.length * 2 + 1 = i
      · subst hi2
        rw [if_pos rfl, if_pos (by omega), List.getElem?_append_right (by omega), hl]
        simp
      · rw [if_neg hi2, q i hi]
        by_cases hi3 : i < l.length * 2
        · rw [List.getElem?_append_left (by omega), List.getElem?_append_left (by omega)]
        · have : i = l.length * 2 := by omega
          subst this
          rw [List.getElem?_append_right (by omega), List.getElem?_append_right (by omega), hl]
          simp
    · rw [if_neg hi]
      symm
      apply List.getElem?_eq_none
      simp [hl]; omega

/-- Between two rounds of the last loop. -/
def BlkI (begins : List Int) (M : List Nat) (n : Nat) (W' : World) (v l c : Value) (wr : World) : Prop :=
  ∃ (j : Nat) (out : List (Nat × Nat)) (last : Int), j ≤ n ∧ c = .int .i64 (j : Int) ∧ (List.range j).foldl (blockStep begins M) ([], -2) = (out, last) ∧ l = .int .i64 last ∧ wr.ownsRow W'.heap.size 39 2 v out.length (pairCells out) ∧ Below W'.heap.size W' wr ∧
    (last ≠ -2 → out ≠ []) ∧ -2 ≤ last ∧ last ≤ n ∧ out.length ≤ j

/-- A row of pairs of its own. -/
def GivesP (w : World) (l : List (Nat × Nat)) (e : Ending) (w' : World) : Prop :=
  ∃ ao cap, e = .returned (.slice ao l.length cap) ∧ w'.ownsRow w.heap.size 39 2 (.slice ao l.length cap) l.length (pairCells l) ∧ Below w.heap.size w w'

set_option maxRecDepth 100000 in
set_option maxHeartbeats 4000000 in
theorem blocks_calls (c : Cod) (w : World) (M : List Nat) (hone : ∀ x ∈ c.ins, x.argsV.oneCell' = true ∧ x.modeV.oneCell' = true) (hins : InsRow w w.heap.size c.insA c.ins) (hn : c.ins.length ≤ 90000) (hM : FromL c.ins 0 M) (hMl : M.length ≤ 90000) :
    Calls Try.prog 20 #[.agg c.cells] w (GivesP w (blocksOf c.ins M)) := by
  have hmm := @run_makeMap Try.prog
  obtain ⟨nm, par, varsA, nvars, varsC, rp, rto, rcl, fromA, nfrom, fromC, insA, insC, ins⟩ := c
  simp only at hn hM hins hone
  simp only [Cod.cells]
  obtain ⟨W1, hW1⟩ : ∃ W1, w.alloc (.cells #[.string nm, .int .i64 par, .slice varsA nvars varsC, .bool rp, .string rto, .int .i64 rcl, .slice fromA nfrom fromC, .slice insA ins.length insC] 30) = W1 := ⟨_, rfl⟩
  have hx1 : Ext (fun _ => False) w W1 := by rw [← hW1]; exact (Ext.refl _ w).alloc _
  have HRE := Lib.hid (reach_calls ⟨nm, par, varsA, nvars, varsC, rp, rto, rcl, fromA, nfrom, fromC, insA, insC, ins⟩ W1 M ((hins.ext hx1 (Nat.le_refl _) (fun _ _ _ h => h)).mono hx1.size) hn hM hMl)
  have HW1 := Lib.hid hW1
  have HX1 := Lib.hid hx1
  have HINS := Lib.hid hins
  clear hW1 hx1 hins
  go_enter Try.func20, Try.ntmps20
  go_wp2_with fail
  go_at_call 17
  rw [HW1.out]
  refine HRE.out.mono ?_
  rintro e W2 ⟨b, rfl, hb1, hb2, hb3⟩
  have hx2 : Ext (fun _ => False) W1 W2 := Ext.of_below_size hb3
  have hcode : W2.heap[w.heap.size]? = some (.cells #[.string nm, .int .i64 par, .slice varsA nvars varsC, .bool rp, .string rto, .int .i64 rcl, .slice fromA nfrom fromC, .slice insA ins.length insC] 30 (0, 0)) := by
    refine hx2.heap ?_ (fun h => h)
    rw [← HW1.out]; exact alloc_at _ _
  have hk7 : W2.cell? ⟨w.heap.size, 7, none⟩ = some (.slice insA ins.length insC) := by rw [cell_of_row _ _ _ _ _ _ hcode]; rfl
  have HB2 := Lib.hid hb2
  have HX2 := Lib.hid hx2
  have HCO := Lib.hid hcode
  have HB1 := Lib.hid hb1
  obtain ⟨B, hB⟩ : ∃ B, W2.heap.size = B := ⟨_, rfl⟩
  obtain ⟨W3, hW3⟩ : ∃ W3, W2.alloc (.map #[] 0) = W3 := ⟨_, rfl⟩
  have hx3 : Ext (fun _ => False) W2 W3 := by rw [← hW3]; exact (Ext.refl _ _).alloc _
  have hk7' : (W2.alloc (.map #[] 0)).cell? ⟨w.heap.size, 7, none⟩ = some (.slice insA ins.length insC) := by rw [hW3, cell_of_row _ _ _ _ _ _ (hx3.heap hcode (fun h => h))]; rfl
  have hset0 : SetM W3 B 0 [] := by rw [← hW3, ← hB]; exact SetM.made W2
  have hins3 : InsRow W3 w.heap.size insA ins := ((HINS.out.ext HX1.out (Nat.le_refl _) (fun _ _ _ h => h)).ext hx2 HX1.out.size (fun _ _ _ h => h)).ext hx3 (by have := HX1.out.size; have := hx2.size; omega) (fun _ _ _ h => h)
  have hcode3 := hx3.heap hcode (fun h => h)
  have hseen3 := hx3.heap hb2 (fun h => h)
  have hs3 : W3.heap.size = B + 1 := by rw [← hW3, ← hB]; simp
  have hbB : b < B := by rw [← hB]; exact (Array.getElem?_eq_some_iff.1 hb2).1
  have hwB : w.heap.size < B := by rw [← hB]; exact (Array.getElem?_eq_some_iff.1 hcode).1
  have HX3 := Lib.hid hx3
  have HX2 := Lib.hid hx2
  have HC3 := Lib.hid hcode3
  have HI3 := Lib.hid hins3
  have HSE := Lib.hid hseen3
  have HS0 := Lib.hid hset0
  have HB1 := Lib.hid hb1
  have HS3 := Lib.hid hs3
  have HW3 := Lib.hid hW3
  have HMX := Lib.hid (FromL.lt hM)
  clear hb1 hb2 hb3 hx2 hcode HRE hk7 hx3 hset0 hins3 hcode3 hseen3 hs3 hW3 hM
  go_wp2
  try rw [HW3.out]
  try rw [hB]
  go_loopw [17] (fun c wr => ∃ (j nb : Nat), j ≤ ins.length ∧ c = .int .i64 (j : Int) ∧ nb ≤ 3 * j ∧ SetM wr B nb ((List.range j).foldl (beginStep ins M) []) ∧ Ext (fun k => k = B) W3 wr) (fun c _ => ins.length - (intOf c).toNat)
  case atStart => exact ⟨0, 0, Nat.zero_le _, rfl, Nat.zero_le _, HS0.out, Ext.refl _ _⟩
  case round =>
    obtain ⟨j, nb, hj, rfl, hnb, hset, hxr⟩ := hrel
    by_cases hjl : j < ins.length
    · obtain ⟨xi, hxi⟩ : ∃ xi, ins[j]? = some xi := ⟨_, List.getElem?_eq_getElem hjl⟩
      obtain ⟨b0, off, rfl, hb0, hcells⟩ := HI3.out (by intro h; rw [h] at hjl; simp at hjl)
      have hcells' : ∀ k u, xi.cells.toList[k]? = some u → wr.cell? ⟨b0, off + j * 13 + k, none⟩ = some u := fun k u hu => by
        rw [hxr.cell (a := ⟨b0, off + j * 13 + k, none⟩) (by have := HS3.out; show b0 < _; omega) (by show ¬ b0 = B; omega)]; exact hcells j xi hxi k u hu
      have hseen : wr.cell? ⟨b, j, none⟩ = some (.bool (decide (j ∈ M))) := by
        rw [cell_of_row _ _ _ _ _ _ (hxr.heap HSE.out (by omega))]; exact seenCells_get M hjl
      have hjI : (j : Int) < (ins.length : Int) := by omega
      have h1 := hone xi (List.mem_of_getElem? hxi)
      have hst : ∀ c : Array Value, c.size = 13 → (storeCells ⟨wr.heap.size, 0, none⟩ xi.cells.toList).run Try.prog (wr.alloc (.cells c 61)) = .ok () (wr.alloc (.cells xi.cells 61)) := fun c hc =>
        run_storeCells_new (P := Try.prog) wr 61 c xi.cells (by show _ = some 13; kernel_rfl) hc (by rw [← Array.all_toList]; simp only [Ins.cells, List.all_cons, List.all_nil, h1.1, h1.2]; rfl)
      have hop : (wr.alloc (.cells xi.cells 61)).cell? ⟨wr.heap.size, 0, none⟩ = some (.int .i64 xi.op) := by rw [World.cell?_alloc_new]; rfl
      obtain ⟨W5, hW5⟩ : ∃ W5, wr.alloc (.cells xi.cells 61) = W5 := ⟨_, rfl⟩
      have hx5 : Ext (fun _ => False) wr W5 := by rw [← hW5]; exact (Ext.refl _ _).alloc _
      rw [hW5] at hop
      have hst' : ∀ c : Array Value, c.size = 13 → (storeCells ⟨wr.heap.size, 0, none⟩ xi.cells.toList).run Try.prog (wr.alloc (.cells c 61)) = .ok () W5 := fun c hc => by rw [← hW5]; exact hst c hc
      have hseen5 : W5.cell? ⟨b, j, none⟩ = some (.bool (decide (j ∈ M))) := by rw [hx5.cell (a := ⟨b, j, none⟩) (by have := hxr.size; have := HS3.out; show b < _; omega) (fun h => h)]; exact hseen
      have hcode5 := hx5.heap (hxr.heap HC3.out (by omega)) (fun h => h)
      have HC5 := Lib.hid hcode5
      have HX5 := Lib.hid hx5
      have HSET5 := Lib.hid (hset.ext hx5 (fun h => h))
      clear hst hW5 hcode5 hx5 h1
      have HCE := Lib.hid hcells'
      have HXI := Lib.hid hxi
      have HXR := Lib.hid hxr
      have HSET := Lib.hid hset
      clear hcells hcells' hxi hxr hset
      have HCA : Hid (∀ k u, xi.cells.toList[k]? = some u → wr.cell? ((⟨b0, off + j * 13, none⟩ : Addr).add k) = some u) := fun k u hu => by rw [Addr.add_lit]; exact HCE.out k u hu
      by_cases hjM : j ∈ M
      · have hd : decide (j ∈ M) = true := decide_eq_true hjM
        rw [hd] at hseen5
        by_cases hlp : leapOp xi.op = true
        · obtain ⟨W6, hup6, hset6, hx6⟩ := HSET5.out.add (x := ((j : Int) + 1)) (by omega) (by omega)
          have hsz5 := HX5.out.size
          have hszr := HXR.out.size
          have hs3 := HS3.out
          have hcode6 := hx6.heap HC5.out (by omega)
          have hk : ∀ q v, ((⟨nm, par, varsA, nvars, varsC, rp, rto, rcl, fromA, nfrom, fromC, some ⟨b0, off, none⟩, insC, ins⟩ : Cod).cells)[q]? = some v → W6.cell? ⟨w.heap.size, q, none⟩ = some v := fun q v h => by rw [cell_of_row _ _ _ _ _ _ hcode6]; exact h
          have k0 : W6.cell? ⟨w.heap.size, 0, none⟩ = some (.string nm) := hk 0 _ rfl
          have k1 : W6.cell? ⟨w.heap.size, 1, none⟩ = some (.int .i64 par) := hk 1 _ rfl
          have k2 : W6.cell? ⟨w.heap.size, 2, none⟩ = some (.slice varsA nvars varsC) := hk 2 _ rfl
          have k3 : W6.cell? ⟨w.heap.size, 3, none⟩ = some (.bool rp) := hk 3 _ rfl
          have k4 : W6.cell? ⟨w.heap.size, 4, none⟩ = some (.string rto) := hk 4 _ rfl
          have k5 : W6.cell? ⟨w.heap.size, 5, none⟩ = some (.int .i64 rcl) := hk 5 _ rfl
          have k6 : W6.cell? ⟨w.heap.size, 6, none⟩ = some (.slice fromA nfrom fromC) := hk 6 _ rfl
          have k7 : W6.cell? ⟨w.heap.size, 7, none⟩ = some (.slice (some ⟨b0, off, none⟩) ins.length insC) := hk 7 _ rfl
          have hx36 : Ext (fun k => k = B) W3 W6 := (HXR.out.trans HX5.out (fun _ h => h.elim)).trans hx6 (fun _ h => .inl h)
          have HNX := Lib.hid (flow_nextN ⟨nm, par, varsA, nvars, varsC, rp, rto, rcl, fromA, nfrom, fromC, some ⟨b0, off, none⟩, insC, ins⟩ j W6 ((HI3.out.ext hx36 (by omega) (fun a _ ha h => by simp only [Option.some.injEq] at ha; subst ha; simp only at h; omega)).mono (by have := hx36.size; omega)) hjl hn)
          have HLP := Lib.hid hlp
          have HX36 := Lib.hid hx36
          have HS6 := Lib.hid hset6
          have HN2 := Lib.hid (nextN_length ins j)
          have HJM := Lib.hid hjM
          clear hk hcode6 hset6 hx6 hx36 hd hjM
          go_wp2_with (first | (refine wpList_load_at rfl 61 _ rfl ⟨b0, off + j * 13, none⟩ rfl xi.cells _ HCA.out Try.underlying61 rfl (by kernel_rfl) ?_) | (go_at_call 59; refine (leaps_calls _ _).mono ?_; rintro e w' ⟨rfl, rfl⟩) | (go_at_call 57; refine HNX.out.mono ?_; rintro e W7 ⟨ao7, cap7, rfl, hown7, hb7⟩))
          obtain ⟨S0, hS0⟩ : ∃ S0, S0 = (List.range j).foldl (beginStep ins M) [] := ⟨_, rfl⟩
          rw [← hS0] at HS6
          have HE : Hid ((List.range (j + 1)).foldl (beginStep ins M) [] = (ints (nextN ins j)).reverse ++ ((j : Int) + 1) :: S0) := by
            unfold Hid; rw [List.range_succ, List.foldl_append, ← hS0]; simp only [List.foldl_cons, List.foldl_nil, beginStep, HXI.out]; rw [if_pos ⟨HJM.out, HLP.out⟩]
          have HO7 := Lib.hid hown7
          have HB7 := Lib.hid hb7
          have hx67 : Ext (fun _ => False) W6 W7 := Ext.of_below_size hb7
          have HS7 := Lib.hid (HS6.out.ext hx67 (fun h => h))
          have HX37 : Hid (Ext (fun k => k = B) W3 W7) := HX36.out.trans hx67 (fun _ h => h.elim)
          have hlen2 : (ints (nextN ins j)).length = (nextN ins j).length := by simp [ints]
          have HL2 : Hid ((ints (nextN ins j)).length ≤ 2) := by unfold Hid; rw [hlen2]; exact HN2.out
          clear hown7 hb7 hx67 hlen2 hS0 hup6 hop hst' hseen5 k0 k1 k2 k3 k4 k5 k6 k7 hlp
          go_loopw [40] (fun c wr2 => ∃ i : Nat, i ≤ (ints (nextN ins j)).length ∧ c = .int .i64 (i : Int) ∧ SetM wr2 B (nb + 1 + i) (((ints (nextN ins j)).take i).reverse ++ ((j : Int) + 1) :: S0) ∧ Ext (fun k => k = B) W7 wr2) (fun c _ => (ints (nextN ins j)).length - (intOf c).toNat)
          case atStart => exact ⟨0, Nat.zero_le _, rfl, by simpa using HS7.out, Ext.refl _ _⟩
          case round =>
            rename_i wr0 _
            obtain ⟨i, hi, rfl, hsi, hxi7⟩ := hrel
            by_cases hil : i < (ints (nextN ins j)).length
            · obtain ⟨g7, rfl, hg1, hg2, hgc⟩ := HO7.out.shape (by omega)
              obtain ⟨y, hy⟩ : ∃ y, (ints (nextN ins j))[i]? = some y := ⟨_, List.getElem?_eq_getElem hil⟩
              have hBW6 : B < W6.heap.size := HS6.out.lt
              have hcy : wr.cell? ⟨g7, i, none⟩ = some (.int .i64 y) := by rw [hxi7.cell (a := ⟨g7, i, none⟩) hg2 (by show ¬ g7 = B; omega)]; exact hgc i y hy
              have hyb : -9223372036854775808 ≤ y ∧ y ≤ 9223372036854775807 := by
                obtain ⟨y', h1, rfl⟩ := ints_get hy
                have := nextN_lt (List.mem_of_getElem? h1); omega
              have hi2 : i < 2 := by have := HL2.out; omega
              have HSN : Hid (((ints (nextN ins j)).take (i + 1)).reverse = y :: ((ints (nextN ins j)).take i).reverse) := by
                unfold Hid; rw [List.take_add_one, hy]; simp
              obtain ⟨W8, hup8, hset8, hx8⟩ := hsi.add hyb (by omega)
              have HS8 := Lib.hid hset8
              have HX8 := Lib.hid (hxi7.trans hx8 (fun _ h => .inl h))
              have hiI : (i : Int) < ((ints (nextN ins j)).length : Int) := by omega
              clear hsi hxi7 hset8 hx8 hy hgc
              go_wp2
              go_roundw
              case rel => exact ⟨i + 1, by omega, by go_num, by rw [HSN.out]; exact HS8.out, HX8.out⟩
              case measure => simp [intOf]; omega
            · have hie : (ints (nextN ins j)).take i = ints (nextN ins j) := List.take_of_length_le (by omega)
              rw [hie] at hsi
              have HSI := Lib.hid hsi
              have HXI7 := Lib.hid hxi7
              have hi2 : i ≤ 2 := by have := HL2.out; omega
              clear hsi hxi7 hie
              go_wp2
              go_roundw
              case rel => exact ⟨j + 1, nb + 1 + i, by omega, by go_num, by omega, by rw [HE.out]; exact HSI.out, HX37.out.trans HXI7.out (fun _ h => .inl h)⟩
              case measure => simp [intOf]; omega
        · have hlp' : leapOp xi.op = false := by simpa using hlp
          have HE : Hid ((List.range (j + 1)).foldl (beginStep ins M) [] = (List.range j).foldl (beginStep ins M) []) := by
            unfold Hid; rw [List.range_succ, List.foldl_append]; simp [beginStep, HXI.out, hlp']
          clear hd hjM hlp
          go_wp2_with (first | (refine wpList_load_at rfl 61 _ rfl ⟨b0, off + j * 13, none⟩ rfl xi.cells _ HCA.out Try.underlying61 rfl (by kernel_rfl) ?_) | (go_at_call 59; refine (leaps_calls _ _).mono ?_; rintro e w' ⟨rfl, rfl⟩))
          go_roundw
          case rel => exact ⟨j + 1, nb, by omega, by go_num, by omega, by rw [HE.out]; exact HSET5.out, HXR.out.trans HX5.out (fun _ h => h.elim)⟩
          case measure => simp [intOf]; omega
      · have hd : decide (j ∈ M) = false := decide_eq_false hjM
        rw [hd] at hseen5
        have HE : Hid ((List.range (j + 1)).foldl (beginStep ins M) [] = (List.range j).foldl (beginStep ins M) []) := by
          unfold Hid; rw [List.range_succ, List.foldl_append]; simp [beginStep, HXI.out, hjM]
        clear hd hjM
        go_wp2_with (refine wpList_load_at rfl 61 _ rfl ⟨b0, off + j * 13, none⟩ rfl xi.cells _ HCA.out Try.underlying61 rfl (by kernel_rfl) ?_)
        go_roundw
        case rel => exact ⟨j + 1, nb, by omega, by go_num, by omega, by rw [HE.out]; exact HSET5.out, HXR.out.trans HX5.out (fun _ h => h.elim)⟩
        case measure => simp [intOf]; omega
    · have hje : j = ins.length := by omega
      subst hje
      have HSET := Lib.hid hset
      have HXR := Lib.hid hxr
      have hk7r : wr.cell? ⟨w.heap.size, 7, none⟩ = some (.slice insA ins.length insC) := by rw [cell_of_row _ _ _ _ _ _ (hxr.heap HC3.out (by omega))]; rfl
      obtain ⟨i0, hi, hz0, hz1, hz2⟩ := info_parts info_pair
      clear hset hxr
      go_wp2
      obtain ⟨Wl, hWl⟩ : ∃ Wl, Wl = wr := ⟨_, rfl⟩
      subst hWl
      have hblt : b < Wl.heap.size := by have := HXR.out.size; have := HS3.out; omega
      obtain ⟨bg, hbg⟩ : ∃ bg, bg = beginsOf ins M := ⟨_, rfl⟩
      have HBG := Lib.hid hbg
      have hset : SetM Wl B nb bg := by rw [hbg]; exact HSET.out
      have HSB := Lib.hid hset
      have hbo : w.heap.size ≤ Wl.heap.size := by have := HXR.out.size; have := HS3.out; omega
      clear hset hbg
      go_loopw [2, 9, 51] (fun v l c wr2 => BlkI bg M ins.length Wl v l c wr2) (fun _ _ c _ => ins.length - (intOf c).toNat)
      case atStart => exact ⟨0, [], -2, Nat.zero_le _, rfl, rfl, rfl, World.ownsRow_nil _ _ _ _, Below.refl _ _, fun h => absurd rfl h, by omega, by omega, Nat.le_refl _⟩
      case round =>
        obtain ⟨j, out, last, hj, rfl, hfo, rfl, hown, hbl, hln, hl1, hl2, hol⟩ := hrel
        by_cases hjl : j < ins.length
        · have hseen : wr.cell? ⟨b, j, none⟩ = some (.bool (decide (j ∈ M))) := by
            rw [hbl.cell (p := ⟨b, j, none⟩) hblt, cell_of_row _ _ _ _ _ _ (HXR.out.heap HSE.out (by omega))]; exact seenCells_get M hjl
          have hlk := (HSB.out.ext (Ext.of_below_size (M := fun _ => False) hbl) (fun h => h)).look (x := (j : Int)) (by omega)
          have hjI : (j : Int) < (ins.length : Int) := by omega
          have hfs : (List.range (j + 1)).foldl (blockStep bg M) ([], -2) = blockStep bg M (out, last) j := by rw [List.range_succ, List.foldl_append, hfo]; rfl
          have HFS := Lib.hid hfs
          have HOW := Lib.hid hown
          have HBL := Lib.hid hbl
          have HLN := Lib.hid hln
          have hsz := hbl.size
          clear hfs hown hbl hln hfo
          by_cases hjM : j ∈ M
          · have hd : decide (j ∈ M) = true := decide_eq_true hjM
            rw [hd] at hseen
            by_cases hc : (j : Int) ∈ bg ∨ last ≠ (j : Int) - 1
            · have HN : Hid (blockStep bg M (out, last) j = (out ++ [(j, j)], (j : Int))) := by unfold Hid blockStep; rw [if_pos hjM, if_pos hc]
              have hdd : decide ((j : Int) ∈ bg) = true ∨ (decide ((j : Int) ∈ bg) = false ∧ (last == (j : Int) - 1) = false) := by
                by_cases h : (j : Int) ∈ bg
                · exact .inl (decide_eq_true h)
                · rcases hc with h' | h'
                  · exact absurd h' h
                  · exact .inr ⟨decide_eq_false h, by simpa using h'⟩
              clear hc hd hjM
              rcases hdd with hdd | ⟨hdd, hne⟩
              · rw [hdd] at hlk
                clear hdd
                go_wp2_with (at_builtin; refine wpList_append_own _ rfl _ _ 37 rfl Wl.heap.size 39 i0 (.agg #[.int .i64 0, .int .i64 0]) 2 16 Try.underlying37 hi hz0 hz1 hz2 rfl (by decide) _ _ _ rfl (ownsRow_below HOW.out ((Below.refl wr.heap.size wr).alloc (Nat.le_refl _) _)) ⟨wr.heap.size, 0, none⟩ 1 1 [.int .i64 (j : Int), .int .i64 (j : Int)] rfl rfl (cells_new _ _ _) (by simp [Value.oneCell']) ?c3 ?c4 ?c5 ?_)
                case c3 => unfold maxLen; omega
                case c4 => omega
                case c5 => rw [World.size_alloc]; omega
                intro v' w2 hown2 hgrow2 _
                have HNN : Hid (w2.ownsRow Wl.heap.size 39 2 v' (out ++ [(j, j)]).length (pairCells (out ++ [(j, j)])) ∧ Below Wl.heap.size Wl w2) :=
                  ⟨by rw [pairCells_snoc, List.length_append]; exact hown2, below_grow HBL.out hsz HOW.out hgrow2⟩
                clear hown2 hgrow2 hlk
                go_wp2
                go_roundw
                case rel => exact ⟨j + 1, out ++ [(j, j)], (j : Int), by omega, by go_num, by rw [HFS.out, HN.out], rfl, HNN.out.1, HNN.out.2, fun _ => by simp, by omega, by omega, by simp; omega⟩
                case measure => simp [intOf]; omega
              · rw [hdd] at hlk
                clear hdd
                go_wp2_with (at_builtin; refine wpList_append_own _ rfl _ _ 37 rfl Wl.heap.size 39 i0 (.agg #[.int .i64 0, .int .i64 0]) 2 16 Try.underlying37 hi hz0 hz1 hz2 rfl (by decide) _ _ _ rfl (ownsRow_below HOW.out ((Below.refl wr.heap.size wr).alloc (Nat.le_refl _) _)) ⟨wr.heap.size, 0, none⟩ 1 1 [.int .i64 (j : Int), .int .i64 (j : Int)] rfl rfl (cells_new _ _ _) (by simp [Value.oneCell']) ?c3 ?c4 ?c5 ?_)
                case c3 => unfold maxLen; omega
                case c4 => omega
                case c5 => rw [World.size_alloc]; omega
                intro v' w2 hown2 hgrow2 _
                have HNN : Hid (w2.ownsRow Wl.heap.size 39 2 v' (out ++ [(j, j)]).length (pairCells (out ++ [(j, j)])) ∧ Below Wl.heap.size Wl w2) :=
                  ⟨by rw [pairCells_snoc, List.length_append]; exact hown2, below_grow HBL.out hsz HOW.out hgrow2⟩
                clear hown2 hgrow2 hlk
                go_wp2
                go_roundw
                case rel => exact ⟨j + 1, out ++ [(j, j)], (j : Int), by omega, by go_num, by rw [HFS.out, HN.out], rfl, HNN.out.1, HNN.out.2, fun _ => by simp, by omega, by omega, by simp; omega⟩
                case measure => simp [intOf]; omega
            · have hjb : decide ((j : Int) ∈ bg) = false := decide_eq_false (fun h => hc (.inl h))
              have hla : last = (j : Int) - 1 := by
                by_cases h : last = (j : Int) - 1
                · exact h
                · exact absurd (.inr h) hc
              have HN : Hid (blockStep bg M (out, last) j = (setEnd out j, (j : Int))) := by unfold Hid blockStep; rw [if_pos hjM, if_neg hc]
              have hne := HLN.out (by omega)
              obtain ⟨o', pq, rfl⟩ : ∃ o' pq, out = o' ++ [pq] := ⟨out.dropLast, out.getLast hne, (List.dropLast_concat_getLast hne).symm⟩
              rw [setEnd_snoc] at HN
              have hll : (o' ++ [pq]).length = o'.length + 1 := by simp
              obtain ⟨g, cap, hu2⟩ : ∃ g cap, u2 = .slice (some ⟨g, 0, none⟩) (o'.length + 1) cap := by
                rcases HOW.out.2 with ⟨_, h⟩ | ⟨g, cap, _, h, _⟩
                · simp at h
                · exact ⟨g, cap, by rw [h, hll]⟩
              subst hu2
              have hgc : wr.cell? ⟨g, o'.length * 2 + 1, none⟩ = some (.int .i64 (pq.2 : Int)) ∧ wr.frozen? ⟨g, o'.length * 2 + 1, none⟩ = false ∧ Wl.heap.size ≤ g := by
                rcases HOW.out.2 with ⟨_, h⟩ | ⟨g', cap', cur, e1, e2, e3, e4, e5, e6, e7⟩
                · simp at h
                · simp only [Value.slice.injEq, Option.some.injEq, Addr.mk.injEq] at e1
                  obtain ⟨⟨rfl, _⟩, _, rfl⟩ := e1
                  refine ⟨?_, frozen_of_row _ _ _ _ _ e3, e2⟩
                  rw [cell_of_row _ _ _ _ _ _ e3]
                  have q : (cur.toList.take ((o' ++ [pq]).length * 2))[o'.length * 2 + 1]? = some (.int .i64 (pq.2 : Int)) := by
                    rw [e7, pairCells_snoc, List.getElem?_append_right (by rw [pairCells_length]; omega), pairCells_length]; simp
                  rw [List.getElem?_take, if_pos (by omega)] at q
                  simpa using q
              obtain ⟨hgc1, hgf, hgb⟩ := hgc
              rw [hll] at HOW
              have HNN : Hid ((wr.setCell ⟨g, o'.length * 2 + 1, none⟩ (.int .i64 (j : Int))).ownsRow Wl.heap.size 39 2 (.slice (some ⟨g, 0, none⟩) (o'.length + 1) cap) (o' ++ [(pq.1, j)]).length (pairCells (o' ++ [(pq.1, j)])) ∧ Below Wl.heap.size Wl (wr.setCell ⟨g, o'.length * 2 + 1, none⟩ (.int .i64 (j : Int)))) := by
                have h1 := HOW.out
                rw [← hll] at h1
                have h2 := ownsRow_setEnd (b := j) h1
                have hl2 : (o' ++ [(pq.1, j)]).length = o'.length + 1 := by simp
                refine ⟨?_, HBL.out.setCell (p := ⟨g, o'.length * 2 + 1, none⟩) hgb _⟩
                rw [hl2] at h2 ⊢; exact h2
              rw [hjb] at hlk
              have hlb : (last == (j : Int) - 1) = true := by simp [hla]
              have HLA := Lib.hid hla
              clear hc hd hjM hjb hla
              go_wp2
              have hol' : o'.length + 1 ≤ j := by rw [← hll]; exact hol
              exact ⟨⟨j + 1, o' ++ [(pq.1, j)], (j : Int), by omega, by simp, by rw [HFS.out, HN.out], rfl, HNN.out.1, HNN.out.2, fun _ => by simp, by omega, by omega, by simp; omega⟩, by simp [intOf]; omega⟩
          · have hd : decide (j ∈ M) = false := decide_eq_false hjM
            rw [hd] at hseen
            have HN : Hid (blockStep bg M (out, last) j = (out, last)) := by unfold Hid blockStep; rw [if_neg hjM]
            clear hd hjM
            go_wp2
            go_roundw
            case rel => exact ⟨j + 1, out, last, by omega, by go_num, by rw [HFS.out, HN.out], rfl, HOW.out, HBL.out, HLN.out, hl1, hl2, by omega⟩
            case measure => simp [intOf]; omega
        · have hje : j = ins.length := by omega
          subst hje
          have HO := Lib.hid hown
          have HBL := Lib.hid hbl
          have hbo' : blocksOf ins M = out := by unfold blocksOf; rw [← HBG.out, hfo]
          have hs : ∃ ao cap, u2 = .slice ao out.length cap := by
            rcases hown.2 with ⟨h, h'⟩ | ⟨g, cap, _, h, _⟩
            · exact ⟨none, 0, by rw [h, h']⟩
            · exact ⟨_, cap, h⟩
          obtain ⟨ao, cap, rfl⟩ := hs
          clear hown hbl hfo
          go_wp2
          go_ret
          rw [hbo']
          have h1 : Ext (fun k => w.heap.size ≤ k) w Wl := (((HX1.out.mono (M' := fun k => w.heap.size ≤ k) (fun _ h => h.elim)).trans HX2.out (fun _ h => h.elim)).trans HX3.out (fun _ h => h.elim)).trans HXR.out (fun k hk => .inl (by omega))
          refine ⟨ao, cap, rfl, ⟨HO.out.1, ?_⟩, (h1.trans (Ext.of_below HBL.out) (fun k hk => .inl (by omega))).below (Nat.le_refl _) (fun _ h => h)⟩
          rcases HO.out.2 with h | ⟨g, cap', cur, e1, e2, e3⟩
          · exact .inl h
          · exact .inr ⟨g, cap', cur, e1, by omega, e3⟩
end Go.Proofs.Ytpbkkajgcdahcaa
