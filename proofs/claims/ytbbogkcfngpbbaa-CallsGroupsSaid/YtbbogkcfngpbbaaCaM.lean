/- A graph of calls in memory: four tables of rows, groups, numbers of groups. -/
import Derived.Test.YtbbogkcfngpbbaaRw
import Derived.Test.YtbbogkcfngpbbaaCaP
namespace Go.Proofs.Ytbbogkcfngpbbaa
open Go.RowKit

def numsC (n : Nat) (f : Nat → Int) : Array Value := ((List.range n).map fun i => Value.int .i64 (f i)).toArray
theorem numsC_size (n : Nat) (f : Nat → Int) : (numsC n f).size = n := by simp [numsC]
theorem numsC_get {n i : Nat} (f : Nat → Int) (h : i < n) : (numsC n f)[i]? = some (.int .i64 (f i)) := by simp [numsC, h]
theorem numsC_set (n i : Nat) (v : Int) (f : Nat → Int) : (numsC n f).setIfInBounds i (.int .i64 v) = numsC n (fun x => if x = i then v else f x) := by
  apply Array.ext_getElem?
  intro j
  rw [Array.getElem?_setIfInBounds]
  by_cases hj : j < n
  · rw [numsC_get _ hj, numsC_get _ hj]
    by_cases h : i = j
    · subst h; simp [numsC_size, hj]
    · rw [if_neg h, if_neg (fun e => h e.symm)]
  · have e : ∀ g, (numsC n g)[j]? = none := fun g => Array.getElem?_eq_none (by rw [numsC_size]; omega)
    rw [e, e]
    by_cases h : i = j
    · subst h; rw [if_pos rfl, if_neg (by rw [numsC_size]; omega)]
    · rw [if_neg h]

def encN (x : Nat) : List Value := [.int .i64 (x : Int)]
def encP (p : Nat × Nat) : List Value := [.int .i64 (p.1 : Int), .int .i64 (p.2 : Int)]
def encB (b : Bool) : List Value := [.bool b]

theorem flat_one {α β : Type} (f : α → β) : ∀ l : List α, (l.flatMap fun x => [f x]) = l.map f
  | [] => rfl
  | x :: r => by rw [List.flatMap_cons, flat_one f r]; rfl
theorem encN_flat (l : List Nat) : l.flatMap encN = (nums l).map (Value.int .i64) := by
  unfold nums; rw [List.map_map]; exact flat_one _ l
theorem encN_len (l : List Nat) : (l.flatMap encN).length = l.length := by rw [encN_flat]; simp [nums]
theorem encB_flat (l : List Bool) : l.flatMap encB = l.map Value.bool := flat_one _ l
theorem encP_len : ∀ l : List (Nat × Nat), (l.flatMap encP).length = l.length * 2
  | [] => rfl
  | p :: r => by rw [List.flatMap_cons, List.length_append, encP_len r]; simp [encP]; omega

section
variable {α : Type} {enc : α → List Value} {size : Nat} {st e : TypeId} {w w' w5 : World} {R n : Nat} {F : Nat → Prop} {rows : Nat → List α}

/-- A row that was turned in place. -/
theorem TabOf.turn (h : TabOf enc size st e w R n F rows) {i : Nat} {v : Value} {ys : List α} (hv : w.cell? ⟨R, i, none⟩ = some v) (hx : Ext (fun k => v.ownBlock = some k) w w5)
    (hnew : w5.ownsRow 0 e size v ys.length (ys.flatMap enc)) : TabOf enc size st e w5 R n F (fun j => if j = i then ys else rows j) := by
  obtain ⟨⟨vals, h1, h2, h3, h4, h5⟩, hR, hl⟩ := h
  have hvi : vals[i]? = some v := by rw [cell_of_row _ _ _ _ _ _ h2] at hv; exact hv
  have hRn : ¬ v.ownBlock = some R := fun e => (h4 i v R hvi e).2 rfl
  refine ⟨⟨vals, h1, hx.heap h2 hRn, fun j u hu => ?_, h4, h5⟩, hR, fun k hk => Nat.lt_of_lt_of_le (hl k hk) hx.size⟩
  by_cases ej : j = i
  · subst ej
    have : u = v := Option.some.inj (hu.symm.trans hvi)
    subst this
    show World.ownsRow _ _ _ _ _ (if j = j then ys else rows j).length ((if j = j then ys else rows j).flatMap enc)
    rw [if_pos rfl]; exact hnew
  · show World.ownsRow _ _ _ _ _ (if j = i then ys else rows j).length ((if j = i then ys else rows j).flatMap enc)
    rw [if_neg ej]
    exact ownsRow_ext (h3 j u hu) hx fun k hk hk' => h5 j i k u v ej hu hvi hk hk'

theorem TabOf.rows_congr {rows' : Nat → List α} (h : TabOf enc size st e w R n F rows) (hr : ∀ i, i < n → rows i = rows' i) : TabOf enc size st e w R n F rows' := by
  obtain ⟨⟨vals, h1, h2, h3, h4, h5⟩, hR, hl⟩ := h
  refine ⟨⟨vals, h1, h2, fun i v hv => ?_, h4, h5⟩, hR, hl⟩
  rw [← hr i (by have := (Array.getElem?_eq_some_iff.1 hv).1; omega)]
  exact h3 i v hv

/-- A row's things. -/
theorem ownsRow_get {base m cap : Nat} {ao : Option Addr} {xs : List Value} (h : w.ownsRow base e size (.slice ao m cap) m xs) {j : Nat} {u : Value} (hu : xs[j]? = some u) : ∃ g, ao = some ⟨g, 0, none⟩ ∧ g < w.heap.size ∧ w.cell? ⟨g, j, none⟩ = some u := by
  rcases h.2 with ⟨h1, h2⟩ | ⟨g, cap', cur, h1, h2, h3, h4, h5, h6, h7⟩
  · have := h.1
    subst h2
    have := (List.getElem?_eq_some_iff.1 hu).1
    omega
  · have hs : ao = some ⟨g, 0, none⟩ := by simp only [Value.slice.injEq] at h1; exact h1.1
    refine ⟨g, hs, (Array.getElem?_eq_some_iff.1 h3).1, ?_⟩
    rw [cell_of_row _ _ _ _ _ _ h3]
    rw [← h7, List.getElem?_take] at hu
    split at hu
    · simpa using hu
    · simp at hu

theorem ownsRow_slice {base m sz : Nat} {v : Value} {xs : List Value} (h : w.ownsRow base e sz v m xs) : ∃ ao cap, v = .slice ao m cap := by
  rcases h.2 with ⟨h1, h2⟩ | ⟨g, cap, cur, h1, _⟩
  · exact ⟨none, 0, by rw [h2]; exact h1⟩
  · exact ⟨_, _, h1⟩
end

/-- A graph: its six cells, four tables; who owns a block: tag. -/
structure GM (w : World) (N G n DN UP ST RE GP : Nat) (gv : Value) (tag : Nat → Nat) (d u : Nat → List Nat) (s : Nat → List (Nat × Nat)) (r : Nat → List Bool) (gi : Nat → Int) : Prop where
  g : w.heap[G]? = some (.cells #[.slice (some ⟨DN, 0, none⟩) n n, .slice (some ⟨UP, 0, none⟩) n n, .slice (some ⟨ST, 0, none⟩) n n, .slice (some ⟨RE, 0, none⟩) n n, gv, .slice (some ⟨GP, 0, none⟩) n n] 116 (0, 0))
  D : TabOf encN 1 22 3 w DN n (fun k => tag k = 1) d
  U : TabOf encN 1 22 3 w UP n (fun k => tag k = 2) u
  S : TabOf encP 2 76 117 w ST n (fun k => tag k = 3) s
  R : TabOf encB 1 79 4 w RE n (fun k => tag k = 4) r
  gp : w.heap[GP]? = some (.cells (numsC n gi) 3 (0, 0))
  tg : tag G = 0
  tp : tag GP = 0
  ne : G ≠ GP
  lowG : N ≤ G
  lowP : N ≤ GP
  low : ∀ k, tag k ≠ 0 → N ≤ k
  le : ∀ k, tag k ≤ 4

section
variable {w w' w5 : World} {N G n DN UP ST RE GP : Nat} {gv gv' : Value} {tag : Nat → Nat} {d u : Nat → List Nat} {s : Nat → List (Nat × Nat)} {r : Nat → List Bool} {gi : Nat → Int}

theorem GM.ext {M : Nat → Prop} (h : GM w N G n DN UP ST RE GP gv tag d u s r gi) (hx : Ext M w w') (hM : ∀ k, tag k ≠ 0 → ¬ M k) (hG : ¬ M G) (hP : ¬ M GP) : GM w' N G n DN UP ST RE GP gv tag d u s r gi :=
  ⟨hx.heap h.g hG, h.D.ext hx (fun k hk => hM k (by omega)), h.U.ext hx (fun k hk => hM k (by omega)), h.S.ext hx (fun k hk => hM k (by omega)), h.R.ext hx (fun k hk => hM k (by omega)), hx.heap h.gp hP, h.tg, h.tp, h.ne, h.lowG, h.lowP, h.low, h.le⟩

theorem GM.below (h : GM w N G n DN UP ST RE GP gv tag d u s r gi) (hb : Below w.heap.size w w') : GM w' N G n DN UP ST RE GP gv tag d u s r gi :=
  h.ext (M := fun _ => False) (Ext.of_below_size hb) (fun _ _ h => h) (fun h => h) (fun h => h)

theorem GM.ltG (h : GM w N G n DN UP ST RE GP gv tag d u s r gi) : G < w.heap.size := (Array.getElem?_eq_some_iff.1 h.g).1
theorem GM.ltP (h : GM w N G n DN UP ST RE GP gv tag d u s r gi) : GP < w.heap.size := (Array.getElem?_eq_some_iff.1 h.gp).1

theorem GM.cells (h : GM w N G n DN UP ST RE GP gv tag d u s r gi) : w.cell? ⟨G, 0, none⟩ = some (.slice (some ⟨DN, 0, none⟩) n n) ∧ w.cell? ⟨G, 1, none⟩ = some (.slice (some ⟨UP, 0, none⟩) n n) ∧ w.cell? ⟨G, 2, none⟩ = some (.slice (some ⟨ST, 0, none⟩) n n) ∧
    w.cell? ⟨G, 3, none⟩ = some (.slice (some ⟨RE, 0, none⟩) n n) ∧ w.cell? ⟨G, 4, none⟩ = some gv ∧ w.cell? ⟨G, 5, none⟩ = some (.slice (some ⟨GP, 0, none⟩) n n) := by
  refine ⟨?_, ?_, ?_, ?_, ?_, ?_⟩ <;> (rw [cell_of_row _ _ _ _ _ _ h.g]; rfl)

theorem GM.congr {d' u' : Nat → List Nat} {s' : Nat → List (Nat × Nat)} {r' : Nat → List Bool} (h : GM w N G n DN UP ST RE GP gv tag d u s r gi) (hd : ∀ i, i < n → d i = d' i) (hu : ∀ i, i < n → u i = u' i) (hs : ∀ i, i < n → s i = s' i) (hr : ∀ i, i < n → r i = r' i) :
    GM w N G n DN UP ST RE GP gv tag d' u' s' r' gi :=
  ⟨h.g, h.D.rows_congr hd, h.U.rows_congr hu, h.S.rows_congr hs, h.R.rows_congr hr, h.gp, h.tg, h.tp, h.ne, h.lowG, h.lowP, h.low, h.le⟩

/-- What has come gets a tag. -/
def tagNew (w w5 : World) (tag : Nat → Nat) (c : Nat) : Nat → Nat := fun k => if w.heap.size ≤ k ∧ k < w5.heap.size then c else tag k

theorem tagNew_old {tag : Nat → Nat} {c k : Nat} (h : k < w.heap.size) : tagNew w w5 tag c k = tag k := if_neg (by omega)
theorem tagNew_new {tag : Nat → Nat} {c k : Nat} (h : w.heap.size ≤ k ∧ k < w5.heap.size) : tagNew w w5 tag c k = c := if_pos h

theorem TabOf.retag {α : Type} {enc : α → List Value} {size : Nat} {st e : TypeId} {R : Nat} {rows : Nat → List α} {c c' : Nat} {w6 : World} (h : TabOf enc size st e w R n (fun k => tag k = c') rows) (hx : Ext (fun k => tag k = c) w w6) (hs : w6.heap.size = w5.heap.size) (hne : c' ≠ c) :
    TabOf enc size st e w6 R n (fun k => tagNew w w5 tag c k = c') rows := by
  refine (h.ext hx (fun k hk hk' => hne (hk.symm.trans hk'))).mono (fun k hk => ?_) (fun k hk => ?_)
  · show tagNew w w5 tag c k = c'
    rw [tagNew_old (h.lt k hk)]; exact hk
  · by_cases hlt : w.heap.size ≤ k ∧ k < w5.heap.size
    · rw [hs]; exact hlt.2
    · have : tag k = c' := by
        have h1 : tagNew w w5 tag c k = c' := hk
        unfold tagNew at h1
        rwa [if_neg hlt] at h1
      exact Nat.lt_of_lt_of_le (h.lt k this) hx.size

theorem TabOf.tagged {α : Type} {enc : α → List Value} {size : Nat} {st e : TypeId} {R : Nat} {rows : Nat → List α} {c : Nat} {w6 : World} (h : TabOf enc size st e w6 R n (fun k => tag k = c ∨ (w.heap.size ≤ k ∧ k < w5.heap.size)) rows) (hl : ∀ k, tag k = c → k < w.heap.size) (hs : w6.heap.size = w5.heap.size) (hs1 : w.heap.size ≤ w5.heap.size) :
    TabOf enc size st e w6 R n (fun k => tagNew w w5 tag c k = c) rows := by
  refine h.mono (fun k hk => ?_) (fun k hk => ?_)
  · show tagNew w w5 tag c k = c
    by_cases hlt : w.heap.size ≤ k ∧ k < w5.heap.size
    · exact tagNew_new hlt
    · unfold tagNew; rw [if_neg hlt]; exact hk.resolve_right hlt
  · by_cases hlt : w.heap.size ≤ k ∧ k < w5.heap.size
    · rw [hs]; exact hlt.2
    · have : tag k = c := by
        have h1 : tagNew w w5 tag c k = c := hk
        unfold tagNew at h1
        rwa [if_neg hlt] at h1
      have := hl k this
      omega

theorem tagNew_low {c : Nat} (hN : N ≤ w.heap.size) (h : ∀ k, tag k ≠ 0 → N ≤ k) : ∀ k, tagNew w w5 tag c k ≠ 0 → N ≤ k := by
  intro k hk
  unfold tagNew at hk
  split at hk
  · omega
  · exact h k hk

theorem tagNew_le {c : Nat} (hc : c ≤ 4) (h : ∀ k, tag k ≤ 4) : ∀ k, tagNew w w5 tag c k ≤ 4 := by
  intro k
  unfold tagNew
  split
  · exact hc
  · exact h k

theorem GM.putD (h : GM w N G n DN UP ST RE GP gv tag d u s r gi) {i : Nat} {v v' : Value} {ys : List (Nat)} (hN : N ≤ w.heap.size) (hv : w.cell? ⟨DN, i, none⟩ = some v) (hx : Ext (fun k => v.ownBlock = some k) w w5)
    (hnew : w5.ownsRow 0 3 1 v' ys.length (ys.flatMap encN)) (hat : ∀ k, v'.ownBlock = some k → v.ownBlock = some k ∨ w.heap.size ≤ k) :
    w5.cell? ⟨DN, i, none⟩ = some v ∧ w5.frozen? ⟨DN, i, none⟩ = false ∧ GM (w5.setCell ⟨DN, i, none⟩ v') N G n DN UP ST RE GP gv (tagNew w w5 tag 1) (fun j => if j = i then ys else d j) u s r gi ∧ Ext (fun k => N ≤ k) w (w5.setCell ⟨DN, i, none⟩ v') := by
  obtain ⟨q1, q2, hT, hxt⟩ := h.D.put hv hx hnew hat
  have hs6 : (w5.setCell ⟨DN, i, none⟩ v').heap.size = w5.heap.size := World.size_setCell _ _ _
  have hG := h.ltG
  have hP := h.ltP
  refine ⟨q1, q2, ⟨hxt.heap h.g (by rw [h.tg]; omega), hT.tagged h.D.lt hs6 hx.size, h.U.retag hxt hs6 (by decide), h.S.retag hxt hs6 (by decide), h.R.retag hxt hs6 (by decide), hxt.heap h.gp (by rw [h.tp]; omega), by rw [tagNew_old hG]; exact h.tg, by rw [tagNew_old hP]; exact h.tp, h.ne, h.lowG, h.lowP, tagNew_low hN h.low, tagNew_le (by decide) h.le⟩, hxt.mono (fun k hk => h.low k (by omega))⟩

theorem GM.putU (h : GM w N G n DN UP ST RE GP gv tag d u s r gi) {i : Nat} {v v' : Value} {ys : List (Nat)} (hN : N ≤ w.heap.size) (hv : w.cell? ⟨UP, i, none⟩ = some v) (hx : Ext (fun k => v.ownBlock = some k) w w5)
    (hnew : w5.ownsRow 0 3 1 v' ys.length (ys.flatMap encN)) (hat : ∀ k, v'.ownBlock = some k → v.ownBlock = some k ∨ w.heap.size ≤ k) :
    w5.cell? ⟨UP, i, none⟩ = some v ∧ w5.frozen? ⟨UP, i, none⟩ = false ∧ GM (w5.setCell ⟨UP, i, none⟩ v') N G n DN UP ST RE GP gv (tagNew w w5 tag 2) d (fun j => if j = i then ys else u j) s r gi ∧ Ext (fun k => N ≤ k) w (w5.setCell ⟨UP, i, none⟩ v') := by
  obtain ⟨q1, q2, hT, hxt⟩ := h.U.put hv hx hnew hat
  have hs6 : (w5.setCell ⟨UP, i, none⟩ v').heap.size = w5.heap.size := World.size_setCell _ _ _
  have hG := h.ltG
  have hP := h.ltP
  refine ⟨q1, q2, ⟨hxt.heap h.g (by rw [h.tg]; omega), h.D.retag hxt hs6 (by decide), hT.tagged h.U.lt hs6 hx.size, h.S.retag hxt hs6 (by decide), h.R.retag hxt hs6 (by decide), hxt.heap h.gp (by rw [h.tp]; omega), by rw [tagNew_old hG]; exact h.tg, by rw [tagNew_old hP]; exact h.tp, h.ne, h.lowG, h.lowP, tagNew_low hN h.low, tagNew_le (by decide) h.le⟩, hxt.mono (fun k hk => h.low k (by omega))⟩

theorem GM.putS (h : GM w N G n DN UP ST RE GP gv tag d u s r gi) {i : Nat} {v v' : Value} {ys : List (Nat × Nat)} (hN : N ≤ w.heap.size) (hv : w.cell? ⟨ST, i, none⟩ = some v) (hx : Ext (fun k => v.ownBlock = some k) w w5)
    (hnew : w5.ownsRow 0 117 2 v' ys.length (ys.flatMap encP)) (hat : ∀ k, v'.ownBlock = some k → v.ownBlock = some k ∨ w.heap.size ≤ k) :
    w5.cell? ⟨ST, i, none⟩ = some v ∧ w5.frozen? ⟨ST, i, none⟩ = false ∧ GM (w5.setCell ⟨ST, i, none⟩ v') N G n DN UP ST RE GP gv (tagNew w w5 tag 3) d u (fun j => if j = i then ys else s j) r gi ∧ Ext (fun k => N ≤ k) w (w5.setCell ⟨ST, i, none⟩ v') := by
  obtain ⟨q1, q2, hT, hxt⟩ := h.S.put hv hx hnew hat
  have hs6 : (w5.setCell ⟨ST, i, none⟩ v').heap.size = w5.heap.size := World.size_setCell _ _ _
  have hG := h.ltG
  have hP := h.ltP
  refine ⟨q1, q2, ⟨hxt.heap h.g (by rw [h.tg]; omega), h.D.retag hxt hs6 (by decide), h.U.retag hxt hs6 (by decide), hT.tagged h.S.lt hs6 hx.size, h.R.retag hxt hs6 (by decide), hxt.heap h.gp (by rw [h.tp]; omega), by rw [tagNew_old hG]; exact h.tg, by rw [tagNew_old hP]; exact h.tp, h.ne, h.lowG, h.lowP, tagNew_low hN h.low, tagNew_le (by decide) h.le⟩, hxt.mono (fun k hk => h.low k (by omega))⟩

theorem GM.putR (h : GM w N G n DN UP ST RE GP gv tag d u s r gi) {i : Nat} {v v' : Value} {ys : List (Bool)} (hN : N ≤ w.heap.size) (hv : w.cell? ⟨RE, i, none⟩ = some v) (hx : Ext (fun k => v.ownBlock = some k) w w5)
    (hnew : w5.ownsRow 0 4 1 v' ys.length (ys.flatMap encB)) (hat : ∀ k, v'.ownBlock = some k → v.ownBlock = some k ∨ w.heap.size ≤ k) :
    w5.cell? ⟨RE, i, none⟩ = some v ∧ w5.frozen? ⟨RE, i, none⟩ = false ∧ GM (w5.setCell ⟨RE, i, none⟩ v') N G n DN UP ST RE GP gv (tagNew w w5 tag 4) d u s (fun j => if j = i then ys else r j) gi ∧ Ext (fun k => N ≤ k) w (w5.setCell ⟨RE, i, none⟩ v') := by
  obtain ⟨q1, q2, hT, hxt⟩ := h.R.put hv hx hnew hat
  have hs6 : (w5.setCell ⟨RE, i, none⟩ v').heap.size = w5.heap.size := World.size_setCell _ _ _
  have hG := h.ltG
  have hP := h.ltP
  refine ⟨q1, q2, ⟨hxt.heap h.g (by rw [h.tg]; omega), h.D.retag hxt hs6 (by decide), h.U.retag hxt hs6 (by decide), h.S.retag hxt hs6 (by decide), hT.tagged h.R.lt hs6 hx.size, hxt.heap h.gp (by rw [h.tp]; omega), by rw [tagNew_old hG]; exact h.tg, by rw [tagNew_old hP]; exact h.tp, h.ne, h.lowG, h.lowP, tagNew_low hN h.low, tagNew_le (by decide) h.le⟩, hxt.mono (fun k hk => h.low k (by omega))⟩
/-- A row of D was turned in place. -/
theorem GM.turnD (h : GM w N G n DN UP ST RE GP gv tag d u s r gi) {i : Nat} {v : Value} {ys : List Nat} (hv : w.cell? ⟨DN, i, none⟩ = some v) (hx : Ext (fun k => v.ownBlock = some k) w w5)
    (hnew : w5.ownsRow 0 3 1 v ys.length (ys.flatMap encN)) : GM w5 N G n DN UP ST RE GP gv tag (fun j => if j = i then ys else d j) u s r gi := by
  have hxt : Ext (fun k => tag k = 1) w w5 := hx.mono (fun k hk => by
    obtain ⟨⟨vals, h1, h2, h3, h4, h5⟩, hR, hl⟩ := h.D
    have hvi : vals[i]? = some v := by rw [cell_of_row _ _ _ _ _ _ h2] at hv; exact hv
    exact (h4 i v k hvi hk).1)
  exact ⟨hxt.heap h.g (by rw [h.tg]; omega), h.D.turn hv hx hnew, h.U.ext hxt (fun k hk => by omega), h.S.ext hxt (fun k hk => by omega), h.R.ext hxt (fun k hk => by omega), hxt.heap h.gp (by rw [h.tp]; omega), h.tg, h.tp, h.ne, h.lowG, h.lowP, h.low, h.le⟩

/-- A number of a group was set. -/
theorem GM.setP (h : GM w N G n DN UP ST RE GP gv tag d u s r gi) (i : Nat) (z : Int) : GM (w.setCell ⟨GP, i, none⟩ (.int .i64 z)) N G n DN UP ST RE GP gv tag d u s r (fun x => if x = i then z else gi x) := by
  have hx : Ext (· = GP) w (w.setCell ⟨GP, i, none⟩ (.int .i64 z)) := Ext.set1 _ _ _ _
  have ht := h.tp
  exact ⟨hx.heap h.g h.ne, h.D.ext hx (fun k hk e => by subst e; omega), h.U.ext hx (fun k hk e => by subst e; omega), h.S.ext hx (fun k hk e => by subst e; omega), h.R.ext hx (fun k hk e => by subst e; omega), by rw [heap_setCell_same _ _ _ _ _ _ h.gp, numsC_set], h.tg, h.tp, h.ne, h.lowG, h.lowP, h.low, h.le⟩

/-- The row of groups was set. -/
theorem GM.setG (h : GM w N G n DN UP ST RE GP gv tag d u s r gi) (gv' : Value) : GM (w.setCell ⟨G, 4, none⟩ gv') N G n DN UP ST RE GP gv' tag d u s r gi := by
  have hx : Ext (· = G) w (w.setCell ⟨G, 4, none⟩ gv') := Ext.set1 _ _ _ _
  have ht := h.tg
  exact ⟨by rw [heap_setCell_same _ _ _ _ _ _ h.g]; rfl, h.D.ext hx (fun k hk e => by subst e; omega), h.U.ext hx (fun k hk e => by subst e; omega), h.S.ext hx (fun k hk e => by subst e; omega), h.R.ext hx (fun k hk e => by subst e; omega), hx.heap h.gp (fun e => h.ne e.symm), h.tg, h.tp, h.ne, h.lowG, h.lowP, h.low, h.le⟩
end
end Go.Proofs.Ytbbogkcfngpbbaa
