/- Sweeps that only grow: what is asked behind and ahead, in plain words. -/
import Derived.Test.YtpbkkajgcdahcaaDoorCount
import Derived.Test.YtpbkkajgcdahcaaDoorBehind
namespace Go.Proofs.YtpbkkajgcdahcaaDoor

/-- A variable is asked ahead of an instruction: it is read there, or not written there and asked ahead of a next one. -/
inductive Asked (ins : List Ins) (v : Nat) : Nat → Prop
  | read {x : Nat} {i : Ins} : ins[x]? = some i → (v : Int) ∈ readsOf i → Asked ins v x
  | pass {x y : Nat} {i : Ins} : ins[x]? = some i → ¬ ((writesOf i).2 = true ∧ (writesOf i).1 = (v : Int)) → y ∈ nextN ins x → Asked ins v y → Asked ins v x

/-- .. and behind it: ahead of a next one. -/
def AskedBehind (ins : List Ins) (v x : Nat) : Prop := ∃ y, y ∈ nextN ins x ∧ Asked ins v y

theorem asked_iff {ins : List Ins} {v x : Nat} {i : Ins} (hx : ins[x]? = some i) : Asked ins v x ↔ (v : Int) ∈ readsOf i ∨ (¬ ((writesOf i).2 = true ∧ (writesOf i).1 = (v : Int)) ∧ AskedBehind ins v x) := by
  constructor
  · intro h
    cases h with
    | read h1 h2 => rw [hx] at h1; obtain rfl := Option.some.inj h1; exact .inl h2
    | pass h1 h2 h3 h4 => rw [hx] at h1; obtain rfl := Option.some.inj h1; exact .inr ⟨h2, _, h3, h4⟩
  · rintro (h | ⟨h, y, h2, h3⟩)
    · exact .read hx h
    · exact .pass hx h h2 h3

theorem Asked.lt {ins : List Ins} {v x : Nat} (h : Asked ins v x) : x < ins.length := by
  cases h with
  | read h1 _ => exact (List.getElem?_eq_some_iff.1 h1).1
  | pass h1 _ _ _ => exact (List.getElem?_eq_some_iff.1 h1).1

/-- All numbers of variables are below nv. -/
def Fits (ins : List Ins) (nv : Nat) : Prop := ∀ i ∈ ins, (∀ r ∈ readsOf i, 0 ≤ r ∧ r < (nv : Int)) ∧ ((writesOf i).2 = true → 0 ≤ (writesOf i).1 ∧ (writesOf i).1 < (nv : Int))

theorem Asked.fits {ins : List Ins} {nv v x : Nat} (hf : Fits ins nv) (h : Asked ins v x) : v < nv := by
  induction h with
  | read h1 h2 => have := ((hf _ (List.mem_of_getElem? h1)).1 _ h2).2; omega
  | pass _ _ _ _ ih => exact ih

def dropW (f : Nat → Nat) (v : Nat) : Nat → Nat := fun x => if x = v / 64 then f (v / 64) &&& (18446744073709551615 - 2 ^ (v % 64)) else f x
def addW (f : Nat → Nat) (v : Nat) : Nat → Nat := fun x => if x = v / 64 then f (v / 64) ||| 2 ^ (v % 64) else f x

/-- The words ahead of an instruction, of those behind it. -/
def stepW (i : Ins) (f : Nat → Nat) : Nat → Nat := ((readsOf i).map Int.toNat).foldl addW (if (writesOf i).2 = true then dropW f (writesOf i).1.toNat else f)

theorem or_lt64 {a b : Nat} (ha : a < 18446744073709551616) (hb : b < 18446744073709551616) : a ||| b < 18446744073709551616 :=
  Nat.or_lt_two_pow (n := 64) ha hb

theorem addW_lt {f : Nat → Nat} (hf : ∀ i, f i < 18446744073709551616) (v : Nat) : ∀ i, addW f v i < 18446744073709551616 := by
  intro i
  unfold addW
  split
  · exact or_lt64 (hf _) (pow_lt64 (Nat.mod_lt _ (by decide)))
  · exact hf i

theorem dropW_lt {f : Nat → Nat} (hf : ∀ i, f i < 18446744073709551616) (v : Nat) : ∀ i, dropW f v i < 18446744073709551616 := by
  intro i
  unfold dropW
  split
  · exact Nat.lt_of_le_of_lt Nat.and_le_left (hf _)
  · exact hf i

theorem addsW_lt : ∀ (l : List Nat) {f : Nat → Nat} (_ : ∀ i, f i < 18446744073709551616), ∀ i, l.foldl addW f i < 18446744073709551616
  | [], _, hf => hf
  | v :: l, _, hf => addsW_lt l (addW_lt hf v)

theorem orsOf_lt {f g : Nat → Nat} (hf : ∀ i, f i < 18446744073709551616) (hg : ∀ i, g i < 18446744073709551616) (n : Nat) : ∀ i, orsOf f g n i < 18446744073709551616 := by
  intro i
  unfold orsOf
  split
  · exact or_lt64 (hf i) (hg i)
  · exact hf i

theorem stepW_lt (i : Ins) {f : Nat → Nat} (hf : ∀ i, f i < 18446744073709551616) : ∀ j, stepW i f j < 18446744073709551616 := by
  unfold stepW
  refine addsW_lt _ ?_
  split
  · exact dropW_lt hf _
  · exact hf

theorem bit_addW (f : Nat → Nat) (v u : Nat) : bitOf (addW f v) u = (bitOf f u || decide (u = v)) := bit_add f v u
theorem bit_dropW (f : Nat → Nat) (v u : Nat) : bitOf (dropW f v) u = (bitOf f u && decide (u ≠ v)) := bit_drop f v u

theorem bit_addsW (u : Nat) : ∀ (l : List Nat) (f : Nat → Nat), bitOf (l.foldl addW f) u = (bitOf f u || decide (u ∈ l))
  | [], f => by simp
  | v :: l, f => by
    rw [List.foldl_cons, bit_addsW u l, bit_addW]
    by_cases h : u = v
    · subst h; simp
    · simp [h]

theorem bit_stepW (i : Ins) (f : Nat → Nat) (u : Nat) : bitOf (stepW i f) u = true ↔ u ∈ (readsOf i).map Int.toNat ∨ (bitOf f u = true ∧ ¬ ((writesOf i).2 = true ∧ u = (writesOf i).1.toNat)) := by
  unfold stepW
  rw [bit_addsW]
  by_cases h : (writesOf i).2 = true
  · rw [if_pos h, bit_dropW]; simp [h]; exact Or.comm
  · rw [if_neg h]; simp [h]; exact Or.comm

theorem bitOf_congr {f g : Nat → Nat} {v : Nat} (h : f (v / 64) = g (v / 64)) : bitOf f v = bitOf g v := by unfold bitOf; rw [h]

theorem newB_iff {x r : Nat} (hx : x < 18446744073709551616) (hr : r < 18446744073709551616) : newB x r = true ↔ r ||| x ≠ r := by
  unfold newB
  have e1 : 18446744073709551615 - r = 2 ^ 64 - (r + 1) := by omega
  have tb : ∀ j, (x &&& (18446744073709551615 - r)).testBit j = (x.testBit j && !r.testBit j) := by
    intro j
    rw [Nat.testBit_and, e1, Nat.testBit_two_pow_sub_succ (show r < 2 ^ 64 from hr)]
    by_cases hj : j < 64
    · simp [hj]
    · have : x.testBit j = false := Nat.testBit_lt_two_pow (Nat.lt_of_lt_of_le (show x < 2 ^ 64 from hx) (Nat.pow_le_pow_right (by decide) (by omega)))
      simp [this]
  rw [bne_iff_ne]
  refine Iff.intro (fun h e => h ?_) (fun h e => h ?_)
  rotate_left
  · apply Nat.eq_of_testBit_eq
    intro j
    have := tb j
    rw [e, Nat.zero_testBit] at this
    rw [Nat.testBit_or]
    revert this
    cases x.testBit j <;> cases r.testBit j <;> simp
  · apply Nat.eq_of_testBit_eq
    intro j
    rw [tb j, Nat.zero_testBit]
    have : (r ||| x).testBit j = r.testBit j := by rw [e]
    rw [Nat.testBit_or] at this
    revert this
    cases x.testBit j <;> cases r.testBit j <;> simp

theorem anyNew_iff {f g : Nat → Nat} (hf : ∀ i, f i < 18446744073709551616) (hg : ∀ i, g i < 18446744073709551616) (n : Nat) : anyNew f g n = false ↔ ∀ i, i < n → f i ||| g i = f i := by
  unfold anyNew
  rw [List.any_eq_false]
  constructor
  · intro h i hi
    have := h i (by simpa using hi)
    rw [newB_iff (hg i) (hf i)] at this
    exact Classical.not_not.1 this
  · intro h i hi
    rw [newB_iff (hg i) (hf i)]
    exact not_not_intro (h i (by simpa using hi))

theorem orsOf_same {f g : Nat → Nat} (hf : ∀ i, f i < 18446744073709551616) (hg : ∀ i, g i < 18446744073709551616) {n : Nat} (h : anyNew f g n = false) : orsOf f g n = f := by
  rw [anyNew_iff hf hg] at h
  funext i
  unfold orsOf
  split
  · rename_i hi; exact h i hi
  · rfl

theorem bit_orsOf {f g : Nat → Nat} {n v : Nat} (h : bitOf (orsOf f g n) v = true) : bitOf f v = true ∨ bitOf g v = true := by
  unfold bitOf orsOf at h
  split at h
  · rw [Nat.testBit_or] at h; simpa [bitOf] using h
  · exact .inl h

/-! ### How much room is left -/
def sumN (n : Nat) (f : Nat → Nat) : Nat := ((List.range n).map f).sum
theorem sumN_succ (n : Nat) (f : Nat → Nat) : sumN (n + 1) f = sumN n f + f n := by unfold sumN; rw [List.range_succ, List.map_append, List.sum_append]; simp
theorem sumN_le : ∀ (n : Nat) (f g : Nat → Nat), (∀ i, i < n → f i ≤ g i) → sumN n f ≤ sumN n g
  | 0, _, _, _ => Nat.le_refl _
  | n + 1, f, g, h => by rw [sumN_succ, sumN_succ]; exact Nat.add_le_add (sumN_le n f g fun i hi => h i (by omega)) (h n (by omega))
theorem sumN_lt : ∀ (n : Nat) (f g : Nat → Nat) (j : Nat), (∀ i, i < n → f i ≤ g i) → j < n → f j < g j → sumN n f < sumN n g
  | 0, _, _, _, _, hj, _ => by omega
  | n + 1, f, g, j, h, hj, hlt => by
    rw [sumN_succ, sumN_succ]
    by_cases e : j = n
    · subst e; exact Nat.add_lt_add_of_le_of_lt (sumN_le _ f g fun i hi => h i (by omega)) hlt
    · exact Nat.add_lt_add_of_lt_of_le (sumN_lt n f g j (fun i hi => h i (by omega)) (by omega) hlt) (h n (by omega))

/-- What the sets may yet grow by. -/
def roomOf (n k : Nat) (b : Nat → Nat → Nat) : Nat := sumN n fun x => sumN k fun i => 18446744073709551616 - b x i

/-- One row joined by words. -/
def joinR (b : Nat → Nat → Nat) (x : Nat) (g : Nat → Nat) (k : Nat) : Nat → Nat → Nat := fun y => if y = x then orsOf (b x) g k else b y

theorem room_join {n k x : Nat} {b : Nat → Nat → Nat} {g : Nat → Nat} (hb : ∀ y i, b y i < 18446744073709551616) (hg : ∀ i, g i < 18446744073709551616) (hx : x < n) :
    roomOf n k (joinR b x g k) ≤ roomOf n k b ∧ (anyNew (b x) g k = true → roomOf n k (joinR b x g k) < roomOf n k b) := by
  have le1 : ∀ y i, b y i ≤ joinR b x g k y i := by
    intro y i
    unfold joinR
    split
    · rename_i e; subst e; unfold orsOf; split
      · exact Nat.left_le_or
      · exact Nat.le_refl _
    · exact Nat.le_refl _
  have le2 : ∀ y, sumN k (fun i => 18446744073709551616 - joinR b x g k y i) ≤ sumN k (fun i => 18446744073709551616 - b y i) := fun y => sumN_le _ _ _ fun i _ => by have := le1 y i; omega
  refine ⟨sumN_le _ _ _ fun y _ => le2 y, fun h => sumN_lt _ _ _ x (fun y _ => le2 y) hx ?_⟩
  have h2 : ¬ ∀ i, i < k → b x i ||| g i = b x i := by rw [← anyNew_iff (hb x) hg, h]; simp
  obtain ⟨i, h3⟩ := Classical.not_forall.1 h2
  obtain ⟨hi, h4⟩ := Classical.not_imp.1 h3
  refine sumN_lt _ _ _ i (fun j _ => by have := le1 x j; omega) hi ?_
  have h5 : joinR b x g k x i = b x i ||| g i := by unfold joinR orsOf; rw [if_pos rfl, if_pos hi]
  have h6 := le1 x i
  have h7 := hb x i
  rw [h5] at h6 ⊢
  omega

/-- Only what is asked is in the sets. -/
def Sound (ins : List Ins) (b : Nat → Nat → Nat) : Prop := ∀ x v, x < ins.length → bitOf (b x) v = true → AskedBehind ins v x

theorem sound_step {ins : List Ins} {nv y v : Nat} {i : Ins} {b : Nat → Nat → Nat} (hf : Fits ins nv) (hs : Sound ins b) (hy : ins[y]? = some i) (h : bitOf (stepW i (b y)) v = true) : Asked ins v y := by
  have hfi := hf i (List.mem_of_getElem? hy)
  rw [bit_stepW] at h
  rcases h with h | ⟨h1, h2⟩
  · obtain ⟨r, hr, e⟩ := List.mem_map.1 h
    have := hfi.1 r hr
    exact .read hy (by rw [← e, Int.toNat_of_nonneg this.1]; exact hr)
  · obtain ⟨z, hz, hza⟩ := hs y v (List.getElem?_eq_some_iff.1 hy).1 h1
    refine .pass hy (fun ⟨h3, h4⟩ => h2 ⟨h3, ?_⟩) hz hza
    rw [h4]; rfl

theorem sound_join {ins : List Ins} {nv k x y : Nat} {i : Ins} {b : Nat → Nat → Nat} (hf : Fits ins nv) (hs : Sound ins b) (hy : ins[y]? = some i) (hx : x ∈ behindOf ins y) {b0 : Nat → Nat → Nat} (hs0 : Sound ins b0) : Sound ins (joinR b x (stepW i (b0 y)) k) := by
  intro z v hz h
  unfold joinR at h
  split at h
  · rename_i e
    subst e
    rcases bit_orsOf h with h | h
    · exact hs _ v hz h
    · exact ⟨y, ((mem_behindOf ins z y).1 hx).2, sound_step hf hs0 hy h⟩
  · exact hs z v hz h

/-- Closed sets have all that is asked. -/
theorem fix_of {ins : List Ins} {nv k : Nat} (hk : nv ≤ 64 * k) (hf : Fits ins nv) {b a : Nat → Nat → Nat} (hs : Sound ins b)
    (ha : ∀ y i, ins[y]? = some i → ∀ j, j < k → a y j = stepW i (b y) j)
    (hc : ∀ y x, y < ins.length → x ∈ behindOf ins y → ∀ j, j < k → b x j ||| a y j = b x j) :
    ∀ x v, x < ins.length → v < nv → (bitOf (b x) v = true ↔ AskedBehind ins v x) ∧ (bitOf (a x) v = true ↔ Asked ins v x) := by
  have ev : ∀ y i v, ins[y]? = some i → v < nv → bitOf (a y) v = bitOf (stepW i (b y)) v := fun y i v hy hv => bitOf_congr (ha y i hy _ (by omega))
  have key : ∀ v x, Asked ins v x → v < nv → bitOf (a x) v = true := by
    intro v x h
    induction h with
    | read h1 h2 =>
      intro hv
      rw [ev _ _ _ h1 hv, bit_stepW]
      exact .inl (List.mem_map.2 ⟨_, h2, by simp⟩)
    | @pass x y i h1 h2 h3 h4 ih =>
      intro hv
      rw [ev _ _ _ h1 hv, bit_stepW]
      right
      have hfi := hf i (List.mem_of_getElem? h1)
      refine ⟨?_, fun ⟨h5, h6⟩ => h2 ⟨h5, by have := (hfi.2 h5).1; omega⟩⟩
      have h7 := hc y x (nextN_lt h3) ((mem_behindOf ins x y).2 ⟨(List.getElem?_eq_some_iff.1 h1).1, h3⟩) (v / 64) (by omega)
      have h8 := ih hv
      unfold bitOf at h8 ⊢
      rw [← h7, Nat.testBit_or, h8]; simp
  have key2 : ∀ x v, x < ins.length → v < nv → AskedBehind ins v x → bitOf (b x) v = true := by
    rintro x v hx hv ⟨y, hy, hya⟩
    have h7 := hc y x (nextN_lt hy) ((mem_behindOf ins x y).2 ⟨hx, hy⟩) (v / 64) (by omega)
    have h8 := key v y hya hv
    unfold bitOf at h8 ⊢
    rw [← h7, Nat.testBit_or, h8]; simp
  intro x v hx hv
  refine ⟨⟨hs x v hx, key2 x v hx hv⟩, ⟨fun h => ?_, fun h => key v x h hv⟩⟩
  obtain ⟨i, hi⟩ : ∃ i, ins[x]? = some i := ⟨_, List.getElem?_eq_getElem hx⟩
  rw [ev x i v hi hv] at h
  exact sound_step hf hs hi h
end Go.Proofs.YtpbkkajgcdahcaaDoor
