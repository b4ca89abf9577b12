/- Words for memory and for lists of instructions, used by all texts of this seat. -/
import Derived.Test.YtlggjbopfnndbaaProg
import Derived.WalkKit
import Derived.WalkLawsBesides
import Derived.WalkSpells
import Derived.Lib.Hide
import Derived.Laws.CopyOwn
import Derived.Deep.QuietTactic
import Derived.BigQuiet
import Derived.Maps.AppendAt

namespace Go.Proofs.Ytlggjbopfnndbaa
open Go.RowKit

theorem info_int : (Try.prog.info? 3).map (fun i => (i.zero, i.size, i.bytes)) = some (some (.int .i64 0), 1, 8) := by kernel_rfl
theorem info_bool : (Try.prog.info? 4).map (fun i => (i.zero, i.size, i.bytes)) = some (some (.bool false), 1, 1) := by kernel_rfl

/-- w' is w with new blocks, and with writes to blocks of M alone. -/
structure Ext (M : Nat → Prop) (w w' : World) : Prop where
  os : w'.os = w.os
  tape : w'.tape = w.tape
  output : w'.output = w.output
  size : w.heap.size ≤ w'.heap.size
  block : ∀ k, k < w.heap.size → ¬ M k → w'.heap[k]? = w.heap[k]?

/-- A slice of ints that the call made (from block base on). -/
def OwnI (w : World) (base : Nat) (v : Value) (xs : List Int) : Prop := w.ownsRow base 3 1 v xs.length (xs.map (Value.int .i64))

theorem OwnI.lit1 {w : World} {base B : Nat} {x : Int} (hB : B = w.heap.size) (h : base ≤ B) : OwnI (w.alloc (.cells #[.int .i64 x] 3)) base (.slice (some ⟨B, 0, none⟩) 1 1) [x] := by
  subst hB; exact World.ownsRow_lit w #[.int .i64 x] 1 h (by decide) rfl
theorem OwnI.lit2 {w : World} {base B : Nat} {x y : Int} (hB : B = w.heap.size) (h : base ≤ B) : OwnI (w.alloc (.cells #[.int .i64 x, .int .i64 y] 3)) base (.slice (some ⟨B, 0, none⟩) 2 2) [x, y] := by
  subst hB; exact World.ownsRow_lit w #[.int .i64 x, .int .i64 y] 2 h (by decide) rfl
theorem OwnI.nil (w : World) (base : Nat) : OwnI w base (.slice none 0 0) [] := World.ownsRow_nil _ _ _ _

theorem OwnI.mono {w : World} {base base' : Nat} {v : Value} {xs : List Int} (h : OwnI w base v xs) (hb : base' ≤ base) : OwnI w base' v xs := by
  refine ⟨h.1, ?_⟩
  rcases h.2 with h | ⟨g, cap, cur, h1, h2, h3⟩
  · exact .inl h
  · exact .inr ⟨g, cap, cur, h1, by omega, h3⟩

/-- The cells of what is owned, where there are any. -/
theorem OwnI.shape {w : World} {base n cap : Nat} {ao : Option Addr} {xs : List Int} (h : OwnI w base (.slice ao n cap) xs) (hne : 0 < xs.length) :
    ∃ g, ao = some ⟨g, 0, none⟩ ∧ base ≤ g ∧ g < w.heap.size ∧ ∀ (k : Nat) (z : Int), xs[k]? = some z → w.cell? ⟨g, k, none⟩ = some (.int .i64 z) := by
  rcases h.2 with ⟨h1, h2⟩ | ⟨g, cap', cur, h1, h2, h3, h4, h5, h6, h7⟩
  · omega
  · have hs : ao = some ⟨g, 0, none⟩ := by simp only [Value.slice.injEq] at h1; exact h1.1
    refine ⟨g, hs, h2, (Array.getElem?_eq_some_iff.1 h3).1, fun k z hz => ?_⟩
    rw [cell_of_row w g k cur _ _ h3]
    have hk : k < xs.length := (List.getElem?_eq_some_iff.1 hz).1
    have e : (cur.toList.take (xs.length * 1))[k]? = some (.int .i64 z) := by rw [h7]; simp [hz]
    rw [List.getElem?_take, if_pos (by omega)] at e
    simpa using e

theorem ownsRow_drewN {w : World} {base : Nat} {e : TypeId} {size : Nat} {v : Value} {n : Nat} {xs : List Value} (m : Nat) (h : w.ownsRow base e size v n xs) : (w.drewN m).ownsRow base e size v n xs := h

theorem OwnI.app {w : World} {base : Nat} {v : Value} {xs : List Int} {z : Int} (h : w.ownsRow base 3 1 v (xs.length + 1) (xs.map (Value.int .i64) ++ [.int .i64 z])) : OwnI w base v (xs ++ [z]) := by
  unfold OwnI; simpa using h

theorem below_grow {B : Nat} {a w w' : World} {v : Value} {e : TypeId} {size n : Nat} {xs : List Value} {o : Obj} (h : Below B a w) (hB : B ≤ w.heap.size) (hv : w.ownsRow B e size v n xs) (hg : (w.alloc o).grownBy w' v.ownBlock) : Below B a w' :=
  (h.alloc hB o).grown hg (by simp; omega) (fun k hk => (hv.lt k hk).1)

theorem OwnI.isSlice {w : World} {base : Nat} {v : Value} {xs : List Int} (h : OwnI w base v xs) : ∃ ao cap, v = .slice ao xs.length cap := by
  rcases h.2 with ⟨h1, h2⟩ | ⟨g, cap, cur, h1, _⟩
  · exact ⟨none, 0, by rw [h2]; exact h1⟩
  · exact ⟨_, _, h1⟩

theorem take_snocI {α : Type} {xs : List α} {k : Nat} {z : α} (h : xs[k]? = some z) : xs.take (k + 1) = xs.take k ++ [z] := by
  rw [List.take_add_one, h]; rfl

/-- An instruction, as its thirteen cells have it; args: what its slice Args holds. -/
structure Ins where
  op : Int
  d : Int
  a : Int
  b : Int
  f : Int
  n : Int
  sign : ByteArray
  argsV : Value
  modeV : Value
  to : Int
  els : Int
  ln : Int
  cl : Int
  args : List Int

def Ins.cells (i : Ins) : Array Value := #[.int .i64 i.op, .int .i64 i.d, .int .i64 i.a, .int .i64 i.b, .int .i64 i.f, .int .i64 i.n, .string i.sign, i.argsV, i.modeV, .int .i64 i.to, .int .i64 i.els, .int .i64 i.ln, .int .i64 i.cl]

/-- The edges of an instruction at a place. -/
def nextOf (i : Ins) (at_ : Int) : List Int :=
  if i.op = 16 then [i.to] else if i.op = 17 then (if i.to = i.els then [i.to] else [i.to, i.els]) else if i.op = 18 then [] else [at_ + 1]

/-- Behind a function that makes a slice of ints. -/
def GivesI (w : World) (xs : List Int) (e : Ending) (w' : World) : Prop :=
  ∃ ao cap, e = .returned (.slice ao xs.length cap) ∧ OwnI w' w.heap.size (.slice ao xs.length cap) xs ∧ Below w.heap.size w w'

theorem ownsRow_below {w w' : World} {base : Nat} {e : TypeId} {size : Nat} {v : Value} {n : Nat} {xs : List Value} (h : w.ownsRow base e size v n xs) (hb : Below w.heap.size w w') : w'.ownsRow base e size v n xs := by
  refine ⟨h.1, ?_⟩
  rcases h.2 with h' | ⟨g, cap, cur, e1, e2, e3, e4⟩
  · exact .inl h'
  · exact .inr ⟨g, cap, cur, e1, e2, (hb.block g (Array.getElem?_eq_some_iff.1 e3).1).trans e3, e4⟩

theorem cells_new (w : World) (cs : List Value) (t : TypeId) : ∀ j u, cs[j]? = some u → (w.alloc (.cells cs.toArray t)).cell? ((⟨w.heap.size, 0, none⟩ : Addr).add j) = some u := by
  intro j u h
  rw [Addr.add_lit, Nat.zero_add, World.cell?_alloc_new]
  simpa using h

/-- clear of a slice whose elements have one cell. -/
theorem run_clear {P : Program} (w : World) (t ty e : TypeId) (i : TypeInfo) (z : Value) (ht : P.underlying t = some (.slice e)) (hi : P.info? e = some i) (hz : i.zero = some z) (hzc : z.cells = #[z]) (h1 : z.oneCell' = true)
    (g off n cap : Nat) (cur : Array Value) (el : TypeId) (hg : w.heap[g]? = some (.cells cur el (0, 0))) (hfit : off + n ≤ cur.size) (hn : 0 < n) :
    (Builtin.clear_ #[t] ty #[.slice (some ⟨g, off, none⟩) n cap]).run P w = .ok (.tuple #[]) (w.setRow g (cur.toList.take off ++ List.replicate n z ++ cur.toList.drop (off + n)).toArray) := by
  have hzz : (Builtin.zeroCells #[z] n).toList = List.replicate n z := by
    apply List.ext_getElem?
    intro j
    by_cases hj : j < n
    · simp [Builtin.zeroCells, hj, Nat.mod_one]
    · simp [Builtin.zeroCells, hj]
  have hst := run_storeCells_at P g off el (List.replicate n z) 0 cur w hg (by simpa using hfit) (by intro u hu; rw [List.eq_of_mem_replicate hu]; exact h1)
  simp only [Nat.add_zero, List.length_replicate] at hst
  obtain ⟨m, rfl⟩ : ∃ m, n = m + 1 := ⟨n - 1, by omega⟩
  simp [Builtin.clear_, run_underlying ht, zeroValue, typeInfo, hi, hz, hzc, hzz, hst]

theorem wpList_clear {P : Program} (w : World) {ops : Array Oper} {rest : List Oper} {o : Oper} {a : Act} {Q : Exit → Act → World → Prop} (hgd : o.guard = none) (x : Operand) (t e : TypeId)
    (ho : o.op = .call { callee := .builtin .clear, args := #[x], argTypes := #[t] }) (i : TypeInfo) (z : Value) (ht : P.underlying t = some (.slice e)) (hi : P.info? e = some i) (hz : i.zero = some z) (hzc : z.cells = #[z]) (h1 : z.oneCell' = true)
    (g off n cap : Nat) (hx : a.eval x = .slice (some ⟨g, off, none⟩) n cap) (cur : Array Value) (el : TypeId) (hg : w.heap[g]? = some (.cells cur el (0, 0))) (hfit : off + n ≤ cur.size) (hn : 0 < n)
    (h : wpList P ops Q rest (a.put o.dst (.tuple #[])) (w.setRow g (cur.toList.take off ++ List.replicate n z ++ cur.toList.drop (off + n)).toArray)) : wpList P ops Q (o :: rest) a w :=
  wpList_plain hgd fun _ hK => by
    unfold Oper.wp execOp
    simp only [ho, resolve, invoke, builtin, Sem.run_bind, Sem.run_pure, Result.andThen_ok, List.map_toArray, List.map_cons, List.map_nil, hx, run_clear w t o.type e i z ht hi hz hzc h1 g off n cap cur el hg hfit hn]
    exact hK _ _ h

/-- 'make([]T, n)', elements of one cell: the new block, written out. -/
theorem wpList_make_at {P : Program} {w : World} {ops : Array Oper} {rest : List Oper} {o : Oper} {a : Act} {Q : Exit → Act → World → Prop}
    (hg : o.guard = none) (l c : Operand) (t : TypeId) (hop : o.op = Op.makeSlice t l c)
    (e : TypeId) (i : TypeInfo) (z : Value) (h1 : P.underlying t = some (.slice e)) (h2 : P.info? e = some i) (h3 : i.zero = some z) (h4 : i.size = 1) (hzc : z.cells = #[z])
    (kl kc : IntKind) (L C : Int) (n : Nat) (hl : a.eval l = .int kl L) (hc : a.eval c = .int kc C) (hL : L = (n : Int)) (hC : C = (n : Int)) (b2 : i.bytes * n ≤ 281474976710656) (b3 : n ≤ maxLen)
    (hK : wpList P ops Q rest (a.put o.dst (.slice (some ⟨w.heap.size, 0, none⟩) n n)) (w.alloc (.cells (List.replicate n z).toArray e))) :
    wpList P ops Q (o :: rest) a w := by
  refine wpList_plain hg fun K hK' => ?_
  subst hL
  subst hC
  have h63' : (n : Int) ≤ 9223372036854775807 := by
    have h := b3
    simp [maxLen] at h
    omega
  have hb' : (i.bytes : Int) * (n : Int) ≤ 281474976710656 := by
    have h : ((i.bytes * n : Nat) : Int) ≤ 281474976710656 := by omega
    rwa [Int.natCast_mul] at h
  have hr := run_make (P := P) w t e i z h1 h2 h3 kl kc n n (by omega) (Int.le_refl _) hb' h63'
  simp only [Int.toNat_natCast, h4, hzc, Nat.mul_one] at hr
  have hm : madeCells #[z] n = (List.replicate n z).toArray := by
    rw [← toList_madeCells_one]
  rw [hm] at hr
  unfold Oper.wp
  simp [execOp, hop, hl, hc, hr, Result.andThen]
  exact hK' _ _ (by simpa using hK)

/-- A struct that lies in memory, loaded whole. -/
theorem run_loadVar_at {P : Program} (w : World) (ad : Addr) (ty : TypeId) (cs : Array Value) (d : TypeDesc) (hcells : ∀ j u, cs.toList[j]? = some u → w.cell? (ad.add j) = some u)
    (hu : P.underlying ty = some d) (hd : (match d with | .struct _ | .array _ _ => true | _ => false) = true) (hi : (P.info? ty).map (·.size) = some cs.size) :
    (loadVar ty ad).run P w = .ok (.agg cs) w := by
  have hl : (loadCells ad cs.toList.length).run P w = .ok cs.toList.toArray w := run_loadCells_list (P := P) w ad cs.toList hcells
  cases hq : P.info? ty with
  | none => simp [hq] at hi
  | some i =>
    have hs : i.size = cs.size := by simpa [hq] using hi
    have hagg : (isAgg ty).run P w = .ok true w := by
      unfold isAgg
      rw [Sem.run_bind, run_underlying hu w]
      cases d <;> simp_all
    simp only [Array.length_toList, Array.toArray_toList] at hl
    simp [loadVar, Sem.run_bind, hagg, sizeOf, typeInfo, hq, hs, hl]

theorem wpList_load_at {P : Program} {ops : Array Oper} {rest : List Oper} {o : Oper} {a : Act} {w : World} {Q : Exit → Act → World → Prop} (hgd : o.guard = none) (ty : TypeId) (x : Operand) (ho : o.op = .load ty x)
    (ad : Addr) (hx : a.eval x = .pointer (some ad)) (cs : Array Value) (d : TypeDesc) (hcells : ∀ j u, cs.toList[j]? = some u → w.cell? (ad.add j) = some u)
    (hu : P.underlying ty = some d) (hd : (match d with | .struct _ | .array _ _ => true | _ => false) = true) (hi : (P.info? ty).map (·.size) = some cs.size)
    (h : wpList P ops Q rest (a.put o.dst (.agg cs)) w) : wpList P ops Q (o :: rest) a w :=
  wpList_plain hgd fun _ hK => by
    unfold Oper.wp execOp
    simp only [ho, hx, Instr.loadAt, Instr.sureAddr, Sem.run_bind, Sem.run_pure, Result.andThen_ok, run_loadVar_at w ad ty cs d hcells hu hd hi]
    exact hK _ _ h

/-- The instructions of a code lie in memory, below block B. -/
def InsRow (w : World) (B : Nat) (ao : Option Addr) (ins : List Ins) : Prop :=
  ins ≠ [] → ∃ b off, ao = some ⟨b, off, none⟩ ∧ b < B ∧ ∀ i x, ins[i]? = some x → ∀ k u, x.cells.toList[k]? = some u → w.cell? ⟨b, off + i * 13 + k, none⟩ = some u

theorem InsRow.below {w w' : World} {B n : Nat} {ao : Option Addr} {ins : List Ins} (h : InsRow w B ao ins) (hb : Below n w w') (hn : B ≤ n) : InsRow w' B ao ins := by
  intro hne
  obtain ⟨b, off, h1, h2, h3⟩ := h hne
  exact ⟨b, off, h1, h2, fun i x hx k u hu => by rw [hb.cell (p := ⟨b, _, none⟩) (Nat.lt_of_lt_of_le h2 hn)]; exact h3 i x hx k u hu⟩

theorem InsRow.mono {w : World} {B B' : Nat} {ao : Option Addr} {ins : List Ins} (h : InsRow w B ao ins) (hn : B ≤ B') : InsRow w B' ao ins := by
  intro hne
  obtain ⟨b, off, h1, h2, h3⟩ := h hne
  exact ⟨b, off, h1, by omega, h3⟩

/-- A code, as its eight cells have it. -/
structure Cod where
  nm : ByteArray
  par : Int
  varsA : Option Addr
  nvars : Nat
  varsC : Nat
  rp : Bool
  rto : ByteArray
  rcl : Int
  fromA : Option Addr
  nfrom : Nat
  fromC : Nat
  insA : Option Addr
  insC : Nat
  ins : List Ins

def Cod.cells (c : Cod) : Array Value := #[.string c.nm, .int .i64 c.par, .slice c.varsA c.nvars c.varsC, .bool c.rp, .string c.rto, .int .i64 c.rcl, .slice c.fromA c.nfrom c.fromC, .slice c.insA c.ins.length c.insC]

def inR (n : Nat) (x : Int) : Bool := decide (0 ≤ x ∧ x < n)

/-- The edges to instructions. -/
def nextN (ins : List Ins) (at_ : Nat) : List Nat :=
  match ins[at_]? with
  | none => []
  | some i => ((nextOf i at_).filter (inR ins.length)).map Int.toNat

theorem map_toNat_cast (n : Nat) (l : List Int) : ((l.filter (inR n)).map Int.toNat).map (fun x : Nat => (x : Int)) = l.filter (inR n) := by
  rw [List.map_map]
  conv => rhs; rw [← List.map_id (l.filter (inR n))]
  refine List.map_congr_left fun x hx => ?_
  have := (List.mem_filter.1 hx).2
  simp [inR] at this
  simp; omega

end Go.Proofs.Ytlggjbopfnndbaa
