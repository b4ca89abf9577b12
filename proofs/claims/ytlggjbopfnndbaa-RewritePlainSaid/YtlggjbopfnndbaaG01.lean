import Derived.Test.YtlggjbopfnndbaaProg
import Derived.WalkKit
import Derived.WalkLawsBesides
import Derived.WalkSpells
import Derived.Lib.Hide
import Derived.Laws.CopyOwn
import Derived.Deep.QuietTactic
import Derived.BigQuiet
import Derived.Maps.AppendAt
import Derived.RangeFuncNested
import Derived.RangeFuncBound
import Derived.RangeFuncCalls
import Derived.RangeFuncLeaves
import Derived.Shelf.Abstract
import Derived.OwnWalkIn
import Derived.TacticsInMore
import Derived.LoopNIn
import Derived.LoopIn
namespace Go.Proofs.Ytlggjbopfnndbaa
open Go.RowKit
theorem info_int : (Try.prog.info? 3).map (fun i => (i.zero,i.size,i.bytes)) = some (some (.int .i64 0),1,8) := by kernel_rfl
structure Ext (M : Nat → Prop) (w w' : World) : Prop where
 os : w'.os = w.os
 tape : w'.tape = w.tape
 output : w'.output = w.output
 size : w.heap.size ≤ w'.heap.size
 block : ∀ k,k < w.heap.size → ¬ M k → w'.heap[k]? = w.heap[k]?
def OwnI (w : World) (base : Nat) (v : Value) (xs : List Int) : Prop := w.ownsRow base 3 1 v xs.length (xs.map (Value.int .i64))
theorem OwnI.lit1 {w : World} {base B : Nat} {x : Int} (hB : B = w.heap.size) (h : base ≤ B) : OwnI (w.alloc (.cells #[.int .i64 x] 3)) base (.slice (some ⟨B,0,none⟩) 1 1) [x] := by
 subst hB; exact World.ownsRow_lit w #[.int .i64 x] 1 h (by decide) rfl
theorem OwnI.nil (w : World) (base : Nat) : OwnI w base (.slice none 0 0) [] := World.ownsRow_nil _ _ _ _
theorem OwnI.mono {w : World} {base base' : Nat} {v : Value} {xs : List Int} (h : OwnI w base v xs) (hb : base' ≤ base) : OwnI w base' v xs := by
 refine ⟨h.1,?_⟩
 rcases h.2 with h | ⟨g,cap,cur,h1,h2,h3⟩
 ·exact .inl h
 ·exact .inr ⟨g,cap,cur,h1,by omega,h3⟩
theorem OwnI.shape {w : World} {base n cap : Nat} {ao : Option Addr} {xs : List Int} (h : OwnI w base (.slice ao n cap) xs) (hne : 0 < xs.length) :
  ∃ g,ao = some ⟨g,0,none⟩ ∧ base ≤ g ∧ g < w.heap.size ∧ ∀ (k : Nat) (z : Int),xs[k]? = some z → w.cell? ⟨g,k,none⟩ = some (.int .i64 z) := by
 rcases h.2 with ⟨h1,h2⟩ | ⟨g,cap',cur,h1,h2,h3,h4,h5,h6,h7⟩
 ·omega
 ·have hs : ao = some ⟨g,0,none⟩ := by simp only [Value.slice.injEq] at h1; exact h1.1
  refine ⟨g,hs,h2,(Array.getElem?_eq_some_iff.1 h3).1,fun k z hz => ?_⟩
  rw [cell_of_row w g k cur _ _ h3]
  have hk : k < xs.length := (List.getElem?_eq_some_iff.1 hz).1
  have e : (cur.toList.take (xs.length * 1))[k]? = some (.int .i64 z) := by rw [h7]; simp [hz]
  rw [List.getElem?_take,if_pos (by omega)] at e
  simpa using e
theorem OwnI.isSlice {w : World} {base : Nat} {v : Value} {xs : List Int} (h : OwnI w base v xs) : ∃ ao cap,v = .slice ao xs.length cap := by
 rcases h.2 with ⟨h1,h2⟩ | ⟨g,cap,cur,h1,_⟩
 ·exact ⟨none,0,by rw [h2]; exact h1⟩
 ·exact ⟨_,_,h1⟩
theorem take_snocI {α : Type} {xs : List α} {k : Nat} {z : α} (h : xs[k]? = some z) : xs.take (k + 1) = xs.take k ++ [z] := by
 rw [List.take_add_one,h]; rfl
structure Ins where
 op : Int
 d : Int
 a : Int
 b : Int
 f : Int
 n : Int
 sign : ByteArray
 argsV : Value
 modeV : Value
 to : Int
 els : Int
 ln : Int
 cl : Int
 args : List Int
def Ins.cells (i : Ins) : Array Value := #[.int .i64 i.op,.int .i64 i.d,.int .i64 i.a,.int .i64 i.b,.int .i64 i.f,.int .i64 i.n,.string i.sign,i.argsV,i.modeV,.int .i64 i.to,.int .i64 i.els,.int .i64 i.ln,.int .i64 i.cl]
def GivesI (w : World) (xs : List Int) (e : Ending) (w' : World) : Prop :=
 ∃ ao cap,e = .returned (.slice ao xs.length cap) ∧ OwnI w' w.heap.size (.slice ao xs.length cap) xs ∧ Below w.heap.size w w'
theorem ownsRow_below {w w' : World} {base : Nat} {e : TypeId} {size : Nat} {v : Value} {n : Nat} {xs : List Value} (h : w.ownsRow base e size v n xs) (hb : Below w.heap.size w w') : w'.ownsRow base e size v n xs := by
 refine ⟨h.1,?_⟩
 rcases h.2 with h' | ⟨g,cap,cur,e1,e2,e3,e4⟩
 ·exact .inl h'
 ·exact .inr ⟨g,cap,cur,e1,e2,(hb.block g (Array.getElem?_eq_some_iff.1 e3).1).trans e3,e4⟩
theorem cells_new (w : World) (cs : List Value) (t : TypeId) : ∀ j u,cs[j]? = some u → (w.alloc (.cells cs.toArray t)).cell? ((⟨w.heap.size,0,none⟩ : Addr).add j) = some u := by
 intro j u h
 rw [Addr.add_lit,Nat.zero_add,World.cell?_alloc_new]
 simpa using h
theorem wpList_make_at {P : Program} {w : World} {ops : Array Oper} {rest : List Oper} {o : Oper} {a : Act} {Q : Exit → Act → World → Prop}
  (hg : o.guard = none) (l c : Operand) (t : TypeId) (hop : o.op = Op.makeSlice t l c)
  (e : TypeId) (i : TypeInfo) (z : Value) (h1 : P.underlying t = some (.slice e)) (h2 : P.info? e = some i) (h3 : i.zero = some z) (h4 : i.size = 1) (hzc : z.cells = #[z])
  (kl kc : IntKind) (L C : Int) (n : Nat) (hl : a.eval l = .int kl L) (hc : a.eval c = .int kc C) (hL : L = (n : Int)) (hC : C = (n : Int)) (b2 : i.bytes * n ≤ 281474976710656) (b3 : n ≤ maxLen)
  (hK : wpList P ops Q rest (a.put o.dst (.slice (some ⟨w.heap.size,0,none⟩) n n)) (w.alloc (.cells (List.replicate n z).toArray e))) :
  wpList P ops Q (o :: rest) a w := by
 refine wpList_plain hg fun K hK' => ?_
 subst hL
 subst hC
 have h63' : (n : Int) ≤ 9223372036854775807 := by
  have h := b3
  simp [maxLen] at h
  omega
 have hb' : (i.bytes : Int) * (n : Int) ≤ 281474976710656 := by
  have h : ((i.bytes * n : Nat) : Int) ≤ 281474976710656 := by omega
  rwa [Int.natCast_mul] at h
 have hr := run_make (P := P) w t e i z h1 h2 h3 kl kc n n (by omega) (Int.le_refl _) hb' h63'
 simp only [Int.toNat_natCast,h4,hzc,Nat.mul_one] at hr
 have hm : madeCells #[z] n = (List.replicate n z).toArray := by
  rw [← toList_madeCells_one]
 rw [hm] at hr
 unfold Oper.wp
 simp [execOp,hop,hl,hc,hr,Result.andThen]
 exact hK' _ _ (by simpa using hK)
theorem run_loadVar_at {P : Program} (w : World) (ad : Addr) (ty : TypeId) (cs : Array Value) (d : TypeDesc) (hcells : ∀ j u,cs.toList[j]? = some u → w.cell? (ad.add j) = some u)
  (hu : P.underlying ty = some d) (hd : (match d with | .struct _ | .array _ _ => true | _ => false) = true) (hi : (P.info? ty).map (·.size) = some cs.size) :
  (loadVar ty ad).run P w = .ok (.agg cs) w := by
 have hl : (loadCells ad cs.toList.length).run P w = .ok cs.toList.toArray w := run_loadCells_list (P := P) w ad cs.toList hcells
 cases hq : P.info? ty with
 | none => simp [hq] at hi
 | some i =>
  have hs : i.size = cs.size := by simpa [hq] using hi
  have hagg : (isAgg ty).run P w = .ok true w := by
   unfold isAgg
   rw [Sem.run_bind,run_underlying hu w]
   cases d <;> simp_all
  simp only [Array.length_toList,Array.toArray_toList] at hl
  simp [loadVar,Sem.run_bind,hagg,sizeOf,typeInfo,hq,hs,hl]
theorem wpList_load_at {P : Program} {ops : Array Oper} {rest : List Oper} {o : Oper} {a : Act} {w : World} {Q : Exit → Act → World → Prop} (hgd : o.guard = none) (ty : TypeId) (x : Operand) (ho : o.op = .load ty x)
  (ad : Addr) (hx : a.eval x = .pointer (some ad)) (cs : Array Value) (d : TypeDesc) (hcells : ∀ j u,cs.toList[j]? = some u → w.cell? (ad.add j) = some u)
  (hu : P.underlying ty = some d) (hd : (match d with | .struct _ | .array _ _ => true | _ => false) = true) (hi : (P.info? ty).map (·.size) = some cs.size)
  (h : wpList P ops Q rest (a.put o.dst (.agg cs)) w) : wpList P ops Q (o :: rest) a w :=
 wpList_plain hgd fun _ hK => by
  unfold Oper.wp execOp
  simp only [ho,hx,Instr.loadAt,Instr.sureAddr,Sem.run_bind,Sem.run_pure,Result.andThen_ok,run_loadVar_at w ad ty cs d hcells hu hd hi]
  exact hK _ _ h
def InsRow (w : World) (B : Nat) (ao : Option Addr) (ins : List Ins) : Prop :=
 ins ≠ [] → ∃ b off,ao = some ⟨b,off,none⟩ ∧ b < B ∧ ∀ i x,ins[i]? = some x → ∀ k u,x.cells.toList[k]? = some u → w.cell? ⟨b,off + i * 13 + k,none⟩ = some u
theorem InsRow.below {w w' : World} {B n : Nat} {ao : Option Addr} {ins : List Ins} (h : InsRow w B ao ins) (hb : Below n w w') (hn : B ≤ n) : InsRow w' B ao ins := by
 intro hne
 obtain ⟨b,off,h1,h2,h3⟩ := h hne
 exact ⟨b,off,h1,h2,fun i x hx k u hu => by rw [hb.cell (p := ⟨b,_,none⟩) (Nat.lt_of_lt_of_le h2 hn)]; exact h3 i x hx k u hu⟩
structure Cod where
 nm : ByteArray
 par : Int
 varsA : Option Addr
 nvars : Nat
 varsC : Nat
 rp : Bool
 rto : ByteArray
 rcl : Int
 fromA : Option Addr
 nfrom : Nat
 fromC : Nat
 insA : Option Addr
 insC : Nat
 ins : List Ins
def Cod.cells (c : Cod) : Array Value := #[.string c.nm,.int .i64 c.par,.slice c.varsA c.nvars c.varsC,.bool c.rp,.string c.rto,.int .i64 c.rcl,.slice c.fromA c.nfrom c.fromC,.slice c.insA c.ins.length c.insC]
def inR (n : Nat) (x : Int) : Bool := decide (0 ≤ x ∧ x < n)
end Go.Proofs.Ytlggjbopfnndbaa
namespace Go.Proofs.Ytlggjbopfnndbaa
open Go.RowKit
section ext
variable {M M' : Nat → Prop} {w w' w'' : World}
theorem Ext.refl (M : Nat → Prop) (w : World) : Ext M w w := ⟨rfl,rfl,rfl,Nat.le_refl _,fun _ _ _ => rfl⟩
theorem Ext.mono (h : Ext M w w') (hm : ∀ k,M k → M' k) : Ext M' w w' := ⟨h.os,h.tape,h.output,h.size,fun k hk hn => h.block k hk (fun e => hn (hm k e))⟩
theorem Ext.trans (h : Ext M w w') (k : Ext M' w' w'') (hm : ∀ j,M' j → M j ∨ w.heap.size ≤ j) : Ext M w w'' :=
 ⟨k.os.trans h.os,k.tape.trans h.tape,k.output.trans h.output,Nat.le_trans h.size k.size,fun j hj hn => (k.block j (Nat.lt_of_lt_of_le hj h.size) (fun e => by rcases hm j e with e | e; exact hn e; omega)).trans (h.block j hj hn)⟩
theorem Ext.drew (h : Ext M w w') : Ext M w w'.drew := ⟨h.os,h.tape,h.output,h.size,h.block⟩
theorem Ext.alloc (h : Ext M w w') (o : Obj) : Ext M w (w'.alloc o) := ⟨h.os,h.tape,h.output,by rw [World.size_alloc]; exact Nat.le_succ_of_le h.size,fun k hk hn => (Below.heap_alloc w' o k (Nat.lt_of_lt_of_le hk h.size)).trans (h.block k hk hn)⟩
theorem Ext.setCell (h : Ext M w w') {a : Addr} (ha : M a.block ∨ w.heap.size ≤ a.block) (v : Value) : Ext M w (w'.setCell a v) :=
 ⟨h.os,h.tape,h.output,by rw [World.size_setCell]; exact h.size,fun k hk hn => (Below.heap_setCell w' a v k (fun e => by subst e; rcases ha with ha | ha; exact hn ha; omega)).trans (h.block k hk hn)⟩
theorem Ext.set1 (w : World) (b o : Nat) (v : Value) : Ext (· = b) w (w.setCell ⟨b,o,none⟩ v) := (Ext.refl (· = b) w).setCell (a := ⟨b,o,none⟩) (.inl rfl) v
theorem Ext.putObj (w : World) (l : Nat) (o : Obj) : Ext (· = l) w (w.putObj l o) := ⟨rfl,rfl,rfl,by simp,fun _ _ hn => World.putObj_heap_other hn⟩
theorem Ext.of_below {B : Nat} (h : Below B w w') : Ext (B ≤ ·) w w' := ⟨h.os,h.tape,h.output,h.size,fun k _ hn => h.block k (by omega)⟩
theorem Ext.of_below_size (h : Below w.heap.size w w') : Ext M w w' := ⟨h.os,h.tape,h.output,h.size,fun k hk _ => h.block k hk⟩
theorem Ext.below {B : Nat} (h : Ext M w w') (hB : B ≤ w.heap.size) (hm : ∀ k,M k → B ≤ k) : Below B w w' := ⟨h.os,h.tape,h.output,h.size,fun k hk => h.block k (by omega) (fun e => by have := hm k e; omega)⟩
theorem Ext.of_grown {row : Option Nat} (h : w.grownBy w' row) (hr : ∀ k,row = some k → M k ∨ w.heap.size ≤ k) : Ext M w w' := ⟨h.os,h.tape,h.output,h.size,fun k hk hn => h.block k hk (fun e => by rcases hr k e.symm with e | e; exact hn e; omega)⟩
theorem Ext.cell (h : Ext M w w') {a : Addr} (hk : a.block < w.heap.size) (hn : ¬ M a.block) : w'.cell? a = w.cell? a := World.cell?_of_block (w := w) (h.block a.block hk hn)
theorem Ext.heap (h : Ext M w w') {k : Nat} {o : Obj} (hk : w.heap[k]? = some o) (hn : ¬ M k) : w'.heap[k]? = some o := (h.block k (Array.getElem?_eq_some_iff.1 hk).1 hn).trans hk
end ext
/-! ### The marks of loops over functions -/
def mark (b : Nat) : Deferred := { target := .collected b,args := #[] }
def bodyPostC (P : Program) (fn : Func) (R : Ending → World → Prop) : Exit → Act → World → Prop
 | .normal,a,w | .ret,a,w => ∃ bs : List Nat,a.defers = bs.map mark ∧ bs.Nodup ∧ (∀ b ∈ bs,w.heap[b]? = some (.deferred (some []))) ∧
   ∃ v,∀ w',Ext (· ∈ bs) w w' → (results fn a.tmps).run P w' = .ok v w' ∧ R (.returned v) w'
 | _,_,_ => False
theorem leaves_marks {P : Program} {fn : Func} {n : Nat} {tmps : Array Value} {R : Ending → World → Prop} {v : Value} : ∀ (bs : List Nat) (w : World),bs.Nodup → (∀ b ∈ bs,w.heap[b]? = some (.deferred (some []))) →
  (∀ w',Ext (· ∈ bs) w w' → (results fn tmps).run P w' = .ok v w' ∧ R (.returned v) w') → LeavesInM Fence.wide n P fn tmps R (bs.map mark) .returning w
 | [],w,_,_,h => ⟨v,h w (Ext.refl _ _)⟩
 | b :: bs,w,hd,hb,h => by
  refine ⟨by simp,.inl ⟨b,_,rfl,run_takeDeferred (hb b (by simp)),?_⟩⟩
  have hn : b ∉ bs := (List.nodup_cons.1 hd).1
  refine leaves_marks bs _ (List.nodup_cons.1 hd).2 (fun b' hb' => ?_) (fun w' hw' => h w' ?_)
  ·rw [World.putObj_heap_other (fun e : b' = b => hn (by rw [← e]; exact hb'))]; exact hb b' (by simp [hb'])
  ·exact ((Ext.putObj w b _).mono (by simp)).trans hw' (fun j hj => .inl (by simp [hj]))
theorem calls_of_wp_marks {P : Program} {f : FuncId} {fn : Func} {c : Code} {args : Array Value} {w : World} {R : Ending → World → Prop} (hf : P.funcs[f]? = some fn) (hb : fn.body = some c)
  (h : c.wp P (bodyPostC P fn R) { tmps := args ++ Array.replicate (fn.ntmps - args.size) undef,defers := [] } w) : Calls P f args w R := by
 refine (callsIn_wide (n := 0)).1 (callsIn_of_wp_marks hf hb trivial (wpIn_wide.2 (wp_mono h ?_)))
 intro e a w hq
 cases e with
 | normal => obtain ⟨bs,h1,h2,h3,v,h4⟩ := hq; show LeavesInM _ _ _ _ _ _ a.defers _ _; rw [h1]; exact leaves_marks bs w h2 h3 h4
 | ret => obtain ⟨bs,h1,h2,h3,v,h4⟩ := hq; show LeavesInM _ _ _ _ _ _ a.defers _ _; rw [h1]; exact leaves_marks bs w h2 h3 h4
 | panic _ => exact hq.elim
 | exit _ => exact hq.elim
 | goto _ => exact hq.elim
 | outgrown => exact hq.elim
/-! ### What a function value does when it is called -/
def Meets (P : Program) (fv : Value) (args : Array Value) (W : World) (R : Value → World → Prop) : Prop :=
 ∀ (r : Option Nat) (n : Nat) (o : Oper) (f : Operand) (ys : Array Operand) (ts : Array TypeId) (a : Act) (K : Act → World → Prop) (Q : Exit → Act → World → Prop),
  o.op = .call { callee := .value f,args := ys,argTypes := ts } → a.eval f = fv → ys.map a.eval = args → (∀ v w',R v w' → K (a.put o.dst v) w') → o.wpIn { Fence.wide with round := r } n P a W K Q
theorem semAt_call {r : Option Nat} {o : Oper} {c : Call} (ρ : Operand → Value) (ho : o.op = .call c) : o.semAt r ρ = execOp ρ o := Oper.semAt_eq r ρ o (fun c' h => by rw [ho] at h; cases h)
theorem meets_of_yield {P : Program} {l m : Nat} {args : Array Value} {W : World} {R : Value → World → Prop} (h : YieldAt Fence.wide m P l args W fun e w' => ∃ v,e = .returned v ∧ R v w') : Meets P (.func (.yield l) #[] #[]) args W R := by
 intro r n o f ys ts a K Q ho hfv hy hK
 obtain ⟨fn,tmps,assign,body,hyl,_,hR⟩ := h
 refine ⟨fun _ _ => trivial,?_⟩
 rw [semAt_call _ ho]
 unfold execOp
 simp only [ho,resolve,hfv,hy]
 have e : (invoke (Target.fn (.yield l) #[]) (#[] ++ args)).run P W = .ok (.round l fn tmps assign body) W := by simp [invoke,hyl]
 simp only [Deferred.ofValue,Sem.run_bind,Sem.run_pure,Result.andThen_ok,e]
 refine ⟨fun h => by simp [Fence.wide] at h,trivial,fun c cs _ => ?_⟩
 obtain ⟨e',w',⟨v,rfl,hv⟩,hs⟩ := hR c cs (room_wide _)
 exact ⟨.returned v,w',hK v w' hv,hs⟩
theorem wpListIn_meets {P : Program} {n : Nat} {ops : Array Oper} {rest : List Oper} {o : Oper} {a : Act} {w : World} {Q : Exit → Act → World → Prop} {r : Option Nat} (hgd : o.guard = none) (f : Operand) (ys : Array Operand) (ts : Array TypeId)
  (ho : o.op = .call { callee := .value f,args := ys,argTypes := ts }) {fv : Value} {args : Array Value} {R : Value → World → Prop} (hf : a.eval f = fv) (hy : ys.map a.eval = args) (hm : Meets P fv args w R)
  (h : ∀ v w',R v w' → wpListIn { Fence.wide with round := r } n P ops Q rest (a.put o.dst v) w') : wpListIn { Fence.wide with round := r } n P ops Q (o :: rest) a w :=
 wpListIn_plain hgd fun _ hK => hm r n o f ys ts a _ Q ho hf hy fun v w' hv => hK _ _ (h v w' hv)
theorem wpListIn_ok {P : Program} {n : Nat} {ops : Array Oper} {rest : List Oper} {o : Oper} {a : Act} {w w' : World} {Q : Exit → Act → World → Prop} {r : Option Nat} (hgd : o.guard = none) (hd : ∀ c,o.op ≠ .defer c) (v : Value)
  (hrun : (execOp a.eval o).run P w = .ok (.value v) w') (h : wpListIn { Fence.wide with round := r } n P ops Q rest (a.put o.dst v) w') : wpListIn { Fence.wide with round := r } n P ops Q (o :: rest) a w :=
 wpListIn_plain hgd fun _ hK => by
  refine ⟨fun _ _ => trivial,?_⟩
  rw [Oper.semAt_eq _ _ _ hd,hrun]
  exact hK _ _ h
/-! ### Iterators -/
def Iter (P : Program) (gf : Nat) (lb : Array Value) {α : Type} (encs : α → Array Value) (xs : List α) (Rd : Nat → Prop) (w : World) : Prop :=
 ∀ (l : Nat) (J : List α → (Nat → Prop) → World → Prop) (Jx : List α → World → Prop) (C : Nat → Prop) (W : World),Below w.heap.size w W →
  (∀ pre C W1 W2,J pre C W1 → Ext (fun k => W.heap.size ≤ k ∧ ¬ C k) W1 W2 → J pre C W2) →
  (∀ pre C W1,J pre C W1 → ∀ k,C k → k < W1.heap.size ∧ ¬ Rd k) →
  (∀ pre W1 W2,Jx pre W1 → Ext (fun _ => False) W1 W2 → Jx pre W2) →
  (∀ pre x C W1,J pre C W1 → (pre ++ [x]) <+: xs → Meets P (.func (.yield l) #[] #[]) (encs x) W1 fun v W2 =>
   (v = .bool true ∧ ∃ C' : Nat → Prop,(∀ k,C' k → C k ∨ W1.heap.size ≤ k) ∧ J (pre ++ [x]) C' W2 ∧ Ext C W1 W2) ∨ (v = .bool false ∧ Jx (pre ++ [x]) W2)) →
  J [] C W →
  Calls P gf (#[.func (.yield l) #[] #[]] ++ lb) W fun e W' => ∃ v,e = .returned v ∧ ((∃ C',J xs C' W') ∨ (∃ pre,pre <+: xs ∧ Jx pre W'))
def sepPost {α : Type} (I : List α → (Nat → Prop) → World → Prop) (Ix : Code → List α → (Nat → Prop) → World → Prop) (C : Nat → Prop) (W : World) (pre : List α) : Exit → Act → World → Prop
 | .normal,_,W' => ∃ C' : Nat → Prop,(∀ k,C' k → C k ∨ W.heap.size ≤ k) ∧ I pre C' W' ∧ Ext C W W'
 | .ret,_,W' => ∃ C' : Nat → Prop,(∀ k,C' k → C k ∨ W.heap.size ≤ k) ∧ Ix .ret pre C' W' ∧ Ext C W W'
 | .exit id,_,W' => ∃ C' : Nat → Prop,(∀ k,C' k → C k ∨ W.heap.size ≤ k) ∧ Ix (.exit id) pre C' W' ∧ Ext C W W'
 | .goto t,_,W' => ∃ C' : Nat → Prop,(∀ k,C' k → C k ∨ W.heap.size ≤ k) ∧ Ix (.goto t) pre C' W' ∧ Ext C W W'
 | _,_,_ => False
set_option maxHeartbeats 1000000 in
theorem wp_rangeFunc_sep {P : Program} {α : Type} {g : Operand} {ps : Array Tmp} {assign body : Code} {Q : Exit → Act → World → Prop} {a : Act} {w : World} {gf : Nat} {lb : Array Value} {fn : Func} {fb : Code}
  (hg : a.eval g = .func (.func gf) #[] lb) (hf : P.funcs[gf]? = some fn) (hname : (fn.name == "runtime.NumGoroutine") = false) (hb : fn.body = some fb)
  {encs : α → Array Value} {xs : List α} {Rd : Nat → Prop} {w0 : World} (hit : Iter P gf lb encs xs Rd w0) (hb0 : Below w0.heap.size w0 w) (hRd : ∀ k,Rd k → k < w.heap.size) (hps : ∀ x,(encs x).size = ps.size)
  (I : List α → (Nat → Prop) → World → Prop) (Ix : Code → List α → (Nat → Prop) → World → Prop)
  (hI : ∀ pre C W W',I pre C W → Ext (fun k => w.heap.size ≤ k ∧ ¬ C k) W W' → I pre C W')
  (hIC : ∀ pre C W,I pre C W → ∀ k,C k → k < W.heap.size ∧ ¬ Rd k)
  (hIx : ∀ c pre C W W',Ix c pre C W → Ext (fun k => w.heap.size ≤ k ∧ ¬ C k) W W' → Ix c pre C W')
  (C0 : Nat → Prop) (h0 : I [] C0 w)
  (hround : ∀ (l : Nat) (pre : List α) (x : α) (C : Nat → Prop) (W : World),w.heap.size ≤ l → I pre C W → (pre ++ [x]) <+: xs →
   assign.wpIn (Fence.wide.inRound l) 0 P (Exit.then (fun a₁ W₁ => ∃ C₁ : Nat → Prop,(∀ k,C₁ k → C k ∨ W.heap.size ≤ k) ∧ I pre C₁ W₁ ∧ Ext C W W₁ ∧
    ∀ W₂,I pre C₁ W₂ → Ext (· = l) W₁ W₂ → body.wpIn (Fence.wide.inRound l) 0 P (sepPost I Ix C₁ W₂ (pre ++ [x])) a₁ W₂) (fun _ _ _ => False))
    { tmps := (ps.zip (encs x)).foldl (fun t (p,v) => t.setIfInBounds p v) a.tmps,defers := [] } W)
  (hdone : ∀ (D : Nat) (C : Nat → Prop) (W : World),w.heap.size ≤ D → ¬ C D → I xs C W → W.heap[D]? = some (.deferred (some [])) → Q .normal { a with defers := mark D :: a.defers } W)
  (hstop : ∀ (D : Nat) (c : Code) (pre : List α) (C : Nat → Prop) (W : World),w.heap.size ≤ D → ¬ C D → pre <+: xs → Ix c pre C W → W.heap[D]? = some (.deferred (some [])) → c.wp P Q { a with defers := mark D :: a.defers } W) :
  (Code.rangeFunc g ps assign body).wp P Q a w := by
 have eg : ∀ args w,(callFunc gf args).run P w = .ok (.enter gf args) w := enters_of hf hname hb
 refine (wpIn_wide (n := 0)).1 (wpIn_rangeFunc ?_)
 intro fnid _
 obtain ⟨rec,hrec⟩ : ∃ rec : LoopState → Option Code → Loop,rec = fun st pe => { state := st,pending := pe,fn := fnid,tmps := a.tmps,params := ps,assign,body,defers := w.heap.size } := ⟨_,rfl⟩
 obtain ⟨W1,hW1⟩ : ∃ W1,(w.alloc (.deferred (some []))).alloc (.loop (rec .ready none)) = W1 := ⟨_,rfl⟩
 obtain ⟨D,hD⟩ : ∃ D,w.heap.size = D := ⟨_,rfl⟩
 obtain ⟨l,hl⟩ : ∃ l,w.heap.size + 1 = l := ⟨_,rfl⟩
 have hs1 : W1.heap.size = w.heap.size + 2 := by rw [← hW1]; simp
 have hL1 : W1.heap[l]? = some (.loop (rec .ready none)) := by
  rw [← hW1,← hl]; have := World.alloc_heap_new (w.alloc (.deferred (some []))) (.loop (rec .ready none)); rwa [World.size_alloc] at this
 have hK1 : W1.heap[D]? = some (.deferred (some [])) := by
  rw [← hW1,← hD]; exact (Below.heap_alloc _ _ _ (by simp)).trans (World.alloc_heap_new w _)
 have hx1 : Ext (fun _ => False) w W1 := by rw [← hW1]; exact ((Ext.refl _ w).alloc _).alloc _
 have hI1 : I [] C0 W1 := hI _ _ _ _ h0 (hx1.mono (fun _ h => h.elim))
 have hb1 : Below w0.heap.size w0 W1 := hb0.trans ((hx1.below (Nat.le_refl _) (fun _ h => h.elim)).mono hb0.size)
 refine ⟨l,[mark D],W1,{ target := .fn (.func gf) lb,args := #[.func (.yield l) #[] #[]] },W1,gf,#[.func (.yield l) #[] #[]] ++ lb,W1,?_,?_,fun _ _ => trivial,?_,fun h => by simp [Fence.wide] at h,?_⟩
 ·rw [← hW1,hrec,← hl,← hD]; exact run_enterLoop_outer _ _ _ _ _
 ·simp only [resolve,hg]
  simp [go_sem]
 ·simp [invoke,go_sem,eg]
 have hIn := hit l
  (fun pre C W => ∃ CI : Nat → Prop,(∀ k,C k ↔ CI k ∨ k = l ∨ k = D) ∧ ¬ CI l ∧ ¬ CI D ∧ I pre CI W ∧ W.heap[l]? = some (.loop (rec .ready none)) ∧ W.heap[D]? = some (.deferred (some [])))
  (fun pre W => ∃ (CI : Nat → Prop) (c : Code),¬ CI l ∧ ¬ CI D ∧ Ix c pre CI W ∧ W.heap[l]? = some (.loop (rec .done (some c))) ∧ W.heap[D]? = some (.deferred (some [])))
  (fun k => C0 k ∨ k = l ∨ k = D) W1 hb1 ?hst ?hC ?hstx ?hY ⟨C0,fun _ => Iff.rfl,fun h => by have := (hIC _ _ _ h0 l h).1; omega,fun h => by have := (hIC _ _ _ h0 D h).1; omega,hI1,hL1,hK1⟩
 case hst =>
  rintro pre C X Y ⟨CI,hc,n1,n2,hi,h1,h2⟩ hx
  refine ⟨CI,hc,n1,n2,hI _ _ _ _ hi (hx.mono fun k hk => ⟨by omega,fun h => hk.2 ((hc k).2 (.inl h))⟩),hx.heap h1 (fun h => h.2 ((hc l).2 (by simp))),hx.heap h2 (fun h => h.2 ((hc D).2 (by simp)))⟩
 case hC =>
  rintro pre C X ⟨CI,hc,n1,n2,hi,h1,h2⟩ k hk
  rcases (hc k).1 hk with h | rfl | rfl
  ·exact hIC _ _ _ hi k h
  ·exact ⟨(Array.getElem?_eq_some_iff.1 h1).1,fun h => by have := hRd _ h; omega⟩
  ·exact ⟨(Array.getElem?_eq_some_iff.1 h2).1,fun h => by have := hRd _ h; omega⟩
 case hstx =>
  rintro pre X Y ⟨CI,c,n1,n2,hi,h1,h2⟩ hx
  exact ⟨CI,c,n1,n2,hIx _ _ _ _ _ hi (hx.mono fun _ h => h.elim),hx.heap h1 (fun h => h),hx.heap h2 (fun h => h)⟩
 case hY =>
  rintro pre x C W ⟨CI,hc,n1,n2,hi,hlp,hdp⟩ hpre
  have hlt : l < W.heap.size := (Array.getElem?_eq_some_iff.1 hlp).1
  have hltD : D < W.heap.size := (Array.getElem?_eq_some_iff.1 hdp).1
  have hy := run_yield (P := P) (args := encs x) hlp (by rw [hrec]; exact hps x)
  rw [hrec] at hy
  refine meets_of_yield (m := 0) ⟨fnid,_,assign,body,hy,roundIn_of_wpIn trivial (wpIn_mono (hround l pre x CI W (by omega) hi hpre) ?_)⟩
  intro e a₁ W₁ hq
  cases e with
  | normal =>
   obtain ⟨C₁,hc1,hi1,hx1',hbody⟩ := hq
   have hl1 := hx1'.heap hlp n1
   have hd1 := hx1'.heap hdp n2
   have m1 : ¬ C₁ l := fun h => by rcases hc1 l h with h | h; exact n1 h; omega
   have m2 : ¬ C₁ D := fun h => by rcases hc1 D h with h | h; exact n2 h; omega
   refine ⟨_,run_beginRound hl1 (by rw [hrec]),?_⟩
   obtain ⟨W₂,hW₂⟩ : ∃ W₂,W₁.putObj l (.loop { rec .ready none with state := .busy }) = W₂ := ⟨_,rfl⟩
   rw [hW₂]
   have hxp : Ext (· = l) W₁ W₂ := by rw [← hW₂]; exact Ext.putObj _ _ _
   have hl2 : W₂.heap[l]? = some (.loop { rec .ready none with state := .busy }) := by rw [← hW₂]; exact World.putObj_heap_same (Array.getElem?_eq_some_iff.1 hl1).1
   have hd2 : W₂.heap[D]? = some (.deferred (some [])) := hxp.heap hd1 (by omega)
   have hi2 : I pre C₁ W₂ := hI _ _ _ _ hi1 (hxp.mono fun k hk => by subst hk; exact ⟨by omega,m1⟩)
   refine wpIn_mono (hbody W₂ hi2 hxp) ?_
   have hCx : Ext C W W₁ := hx1'.mono fun k h => (hc k).2 (.inl h)
   have fin : ∀ (jump : Option Code) (C' : Nat → Prop) (W₃ : World),(∀ k,C' k → C₁ k ∨ W₂.heap.size ≤ k) → Ext C₁ W₂ W₃ →
     (Instr.endRound l jump).run P W₃ = .ok (.bool jump.isNone) (W₃.putObj l (.loop (rec (if jump.isNone then .ready else .done) jump))) ∧
     (W₃.putObj l (.loop (rec (if jump.isNone then .ready else .done) jump))).heap[l]? = some (.loop (rec (if jump.isNone then .ready else .done) jump)) ∧
     (W₃.putObj l (.loop (rec (if jump.isNone then .ready else .done) jump))).heap[D]? = some (.deferred (some [])) ∧ ¬ C' l ∧ ¬ C' D ∧ Ext C W (W₃.putObj l (.loop (rec (if jump.isNone then .ready else .done) jump))) ∧
     Ext (fun k => w.heap.size ≤ k ∧ ¬ C' k) W₃ (W₃.putObj l (.loop (rec (if jump.isNone then .ready else .done) jump))) ∧ (∀ k,C' k → CI k ∨ W.heap.size ≤ k) := by
    intro jump C' W₃ hc3 hx3
    have hl3 := hx3.heap hl2 m1
    have hd3 := hx3.heap hd2 m2
    have hr := run_endRound (P := P) jump hl3
    rw [hrec] at hr ⊢
    have q1 : ¬ C' l := fun h => by rcases hc3 l h with h | h; exact m1 h; have := hxp.size; have := hx1'.size; omega
    have q2 : ¬ C' D := fun h => by rcases hc3 D h with h | h; exact m2 h; have := hxp.size; have := hx1'.size; omega
    refine ⟨hr,World.putObj_heap_same (Array.getElem?_eq_some_iff.1 hl3).1,(World.putObj_heap_other (by omega)).trans hd3,q1,q2,?_,(Ext.putObj _ _ _).mono (fun k hk => by subst hk; exact ⟨by omega,q1⟩),?_⟩
    ·refine ((hCx.trans hxp (fun j hj => .inl ((hc j).2 (by simp [hj])))).trans hx3 (fun j hj => ?_)).trans (Ext.putObj _ _ _) (fun j hj => .inl ((hc j).2 (by simp [hj])))
     rcases hc1 j hj with h | h
     ·exact .inl ((hc j).2 (.inl h))
     ·exact .inr h
    ·intro k hk
     rcases hc3 k hk with h | h
     ·exact hc1 k h
     ·right; have := hxp.size; have := hx1'.size; omega
   intro e a3 W3 hp
   cases e with
   | normal =>
    obtain ⟨C',hc3,hi3,hx3⟩ := hp
    obtain ⟨hr,hl4,hd4,q1,q2,hx4,hx5,hcc⟩ := fin none C' W3 hc3 hx3
    refine ⟨_,_,hr,_,rfl,.inl ⟨rfl,fun k => C' k ∨ k = l ∨ k = D,fun k hk => ?_,⟨C',fun _ => Iff.rfl,q1,q2,hI _ _ _ _ hi3 hx5,hl4,hd4⟩,hx4⟩⟩
    rcases hk with h | h | h
    ·rcases hcc k h with h | h
     ·exact .inl ((hc k).2 (.inl h))
     ·exact .inr h
    ·exact .inl ((hc k).2 (by simp [h]))
    ·exact .inl ((hc k).2 (by simp [h]))
   | ret =>
    obtain ⟨C',hc3,hi3,hx3⟩ := hp
    obtain ⟨hr,hl4,hd4,q1,q2,hx4,hx5,hcc⟩ := fin (some .ret) C' W3 hc3 hx3
    exact ⟨_,_,hr,_,rfl,.inr ⟨rfl,C',.ret,q1,q2,hIx _ _ _ _ _ hi3 hx5,hl4,hd4⟩⟩
   | exit id =>
    obtain ⟨C',hc3,hi3,hx3⟩ := hp
    obtain ⟨hr,hl4,hd4,q1,q2,hx4,hx5,hcc⟩ := fin (some (.exit id)) C' W3 hc3 hx3
    exact ⟨_,_,hr,_,rfl,.inr ⟨rfl,C',.exit id,q1,q2,hIx _ _ _ _ _ hi3 hx5,hl4,hd4⟩⟩
   | goto t =>
    obtain ⟨C',hc3,hi3,hx3⟩ := hp
    obtain ⟨hr,hl4,hd4,q1,q2,hx4,hx5,hcc⟩ := fin (some (.goto t)) C' W3 hc3 hx3
    exact ⟨_,_,hr,_,rfl,.inr ⟨rfl,C',.goto t,q1,q2,hIx _ _ _ _ _ hi3 hx5,hl4,hd4⟩⟩
   | panic ch => exact hp.elim
   | outgrown => exact hp.elim
  | exit _ => exact hq.elim
  | goto _ => exact hq.elim
  | ret => exact hq.elim
  | panic _ => exact hq.elim
  | outgrown => exact hq.elim
 refine CallsIn.mono ((callsIn_wide (n := 0 - 1)).2 hIn) ?_
 rintro e W2 ⟨v,rfl,(⟨C',CI,hc,n1,n2,hi,hlp,hdp⟩ | ⟨pre,hpre,CI,c,n1,n2,hi,hlp,hdp⟩)⟩
 ·have hr := run_endLoop (P := P) hlp (by rw [hrec]; simp)
  rw [hrec] at hr
  refine ⟨none,_,hr,hdone D CI _ (by omega) n2 (hI _ _ _ _ hi ((Ext.putObj _ _ _).mono fun k hk => by subst hk; exact ⟨by omega,n1⟩)) ((World.putObj_heap_other (by omega)).trans hdp)⟩
 ·have hr := run_endLoop (P := P) hlp (by rw [hrec]; simp)
  rw [hrec] at hr
  refine ⟨some c,_,hr,wpIn_wide.2 (hstop D c pre CI _ (by omega) n2 hpre (hIx _ _ _ _ _ hi ((Ext.putObj _ _ _).mono fun k hk => by subst hk; exact ⟨by omega,n1⟩)) ((World.putObj_heap_other (by omega)).trans hdp))⟩
end Go.Proofs.Ytlggjbopfnndbaa
