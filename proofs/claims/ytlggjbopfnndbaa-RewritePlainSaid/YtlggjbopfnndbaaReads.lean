/- What an instruction reads and writes: the program's and the reference's. -/
import Derived.Test.YtlggjbopfnndbaaOpen
import Derived.Laws.OwnMore
namespace Go.Proofs.Ytlggjbopfnndbaa
open Go.RowKit
def shD (op : Int) : Bool := decide (op ∈ [1,2,3,4,5,7,9,10,12,14,15])
def shA (op : Int) : Bool := decide (op ∈ [3,4,6,7,8,9,10,11,13,14,17,18])
def shB (op : Int) : Bool := decide (op ∈ [4,8,11])
theorem ops_cases (op : Int) : (op = 1 ∨ op = 2 ∨ op = 3 ∨ op = 4 ∨ op = 5 ∨ op = 6 ∨ op = 7 ∨ op = 8 ∨ op = 9 ∨ op = 10 ∨ op = 11 ∨ op = 12 ∨ op = 13 ∨ op = 14 ∨ op = 15 ∨ op = 17 ∨ op = 18) ∨ (op ≠ 1 ∧ op ≠ 2 ∧ op ≠ 3 ∧ op ≠ 4 ∧ op ≠ 5 ∧ op ≠ 6 ∧ op ≠ 7 ∧ op ≠ 8 ∧ op ≠ 9 ∧ op ≠ 10 ∧ op ≠ 11 ∧ op ≠ 12 ∧ op ≠ 13 ∧ op ≠ 14 ∧ op ≠ 15 ∧ op ≠ 17 ∧ op ≠ 18) := by omega
set_option maxRecDepth 100000 in
set_option maxHeartbeats 2000000 in
theorem shape_calls (op : Int) (w : World) : Calls Try.prog 132 #[.int .i64 op] w fun e w' => e = .returned (.tuple #[.bool (shD op),.bool (shA op),.bool (shB op)]) ∧ w = w' := by
 rcases ops_cases op with h | h
 ·rcases h with rfl | rfl | rfl | rfl | rfl | rfl | rfl | rfl | rfl | rfl | rfl | rfl | rfl | rfl | rfl | rfl | rfl
  all_goals
   go_enter Try.func132,Try.ntmps132
   go_wp2
   go_ret3
   exact ⟨rfl,rfl⟩
 ·obtain ⟨h1,h2,h3,h4,h5,h6,h7,h8,h9,h10,h11,h12,h13,h14,h15,h17,h18⟩ := h
  have e1 : (op == 1) = false := by simpa using h1
  have e2 : (op == 2) = false := by simpa using h2
  have e3 : (op == 3) = false := by simpa using h3
  have e4 : (op == 4) = false := by simpa using h4
  have e5 : (op == 5) = false := by simpa using h5
  have e6 : (op == 6) = false := by simpa using h6
  have e7 : (op == 7) = false := by simpa using h7
  have e8 : (op == 8) = false := by simpa using h8
  have e9 : (op == 9) = false := by simpa using h9
  have e10 : (op == 10) = false := by simpa using h10
  have e11 : (op == 11) = false := by simpa using h11
  have e12 : (op == 12) = false := by simpa using h12
  have e13 : (op == 13) = false := by simpa using h13
  have e14 : (op == 14) = false := by simpa using h14
  have e15 : (op == 15) = false := by simpa using h15
  have e17 : (op == 17) = false := by simpa using h17
  have e18 : (op == 18) = false := by simpa using h18
  have HD : Hid (shD op = false ∧ shA op = false ∧ shB op = false) := by
   unfold shD shA shB
   refine ⟨decide_eq_false ?_,decide_eq_false ?_,decide_eq_false ?_⟩ <;> (simp; omega)
  clear h1 h2 h3 h4 h5 h6 h7 h8 h9 h10 h11 h12 h13 h14 h15 h17 h18
  go_enter Try.func132,Try.ntmps132
  go_wp2
  go_ret3
  obtain ⟨a,b,c⟩ := HD.out
  exact ⟨by rw [a,b,c]; rfl,rfl⟩
def IntsAt (w : World) (ao : Option Addr) (xs : List Int) : Prop :=
 xs ≠ [] → ∃ g off,ao = some ⟨g,off,none⟩ ∧ g < w.heap.size ∧ ∀ i z,xs[i]? = some z → w.cell? ⟨g,off + i,none⟩ = some (.int .i64 z)
theorem OwnI.at_ {w : World} {base n cap : Nat} {ao : Option Addr} {xs : List Int} (h : OwnI w base (.slice ao n cap) xs) : IntsAt w ao xs := by
 intro hne
 obtain ⟨g,e,_,hg,hc⟩ := h.shape (List.length_pos_iff.2 hne)
 exact ⟨g,0,e,hg,fun i z hz => by rw [Nat.zero_add]; exact hc i z hz⟩
theorem IntRow.at_ {w : World} {ao : Option Addr} {xs : List Int} (h : IntRow w ao xs) : IntsAt w ao xs := by
 intro hne
 obtain ⟨b,off,e,hb,hc⟩ := h hne
 exact ⟨b,off,e,hb,fun i z hz => by have := hc i z hz 0 _ rfl; simpa using this⟩
theorem IntsAt.below {w w' : World} {ao : Option Addr} {xs : List Int} (h : IntsAt w ao xs) (hb : Below w.heap.size w w') : IntsAt w' ao xs := by
 intro hne
 obtain ⟨g,off,e,hg,hc⟩ := h hne
 exact ⟨g,off,e,Nat.lt_of_lt_of_le hg hb.size,fun i z hz => by rw [hb.cell (p := ⟨g,_,none⟩) hg]; exact hc i z hz⟩
set_option maxRecDepth 100000 in
set_option maxHeartbeats 1000000 in
theorem in5_calls (w : World) (c : Nat) (ao : Option Addr) (xs : List Int) (z : Int) (hn : xs.length ≤ 90000) (h : IntsAt w ao xs) :
  Calls Try.prog 108 #[.int .i64 z,.slice ao xs.length c] w fun e w' => e = .returned (.bool (decide (z ∈ xs))) ∧ w = w' := by
 have H := Lib.hid h
 clear h
 go_enter Try.func108,Try.ntmps108
 go_wp2_with fail
 go_loop [5] (fun k => ∃ j : Nat,j ≤ xs.length ∧ k = .int .i64 (j : Int) ∧ z ∉ xs.take j) (fun k => xs.length - (intOf k).toNat)
 case atStart => exact ⟨0,Nat.zero_le _,rfl,by simp⟩
 case round =>
  obtain ⟨j,hj,rfl,hz⟩ := hrel
  by_cases hjl : j < xs.length
  ·obtain ⟨y,hy⟩ : ∃ y,xs[j]? = some y := ⟨_,List.getElem?_eq_getElem hjl⟩
   obtain ⟨g1,off,rfl,hg1,q1⟩ := H.out (by intro e; rw [e] at hjl; simp at hjl)
   have d1 : w.cell? ⟨g1,off + j,none⟩ = some (.int .i64 y) := q1 j y hy
   have hjI : (j : Int) < (xs.length : Int) := by omega
   by_cases he : y = z
   ·have hyz : (y == z) = true := by simp [he]
    have HM : Hid (decide (z ∈ xs) = true) := decide_eq_true (by rw [← he]; exact List.mem_of_getElem? hy)
    clear hy q1 hz he
    go_wp2
    go_ret
    exact ⟨by rw [HM.out]; rfl,rfl⟩
   ·have hyz : (y == z) = false := by simp [he]
    have HN : Hid (z ∉ xs.take (j + 1)) := by
     unfold Hid; rw [List.take_add_one,hy]; simp [hz]; exact fun e => he e.symm
    clear hy q1 hz he
    go_wp2
    go_round
    case rel => exact ⟨j + 1,by omega,by go_num,HN.out⟩
    case measure => simp [intOf]; omega
  ·have hje : j = xs.length := by omega
   subst hje
   rw [List.take_length] at hz
   have HM : Hid (decide (z ∈ xs) = false) := decide_eq_false hz
   clear hz
   go_wp2
   go_ret
   exact ⟨by rw [HM.out]; rfl,rfl⟩
theorem IntsAt.nil_of_none {w : World} {xs : List Int} (h : IntsAt w none xs) : xs = [] := by
 by_cases e : xs = []
 ·exact e
 ·obtain ⟨g,off,h1,_⟩ := h e
  cases h1
theorem run_append_none {P : Program} (w : World) (base : Nat) (t ty e : TypeId) (i : TypeInfo) (size : Nat) (ht : P.underlying t = some (.slice e)) (hi : P.info? e = some i)
  (v : Value) (n : Nat) (xs : List Value) (hown : w.ownsRow base e size v n xs) (c : Nat) : (Builtin.append_ #[t,t] ty #[v,.slice none 0 c]).run P w = .ok v w := by
 rcases hown.2 with ⟨rfl,rfl⟩ | ⟨g,cap,cur,rfl,_,_,hnc,_⟩
 ·simp [Builtin.append_,run_underlying ht,sizeOf,typeInfo,hi,Builtin.lenOf,Builtin.firstCells]
 ·simp [Builtin.append_,run_underlying ht,sizeOf,typeInfo,hi,Builtin.lenOf,Builtin.firstCells,hnc,storeCells]
theorem wpList_append_ints {w : World} {ops : Array Oper} {rest : List Oper} {o : Oper} {a : Act} {Q : Exit → Act → World → Prop} (hgd : o.guard = none) (s x : Operand)
  (ho : o.op = .call { callee := .builtin .append,args := #[s,x],argTypes := #[35,35] }) (base : Nat) (v : Value) (xs : List Int) (hs : a.eval s = v) (hown : OwnI w base v xs)
  (ao : Option Addr) (ys : List Int) (c : Nat) (hx : a.eval x = .slice ao ys.length c) (hat : IntsAt w ao ys) (h63 : xs.length + ys.length ≤ 90000) (hbase : base ≤ w.heap.size)
  (h : ∀ v' w',OwnI w' base v' (xs ++ ys) → w.grownBy w' v.ownBlock → wpList Try.prog ops Q rest (a.put o.dst v') w') : wpList Try.prog ops Q (o :: rest) a w := by
 obtain ⟨i0,hi,hz0,hz1,hz2⟩ := info_parts info_int
 have hh : ∀ v' w',w'.ownsRow base 3 1 v' (xs.length + ys.length) (xs.map (Value.int .i64) ++ ys.map (Value.int .i64)) → w.grownBy w' v.ownBlock → wpList Try.prog ops Q rest (a.put o.dst v') w' := fun v' w' h1 h2 => h v' w' (by unfold OwnI; simpa using h1) h2
 cases ao with
 | none =>
  obtain rfl := hat.nil_of_none
  refine wpList_plain hgd fun K hK => ?_
  have hrun := run_append_none (P := Try.prog) w base 35 o.type 3 i0 1 Try.underlying35 hi v _ _ hown c
  have hx' : a.eval x = .slice none 0 c := hx
  unfold Oper.wp
  simp [execOp,ho,resolve,invoke,builtin,hs,hx',hrun,Result.andThen]
  exact hK _ _ (hh _ _ (by have h := hown; unfold OwnI at h; simpa using h) (World.grownBy.refl w _))
 | some ad =>
  refine wpList_append_own _ hgd s x 35 ho base 3 i0 (.int .i64 0) 1 8 Try.underlying35 hi hz0 hz1 hz2 rfl (by decide) v xs.length _ hs hown ad ys.length c (ys.map (Value.int .i64)) hx (by simp) (fun j u hu => ?_) (by simp; intro _ _; rfl) (by unfold maxLen; omega) (by omega) hbase (fun v' w' h1 h2 _ => hh v' w' h1 h2)
  obtain ⟨z,hz,rfl⟩ : ∃ z,ys[j]? = some z ∧ Value.int .i64 z = u := by
   rw [List.getElem?_map] at hu
   cases hy : ys[j]? with
   | none => rw [hy] at hu; simp at hu
   | some z => rw [hy] at hu; exact ⟨z,rfl,by simpa using hu⟩
  obtain ⟨g,off,e,_,hc⟩ := hat (by intro e; rw [e] at hz; simp at hz)
  obtain rfl := Option.some.inj e
  rw [Addr.add_lit]; exact hc j z hz
def writesOf (i : Ins) : Int × Bool := if shD i.op = true then (i.d,true) else (0,false)
def readsOf (i : Ins) : List Int := (if shA i.op = true then [i.a] else []) ++ (if shB i.op = true then [i.b] else []) ++ (if i.op = 15 then i.args else [])
set_option maxRecDepth 100000 in
set_option maxHeartbeats 1000000 in
theorem irWrites_calls (i : Ins) (w : World) (hok : i.ok) : Calls Try.prog 120 #[.agg i.cells] w fun e w' => e = .returned (.tuple #[.int .i64 (writesOf i).1,.bool (writesOf i).2]) ∧ Below w.heap.size w w' := by
 obtain ⟨op,d,a,b,f,n,sign,argsV,modeV,tgt,els,ln,cl,args⟩ := i
 obtain ⟨⟨ao,cap,h1⟩,ao2,n2,cap2,h2⟩ := hok
 simp only at h1 h2
 subst h1 h2
 simp only [Ins.cells,writesOf]
 have HS := Lib.hid (shape_calls op)
 cases hd : shD op with
 | true =>
  go_enter Try.func120,Try.ntmps120
  go_wp2_with (go_at_call 132; refine (HS.out _).mono ?_; rintro e w' ⟨rfl,rfl⟩)
  go_ret2
  exact ⟨rfl,(Below.refl _ _).alloc (Nat.le_refl _) _⟩
 | false =>
  go_enter Try.func120,Try.ntmps120
  go_wp2_with (go_at_call 132; refine (HS.out _).mono ?_; rintro e w' ⟨rfl,rfl⟩)
  go_ret2
  exact ⟨rfl,(Below.refl _ _).alloc (Nat.le_refl _) _⟩
theorem below_grown {B : Nat} {a w w' : World} {v : Value} {xs : List Int} (h : Below B a w) (hB : B ≤ w.heap.size) (hv : OwnI w B v xs) (hg : w.grownBy w' v.ownBlock) : Below B a w' :=
 h.grown hg hB (fun k hk => (hv.lt k hk).1)
theorem IntsAt.one (w : World) (z : Int) {B : Nat} (hB : B = w.heap.size) : IntsAt (w.alloc (.cells #[.int .i64 z] 3)) (some ⟨B,0,none⟩) [z] := by
 subst hB
 intro _
 refine ⟨w.heap.size,0,rfl,by simp,fun i u hi => ?_⟩
 rw [Nat.zero_add,World.cell?_alloc_new]
 have : i < 1 := (List.getElem?_eq_some_iff.1 hi).1
 obtain rfl : i = 0 := by omega
 simp at hi; subst hi; rfl
theorem shB_shA {op : Int} (h : shB op = true) : shA op = true := by
 unfold shB at h; unfold shA
 have := of_decide_eq_true h
 refine decide_eq_true ?_
 simp at this ⊢; omega
theorem readsOf_len (i : Ins) (h : i.args.length ≤ 40) : (readsOf i).length ≤ 42 := by
 unfold readsOf
 simp only [List.length_append]
 have : (if shA i.op = true then [i.a] else []).length ≤ 1 := by split <;> simp
 have : (if shB i.op = true then [i.b] else []).length ≤ 1 := by split <;> simp
 have : (if i.op = 15 then i.args else []).length ≤ 40 := by
  split
  ·exact h
  ·simp
 omega
set_option maxRecDepth 100000 in
set_option maxHeartbeats 2000000 in
theorem irReads_calls (i : Ins) (w : World) (hin : i.args_in w) (hl : i.args.length ≤ 40) : Calls Try.prog 119 #[.agg i.cells] w (GivesI w (readsOf i)) := by
 obtain ⟨op,d,a,b,f,n,sign,argsV,modeV,tgt,els,ln,cl,args⟩ := i
 obtain ⟨⟨_,ao2,n2,cap2,h2⟩,ao,cap,h1,hrow⟩ := hin
 simp only at h1 h2 hrow hl
 subst h1 h2
 simp only [Ins.cells,readsOf]
 have HS := Lib.hid (shape_calls op)
 have HROW := Lib.hid hrow.at_
 clear hrow
 obtain ⟨N,hN⟩ : ∃ N,w.heap.size = N := ⟨_,rfl⟩
 by_cases h15 : op = 15
 ·subst h15
  have e : (if shA 15 = true then [a] else []) ++ (if shB 15 = true then [b] else []) ++ (if (15 : Int) = 15 then args else []) = args := by
   rw [if_neg (by decide),if_neg (by decide),if_pos rfl]; rfl
  rw [e]
  go_enter Try.func119,Try.ntmps119
  go_wp2_with (first
   | (go_at_call 132; refine (HS.out _).mono ?_; rintro e w' ⟨rfl,rfl⟩)
   | (at_builtin; refine wpList_append_ints rfl (.tmp 28) (.tmp 30) rfl (N + 1) (.slice none 0 0) [] rfl (OwnI.nil _ _) ao args cap rfl (HROW.out.below ((Below.refl _ _).alloc (Nat.le_refl _) _)) ?c1 ?c2 ?_))
  case c1 => simp; omega
  case c2 => simp; omega
  intro v' w' hown hgrow
  obtain ⟨ao',cap',rfl⟩ := hown.isSlice
  have HG : Hid (OwnI w' (N + 1) (.slice ao' args.length cap') args ∧ Below N w w') := ⟨by simpa using hown,by
   refine below_grown (v := .slice none 0 0) (xs := []) ?_ ?_ (OwnI.nil _ _) hgrow
   ·rw [← hN]; exact (Below.refl _ _).alloc (Nat.le_refl _) _
   ·simp; omega⟩
  clear hown hgrow
  try simp only [List.nil_append]
  go_wp2
  go_ret
  exact ⟨_,_,rfl,by first | exact HG.out.1.mono (Nat.le_succ N) | (rw [hN]; exact HG.out.1.mono (Nat.le_succ N)),by first | exact HG.out.2 | (rw [hN]; exact HG.out.2)⟩
 ·have h15' : (op == 15) = false := by simpa using h15
  rw [if_neg h15,List.append_nil]
  clear h15
  cases ha : shA op with
  | false =>
   have hb : shB op = false := by
    cases h : shB op with
    | false => rfl
    | true => rw [shB_shA h] at ha; cases ha
   rw [hb,if_neg (by decide),if_neg (by decide)]
   go_enter Try.func119,Try.ntmps119
   go_wp2_with (go_at_call 132; refine (HS.out _).mono ?_; rintro e w' ⟨rfl,rfl⟩)
   go_ret
   exact ⟨none,0,rfl,OwnI.nil _ _,(Below.refl _ _).alloc (by omega) _⟩
  | true =>
   cases hb : shB op with
   | false =>
    rw [if_pos rfl,if_neg (by decide),List.append_nil]
    go_enter Try.func119,Try.ntmps119
    go_wp2_with (first
     | (go_at_call 132; refine (HS.out _).mono ?_; rintro e w' ⟨rfl,rfl⟩)
     | (at_builtin; refine wpList_append_ints rfl (.tmp 14) (.tmp 17) rfl (N + 1) (.slice none 0 0) [] rfl (OwnI.nil _ _) _ [a] 1 rfl (IntsAt.one _ _ (by simp [hN])) ?c1 ?c2 ?_))
    case c1 => simp
    case c2 => simp; omega
    intro v' w' hown hgrow
    obtain ⟨ao',cap',rfl⟩ := hown.isSlice
    have HG : Hid (OwnI w' (N + 1) (.slice ao' [a].length cap') [a] ∧ Below N w w') := ⟨by simpa using hown,by
     refine below_grown (v := .slice none 0 0) (xs := []) ?_ ?_ (OwnI.nil _ _) hgrow
     ·rw [← hN]; exact ((Below.refl _ _).alloc (Nat.le_refl _) _).alloc (by simp) _
     ·simp; omega⟩
    have hx1 : Ext (fun _ => False) ((w.alloc (.cells #[.int .i64 op,.int .i64 d,.int .i64 a,.int .i64 b,.int .i64 f,.int .i64 n,.string sign,.slice ao args.length cap,.slice ao2 n2 cap2,.int .i64 tgt,.int .i64 els,.int .i64 ln,.int .i64 cl] 62)).alloc (.cells #[.int .i64 a] 3)) w' := Ext.of_grown hgrow (fun k hk => by simp [Value.ownBlock] at hk)
    have hb0 : w'.cell? ⟨N,0,none⟩ = some (.int .i64 op) := by
     rw [hx1.cell (a := ⟨N,0,none⟩) (by simp; omega) (fun h => h),← hN,World.cell?_alloc_lt _ _ _ (by simp),World.cell?_alloc_new]; rfl
    clear hown hgrow hx1
    try simp only [List.nil_append]
    go_wp2
    go_ret
    exact ⟨_,_,rfl,by first | exact HG.out.1.mono (Nat.le_succ N) | (rw [hN]; exact HG.out.1.mono (Nat.le_succ N)),by first | exact HG.out.2 | (rw [hN]; exact HG.out.2)⟩
   | true =>
    rw [if_pos rfl,if_pos rfl]
    go_enter Try.func119,Try.ntmps119
    go_wp2_with (first
     | (go_at_call 132; refine (HS.out _).mono ?_; rintro e w' ⟨rfl,rfl⟩)
     | (at_builtin; refine wpList_append_ints rfl (.tmp 14) (.tmp 17) rfl (N + 1) (.slice none 0 0) [] rfl (OwnI.nil _ _) _ [a] 1 rfl (IntsAt.one _ _ (by simp [hN])) ?c1 ?c2 ?_))
    case c1 => simp
    case c2 => simp; omega
    intro v1 w1 hown1 hgrow1
    obtain ⟨ao1,cap1,rfl⟩ := hown1.isSlice
    have hx1 : Ext (fun _ => False) ((w.alloc (.cells #[.int .i64 op,.int .i64 d,.int .i64 a,.int .i64 b,.int .i64 f,.int .i64 n,.string sign,.slice ao args.length cap,.slice ao2 n2 cap2,.int .i64 tgt,.int .i64 els,.int .i64 ln,.int .i64 cl] 62)).alloc (.cells #[.int .i64 a] 3)) w1 := Ext.of_grown hgrow1 (fun k hk => by simp [Value.ownBlock] at hk)
    have hb1 : w1.cell? ⟨N,3,none⟩ = some (.int .i64 b) := by
     rw [hx1.cell (a := ⟨N,3,none⟩) (by simp; omega) (fun h => h),← hN,World.cell?_alloc_lt _ _ _ (by simp),World.cell?_alloc_new]; rfl
    have hb0 : w1.cell? ⟨N,0,none⟩ = some (.int .i64 op) := by
     rw [hx1.cell (a := ⟨N,0,none⟩) (by simp; omega) (fun h => h),← hN,World.cell?_alloc_lt _ _ _ (by simp),World.cell?_alloc_new]; rfl
    have HG1 : Hid (OwnI w1 (N + 1) (.slice ao1 [a].length cap1) [a] ∧ Below N w w1) := ⟨by simpa using hown1,by
     refine below_grown (v := .slice none 0 0) (xs := []) ?_ ?_ (OwnI.nil _ _) hgrow1
     ·rw [← hN]; exact ((Below.refl _ _).alloc (Nat.le_refl _) _).alloc (by simp) _
     ·simp; omega⟩
    have hs1 : N ≤ w1.heap.size := by have := HG1.out.2.size; omega
    clear hown1 hgrow1 hx1
    try simp only [List.nil_append]
    go_wp2_with (at_builtin; refine wpList_append_ints rfl (.tmp 20) (.tmp 23) rfl (N + 1) (.slice ao1 1 cap1) [a] rfl (ownsRow_below HG1.out.1 ((Below.refl _ _).alloc (Nat.le_refl _) _)) _ [b] 1 rfl (IntsAt.one _ _ (by simp)) ?c3 ?c4 ?_)
    case c3 => simp
    case c4 => simp; omega
    intro v' w' hown hgrow
    obtain ⟨ao',cap',rfl⟩ := hown.isSlice
    have hNw1 : N < w1.heap.size := by
     by_cases e : N < w1.heap.size
     ·exact e
     ·exact absurd hb0 (by simp [World.cell?,Array.getElem?_eq_none (Nat.le_of_not_lt e)])
    have hb0' : w'.cell? ⟨N,0,none⟩ = some (.int .i64 op) := by
     have hx2 : Ext (fun k => (Value.slice ao1 1 cap1).ownBlock = some k) (w1.alloc (.cells #[.int .i64 b] 3)) w' := Ext.of_grown hgrow (fun k hk => .inl hk)
     rw [hx2.cell (a := ⟨N,0,none⟩) (by simp; omega) (fun h => ?_),World.cell?_alloc_lt _ _ _ hNw1]
     ·exact hb0
     ·have h3 := (HG1.out.1.lt N h).1
      omega
    have HG : Hid (OwnI w' (N + 1) (.slice ao' [a,b].length cap') [a,b] ∧ Below N w w') := ⟨by simpa using hown,by
     refine below_grown (v := .slice ao1 1 cap1) (xs := [a]) ?_ ?_ (OwnI.mono (ownsRow_below HG1.out.1 ((Below.refl _ _).alloc (Nat.le_refl _) _)) (Nat.le_succ N)) hgrow
     ·exact HG1.out.2.alloc hs1 _
     ·simp; omega⟩
    clear hown hgrow
    try simp only [List.cons_append,List.nil_append]
    go_wp2
    go_ret
    exact ⟨_,_,rfl,by first | exact HG.out.1.mono (Nat.le_succ N) | (rw [hN]; exact HG.out.1.mono (Nat.le_succ N)),by first | exact HG.out.2 | (rw [hN]; exact HG.out.2)⟩
end Go.Proofs.Ytlggjbopfnndbaa
