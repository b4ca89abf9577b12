import Derived.Test.YtlggjbopfnndbaaG07
import Derived.Deep.WholeRow
import Derived.Test.YtlggjbopfnndbaaG11
import Derived.Test.YtlggjbopfnndbaaIrJ
namespace Go.Proofs.Ytlggjbopfnndbaa
open Go.RowKit
def wordsB : List ByteArray := [⟨#[110,117,109]⟩,⟨#[110,117,108,108]⟩,⟨#[99,111,112,121]⟩,⟨#[98,105,110]⟩,⟨#[103,101,116]⟩,⟨#[112,117,116]⟩,⟨#[108,111,97,100]⟩,⟨#[115,116,111,114,101]⟩,⟨#[103,105,118,101]⟩,⟨#[116,97,107,101]⟩,⟨#[115,101,116]⟩,⟨#[110,101,119]⟩,⟨#[102,114,101,101]⟩,⟨#[105,115,110,117,108,108]⟩,⟨#[99,97,108,108]⟩,⟨#[106,117,109,112]⟩,⟨#[98,114,97,110,99,104]⟩,⟨#[114,101,116]⟩]
def wordOf (op : Int) : ByteArray := if op < 1 ∨ 18 < op then ⟨#[]⟩ else (wordsB[(op - 1).toNat]?).getD ⟨#[]⟩
theorem wordOf_at {op : Int} (h1 : ¬ op < 1) (h2 : ¬ 18 < op) : ∃ (k : Nat) (s : ByteArray),op - 1 = (k : Int) ∧ k < 18 ∧ wordsB[k]? = some s ∧ wordOf op = s := by
 obtain ⟨k,hk⟩ : ∃ k : Nat,op - 1 = (k : Int) := ⟨(op - 1).toNat,by omega⟩
 have hk18 : k < 18 := by omega
 obtain ⟨s,hs⟩ : ∃ s,wordsB[k]? = some s := ⟨_,List.getElem?_eq_getElem (show k < wordsB.length from hk18)⟩
 refine ⟨k,s,hk,hk18,hs,?_⟩
 unfold wordOf
 rw [if_neg (by omega),hk,Int.toNat_natCast,hs]
 rfl
theorem wordOf_none {op : Int} : (wordOf op == ⟨#[]⟩) = (decide (op < 1) || decide (18 < op)) := by
 by_cases h : op < 1 ∨ 18 < op
 ·have e : wordOf op = ⟨#[]⟩ := if_pos h
  rw [e]
  rcases h with h | h
  ·rw [decide_eq_true h]; rfl
  ·rw [decide_eq_true h,Bool.or_true]; rfl
 ·obtain ⟨k,s,h1,h2,h3,h4⟩ := wordOf_at (op := op) (by omega) (by omega)
  rw [h4,decide_eq_false (by omega),decide_eq_false (by omega)]
  have : ∀ j : Nat,j < 18 → ∀ s,wordsB[j]? = some s → (s == (⟨#[]⟩ : ByteArray)) = false := by decide
  exact this k h2 s h3
set_option maxRecDepth 100000 in
set_option maxHeartbeats 2000000 in
theorem irWord_calls (op : Int) (w : World) : Calls Try.prog 118 #[.int .i64 op] w fun e w' => e = .returned (.string (wordOf op)) ∧ Below w.heap.size w w' := by
 have hst : ∀ (c : Array Value),c.size = 18 → (storeCells ⟨w.heap.size,0,none⟩ [.string ⟨#[110,117,109]⟩,.string ⟨#[110,117,108,108]⟩,.string ⟨#[99,111,112,121]⟩,.string ⟨#[98,105,110]⟩,.string ⟨#[103,101,116]⟩,.string ⟨#[112,117,116]⟩,.string ⟨#[108,111,97,100]⟩,.string ⟨#[115,116,111,114,101]⟩,.string ⟨#[103,105,118,101]⟩,.string ⟨#[116,97,107,101]⟩,.string ⟨#[115,101,116]⟩,.string ⟨#[110,101,119]⟩,.string ⟨#[102,114,101,101]⟩,.string ⟨#[105,115,110,117,108,108]⟩,.string ⟨#[99,97,108,108]⟩,.string ⟨#[106,117,109,112]⟩,.string ⟨#[98,114,97,110,99,104]⟩,.string ⟨#[114,101,116]⟩] 0).run Try.prog (w.alloc (.cells c 160)) = .ok () (w.alloc (.cells #[.string ⟨#[110,117,109]⟩,.string ⟨#[110,117,108,108]⟩,.string ⟨#[99,111,112,121]⟩,.string ⟨#[98,105,110]⟩,.string ⟨#[103,101,116]⟩,.string ⟨#[112,117,116]⟩,.string ⟨#[108,111,97,100]⟩,.string ⟨#[115,116,111,114,101]⟩,.string ⟨#[103,105,118,101]⟩,.string ⟨#[116,97,107,101]⟩,.string ⟨#[115,101,116]⟩,.string ⟨#[110,101,119]⟩,.string ⟨#[102,114,101,101]⟩,.string ⟨#[105,115,110,117,108,108]⟩,.string ⟨#[99,97,108,108]⟩,.string ⟨#[106,117,109,112]⟩,.string ⟨#[98,114,97,110,99,104]⟩,.string ⟨#[114,101,116]⟩] 160)) := fun c hc =>
  run_storeCells_new (P := Try.prog) w 160 c #[.string ⟨#[110,117,109]⟩,.string ⟨#[110,117,108,108]⟩,.string ⟨#[99,111,112,121]⟩,.string ⟨#[98,105,110]⟩,.string ⟨#[103,101,116]⟩,.string ⟨#[112,117,116]⟩,.string ⟨#[108,111,97,100]⟩,.string ⟨#[115,116,111,114,101]⟩,.string ⟨#[103,105,118,101]⟩,.string ⟨#[116,97,107,101]⟩,.string ⟨#[115,101,116]⟩,.string ⟨#[110,101,119]⟩,.string ⟨#[102,114,101,101]⟩,.string ⟨#[105,115,110,117,108,108]⟩,.string ⟨#[99,97,108,108]⟩,.string ⟨#[106,117,109,112]⟩,.string ⟨#[98,114,97,110,99,104]⟩,.string ⟨#[114,101,116]⟩] (by show _ = some 18; kernel_rfl) hc (by simp [Value.oneCell'])
 have hbld : ∀ w,(Instr.build 160 #[(0,.string ⟨#[110,117,109]⟩),(1,.string ⟨#[110,117,108,108]⟩),(2,.string ⟨#[99,111,112,121]⟩),(3,.string ⟨#[98,105,110]⟩),(4,.string ⟨#[103,101,116]⟩),(5,.string ⟨#[112,117,116]⟩),(6,.string ⟨#[108,111,97,100]⟩),(7,.string ⟨#[115,116,111,114,101]⟩),(8,.string ⟨#[103,105,118,101]⟩),(9,.string ⟨#[116,97,107,101]⟩),(10,.string ⟨#[115,101,116]⟩),(11,.string ⟨#[110,101,119]⟩),(12,.string ⟨#[102,114,101,101]⟩),(13,.string ⟨#[105,115,110,117,108,108]⟩),(14,.string ⟨#[99,97,108,108]⟩),(15,.string ⟨#[106,117,109,112]⟩),(16,.string ⟨#[98,114,97,110,99,104]⟩),(17,.string ⟨#[114,101,116]⟩)]).run Try.prog w = .ok (.agg #[.string ⟨#[110,117,109]⟩,.string ⟨#[110,117,108,108]⟩,.string ⟨#[99,111,112,121]⟩,.string ⟨#[98,105,110]⟩,.string ⟨#[103,101,116]⟩,.string ⟨#[112,117,116]⟩,.string ⟨#[108,111,97,100]⟩,.string ⟨#[115,116,111,114,101]⟩,.string ⟨#[103,105,118,101]⟩,.string ⟨#[116,97,107,101]⟩,.string ⟨#[115,101,116]⟩,.string ⟨#[110,101,119]⟩,.string ⟨#[102,114,101,101]⟩,.string ⟨#[105,115,110,117,108,108]⟩,.string ⟨#[99,97,108,108]⟩,.string ⟨#[106,117,109,112]⟩,.string ⟨#[98,114,97,110,99,104]⟩,.string ⟨#[114,101,116]⟩]) w := fun w => by kernel_rfl
 obtain ⟨N,hN⟩ : ∃ N,w.heap.size = N := ⟨_,rfl⟩
 obtain ⟨W1,hW1⟩ : ∃ W1,w.alloc (.cells #[.string ⟨#[110,117,109]⟩,.string ⟨#[110,117,108,108]⟩,.string ⟨#[99,111,112,121]⟩,.string ⟨#[98,105,110]⟩,.string ⟨#[103,101,116]⟩,.string ⟨#[112,117,116]⟩,.string ⟨#[108,111,97,100]⟩,.string ⟨#[115,116,111,114,101]⟩,.string ⟨#[103,105,118,101]⟩,.string ⟨#[116,97,107,101]⟩,.string ⟨#[115,101,116]⟩,.string ⟨#[110,101,119]⟩,.string ⟨#[102,114,101,101]⟩,.string ⟨#[105,115,110,117,108,108]⟩,.string ⟨#[99,97,108,108]⟩,.string ⟨#[106,117,109,112]⟩,.string ⟨#[98,114,97,110,99,104]⟩,.string ⟨#[114,101,116]⟩] 160) = W1 := ⟨_,rfl⟩
 have hb1 : Below N w W1 := by rw [← hW1,← hN]; exact (Below.refl _ _).alloc (Nat.le_refl _) _
 have HB1 := Lib.hid hb1
 have HN := Lib.hid hN
 have hs1 : W1.heap.size = N + 1 := by rw [← hW1]; simp [hN]
 have hr1 : W1.heap[N]? = some (.cells (wordsB.map Value.string).toArray 160 (0,0)) := by rw [← hW1,← hN]; exact alloc_at _ _
 rw [hN,hW1] at hst
 clear hb1
 by_cases h1 : op < 1
 ·have HE : Hid (wordOf op = ⟨#[]⟩) := if_pos (.inl h1)
  go_enter Try.func118,Try.ntmps118
  go_wp2
  go_ret
  rw [HE.out]
  exact ⟨rfl,by first | exact HB1.out | (rw [HN.out]; exact HB1.out)⟩
 by_cases h2 : 18 < op
 ·have HE : Hid (wordOf op = ⟨#[]⟩) := if_pos (.inr h2)
  go_enter Try.func118,Try.ntmps118
  go_wp2
  go_ret
  rw [HE.out]
  exact ⟨rfl,by first | exact HB1.out | (rw [HN.out]; exact HB1.out)⟩
 obtain ⟨k,s,hk,hk18,hks,hw⟩ := wordOf_at h1 h2
 have hc : W1.cell? ⟨N,k,none⟩ = some (.string s) := by
  rw [cell_of_row _ _ _ _ _ _ hr1]; simp [hks]
 have HE := Lib.hid hw
 have hkI : (k : Int) < 18 := by omega
 clear hr1 hks hw
 go_enter Try.func118,Try.ntmps118
 go_wp2
 go_ret
 rw [HE.out]
 exact ⟨rfl,by first | exact HB1.out | (rw [HN.out]; exact HB1.out)⟩
end Go.Proofs.Ytlggjbopfnndbaa
namespace Go.Proofs.Ytlggjbopfnndbaa
open Go.RowKit
theorem plain_calls (m : Mo) (g : Fn) (i : Ins) (w : World) (hop : 1 ≤ i.op ∧ i.op ≤ 14) (h : PlainIn w m g i) :
  Calls Try.prog 126 #[.agg (jg m g),.agg i.cells] w fun e w' => e = .returned (.int .i64 (plainF m g.vs i)) ∧ Below w.heap.size w w' := by
 have hc : i.op = 1 ∨ i.op = 2 ∨ i.op = 3 ∨ i.op = 4 ∨ i.op = 5 ∨ i.op = 6 ∨ i.op = 7 ∨ i.op = 8 ∨ i.op = 9 ∨ i.op = 10 ∨ i.op = 11 ∨ i.op = 12 ∨ i.op = 13 ∨ i.op = 14 := by omega
 rcases hc with e | e | e | e | e | e | e | e | e | e | e | e | e | e
 ·exact plain_1 m g i w e h
 ·exact plain_2 m g i w e h
 ·exact plain_3 m g i w e h
 ·exact plain_4 m g i w e h
 ·exact plain_5 m g i w e h
 ·exact plain_6 m g i w e h
 ·exact plain_7 m g i w e h
 ·exact plain_8 m g i w e h
 ·exact plain_9 m g i w e h
 ·exact plain_10 m g i w e h
 ·exact plain_11 m g i w e h
 ·exact plain_12 m g i w e h
 ·exact plain_13 m g i w e h
 ·exact plain_14 m g i w e h
structure InstrIn (w : World) (m : Mo) (g : Fn) (i : Ins) : Prop where
 j : JIn w m g
 ar : i.args_in w
 al : i.args.length ≤ 40
 kn : ∀ v,isVar g.vs.length v = true → m.known (tyAt g.vs v) = true
theorem below_keep {W1 W : World} {N : Nat} (hb : Below W1.heap.size W1 W) {o : Obj} (h : W1.heap[N]? = some o) : W.heap[N]? = some o :=
 (hb.block N (Array.getElem?_eq_some_iff.1 h).1).trans h
theorem wordOf_empty (op : Int) : (wordOf op).toList.isEmpty = (decide (op < 1) || decide (18 < op)) := by
 rw [← wordOf_none,beq_toListBytes]
 have e : (⟨#[]⟩ : ByteArray).toList = [] := by rw [ByteArray.toList_eq]
 rw [e]
 cases (wordOf op).toList <;> rfl
def Rows2 (w5 : World) (N : Nat) (m : Mo) (g : Fn) (i : Ins) : Prop := ∀ W,Below w5.heap.size w5 W → W.heap[N]? = some (.cells (jg m g) 113 (0,0)) ∧ W.heap[N + 1]? = some (.cells i.cells 62 (0,0))
theorem Rows2.next {w5 w6 : World} {N : Nat} {m : Mo} {g : Fn} {i : Ins} (h : Rows2 w5 N m g i) (hb : Below w5.heap.size w5 w6) : Rows2 w6 N m g i := fun W hW => h W (hb.trans (hW.mono hb.size))
theorem Rows2.lt {w5 : World} {N : Nat} {m : Mo} {g : Fn} {i : Ins} (h : Rows2 w5 N m g i) : N + 1 < w5.heap.size := (Array.getElem?_eq_some_iff.1 (h w5 (Below.refl _ _)).2).1
def instrRest (m : Mo) (g : Fn) (i : Ins) : Int :=
 if i.op = 15 then callF m g.vs i
 else if i.op = 16 then unl (isVar g.c.ins.length i.to) 15
 else if i.op = 17 then (if isVar g.c.ins.length i.to && isVar g.c.ins.length i.els then numsF g.vs [i.a] else 15)
 else if i.op = 18 then unl (tyAt g.vs i.a == g.ret) 7
 else plainF m g.vs i
theorem instrF_valid {m : Mo} {g : Fn} {i : Ins} (h : ¬ (i.op < 1 ∨ 18 < i.op)) : instrF m g i = if thereF g.vs.length (readsOf i ++ (if shD i.op then [i.d] else [])) = false then 15 else instrRest m g i := if_neg h
theorem there_all {n : Nat} {l : List Int} (h : thereF n l = true) {v : Int} (hv : v ∈ l) : isVar n v = true := List.all_eq_true.1 h v hv
theorem read_a {i : Ins} {l : List Int} (h : shA i.op = true) : i.a ∈ readsOf i ++ l := by unfold readsOf; rw [if_pos h]; simp
theorem read_b {i : Ins} {l : List Int} (h : shB i.op = true) : i.b ∈ readsOf i ++ l := by unfold readsOf; rw [if_pos h]; simp
theorem read_args {i : Ins} {l : List Int} (h : i.op = 15) {a : Int} (ha : a ∈ i.args) : a ∈ readsOf i ++ l := by unfold readsOf; rw [if_pos h]; simp [ha]
theorem mem_d {i : Ins} (h : shD i.op = true) : i.d ∈ readsOf i ++ (if shD i.op then [i.d] else []) := by rw [if_pos h]; simp
set_option maxRecDepth 100000 in
set_option maxHeartbeats 16000000 in
theorem instr_calls (m : Mo) (g : Fn) (i : Ins) (w : World) (h : InstrIn w m g i) :
  Calls Try.prog 102 #[.agg (jg m g),.agg i.cells] w fun e w' => e = .returned (.int .i64 (instrF m g i)) ∧ Below w.heap.size w w' := by
 have HIN := Lib.hid h
 obtain ⟨R,hR⟩ : ∃ R,instrF m g i = R := ⟨_,rfl⟩
 rw [hR]
 have HR := Lib.hid hR
 clear h hR
 obtain ⟨N,hN⟩ : ∃ N,w.heap.size = N := ⟨_,rfl⟩
 obtain ⟨W1,hW1⟩ : ∃ W1,(w.alloc (.cells (jg m g) 113)).alloc (.cells i.cells 62) = W1 := ⟨_,rfl⟩
 have hb1 : Below N w W1 := by rw [← hW1,← hN]; exact ((Below.refl _ _).alloc (Nat.le_refl _) _).alloc (by simp) _
 have hs1 : W1.heap.size = N + 2 := by rw [← hW1]; simp [hN]
 have hr1 : W1.heap[N]? = some (.cells (jg m g) 113 (0,0)) := by rw [← hW1,← hN]; exact heap_alloc2_old _ _ _
 have hr2 : W1.heap[N + 1]? = some (.cells i.cells 62 (0,0)) := by rw [← hW1,← hN]; exact heap_alloc2_new _ _ _
 have i0 : W1.cell? ⟨N + 1,0,none⟩ = some (.int .i64 i.op) := by rw [cell_of_row _ _ _ _ _ _ hr2]; rfl
 have HRW1 : Hid (Rows2 W1 N m g i) := fun W hW => ⟨below_keep hW hr1,below_keep hW hr2⟩
 have HB1 := Lib.hid hb1
 have HN := Lib.hid hN
 have hNlt : N + 1 < W1.heap.size := by omega
 clear hb1 hr1 hr2
 by_cases hop : i.op < 1 ∨ 18 < i.op
 ·have HRR : Hid (R = 3) := by unfold Hid; rw [← HR.out]; exact if_pos hop
  have hwe : (wordOf i.op).toList.isEmpty = true := by rw [wordOf_empty]; simpa using hop
  clear hop
  go_enter Try.func102,Try.ntmps102
  go_wp2_with (go_at_call 118; refine (irWord_calls _ _).mono ?_; rintro e w2 ⟨rfl,hb2⟩; have HB2 := Lib.hid hb2; clear hb2)
  go_ret
  rw [HRR.out,HN.out]
  exact ⟨rfl,HB1.out.trans (HB2.out.mono (by omega))⟩
 have HEV := Lib.hid (instrF_valid (m := m) (g := g) hop)
 rw [HR.out] at HEV
 have HVO := Lib.hid hop
 have hwe : (wordOf i.op).toList.isEmpty = false := by
  rw [wordOf_empty,decide_eq_false (by omega),decide_eq_false (by omega)]; rfl
 clear hop HR
 have HRD : Hid (∀ W,Below w.heap.size w W → Calls Try.prog 119 #[.agg i.cells] W (GivesI W (readsOf i))) := fun W hW => irReads_calls i W (HIN.out.ar.below hW) HIN.out.al
 have HWR : Hid (∀ W,Calls Try.prog 120 #[.agg i.cells] W fun e w' => e = .returned (.tuple #[.int .i64 (writesOf i).1,.bool (writesOf i).2]) ∧ Below W.heap.size W w') := fun W => irWrites_calls i W HIN.out.ar.1
 have HRL : Hid ((readsOf i).length ≤ 42) := readsOf_len i HIN.out.al
 obtain ⟨rs,hrs⟩ : ∃ rs,readsOf i = rs := ⟨_,rfl⟩
 have HRS := Lib.hid hrs
 rw [hrs] at HRD HRL
 clear hrs
 go_enter Try.func102,Try.ntmps102
 cases hd : shD i.op with
 | true =>
  have e1 : (writesOf i).1 = i.d := by unfold writesOf; rw [hd]; rfl
  have e2 : (writesOf i).2 = true := by unfold writesOf; rw [hd]; rfl
  rw [e1,e2] at HWR
  clear e1 e2
  go_upto_region 6 with (first
   | (go_at_call 118; refine (irWord_calls _ _).mono ?_; rintro e w2 ⟨rfl,hb2⟩; have HRW2 := Lib.hid (HRW1.out.next hb2); have HB2 : Hid (Below N w w2) := HB1.out.trans (hb2.mono (by omega)); clear hb2)
   | (refine wpList_load_row rfl 62 _ rfl (N + 1) rfl 62 i.cells (0,0) _ ((HRW2.out _ (Below.refl _ _)).2) Try.underlying62 rfl (by kernel_rfl) ?_)
   | (refine wpList_load_row rfl 62 _ rfl (N + 1) rfl 62 i.cells (0,0) _ ((HRW3.out _ (Below.refl _ _)).2) Try.underlying62 rfl (by kernel_rfl) ?_)
   | (go_at_call 119; refine (HRD.out _ (by rw [HN.out]; exact HB2.out)).mono ?_; rintro e w3 ⟨ao3,cap3,rfl,hown3,hb3⟩; have HOW3 := Lib.hid hown3; have HRW3 := Lib.hid (HRW2.out.next hb3); have HB3 : Hid (Below N w w3) := HB2.out.trans (hb3.mono (by have := HRW2.out.lt; omega)); have hs23 := hb3.size; clear hb3 hown3)
   | (go_at_call 120; refine (HWR.out _).mono ?_; rintro e w4 ⟨rfl,hb4⟩; have HRW4 := Lib.hid (HRW3.out.next hb4); have HOW4 := Lib.hid (ownsRow_below HOW3.out hb4); have HB4 : Hid (Below N w w4) := HB3.out.trans (hb4.mono (by have := HRW3.out.lt; omega)); have hs34 := hb4.size; clear hb4))
  go_upto_region 7 with (at_builtin; refine wpList_append_ints rfl (.tmp 20) (.tmp 22) rfl w2.heap.size (.slice ao3 rs.length cap3) rs rfl (ownsRow_below HOW4.out ((Below.refl _ _).alloc (Nat.le_refl _) _)) _ [i.d] 1 rfl (IntsAt.one _ _ rfl) ?c1 ?c2 ?_)
  case c1 => have := HRL.out; simp; omega
  case c2 => simp; omega
  intro v5 w5 hown5 hgrow5
  obtain ⟨ao5,cap5,rfl⟩ := hown5.isSlice
  have hb45 : Below w2.heap.size w4 w5 := below_grown (v := .slice ao3 rs.length cap3) (xs := rs) ((Below.refl _ _).alloc (by omega) _) (by simp; omega) (ownsRow_below HOW4.out ((Below.refl _ _).alloc (Nat.le_refl _) _)) hgrow5
  have hlt2 := HRW2.out.lt
  have HB5 : Hid (Below N w w5) := HB4.out.trans (hb45.mono (by omega))
  have HRW : Hid (Rows2 w5 N m g i) := fun W hW => by
   have q := HRW4.out w4 (Below.refl _ _)
   have h5 := hb45.size
   exact ⟨(hW.block N (by omega)).trans ((hb45.block N (by omega)).trans q.1),(hW.block (N + 1) (by omega)).trans ((hb45.block (N + 1) (by omega)).trans q.2)⟩
  have h5s := hb45.size
  obtain ⟨L5,hL5⟩ : ∃ L,rs ++ [i.d] = L := ⟨_,rfl⟩
  rw [hL5] at hown5
  have HL : Hid (L5 = readsOf i ++ (if shD i.op then [i.d] else [])) := by unfold Hid; rw [hd,HRS.out,← hL5]; rfl
  have HTH : Hid (Calls Try.prog 121 #[.agg (jg m g),.slice ao5 L5.length cap5] w5 fun e w' => e = .returned (.bool (thereF g.vs.length L5)) ∧ Below w5.heap.size w5 w') :=
   there_calls m g ao5 L5 cap5 w5 HIN.out.j.nv (by have := HRL.out; rw [← hL5]; unfold maxLen; simp; omega) hown5.at_
  rw [← HL.out] at HEV
  rw [hL5]
  have HDD := Lib.hid hd
  clear hown5 hgrow5 hb45 HOW3 HOW4 HRW2 HRW3 HRW4 HRW1 HB2 HB3 HB4 hL5 HRD HWR HRL HRS hwe i0 hd
  have HR0 := Lib.hid (HRW.out w5 (Below.refl _ _))
  obtain ⟨tb,htb⟩ : ∃ t,thereF g.vs.length L5 = t := ⟨_,rfl⟩
  rw [htb] at HTH
  rw [htb] at HEV
  have HTB := Lib.hid htb
  clear htb
  cases tb with
  | false =>
   have HRR : Hid (R = 15) := HEV.out
   go_wp2_with (first
    | (refine wpList_load_row rfl 113 _ rfl N rfl 113 (jg m g) (0,0) _ (HR0.out.1) Try.underlying113 rfl (by kernel_rfl) ?_)
    | (go_at_call 121; refine HTH.out.mono ?_; rintro e w6 ⟨rfl,hb6⟩; have HB6 := Lib.hid hb6; clear hb6))
   go_ret
   rw [HRR.out,HN.out]
   exact ⟨rfl,HB5.out.trans (HB6.out.mono (by omega))⟩
  | true =>
   have HEV2 : Hid (R = instrRest m g i) := HEV.out
   clear HEV
   go_upto_region 9 with (first
    | (refine wpList_load_row rfl 113 _ rfl N rfl 113 (jg m g) (0,0) _ (HR0.out.1) Try.underlying113 rfl (by kernel_rfl) ?_)
    | (go_at_call 121; refine HTH.out.mono ?_; rintro e w6 ⟨rfl,hb6⟩; have HB6 := Lib.hid hb6; clear hb6))
   have HRW6 : Hid (Rows2 w6 N m g i) := HRW.out.next HB6.out
   have HB06 : Hid (Below N w w6) := HB5.out.trans (HB6.out.mono (by omega))
   have hlt6 := HRW6.out.lt
   have HR6 := Lib.hid (HRW6.out w6 (Below.refl _ _))
   have HJ6 : Hid (JIn w6 m g) := HIN.out.j.below (by rw [HN.out]; exact HB06.out)
   have z0 : w6.cell? ⟨N + 1,0,none⟩ = some (.int .i64 i.op) := by rw [cell_of_row _ _ _ _ _ _ HR6.out.2]; rfl
   have z2 : w6.cell? ⟨N + 1,2,none⟩ = some (.int .i64 i.a) := by rw [cell_of_row _ _ _ _ _ _ HR6.out.2]; rfl
   have z9 : w6.cell? ⟨N + 1,9,none⟩ = some (.int .i64 i.to) := by rw [cell_of_row _ _ _ _ _ _ HR6.out.2]; rfl
   have z10 : w6.cell? ⟨N + 1,10,none⟩ = some (.int .i64 i.els) := by rw [cell_of_row _ _ _ _ _ _ HR6.out.2]; rfl
   have HVA : Hid (∀ v ∈ L5,isVar g.vs.length v = true) := fun v hv => there_all HTB.out hv
   clear HRW HTH HB6 HB5 HR0 HTB
   by_cases c15 : i.op = 15
   ·have HRR : Hid (R = callF m g.vs i) := by unfold Hid; rw [HEV2.out]; exact if_pos c15
    have HCC : Hid (Calls Try.prog 122 #[.agg (jg m g),.agg i.cells] w6 fun e w' => e = .returned (.int .i64 (callF m g.vs i)) ∧ Below w6.heap.size w6 w') :=
     call_calls m g i w6 HJ6.out (HIN.out.ar.below (by rw [HN.out]; exact HB06.out)) (by have := HIN.out.al; unfold maxLen; omega) (HVA.out _ (by rw [HL.out]; exact mem_d (by rw [c15]; rfl))) (fun a ha => HVA.out a (by rw [HL.out]; exact read_args c15 ha))
    rw [c15] at z0
    clear HEV2
    go_wp2_with (first
     | (refine wpList_load_row rfl 113 _ rfl N rfl 113 (jg m g) (0,0) _ (HR6.out.1) Try.underlying113 rfl (by kernel_rfl) ?_)
     | (refine wpList_load_row rfl 62 _ rfl (N + 1) rfl 62 i.cells (0,0) _ (HR6.out.2) Try.underlying62 rfl (by kernel_rfl) ?_)
     | (go_at_call 122; refine HCC.out.mono ?_; rintro e w7 ⟨rfl,hb7⟩; have HB7 := Lib.hid hb7; clear hb7))
    go_ret
    rw [HRR.out,HN.out]
    exact ⟨rfl,HB06.out.trans (HB7.out.mono (by omega))⟩
   have b15 : (i.op == 15) = false := by rw [beq_eq_false_iff_ne]; exact c15
   by_cases c16 : i.op = 16
   ·have HRR : Hid (R = unl (isVar g.c.ins.length i.to) 15) := by unfold Hid; rw [HEV2.out]; unfold instrRest; rw [if_neg c15,if_pos c16]
    rw [c16] at z0
    clear HEV2
    go_wp2_with (first
     | (refine wpList_load_row rfl 113 _ rfl N rfl 113 (jg m g) (0,0) _ (HR6.out.1) Try.underlying113 rfl (by kernel_rfl) ?_)
     | (go_at_call 123; refine (line_calls m g i.to w6).mono ?_; rintro e w7 ⟨rfl,hb7⟩; have HB7 := Lib.hid hb7; clear hb7)
     | (go_at_call 81; refine (unless_calls _ _ _).mono ?_; rintro e w8 ⟨rfl,rfl⟩))
    go_ret
    rw [HRR.out,HN.out]
    exact ⟨rfl,HB06.out.trans (HB7.out.mono (by omega))⟩
   have b16 : (i.op == 16) = false := by rw [beq_eq_false_iff_ne]; exact c16
   by_cases c17 : i.op = 17
   ·have HRR : Hid (R = if isVar g.c.ins.length i.to && isVar g.c.ins.length i.els then numsF g.vs [i.a] else 15) := by unfold Hid; rw [HEV2.out]; unfold instrRest; rw [if_neg c15,if_neg c16,if_pos c17]
    have HVAa : Hid (isVar g.vs.length i.a = true) := HVA.out _ (by rw [HL.out]; exact read_a (by rw [c17]; rfl))
    rw [c17] at z0
    obtain ⟨t1,ht1⟩ : ∃ t,isVar g.c.ins.length i.to = t := ⟨_,rfl⟩
    obtain ⟨t2,ht2⟩ : ∃ t,isVar g.c.ins.length i.els = t := ⟨_,rfl⟩
    rw [ht1,ht2] at HRR
    clear HEV2
    cases t1 with
    | false =>
     go_wp2_with (first
      | (refine wpList_load_row rfl 113 _ rfl N rfl 113 (jg m g) (0,0) _ (HR6.out.1) Try.underlying113 rfl (by kernel_rfl) ?_)
      | (go_at_call 123; refine (line_calls m g _ _).mono ?_; rintro e w7 ⟨rfl,hb7⟩; have HB7 := Lib.hid hb7; clear hb7))
     go_ret
     rw [HRR.out,HN.out]
     exact ⟨rfl,HB06.out.trans (HB7.out.mono (by omega))⟩
    | true =>
     have HLN : Hid (∀ (W : World) (v : Int),Rows2 W N m g i → Below N w W → Calls Try.prog 123 #[.agg (jg m g),.int .i64 v] W fun e w' => e = .returned (.bool (isVar g.c.ins.length v)) ∧ Rows2 w' N m g i ∧ Below N w w') := fun W v hW hB => (line_calls m g v W).mono (by
      rintro e w' ⟨rfl,hb⟩
      exact ⟨rfl,hW.next hb,hB.trans (hb.mono (by have := hW.lt; omega))⟩)
     have HRWc := HRW6
     have HBc := HB06
     cases t2 with
     | false =>
      go_wp2_with (first
       | (refine wpList_load_row rfl 113 _ rfl N rfl 113 (jg m g) (0,0) _ ((HRWc.out _ (Below.refl _ _)).1) Try.underlying113 rfl (by kernel_rfl) ?_)
       | (go_at_call 123; refine (HLN.out _ _ HRWc.out HBc.out).mono ?_; clear HRWc HBc; rintro e w7 ⟨rfl,hrw,hbc⟩; have hlt7 := hrw.lt; obtain ⟨y0,y1,y2,y3,y4,y5,y6,y7,y8,y9⟩ := JgAt.of (hrw w7 (Below.refl _ _)).1; have z10 : w7.cell? ⟨N + 1,10,none⟩ = some (.int .i64 i.els) := cell_of_row _ _ _ _ _ _ (hrw w7 (Below.refl _ _)).2; have HRWc := Lib.hid hrw; have HBc := Lib.hid hbc; clear hrw hbc))
      go_ret
      rw [HRR.out,HN.out]
      exact ⟨rfl,HBc.out⟩
     | true =>
      have HNM : Hid (∀ (W : World),Rows2 W N m g i → Below N w W → Calls Try.prog 124 #[.agg (jg m g),.slice (some ⟨W.heap.size,0,none⟩) 1 1] (W.alloc (.cells #[.int .i64 i.a] 3)) fun e w' => e = .returned (.int .i64 (numsF g.vs [i.a])) ∧ Below N w w') := by
       intro W hW hB
       have hB2 : Below N w (W.alloc (.cells #[.int .i64 i.a] 3)) := hB.alloc (by have := hW.lt; omega) _
       have hj := HIN.out.j.below (by rw [HN.out]; exact hB2)
       refine (numbers_calls5 m g (some ⟨W.heap.size,0,none⟩) [i.a] 1 (W.alloc (.cells #[.int .i64 i.a] 3)) hj.vars hj.nv hj.vl (by unfold maxLen; simp) ints1 (by simp; exact HVAa.out)).mono ?_
       rintro e w' ⟨rfl,hb⟩
       exact ⟨rfl,hB2.trans (hb.mono (by have := hW.lt; simp; omega))⟩
      go_wp2_with (first
       | (refine wpList_load_row rfl 113 _ rfl N rfl 113 (jg m g) (0,0) _ ((HRWc.out _ (Below.refl _ _)).1) Try.underlying113 rfl (by kernel_rfl) ?_)
       | (go_at_call 123; refine (HLN.out _ _ HRWc.out HBc.out).mono ?_; clear HRWc HBc; rintro e w7 ⟨rfl,hrw,hbc⟩; have hlt7 := hrw.lt; obtain ⟨y0,y1,y2,y3,y4,y5,y6,y7,y8,y9⟩ := JgAt.of (hrw w7 (Below.refl _ _)).1; have z10 : w7.cell? ⟨N + 1,10,none⟩ = some (.int .i64 i.els) := cell_of_row _ _ _ _ _ _ (hrw w7 (Below.refl _ _)).2; have z2 : w7.cell? ⟨N + 1,2,none⟩ = some (.int .i64 i.a) := cell_of_row _ _ _ _ _ _ (hrw w7 (Below.refl _ _)).2; have HRWc := Lib.hid hrw; have HBc := Lib.hid hbc; clear hrw hbc)
       | (go_at_call 124; refine (HNM.out _ HRWc.out HBc.out).mono ?_; rintro e w9 ⟨rfl,hb9⟩; have HB9 := Lib.hid hb9; clear hb9))
      go_ret
      rw [HRR.out,HN.out]
      exact ⟨rfl,HB9.out⟩
   have b17 : (i.op == 17) = false := by rw [beq_eq_false_iff_ne]; exact c17
   by_cases c18 : i.op = 18
   ·have HRR : Hid (R = unl (tyAt g.vs i.a == g.ret) 7) := by unfold Hid; rw [HEV2.out]; unfold instrRest; rw [if_neg c15,if_neg c16,if_neg c17,if_pos c18]
    have HVAa : Hid (isVar g.vs.length i.a = true) := HVA.out _ (by rw [HL.out]; exact read_a (by rw [c18]; rfl))
    rw [c18] at z0
    obtain ⟨⟨ba,sa⟩,hta⟩ : ∃ t,tyAt g.vs i.a = t := ⟨_,rfl⟩
    obtain ⟨d,hdd⟩ : ∃ d,(((ba,sa) : Ty) == (g.c.rp,g.c.rto)) = d := ⟨_,rfl⟩
    have heq : ∀ w,(Op.equalIn 10000 45 (.agg #[.bool ba,.string sa]) (.agg #[.bool g.c.rp,.string g.c.rto])).run Try.prog w = .ok d w := fun w => by rw [ty_eqIn,hdd]
    have HR2R : Hid (R = unl d 7) := by unfold Hid; rw [HRR.out,hta,← hdd]; rfl
    have HTX : Hid (∀ p : BW w6,Calls Try.prog 125 #[.agg #[.slice m.sA m.ss.length m.sC,.slice m.fA m.fs.length m.fC,.string g.c.nm,.int .i64 g.c.par,.slice g.c.varsA g.c.nvars g.c.varsC,.bool g.c.rp,.string g.c.rto,.int .i64 g.c.rcl,.slice g.c.fromA g.c.nfrom g.c.fromC,.slice g.c.insA g.c.ins.length g.c.insC],.int .i64 i.a] p.w fun e w' => e = .returned (.agg #[.bool ba,.string sa]) ∧ Below p.w.heap.size p.w w') := fun p => by
     have := typ_calls m g i.a p.w (HJ6.out.below p.h).vars HJ6.out.nv HJ6.out.vl HVAa.out
     rw [hta] at this
     exact this
    have HJJ : Hid (∀ p : BW w6,JgAt p.w N m g) := fun p => JgAt.of (HRW6.out p.w p.h).1
    have k0 : ∀ p : BW w6,p.w.cell? ⟨N,0,none⟩ = some (.slice m.sA m.ss.length m.sC) := fun p => (HJJ.out p).1
    have k1 : ∀ p : BW w6,p.w.cell? ⟨N,1,none⟩ = some (.slice m.fA m.fs.length m.fC) := fun p => (HJJ.out p).2.1
    have k2 : ∀ p : BW w6,p.w.cell? ⟨N,2,none⟩ = some (.string g.c.nm) := fun p => (HJJ.out p).2.2.1
    have k3 : ∀ p : BW w6,p.w.cell? ⟨N,3,none⟩ = some (.int .i64 g.c.par) := fun p => (HJJ.out p).2.2.2.1
    have k4 : ∀ p : BW w6,p.w.cell? ⟨N,4,none⟩ = some (.slice g.c.varsA g.c.nvars g.c.varsC) := fun p => (HJJ.out p).2.2.2.2.1
    have k5 : ∀ p : BW w6,p.w.cell? ⟨N,5,none⟩ = some (.bool g.c.rp) := fun p => (HJJ.out p).2.2.2.2.2.1
    have k6 : ∀ p : BW w6,p.w.cell? ⟨N,6,none⟩ = some (.string g.c.rto) := fun p => (HJJ.out p).2.2.2.2.2.2.1
    have k7 : ∀ p : BW w6,p.w.cell? ⟨N,7,none⟩ = some (.int .i64 g.c.rcl) := fun p => (HJJ.out p).2.2.2.2.2.2.2.1
    have k8 : ∀ p : BW w6,p.w.cell? ⟨N,8,none⟩ = some (.slice g.c.fromA g.c.nfrom g.c.fromC) := fun p => (HJJ.out p).2.2.2.2.2.2.2.2.1
    have k9 : ∀ p : BW w6,p.w.cell? ⟨N,9,none⟩ = some (.slice g.c.insA g.c.ins.length g.c.insC) := fun p => (HJJ.out p).2.2.2.2.2.2.2.2.2
    have z2p : ∀ p : BW w6,p.w.cell? ⟨N + 1,2,none⟩ = some (.int .i64 i.a) := fun p => by rw [cell_of_row _ _ _ _ _ _ (HRW6.out p.w p.h).2]; rfl
    clear HEV2 hta hdd HRR
    go_wp2
    refine wp_region_quiet_bw (by kernel_rfl) (by kernel_rfl) ?_
    repeat (go_big_quiet_step (first
     | (go_at_call 125; exact bw_of (HTX.out _))
     | (go_at_call 81; exact bw_same (unless_calls _ _ _))))
    refine wpQuiet_nil ?_
    rintro _ ⟨p,rfl⟩
    go_wp2
    go_ret
    rw [HR2R.out,HN.out]
    exact ⟨rfl,HB06.out.trans (p.h.mono (by omega))⟩
   have b18 : (i.op == 18) = false := by rw [beq_eq_false_iff_ne]; exact c18
   have HRR : Hid (R = plainF m g.vs i) := by unfold Hid; rw [HEV2.out]; unfold instrRest; rw [if_neg c15,if_neg c16,if_neg c17,if_neg c18]
   have HPC : Hid (Calls Try.prog 126 #[.agg (jg m g),.agg i.cells] w6 fun e w' => e = .returned (.int .i64 (plainF m g.vs i)) ∧ Below w6.heap.size w6 w') :=
    plain_calls m g i w6 (by have := HVO.out; omega) ⟨HJ6.out,fun h => HVA.out _ (by rw [HL.out]; exact mem_d h),fun h => HVA.out _ (by rw [HL.out]; exact read_a h),fun h => HVA.out _ (by rw [HL.out]; exact read_b h),HIN.out.kn⟩
   clear HEV2 c15 c16 c17 c18
   go_wp2_with (first
    | (refine wpList_load_row rfl 113 _ rfl N rfl 113 (jg m g) (0,0) _ (HR6.out.1) Try.underlying113 rfl (by kernel_rfl) ?_)
    | (refine wpList_load_row rfl 62 _ rfl (N + 1) rfl 62 i.cells (0,0) _ (HR6.out.2) Try.underlying62 rfl (by kernel_rfl) ?_)
    | (go_at_call 126; refine HPC.out.mono ?_; rintro e w7 ⟨rfl,hb7⟩; have HB7 := Lib.hid hb7; clear hb7))
   go_ret
   rw [HRR.out,HN.out]
   exact ⟨rfl,HB06.out.trans (HB7.out.mono (by omega))⟩
 | false =>
  have e1 : (writesOf i).1 = 0 := by unfold writesOf; rw [hd]; rfl
  have e2 : (writesOf i).2 = false := by unfold writesOf; rw [hd]; rfl
  rw [e1,e2] at HWR
  clear e1 e2
  go_upto_region 7 with (first
   | (go_at_call 118; refine (irWord_calls _ _).mono ?_; rintro e w2 ⟨rfl,hb2⟩; have HRW2 := Lib.hid (HRW1.out.next hb2); have HB2 : Hid (Below N w w2) := HB1.out.trans (hb2.mono (by omega)); clear hb2)
   | (refine wpList_load_row rfl 62 _ rfl (N + 1) rfl 62 i.cells (0,0) _ ((HRW2.out _ (Below.refl _ _)).2) Try.underlying62 rfl (by kernel_rfl) ?_)
   | (refine wpList_load_row rfl 62 _ rfl (N + 1) rfl 62 i.cells (0,0) _ ((HRW3.out _ (Below.refl _ _)).2) Try.underlying62 rfl (by kernel_rfl) ?_)
   | (go_at_call 119; refine (HRD.out _ (by rw [HN.out]; exact HB2.out)).mono ?_; rintro e w3 ⟨ao3,cap3,rfl,hown3,hb3⟩; have HOW3 := Lib.hid hown3; have HRW3 := Lib.hid (HRW2.out.next hb3); have HB3 : Hid (Below N w w3) := HB2.out.trans (hb3.mono (by have := HRW2.out.lt; omega)); have hs23 := hb3.size; clear hb3 hown3)
   | (go_at_call 120; refine (HWR.out _).mono ?_; rintro e w5 ⟨rfl,hb4⟩; have HRW := Lib.hid (HRW3.out.next hb4); have HOW4 := Lib.hid (ownsRow_below HOW3.out hb4); have HB5 : Hid (Below N w w5) := HB3.out.trans (hb4.mono (by have := HRW3.out.lt; omega)); have hs34 := hb4.size; clear hb4))
  have HL : Hid (rs = readsOf i ++ (if shD i.op then [i.d] else [])) := by unfold Hid; rw [hd,HRS.out]; simp
  have HTH : Hid (Calls Try.prog 121 #[.agg (jg m g),.slice ao3 rs.length cap3] w5 fun e w' => e = .returned (.bool (thereF g.vs.length rs)) ∧ Below w5.heap.size w5 w') :=
   there_calls m g ao3 rs cap3 w5 HIN.out.j.nv (by have := HRL.out; unfold maxLen; omega) (OwnI.at_ HOW4.out)
  rw [← HL.out] at HEV
  have HDD := Lib.hid hd
  have hlt2 := HRW2.out.lt
  have h5s : w2.heap.size ≤ w5.heap.size := by omega
  clear HOW3 HOW4 HRW2 HRW3 HRW1 HB2 HB3 HRD HWR HRL HRS hwe i0 hd
  have HR0 := Lib.hid (HRW.out w5 (Below.refl _ _))
  obtain ⟨tb,htb⟩ : ∃ t,thereF g.vs.length rs = t := ⟨_,rfl⟩
  rw [htb] at HTH
  rw [htb] at HEV
  have HTB := Lib.hid htb
  clear htb
  cases tb with
  | false =>
   have HRR : Hid (R = 15) := HEV.out
   go_wp2_with (first
    | (refine wpList_load_row rfl 113 _ rfl N rfl 113 (jg m g) (0,0) _ (HR0.out.1) Try.underlying113 rfl (by kernel_rfl) ?_)
    | (go_at_call 121; refine HTH.out.mono ?_; rintro e w6 ⟨rfl,hb6⟩; have HB6 := Lib.hid hb6; clear hb6))
   go_ret
   rw [HRR.out,HN.out]
   exact ⟨rfl,HB5.out.trans (HB6.out.mono (by omega))⟩
  | true =>
   have HEV2 : Hid (R = instrRest m g i) := HEV.out
   clear HEV
   go_upto_region 9 with (first
    | (refine wpList_load_row rfl 113 _ rfl N rfl 113 (jg m g) (0,0) _ (HR0.out.1) Try.underlying113 rfl (by kernel_rfl) ?_)
    | (go_at_call 121; refine HTH.out.mono ?_; rintro e w6 ⟨rfl,hb6⟩; have HB6 := Lib.hid hb6; clear hb6))
   have HRW6 : Hid (Rows2 w6 N m g i) := HRW.out.next HB6.out
   have HB06 : Hid (Below N w w6) := HB5.out.trans (HB6.out.mono (by omega))
   have hlt6 := HRW6.out.lt
   have HR6 := Lib.hid (HRW6.out w6 (Below.refl _ _))
   have HJ6 : Hid (JIn w6 m g) := HIN.out.j.below (by rw [HN.out]; exact HB06.out)
   have z0 : w6.cell? ⟨N + 1,0,none⟩ = some (.int .i64 i.op) := by rw [cell_of_row _ _ _ _ _ _ HR6.out.2]; rfl
   have z2 : w6.cell? ⟨N + 1,2,none⟩ = some (.int .i64 i.a) := by rw [cell_of_row _ _ _ _ _ _ HR6.out.2]; rfl
   have z9 : w6.cell? ⟨N + 1,9,none⟩ = some (.int .i64 i.to) := by rw [cell_of_row _ _ _ _ _ _ HR6.out.2]; rfl
   have z10 : w6.cell? ⟨N + 1,10,none⟩ = some (.int .i64 i.els) := by rw [cell_of_row _ _ _ _ _ _ HR6.out.2]; rfl
   have HVA : Hid (∀ v ∈ rs,isVar g.vs.length v = true) := fun v hv => there_all HTB.out hv
   clear HRW HTH HB6 HB5 HR0 HTB
   by_cases c15 : i.op = 15
   ·have HRR : Hid (R = callF m g.vs i) := by unfold Hid; rw [HEV2.out]; exact if_pos c15
    have HCC : Hid (Calls Try.prog 122 #[.agg (jg m g),.agg i.cells] w6 fun e w' => e = .returned (.int .i64 (callF m g.vs i)) ∧ Below w6.heap.size w6 w') :=
     call_calls m g i w6 HJ6.out (HIN.out.ar.below (by rw [HN.out]; exact HB06.out)) (by have := HIN.out.al; unfold maxLen; omega) (HVA.out _ (by rw [HL.out]; exact mem_d (by rw [c15]; rfl))) (fun a ha => HVA.out a (by rw [HL.out]; exact read_args c15 ha))
    rw [c15] at z0
    clear HEV2
    go_wp2_with (first
     | (refine wpList_load_row rfl 113 _ rfl N rfl 113 (jg m g) (0,0) _ (HR6.out.1) Try.underlying113 rfl (by kernel_rfl) ?_)
     | (refine wpList_load_row rfl 62 _ rfl (N + 1) rfl 62 i.cells (0,0) _ (HR6.out.2) Try.underlying62 rfl (by kernel_rfl) ?_)
     | (go_at_call 122; refine HCC.out.mono ?_; rintro e w7 ⟨rfl,hb7⟩; have HB7 := Lib.hid hb7; clear hb7))
    go_ret
    rw [HRR.out,HN.out]
    exact ⟨rfl,HB06.out.trans (HB7.out.mono (by omega))⟩
   have b15 : (i.op == 15) = false := by rw [beq_eq_false_iff_ne]; exact c15
   by_cases c16 : i.op = 16
   ·have HRR : Hid (R = unl (isVar g.c.ins.length i.to) 15) := by unfold Hid; rw [HEV2.out]; unfold instrRest; rw [if_neg c15,if_pos c16]
    rw [c16] at z0
    clear HEV2
    go_wp2_with (first
     | (refine wpList_load_row rfl 113 _ rfl N rfl 113 (jg m g) (0,0) _ (HR6.out.1) Try.underlying113 rfl (by kernel_rfl) ?_)
     | (go_at_call 123; refine (line_calls m g i.to w6).mono ?_; rintro e w7 ⟨rfl,hb7⟩; have HB7 := Lib.hid hb7; clear hb7)
     | (go_at_call 81; refine (unless_calls _ _ _).mono ?_; rintro e w8 ⟨rfl,rfl⟩))
    go_ret
    rw [HRR.out,HN.out]
    exact ⟨rfl,HB06.out.trans (HB7.out.mono (by omega))⟩
   have b16 : (i.op == 16) = false := by rw [beq_eq_false_iff_ne]; exact c16
   by_cases c17 : i.op = 17
   ·have HRR : Hid (R = if isVar g.c.ins.length i.to && isVar g.c.ins.length i.els then numsF g.vs [i.a] else 15) := by unfold Hid; rw [HEV2.out]; unfold instrRest; rw [if_neg c15,if_neg c16,if_pos c17]
    have HVAa : Hid (isVar g.vs.length i.a = true) := HVA.out _ (by rw [HL.out]; exact read_a (by rw [c17]; rfl))
    rw [c17] at z0
    obtain ⟨t1,ht1⟩ : ∃ t,isVar g.c.ins.length i.to = t := ⟨_,rfl⟩
    obtain ⟨t2,ht2⟩ : ∃ t,isVar g.c.ins.length i.els = t := ⟨_,rfl⟩
    rw [ht1,ht2] at HRR
    clear HEV2
    cases t1 with
    | false =>
     go_wp2_with (first
      | (refine wpList_load_row rfl 113 _ rfl N rfl 113 (jg m g) (0,0) _ (HR6.out.1) Try.underlying113 rfl (by kernel_rfl) ?_)
      | (go_at_call 123; refine (line_calls m g _ _).mono ?_; rintro e w7 ⟨rfl,hb7⟩; have HB7 := Lib.hid hb7; clear hb7))
     go_ret
     rw [HRR.out,HN.out]
     exact ⟨rfl,HB06.out.trans (HB7.out.mono (by omega))⟩
    | true =>
     have HLN : Hid (∀ (W : World) (v : Int),Rows2 W N m g i → Below N w W → Calls Try.prog 123 #[.agg (jg m g),.int .i64 v] W fun e w' => e = .returned (.bool (isVar g.c.ins.length v)) ∧ Rows2 w' N m g i ∧ Below N w w') := fun W v hW hB => (line_calls m g v W).mono (by
      rintro e w' ⟨rfl,hb⟩
      exact ⟨rfl,hW.next hb,hB.trans (hb.mono (by have := hW.lt; omega))⟩)
     have HRWc := HRW6
     have HBc := HB06
     cases t2 with
     | false =>
      go_wp2_with (first
       | (refine wpList_load_row rfl 113 _ rfl N rfl 113 (jg m g) (0,0) _ ((HRWc.out _ (Below.refl _ _)).1) Try.underlying113 rfl (by kernel_rfl) ?_)
       | (go_at_call 123; refine (HLN.out _ _ HRWc.out HBc.out).mono ?_; clear HRWc HBc; rintro e w7 ⟨rfl,hrw,hbc⟩; have hlt7 := hrw.lt; obtain ⟨y0,y1,y2,y3,y4,y5,y6,y7,y8,y9⟩ := JgAt.of (hrw w7 (Below.refl _ _)).1; have z10 : w7.cell? ⟨N + 1,10,none⟩ = some (.int .i64 i.els) := cell_of_row _ _ _ _ _ _ (hrw w7 (Below.refl _ _)).2; have HRWc := Lib.hid hrw; have HBc := Lib.hid hbc; clear hrw hbc))
      go_ret
      rw [HRR.out,HN.out]
      exact ⟨rfl,HBc.out⟩
     | true =>
      have HNM : Hid (∀ (W : World),Rows2 W N m g i → Below N w W → Calls Try.prog 124 #[.agg (jg m g),.slice (some ⟨W.heap.size,0,none⟩) 1 1] (W.alloc (.cells #[.int .i64 i.a] 3)) fun e w' => e = .returned (.int .i64 (numsF g.vs [i.a])) ∧ Below N w w') := by
       intro W hW hB
       have hB2 : Below N w (W.alloc (.cells #[.int .i64 i.a] 3)) := hB.alloc (by have := hW.lt; omega) _
       have hj := HIN.out.j.below (by rw [HN.out]; exact hB2)
       refine (numbers_calls5 m g (some ⟨W.heap.size,0,none⟩) [i.a] 1 (W.alloc (.cells #[.int .i64 i.a] 3)) hj.vars hj.nv hj.vl (by unfold maxLen; simp) ints1 (by simp; exact HVAa.out)).mono ?_
       rintro e w' ⟨rfl,hb⟩
       exact ⟨rfl,hB2.trans (hb.mono (by have := hW.lt; simp; omega))⟩
      go_wp2_with (first
       | (refine wpList_load_row rfl 113 _ rfl N rfl 113 (jg m g) (0,0) _ ((HRWc.out _ (Below.refl _ _)).1) Try.underlying113 rfl (by kernel_rfl) ?_)
       | (go_at_call 123; refine (HLN.out _ _ HRWc.out HBc.out).mono ?_; clear HRWc HBc; rintro e w7 ⟨rfl,hrw,hbc⟩; have hlt7 := hrw.lt; obtain ⟨y0,y1,y2,y3,y4,y5,y6,y7,y8,y9⟩ := JgAt.of (hrw w7 (Below.refl _ _)).1; have z10 : w7.cell? ⟨N + 1,10,none⟩ = some (.int .i64 i.els) := cell_of_row _ _ _ _ _ _ (hrw w7 (Below.refl _ _)).2; have z2 : w7.cell? ⟨N + 1,2,none⟩ = some (.int .i64 i.a) := cell_of_row _ _ _ _ _ _ (hrw w7 (Below.refl _ _)).2; have HRWc := Lib.hid hrw; have HBc := Lib.hid hbc; clear hrw hbc)
       | (go_at_call 124; refine (HNM.out _ HRWc.out HBc.out).mono ?_; rintro e w9 ⟨rfl,hb9⟩; have HB9 := Lib.hid hb9; clear hb9))
      go_ret
      rw [HRR.out,HN.out]
      exact ⟨rfl,HB9.out⟩
   have b17 : (i.op == 17) = false := by rw [beq_eq_false_iff_ne]; exact c17
   by_cases c18 : i.op = 18
   ·have HRR : Hid (R = unl (tyAt g.vs i.a == g.ret) 7) := by unfold Hid; rw [HEV2.out]; unfold instrRest; rw [if_neg c15,if_neg c16,if_neg c17,if_pos c18]
    have HVAa : Hid (isVar g.vs.length i.a = true) := HVA.out _ (by rw [HL.out]; exact read_a (by rw [c18]; rfl))
    rw [c18] at z0
    obtain ⟨⟨ba,sa⟩,hta⟩ : ∃ t,tyAt g.vs i.a = t := ⟨_,rfl⟩
    obtain ⟨d,hdd⟩ : ∃ d,(((ba,sa) : Ty) == (g.c.rp,g.c.rto)) = d := ⟨_,rfl⟩
    have heq : ∀ w,(Op.equalIn 10000 45 (.agg #[.bool ba,.string sa]) (.agg #[.bool g.c.rp,.string g.c.rto])).run Try.prog w = .ok d w := fun w => by rw [ty_eqIn,hdd]
    have HR2R : Hid (R = unl d 7) := by unfold Hid; rw [HRR.out,hta,← hdd]; rfl
    have HTX : Hid (∀ p : BW w6,Calls Try.prog 125 #[.agg #[.slice m.sA m.ss.length m.sC,.slice m.fA m.fs.length m.fC,.string g.c.nm,.int .i64 g.c.par,.slice g.c.varsA g.c.nvars g.c.varsC,.bool g.c.rp,.string g.c.rto,.int .i64 g.c.rcl,.slice g.c.fromA g.c.nfrom g.c.fromC,.slice g.c.insA g.c.ins.length g.c.insC],.int .i64 i.a] p.w fun e w' => e = .returned (.agg #[.bool ba,.string sa]) ∧ Below p.w.heap.size p.w w') := fun p => by
     have := typ_calls m g i.a p.w (HJ6.out.below p.h).vars HJ6.out.nv HJ6.out.vl HVAa.out
     rw [hta] at this
     exact this
    have HJJ : Hid (∀ p : BW w6,JgAt p.w N m g) := fun p => JgAt.of (HRW6.out p.w p.h).1
    have k0 : ∀ p : BW w6,p.w.cell? ⟨N,0,none⟩ = some (.slice m.sA m.ss.length m.sC) := fun p => (HJJ.out p).1
    have k1 : ∀ p : BW w6,p.w.cell? ⟨N,1,none⟩ = some (.slice m.fA m.fs.length m.fC) := fun p => (HJJ.out p).2.1
    have k2 : ∀ p : BW w6,p.w.cell? ⟨N,2,none⟩ = some (.string g.c.nm) := fun p => (HJJ.out p).2.2.1
    have k3 : ∀ p : BW w6,p.w.cell? ⟨N,3,none⟩ = some (.int .i64 g.c.par) := fun p => (HJJ.out p).2.2.2.1
    have k4 : ∀ p : BW w6,p.w.cell? ⟨N,4,none⟩ = some (.slice g.c.varsA g.c.nvars g.c.varsC) := fun p => (HJJ.out p).2.2.2.2.1
    have k5 : ∀ p : BW w6,p.w.cell? ⟨N,5,none⟩ = some (.bool g.c.rp) := fun p => (HJJ.out p).2.2.2.2.2.1
    have k6 : ∀ p : BW w6,p.w.cell? ⟨N,6,none⟩ = some (.string g.c.rto) := fun p => (HJJ.out p).2.2.2.2.2.2.1
    have k7 : ∀ p : BW w6,p.w.cell? ⟨N,7,none⟩ = some (.int .i64 g.c.rcl) := fun p => (HJJ.out p).2.2.2.2.2.2.2.1
    have k8 : ∀ p : BW w6,p.w.cell? ⟨N,8,none⟩ = some (.slice g.c.fromA g.c.nfrom g.c.fromC) := fun p => (HJJ.out p).2.2.2.2.2.2.2.2.1
    have k9 : ∀ p : BW w6,p.w.cell? ⟨N,9,none⟩ = some (.slice g.c.insA g.c.ins.length g.c.insC) := fun p => (HJJ.out p).2.2.2.2.2.2.2.2.2
    have z2p : ∀ p : BW w6,p.w.cell? ⟨N + 1,2,none⟩ = some (.int .i64 i.a) := fun p => by rw [cell_of_row _ _ _ _ _ _ (HRW6.out p.w p.h).2]; rfl
    clear HEV2 hta hdd HRR
    go_wp2
    refine wp_region_quiet_bw (by kernel_rfl) (by kernel_rfl) ?_
    repeat (go_big_quiet_step (first
     | (go_at_call 125; exact bw_of (HTX.out _))
     | (go_at_call 81; exact bw_same (unless_calls _ _ _))))
    refine wpQuiet_nil ?_
    rintro _ ⟨p,rfl⟩
    go_wp2
    go_ret
    rw [HR2R.out,HN.out]
    exact ⟨rfl,HB06.out.trans (p.h.mono (by omega))⟩
   have b18 : (i.op == 18) = false := by rw [beq_eq_false_iff_ne]; exact c18
   have HRR : Hid (R = plainF m g.vs i) := by unfold Hid; rw [HEV2.out]; unfold instrRest; rw [if_neg c15,if_neg c16,if_neg c17,if_neg c18]
   have HPC : Hid (Calls Try.prog 126 #[.agg (jg m g),.agg i.cells] w6 fun e w' => e = .returned (.int .i64 (plainF m g.vs i)) ∧ Below w6.heap.size w6 w') :=
    plain_calls m g i w6 (by have := HVO.out; omega) ⟨HJ6.out,fun h => HVA.out _ (by rw [HL.out]; exact mem_d h),fun h => HVA.out _ (by rw [HL.out]; exact read_a h),fun h => HVA.out _ (by rw [HL.out]; exact read_b h),HIN.out.kn⟩
   clear HEV2 c15 c16 c17 c18
   go_wp2_with (first
    | (refine wpList_load_row rfl 113 _ rfl N rfl 113 (jg m g) (0,0) _ (HR6.out.1) Try.underlying113 rfl (by kernel_rfl) ?_)
    | (refine wpList_load_row rfl 62 _ rfl (N + 1) rfl 62 i.cells (0,0) _ (HR6.out.2) Try.underlying62 rfl (by kernel_rfl) ?_)
    | (go_at_call 126; refine HPC.out.mono ?_; rintro e w7 ⟨rfl,hb7⟩; have HB7 := Lib.hid hb7; clear hb7))
   go_ret
   rw [HRR.out,HN.out]
   exact ⟨rfl,HB06.out.trans (HB7.out.mono (by omega))⟩
end Go.Proofs.Ytlggjbopfnndbaa
