import Derived.Test.YtlggjbopfnndbaaG12
import Derived.Test.YtlggjbopfnndbaaG04
import Derived.Maps.OwnOps
import Derived.Maps.Views
import Derived.Test.YtlggjbopfnndbaaG07
import Derived.Deep.WholeRow
import Derived.Laws.OwnMore
namespace Go.Proofs.Ytlggjbopfnndbaa
open Go.RowKit
theorem firstF_at {α : Type} {f : α → Int} : ∀ {l : List α} {j : Nat} {x : α},(∀ y ∈ l.take j,f y = 0) → l[j]? = some x → f x ≠ 0 → firstF f l = f x
 | [],j,x,_,h,_ => by simp at h
 | y :: r,0,x,_,h,hx => by
  simp at h; subst h
  unfold firstF; rw [if_neg hx]
 | y :: r,j + 1,x,hz,h,hx => by
  unfold firstF
  rw [if_pos (hz y (by simp))]
  exact firstF_at (j := j) (fun z hz' => hz z (by simp [hz'])) (by simpa using h) hx
theorem firstF_zero {α : Type} {f : α → Int} : ∀ {l : List α},(∀ y ∈ l,f y = 0) → firstF f l = 0
 | [],_ => rfl
 | y :: r,h => by
  unfold firstF
  rw [if_pos (h y (by simp))]
  exact firstF_zero fun z hz => h z (by simp [hz])
theorem ins_cells_one {i : Ins} (h : i.ok) : (i.cells.all fun x => x.oneCell') = true := by
 obtain ⟨⟨ao,cap,h1⟩,ao2,n2,cap2,h2⟩ := h
 rw [← Array.all_toList]; simp [Ins.cells,Value.oneCell',h1,h2]
structure CodeIn (w : World) (m : Mo) (g : Fn) : Prop where
 mo : m.inn w
 fn : g.inn w
 al : ∀ i ∈ g.c.ins,i.args.length ≤ 40
 kn : ∀ v,isVar g.vs.length v = true → m.known (tyAt g.vs v) = true
set_option maxRecDepth 100000 in
set_option maxHeartbeats 8000000 in
theorem code_calls (m : Mo) (g : Fn) (w : World) (h : CodeIn w m g) :
  Calls Try.prog 79 #[.agg (jg m g)] w fun e w' => e = .returned (.int .i64 (codeF m g)) ∧ Below w.heap.size w w' := by
 have HJI : Hid (∀ i ∈ g.c.ins,∀ W,Below w.heap.size w W → Calls Try.prog 102 #[.agg (jg m g),.agg i.cells] W fun e w' => e = .returned (.int .i64 (instrF m g i)) ∧ Below W.heap.size W w') := fun i hi W hW =>
  instr_calls m g i W ⟨(jIn_of h.mo h.fn).below hW,(h.fn.code.args i hi).below hW,h.al i hi,h.kn⟩
 have HIR := Lib.hid h.fn.code.row
 have HOK : Hid (∀ i ∈ g.c.ins,i.ok) := fun i hi => (h.fn.code.args i hi).1
 have hnv := h.fn.nvars
 have hvl := (jIn_of h.mo h.fn).vl
 unfold maxLen at hvl
 obtain ⟨R,hR⟩ : ∃ R,codeF m g = R := ⟨_,rfl⟩
 have HE : Hid (R = if 300 < g.vs.length ∨ g.c.ins.length < 1 ∨ 3000 < g.c.ins.length then 2
  else if g.c.par < 0 ∨ (g.vs.length : Int) < g.c.par then 15
  else if firstF (instrF m g) g.c.ins ≠ 0 then firstF (instrF m g) g.c.ins
  else unl (match g.c.ins.getLast? with
   | some i => decide (16 ≤ i.op)
   | none => false) 15) := hR.symm
 rw [hR]
 clear h hR
 obtain ⟨N,hN⟩ : ∃ N,w.heap.size = N := ⟨_,rfl⟩
 obtain ⟨W1,hW1⟩ : ∃ W1,w.alloc (.cells (jg m g) 113) = W1 := ⟨_,rfl⟩
 have hb1 : Below N w W1 := by rw [← hW1,← hN]; exact (Below.refl _ _).alloc (Nat.le_refl _) _
 have hs1 : W1.heap.size = N + 1 := by rw [← hW1]; simp [hN]
 have hr1 : W1.heap[N]? = some (.cells (jg m g) 113 (0,0)) := by rw [← hW1,← hN]; exact alloc_at _ _
 have q3 : W1.cell? ⟨N,3,none⟩ = some (.int .i64 g.c.par) := by rw [cell_of_row _ _ _ _ _ _ hr1]; rfl
 have q4 : W1.cell? ⟨N,4,none⟩ = some (.slice g.c.varsA g.vs.length g.c.varsC) := by rw [cell_of_row _ _ _ _ _ _ hr1,← hnv]; rfl
 have q9 : W1.cell? ⟨N,9,none⟩ = some (.slice g.c.insA g.c.ins.length g.c.insC) := by rw [cell_of_row _ _ _ _ _ _ hr1]; rfl
 have HB1 := Lib.hid hb1
 have HN := Lib.hid hN
 have HR1 := Lib.hid hr1
 have HS1 := Lib.hid hs1
 have hNlt : N < W1.heap.size := by omega
 clear hb1 hr1 hnv
 by_cases c1 : 300 < g.vs.length
 ·have HRR : Hid (R = 2) := by unfold Hid; rw [HE.out,if_pos (.inl c1)]
  clear HE
  go_enter Try.func79,Try.ntmps79
  go_wp2
  go_ret
  rw [HRR.out]
  try rw [HN.out]
  exact ⟨rfl,HB1.out⟩
 by_cases c2 : g.c.ins.length < 1
 ·have HRR : Hid (R = 2) := by unfold Hid; rw [HE.out,if_pos (.inr (.inl c2))]
  clear HE
  go_enter Try.func79,Try.ntmps79
  go_wp2
  go_ret
  rw [HRR.out]
  try rw [HN.out]
  exact ⟨rfl,HB1.out⟩
 by_cases c3 : 3000 < g.c.ins.length
 ·have HRR : Hid (R = 2) := by unfold Hid; rw [HE.out,if_pos (.inr (.inr c3))]
  clear HE
  go_enter Try.func79,Try.ntmps79
  go_wp2
  go_ret
  rw [HRR.out]
  try rw [HN.out]
  exact ⟨rfl,HB1.out⟩
 by_cases c4 : g.c.par < 0
 ·have HRR : Hid (R = 15) := by unfold Hid; rw [HE.out,if_neg (by omega),if_pos (.inl c4)]
  clear HE
  go_enter Try.func79,Try.ntmps79
  go_wp2
  go_ret
  rw [HRR.out]
  try rw [HN.out]
  exact ⟨rfl,HB1.out⟩
 by_cases c5 : (g.vs.length : Int) < g.c.par
 ·have HRR : Hid (R = 15) := by unfold Hid; rw [HE.out,if_neg (by omega),if_pos (.inr c5)]
  clear HE
  go_enter Try.func79,Try.ntmps79
  go_wp2
  go_ret
  rw [HRR.out]
  try rw [HN.out]
  exact ⟨rfl,HB1.out⟩
 have HE2 : Hid (R = if firstF (instrF m g) g.c.ins ≠ 0 then firstF (instrF m g) g.c.ins
  else unl (match g.c.ins.getLast? with
   | some i => decide (16 ≤ i.op)
   | none => false) 15) := by unfold Hid; rw [HE.out,if_neg (by omega),if_neg (by omega)]
 clear HE
 go_enter Try.func79,Try.ntmps79
 go_upto_region 8 with (refine wpList_load_row rfl 113 _ rfl N rfl 113 (jg m g) (0,0) _ HR1.out Try.underlying113 rfl (by kernel_rfl) ?_)
 go_loopw [47] (fun c wr => ∃ j : Nat,j ≤ g.c.ins.length ∧ c = .int .i64 (j : Int) ∧ (∀ x ∈ g.c.ins.take j,instrF m g x = 0) ∧ Below W1.heap.size W1 wr) (fun c _ => g.c.ins.length - (intOf c).toNat)
 case atStart => exact ⟨0,Nat.zero_le _,rfl,by simp,Below.refl _ _⟩
 case round =>
  obtain ⟨j,hj,rfl,hz,hb⟩ := hrel
  have HB := Lib.hid hb
  have HZ := Lib.hid hz
  have HBW : Hid (Below N w wr) := HB1.out.trans (hb.mono (by omega))
  by_cases hjl : j < g.c.ins.length
  ·obtain ⟨i,hi⟩ : ∃ i,g.c.ins[j]? = some i := ⟨_,List.getElem?_eq_getElem hjl⟩
   have him := List.mem_of_getElem? hi
   obtain ⟨b0,off,hA,hb0,hcell⟩ := HIR.out (by intro e; rw [e] at hjl; simp at hjl)
   have hb0N : b0 < N := by omega
   have HCA : Hid (∀ k u,i.cells.toList[k]? = some u → wr.cell? ((⟨b0,off + j * 13,none⟩ : Addr).add k) = some u) := fun k u hu => by
    rw [Addr.add_lit,HBW.out.cell (p := ⟨b0,_,none⟩) hb0N]; exact hcell j i hi k u hu
   have hst : ∀ (c : Array Value),c.size = 13 → (storeCells ⟨wr.heap.size,0,none⟩ i.cells.toList 0).run Try.prog (wr.alloc (.cells c 62)) = .ok () (wr.alloc (.cells i.cells 62)) := fun c hc =>
    run_storeCells_new (P := Try.prog) wr 62 c i.cells (by show _ = some 13; kernel_rfl) hc (ins_cells_one (HOK.out i him))
   have HW2 : Hid ((wr.alloc (.cells i.cells 62)).heap[wr.heap.size]? = some (.cells i.cells 62 (0,0))) := alloc_at _ _
   have HB2 : Hid (Below N w (wr.alloc (.cells i.cells 62))) := HBW.out.alloc (by have := HB.out.size; omega) _
   have HB12 : Hid (Below W1.heap.size W1 (wr.alloc (.cells i.cells 62))) := HB.out.alloc HB.out.size _
   have HIC : Hid (Calls Try.prog 102 #[.agg (jg m g),.agg i.cells] (wr.alloc (.cells i.cells 62)) fun e w' => e = .returned (.int .i64 (instrF m g i)) ∧ Below (wr.alloc (.cells i.cells 62)).heap.size (wr.alloc (.cells i.cells 62)) w') := HJI.out i him _ (by rw [HN.out]; exact HB2.out)
   have hjI : (j : Int) < (g.c.ins.length : Int) := by omega
   have HI := Lib.hid hi
   obtain ⟨z,hzz⟩ : ∃ z,instrF m g i = z := ⟨_,rfl⟩
   rw [hzz] at HIC
   have HZZ := Lib.hid hzz
   rw [hA]
   clear hz hb hi him hb0 hcell hzz
   by_cases hz0 : z = 0
   ·subst hz0
    go_wp2_with (first
     | (refine wpList_load_at rfl 62 _ rfl ⟨b0,off + j * 13,none⟩ rfl i.cells _ HCA.out Try.underlying62 rfl (by kernel_rfl) ?_)
     | (refine wpList_load_row rfl 62 _ rfl wr.heap.size rfl 62 i.cells (0,0) _ HW2.out Try.underlying62 rfl (by kernel_rfl) ?_)
     | (go_at_call 102; refine HIC.out.mono ?_; rintro e w3 ⟨rfl,hb3⟩; have HB3 : Hid (Below W1.heap.size W1 w3) := HB12.out.trans (hb3.mono HB12.out.size); clear hb3))
    go_roundw
    case rel => exact ⟨j + 1,by omega,by go_num,take_all (p := fun x => instrF m g x = 0) HZ.out HI.out HZZ.out,HB3.out⟩
    case measure => simp [intOf]; omega
   ·have HRR : Hid (R = z) := by
     unfold Hid
     have e := firstF_at (f := instrF m g) HZ.out HI.out (by rw [HZZ.out]; exact hz0)
     rw [HE2.out,e,HZZ.out,if_pos hz0]
    have hzb : (z == 0) = false := by rw [beq_eq_false_iff_ne]; exact hz0
    go_wp2_with (first
     | (refine wpList_load_at rfl 62 _ rfl ⟨b0,off + j * 13,none⟩ rfl i.cells _ HCA.out Try.underlying62 rfl (by kernel_rfl) ?_)
     | (refine wpList_load_row rfl 62 _ rfl wr.heap.size rfl 62 i.cells (0,0) _ HW2.out Try.underlying62 rfl (by kernel_rfl) ?_)
     | (go_at_call 102; refine HIC.out.mono ?_; rintro e w3 ⟨rfl,hb3⟩; have HB3 : Hid (Below W1.heap.size W1 w3) := HB12.out.trans (hb3.mono HB12.out.size); clear hb3))
    go_ret
    rw [HRR.out]
    try rw [HN.out]
    exact ⟨rfl,HB1.out.trans (HB3.out.mono (by omega))⟩
  ·have hje : j = g.c.ins.length := by omega
   subst hje
   rw [List.take_length] at hz
   obtain ⟨i,hi⟩ : ∃ i,g.c.ins[g.c.ins.length - 1]? = some i := ⟨_,List.getElem?_eq_getElem (by omega)⟩
   have HRR : Hid (R = unl (decide (16 ≤ i.op)) 15) := by
    unfold Hid
    rw [HE2.out,firstF_zero hz,if_neg (by simp),List.getLast?_eq_getElem?,hi]
   obtain ⟨b0,off,hA,hb0,hcell⟩ := HIR.out (by intro e; rw [e] at hi; simp at hi)
   have hb0N : b0 < N := by omega
   obtain ⟨L,hL⟩ : ∃ L,g.c.ins.length = L + 1 := ⟨g.c.ins.length - 1,by omega⟩
   have hd : wr.cell? ⟨b0,off + L * 13,none⟩ = some (.int .i64 i.op) := by
    rw [HBW.out.cell (p := ⟨b0,_,none⟩) hb0N]
    rw [hL,Nat.add_sub_cancel] at hi
    exact hcell L i hi 0 _ rfl
   have q9r : wr.cell? ⟨N,9,none⟩ = some (.slice (some ⟨b0,off,none⟩) (L + 1) g.c.insC) := by rw [hb.cell (p := ⟨N,9,none⟩) hNlt,← hA,← hL]; exact q9
   have hbr : b0 < wr.heap.size := by have := hb.size; omega
   have hNr : N < wr.heap.size := by have := hb.size; omega
   have hLI : ((L + 1 : Nat) : Int) - 1 = (L : Int) := by omega
   have hL3 : L ≤ 3000 := by omega
   clear hz hb hi HE2 hcell q9
   rw [hL]
   go_wp2_with (go_at_call 81; refine (unless_calls _ _ _).mono ?_; rintro e w8 ⟨rfl,rfl⟩)
   go_ret
   rw [HRR.out]
   try rw [HN.out]
   exact ⟨rfl,HBW.out⟩
end Go.Proofs.Ytlggjbopfnndbaa
namespace Go.Proofs.Ytlggjbopfnndbaa
open Go.RowKit Go.Maps
theorem stringKeyed : Keyed Try.prog 9 := string_keyed Try.underlying9
theorem zeroBoolS (w : World) : (zeroValue 4).run Try.prog w = .ok (.bool false) w := by kernel_rfl
theorem plainElem_boolS {P : Program} {e : TypeId} (he : P.underlying e = some .bool) {v : Value} {z : DataW Unit × List MemPlace} (h : plainElem P e v = some z) : ∃ x,v = .bool x ∧ z = (.lit (.bool x),[]) := by
 unfold plainElem at h
 rw [he] at h
 cases v <;> simp at h
 exact ⟨_,rfl,h.symm⟩
def SetS (w : World) (B n : Nat) (S : List ByteArray) : Prop := ∃ D : DataW Unit,w.ownsMap Try.prog 9 (plainElem Try.prog 4) B n D ∧ IsMap D ∧
 ∀ x : ByteArray,D.atKey (.string x.data.toList) (.lit (.bool false)) = .lit (.bool (decide (x ∈ S)))
theorem SetS.made (w : World) : SetS (w.alloc (.map #[] 0)) w.heap.size 0 [] :=
 ⟨.map [],World.ownsMap_made _ _ _ _,isMap_empty,fun x => by simp [DataW.atKey]⟩
theorem SetS.lt {w : World} {B n : Nat} {S : List ByteArray} (h : SetS w B n S) : B < w.heap.size := by
 obtain ⟨D,h1,h2⟩ := h
 exact h1.lt
theorem SetS.look {w : World} {B n : Nat} {S : List ByteArray} (h : SetS w B n S) {x : ByteArray} (hx : x.size ≤ maxLen) :
  (Instr.lookup 149 (.map (some B)) (.string x) false).run Try.prog w = .ok (.bool (decide (x ∈ S))) w := by
 obtain ⟨D,h1,h2,h3⟩ := h
 obtain ⟨v,ps,hrun,hv⟩ := h1.lookup stringKeyed Try.underlying149 (zeroBoolS w) (plainElem_bool Try.underlying4 false) (WideMaps.keyOf_string_mk Try.underlying9 hx)
 obtain ⟨y,rfl,hy⟩ := plainElem_boolS Try.underlying4 hv
 rw [h3 x] at hy
 simp only [Prod.mk.injEq,DataW.lit.injEq,Lit.bool.injEq] at hy
 rw [hrun,← hy.1]
theorem SetS.add {w : World} {B n : Nat} {S : List ByteArray} (h : SetS w B n S) {x : ByteArray} (hx : x.size ≤ maxLen) (hn : n < maxLen) :
  ∃ w',(Instr.mapUpdate 149 (.map (some B)) (.string x) (.bool true)).run Try.prog w = .ok () w' ∧ SetS w' B (n + 1) (x :: S) ∧ Ext (· = B) w w' := by
 obtain ⟨D,h1,h2,h3⟩ := h
 obtain ⟨w',hrun,r1,r2⟩ := h1.update stringKeyed Try.underlying149 hn (WideMaps.keyOf_string_mk Try.underlying9 hx) (plainElem_bool Try.underlying4 true)
 refine ⟨w',hrun,⟨_,r1,h2.put _ _,fun y => ?_⟩,Ext.of_grown r2 (fun k hk => .inl (by simpa using hk.symm))⟩
 by_cases e : y = x
 ·subst e
  rw [atKey_put_same h2 (by simp [WideAt.IsKeyLit])]; simp
 ·rw [atKey_put_other (lit_ne e),h3 y]; simp [e]
end Go.Proofs.Ytlggjbopfnndbaa
namespace Go.Proofs.Ytlggjbopfnndbaa
open Go.RowKit Go.Maps
theorem info_string : (Try.prog.info? 9).map (fun i => (i.zero,i.size,i.bytes)) = some (some (.string ⟨#[]⟩),1,16) := by kernel_rfl
def OwnS (w : World) (base : Nat) (v : Value) (xs : List ByteArray) : Prop := w.ownsRow base 9 1 v xs.length (xs.map Value.string)
theorem OwnS.nil (w : World) (base : Nat) : OwnS w base (.slice none 0 0) [] := World.ownsRow_nil _ _ _ _
theorem OwnS.isSlice {w : World} {base : Nat} {v : Value} {xs : List ByteArray} (h : OwnS w base v xs) : ∃ ao cap,v = .slice ao xs.length cap := by
 rcases h.2 with ⟨h1,h2⟩ | ⟨g,cap,cur,h1,_⟩
 ·exact ⟨none,0,by rw [h2]; exact h1⟩
 ·exact ⟨_,_,h1⟩
theorem OwnS.at_ {w : World} {base n cap : Nat} {ao : Option Addr} {xs : List ByteArray} (h : OwnS w base (.slice ao n cap) xs) : StrsAt w ao xs := by
 intro hne
 rcases h.2 with ⟨h1,h2⟩ | ⟨g,cap',cur,h1,h2,h3,h4,h5,h6,h7⟩
 ·exact absurd (List.eq_nil_of_length_eq_zero h2) hne
 ·have hs : ao = some ⟨g,0,none⟩ := by simp only [Value.slice.injEq] at h1; exact h1.1
  refine ⟨g,0,hs,(Array.getElem?_eq_some_iff.1 h3).1,fun k z hz => ?_⟩
  rw [Nat.zero_add,cell_of_row w g k cur _ _ h3]
  have hk : k < xs.length := (List.getElem?_eq_some_iff.1 hz).1
  have e : (cur.toList.take (xs.length * 1))[k]? = some (.string z) := by rw [h7]; simp [hz]
  rw [List.getElem?_take,if_pos (by omega)] at e
  simpa using e
theorem OwnS.below {w w' : World} {base : Nat} {v : Value} {xs : List ByteArray} (h : OwnS w base v xs) (hb : Below w.heap.size w w') : OwnS w' base v xs := ownsRow_below h hb
set_option maxHeartbeats 1000000 in
theorem wpList_append_str {w : World} {ops : Array Oper} {rest : List Oper} {o : Oper} {a : Act} {Q : Exit → Act → World → Prop} (hgd : o.guard = none) (s x : Operand)
  (ho : o.op = .call { callee := .builtin .append,args := #[s,x],argTypes := #[104,104] }) (base : Nat) (v : Value) (xs : List ByteArray) (hs : a.eval s = v) (hown : OwnS w base v xs)
  (ad : Addr) (z : ByteArray) (c : Nat) (hx : a.eval x = .slice (some ad) 1 c) (hat : w.cell? ad = some (.string z)) (h63 : xs.length ≤ 90000) (hbase : base ≤ w.heap.size)
  (h : ∀ v' w',OwnS w' base v' (xs ++ [z]) → w.grownBy w' v.ownBlock → wpList Try.prog ops Q rest (a.put o.dst v') w') : wpList Try.prog ops Q (o :: rest) a w := by
 obtain ⟨i0,hi,hz0,hz1,hz2⟩ := info_parts info_string
 have hh : ∀ v' w',w'.ownsRow base 9 1 v' (xs.length + 1) (xs.map Value.string ++ [.string z]) → w.grownBy w' v.ownBlock → wpList Try.prog ops Q rest (a.put o.dst v') w' := fun v' w' h1 h2 => h v' w' (by unfold OwnS; simpa using h1) h2
 refine wpList_append_own _ hgd s x 104 ho base 9 i0 (.string ⟨#[]⟩) 1 16 Try.underlying104 hi hz0 hz1 hz2 rfl (by decide) v xs.length _ hs hown ad 1 c [.string z] hx (by simp) (fun j u hu => ?_) (by simp; rfl) (by unfold maxLen; omega) (by omega) hbase (fun v' w' h1 h2 _ => hh v' w' h1 h2)
 have : j < 1 := (List.getElem?_eq_some_iff.1 hu).1
 obtain rfl : j = 0 := by omega
 simp at hu; subst hu
 obtain ⟨b,o,s⟩ := ad
 simpa [Addr.add] using hat
theorem nodup_snoc {xs : List ByteArray} {j : Nat} {y : ByteArray} (h : (xs.take j).Nodup) (hy : xs[j]? = some y) (hn : y ∉ xs.take j) : (xs.take (j + 1)).Nodup := by
 rw [take_snocI hy,List.nodup_append]
 exact ⟨h,by simp,by intro a ha b hb; simp at hb; subst hb; rintro rfl; exact hn ha⟩
theorem not_nodup {xs : List ByteArray} {j : Nat} {y : ByteArray} (hy : xs[j]? = some y) (hn : y ∈ xs.take j) : ¬ xs.Nodup := by
 intro h
 have h2 : (xs.take (j + 1)).Nodup := h.sublist (List.take_sublist _ _)
 rw [take_snocI hy,List.nodup_append] at h2
 exact h2.2.2 y hn y (by simp) rfl
set_option maxRecDepth 100000 in
set_option maxHeartbeats 4000000 in
theorem doubled_calls (w : World) (c : Nat) (ao : Option Addr) (xs : List ByteArray) (hn : xs.length ≤ 90000) (hsz : ∀ x ∈ xs,x.size ≤ maxLen) (h : StrsAt w ao xs) :
  Calls Try.prog 99 #[.slice ao xs.length c] w fun e w' => e = .returned (.bool (decide (¬ xs.Nodup))) ∧ Below w.heap.size w w' := by
 have hmm := @run_makeMap Try.prog
 have H := Lib.hid h
 have HSZ := Lib.hid hsz
 obtain ⟨N,hN⟩ : ∃ N,w.heap.size = N := ⟨_,rfl⟩
 obtain ⟨W1,hW1⟩ : ∃ W1,w.alloc (.map #[] 0) = W1 := ⟨_,rfl⟩
 have hb1 : Below N w W1 := by rw [← hW1,← hN]; exact (Below.refl _ _).alloc (Nat.le_refl _) _
 have HS0 : Hid (SetS W1 N 0 []) := by rw [← hW1,← hN]; exact SetS.made w
 have HB1 := Lib.hid hb1
 have HN := Lib.hid hN
 obtain ⟨R,hR⟩ : ∃ R,decide (¬ xs.Nodup) = R := ⟨_,rfl⟩
 rw [hR]
 have HR := Lib.hid hR
 clear h hsz hb1 hR
 go_enter Try.func99,Try.ntmps99
 go_wp2_with fail
 go_loopw [9] (fun c wr => ∃ (j : Nat) (S : List ByteArray),j ≤ xs.length ∧ c = .int .i64 (j : Int) ∧ SetS wr N j S ∧ (∀ z,z ∈ S ↔ z ∈ xs.take j) ∧ (xs.take j).Nodup ∧ Below N w wr) (fun c _ => xs.length - (intOf c).toNat)
 case atStart => exact ⟨0,[],Nat.zero_le _,rfl,HS0.out,by simp,by simp,HB1.out⟩
 case round =>
  obtain ⟨j,S,hj,rfl,hset,hmem,hnd,hb⟩ := hrel
  have HB := Lib.hid hb
  have HND := Lib.hid hnd
  have HMEM := Lib.hid hmem
  by_cases hjl : j < xs.length
  ·obtain ⟨y,hy⟩ : ∃ y,xs[j]? = some y := ⟨_,List.getElem?_eq_getElem hjl⟩
   obtain ⟨g1,off,rfl,hg1,q1⟩ := (H.out.below (by rw [HN.out]; exact hb)) (by intro e; rw [e] at hjl; simp at hjl)
   have d1 : wr.cell? ⟨g1,off + j,none⟩ = some (.string y) := q1 j y hy
   have hys := HSZ.out y (List.mem_of_getElem? hy)
   have hjI : (j : Int) < (xs.length : Int) := by omega
   have hlk := hset.look hys
   obtain ⟨w2,hup,hs2,hx2⟩ := hset.add hys (show j < maxLen by unfold maxLen; omega)
   obtain ⟨d,hd⟩ : ∃ d,decide (y ∈ S) = d := ⟨_,rfl⟩
   rw [hd] at hlk
   have HD := Lib.hid hd
   have HY := Lib.hid hy
   have HS2 := Lib.hid hs2
   have HX2 := Lib.hid hx2
   have hNw := hset.lt
   clear hset hmem hnd hb hy q1 hys hd hs2 hx2
   cases d with
   | true =>
    have HRR : Hid (R = true) := by
     unfold Hid
     rw [← HR.out]
     exact decide_eq_true (not_nodup HY.out ((HMEM.out y).1 (of_decide_eq_true HD.out)))
    go_wp2
    go_ret
    rw [HRR.out]
    try rw [HN.out]
    exact ⟨rfl,HB.out⟩
   | false =>
    go_wp2
    go_roundw
    case rel =>
     have hni : y ∉ xs.take j := fun h => of_decide_eq_false HD.out ((HMEM.out y).2 h)
     refine ⟨j + 1,y :: S,by omega,by go_num,HS2.out,fun z => ?_,nodup_snoc HND.out HY.out hni,?_⟩
     ·rw [take_snocI HY.out,List.mem_cons,List.mem_append,HMEM.out z,List.mem_singleton,or_comm]
     ·have hx3 : Ext (N ≤ ·) wr w2 := HX2.out.mono (fun k hk => by show N ≤ k; omega)
      exact HB.out.trans (hx3.below (by omega) (fun k hk => hk))
    case measure => simp [intOf]; omega
  ·have hje : j = xs.length := by omega
   subst hje
   have HRR : Hid (R = false) := by
    unfold Hid
    rw [List.take_length] at hnd
    rw [← HR.out]
    exact decide_eq_false (by simpa using hnd)
   clear hset hmem hnd hb
   go_wp2
   go_ret
   rw [HRR.out]
   try rw [HN.out]
   exact ⟨rfl,HB.out⟩
end Go.Proofs.Ytlggjbopfnndbaa
