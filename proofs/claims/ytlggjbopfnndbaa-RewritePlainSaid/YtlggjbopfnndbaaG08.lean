import Derived.Test.YtlggjbopfnndbaaG07
import Derived.Deep.RegionHeld3
import Derived.Deep.WholeRow
import Derived.Laws.ResultCell
import Derived.Test.YtlggjbopfnndbaaG02
import Derived.BigQuiet
namespace Go.Proofs.Ytlggjbopfnndbaa
open Go.RowKit
structure JIn (w : World) (m : Mo) (g : Fn) : Prop where
 mo : m.inn w
 vars : RowOf Vr.cells 3 w w.heap.size g.c.varsA g.vs
 nv : g.c.nvars = g.vs.length
 vl : g.vs.length ≤ maxLen
theorem JIn.below {w w' : World} {m : Mo} {g : Fn} (h : JIn w m g) (hb : Below w.heap.size w w') : JIn w' m g := ⟨h.mo.below hb,h.vars.grow hb,h.nv,h.vl⟩
theorem jIn_of {w : World} {m : Mo} {g : Fn} (h : m.inn w) (hg : g.inn w) : JIn w m g := ⟨h,hg.vars,hg.nvars,by have := hg.code.nvars; rw [hg.nvars] at this; exact this⟩
theorem ixOf_cases {α : Type} (p : α → Bool) (l : List α) : ixOf p l = -1 ∨ ∃ (k : Nat) (x : α),ixOf p l = (k : Int) ∧ l[k]? = some x ∧ p x = true := by
 unfold ixOf
 by_cases h : l.findIdx p < l.length
 ·rw [if_pos h]
  exact .inr ⟨_,l[l.findIdx p],rfl,List.getElem?_eq_getElem h,List.findIdx_getElem⟩
 ·rw [if_neg h]; exact .inl rfl
theorem known_st {m : Mo} {t : Ty} (h : m.known t = true) (hp : t.1 = true) : ∃ (k : Nat) (s : St),m.stIx t.2 = (k : Int) ∧ m.ss[k]? = some s := by
 unfold Mo.known at h
 rw [if_pos hp] at h
 have h0 := of_decide_eq_true h
 rcases ixOf_cases (fun s : St => s.s.nm == t.2) m.ss with e | ⟨k,s,e,h1,_⟩
 ·unfold Mo.stIx at h0; omega
 ·exact ⟨k,s,e,h1⟩
set_option maxRecDepth 100000 in
set_option maxHeartbeats 1000000 in
theorem known_calls (m : Mo) (g : Fn) (b : Bool) (s : ByteArray) (w : World) (h : m.inn w) :
  Calls Try.prog 78 #[.agg (jg m g),.agg #[.bool b,.string s]] w fun e w' => e = .returned (.bool (m.known (b,s))) ∧ Below w.heap.size w w' := by
 have HS : Hid (∀ W,Below w.heap.size w W → Calls Try.prog 101 #[.agg m.cells,.string s] W fun e w' => e = .returned (.int .i64 (m.stIx s)) ∧ Below W.heap.size W w') :=
  fun W hW => struct_calls5 m s W h.ns (h.below hW).srow
 clear h
 simp only [Mo.cells] at HS
 unfold jg
 cases b with
 | false =>
  have HE : Hid (s.toList.isEmpty = m.known (false,s)) := by
   unfold Hid Mo.known
   rw [if_neg (by simp)]
   show s.toList.isEmpty = (s == ByteArray.empty)
   rw [beq_toListBytes]
   have e : ByteArray.empty.toList = [] := by rw [ByteArray.toList_eq]; rfl
   rw [e]
   cases s.toList <;> rfl
  clear HS
  go_enter Try.func78,Try.ntmps78
  go_wp2
  go_ret
  rw [← HE.out]
  exact ⟨rfl,((Below.refl _ _).alloc (Nat.le_refl _) _).alloc (by simp) _⟩
 | true =>
  have HE : Hid (decide (0 ≤ m.stIx s) = m.known (true,s)) := rfl
  obtain ⟨z,hz⟩ : ∃ z,m.stIx s = z := ⟨_,rfl⟩
  rw [hz] at HE HS
  clear hz
  go_enter Try.func78,Try.ntmps78
  go_wp2_with (go_at_call 101; refine (HS.out _ (((Below.refl _ _).alloc (Nat.le_refl _) _).alloc (by simp) _)).mono ?_; rintro e w2 ⟨rfl,hb⟩; have HB2 := Lib.hid ((((Below.refl w.heap.size w).alloc (Nat.le_refl _) _).alloc (by simp) _).trans (hb.mono (by simp; omega))); clear hb)
  go_ret
  rw [← HE.out]
  exact ⟨rfl,HB2.out⟩
theorem results_cell_row_tmp {fn : Func} {p u : Tmp} {ty : TypeId} (h : fn.results = #[.cell p ty,.tmp u]) (tmps : Array Value) (w : World) (g : Nat) (t : TypeId) (cs : Array Value) (fr : Nat × Nat) (fs : Array Field)
  (hp : tmps.getD p undef = .pointer (some ⟨g,0,none⟩)) (hg : w.heap[g]? = some (.cells cs t fr))
  (hu : Try.prog.underlying ty = some (.struct fs)) (hi : (Try.prog.info? ty).map (·.size) = some cs.size) :
  (results fn tmps).run Try.prog w = .ok (.tuple #[.agg cs,tmps.getD u undef]) w := by
 rw [results_cell_tmp h,hp]
 have e := run_loadVar_row w g t ty cs fr _ hg hu rfl hi
 simp only [asAddr,Sem.run_pure,Result.andThen_ok,e]
theorem set2_row {W : World} {b : Nat} {x y u v : Value} {t : TypeId} (h : W.heap[b]? = some (.cells #[x,y] t (0,0))) : ((W.setCell ⟨b,0,none⟩ u).setCell ⟨b,1,none⟩ v).heap[b]? = some (.cells #[u,v] t (0,0)) := by
 have h1 := Go.heap_setCell_same W b 0 _ _ u h
 have h2 := Go.heap_setCell_same _ b 1 _ _ v h1
 simpa using h2
set_option maxRecDepth 100000 in
set_option maxHeartbeats 2000000 in
theorem field_calls (m : Mo) (g : Fn) (v f : Int) (w : World) (h : JIn w m g) (hv : isVar g.vs.length v = true) (hk : m.known (tyAt g.vs v) = true) :
  Calls Try.prog 140 #[.agg (jg m g),.int .i64 v,.int .i64 f] w fun e w' => e = .returned (.tuple #[tyV (fieldF m g.vs v f).1,.int .i64 (fieldF m g.vs v f).2]) ∧ Below w.heap.size w w' := by
 have HT : Hid (∀ W,Below w.heap.size w W → Calls Try.prog 125 #[.agg (jg m g),.int .i64 v] W fun e w' => e = .returned (tyV (tyAt g.vs v)) ∧ Below W.heap.size W w') := fun W hW => typ_calls m g v W (h.below hW).vars h.nv h.vl hv
 have HS : Hid (∀ W s,Below w.heap.size w W → Calls Try.prog 101 #[.agg m.cells,.string s] W fun e w' => e = .returned (.int .i64 (m.stIx s)) ∧ Below W.heap.size W w') :=
  fun W s hW => struct_calls5 m s W h.mo.ns (h.mo.below hW).srow
 simp only [Mo.cells] at HS
 have HF : Hid (fieldF m g.vs v f = (if (tyAt g.vs v).1 = false then (noTy,7) else match m.ss[(m.stIx (tyAt g.vs v).2).toNat]? with
  | none => (noTy,15)
  | some s => if f < 0 then (noTy,15) else match s.fs[f.toNat]? with
   | none => (noTy,15)
   | some x => (x.ty,0) : Ty × Int)) := rfl
 have HJ := Lib.hid h
 have HK := Lib.hid hk
 obtain ⟨⟨b,s⟩,ht⟩ : ∃ t,tyAt g.vs v = t := ⟨_,rfl⟩
 rw [ht] at HF HT HK
 obtain ⟨F,hF⟩ : ∃ F,fieldF m g.vs v f = F := ⟨_,rfl⟩
 rw [hF] at HF ⊢
 unfold tyV at HT
 clear h hv hk ht hF
 have hst : ∀ (w : World) (c : Array Value),c.size = 2 → (storeCells ⟨w.heap.size,0,none⟩ [.bool b,.string s] 0).run Try.prog (w.alloc (.cells c 45)) = .ok () (w.alloc (.cells #[.bool b,.string s] 45)) := fun w c hc =>
  run_storeCells_new (P := Try.prog) w 45 c #[.bool b,.string s] (by show _ = some 2; kernel_rfl) hc (by simp [Value.oneCell'])
 obtain ⟨N,hN⟩ : ∃ N,w.heap.size = N := ⟨_,rfl⟩
 obtain ⟨W1,hW1⟩ : ∃ W1,(w.alloc (.cells (jg m g) 113)).alloc (.cells #[.bool false,.string ⟨#[]⟩] 45) = W1 := ⟨_,rfl⟩
 have hb1 : Below N w W1 := by rw [← hW1,← hN]; exact ((Below.refl _ _).alloc (Nat.le_refl _) _).alloc (by simp) _
 have hs1 : W1.heap.size = N + 2 := by rw [← hW1]; simp [hN]
 have hr1 : W1.heap[N]? = some (.cells (jg m g) 113 (0,0)) := by rw [← hW1,← hN]; exact heap_alloc2_old _ _ _
 have hr2 : W1.heap[N + 1]? = some (.cells #[.bool false,.string ⟨#[]⟩] 45 (0,0)) := by rw [← hW1,← hN]; exact heap_alloc2_new _ _ _
 have HB1 := Lib.hid hb1
 have HR1 := Lib.hid hr1
 have HR2 := Lib.hid hr2
 have HN := Lib.hid hN
 have HS1 := Lib.hid hs1
 clear hb1 hr1 hr2 hs1
 go_enter Try.func140,Try.ntmps140
 go_upto_region 2 with (first
  | (refine wpList_load_row rfl 113 _ rfl N rfl 113 (jg m g) (0,0) _ HR1.out Try.underlying113 rfl (by kernel_rfl) ?_)
  | (go_at_call 125; refine (HT.out _ (by rw [HN.out]; exact HB1.out)).mono ?_; rintro e w2 ⟨rfl,hb2⟩; have HB2 := Lib.hid hb2; clear hb2))
 obtain ⟨T,hT⟩ : ∃ T,w2.heap.size = T := ⟨_,rfl⟩
 obtain ⟨W3,hW3⟩ : ∃ W3,w2.alloc (.cells #[.bool b,.string s] 45) = W3 := ⟨_,rfl⟩
 rw [hT,hW3]
 have hb13 : Below W1.heap.size W1 W3 := by rw [← hW3]; exact HB2.out.alloc HB2.out.size _
 have hTN : N + 2 ≤ T := by rw [← hT,← HS1.out]; exact HB2.out.size
 have hs3 : W3.heap.size = T + 1 := by rw [← hW3,← hT]; simp
 have hr3 : W3.heap[N]? = some (.cells (jg m g) 113 (0,0)) := (hb13.block N (by have := HS1.out; omega)).trans HR1.out
 have hr4 : W3.heap[N + 1]? = some (.cells #[.bool false,.string ⟨#[]⟩] 45 (0,0)) := (hb13.block (N + 1) (by have := HS1.out; omega)).trans HR2.out
 have hr5 : W3.heap[T]? = some (.cells #[.bool b,.string s] 45 (0,0)) := by rw [← hW3,← hT]; exact alloc_at _ _
 have HB3 : Hid (Below N w W3) := HB1.out.trans (hb13.mono (by have := HS1.out; omega))
 have HKEEP : Hid (∀ W,Below W3.heap.size W3 W → W.cell? ⟨N,0,none⟩ = some (.slice m.sA m.ss.length m.sC) ∧ W.cell? ⟨N,1,none⟩ = some (.slice m.fA m.fs.length m.fC) ∧ W.cell? ⟨T,0,none⟩ = some (.bool b) ∧ W.cell? ⟨T,1,none⟩ = some (.string s) ∧
   W.cell? ⟨N + 1,0,none⟩ = some (.bool false) ∧ W.cell? ⟨N + 1,1,none⟩ = some (.string ⟨#[]⟩) ∧ W.frozen? ⟨N + 1,0,none⟩ = false ∧ W.frozen? ⟨N + 1,1,none⟩ = false ∧ N + 1 < W.heap.size) := by
  intro W hW
  have q3 := (hW.block N (by omega)).trans hr3
  have q4 := (hW.block (N + 1) (by omega)).trans hr4
  have q5 := (hW.block T (by omega)).trans hr5
  refine ⟨?_,?_,?_,?_,?_,?_,?_,?_,(Array.getElem?_eq_some_iff.1 q4).1⟩
  ·rw [cell_of_row _ _ _ _ _ _ q3]; rfl
  ·rw [cell_of_row _ _ _ _ _ _ q3]; rfl
  ·rw [cell_of_row _ _ _ _ _ _ q5]; rfl
  ·rw [cell_of_row _ _ _ _ _ _ q5]; rfl
  ·rw [cell_of_row _ _ _ _ _ _ q4]; rfl
  ·rw [cell_of_row _ _ _ _ _ _ q4]; rfl
  ·exact frozen_of_row _ _ _ _ _ q4
  ·exact frozen_of_row _ _ _ _ _ q4
 have HR4 : Hid (∀ W,Below W3.heap.size W3 W → W.heap[N + 1]? = some (.cells #[.bool false,.string ⟨#[]⟩] 45 (0,0))) := fun W hW => (hW.block (N + 1) (by omega)).trans hr4
 obtain ⟨k0,k1,k2,k3,k4,k5,k6,k7,hN1⟩ := HKEEP.out W3 (Below.refl _ _)
 clear hst hW1 hW3 hb13 hr3 hr4 hr5 HR1 HR2 HT hT HB2 hN HS1
 cases b with
 | false =>
  have HFF : Hid (F = (noTy,7)) := by rw [HF.out]; rfl
  clear HF
  go_wp2
  (try simp only [Exit.inBlock,Exit.then])
  refine bodyPost_ret (results_cell_row_tmp rfl _ _ (N + 1) 45 _ (0,0) _ rfl (set2_row (HR4.out W3 (Below.refl _ _))) Try.underlying45 (by kernel_rfl)) rfl ?_
  rw [HFF.out,HN.out]
  exact ⟨rfl,(HB3.out.setCell (by show N ≤ N + 1; omega) _).setCell (by show N ≤ N + 1; omega) _⟩
 | true =>
  obtain ⟨k,st,hk1,hk2⟩ := known_st HK.out rfl
  obtain ⟨b0,off,hA,hb0,hc0⟩ := HJ.out.mo.srow (by intro e; rw [e] at hk2; simp at hk2)
  have hkl := (List.getElem?_eq_some_iff.1 hk2).1
  have hkI : (k : Int) < (m.ss.length : Int) := by omega
  have hb0N : b0 < N := by have := HN.out; omega
  have hD : ∀ W,Below W3.heap.size W3 W → W.cell? ⟨b0,off + k * 4 + 1,none⟩ = some (.slice st.s.fA st.fs.length st.s.fC) := fun W hW => by
   rw [(HB3.out.trans (hW.mono (by omega))).cell (p := ⟨b0,_,none⟩) hb0N]
   have := hc0 k st hk2 1 _ rfl
   rw [(HJ.out.mo.sin st (List.mem_of_getElem? hk2)).nf] at this
   exact this
  have HD := Lib.hid hD
  have hd := hD W3 (Below.refl _ _)
  have HSC : Hid (∀ W,Below W3.heap.size W3 W → Calls Try.prog 101 #[.agg #[.slice (some ⟨b0,off,none⟩) m.ss.length m.sC,.slice m.fA m.fs.length m.fC],.string s] W fun e w' => e = .returned (.int .i64 (k : Int)) ∧ Below W.heap.size W w') := by
   intro W hW
   have := HS.out W s (by rw [HN.out]; exact HB3.out.trans (hW.mono (by omega)))
   rw [hk1,hA] at this
   exact this
  have HFS : Hid (F = (if f < 0 then (noTy,15) else match st.fs[f.toNat]? with
   | none => (noTy,15)
   | some x => (x.ty,0) : Ty × Int)) := by
   unfold Hid
   rw [HF.out,if_neg (by decide)]
   show (match m.ss[(m.stIx s).toNat]? with
    | none => (noTy,15)
    | some s => if f < 0 then (noTy,15) else match s.fs[f.toNat]? with
     | none => (noTy,15)
     | some x => (x.ty,0) : Ty × Int) = _
   rw [hk1,Int.toNat_natCast,hk2]
  have HIN : Hid (st.inn w) := HJ.out.mo.sin st (List.mem_of_getElem? hk2)
  have HK2 := Lib.hid hk2
  rw [hA] at k0 HKEEP
  clear HF HK hk1 hk2 hA hb0 hc0 hD HJ HS
  go_wp2
  go_region_held3 (fun w' => w'.cell? ⟨N,0,none⟩ = some (.slice (some ⟨b0,off,none⟩) m.ss.length m.sC) ∧ w'.cell? ⟨N,1,none⟩ = some (.slice m.fA m.fs.length m.fC) ∧ w'.cell? ⟨T,0,none⟩ = some (.bool true) ∧ w'.cell? ⟨T,1,none⟩ = some (.string s) ∧ w'.cell? ⟨b0,off + k * 4 + 1,none⟩ = some (.slice st.s.fA st.fs.length st.s.fC) ∧ Below W3.heap.size W3 w')
   (first | (exact hS) | (exact ⟨k0,k1,k2,k3,hd,below_drewN (Below.refl _ _) 1⟩))
   (first
    | (go_at_call 101; refine (HSC.out _ (by go_split_ands; assumption)).mono ?_; rintro e w11 ⟨rfl,hb11⟩; have hbb := (below_drewN (Below.refl W3.heap.size W3) 1).trans hb11; have hS := (let h := HKEEP.out _ hbb; (⟨h.1,h.2.1,h.2.2.1,h.2.2.2.1,HD.out _ hbb,hbb⟩ : _ ∧ _ ∧ _ ∧ _ ∧ _ ∧ _))))
  obtain ⟨_,_,_,_,j4,j5,j6,j7,hN2⟩ := HKEEP.out w11 hbb
  have hr11 := HR4.out w11 hbb
  have HB11 : Hid (Below N w w11) := HB3.out.trans (hbb.mono (by omega))
  have HR11 := Lib.hid hr11
  clear hS hbb hb11 k0 k1 k2 k3 k4 k5 k6 k7 hd HKEEP HR4 HSC HD hr11
  by_cases hf0 : f < 0
  ·have HFF : Hid (F = (noTy,15)) := by unfold Hid; rw [HFS.out,if_pos hf0]
   clear HFS
   go_wp2
   (try simp only [Exit.inBlock,Exit.then])
   refine bodyPost_ret (results_cell_row_tmp rfl _ _ (N + 1) 45 _ (0,0) _ rfl (set2_row HR11.out) Try.underlying45 (by kernel_rfl)) rfl ?_
   rw [HFF.out,HN.out]
   exact ⟨rfl,(HB11.out.setCell (by show N ≤ N + 1; omega) _).setCell (by show N ≤ N + 1; omega) _⟩
  obtain ⟨q,rfl⟩ : ∃ q : Nat,f = (q : Int) := ⟨f.toNat,by omega⟩
  rw [if_neg hf0,Int.toNat_natCast] at HFS
  by_cases hfl : q < st.fs.length
  ·obtain ⟨x,hx⟩ : ∃ x,st.fs[q]? = some x := ⟨_,List.getElem?_eq_getElem hfl⟩
   have HFF : Hid (F = (x.ty,0)) := by unfold Hid; rw [HFS.out,hx]
   obtain ⟨b1,off1,hA1,hb1,hc1⟩ := HIN.out.row (by intro e; rw [e] at hfl; simp at hfl)
   have hb1N : b1 < N := by have := HN.out; omega
   have e1 : w11.cell? ⟨b1,off1 + q * 5 + 1,none⟩ = some (.bool x.ptr) := by rw [HB11.out.cell (p := ⟨b1,_,none⟩) hb1N]; exact hc1 q x hx 1 _ rfl
   have e2 : w11.cell? ⟨b1,off1 + q * 5 + 2,none⟩ = some (.string x.tgt) := by rw [HB11.out.cell (p := ⟨b1,_,none⟩) hb1N]; exact hc1 q x hx 2 _ rfl
   have hqI : (q : Int) < (st.fs.length : Int) := by omega
   rw [hA1]
   clear HFS hx hc1 hb1 hA1 hf0 hfl
   go_wp2
   (try simp only [Exit.inBlock,Exit.then])
   refine bodyPost_ret (results_cell_row_tmp rfl _ _ (N + 1) 45 _ (0,0) _ rfl (set2_row HR11.out) Try.underlying45 (by kernel_rfl)) rfl ?_
   rw [HFF.out,HN.out]
   exact ⟨rfl,(HB11.out.setCell (by show N ≤ N + 1; omega) _).setCell (by show N ≤ N + 1; omega) _⟩
  ·have HFF : Hid (F = (noTy,15)) := by unfold Hid; rw [HFS.out,List.getElem?_eq_none (by omega)]
   have hqI : ¬ (q : Int) < (st.fs.length : Int) := by omega
   clear HFS hf0 hfl
   go_wp2
   (try simp only [Exit.inBlock,Exit.then])
   refine bodyPost_ret (results_cell_row_tmp rfl _ _ (N + 1) 45 _ (0,0) _ rfl (set2_row HR11.out) Try.underlying45 (by kernel_rfl)) rfl ?_
   rw [HFF.out,HN.out]
   exact ⟨rfl,(HB11.out.setCell (by show N ≤ N + 1; omega) _).setCell (by show N ≤ N + 1; omega) _⟩
end Go.Proofs.Ytlggjbopfnndbaa
namespace Go.Proofs.Ytlggjbopfnndbaa
open Go.RowKit
structure BW (W : World) where
 w : World
 h : Below W.heap.size W w
instance {W : World} : Inhabited (BW W) := ⟨⟨W,Below.refl _ _⟩⟩
theorem wp_region_quiet_bw {P : Program} {id : Nat} {Q : Exit → Act → World → Prop} {a : Act} {W : World} {l : List Oper} (hm : P.follows .mixedOrders = true) (hB : Region.lexB .any l.toArray = true)
  (h : wpQuiet P l.toArray (fun w' => ∃ p : BW W,w' = p.w) (fun a' => ∀ w',(∃ p : BW W,w' = p.w) → Q .normal a' w') l a) : (Code.region id l.toArray true).wp P Q a W :=
 wp_region_quiet (C := fun w' => ∃ p : BW W,w' = p.w) hm hB ⟨⟨W.drew,(Below.refl _ _).drew⟩,rfl⟩ (by simpa using h)
theorem bw_of {P : Program} {f : FuncId} {args : Array Value} {W : World} {p : BW W} {v : Value} (h : Calls P f args p.w fun e w' => e = .returned v ∧ Below p.w.heap.size p.w w') :
  Calls P f args p.w fun e w'' => e = .returned v ∧ ∃ q : BW W,w'' = q.w :=
 h.mono fun _ w' ⟨he,hb⟩ => ⟨he,⟨w',p.h.trans (hb.mono p.h.size)⟩,rfl⟩
theorem bw_same {P : Program} {f : FuncId} {args : Array Value} {W : World} {p : BW W} {v : Value} (h : Calls P f args p.w fun e w' => e = .returned v ∧ p.w = w') :
  Calls P f args p.w fun e w'' => e = .returned v ∧ ∃ q : BW W,w'' = q.w :=
 h.mono fun _ _ ⟨he,hb⟩ => ⟨he,p,hb.symm⟩
end Go.Proofs.Ytlggjbopfnndbaa
namespace Go.Proofs.Ytlggjbopfnndbaa
open Go.RowKit
theorem ty_eqIn (a b : Bool) (s t : ByteArray) (w : World) : (Op.equalIn 10000 45 (.agg #[.bool a,.string s]) (.agg #[.bool b,.string t])).run Try.prog w = .ok (((a,s) : Ty) == (b,t)) w := by
 have hS : Try.prog.underlying 45 = some (.struct (Try.prog.fieldsOf 45)) := by kernel_rfl
 have hp : Try.prog.stoodInHeld 45 = false := by kernel_rfl
 rw [show (10000 : Nat) = 9999 + 1 from rfl,run_equalIn_agg w 9999 45 _ _ hS hp]
 simp only [Program.fieldsOf,Try.underlying45]
 have e : (((a,s) : Ty) == (b,t)) = (a == b && s.toList == t.toList) := by rw [← beq_toListBytes]; rfl
 rw [e]
 go_simp
 by_cases h1 : a = b <;> by_cases h2 : s.toList = t.toList <;> simp [h1,h2]
def JgAt (w : World) (N : Nat) (m : Mo) (g : Fn) : Prop := w.cell? ⟨N,0,none⟩ = some (.slice m.sA m.ss.length m.sC) ∧ w.cell? ⟨N,1,none⟩ = some (.slice m.fA m.fs.length m.fC) ∧ w.cell? ⟨N,2,none⟩ = some (.string g.c.nm) ∧ w.cell? ⟨N,3,none⟩ = some (.int .i64 g.c.par) ∧ w.cell? ⟨N,4,none⟩ = some (.slice g.c.varsA g.c.nvars g.c.varsC) ∧ w.cell? ⟨N,5,none⟩ = some (.bool g.c.rp) ∧ w.cell? ⟨N,6,none⟩ = some (.string g.c.rto) ∧ w.cell? ⟨N,7,none⟩ = some (.int .i64 g.c.rcl) ∧ w.cell? ⟨N,8,none⟩ = some (.slice g.c.fromA g.c.nfrom g.c.fromC) ∧ w.cell? ⟨N,9,none⟩ = some (.slice g.c.insA g.c.ins.length g.c.insC)
theorem JgAt.of {w : World} {N : Nat} {m : Mo} {g : Fn} (h : w.heap[N]? = some (.cells (jg m g) 113 (0,0))) : JgAt w N m g := by
 refine ⟨?_,?_,?_,?_,?_,?_,?_,?_,?_,?_⟩ <;> (rw [cell_of_row _ _ _ _ _ _ h]; rfl)
set_option maxRecDepth 100000 in
set_option maxHeartbeats 4000000 in
theorem heap_calls (m : Mo) (g : Fn) (i : Ins) (other : Int) (ptr : Bool) (w : World) (h : JIn w m g) (ha : isVar g.vs.length i.a = true) (ho : isVar g.vs.length other = true) (hk : m.known (tyAt g.vs i.a) = true) :
  Calls Try.prog 137 #[.agg (jg m g),.agg i.cells,.int .i64 other,.bool ptr] w fun e w' => e = .returned (.int .i64 (heapF m g.vs i other ptr)) ∧ Below w.heap.size w w' := by
 have HT : Hid (∀ W,Below w.heap.size w W → Calls Try.prog 125 #[.agg (jg m g),.int .i64 other] W fun e w' => e = .returned (tyV (tyAt g.vs other)) ∧ Below W.heap.size W w') := fun W hW => typ_calls m g other W (h.below hW).vars h.nv h.vl ho
 have HF : Hid (∀ W,Below w.heap.size w W → Calls Try.prog 140 #[.agg (jg m g),.int .i64 i.a,.int .i64 i.f] W fun e w' => e = .returned (.tuple #[tyV (fieldF m g.vs i.a i.f).1,.int .i64 (fieldF m g.vs i.a i.f).2]) ∧ Below W.heap.size W w') := fun W hW => field_calls m g i.a i.f W (h.below hW) ha hk
 clear h ha ho hk
 have HE : Hid (heapF m g.vs i other ptr = if (fieldF m g.vs i.a i.f).2 ≠ 0 then (fieldF m g.vs i.a i.f).2 else unl ((fieldF m g.vs i.a i.f).1 == tyAt g.vs other && (fieldF m g.vs i.a i.f).1.1 == ptr) 7) := rfl
 obtain ⟨R,hR⟩ : ∃ R,heapF m g.vs i other ptr = R := ⟨_,rfl⟩
 obtain ⟨⟨⟨b,s⟩,z⟩,hz⟩ : ∃ F,fieldF m g.vs i.a i.f = F := ⟨_,rfl⟩
 obtain ⟨⟨b2,s2⟩,ht⟩ : ∃ t,tyAt g.vs other = t := ⟨_,rfl⟩
 rw [hz,ht,hR] at HE
 rw [hz] at HF
 rw [ht] at HT
 rw [hR]
 unfold tyV at HT HF
 clear hz ht hR
 have hst : ∀ (w : World) (c : Array Value),c.size = 2 → (storeCells ⟨w.heap.size,0,none⟩ [.bool b,.string s] 0).run Try.prog (w.alloc (.cells c 45)) = .ok () (w.alloc (.cells #[.bool b,.string s] 45)) := fun w c hc =>
  run_storeCells_new (P := Try.prog) w 45 c #[.bool b,.string s] (by show _ = some 2; kernel_rfl) hc (by simp [Value.oneCell'])
 obtain ⟨N,hN⟩ : ∃ N,w.heap.size = N := ⟨_,rfl⟩
 obtain ⟨W1,hW1⟩ : ∃ W1,(w.alloc (.cells (jg m g) 113)).alloc (.cells i.cells 62) = W1 := ⟨_,rfl⟩
 have hb1 : Below N w W1 := by rw [← hW1,← hN]; exact ((Below.refl _ _).alloc (Nat.le_refl _) _).alloc (by simp) _
 have hs1 : W1.heap.size = N + 2 := by rw [← hW1]; simp [hN]
 have hr1 : W1.heap[N]? = some (.cells (jg m g) 113 (0,0)) := by rw [← hW1,← hN]; exact heap_alloc2_old _ _ _
 have hr2 : W1.heap[N + 1]? = some (.cells i.cells 62 (0,0)) := by rw [← hW1,← hN]; exact heap_alloc2_new _ _ _
 have i2 : W1.cell? ⟨N + 1,2,none⟩ = some (.int .i64 i.a) := by rw [cell_of_row _ _ _ _ _ _ hr2]; rfl
 have i4 : W1.cell? ⟨N + 1,4,none⟩ = some (.int .i64 i.f) := by rw [cell_of_row _ _ _ _ _ _ hr2]; rfl
 have HB1 := Lib.hid hb1
 have HR1 := Lib.hid hr1
 have HN := Lib.hid hN
 have HS1 := Lib.hid hs1
 clear hb1 hr1 hr2 hs1
 go_enter Try.func137,Try.ntmps137
 go_upto_region 2 with (first
  | (refine wpList_load_row rfl 113 _ rfl N rfl 113 (jg m g) (0,0) _ HR1.out Try.underlying113 rfl (by kernel_rfl) ?_)
  | (go_at_call 140; refine (HF.out _ (by rw [HN.out]; exact HB1.out)).mono ?_; rintro e w2 ⟨rfl,hb2⟩; have HB2 := Lib.hid hb2; clear hb2))
 obtain ⟨T,hT⟩ : ∃ T,w2.heap.size = T := ⟨_,rfl⟩
 obtain ⟨W3,hW3⟩ : ∃ W3,w2.alloc (.cells #[.bool b,.string s] 45) = W3 := ⟨_,rfl⟩
 rw [hT,hW3]
 have hb13 : Below W1.heap.size W1 W3 := by rw [← hW3]; exact HB2.out.alloc HB2.out.size _
 have hTN : N + 2 ≤ T := by rw [← hT,← HS1.out]; exact HB2.out.size
 have hs3 : W3.heap.size = T + 1 := by rw [← hW3,← hT]; simp
 have hr3 : W3.heap[N]? = some (.cells (jg m g) 113 (0,0)) := (hb13.block N (by have := HS1.out; omega)).trans HR1.out
 have hr5 : W3.heap[T]? = some (.cells #[.bool b,.string s] 45 (0,0)) := by rw [← hW3,← hT]; exact alloc_at _ _
 have HB3 : Hid (Below N w W3) := HB1.out.trans (hb13.mono (by have := HS1.out; omega))
 have HKEEP : Hid (∀ W,Below W3.heap.size W3 W → JgAt W N m g ∧ W.cell? ⟨T,0,none⟩ = some (.bool b) ∧ W.cell? ⟨T,1,none⟩ = some (.string s)) := by
  intro W hW
  have q5 := (hW.block T (by omega)).trans hr5
  refine ⟨JgAt.of ((hW.block N (by omega)).trans hr3),?_,?_⟩
  ·rw [cell_of_row _ _ _ _ _ _ q5]; rfl
  ·rw [cell_of_row _ _ _ _ _ _ q5]; rfl
 clear hst hW1 hW3 hb13 hr3 hr5 HR1 hT HB2 hN HS1 i2 i4 HF
 by_cases hz : z = 0
 ·subst hz
  have HRR : Hid (R = unl (((b,s) : Ty) == (b2,s2) && b == ptr) 7) := by unfold Hid; rw [HE.out,if_neg (by simp)]
  obtain ⟨d,hd⟩ : ∃ d,(((b,s) : Ty) == (b2,s2)) = d := ⟨_,rfl⟩
  have heq : ∀ w,(Op.equalIn 10000 45 (.agg #[.bool b,.string s]) (.agg #[.bool b2,.string s2])).run Try.prog w = .ok d w := fun w => by rw [ty_eqIn,hd]
  rw [hd] at HRR
  have HTC : Hid (∀ p : BW W3,Calls Try.prog 125 #[.agg (jg m g),.int .i64 other] p.w fun e w' => e = .returned (.agg #[.bool b2,.string s2]) ∧ Below p.w.heap.size p.w w') :=
   fun p => HT.out p.w (by rw [HN.out]; exact HB3.out.trans (p.h.mono (by omega)))
  unfold jg at HTC
  have k0 : ∀ p : BW W3,p.w.cell? ⟨N,0,none⟩ = some (.slice m.sA m.ss.length m.sC) := fun p => (HKEEP.out p.w p.h).1.1
  have k1 : ∀ p : BW W3,p.w.cell? ⟨N,1,none⟩ = some (.slice m.fA m.fs.length m.fC) := fun p => (HKEEP.out p.w p.h).1.2.1
  have k2 : ∀ p : BW W3,p.w.cell? ⟨N,2,none⟩ = some (.string g.c.nm) := fun p => (HKEEP.out p.w p.h).1.2.2.1
  have k3 : ∀ p : BW W3,p.w.cell? ⟨N,3,none⟩ = some (.int .i64 g.c.par) := fun p => (HKEEP.out p.w p.h).1.2.2.2.1
  have k4 : ∀ p : BW W3,p.w.cell? ⟨N,4,none⟩ = some (.slice g.c.varsA g.c.nvars g.c.varsC) := fun p => (HKEEP.out p.w p.h).1.2.2.2.2.1
  have k5 : ∀ p : BW W3,p.w.cell? ⟨N,5,none⟩ = some (.bool g.c.rp) := fun p => (HKEEP.out p.w p.h).1.2.2.2.2.2.1
  have k6 : ∀ p : BW W3,p.w.cell? ⟨N,6,none⟩ = some (.string g.c.rto) := fun p => (HKEEP.out p.w p.h).1.2.2.2.2.2.2.1
  have k7 : ∀ p : BW W3,p.w.cell? ⟨N,7,none⟩ = some (.int .i64 g.c.rcl) := fun p => (HKEEP.out p.w p.h).1.2.2.2.2.2.2.2.1
  have k8 : ∀ p : BW W3,p.w.cell? ⟨N,8,none⟩ = some (.slice g.c.fromA g.c.nfrom g.c.fromC) := fun p => (HKEEP.out p.w p.h).1.2.2.2.2.2.2.2.2.1
  have k9 : ∀ p : BW W3,p.w.cell? ⟨N,9,none⟩ = some (.slice g.c.insA g.c.ins.length g.c.insC) := fun p => (HKEEP.out p.w p.h).1.2.2.2.2.2.2.2.2.2
  have t0 : ∀ p : BW W3,p.w.cell? ⟨T,0,none⟩ = some (.bool b) := fun p => (HKEEP.out p.w p.h).2.1
  have t1 : ∀ p : BW W3,p.w.cell? ⟨T,1,none⟩ = some (.string s) := fun p => (HKEEP.out p.w p.h).2.2
  clear hd HE HT HKEEP
  cases d with
  | false =>
   go_wp2
   refine wp_region_quiet_bw (by kernel_rfl) (by kernel_rfl) ?_
   repeat (go_big_quiet_step (first
    | (go_at_call 125; exact bw_of (HTC.out _))
    | (go_at_call 81; exact bw_same (unless_calls _ _ _))))
   refine wpQuiet_nil ?_
   rintro _ ⟨p,rfl⟩
   go_wp2
   go_ret
   rw [HRR.out,HN.out]
   exact ⟨rfl,HB3.out.trans (p.h.mono (by omega))⟩
  | true =>
   go_wp2
   refine wp_region_quiet_bw (by kernel_rfl) (by kernel_rfl) ?_
   repeat (go_big_quiet_step (first
    | (go_at_call 125; exact bw_of (HTC.out _))
    | (go_at_call 81; exact bw_same (unless_calls _ _ _))))
   refine wpQuiet_nil ?_
   rintro _ ⟨p,rfl⟩
   go_wp2
   go_ret
   rw [HRR.out,HN.out]
   exact ⟨rfl,HB3.out.trans (p.h.mono (by omega))⟩
 ·have HRR : Hid (R = z) := by unfold Hid; rw [HE.out,if_pos hz]
  have hzb : (z == 0) = false := by rw [beq_eq_false_iff_ne]; exact hz
  clear HE HT HKEEP hz
  go_wp2
  go_ret
  rw [HRR.out,HN.out]
  exact ⟨rfl,HB3.out⟩
end Go.Proofs.Ytlggjbopfnndbaa
