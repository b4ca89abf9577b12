import Derived.Test.YtlggjbopfnndbaaIrG
namespace Go.Proofs.Ytlggjbopfnndbaa
open Go.RowKit
set_option maxRecDepth 100000 in
set_option maxHeartbeats 4000000 in
theorem plain_9 (m : Mo) (g : Fn) (i : Ins) (w : World) (hop : i.op = 9) (h : PlainIn w m g i) :
  Calls Try.prog 126 #[.agg (jg m g),.agg i.cells] w fun e w' => e = .returned (.int .i64 (plainF m g.vs i)) ∧ Below w.heap.size w w' := by
 have HE : Hid (plainF m g.vs i = unl ((tyAt g.vs i.a).1 && tyAt g.vs i.a == tyAt g.vs i.d) 7) := by
  unfold Hid plainF; rw [hop]; rfl
 obtain ⟨R,hR⟩ : ∃ R,plainF m g.vs i = R := ⟨_,rfl⟩
 rw [hR] at HE ⊢
 clear hR
 have HN0 := Lib.hid h
 have HT : Hid (∀ W v,Below w.heap.size w W → isVar g.vs.length v = true → Calls Try.prog 125 #[.agg (jg m g),.int .i64 v] W fun e w' => e = .returned (tyV (tyAt g.vs v)) ∧ Below W.heap.size W w') := fun W v hW hv => typ_calls m g v W (h.j.below hW).vars h.j.nv h.j.vl hv
 have HD : Hid (shD 9 = true → isVar g.vs.length i.d = true) := by have := h.d; rw [hop] at this; exact this
 have HA : Hid (shA 9 = true → isVar g.vs.length i.a = true) := by have := h.a; rw [hop] at this; exact this
 have HB : Hid (shB 9 = true → isVar g.vs.length i.b = true) := by have := h.b; rw [hop] at this; exact this
 clear h
 obtain ⟨N,hN⟩ : ∃ N,w.heap.size = N := ⟨_,rfl⟩
 obtain ⟨W1,hW1⟩ : ∃ W1,(w.alloc (.cells (jg m g) 113)).alloc (.cells i.cells 62) = W1 := ⟨_,rfl⟩
 have hb1 : Below N w W1 := by rw [← hW1,← hN]; exact ((Below.refl _ _).alloc (Nat.le_refl _) _).alloc (by simp) _
 have hs1 : W1.heap.size = N + 2 := by rw [← hW1]; simp [hN]
 have hr1 : W1.heap[N]? = some (.cells (jg m g) 113 (0,0)) := by rw [← hW1,← hN]; exact heap_alloc2_old _ _ _
 have hr2 : W1.heap[N + 1]? = some (.cells i.cells 62 (0,0)) := by rw [← hW1,← hN]; exact heap_alloc2_new _ _ _
 have i0 : W1.cell? ⟨N + 1,0,none⟩ = some (.int .i64 9) := by rw [cell_of_row _ _ _ _ _ _ hr2,← hop]; rfl
 have i1 : W1.cell? ⟨N + 1,1,none⟩ = some (.int .i64 i.d) := by rw [cell_of_row _ _ _ _ _ _ hr2]; rfl
 have i2 : W1.cell? ⟨N + 1,2,none⟩ = some (.int .i64 i.a) := by rw [cell_of_row _ _ _ _ _ _ hr2]; rfl
 have i3 : W1.cell? ⟨N + 1,3,none⟩ = some (.int .i64 i.b) := by rw [cell_of_row _ _ _ _ _ _ hr2]; rfl
 have i4 : W1.cell? ⟨N + 1,4,none⟩ = some (.int .i64 i.f) := by rw [cell_of_row _ _ _ _ _ _ hr2]; rfl
 have i6 : W1.cell? ⟨N + 1,6,none⟩ = some (.string i.sign) := by rw [cell_of_row _ _ _ _ _ _ hr2]; rfl
 have HB1 := Lib.hid hb1
 have HR1 := Lib.hid hr1
 have HR2 := Lib.hid hr2
 have HN := Lib.hid hN
 have HS1 := Lib.hid hs1
 have hNlt : N + 1 < W1.heap.size := by omega
 clear hb1 hr1 hr2 hop
 obtain ⟨⟨ba,sa⟩,hta⟩ : ∃ t,tyAt g.vs i.a = t := ⟨_,rfl⟩
 obtain ⟨⟨bd,sd⟩,htd⟩ : ∃ t,tyAt g.vs i.d = t := ⟨_,rfl⟩
 have hta1 : (tyAt g.vs i.a).1 = ba := by rw [hta]
 have hta2 : (tyAt g.vs i.a).2 = sa := by rw [hta]
 have htd1 : (tyAt g.vs i.d).1 = bd := by rw [htd]
 have htd2 : (tyAt g.vs i.d).2 = sd := by rw [htd]
 have HV : Hid (∀ v,v = i.a ∨ v = i.d → isVar g.vs.length v = true) := fun v h => by rcases h with rfl | rfl; exact HA.out rfl; exact HD.out rfl
 have HTX : Hid (∀ (p : BW W1) (v : Int),isVar g.vs.length v = true → Calls Try.prog 125 #[.agg (jg m g),.int .i64 v] p.w fun e w' => e = .returned (.agg #[.bool (tyAt g.vs v).1,.string (tyAt g.vs v).2]) ∧ Below p.w.heap.size p.w w') := fun p v hv => HT.out p.w v (by rw [HN.out]; exact HB1.out.trans (p.h.mono (by omega))) hv
 unfold jg at HTX
 obtain ⟨d,hdd⟩ : ∃ d,(((ba,sa) : Ty) == (bd,sd)) = d := ⟨_,rfl⟩
 have heq : ∀ w,(Op.equalIn 10000 45 (.agg #[.bool ba,.string sa]) (.agg #[.bool bd,.string sd])).run Try.prog w = .ok d w := fun w => by rw [ty_eqIn,hdd]
 have HRR : Hid (R = unl (ba && d) 7) := by unfold Hid; rw [HE.out,hta,htd,hdd]
 have hfld := field_typ
 have HJ1 : Hid (∀ p : BW W1,JgAt p.w N m g) := fun p => JgAt.of ((p.h.block N (by omega)).trans HR1.out)
 have k0 : ∀ p : BW W1,p.w.cell? ⟨N,0,none⟩ = some (.slice m.sA m.ss.length m.sC) := fun p => (HJ1.out p).1
 have k1 : ∀ p : BW W1,p.w.cell? ⟨N,1,none⟩ = some (.slice m.fA m.fs.length m.fC) := fun p => (HJ1.out p).2.1
 have k2 : ∀ p : BW W1,p.w.cell? ⟨N,2,none⟩ = some (.string g.c.nm) := fun p => (HJ1.out p).2.2.1
 have k3 : ∀ p : BW W1,p.w.cell? ⟨N,3,none⟩ = some (.int .i64 g.c.par) := fun p => (HJ1.out p).2.2.2.1
 have k4 : ∀ p : BW W1,p.w.cell? ⟨N,4,none⟩ = some (.slice g.c.varsA g.c.nvars g.c.varsC) := fun p => (HJ1.out p).2.2.2.2.1
 have k5 : ∀ p : BW W1,p.w.cell? ⟨N,5,none⟩ = some (.bool g.c.rp) := fun p => (HJ1.out p).2.2.2.2.2.1
 have k6 : ∀ p : BW W1,p.w.cell? ⟨N,6,none⟩ = some (.string g.c.rto) := fun p => (HJ1.out p).2.2.2.2.2.2.1
 have k7 : ∀ p : BW W1,p.w.cell? ⟨N,7,none⟩ = some (.int .i64 g.c.rcl) := fun p => (HJ1.out p).2.2.2.2.2.2.2.1
 have k8 : ∀ p : BW W1,p.w.cell? ⟨N,8,none⟩ = some (.slice g.c.fromA g.c.nfrom g.c.fromC) := fun p => (HJ1.out p).2.2.2.2.2.2.2.2.1
 have k9 : ∀ p : BW W1,p.w.cell? ⟨N,9,none⟩ = some (.slice g.c.insA g.c.ins.length g.c.insC) := fun p => (HJ1.out p).2.2.2.2.2.2.2.2.2
 have i1p : ∀ p : BW W1,p.w.cell? ⟨N + 1,1,none⟩ = some (.int .i64 i.d) := fun p => by rw [p.h.cell (p := ⟨N + 1,1,none⟩) hNlt]; exact i1
 have i2p : ∀ p : BW W1,p.w.cell? ⟨N + 1,2,none⟩ = some (.int .i64 i.a) := fun p => by rw [p.h.cell (p := ⟨N + 1,2,none⟩) hNlt]; exact i2
 clear HE hta htd hdd HT HB HN0
 cases ba with
 | false =>
  go_enter Try.func126,Try.ntmps126
  go_wp2_with (refine wpList_load_row rfl 113 _ rfl N rfl 113 (jg m g) (0,0) _ HR1.out Try.underlying113 rfl (by kernel_rfl) ?_)
  refine wp_region_quiet_bw (by kernel_rfl) (by kernel_rfl) ?_
  repeat (go_big_quiet_step (first
   | (go_at_call 125; exact bw_of (HTX.out _ _ (HV.out _ (by first | exact .inl rfl | exact .inr rfl))))
   | (go_at_call 81; exact bw_same (unless_calls _ _ _))))
  refine wpQuiet_nil ?_
  rintro _ ⟨p,rfl⟩
  go_wp2
  go_ret
  rw [HRR.out,HN.out]
  exact ⟨rfl,HB1.out.trans (p.h.mono (by omega))⟩
 | true =>
  go_enter Try.func126,Try.ntmps126
  go_wp2_with (refine wpList_load_row rfl 113 _ rfl N rfl 113 (jg m g) (0,0) _ HR1.out Try.underlying113 rfl (by kernel_rfl) ?_)
  refine wp_region_quiet_bw (by kernel_rfl) (by kernel_rfl) ?_
  repeat (go_big_quiet_step (first
   | (go_at_call 125; exact bw_of (HTX.out _ _ (HV.out _ (by first | exact .inl rfl | exact .inr rfl))))
   | (go_at_call 81; exact bw_same (unless_calls _ _ _))))
  refine wpQuiet_nil ?_
  rintro _ ⟨p,rfl⟩
  go_wp2
  go_ret
  rw [HRR.out,HN.out]
  exact ⟨rfl,HB1.out.trans (p.h.mono (by omega))⟩
set_option maxRecDepth 100000 in
set_option maxHeartbeats 4000000 in
theorem plain_12 (m : Mo) (g : Fn) (i : Ins) (w : World) (hop : i.op = 12) (h : PlainIn w m g i) :
  Calls Try.prog 126 #[.agg (jg m g),.agg i.cells] w fun e w' => e = .returned (.int .i64 (plainF m g.vs i)) ∧ Below w.heap.size w w' := by
 have HE : Hid (plainF m g.vs i = if i.f < 0 then 15 else match m.ss[i.f.toNat]? with
  | none => 15
  | some s => unl (tyAt g.vs i.d == (true,s.s.nm)) 7) := by
  unfold Hid plainF; rw [hop]; rfl
 obtain ⟨R,hR⟩ : ∃ R,plainF m g.vs i = R := ⟨_,rfl⟩
 rw [hR] at HE ⊢
 clear hR
 have HN0 := Lib.hid h
 have HT : Hid (∀ W v,Below w.heap.size w W → isVar g.vs.length v = true → Calls Try.prog 125 #[.agg (jg m g),.int .i64 v] W fun e w' => e = .returned (tyV (tyAt g.vs v)) ∧ Below W.heap.size W w') := fun W v hW hv => typ_calls m g v W (h.j.below hW).vars h.j.nv h.j.vl hv
 have HD : Hid (shD 12 = true → isVar g.vs.length i.d = true) := by have := h.d; rw [hop] at this; exact this
 have HA : Hid (shA 12 = true → isVar g.vs.length i.a = true) := by have := h.a; rw [hop] at this; exact this
 have HB : Hid (shB 12 = true → isVar g.vs.length i.b = true) := by have := h.b; rw [hop] at this; exact this
 clear h
 obtain ⟨N,hN⟩ : ∃ N,w.heap.size = N := ⟨_,rfl⟩
 obtain ⟨W1,hW1⟩ : ∃ W1,(w.alloc (.cells (jg m g) 113)).alloc (.cells i.cells 62) = W1 := ⟨_,rfl⟩
 have hb1 : Below N w W1 := by rw [← hW1,← hN]; exact ((Below.refl _ _).alloc (Nat.le_refl _) _).alloc (by simp) _
 have hs1 : W1.heap.size = N + 2 := by rw [← hW1]; simp [hN]
 have hr1 : W1.heap[N]? = some (.cells (jg m g) 113 (0,0)) := by rw [← hW1,← hN]; exact heap_alloc2_old _ _ _
 have hr2 : W1.heap[N + 1]? = some (.cells i.cells 62 (0,0)) := by rw [← hW1,← hN]; exact heap_alloc2_new _ _ _
 have i0 : W1.cell? ⟨N + 1,0,none⟩ = some (.int .i64 12) := by rw [cell_of_row _ _ _ _ _ _ hr2,← hop]; rfl
 have i1 : W1.cell? ⟨N + 1,1,none⟩ = some (.int .i64 i.d) := by rw [cell_of_row _ _ _ _ _ _ hr2]; rfl
 have i2 : W1.cell? ⟨N + 1,2,none⟩ = some (.int .i64 i.a) := by rw [cell_of_row _ _ _ _ _ _ hr2]; rfl
 have i3 : W1.cell? ⟨N + 1,3,none⟩ = some (.int .i64 i.b) := by rw [cell_of_row _ _ _ _ _ _ hr2]; rfl
 have i4 : W1.cell? ⟨N + 1,4,none⟩ = some (.int .i64 i.f) := by rw [cell_of_row _ _ _ _ _ _ hr2]; rfl
 have i6 : W1.cell? ⟨N + 1,6,none⟩ = some (.string i.sign) := by rw [cell_of_row _ _ _ _ _ _ hr2]; rfl
 have HB1 := Lib.hid hb1
 have HR1 := Lib.hid hr1
 have HR2 := Lib.hid hr2
 have HN := Lib.hid hN
 have HS1 := Lib.hid hs1
 have hNlt : N + 1 < W1.heap.size := by omega
 clear hb1 hr1 hr2 hop
 have kk0 : W1.cell? ⟨N,0,none⟩ = some (.slice m.sA m.ss.length m.sC) := (JgAt.of HR1.out).1
 by_cases hf0 : i.f < 0
 ·have HRR : Hid (R = 15) := by unfold Hid; rw [HE.out,if_pos hf0]
  clear HE HT HD HA HB HN0
  go_enter Try.func126,Try.ntmps126
  go_wp2_with (refine wpList_load_row rfl 113 _ rfl N rfl 113 (jg m g) (0,0) _ HR1.out Try.underlying113 rfl (by kernel_rfl) ?_)
  go_ret
  rw [HRR.out]
  exact ⟨rfl,by first | exact HB1.out | (rw [HN.out]; exact HB1.out)⟩
 obtain ⟨F,hF⟩ : ∃ F : Nat,i.f = (F : Int) := ⟨i.f.toNat,by omega⟩
 rw [hF] at i4
 by_cases hfl : F < m.ss.length
 ·obtain ⟨st,hst⟩ : ∃ f,m.ss[F]? = some f := ⟨_,List.getElem?_eq_getElem hfl⟩
  have HE2 : Hid (R = unl (tyAt g.vs i.d == (true,st.s.nm)) 7) := by
   unfold Hid
   rw [HE.out,if_neg hf0,hF,Int.toNat_natCast,hst]
  obtain ⟨sb,soff,hsA,hsb,hsc⟩ := HN0.out.j.mo.srow (by intro e; rw [e] at hfl; simp at hfl)
  have hsbN : sb < N := by omega
  have c0 : w.cell? ⟨sb,soff + F * 4,none⟩ = some (.string st.s.nm) := hsc F st hst 0 _ rfl
  obtain ⟨⟨bd,sd⟩,htd⟩ : ∃ t,tyAt g.vs i.d = t := ⟨_,rfl⟩
  have htd1 : (tyAt g.vs i.d).1 = bd := by rw [htd]
  have htd2 : (tyAt g.vs i.d).2 = sd := by rw [htd]
  have HV : Hid (∀ v,v = i.d ∨ v = i.d → isVar g.vs.length v = true) := fun v h => by rcases h with rfl | rfl <;> exact HD.out rfl
  have HTX : Hid (∀ (p : BW W1) (v : Int),isVar g.vs.length v = true → Calls Try.prog 125 #[.agg (jg m g),.int .i64 v] p.w fun e w' => e = .returned (.agg #[.bool (tyAt g.vs v).1,.string (tyAt g.vs v).2]) ∧ Below p.w.heap.size p.w w') := fun p v hv => HT.out p.w v (by rw [HN.out]; exact HB1.out.trans (p.h.mono (by omega))) hv
  unfold jg at HTX
  obtain ⟨d,hdd⟩ : ∃ d,(((bd,sd) : Ty) == (true,st.s.nm)) = d := ⟨_,rfl⟩
  have heq : ∀ w,(Op.equalIn 10000 45 (.agg #[.bool bd,.string sd]) (.agg #[.bool true,.string st.s.nm])).run Try.prog w = .ok d w := fun w => by rw [ty_eqIn,hdd]
  have HRR : Hid (R = unl d 7) := by unfold Hid; rw [HE2.out,htd,hdd]
  have HJ1 : Hid (∀ p : BW W1,JgAt p.w N m g) := fun p => JgAt.of ((p.h.block N (by omega)).trans HR1.out)
  have k0 : ∀ p : BW W1,p.w.cell? ⟨N,0,none⟩ = some (.slice m.sA m.ss.length m.sC) := fun p => (HJ1.out p).1
  have k1 : ∀ p : BW W1,p.w.cell? ⟨N,1,none⟩ = some (.slice m.fA m.fs.length m.fC) := fun p => (HJ1.out p).2.1
  have k2 : ∀ p : BW W1,p.w.cell? ⟨N,2,none⟩ = some (.string g.c.nm) := fun p => (HJ1.out p).2.2.1
  have k3 : ∀ p : BW W1,p.w.cell? ⟨N,3,none⟩ = some (.int .i64 g.c.par) := fun p => (HJ1.out p).2.2.2.1
  have k4 : ∀ p : BW W1,p.w.cell? ⟨N,4,none⟩ = some (.slice g.c.varsA g.c.nvars g.c.varsC) := fun p => (HJ1.out p).2.2.2.2.1
  have k5 : ∀ p : BW W1,p.w.cell? ⟨N,5,none⟩ = some (.bool g.c.rp) := fun p => (HJ1.out p).2.2.2.2.2.1
  have k6 : ∀ p : BW W1,p.w.cell? ⟨N,6,none⟩ = some (.string g.c.rto) := fun p => (HJ1.out p).2.2.2.2.2.2.1
  have k7 : ∀ p : BW W1,p.w.cell? ⟨N,7,none⟩ = some (.int .i64 g.c.rcl) := fun p => (HJ1.out p).2.2.2.2.2.2.2.1
  have k8 : ∀ p : BW W1,p.w.cell? ⟨N,8,none⟩ = some (.slice g.c.fromA g.c.nfrom g.c.fromC) := fun p => (HJ1.out p).2.2.2.2.2.2.2.2.1
  have k9 : ∀ p : BW W1,p.w.cell? ⟨N,9,none⟩ = some (.slice g.c.insA g.c.ins.length g.c.insC) := fun p => (HJ1.out p).2.2.2.2.2.2.2.2.2
  have i1p : ∀ p : BW W1,p.w.cell? ⟨N + 1,1,none⟩ = some (.int .i64 i.d) := fun p => by rw [p.h.cell (p := ⟨N + 1,1,none⟩) hNlt]; exact i1
  have i4p : ∀ p : BW W1,p.w.cell? ⟨N + 1,4,none⟩ = some (.int .i64 (F : Int)) := fun p => by rw [p.h.cell (p := ⟨N + 1,4,none⟩) hNlt]; exact i4
  have c0p : ∀ p : BW W1,p.w.cell? ⟨sb,soff + F * 4,none⟩ = some (.string st.s.nm) := fun p => by
   rw [(HB1.out.trans (p.h.mono (by omega))).cell (p := ⟨sb,_,none⟩) hsbN]; exact c0
  have hFI : (F : Int) < (m.ss.length : Int) := by omega
  have hsb1 : sb < W1.heap.size := by omega
  have hbld : ∀ (s : ByteArray) (w : World),(Instr.build 45 #[(0,.bool true),(1,.string s)]).run Try.prog w = .ok (.agg #[.bool true,.string s]) w := fun s w => run_build w 45 _ _ (by kernel_rfl)
  rw [hsA] at kk0 k0 HTX
  have HSA := Lib.hid hsA
  clear HE HE2 hdd htd HT HB HN0 hsA hst hfl hF hf0 hsb hsc c0
  go_enter Try.func126,Try.ntmps126
  go_wp2_with (refine wpList_load_row rfl 113 _ rfl N rfl 113 (jg m g) (0,0) _ HR1.out Try.underlying113 rfl (by kernel_rfl) ?_)
  refine wp_region_quiet_bw (by kernel_rfl) (by kernel_rfl) ?_
  repeat (go_big_quiet_step (first
   | (go_at_call 125; exact bw_of (HTX.out _ _ (HV.out _ (by first | exact .inl rfl | exact .inr rfl))))
   | (go_at_call 81; exact bw_same (unless_calls _ _ _))))
  refine wpQuiet_nil ?_
  rintro _ ⟨p,rfl⟩
  go_wp2
  go_ret
  rw [HRR.out,HN.out]
  exact ⟨rfl,HB1.out.trans (p.h.mono (by omega))⟩
 ·have HRR : Hid (R = 15) := by unfold Hid; rw [HE.out,if_neg hf0,hF,Int.toNat_natCast,List.getElem?_eq_none (by omega)]
  have hFI : ¬ ((F : Int) < (m.ss.length : Int)) := by omega
  clear HE HT HD HA HB HN0 hfl hF hf0
  go_enter Try.func126,Try.ntmps126
  go_wp2_with (refine wpList_load_row rfl 113 _ rfl N rfl 113 (jg m g) (0,0) _ HR1.out Try.underlying113 rfl (by kernel_rfl) ?_)
  go_ret
  rw [HRR.out]
  exact ⟨rfl,by first | exact HB1.out | (rw [HN.out]; exact HB1.out)⟩
end Go.Proofs.Ytlggjbopfnndbaa
namespace Go.Proofs.Ytlggjbopfnndbaa
open Go.RowKit
theorem intsAt_new {w : World} {B : Nat} {xs : List Int} (hB : B = w.heap.size) : IntsAt (w.alloc (.cells (xs.map (Value.int .i64)).toArray 3)) (some ⟨B,0,none⟩) xs := by
 subst hB
 intro _
 refine ⟨w.heap.size,0,rfl,by simp,fun k u hk => ?_⟩
 rw [Nat.zero_add,World.cell?_alloc_new]
 simp [hk]
theorem strsAt_new {w : World} {B : Nat} {xs : List ByteArray} (hB : B = w.heap.size) : StrsAt (w.alloc (.cells (xs.map Value.string).toArray 9)) (some ⟨B,0,none⟩) xs := by
 subst hB
 intro _
 refine ⟨w.heap.size,0,rfl,by simp,fun k u hk => ?_⟩
 rw [Nat.zero_add,World.cell?_alloc_new]
 simp [hk]
set_option maxRecDepth 100000 in
set_option maxHeartbeats 4000000 in
theorem plain_4 (m : Mo) (g : Fn) (i : Ins) (w : World) (hop : i.op = 4) (h : PlainIn w m g i) :
  Calls Try.prog 126 #[.agg (jg m g),.agg i.cells] w fun e w' => e = .returned (.int .i64 (plainF m g.vs i)) ∧ Below w.heap.size w w' := by
 have HE : Hid (plainF m g.vs i = signedF (numsF g.vs [i.d,i.a,i.b]) i.sign signsB) := by
  unfold Hid plainF; rw [hop]; rfl
 obtain ⟨R,hR⟩ : ∃ R,plainF m g.vs i = R := ⟨_,rfl⟩
 rw [hR] at HE ⊢
 clear hR
 have HN0 := Lib.hid h
 have HT : Hid (∀ W v,Below w.heap.size w W → isVar g.vs.length v = true → Calls Try.prog 125 #[.agg (jg m g),.int .i64 v] W fun e w' => e = .returned (tyV (tyAt g.vs v)) ∧ Below W.heap.size W w') := fun W v hW hv => typ_calls m g v W (h.j.below hW).vars h.j.nv h.j.vl hv
 have HD : Hid (shD 4 = true → isVar g.vs.length i.d = true) := by have := h.d; rw [hop] at this; exact this
 have HA : Hid (shA 4 = true → isVar g.vs.length i.a = true) := by have := h.a; rw [hop] at this; exact this
 have HB : Hid (shB 4 = true → isVar g.vs.length i.b = true) := by have := h.b; rw [hop] at this; exact this
 clear h
 obtain ⟨N,hN⟩ : ∃ N,w.heap.size = N := ⟨_,rfl⟩
 obtain ⟨W1,hW1⟩ : ∃ W1,(w.alloc (.cells (jg m g) 113)).alloc (.cells i.cells 62) = W1 := ⟨_,rfl⟩
 have hb1 : Below N w W1 := by rw [← hW1,← hN]; exact ((Below.refl _ _).alloc (Nat.le_refl _) _).alloc (by simp) _
 have hs1 : W1.heap.size = N + 2 := by rw [← hW1]; simp [hN]
 have hr1 : W1.heap[N]? = some (.cells (jg m g) 113 (0,0)) := by rw [← hW1,← hN]; exact heap_alloc2_old _ _ _
 have hr2 : W1.heap[N + 1]? = some (.cells i.cells 62 (0,0)) := by rw [← hW1,← hN]; exact heap_alloc2_new _ _ _
 have i0 : W1.cell? ⟨N + 1,0,none⟩ = some (.int .i64 4) := by rw [cell_of_row _ _ _ _ _ _ hr2,← hop]; rfl
 have i1 : W1.cell? ⟨N + 1,1,none⟩ = some (.int .i64 i.d) := by rw [cell_of_row _ _ _ _ _ _ hr2]; rfl
 have i2 : W1.cell? ⟨N + 1,2,none⟩ = some (.int .i64 i.a) := by rw [cell_of_row _ _ _ _ _ _ hr2]; rfl
 have i3 : W1.cell? ⟨N + 1,3,none⟩ = some (.int .i64 i.b) := by rw [cell_of_row _ _ _ _ _ _ hr2]; rfl
 have i4 : W1.cell? ⟨N + 1,4,none⟩ = some (.int .i64 i.f) := by rw [cell_of_row _ _ _ _ _ _ hr2]; rfl
 have i6 : W1.cell? ⟨N + 1,6,none⟩ = some (.string i.sign) := by rw [cell_of_row _ _ _ _ _ _ hr2]; rfl
 have HB1 := Lib.hid hb1
 have HR1 := Lib.hid hr1
 have HR2 := Lib.hid hr2
 have HN := Lib.hid hN
 have HS1 := Lib.hid hs1
 have hNlt : N + 1 < W1.heap.size := by omega
 clear hb1 hr1 hr2 hop
 obtain ⟨r0,hr0⟩ : ∃ r,numsF g.vs [i.d,i.a,i.b] = r := ⟨_,rfl⟩
 rw [hr0] at HE
 have HNC : Hid (∀ (W : World) (blk : Nat),Below W1.heap.size W1 W → IntsAt W (some ⟨blk,0,none⟩) [i.d,i.a,i.b] → Calls Try.prog 124 #[.agg (jg m g),.slice (some ⟨blk,0,none⟩) 3 3] W fun e w' => e = .returned (.int .i64 r0) ∧ Below W.heap.size W w') := by
  intro W blk hW hat
  have hj := HN0.out.j.below (by rw [HN.out]; exact HB1.out.trans (hW.mono (by omega)) : Below w.heap.size w W)
  have := numbers_calls5 m g (some ⟨blk,0,none⟩) [i.d,i.a,i.b] 3 W hj.vars hj.nv hj.vl (by unfold maxLen; simp) hat (by simp; exact ⟨HD.out rfl,HA.out rfl,HB.out rfl⟩)
  rw [hr0] at this
  exact this
 have HSC : Hid (∀ (W : World) (blk : Nat),StrsAt W (some ⟨blk,0,none⟩) signsB → Calls Try.prog 136 #[.int .i64 r0,.string i.sign,.slice (some ⟨blk,0,none⟩) 11 11] W fun e w' => e = .returned (.int .i64 R) ∧ W = w') := by
  intro W blk hat
  rw [HE.out]
  exact signed_calls r0 i.sign signsB (some ⟨blk,0,none⟩) 11 W (by unfold maxLen signsB; simp) hat
 have HKP : Hid (∀ W,Below W1.heap.size W1 W → W.cell? ⟨N + 1,1,none⟩ = some (.int .i64 i.d) ∧ W.cell? ⟨N + 1,2,none⟩ = some (.int .i64 i.a) ∧ W.cell? ⟨N + 1,3,none⟩ = some (.int .i64 i.b) ∧ W.cell? ⟨N + 1,6,none⟩ = some (.string i.sign) ∧ Below W1.heap.size W1 W) := fun W hW =>
  ⟨by rw [hW.cell (p := ⟨N + 1,1,none⟩) hNlt]; exact i1,by rw [hW.cell (p := ⟨N + 1,2,none⟩) hNlt]; exact i2,by rw [hW.cell (p := ⟨N + 1,3,none⟩) hNlt]; exact i3,by rw [hW.cell (p := ⟨N + 1,6,none⟩) hNlt]; exact i6,hW⟩
 have HI : Hid (∀ (W : World) (B : Nat),B = W.heap.size → IntsAt (W.alloc (.cells #[.int .i64 i.d,.int .i64 i.a,.int .i64 i.b] 3)) (some ⟨B,0,none⟩) [i.d,i.a,i.b]) := fun W B hB => intsAt_new hB
 have HST : Hid (∀ (W : World) (B : Nat),B = W.heap.size → StrsAt (W.alloc (.cells #[.string ⟨#[43]⟩,.string ⟨#[45]⟩,.string ⟨#[42]⟩,.string ⟨#[47]⟩,.string ⟨#[37]⟩,.string ⟨#[60]⟩,.string ⟨#[60,61]⟩,.string ⟨#[62]⟩,.string ⟨#[62,61]⟩,.string ⟨#[61,61]⟩,.string ⟨#[33,61]⟩] 9)) (some ⟨B,0,none⟩) signsB) := fun W B hB => strsAt_new hB
 clear HE HD HA HB HT HN0 hr0
 go_enter Try.func126,Try.ntmps126
 go_wp2_with (refine wpList_load_row rfl 113 _ rfl N rfl 113 (jg m g) (0,0) _ HR1.out Try.underlying113 rfl (by kernel_rfl) ?_)
 go_region_held3 (fun w' => w'.cell? ⟨N + 1,1,none⟩ = some (.int .i64 i.d) ∧ w'.cell? ⟨N + 1,2,none⟩ = some (.int .i64 i.a) ∧ w'.cell? ⟨N + 1,3,none⟩ = some (.int .i64 i.b) ∧ w'.cell? ⟨N + 1,6,none⟩ = some (.string i.sign) ∧ Below W1.heap.size W1 w')
  (first
   | (exact hS)
   | (exact HKP.out _ ((Below.refl _ _).drew))
   | (exact HKP.out _ (((Below.refl _ _).drew).alloc (by simp) _))
   | (exact HKP.out _ ((((Below.refl _ _).drew).alloc (by simp) _).alloc (by simp <;> omega) _))
   | (exact HKP.out _ hbb)
   | (exact HKP.out _ (hbb.alloc (by have := hbb.size; omega) _))
   | fail)
  (first
   | (go_at_call 124
      first
        | (refine (HNC.out _ _ (((Below.refl _ _).drew).alloc (by simp) _) (HI.out _ _ (by simp <;> omega))).mono ?_
           rintro e w11 ⟨rfl,hb11⟩
           have hbb : Below W1.heap.size W1 w11 := (((Below.refl _ _).drew).alloc (by simp) _).trans (hb11.mono (by simp))
           have hS := HKP.out _ hbb)
        | (refine (HNC.out _ _ ((((Below.refl _ _).drew).alloc (by simp) _).alloc (by simp <;> omega) _) (HI.out _ _ (by simp <;> omega))).mono ?_
           rintro e w11 ⟨rfl,hb11⟩
           have hbb : Below W1.heap.size W1 w11 := ((((Below.refl _ _).drew).alloc (by simp) _).alloc (by simp <;> omega) _).trans (hb11.mono (by simp <;> omega))
           have hS := HKP.out _ hbb)
        | (refine (HNC.out _ _ ((((Below.refl _ _).drew).alloc (by simp) _).alloc (by simp <;> omega) _) ((HI.out _ _ (by simp <;> omega)).below ((Below.refl _ _).alloc (Nat.le_refl _) _))).mono ?_
           rintro e w11 ⟨rfl,hb11⟩
           have hbb : Below W1.heap.size W1 w11 := ((((Below.refl _ _).drew).alloc (by simp) _).alloc (by simp <;> omega) _).trans (hb11.mono (by simp <;> omega))
           have hS := HKP.out _ hbb))
   | (go_at_call 136
      first
        | (refine (HSC.out _ _ (HST.out _ _ (by simp))).mono ?_; rintro e w12 ⟨rfl,rfl⟩)
        | (refine (HSC.out _ _ ((HST.out _ _ (by simp <;> omega)).below hb11)).mono ?_; rintro e w12 ⟨rfl,rfl⟩)
        | (refine (HSC.out _ _ (((HST.out _ _ (by simp <;> omega)).below ((Below.refl _ _).alloc (Nat.le_refl _) _)).below hb11)).mono ?_; rintro e w12 ⟨rfl,rfl⟩)))
 all_goals
  clear hS
  go_wp2
  go_ret
  refine ⟨rfl,?_⟩
  rw [HN.out]
  exact HB1.out.trans (Below.mono (by first | exact hbb | exact hbb.alloc (by have := hbb.size; omega) _) (by omega))
end Go.Proofs.Ytlggjbopfnndbaa
