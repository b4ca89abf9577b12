import Derived.Test.YtlggjbopfnndbaaRfH0
namespace Go.Proofs.Ytlggjbopfnndbaa
open Go.RowKit
set_option maxRecDepth 100000 in
set_option maxHeartbeats 32000000 in
theorem rinstrD_calls (m : Mo) (g : Fn) (i : Ins) (w : World) (h : JIn w m g) (hi : i.args_in w) (hal : i.args.length ≤ 40) (hkn : ∀ v,isVar g.vs.length v = true → m.known (tyAt g.vs v) = true) (hop : i.op = 7 ∨ i.op = 8 ∨ i.op = 10 ∨ i.op = 11) :
  Calls Try.prog 59 #[.agg m.cells,.agg g.cells,.agg i.cells] w fun e w' => e = .returned (.int .i64 (instrF m g i)) ∧ Below w.heap.size w w' := by
 obtain ⟨ao,hao⟩ : ∃ ao,g.c.varsA = ao := ⟨_,rfl⟩
 have hgc := gc_cells h.nv hao
 obtain ⟨N,hN⟩ : ∃ N,w.heap.size = N := ⟨_,rfl⟩
 obtain ⟨W1,hW1⟩ : ∃ W1,((w.alloc (.cells m.cells 25)).alloc (.cells g.cells 50)).alloc (.cells i.cells 62) = W1 := ⟨_,rfl⟩
 obtain ⟨hb1,hs1,r0,r1,r2⟩ := box3 hW1
 rw [hN] at hb1 hs1 r0 r1 r2
 rw [hgc] at r1
 have HBX : Hid (∀ W,Below (N + 3) W1 W → Bx m g i ao N W) := fun W hW => by
  have q0 := (hW.block N (by omega)).trans r0
  exact ⟨by rw [cell_of_row _ _ _ _ _ _ q0]; rfl,by rw [cell_of_row _ _ _ _ _ _ q0]; rfl,(hW.block (N + 1) (by omega)).trans r1,(hW.block (N + 2) (by omega)).trans r2⟩
 have HBN : Hid (∀ W,Below (N + 3) W1 W → Below N w W) := fun W hW => hb1.trans (hW.mono (by omega))
 have HJ : Hid (∀ W,Below (N + 3) W1 W → JIn W m g) := fun W hW => h.below (by rw [hN]; exact HBN.out W hW)
 have HAI : Hid (∀ W,Below (N + 3) W1 W → i.args_in W) := fun W hW => by
  obtain ⟨h1,ao,cap,h2,h3⟩ := hi
  exact ⟨h1,ao,cap,h2,RowOf.grow h3 (by rw [hN]; exact HBN.out W hW)⟩
 have hok := hi.1
 have HHS : Hid (∀ W ao' cap' (xs : List Int),xs.length ≤ 42 → IntsAt W ao' xs → Calls Try.prog 86 #[.agg #[.string g.c.nm,.int .i64 g.c.par,.slice ao g.vs.length g.c.varsC,.bool g.c.rp,.string g.c.rto,.int .i64 g.c.rcl,.slice g.c.fromA g.c.nfrom g.c.fromC,.slice g.c.insA g.c.ins.length g.c.insC],.slice ao' xs.length cap'] W fun e w' => e = .returned (.bool (thereF g.vs.length xs)) ∧ Below W.heap.size W w') := fun W ao' cap' xs hx hat => by
  have := rhas_calls g W ao' cap' xs h.nv (by unfold maxLen; omega) hat
  rw [hgc] at this; exact this
 have HWR : Hid (∀ W,Calls Try.prog 85 #[.agg #[.int .i64 i.op,.int .i64 i.d,.int .i64 i.a,.int .i64 i.b,.int .i64 i.f,.int .i64 i.n,.string i.sign,i.argsV,i.modeV,.int .i64 i.to,.int .i64 i.els,.int .i64 i.ln,.int .i64 i.cl]] W fun e w' => e = .returned (.tuple #[.int .i64 (writesOf i).1,.bool (writesOf i).2]) ∧ Below W.heap.size W w') := fun W => refWrites_calls i W hok
 have HRD : Hid (∀ W,Below (N + 3) W1 W → Calls Try.prog 87 #[.agg #[.int .i64 i.op,.int .i64 i.d,.int .i64 i.a,.int .i64 i.b,.int .i64 i.f,.int .i64 i.n,.string i.sign,i.argsV,i.modeV,.int .i64 i.to,.int .i64 i.els,.int .i64 i.ln,.int .i64 i.cl]] W (GivesI W (readsOf i))) := fun W hW => refReads_calls i W (HAI.out W hW) hal
 have HALQ := Lib.hid hal
 have HRL : Hid ((readsOf i).length ≤ 42) := by
  unfold Hid readsOf
  simp only [List.length_append]
  have : (if shA i.op = true then [i.a] else []).length ≤ 1 := by split <;> simp
  have : (if shB i.op = true then [i.b] else []).length ≤ 1 := by split <;> simp
  have : (if i.op = 15 then i.args else []).length ≤ 40 := by split <;> first | exact HALQ.out | simp
  omega
 have HALL := Lib.hid hal
 have HKN := Lib.hid hkn
 have HHJ := Lib.hid h
 have HHI := Lib.hid hi
 have HGC := Lib.hid hgc
 have HAO := Lib.hid hao
 rw [hgc] at hW1 ⊢
 simp only [Mo.cells,gc,Ins.cells] at hW1 ⊢
 have HW1 := Lib.hid hW1
 have HN := Lib.hid hN
 have HS1 := Lib.hid hs1
 obtain ⟨R,hR⟩ : ∃ R,instrF m g i = R := ⟨_,rfl⟩
 rw [hR]
 have HR := Lib.hid hR
 have hlo : ¬ i.op < 1 := by omega
 have hhi : ¬ 18 < i.op := by omega
 have o1 : decide (i.op < 1) = false := decide_eq_false hlo
 have o2 : decide (18 < i.op) = false := decide_eq_false hhi
 have hnr : ¬ (i.op < 1 ∨ 18 < i.op) := by omega
 obtain ⟨wD,hwD⟩ : ∃ b,shD i.op = b := ⟨_,rfl⟩
 obtain ⟨bD,hbD⟩ : ∃ b,thereF g.vs.length [i.d] = b := ⟨_,rfl⟩
 obtain ⟨bR,hbR⟩ : ∃ b,thereF g.vs.length (readsOf i) = b := ⟨_,rfl⟩
 have HBD := Lib.hid hbD
 have HBR := Lib.hid hbR
 have HWD := Lib.hid hwD
 have HWO : Hid (writesOf i = if wD = true then (i.d,true) else (0,false)) := by unfold Hid writesOf; rw [hwD]
 have HTH : Hid (thereF g.vs.length (readsOf i ++ (if shD i.op = true then [i.d] else [])) = (bR && (!wD || bD))) := by
  unfold Hid
  rw [thereF_append,hbR,hwD]
  cases wD with
  | true => rw [if_pos rfl,hbD]; rfl
  | false => rw [if_neg (by simp)]; simp [thereF]
 have HNR := Lib.hid hnr
 have hx1 := HBX.out W1 (Below.refl _ _)
 have HR2 := Lib.hid hx1.ir
 have HOP := Lib.hid hop
 clear h hi hal hkn hgc hao hok hW1 hb1 r0 r1 r2 hR hlo hhi hnr hwD hbD hbR hop
 have hs1' : W1.heap.size = N + 3 := hs1
 go_enter Try.func59,Try.ntmps59
 go_upto_region 1 with (fail)
 rw [HW1.out]
 clear HW1 hx1 hN
 go_upto_region 2 with (first
  | (refine wpList_load_row rfl 62 _ rfl (N + 2) rfl 62 _ (0,0) _ HR2.out Try.underlying62 rfl (by kernel_rfl) ?_)
  | (go_at_call 85; refine (HWR.out _).mono ?_; rintro e w2 ⟨rfl,hb2⟩; have HB2 := Lib.hid hb2; clear hb2))
 have hb2 : Below (N + 3) W1 w2 := by have := HB2.out; rwa [hs1'] at this
 have i0 := (HBX.out w2 hb2).i0
 have HB2' := Lib.hid hb2
 clear hb2 hs1' hs1 HB2
 rw [HWO.out]
 go_upto_region 4 with (fail)
 clear i0 o1 o2
 obtain ⟨S,hS⟩ : ∃ S : World → Prop,S = Below (N + 3) W1 := ⟨_,rfl⟩
 have HSB : Hid (∀ w',S w' ↔ Below (N + 3) W1 w') := fun w' => by rw [hS]
 have HSC : Hid (∀ w',S w' → ∀ j u,(#[.string g.c.nm,.int .i64 g.c.par,.slice ao g.vs.length g.c.varsC,.bool g.c.rp,.string g.c.rto,.int .i64 g.c.rcl,.slice g.c.fromA g.c.nfrom g.c.fromC,.slice g.c.insA g.c.ins.length g.c.insC] : Array Value).toList[j]? = some u → w'.cell? ((⟨N + 1,0,none⟩ : Addr).add j) = some u) := fun w' h => cells_at (HBX.out w' ((HSB.out w').1 h)).gr
 have HSI : Hid (∀ w',S w' → ∀ j u,(#[.int .i64 i.op,.int .i64 i.d,.int .i64 i.a,.int .i64 i.b,.int .i64 i.f,.int .i64 i.n,.string i.sign,i.argsV,i.modeV,.int .i64 i.to,.int .i64 i.els,.int .i64 i.ln,.int .i64 i.cl] : Array Value).toList[j]? = some u → w'.cell? ((⟨N + 1 + 1,0,none⟩ : Addr).add j) = some u) := fun w' h => cells_at (HBX.out w' ((HSB.out w').1 h)).ir
 have HSS : Hid (∀ w',S w' → True ∧ True) := fun _ _ => ⟨trivial,trivial⟩
 clear hS
 go_cut [7,37] from 23 to 37 (fun d b wc => d = .int .i64 (if wD = true then (i.d,true) else (0,false)).1 ∧ b = .bool (!(bR && (!wD || bD))) ∧ Below (N + 3) W1 wc)
 case first =>
  have hS0 : S w2.drew := (HSB.out _).2 HB2'.out.drew
  cases wD with
  | true =>
   simp only [if_true]
   refine wp_region_J 5 S (by kernel_rfl) ?_
   refine wpAnyJ_take (i := 0) rfl (by kernel_rfl) (by kernel_rfl) (by kernel_rfl) (by kernel_rfl) (fun _ _ _ h => h) (Or.inl ⟨by rfl,fun w hSw => by obtain ⟨s1,s2⟩ := HSS.out w hSw; go_simp; try rfl⟩) (by assumption) ?_
   try go_simp
   refine wpAnyJ_take (i := 1) rfl (by kernel_rfl) (by kernel_rfl) (by kernel_rfl) (by kernel_rfl) (fun _ _ _ h => h) (Or.inl ⟨by rfl,fun w hSw => by obtain ⟨s1,s2⟩ := HSS.out w hSw; go_simp; try rfl⟩) (by assumption) ?_
   try go_simp
   refine wpAnyJ_take (i := 2) rfl (by kernel_rfl) (by kernel_rfl) (by kernel_rfl) (by kernel_rfl) (fun _ _ _ h => h) (load_yields (by rfl) 50 _ rfl ⟨N + 1,0,none⟩ rfl _ _ HSC.out Try.underlying50 rfl (by kernel_rfl)) (by assumption) ?_
   try go_simp
   refine wpAnyJ_take (i := 3) rfl (by kernel_rfl) (by kernel_rfl) (by kernel_rfl) (by kernel_rfl) (fun _ _ _ h => h) (Or.inl ⟨by rfl,fun w hSw => by obtain ⟨s1,s2⟩ := HSS.out w hSw; go_simp; try rfl⟩) (by assumption) ?_
   try go_simp
   refine wpAnyJ_one (i := 4) (by kernel_rfl) (by decide) rfl fun K' hK => ?_
   rw [if_pos (by rfl)]
   go_simp
   have hS4 : ∀ c,S (w2.alloc c).drew := fun c => (HSB.out _).2 ((HB2'.out.alloc (by have := HB2'.out.size; rw [HS1.out] at this; exact this) _).drew)
   have hat4 : IntsAt (w2.alloc (.cells #[.int .i64 i.d] 3)).drew (some ⟨w2.heap.size,0,none⟩) [i.d] := IntsAt.one w2 i.d rfl
   refine hK _ _ (hS4 _) ?_
   clear hK
   try go_simp
   refine wpAnyJ_k (by kernel_rfl) rfl fun K' hK => ?_
   rw [if_pos (by rfl)]
   go_simp
   go_at_call 86
   refine (HHS.out _ (some ⟨w2.heap.size,0,none⟩) 1 [i.d] (by simp) hat4).mono ?_
   rintro e w5 ⟨rfl,hb5⟩
   have hS5 : S w5 := (HSB.out _).2 (((HSB.out _).1 (hS4 _)).trans (hb5.mono (by have := ((HSB.out _).1 (hS4 (.cells #[.int .i64 i.d] 3))).size; rw [HS1.out] at this; exact this)))
   rw [HBD.out]
   refine hK _ _ ?_
   clear hK hb5 hS4 hS0 hat4
   try go_simp
   cases bD with
   | false =>
    refine wpAny_end 6 rfl (by kernel_rfl) (by kernel_rfl) (· = w5) rfl ?_
    dsimp only [List.drop]
    repeat (go_big_quiet_step (fail))
    refine wpQuiet_nil ?_
    rintro _ rfl
    go_wp2
    go_meet
    case rel => exact ⟨rfl,by simp,(HSB.out _).1 hS5⟩
   | true =>
    refine wpAny_of_J (S := S) (k := 12) _ _ _ _ ?_
    refine wpAnyJ_take (i := 6) rfl (by kernel_rfl) (by kernel_rfl) (by kernel_rfl) (by kernel_rfl) (fun _ _ _ h => h) (Or.inl ⟨by rfl,fun w hSw => by obtain ⟨s1,s2⟩ := HSS.out w hSw; go_simp; try rfl⟩) (by assumption) ?_
    try go_simp
    refine wpAnyJ_take (i := 7) rfl (by kernel_rfl) (by kernel_rfl) (by kernel_rfl) (by kernel_rfl) (fun _ _ _ h => h) (Or.inl ⟨by rfl,fun w hSw => by obtain ⟨s1,s2⟩ := HSS.out w hSw; go_simp; try rfl⟩) (by assumption) ?_
    try go_simp
    refine wpAnyJ_take (i := 8) rfl (by kernel_rfl) (by kernel_rfl) (by kernel_rfl) (by kernel_rfl) (fun _ _ _ h => h) (Or.inl ⟨by rfl,fun w hSw => by obtain ⟨s1,s2⟩ := HSS.out w hSw; go_simp; try rfl⟩) (by assumption) ?_
    try go_simp
    refine wpAnyJ_take (i := 9) rfl (by kernel_rfl) (by kernel_rfl) (by kernel_rfl) (by kernel_rfl) (fun _ _ _ h => h) (load_yields (by rfl) 50 _ rfl ⟨N + 1,0,none⟩ rfl _ _ HSC.out Try.underlying50 rfl (by kernel_rfl)) (by assumption) ?_
    try go_simp
    refine wpAnyJ_take (i := 10) rfl (by kernel_rfl) (by kernel_rfl) (by kernel_rfl) (by kernel_rfl) (fun _ _ _ h => h) (load_yields (by rfl) 62 _ rfl ⟨N + 1 + 1,0,none⟩ rfl _ _ HSI.out Try.underlying62 rfl (by kernel_rfl)) (by assumption) ?_
    try go_simp
    refine wpAnyJ_one (i := 11) (by kernel_rfl) (by decide) rfl fun K' hK => ?_
    rw [if_pos (by rfl)]
    go_simp
    go_at_call 87
    refine (HRD.out _ ((HSB.out _).1 (by assumption))).mono ?_
    rintro e w7 ⟨ro,rc,rfl,hro,hb7⟩
    have hS7 : S w7 := (HSB.out _).2 (((HSB.out _).1 (by assumption)).trans (hb7.mono (by have := ((HSB.out _).1 (by assumption)).size; rw [HS1.out] at this; exact this)))
    have hat7 := hro.at_
    refine hK _ _ hS7 ?_
    clear hK hro hb7
    try go_simp
    refine wpAnyJ_k (by kernel_rfl) rfl fun K' hK => ?_
    rw [if_pos (by rfl)]
    go_simp
    go_at_call 86
    refine (HHS.out _ _ _ _ HRL.out hat7).mono ?_
    rintro e w8 ⟨rfl,hb8⟩
    have hS8 := ((HSB.out _).1 hS7).trans (hb8.mono (by have := ((HSB.out _).1 hS7).size; rw [HS1.out] at this; exact this))
    rw [HBR.out]
    refine hK _ _ ?_
    clear hK hat7 hb8
    try go_simp
    refine wpAny_end 13 rfl (by kernel_rfl) (by kernel_rfl) (· = w8) rfl ?_
    dsimp only [List.drop]
    repeat (go_big_quiet_step (fail))
    refine wpQuiet_nil ?_
    rintro _ rfl
    go_wp2
    go_meet
    case rel => exact ⟨rfl,by simp,hS8⟩
  | false =>
    simp only [Bool.false_eq_true,if_false]
    refine wp_region_J 12 S (by kernel_rfl) ?_
    refine wpAnyJ_take (i := 0) rfl (by kernel_rfl) (by kernel_rfl) (by kernel_rfl) (by kernel_rfl) (fun _ _ _ h => h) (Or.inl ⟨by rfl,fun w hSw => by obtain ⟨s1,s2⟩ := HSS.out w hSw; go_simp; try rfl⟩) (by assumption) ?_
    try go_simp
    refine wpAnyJ_take (i := 1) rfl (by kernel_rfl) (by kernel_rfl) (by kernel_rfl) (by kernel_rfl) (fun _ _ _ h => h) (Or.inl ⟨by rfl,fun w hSw => by obtain ⟨s1,s2⟩ := HSS.out w hSw; go_simp; try rfl⟩) (by assumption) ?_
    try go_simp
    refine wpAnyJ_take (i := 2) rfl (by kernel_rfl) (by kernel_rfl) (by kernel_rfl) (by kernel_rfl) (fun _ _ _ h => h) (Or.inr ⟨by rfl,rfl⟩) (by assumption) ?_
    try go_simp
    refine wpAnyJ_take (i := 3) rfl (by kernel_rfl) (by kernel_rfl) (by kernel_rfl) (by kernel_rfl) (fun _ _ _ h => h) (Or.inr ⟨by rfl,rfl⟩) (by assumption) ?_
    try go_simp
    refine wpAnyJ_take (i := 4) rfl (by kernel_rfl) (by kernel_rfl) (by kernel_rfl) (by kernel_rfl) (fun _ _ _ h => h) (Or.inr ⟨by rfl,rfl⟩) (by assumption) ?_
    try go_simp
    refine wpAnyJ_take (i := 5) rfl (by kernel_rfl) (by kernel_rfl) (by kernel_rfl) (by kernel_rfl) (fun _ _ _ h => h) (Or.inr ⟨by rfl,rfl⟩) (by assumption) ?_
    try go_simp
    refine wpAnyJ_take (i := 6) rfl (by kernel_rfl) (by kernel_rfl) (by kernel_rfl) (by kernel_rfl) (fun _ _ _ h => h) (Or.inr ⟨by rfl,rfl⟩) (by assumption) ?_
    try go_simp
    refine wpAnyJ_take (i := 7) rfl (by kernel_rfl) (by kernel_rfl) (by kernel_rfl) (by kernel_rfl) (fun _ _ _ h => h) (Or.inl ⟨by rfl,fun w hSw => by obtain ⟨s1,s2⟩ := HSS.out w hSw; go_simp; try rfl⟩) (by assumption) ?_
    try go_simp
    refine wpAnyJ_take (i := 8) rfl (by kernel_rfl) (by kernel_rfl) (by kernel_rfl) (by kernel_rfl) (fun _ _ _ h => h) (Or.inl ⟨by rfl,fun w hSw => by obtain ⟨s1,s2⟩ := HSS.out w hSw; go_simp; try rfl⟩) (by assumption) ?_
    try go_simp
    refine wpAnyJ_take (i := 9) rfl (by kernel_rfl) (by kernel_rfl) (by kernel_rfl) (by kernel_rfl) (fun _ _ _ h => h) (load_yields (by rfl) 50 _ rfl ⟨N + 1,0,none⟩ rfl _ _ HSC.out Try.underlying50 rfl (by kernel_rfl)) (by assumption) ?_
    try go_simp
    refine wpAnyJ_take (i := 10) rfl (by kernel_rfl) (by kernel_rfl) (by kernel_rfl) (by kernel_rfl) (fun _ _ _ h => h) (load_yields (by rfl) 62 _ rfl ⟨N + 1 + 1,0,none⟩ rfl _ _ HSI.out Try.underlying62 rfl (by kernel_rfl)) (by assumption) ?_
    try go_simp
    refine wpAnyJ_one (i := 11) (by kernel_rfl) (by decide) rfl fun K' hK => ?_
    rw [if_pos (by rfl)]
    go_simp
    go_at_call 87
    refine (HRD.out _ ((HSB.out _).1 (by assumption))).mono ?_
    rintro e w7 ⟨ro,rc,rfl,hro,hb7⟩
    have hS7 : S w7 := (HSB.out _).2 (((HSB.out _).1 (by assumption)).trans (hb7.mono (by have := ((HSB.out _).1 (by assumption)).size; rw [HS1.out] at this; exact this)))
    have hat7 := hro.at_
    refine hK _ _ hS7 ?_
    clear hK hro hb7
    try go_simp
    refine wpAnyJ_k (by kernel_rfl) rfl fun K' hK => ?_
    rw [if_pos (by rfl)]
    go_simp
    go_at_call 86
    refine (HHS.out _ _ _ _ HRL.out hat7).mono ?_
    rintro e w8 ⟨rfl,hb8⟩
    have hS8 := ((HSB.out _).1 hS7).trans (hb8.mono (by have := ((HSB.out _).1 hS7).size; rw [HS1.out] at this; exact this))
    rw [HBR.out]
    refine hK _ _ ?_
    clear hK hat7 hb8
    try go_simp
    refine wpAny_end 13 rfl (by kernel_rfl) (by kernel_rfl) (· = w8) rfl ?_
    dsimp only [List.drop]
    repeat (go_big_quiet_step (fail))
    refine wpQuiet_nil ?_
    rintro _ rfl
    go_wp2
    go_meet
    case rel => exact ⟨rfl,by simp,hS8⟩
 case rest =>
  obtain ⟨rfl,rfl,hbc⟩ := hcut
  have HBF := Lib.hid (HBN.out wc hbc)
  have hx := HBX.out wc hbc
  have HV : Hid (∀ v,isVar g.vs.length v = true → ∃ (k b off : Nat) (x : Vr),v = (k : Int) ∧ k < g.vs.length ∧ ao = some ⟨b,off,none⟩ ∧ tyAt g.vs v = (x.ptr,x.tgt) ∧ ∀ W,Below (N + 3) W1 W → W.cell? ⟨b,off + k * 3,none⟩ = some (.bool x.ptr) ∧ W.cell? ⟨b,off + k * 3 + 1,none⟩ = some (.string x.tgt)) := fun v hv => by
   obtain ⟨k,b,off,x,q1,q2,q3,q4,q5,q6,q7⟩ := var_at HHJ.out.vars hv
   refine ⟨k,b,off,x,q1,q2,by rw [← HAO.out]; exact q3,q5,fun W hW => ?_⟩
   have hbn := HBN.out W hW
   rw [HN.out] at q4
   exact ⟨by rw [hbn.cell (p := ⟨b,_,none⟩) (show b < N by omega)]; exact q6,by rw [hbn.cell (p := ⟨b,_,none⟩) (show b < N by omega)]; exact q7⟩
  have hvl := HHJ.out.vl
  unfold maxLen at hvl
  have HO : Hid (∀ W b f,Calls Try.prog 61 #[.bool b,.int .i64 f] W fun e w' => e = .returned (.int .i64 (unl (!b) f)) ∧ Below W.heap.size W w') := fun W b f => rone_calls b f W
  have HBO : Hid (∀ W W' : World,Below (N + 3) W1 W → Below W.heap.size W W' → Below N w W') := fun W W' h1 h2 => HBN.out W' (h1.trans (h2.mono (by have := h1.size; rw [HS1.out] at this; exact this)))
  obtain ⟨B,hB⟩ : ∃ B,(bR && (!wD || bD)) = B := ⟨_,rfl⟩
  rw [hB]
  cases B with
  | false =>
   have HRR : Hid (R = 15) := by unfold Hid; rw [← HR.out]; unfold instrF; rw [if_neg HNR.out,if_pos (by rw [HTH.out]; exact hB)]
   clear hx HV hB
   obtain ⟨wv,hwv⟩ : ∃ v : Int × Bool,(if wD = true then (i.d,true) else (0,false)) = v := ⟨_,rfl⟩
   rw [hwv,Bool.not_false]
   clear hwv HWO
   go_wp2
   go_ret
   rw [HRR.out,HN.out]
   exact ⟨rfl,HBF.out⟩
  | true =>
  rw [Bool.not_true]
  clear HSB HSC HSI HSS HB2' HWO HWR HR2
  rcases HOP.out with hop | hop | hop | hop
  ·-- 7
   have ew : wD = true := by rw [← HWD.out,hop]; decide
   subst ew
   have ebR : bR = true := (by simpa using hB : _ ∧ _).1
   have ebD : bD = true := (by simpa using hB : _ ∧ _).2
   have hdv : isVar g.vs.length i.d = true := by have := HBD.out; rw [ebD] at this; simpa [thereF] using this
   have hav : isVar g.vs.length i.a = true := there_a (by rw [HBR.out]; exact ebR) (by rw [hop]; decide)
   have hE : R = if i.op = 15 then callF m g.vs i else if i.op = 16 then unl (isVar g.c.ins.length i.to) 15 else if i.op = 17 then (if isVar g.c.ins.length i.to && isVar g.c.ins.length i.els then numsF g.vs [i.a] else 15) else if i.op = 18 then unl (tyAt g.vs i.a == g.ret) 7 else plainF m g.vs i := by
    rw [← HR.out]; unfold instrF; rw [if_neg HNR.out,if_neg (by rw [HTH.out,ebR,ebD]; simp)]
   have i0 := hx.i0
   rw [hop] at i0
   have g7 := hx.g7
   have g2 := hx.g2
   have i2 := hx.i2
   obtain ⟨ka,vba,voa,xa,hka,hkla,hva,hta,hca⟩ := HV.out i.a hav
   have HaC := Lib.hid hca
   obtain ⟨a0,a1⟩ := hca wc hbc
   clear hca
   have hkIa : (ka : Int) < (g.vs.length : Int) := by omega
   obtain ⟨kd,vbd,vod,xd,hkd,hkld,hvd,htd,hcd⟩ := HV.out i.d hdv
   have HdC := Lib.hid hcd
   obtain ⟨d0,d1⟩ := hcd wc hbc
   clear hcd
   have hkId : (kd : Int) < (g.vs.length : Int) := by omega
   have hE2 : R = heapF m g.vs i i.d false := by rw [hE]; simp [hop,plainF]
   have HRR := Lib.hid hE2
   have hcl := rheap7_calls m g i wc (HJ.out wc hbc) hop hav hdv (HKN.out i.a hav)
   rw [← hE2,HGC.out] at hcl
   simp only [Mo.cells,gc,Ins.cells] at hcl
   have HCL := Lib.hid hcl
   have m0 := hx.m0
   have m1 := hx.m1
   have HG := Lib.hid hx.gr
   have HI := Lib.hid hx.ir
   clear hE2 hcl a0 a1 d0 d1 hka hkla hva hta hkIa hkd hkld hvd htd hkId
   clear hop hE hB hx HBX HV g2 i2
   go_wp2_with (first
    | (refine wpList_load_row rfl 50 _ rfl (N + 1) rfl 50 _ (0,0) _ HG.out Try.underlying50 rfl (by kernel_rfl) ?_)
    | (refine wpList_load_row rfl 62 _ rfl (N + 2) rfl 62 _ (0,0) _ HI.out Try.underlying62 rfl (by kernel_rfl) ?_)
    | (go_at_call 89; refine HCL.out.mono ?_; rintro e w9 ⟨rfl,hb9⟩; have HB9 := Lib.hid (HBO.out _ _ hbc hb9); clear hb9))
   go_ret
   rw [HN.out]
   exact ⟨rfl,HB9.out⟩
  ·-- 8
   have ew : wD = false := by rw [← HWD.out,hop]; decide
   subst ew
   have ebR : bR = true := by simpa using hB
   have hav : isVar g.vs.length i.a = true := there_a (by rw [HBR.out]; exact ebR) (by rw [hop]; decide)
   have hbv : isVar g.vs.length i.b = true := there_b (by rw [HBR.out]; exact ebR) (by rw [hop]; decide)
   have hE : R = if i.op = 15 then callF m g.vs i else if i.op = 16 then unl (isVar g.c.ins.length i.to) 15 else if i.op = 17 then (if isVar g.c.ins.length i.to && isVar g.c.ins.length i.els then numsF g.vs [i.a] else 15) else if i.op = 18 then unl (tyAt g.vs i.a == g.ret) 7 else plainF m g.vs i := by
    rw [← HR.out]; unfold instrF; rw [if_neg HNR.out,if_neg (by rw [HTH.out,ebR]; simp)]
   have i0 := hx.i0
   rw [hop] at i0
   have g7 := hx.g7
   have g2 := hx.g2
   have i2 := hx.i2
   have i3 := hx.i3
   obtain ⟨ka,vba,voa,xa,hka,hkla,hva,hta,hca⟩ := HV.out i.a hav
   have HaC := Lib.hid hca
   obtain ⟨a0,a1⟩ := hca wc hbc
   clear hca
   have hkIa : (ka : Int) < (g.vs.length : Int) := by omega
   obtain ⟨kb,vbb,vob,xb,hkb,hklb,hvb,htb,hcb⟩ := HV.out i.b hbv
   have HbC := Lib.hid hcb
   obtain ⟨b0,b1⟩ := hcb wc hbc
   clear hcb
   have hkIb : (kb : Int) < (g.vs.length : Int) := by omega
   have hE2 : R = heapF m g.vs i i.b false := by rw [hE]; simp [hop,plainF]
   have HRR := Lib.hid hE2
   have hcl := rheap8_calls m g i wc (HJ.out wc hbc) hop hav hbv (HKN.out i.a hav)
   rw [← hE2,HGC.out] at hcl
   simp only [Mo.cells,gc,Ins.cells] at hcl
   have HCL := Lib.hid hcl
   have m0 := hx.m0
   have m1 := hx.m1
   have HG := Lib.hid hx.gr
   have HI := Lib.hid hx.ir
   clear hE2 hcl a0 a1 b0 b1 hka hkla hva hta hkIa hkb hklb hvb htb hkIb
   clear hop hE hB hx HBX HV g2 i2 i3
   go_wp2_with (first
    | (refine wpList_load_row rfl 50 _ rfl (N + 1) rfl 50 _ (0,0) _ HG.out Try.underlying50 rfl (by kernel_rfl) ?_)
    | (refine wpList_load_row rfl 62 _ rfl (N + 2) rfl 62 _ (0,0) _ HI.out Try.underlying62 rfl (by kernel_rfl) ?_)
    | (go_at_call 89; refine HCL.out.mono ?_; rintro e w9 ⟨rfl,hb9⟩; have HB9 := Lib.hid (HBO.out _ _ hbc hb9); clear hb9))
   go_ret
   rw [HN.out]
   exact ⟨rfl,HB9.out⟩
  ·-- 10
   have ew : wD = true := by rw [← HWD.out,hop]; decide
   subst ew
   have ebR : bR = true := (by simpa using hB : _ ∧ _).1
   have ebD : bD = true := (by simpa using hB : _ ∧ _).2
   have hdv : isVar g.vs.length i.d = true := by have := HBD.out; rw [ebD] at this; simpa [thereF] using this
   have hav : isVar g.vs.length i.a = true := there_a (by rw [HBR.out]; exact ebR) (by rw [hop]; decide)
   have hE : R = if i.op = 15 then callF m g.vs i else if i.op = 16 then unl (isVar g.c.ins.length i.to) 15 else if i.op = 17 then (if isVar g.c.ins.length i.to && isVar g.c.ins.length i.els then numsF g.vs [i.a] else 15) else if i.op = 18 then unl (tyAt g.vs i.a == g.ret) 7 else plainF m g.vs i := by
    rw [← HR.out]; unfold instrF; rw [if_neg HNR.out,if_neg (by rw [HTH.out,ebR,ebD]; simp)]
   have i0 := hx.i0
   rw [hop] at i0
   have g7 := hx.g7
   have g2 := hx.g2
   have i2 := hx.i2
   obtain ⟨ka,vba,voa,xa,hka,hkla,hva,hta,hca⟩ := HV.out i.a hav
   have HaC := Lib.hid hca
   obtain ⟨a0,a1⟩ := hca wc hbc
   clear hca
   have hkIa : (ka : Int) < (g.vs.length : Int) := by omega
   obtain ⟨kd,vbd,vod,xd,hkd,hkld,hvd,htd,hcd⟩ := HV.out i.d hdv
   have HdC := Lib.hid hcd
   obtain ⟨d0,d1⟩ := hcd wc hbc
   clear hcd
   have hkId : (kd : Int) < (g.vs.length : Int) := by omega
   have hE2 : R = heapF m g.vs i i.d true := by rw [hE]; simp [hop,plainF]
   have HRR := Lib.hid hE2
   have hcl := rheap10_calls m g i wc (HJ.out wc hbc) hop hav hdv (HKN.out i.a hav)
   rw [← hE2,HGC.out] at hcl
   simp only [Mo.cells,gc,Ins.cells] at hcl
   have HCL := Lib.hid hcl
   have m0 := hx.m0
   have m1 := hx.m1
   have HG := Lib.hid hx.gr
   have HI := Lib.hid hx.ir
   clear hE2 hcl a0 a1 d0 d1 hka hkla hva hta hkIa hkd hkld hvd htd hkId
   clear hop hE hB hx HBX HV g2 i2
   go_wp2_with (first
    | (refine wpList_load_row rfl 50 _ rfl (N + 1) rfl 50 _ (0,0) _ HG.out Try.underlying50 rfl (by kernel_rfl) ?_)
    | (refine wpList_load_row rfl 62 _ rfl (N + 2) rfl 62 _ (0,0) _ HI.out Try.underlying62 rfl (by kernel_rfl) ?_)
    | (go_at_call 89; refine HCL.out.mono ?_; rintro e w9 ⟨rfl,hb9⟩; have HB9 := Lib.hid (HBO.out _ _ hbc hb9); clear hb9))
   go_ret
   rw [HN.out]
   exact ⟨rfl,HB9.out⟩
  ·-- 11
   have ew : wD = false := by rw [← HWD.out,hop]; decide
   subst ew
   have ebR : bR = true := by simpa using hB
   have hav : isVar g.vs.length i.a = true := there_a (by rw [HBR.out]; exact ebR) (by rw [hop]; decide)
   have hbv : isVar g.vs.length i.b = true := there_b (by rw [HBR.out]; exact ebR) (by rw [hop]; decide)
   have hE : R = if i.op = 15 then callF m g.vs i else if i.op = 16 then unl (isVar g.c.ins.length i.to) 15 else if i.op = 17 then (if isVar g.c.ins.length i.to && isVar g.c.ins.length i.els then numsF g.vs [i.a] else 15) else if i.op = 18 then unl (tyAt g.vs i.a == g.ret) 7 else plainF m g.vs i := by
    rw [← HR.out]; unfold instrF; rw [if_neg HNR.out,if_neg (by rw [HTH.out,ebR]; simp)]
   have i0 := hx.i0
   rw [hop] at i0
   have g7 := hx.g7
   have g2 := hx.g2
   have i2 := hx.i2
   have i3 := hx.i3
   obtain ⟨ka,vba,voa,xa,hka,hkla,hva,hta,hca⟩ := HV.out i.a hav
   have HaC := Lib.hid hca
   obtain ⟨a0,a1⟩ := hca wc hbc
   clear hca
   have hkIa : (ka : Int) < (g.vs.length : Int) := by omega
   obtain ⟨kb,vbb,vob,xb,hkb,hklb,hvb,htb,hcb⟩ := HV.out i.b hbv
   have HbC := Lib.hid hcb
   obtain ⟨b0,b1⟩ := hcb wc hbc
   clear hcb
   have hkIb : (kb : Int) < (g.vs.length : Int) := by omega
   have hE2 : R = heapF m g.vs i i.b true := by rw [hE]; simp [hop,plainF]
   have HRR := Lib.hid hE2
   have hcl := rheap11_calls m g i wc (HJ.out wc hbc) hop hav hbv (HKN.out i.a hav)
   rw [← hE2,HGC.out] at hcl
   simp only [Mo.cells,gc,Ins.cells] at hcl
   have HCL := Lib.hid hcl
   have m0 := hx.m0
   have m1 := hx.m1
   have HG := Lib.hid hx.gr
   have HI := Lib.hid hx.ir
   clear hE2 hcl a0 a1 b0 b1 hka hkla hva hta hkIa hkb hklb hvb htb hkIb
   clear hop hE hB hx HBX HV g2 i2 i3
   go_wp2_with (first
    | (refine wpList_load_row rfl 50 _ rfl (N + 1) rfl 50 _ (0,0) _ HG.out Try.underlying50 rfl (by kernel_rfl) ?_)
    | (refine wpList_load_row rfl 62 _ rfl (N + 2) rfl 62 _ (0,0) _ HI.out Try.underlying62 rfl (by kernel_rfl) ?_)
    | (go_at_call 89; refine HCL.out.mono ?_; rintro e w9 ⟨rfl,hb9⟩; have HB9 := Lib.hid (HBO.out _ _ hbc hb9); clear hb9))
   go_ret
   rw [HN.out]
   exact ⟨rfl,HB9.out⟩
end Go.Proofs.Ytlggjbopfnndbaa
namespace Go.Proofs.Ytlggjbopfnndbaa
open Go.RowKit
set_option maxRecDepth 100000 in
set_option maxHeartbeats 32000000 in
theorem rinstrF_calls (m : Mo) (g : Fn) (i : Ins) (w : World) (h : JIn w m g) (hi : i.args_in w) (hal : i.args.length ≤ 40) (hkn : ∀ v,isVar g.vs.length v = true → m.known (tyAt g.vs v) = true) (hop : i.op = 17) :
  Calls Try.prog 59 #[.agg m.cells,.agg g.cells,.agg i.cells] w fun e w' => e = .returned (.int .i64 (instrF m g i)) ∧ Below w.heap.size w w' := by
 obtain ⟨ao,hao⟩ : ∃ ao,g.c.varsA = ao := ⟨_,rfl⟩
 have hgc := gc_cells h.nv hao
 obtain ⟨N,hN⟩ : ∃ N,w.heap.size = N := ⟨_,rfl⟩
 obtain ⟨W1,hW1⟩ : ∃ W1,((w.alloc (.cells m.cells 25)).alloc (.cells g.cells 50)).alloc (.cells i.cells 62) = W1 := ⟨_,rfl⟩
 obtain ⟨hb1,hs1,r0,r1,r2⟩ := box3 hW1
 rw [hN] at hb1 hs1 r0 r1 r2
 rw [hgc] at r1
 have HBX : Hid (∀ W,Below (N + 3) W1 W → Bx m g i ao N W) := fun W hW => by
  have q0 := (hW.block N (by omega)).trans r0
  exact ⟨by rw [cell_of_row _ _ _ _ _ _ q0]; rfl,by rw [cell_of_row _ _ _ _ _ _ q0]; rfl,(hW.block (N + 1) (by omega)).trans r1,(hW.block (N + 2) (by omega)).trans r2⟩
 have HBN : Hid (∀ W,Below (N + 3) W1 W → Below N w W) := fun W hW => hb1.trans (hW.mono (by omega))
 have HJ : Hid (∀ W,Below (N + 3) W1 W → JIn W m g) := fun W hW => h.below (by rw [hN]; exact HBN.out W hW)
 have HAI : Hid (∀ W,Below (N + 3) W1 W → i.args_in W) := fun W hW => by
  obtain ⟨h1,ao,cap,h2,h3⟩ := hi
  exact ⟨h1,ao,cap,h2,RowOf.grow h3 (by rw [hN]; exact HBN.out W hW)⟩
 have hok := hi.1
 have HHS : Hid (∀ W ao' cap' (xs : List Int),xs.length ≤ 42 → IntsAt W ao' xs → Calls Try.prog 86 #[.agg #[.string g.c.nm,.int .i64 g.c.par,.slice ao g.vs.length g.c.varsC,.bool g.c.rp,.string g.c.rto,.int .i64 g.c.rcl,.slice g.c.fromA g.c.nfrom g.c.fromC,.slice g.c.insA g.c.ins.length g.c.insC],.slice ao' xs.length cap'] W fun e w' => e = .returned (.bool (thereF g.vs.length xs)) ∧ Below W.heap.size W w') := fun W ao' cap' xs hx hat => by
  have := rhas_calls g W ao' cap' xs h.nv (by unfold maxLen; omega) hat
  rw [hgc] at this; exact this
 have HWR : Hid (∀ W,Calls Try.prog 85 #[.agg #[.int .i64 i.op,.int .i64 i.d,.int .i64 i.a,.int .i64 i.b,.int .i64 i.f,.int .i64 i.n,.string i.sign,i.argsV,i.modeV,.int .i64 i.to,.int .i64 i.els,.int .i64 i.ln,.int .i64 i.cl]] W fun e w' => e = .returned (.tuple #[.int .i64 (writesOf i).1,.bool (writesOf i).2]) ∧ Below W.heap.size W w') := fun W => refWrites_calls i W hok
 have HRD : Hid (∀ W,Below (N + 3) W1 W → Calls Try.prog 87 #[.agg #[.int .i64 i.op,.int .i64 i.d,.int .i64 i.a,.int .i64 i.b,.int .i64 i.f,.int .i64 i.n,.string i.sign,i.argsV,i.modeV,.int .i64 i.to,.int .i64 i.els,.int .i64 i.ln,.int .i64 i.cl]] W (GivesI W (readsOf i))) := fun W hW => refReads_calls i W (HAI.out W hW) hal
 have HALQ := Lib.hid hal
 have HRL : Hid ((readsOf i).length ≤ 42) := by
  unfold Hid readsOf
  simp only [List.length_append]
  have : (if shA i.op = true then [i.a] else []).length ≤ 1 := by split <;> simp
  have : (if shB i.op = true then [i.b] else []).length ≤ 1 := by split <;> simp
  have : (if i.op = 15 then i.args else []).length ≤ 40 := by split <;> first | exact HALQ.out | simp
  omega
 have HALL := Lib.hid hal
 have HKN := Lib.hid hkn
 have HHJ := Lib.hid h
 have HHI := Lib.hid hi
 have HGC := Lib.hid hgc
 have HAO := Lib.hid hao
 rw [hgc] at hW1 ⊢
 simp only [Mo.cells,gc,Ins.cells] at hW1 ⊢
 have HW1 := Lib.hid hW1
 have HN := Lib.hid hN
 have HS1 := Lib.hid hs1
 obtain ⟨R,hR⟩ : ∃ R,instrF m g i = R := ⟨_,rfl⟩
 rw [hR]
 have HR := Lib.hid hR
 have hlo : ¬ i.op < 1 := by omega
 have hhi : ¬ 18 < i.op := by omega
 have o1 : decide (i.op < 1) = false := decide_eq_false hlo
 have o2 : decide (18 < i.op) = false := decide_eq_false hhi
 have hnr : ¬ (i.op < 1 ∨ 18 < i.op) := by omega
 obtain ⟨wD,hwD⟩ : ∃ b,shD i.op = b := ⟨_,rfl⟩
 obtain ⟨bD,hbD⟩ : ∃ b,thereF g.vs.length [i.d] = b := ⟨_,rfl⟩
 obtain ⟨bR,hbR⟩ : ∃ b,thereF g.vs.length (readsOf i) = b := ⟨_,rfl⟩
 have HBD := Lib.hid hbD
 have HBR := Lib.hid hbR
 have HWD := Lib.hid hwD
 have HWO : Hid (writesOf i = if wD = true then (i.d,true) else (0,false)) := by unfold Hid writesOf; rw [hwD]
 have HTH : Hid (thereF g.vs.length (readsOf i ++ (if shD i.op = true then [i.d] else [])) = (bR && (!wD || bD))) := by
  unfold Hid
  rw [thereF_append,hbR,hwD]
  cases wD with
  | true => rw [if_pos rfl,hbD]; rfl
  | false => rw [if_neg (by simp)]; simp [thereF]
 have HNR := Lib.hid hnr
 have hx1 := HBX.out W1 (Below.refl _ _)
 have HR2 := Lib.hid hx1.ir
 have HOP := Lib.hid hop
 clear h hi hal hkn hgc hao hok hW1 hb1 r0 r1 r2 hR hlo hhi hnr hwD hbD hbR hop
 have hs1' : W1.heap.size = N + 3 := hs1
 go_enter Try.func59,Try.ntmps59
 go_upto_region 1 with (fail)
 rw [HW1.out]
 clear HW1 hx1 hN
 go_upto_region 2 with (first
  | (refine wpList_load_row rfl 62 _ rfl (N + 2) rfl 62 _ (0,0) _ HR2.out Try.underlying62 rfl (by kernel_rfl) ?_)
  | (go_at_call 85; refine (HWR.out _).mono ?_; rintro e w2 ⟨rfl,hb2⟩; have HB2 := Lib.hid hb2; clear hb2))
 have hb2 : Below (N + 3) W1 w2 := by have := HB2.out; rwa [hs1'] at this
 have i0 := (HBX.out w2 hb2).i0
 have HB2' := Lib.hid hb2
 clear hb2 hs1' hs1 HB2
 rw [HWO.out]
 go_upto_region 4 with (fail)
 clear i0 o1 o2
 obtain ⟨S,hS⟩ : ∃ S : World → Prop,S = Below (N + 3) W1 := ⟨_,rfl⟩
 have HSB : Hid (∀ w',S w' ↔ Below (N + 3) W1 w') := fun w' => by rw [hS]
 have HSC : Hid (∀ w',S w' → ∀ j u,(#[.string g.c.nm,.int .i64 g.c.par,.slice ao g.vs.length g.c.varsC,.bool g.c.rp,.string g.c.rto,.int .i64 g.c.rcl,.slice g.c.fromA g.c.nfrom g.c.fromC,.slice g.c.insA g.c.ins.length g.c.insC] : Array Value).toList[j]? = some u → w'.cell? ((⟨N + 1,0,none⟩ : Addr).add j) = some u) := fun w' h => cells_at (HBX.out w' ((HSB.out w').1 h)).gr
 have HSI : Hid (∀ w',S w' → ∀ j u,(#[.int .i64 i.op,.int .i64 i.d,.int .i64 i.a,.int .i64 i.b,.int .i64 i.f,.int .i64 i.n,.string i.sign,i.argsV,i.modeV,.int .i64 i.to,.int .i64 i.els,.int .i64 i.ln,.int .i64 i.cl] : Array Value).toList[j]? = some u → w'.cell? ((⟨N + 1 + 1,0,none⟩ : Addr).add j) = some u) := fun w' h => cells_at (HBX.out w' ((HSB.out w').1 h)).ir
 have HSS : Hid (∀ w',S w' → True ∧ True) := fun _ _ => ⟨trivial,trivial⟩
 clear hS
 go_cut [7,37] from 23 to 37 (fun d b wc => d = .int .i64 (if wD = true then (i.d,true) else (0,false)).1 ∧ b = .bool (!(bR && (!wD || bD))) ∧ Below (N + 3) W1 wc)
 case first =>
  have hS0 : S w2.drew := (HSB.out _).2 HB2'.out.drew
  cases wD with
  | true =>
   simp only [if_true]
   refine wp_region_J 5 S (by kernel_rfl) ?_
   refine wpAnyJ_take (i := 0) rfl (by kernel_rfl) (by kernel_rfl) (by kernel_rfl) (by kernel_rfl) (fun _ _ _ h => h) (Or.inl ⟨by rfl,fun w hSw => by obtain ⟨s1,s2⟩ := HSS.out w hSw; go_simp; try rfl⟩) (by assumption) ?_
   try go_simp
   refine wpAnyJ_take (i := 1) rfl (by kernel_rfl) (by kernel_rfl) (by kernel_rfl) (by kernel_rfl) (fun _ _ _ h => h) (Or.inl ⟨by rfl,fun w hSw => by obtain ⟨s1,s2⟩ := HSS.out w hSw; go_simp; try rfl⟩) (by assumption) ?_
   try go_simp
   refine wpAnyJ_take (i := 2) rfl (by kernel_rfl) (by kernel_rfl) (by kernel_rfl) (by kernel_rfl) (fun _ _ _ h => h) (load_yields (by rfl) 50 _ rfl ⟨N + 1,0,none⟩ rfl _ _ HSC.out Try.underlying50 rfl (by kernel_rfl)) (by assumption) ?_
   try go_simp
   refine wpAnyJ_take (i := 3) rfl (by kernel_rfl) (by kernel_rfl) (by kernel_rfl) (by kernel_rfl) (fun _ _ _ h => h) (Or.inl ⟨by rfl,fun w hSw => by obtain ⟨s1,s2⟩ := HSS.out w hSw; go_simp; try rfl⟩) (by assumption) ?_
   try go_simp
   refine wpAnyJ_one (i := 4) (by kernel_rfl) (by decide) rfl fun K' hK => ?_
   rw [if_pos (by rfl)]
   go_simp
   have hS4 : ∀ c,S (w2.alloc c).drew := fun c => (HSB.out _).2 ((HB2'.out.alloc (by have := HB2'.out.size; rw [HS1.out] at this; exact this) _).drew)
   have hat4 : IntsAt (w2.alloc (.cells #[.int .i64 i.d] 3)).drew (some ⟨w2.heap.size,0,none⟩) [i.d] := IntsAt.one w2 i.d rfl
   refine hK _ _ (hS4 _) ?_
   clear hK
   try go_simp
   refine wpAnyJ_k (by kernel_rfl) rfl fun K' hK => ?_
   rw [if_pos (by rfl)]
   go_simp
   go_at_call 86
   refine (HHS.out _ (some ⟨w2.heap.size,0,none⟩) 1 [i.d] (by simp) hat4).mono ?_
   rintro e w5 ⟨rfl,hb5⟩
   have hS5 : S w5 := (HSB.out _).2 (((HSB.out _).1 (hS4 _)).trans (hb5.mono (by have := ((HSB.out _).1 (hS4 (.cells #[.int .i64 i.d] 3))).size; rw [HS1.out] at this; exact this)))
   rw [HBD.out]
   refine hK _ _ ?_
   clear hK hb5 hS4 hS0 hat4
   try go_simp
   cases bD with
   | false =>
    refine wpAny_end 6 rfl (by kernel_rfl) (by kernel_rfl) (· = w5) rfl ?_
    dsimp only [List.drop]
    repeat (go_big_quiet_step (fail))
    refine wpQuiet_nil ?_
    rintro _ rfl
    go_wp2
    go_meet
    case rel => exact ⟨rfl,by simp,(HSB.out _).1 hS5⟩
   | true =>
    refine wpAny_of_J (S := S) (k := 12) _ _ _ _ ?_
    refine wpAnyJ_take (i := 6) rfl (by kernel_rfl) (by kernel_rfl) (by kernel_rfl) (by kernel_rfl) (fun _ _ _ h => h) (Or.inl ⟨by rfl,fun w hSw => by obtain ⟨s1,s2⟩ := HSS.out w hSw; go_simp; try rfl⟩) (by assumption) ?_
    try go_simp
    refine wpAnyJ_take (i := 7) rfl (by kernel_rfl) (by kernel_rfl) (by kernel_rfl) (by kernel_rfl) (fun _ _ _ h => h) (Or.inl ⟨by rfl,fun w hSw => by obtain ⟨s1,s2⟩ := HSS.out w hSw; go_simp; try rfl⟩) (by assumption) ?_
    try go_simp
    refine wpAnyJ_take (i := 8) rfl (by kernel_rfl) (by kernel_rfl) (by kernel_rfl) (by kernel_rfl) (fun _ _ _ h => h) (Or.inl ⟨by rfl,fun w hSw => by obtain ⟨s1,s2⟩ := HSS.out w hSw; go_simp; try rfl⟩) (by assumption) ?_
    try go_simp
    refine wpAnyJ_take (i := 9) rfl (by kernel_rfl) (by kernel_rfl) (by kernel_rfl) (by kernel_rfl) (fun _ _ _ h => h) (load_yields (by rfl) 50 _ rfl ⟨N + 1,0,none⟩ rfl _ _ HSC.out Try.underlying50 rfl (by kernel_rfl)) (by assumption) ?_
    try go_simp
    refine wpAnyJ_take (i := 10) rfl (by kernel_rfl) (by kernel_rfl) (by kernel_rfl) (by kernel_rfl) (fun _ _ _ h => h) (load_yields (by rfl) 62 _ rfl ⟨N + 1 + 1,0,none⟩ rfl _ _ HSI.out Try.underlying62 rfl (by kernel_rfl)) (by assumption) ?_
    try go_simp
    refine wpAnyJ_one (i := 11) (by kernel_rfl) (by decide) rfl fun K' hK => ?_
    rw [if_pos (by rfl)]
    go_simp
    go_at_call 87
    refine (HRD.out _ ((HSB.out _).1 (by assumption))).mono ?_
    rintro e w7 ⟨ro,rc,rfl,hro,hb7⟩
    have hS7 : S w7 := (HSB.out _).2 (((HSB.out _).1 (by assumption)).trans (hb7.mono (by have := ((HSB.out _).1 (by assumption)).size; rw [HS1.out] at this; exact this)))
    have hat7 := hro.at_
    refine hK _ _ hS7 ?_
    clear hK hro hb7
    try go_simp
    refine wpAnyJ_k (by kernel_rfl) rfl fun K' hK => ?_
    rw [if_pos (by rfl)]
    go_simp
    go_at_call 86
    refine (HHS.out _ _ _ _ HRL.out hat7).mono ?_
    rintro e w8 ⟨rfl,hb8⟩
    have hS8 := ((HSB.out _).1 hS7).trans (hb8.mono (by have := ((HSB.out _).1 hS7).size; rw [HS1.out] at this; exact this))
    rw [HBR.out]
    refine hK _ _ ?_
    clear hK hat7 hb8
    try go_simp
    refine wpAny_end 13 rfl (by kernel_rfl) (by kernel_rfl) (· = w8) rfl ?_
    dsimp only [List.drop]
    repeat (go_big_quiet_step (fail))
    refine wpQuiet_nil ?_
    rintro _ rfl
    go_wp2
    go_meet
    case rel => exact ⟨rfl,by simp,hS8⟩
  | false =>
    simp only [Bool.false_eq_true,if_false]
    refine wp_region_J 12 S (by kernel_rfl) ?_
    refine wpAnyJ_take (i := 0) rfl (by kernel_rfl) (by kernel_rfl) (by kernel_rfl) (by kernel_rfl) (fun _ _ _ h => h) (Or.inl ⟨by rfl,fun w hSw => by obtain ⟨s1,s2⟩ := HSS.out w hSw; go_simp; try rfl⟩) (by assumption) ?_
    try go_simp
    refine wpAnyJ_take (i := 1) rfl (by kernel_rfl) (by kernel_rfl) (by kernel_rfl) (by kernel_rfl) (fun _ _ _ h => h) (Or.inl ⟨by rfl,fun w hSw => by obtain ⟨s1,s2⟩ := HSS.out w hSw; go_simp; try rfl⟩) (by assumption) ?_
    try go_simp
    refine wpAnyJ_take (i := 2) rfl (by kernel_rfl) (by kernel_rfl) (by kernel_rfl) (by kernel_rfl) (fun _ _ _ h => h) (Or.inr ⟨by rfl,rfl⟩) (by assumption) ?_
    try go_simp
    refine wpAnyJ_take (i := 3) rfl (by kernel_rfl) (by kernel_rfl) (by kernel_rfl) (by kernel_rfl) (fun _ _ _ h => h) (Or.inr ⟨by rfl,rfl⟩) (by assumption) ?_
    try go_simp
    refine wpAnyJ_take (i := 4) rfl (by kernel_rfl) (by kernel_rfl) (by kernel_rfl) (by kernel_rfl) (fun _ _ _ h => h) (Or.inr ⟨by rfl,rfl⟩) (by assumption) ?_
    try go_simp
    refine wpAnyJ_take (i := 5) rfl (by kernel_rfl) (by kernel_rfl) (by kernel_rfl) (by kernel_rfl) (fun _ _ _ h => h) (Or.inr ⟨by rfl,rfl⟩) (by assumption) ?_
    try go_simp
    refine wpAnyJ_take (i := 6) rfl (by kernel_rfl) (by kernel_rfl) (by kernel_rfl) (by kernel_rfl) (fun _ _ _ h => h) (Or.inr ⟨by rfl,rfl⟩) (by assumption) ?_
    try go_simp
    refine wpAnyJ_take (i := 7) rfl (by kernel_rfl) (by kernel_rfl) (by kernel_rfl) (by kernel_rfl) (fun _ _ _ h => h) (Or.inl ⟨by rfl,fun w hSw => by obtain ⟨s1,s2⟩ := HSS.out w hSw; go_simp; try rfl⟩) (by assumption) ?_
    try go_simp
    refine wpAnyJ_take (i := 8) rfl (by kernel_rfl) (by kernel_rfl) (by kernel_rfl) (by kernel_rfl) (fun _ _ _ h => h) (Or.inl ⟨by rfl,fun w hSw => by obtain ⟨s1,s2⟩ := HSS.out w hSw; go_simp; try rfl⟩) (by assumption) ?_
    try go_simp
    refine wpAnyJ_take (i := 9) rfl (by kernel_rfl) (by kernel_rfl) (by kernel_rfl) (by kernel_rfl) (fun _ _ _ h => h) (load_yields (by rfl) 50 _ rfl ⟨N + 1,0,none⟩ rfl _ _ HSC.out Try.underlying50 rfl (by kernel_rfl)) (by assumption) ?_
    try go_simp
    refine wpAnyJ_take (i := 10) rfl (by kernel_rfl) (by kernel_rfl) (by kernel_rfl) (by kernel_rfl) (fun _ _ _ h => h) (load_yields (by rfl) 62 _ rfl ⟨N + 1 + 1,0,none⟩ rfl _ _ HSI.out Try.underlying62 rfl (by kernel_rfl)) (by assumption) ?_
    try go_simp
    refine wpAnyJ_one (i := 11) (by kernel_rfl) (by decide) rfl fun K' hK => ?_
    rw [if_pos (by rfl)]
    go_simp
    go_at_call 87
    refine (HRD.out _ ((HSB.out _).1 (by assumption))).mono ?_
    rintro e w7 ⟨ro,rc,rfl,hro,hb7⟩
    have hS7 : S w7 := (HSB.out _).2 (((HSB.out _).1 (by assumption)).trans (hb7.mono (by have := ((HSB.out _).1 (by assumption)).size; rw [HS1.out] at this; exact this)))
    have hat7 := hro.at_
    refine hK _ _ hS7 ?_
    clear hK hro hb7
    try go_simp
    refine wpAnyJ_k (by kernel_rfl) rfl fun K' hK => ?_
    rw [if_pos (by rfl)]
    go_simp
    go_at_call 86
    refine (HHS.out _ _ _ _ HRL.out hat7).mono ?_
    rintro e w8 ⟨rfl,hb8⟩
    have hS8 := ((HSB.out _).1 hS7).trans (hb8.mono (by have := ((HSB.out _).1 hS7).size; rw [HS1.out] at this; exact this))
    rw [HBR.out]
    refine hK _ _ ?_
    clear hK hat7 hb8
    try go_simp
    refine wpAny_end 13 rfl (by kernel_rfl) (by kernel_rfl) (· = w8) rfl ?_
    dsimp only [List.drop]
    repeat (go_big_quiet_step (fail))
    refine wpQuiet_nil ?_
    rintro _ rfl
    go_wp2
    go_meet
    case rel => exact ⟨rfl,by simp,hS8⟩
 case rest =>
  obtain ⟨rfl,rfl,hbc⟩ := hcut
  have HBF := Lib.hid (HBN.out wc hbc)
  have hx := HBX.out wc hbc
  have HV : Hid (∀ v,isVar g.vs.length v = true → ∃ (k b off : Nat) (x : Vr),v = (k : Int) ∧ k < g.vs.length ∧ ao = some ⟨b,off,none⟩ ∧ tyAt g.vs v = (x.ptr,x.tgt) ∧ ∀ W,Below (N + 3) W1 W → W.cell? ⟨b,off + k * 3,none⟩ = some (.bool x.ptr) ∧ W.cell? ⟨b,off + k * 3 + 1,none⟩ = some (.string x.tgt)) := fun v hv => by
   obtain ⟨k,b,off,x,q1,q2,q3,q4,q5,q6,q7⟩ := var_at HHJ.out.vars hv
   refine ⟨k,b,off,x,q1,q2,by rw [← HAO.out]; exact q3,q5,fun W hW => ?_⟩
   have hbn := HBN.out W hW
   rw [HN.out] at q4
   exact ⟨by rw [hbn.cell (p := ⟨b,_,none⟩) (show b < N by omega)]; exact q6,by rw [hbn.cell (p := ⟨b,_,none⟩) (show b < N by omega)]; exact q7⟩
  have hvl := HHJ.out.vl
  unfold maxLen at hvl
  have HO : Hid (∀ W b f,Calls Try.prog 61 #[.bool b,.int .i64 f] W fun e w' => e = .returned (.int .i64 (unl (!b) f)) ∧ Below W.heap.size W w') := fun W b f => rone_calls b f W
  have HBO : Hid (∀ W W' : World,Below (N + 3) W1 W → Below W.heap.size W W' → Below N w W') := fun W W' h1 h2 => HBN.out W' (h1.trans (h2.mono (by have := h1.size; rw [HS1.out] at this; exact this)))
  obtain ⟨B,hB⟩ : ∃ B,(bR && (!wD || bD)) = B := ⟨_,rfl⟩
  rw [hB]
  cases B with
  | false =>
   have HRR : Hid (R = 15) := by unfold Hid; rw [← HR.out]; unfold instrF; rw [if_neg HNR.out,if_pos (by rw [HTH.out]; exact hB)]
   clear hx HV hB
   obtain ⟨wv,hwv⟩ : ∃ v : Int × Bool,(if wD = true then (i.d,true) else (0,false)) = v := ⟨_,rfl⟩
   rw [hwv,Bool.not_false]
   clear hwv HWO
   go_wp2
   go_ret
   rw [HRR.out,HN.out]
   exact ⟨rfl,HBF.out⟩
  | true =>
  rw [Bool.not_true]
  clear HSB HSC HSI HSS HB2' HWO HWR HR2
  have hop := HOP.out
  ·-- 17
   have ew : wD = false := by rw [← HWD.out,hop]; decide
   subst ew
   have ebR : bR = true := by simpa using hB
   have hav : isVar g.vs.length i.a = true := there_a (by rw [HBR.out]; exact ebR) (by rw [hop]; decide)
   have hE : R = if i.op = 15 then callF m g.vs i else if i.op = 16 then unl (isVar g.c.ins.length i.to) 15 else if i.op = 17 then (if isVar g.c.ins.length i.to && isVar g.c.ins.length i.els then numsF g.vs [i.a] else 15) else if i.op = 18 then unl (tyAt g.vs i.a == g.ret) 7 else plainF m g.vs i := by
    rw [← HR.out]; unfold instrF; rw [if_neg HNR.out,if_neg (by rw [HTH.out,ebR]; simp)]
   have i0 := hx.i0
   rw [hop] at i0
   have g7 := hx.g7
   have g2 := hx.g2
   have i2 := hx.i2
   obtain ⟨ka,vba,voa,xa,hka,hkla,hva,hta,hca⟩ := HV.out i.a hav
   have HaC := Lib.hid hca
   obtain ⟨a0,a1⟩ := hca wc hbc
   clear hca
   have hkIa : (ka : Int) < (g.vs.length : Int) := by omega
   subst hva
   rw [hka] at i2
   obtain ⟨pa,hpa⟩ : ∃ p,xa.ptr = p := ⟨_,rfl⟩
   rw [hpa] at a0 hta
   have i9 := hx.i9
   have i10 := hx.i10
   obtain ⟨n,hn⟩ : ∃ n,g.c.ins.length = n := ⟨_,rfl⟩
   obtain ⟨t,ht⟩ : ∃ t,i.to = t := ⟨_,rfl⟩
   obtain ⟨u,hu⟩ : ∃ t,i.els = t := ⟨_,rfl⟩
   rw [ht] at i9
   rw [hu] at i10
   rw [hn] at g7
   have HRR : Hid (R = if isVar n t && isVar n u then unl (!pa) 7 else 15) := by unfold Hid; rw [hE]; simp [hop,hn,ht,hu,numsF,hta]
   clear hop hE hB hx HBX HV
   by_cases t0 : t < 0
   ·have e0 : decide (t < 0) = true := decide_eq_true t0
    have HRQ : Hid (R = 15) := by unfold Hid; rw [HRR.out,if_neg (by unfold isVar; simp; omega)]
    clear HRR
    go_wp2
    go_ret
    rw [HRQ.out,HN.out]
    exact ⟨rfl,HBF.out⟩
   have e0 : decide (t < 0) = false := decide_eq_false t0
   by_cases t1 : (n : Int) ≤ t
   ·have e1 : decide ((n : Int) ≤ t) = true := decide_eq_true t1
    have HRQ : Hid (R = 15) := by unfold Hid; rw [HRR.out,if_neg (by unfold isVar; simp; omega)]
    clear HRR
    go_wp2
    go_ret
    rw [HRQ.out,HN.out]
    exact ⟨rfl,HBF.out⟩
   have e1 : decide ((n : Int) ≤ t) = false := decide_eq_false t1
   by_cases u0 : u < 0
   ·have e2 : decide (u < 0) = true := decide_eq_true u0
    have HRQ : Hid (R = 15) := by unfold Hid; rw [HRR.out,if_neg (by unfold isVar; simp; omega)]
    clear HRR
    go_wp2
    go_ret
    rw [HRQ.out,HN.out]
    exact ⟨rfl,HBF.out⟩
   have e2 : decide (u < 0) = false := decide_eq_false u0
   by_cases u1 : (n : Int) ≤ u
   ·have e3 : decide ((n : Int) ≤ u) = true := decide_eq_true u1
    have HRQ : Hid (R = 15) := by unfold Hid; rw [HRR.out,if_neg (by unfold isVar; simp; omega)]
    clear HRR
    go_wp2
    go_ret
    rw [HRQ.out,HN.out]
    exact ⟨rfl,HBF.out⟩
   have e3 : decide ((n : Int) ≤ u) = false := decide_eq_false u1
   have HRQ : Hid (R = unl (!pa) 7) := by unfold Hid; rw [HRR.out,if_pos (by rw [isVar_iff.2 ⟨by omega,by omega⟩,isVar_iff.2 ⟨by omega,by omega⟩]; rfl)]
   clear HRR
   go_wp2_with (go_at_call 61; refine (HO.out _ _ _).mono ?_; rintro e w9 ⟨rfl,hb9⟩; have HB9 := Lib.hid (HBO.out _ _ hbc hb9); clear hb9)
   go_ret
   rw [HRQ.out,HN.out]
   exact ⟨rfl,HB9.out⟩
end Go.Proofs.Ytlggjbopfnndbaa
