/- ir.Right's judge of plain Ops: IsNull. -/
import Derived.Test.YtlggjbopfnndbaaG11
namespace Go.Proofs.Ytlggjbopfnndbaa
open Go.RowKit
set_option maxRecDepth 100000 in
set_option maxHeartbeats 4000000 in
theorem plain_14 (m : Mo) (g : Fn) (i : Ins) (w : World) (hop : i.op = 14) (h : PlainIn w m g i) :
  Calls Try.prog 126 #[.agg (jg m g),.agg i.cells] w fun e w' => e = .returned (.int .i64 (plainF m g.vs i)) ∧ Below w.heap.size w w' := by
 have HE : Hid (plainF m g.vs i = signedF (unl (!(tyAt g.vs i.d).1 && (tyAt g.vs i.a).1) 7) i.sign signsN) := by
  unfold Hid plainF; rw [hop]; rfl
 obtain ⟨R,hR⟩ : ∃ R,plainF m g.vs i = R := ⟨_,rfl⟩
 rw [hR] at HE ⊢
 clear hR
 have HN0 := Lib.hid h
 have HT : Hid (∀ W v,Below w.heap.size w W → isVar g.vs.length v = true → Calls Try.prog 125 #[.agg (jg m g),.int .i64 v] W fun e w' => e = .returned (tyV (tyAt g.vs v)) ∧ Below W.heap.size W w') := fun W v hW hv => typ_calls m g v W (h.j.below hW).vars h.j.nv h.j.vl hv
 have HD : Hid (shD 14 = true → isVar g.vs.length i.d = true) := by have := h.d; rw [hop] at this; exact this
 have HA : Hid (shA 14 = true → isVar g.vs.length i.a = true) := by have := h.a; rw [hop] at this; exact this
 have HB : Hid (shB 14 = true → isVar g.vs.length i.b = true) := by have := h.b; rw [hop] at this; exact this
 clear h
 obtain ⟨N,hN⟩ : ∃ N,w.heap.size = N := ⟨_,rfl⟩
 obtain ⟨W1,hW1⟩ : ∃ W1,(w.alloc (.cells (jg m g) 113)).alloc (.cells i.cells 62) = W1 := ⟨_,rfl⟩
 have hb1 : Below N w W1 := by rw [← hW1,← hN]; exact ((Below.refl _ _).alloc (Nat.le_refl _) _).alloc (by simp) _
 have hs1 : W1.heap.size = N + 2 := by rw [← hW1]; simp [hN]
 have hr1 : W1.heap[N]? = some (.cells (jg m g) 113 (0,0)) := by rw [← hW1,← hN]; exact heap_alloc2_old _ _ _
 have hr2 : W1.heap[N + 1]? = some (.cells i.cells 62 (0,0)) := by rw [← hW1,← hN]; exact heap_alloc2_new _ _ _
 have i0 : W1.cell? ⟨N + 1,0,none⟩ = some (.int .i64 14) := by rw [cell_of_row _ _ _ _ _ _ hr2,← hop]; rfl
 have i1 : W1.cell? ⟨N + 1,1,none⟩ = some (.int .i64 i.d) := by rw [cell_of_row _ _ _ _ _ _ hr2]; rfl
 have i2 : W1.cell? ⟨N + 1,2,none⟩ = some (.int .i64 i.a) := by rw [cell_of_row _ _ _ _ _ _ hr2]; rfl
 have i3 : W1.cell? ⟨N + 1,3,none⟩ = some (.int .i64 i.b) := by rw [cell_of_row _ _ _ _ _ _ hr2]; rfl
 have i4 : W1.cell? ⟨N + 1,4,none⟩ = some (.int .i64 i.f) := by rw [cell_of_row _ _ _ _ _ _ hr2]; rfl
 have i6 : W1.cell? ⟨N + 1,6,none⟩ = some (.string i.sign) := by rw [cell_of_row _ _ _ _ _ _ hr2]; rfl
 have HB1 := Lib.hid hb1
 have HR1 := Lib.hid hr1
 have HR2 := Lib.hid hr2
 have HN := Lib.hid hN
 have HS1 := Lib.hid hs1
 have hNlt : N + 1 < W1.heap.size := by omega
 clear hb1 hr1 hr2 hop
 obtain ⟨⟨ba,sa⟩,hta⟩ : ∃ t,tyAt g.vs i.a = t := ⟨_,rfl⟩
 obtain ⟨⟨bd,sd⟩,htd⟩ : ∃ t,tyAt g.vs i.d = t := ⟨_,rfl⟩
 have hta1 : (tyAt g.vs i.a).1 = ba := by rw [hta]
 have hta2 : (tyAt g.vs i.a).2 = sa := by rw [hta]
 have htd1 : (tyAt g.vs i.d).1 = bd := by rw [htd]
 have htd2 : (tyAt g.vs i.d).2 = sd := by rw [htd]
 have HV : Hid (∀ v,v = i.a ∨ v = i.d → isVar g.vs.length v = true) := fun v h => by rcases h with rfl | rfl; exact HA.out rfl; exact HD.out rfl
 have HTX : Hid (∀ (W : World) (v : Int),Below W1.heap.size W1 W → isVar g.vs.length v = true → Calls Try.prog 125 #[.agg #[.slice m.sA m.ss.length m.sC,.slice m.fA m.fs.length m.fC,.string g.c.nm,.int .i64 g.c.par,.slice g.c.varsA g.c.nvars g.c.varsC,.bool g.c.rp,.string g.c.rto,.int .i64 g.c.rcl,.slice g.c.fromA g.c.nfrom g.c.fromC,.slice g.c.insA g.c.ins.length g.c.insC],.int .i64 v] W fun e w' => e = .returned (.agg #[.bool (tyAt g.vs v).1,.string (tyAt g.vs v).2]) ∧ Below W1.heap.size W1 w' ∧ Below W.heap.size W w') := by
  intro W v hW hv
  refine (HT.out W v (by rw [HN.out]; exact HB1.out.trans (hW.mono (by omega))) hv).mono ?_
  rintro e w' ⟨rfl,hb⟩
  exact ⟨rfl,hW.trans (hb.mono hW.size),hb⟩
 have HRR : Hid (R = signedF (unl (!bd && ba) 7) i.sign signsN) := by unfold Hid; rw [HE.out,hta,htd]
 have HSC : Hid (∀ (W : World) (blk : Nat),StrsAt W (some ⟨blk,0,none⟩) signsN → Calls Try.prog 136 #[.int .i64 (unl (!bd && ba) 7),.string i.sign,.slice (some ⟨blk,0,none⟩) 2 2] W fun e w' => e = .returned (.int .i64 R) ∧ W = w') := by
  intro W blk hat
  rw [HRR.out]
  exact signed_calls _ i.sign signsN (some ⟨blk,0,none⟩) 2 W (by unfold maxLen signsN; simp) hat
 have HJP : Hid (∀ W,Below W1.heap.size W1 W → JgAt W N m g) := fun W hW => JgAt.of ((hW.block N (by omega)).trans HR1.out)
 have HKP : Hid (∀ W,Below W1.heap.size W1 W → W.cell? ⟨N,0,none⟩ = some (.slice m.sA m.ss.length m.sC) ∧ W.cell? ⟨N,1,none⟩ = some (.slice m.fA m.fs.length m.fC) ∧ W.cell? ⟨N,2,none⟩ = some (.string g.c.nm) ∧ W.cell? ⟨N,3,none⟩ = some (.int .i64 g.c.par) ∧ W.cell? ⟨N,4,none⟩ = some (.slice g.c.varsA g.c.nvars g.c.varsC) ∧ W.cell? ⟨N,5,none⟩ = some (.bool g.c.rp) ∧ W.cell? ⟨N,6,none⟩ = some (.string g.c.rto) ∧ W.cell? ⟨N,7,none⟩ = some (.int .i64 g.c.rcl) ∧ W.cell? ⟨N,8,none⟩ = some (.slice g.c.fromA g.c.nfrom g.c.fromC) ∧ W.cell? ⟨N,9,none⟩ = some (.slice g.c.insA g.c.ins.length g.c.insC) ∧ W.cell? ⟨N + 1,1,none⟩ = some (.int .i64 i.d) ∧ W.cell? ⟨N + 1,2,none⟩ = some (.int .i64 i.a) ∧ W.cell? ⟨N + 1,6,none⟩ = some (.string i.sign) ∧ Below W1.heap.size W1 W) := fun W hW => by
  obtain ⟨a0,a1,a2,a3,a4,a5,a6,a7,a8,a9⟩ := HJP.out W hW
  exact ⟨a0,a1,a2,a3,a4,a5,a6,a7,a8,a9,by rw [hW.cell (p := ⟨N + 1,1,none⟩) hNlt]; exact i1,by rw [hW.cell (p := ⟨N + 1,2,none⟩) hNlt]; exact i2,by rw [hW.cell (p := ⟨N + 1,6,none⟩) hNlt]; exact i6,hW⟩
 have HST : Hid (∀ (W : World) (B : Nat),B = W.heap.size → StrsAt (W.alloc (.cells #[.string ⟨#[61,61]⟩,.string ⟨#[33,61]⟩] 9)) (some ⟨B,0,none⟩) signsN) := fun W B hB => strsAt_new hB
 have hfld := field_typ
 clear HE HD HA HB HT HN0 hta htd HJP HRR
 cases bd with
 | false =>
  go_enter Try.func126,Try.ntmps126
  go_wp2_with (refine wpList_load_row rfl 113 _ rfl N rfl 113 (jg m g) (0,0) _ HR1.out Try.underlying113 rfl (by kernel_rfl) ?_)
  go_region_held3 (fun w' => w'.cell? ⟨N,0,none⟩ = some (.slice m.sA m.ss.length m.sC) ∧ w'.cell? ⟨N,1,none⟩ = some (.slice m.fA m.fs.length m.fC) ∧ w'.cell? ⟨N,2,none⟩ = some (.string g.c.nm) ∧ w'.cell? ⟨N,3,none⟩ = some (.int .i64 g.c.par) ∧ w'.cell? ⟨N,4,none⟩ = some (.slice g.c.varsA g.c.nvars g.c.varsC) ∧ w'.cell? ⟨N,5,none⟩ = some (.bool g.c.rp) ∧ w'.cell? ⟨N,6,none⟩ = some (.string g.c.rto) ∧ w'.cell? ⟨N,7,none⟩ = some (.int .i64 g.c.rcl) ∧ w'.cell? ⟨N,8,none⟩ = some (.slice g.c.fromA g.c.nfrom g.c.fromC) ∧ w'.cell? ⟨N,9,none⟩ = some (.slice g.c.insA g.c.ins.length g.c.insC) ∧ w'.cell? ⟨N + 1,1,none⟩ = some (.int .i64 i.d) ∧ w'.cell? ⟨N + 1,2,none⟩ = some (.int .i64 i.a) ∧ w'.cell? ⟨N + 1,6,none⟩ = some (.string i.sign) ∧ Below W1.heap.size W1 w')
   (first
    | (exact hS)
    | (exact HKP.out _ (by first | exact (Below.refl _ _).drew | exact ((Below.refl _ _).drew).alloc (by simp) _ | exact hbb | exact hbb.alloc (by have := hbb.size; omega) _ | fail))
    | fail)
   (first
    | (go_at_call 125; refine (HTX.out _ _ (by first | exact (Below.refl _ _).drew | exact ((Below.refl _ _).drew).alloc (by simp) _ | exact hbb | exact hbb.alloc (by have := hbb.size; omega) _ | fail) (HV.out _ (by first | exact .inl rfl | exact .inr rfl))).mono ?_; rintro e w11 ⟨rfl,hbb,hb11⟩; have hS := HKP.out _ hbb)
    | (go_at_call 81; refine (unless_calls _ _ _).mono ?_; rintro e w12 ⟨rfl,rfl⟩)
    | (go_at_call 136; refine (HSC.out _ _ (by first | exact HST.out _ _ rfl | (refine StrsAt.below ?_ hb11; exact HST.out _ _ rfl) | (refine StrsAt.below ?_ hb11; refine StrsAt.below ?_ ((Below.refl _ _).drew); exact HST.out _ _ (by first | omega | (simp <;> omega))) | (refine StrsAt.below ?_ hb11; refine StrsAt.below ?_ (by assumption); refine StrsAt.below ?_ ((Below.refl _ _).drew); exact HST.out _ _ (by first | omega | (simp <;> omega))) | fail)).mono ?_; rintro e w12 ⟨rfl,rfl⟩))
  all_goals
   clear hS
   go_wp2
   go_ret
   refine ⟨rfl,?_⟩
   rw [HN.out]
   exact HB1.out.trans (Below.mono (by first | exact hbb | exact hbb.alloc (by have := hbb.size; omega) _) (by omega))
 | true =>
  go_enter Try.func126,Try.ntmps126
  go_wp2_with (refine wpList_load_row rfl 113 _ rfl N rfl 113 (jg m g) (0,0) _ HR1.out Try.underlying113 rfl (by kernel_rfl) ?_)
  refine wp_region_held_drew (S := (fun w' => w'.cell? ⟨N,0,none⟩ = some (.slice m.sA m.ss.length m.sC) ∧ w'.cell? ⟨N,1,none⟩ = some (.slice m.fA m.fs.length m.fC) ∧ w'.cell? ⟨N,2,none⟩ = some (.string g.c.nm) ∧ w'.cell? ⟨N,3,none⟩ = some (.int .i64 g.c.par) ∧ w'.cell? ⟨N,4,none⟩ = some (.slice g.c.varsA g.c.nvars g.c.varsC) ∧ w'.cell? ⟨N,5,none⟩ = some (.bool g.c.rp) ∧ w'.cell? ⟨N,6,none⟩ = some (.string g.c.rto) ∧ w'.cell? ⟨N,7,none⟩ = some (.int .i64 g.c.rcl) ∧ w'.cell? ⟨N,8,none⟩ = some (.slice g.c.fromA g.c.nfrom g.c.fromC) ∧ w'.cell? ⟨N,9,none⟩ = some (.slice g.c.insA g.c.ins.length g.c.insC) ∧ w'.cell? ⟨N + 1,1,none⟩ = some (.int .i64 i.d) ∧ w'.cell? ⟨N + 1,2,none⟩ = some (.int .i64 i.a) ∧ w'.cell? ⟨N + 1,6,none⟩ = some (.string i.sign) ∧ Below W1.heap.size W1 w')) (by kernel_rfl) (HKP.out _ (Below.refl _ _).drew) (fun hHeld => ?_)
  refine wpAnyH_take (i := 0) (v := .agg #[.slice m.sA m.ss.length m.sC,.slice m.fA m.fs.length m.fC,.string g.c.nm,.int .i64 g.c.par,.slice g.c.varsA g.c.nvars g.c.varsC,.bool g.c.rp,.string g.c.rto,.int .i64 g.c.rcl,.slice g.c.fromA g.c.nfrom g.c.fromC,.slice g.c.insA g.c.ins.length g.c.insC]) rfl (by kernel_rfl) (by kernel_rfl) (by kernel_rfl) (fun _ _ _ h => h) (Or.inl ⟨by rfl,fun w hSw => by dsimp only at hSw; go_simp⟩) (by assumption) ?_
  try simp only [Act.put,List.getElem_toArray,List.getElem_cons_zero,List.setIfInBounds_toArray,List.set_cons_zero,List.set_cons_succ]
  refine wpAnyH_take (i := 1) (v := .pointer (some ⟨N + 1,1,none⟩)) rfl (by kernel_rfl) (by kernel_rfl) (by kernel_rfl) (fun _ _ _ h => h) (Or.inl ⟨by rfl,fun w hSw => by dsimp only at hSw; go_simp⟩) (by assumption) ?_
  try simp only [Act.put,List.getElem_toArray,List.getElem_cons_zero,List.getElem_cons_succ,List.setIfInBounds_toArray,List.set_cons_zero,List.set_cons_succ]
  refine wpAnyH_take (i := 2) (v := .int .i64 i.d) rfl (by kernel_rfl) (by kernel_rfl) (by kernel_rfl) (fun _ _ _ h => h) (Or.inl ⟨by rfl,fun w hSw => by dsimp only at hSw; go_simp⟩) (by assumption) ?_
  try simp only [Act.put,List.getElem_toArray,List.getElem_cons_zero,List.getElem_cons_succ,List.setIfInBounds_toArray,List.set_cons_zero,List.set_cons_succ]
  refine wpAnyH_take (i := 14) (v := .pointer (some ⟨N + 1,6,none⟩)) rfl (by kernel_rfl) (by kernel_rfl) (by kernel_rfl) (fun _ _ _ h => h) (Or.inl ⟨by rfl,fun w hSw => by dsimp only at hSw; go_simp⟩) (by assumption) ?_
  try simp only [Act.put,List.getElem_toArray,List.getElem_cons_zero,List.getElem_cons_succ,List.setIfInBounds_toArray,List.set_cons_zero,List.set_cons_succ]
  refine wpAnyH_take (i := 15) (v := .string i.sign) rfl (by kernel_rfl) (by kernel_rfl) (by kernel_rfl) (fun _ _ _ h => h) (Or.inl ⟨by rfl,fun w hSw => by dsimp only at hSw; go_simp⟩) (by assumption) ?_
  try simp only [Act.put,List.getElem_toArray,List.getElem_cons_zero,List.getElem_cons_succ,List.setIfInBounds_toArray,List.set_cons_zero,List.set_cons_succ]
  refine wpAnyH_ready (rs := [3,16]) (by kernel_rfl) (by simp) ?_
  refine AllReadyH.cons rfl (fun K hK => ?_) ?_
  ·
   go_simp
   (go_at_call 125; refine (HTX.out _ _ (by first | exact (Below.refl _ _).drew | exact ((Below.refl _ _).drew).alloc (by simp) _ | exact hbb | exact hbb.alloc (by have := hbb.size; omega) _ | fail) (HV.out _ (by first | exact .inl rfl | exact .inr rfl))).mono ?_; rintro e w11 ⟨rfl,hbb,hb11⟩; have hS := HKP.out _ hbb)
   go_wp2_with fail
   refine hK.out _ _ (by first | exact hS | exact HKP.out _ (by first | exact (Below.refl _ _).drew | exact ((Below.refl _ _).drew).alloc (by simp) _ | exact hbb | exact hbb.alloc (by have := hbb.size; omega) _ | fail) | fail) (fun hHeld => ?_)
   clear hK K
   try simp only [Act.put,List.getElem_toArray,List.getElem_cons_zero,List.getElem_cons_succ,List.setIfInBounds_toArray,List.set_cons_zero,List.set_cons_succ]
   refine wpAnyH_take (i := 4) (v := .bool true) rfl (by kernel_rfl) (by kernel_rfl) (by kernel_rfl) (fun _ _ _ h => h) (Or.inl ⟨by rfl,fun w hSw => by dsimp only at hSw; go_simp⟩) (by assumption) ?_
   try simp only [Act.put,List.getElem_toArray,List.getElem_cons_zero,List.getElem_cons_succ,List.setIfInBounds_toArray,List.set_cons_zero,List.set_cons_succ]
   refine wpAnyH_take (i := 5) (v := .bool false) rfl (by kernel_rfl) (by kernel_rfl) (by kernel_rfl) (fun _ _ _ h => h) (Or.inl ⟨by rfl,fun w hSw => by dsimp only at hSw; go_simp⟩) (by assumption) ?_
   try simp only [Act.put,List.getElem_toArray,List.getElem_cons_zero,List.getElem_cons_succ,List.setIfInBounds_toArray,List.set_cons_zero,List.set_cons_succ]
   refine wpAnyH_take (i := 6) (v := .bool false) rfl (by kernel_rfl) (by kernel_rfl) (by kernel_rfl) (fun _ _ _ h => h) (Or.inl ⟨by rfl,fun w hSw => by dsimp only at hSw; go_simp⟩) (by assumption) ?_
   try simp only [Act.put,List.getElem_toArray,List.getElem_cons_zero,List.getElem_cons_succ,List.setIfInBounds_toArray,List.set_cons_zero,List.set_cons_succ]
   refine wpAnyH_take (i := 7) (v := undef) rfl (by kernel_rfl) (by kernel_rfl) (by kernel_rfl) (fun _ _ _ h => h) (Or.inr ⟨by rfl,rfl⟩) (by assumption) ?_
   try simp only [Act.put,List.getElem_toArray,List.getElem_cons_zero,List.getElem_cons_succ,List.setIfInBounds_toArray,List.set_cons_zero,List.set_cons_succ]
   refine wpAnyH_take (i := 8) (v := undef) rfl (by kernel_rfl) (by kernel_rfl) (by kernel_rfl) (fun _ _ _ h => h) (Or.inr ⟨by rfl,rfl⟩) (by assumption) ?_
   try simp only [Act.put,List.getElem_toArray,List.getElem_cons_zero,List.getElem_cons_succ,List.setIfInBounds_toArray,List.set_cons_zero,List.set_cons_succ]
   refine wpAnyH_take (i := 9) (v := undef) rfl (by kernel_rfl) (by kernel_rfl) (by kernel_rfl) (fun _ _ _ h => h) (Or.inr ⟨by rfl,rfl⟩) (by assumption) ?_
   try simp only [Act.put,List.getElem_toArray,List.getElem_cons_zero,List.getElem_cons_succ,List.setIfInBounds_toArray,List.set_cons_zero,List.set_cons_succ]
   refine wpAnyH_take (i := 10) (v := undef) rfl (by kernel_rfl) (by kernel_rfl) (by kernel_rfl) (fun _ _ _ h => h) (Or.inr ⟨by rfl,rfl⟩) (by assumption) ?_
   try simp only [Act.put,List.getElem_toArray,List.getElem_cons_zero,List.getElem_cons_succ,List.setIfInBounds_toArray,List.set_cons_zero,List.set_cons_succ]
   refine wpAnyH_take (i := 11) (v := undef) rfl (by kernel_rfl) (by kernel_rfl) (by kernel_rfl) (fun _ _ _ h => h) (Or.inr ⟨by rfl,rfl⟩) (by assumption) ?_
   try simp only [Act.put,List.getElem_toArray,List.getElem_cons_zero,List.getElem_cons_succ,List.setIfInBounds_toArray,List.set_cons_zero,List.set_cons_succ]
   refine wpAnyH_take (i := 12) (v := .bool false) rfl (by kernel_rfl) (by kernel_rfl) (by kernel_rfl) (fun _ _ _ h => h) (Or.inl ⟨by rfl,fun w hSw => by dsimp only at hSw; go_simp⟩) (by assumption) ?_
   try simp only [Act.put,List.getElem_toArray,List.getElem_cons_zero,List.getElem_cons_succ,List.setIfInBounds_toArray,List.set_cons_zero,List.set_cons_succ]
   refine wpAnyH_ready (rs := [13,16]) (by kernel_rfl) (by simp) ?_
   refine AllReadyH.cons rfl (fun K hK => ?_) ?_
   ·
    go_simp
    (go_at_call 81; refine (unless_calls _ _ _).mono ?_; rintro e w12 ⟨rfl,rfl⟩)
    go_wp2_with fail
    refine hK.out _ _ (by first | exact hS | exact HKP.out _ (by first | exact (Below.refl _ _).drew | exact ((Below.refl _ _).drew).alloc (by simp) _ | exact hbb | exact hbb.alloc (by have := hbb.size; omega) _ | fail) | fail) (fun hHeld => ?_)
    clear hK K
    try simp only [Act.put,List.getElem_toArray,List.getElem_cons_zero,List.getElem_cons_succ,List.setIfInBounds_toArray,List.set_cons_zero,List.set_cons_succ]
    refine wpAnyH_ready (rs := [16]) (by kernel_rfl) (by simp) ?_
    refine AllReadyH.cons rfl (fun K hK => ?_) ?_
    ·
     go_simp
     refine hK.out _ _ (by first | exact hS | exact HKP.out _ (by first | exact (Below.refl _ _).drew | exact ((Below.refl _ _).drew).alloc (by simp) _ | exact hbb | exact hbb.alloc (by have := hbb.size; omega) _ | fail) | fail) (fun hHeld => ?_)
     clear hK K
     try simp only [Act.put,List.getElem_toArray,List.getElem_cons_zero,List.getElem_cons_succ,List.setIfInBounds_toArray,List.set_cons_zero,List.set_cons_succ]
     refine wpAnyH_ready (rs := [17]) (by kernel_rfl) (by simp) ?_
     refine AllReadyH.cons rfl (fun K hK => ?_) ?_
     ·
      go_simp
      (go_at_call 136; refine (HSC.out _ _ (by first | exact HST.out _ _ rfl | (refine StrsAt.below ?_ hb11; exact HST.out _ _ rfl) | (refine StrsAt.below ?_ hb11; refine StrsAt.below ?_ ((Below.refl _ _).drew); exact HST.out _ _ (by first | omega | (simp <;> omega))) | (refine StrsAt.below ?_ hb11; refine StrsAt.below ?_ (by assumption); refine StrsAt.below ?_ ((Below.refl _ _).drew); exact HST.out _ _ (by first | omega | (simp <;> omega))) | fail)).mono ?_; rintro e w12 ⟨rfl,rfl⟩)
      go_wp2_with fail
      refine hK.out _ _ (by first | exact hS | exact HKP.out _ (by first | exact (Below.refl _ _).drew | exact ((Below.refl _ _).drew).alloc (by simp) _ | exact hbb | exact hbb.alloc (by have := hbb.size; omega) _ | fail) | fail) (fun hHeld => ?_)
      clear hK K
      try simp only [Act.put,List.getElem_toArray,List.getElem_cons_zero,List.getElem_cons_succ,List.setIfInBounds_toArray,List.set_cons_zero,List.set_cons_succ]
      refine wpAnyH_take (i := 18) (v := .int .i64 R) rfl (by kernel_rfl) (by kernel_rfl) (by kernel_rfl) (fun _ _ _ h => h) (Or.inl ⟨by rfl,fun w hSw => by dsimp only at hSw; go_simp⟩) (by assumption) ?_
      try simp only [Act.put,List.getElem_toArray,List.getElem_cons_zero,List.getElem_cons_succ,List.setIfInBounds_toArray,List.set_cons_zero,List.set_cons_succ]
      refine wpAnyH_done (by kernel_rfl) ?_ _
      go_wp2
      go_ret
      refine ⟨rfl,?_⟩
      rw [HN.out]
      exact HB1.out.trans (Below.mono (by first | exact hbb | exact hbb.alloc (by have := hbb.size; omega) _) (by omega))
     exact AllReadyH.nil
    exact AllReadyH.nil
   refine AllReadyH.cons rfl (fun K hK => ?_) ?_
   ·
    go_simp
    refine hK.out _ _ (by first | exact hS | exact HKP.out _ (by first | exact (Below.refl _ _).drew | exact ((Below.refl _ _).drew).alloc (by simp) _ | exact hbb | exact hbb.alloc (by have := hbb.size; omega) _ | fail) | fail) (fun hHeld => ?_)
    clear hK K
    try simp only [Act.put,List.getElem_toArray,List.getElem_cons_zero,List.getElem_cons_succ,List.setIfInBounds_toArray,List.set_cons_zero,List.set_cons_succ]
    refine wpAnyH_ready (rs := [13]) (by kernel_rfl) (by simp) ?_
    refine AllReadyH.cons rfl (fun K hK => ?_) ?_
    ·
     go_simp
     (go_at_call 81; refine (unless_calls _ _ _).mono ?_; rintro e w12 ⟨rfl,rfl⟩)
     go_wp2_with fail
     refine hK.out _ _ (by first | exact hS | exact HKP.out _ (by first | exact (Below.refl _ _).drew | exact ((Below.refl _ _).drew).alloc (by simp) _ | exact hbb | exact hbb.alloc (by have := hbb.size; omega) _ | fail) | fail) (fun hHeld => ?_)
     clear hK K
     try simp only [Act.put,List.getElem_toArray,List.getElem_cons_zero,List.getElem_cons_succ,List.setIfInBounds_toArray,List.set_cons_zero,List.set_cons_succ]
     refine wpAnyH_ready (rs := [17]) (by kernel_rfl) (by simp) ?_
     refine AllReadyH.cons rfl (fun K hK => ?_) ?_
     ·
      go_simp
      (go_at_call 136; refine (HSC.out _ _ (by first | exact HST.out _ _ rfl | (refine StrsAt.below ?_ hb11; exact HST.out _ _ rfl) | (refine StrsAt.below ?_ hb11; refine StrsAt.below ?_ ((Below.refl _ _).drew); exact HST.out _ _ (by first | omega | (simp <;> omega))) | (refine StrsAt.below ?_ hb11; refine StrsAt.below ?_ (by assumption); refine StrsAt.below ?_ ((Below.refl _ _).drew); exact HST.out _ _ (by first | omega | (simp <;> omega))) | fail)).mono ?_; rintro e w12 ⟨rfl,rfl⟩)
      go_wp2_with fail
      refine hK.out _ _ (by first | exact hS | exact HKP.out _ (by first | exact (Below.refl _ _).drew | exact ((Below.refl _ _).drew).alloc (by simp) _ | exact hbb | exact hbb.alloc (by have := hbb.size; omega) _ | fail) | fail) (fun hHeld => ?_)
      clear hK K
      try simp only [Act.put,List.getElem_toArray,List.getElem_cons_zero,List.getElem_cons_succ,List.setIfInBounds_toArray,List.set_cons_zero,List.set_cons_succ]
      refine wpAnyH_take (i := 18) (v := .int .i64 R) rfl (by kernel_rfl) (by kernel_rfl) (by kernel_rfl) (fun _ _ _ h => h) (Or.inl ⟨by rfl,fun w hSw => by dsimp only at hSw; go_simp⟩) (by assumption) ?_
      try simp only [Act.put,List.getElem_toArray,List.getElem_cons_zero,List.getElem_cons_succ,List.setIfInBounds_toArray,List.set_cons_zero,List.set_cons_succ]
      refine wpAnyH_done (by kernel_rfl) ?_ _
      go_wp2
      go_ret
      refine ⟨rfl,?_⟩
      rw [HN.out]
      exact HB1.out.trans (Below.mono (by first | exact hbb | exact hbb.alloc (by have := hbb.size; omega) _) (by omega))
     exact AllReadyH.nil
    exact AllReadyH.nil
   exact AllReadyH.nil
  refine AllReadyH.cons rfl (fun K hK => ?_) ?_
  ·
   go_simp
   refine hK.out _ _ (by first | exact hS | exact HKP.out _ (by first | exact (Below.refl _ _).drew | exact ((Below.refl _ _).drew).alloc (by simp) _ | exact hbb | exact hbb.alloc (by have := hbb.size; omega) _ | fail) | fail) (fun hHeld => ?_)
   clear hK K
   try simp only [Act.put,List.getElem_toArray,List.getElem_cons_zero,List.getElem_cons_succ,List.setIfInBounds_toArray,List.set_cons_zero,List.set_cons_succ]
   refine wpAnyH_ready (rs := [3]) (by kernel_rfl) (by simp) ?_
   refine AllReadyH.cons rfl (fun K hK => ?_) ?_
   ·
    go_simp
    (go_at_call 125; refine (HTX.out _ _ (by first | exact (Below.refl _ _).drew | exact ((Below.refl _ _).drew).alloc (by simp) _ | exact hbb | exact hbb.alloc (by have := hbb.size; omega) _ | fail) (HV.out _ (by first | exact .inl rfl | exact .inr rfl))).mono ?_; rintro e w11 ⟨rfl,hbb,hb11⟩; have hS := HKP.out _ hbb)
    go_wp2_with fail
    refine hK.out _ _ (by first | exact hS | exact HKP.out _ (by first | exact (Below.refl _ _).drew | exact ((Below.refl _ _).drew).alloc (by simp) _ | exact hbb | exact hbb.alloc (by have := hbb.size; omega) _ | fail) | fail) (fun hHeld => ?_)
    clear hK K
    try simp only [Act.put,List.getElem_toArray,List.getElem_cons_zero,List.getElem_cons_succ,List.setIfInBounds_toArray,List.set_cons_zero,List.set_cons_succ]
    refine wpAnyH_take (i := 4) (v := .bool true) rfl (by kernel_rfl) (by kernel_rfl) (by kernel_rfl) (fun _ _ _ h => h) (Or.inl ⟨by rfl,fun w hSw => by dsimp only at hSw; go_simp⟩) (by assumption) ?_
    try simp only [Act.put,List.getElem_toArray,List.getElem_cons_zero,List.getElem_cons_succ,List.setIfInBounds_toArray,List.set_cons_zero,List.set_cons_succ]
    refine wpAnyH_take (i := 5) (v := .bool false) rfl (by kernel_rfl) (by kernel_rfl) (by kernel_rfl) (fun _ _ _ h => h) (Or.inl ⟨by rfl,fun w hSw => by dsimp only at hSw; go_simp⟩) (by assumption) ?_
    try simp only [Act.put,List.getElem_toArray,List.getElem_cons_zero,List.getElem_cons_succ,List.setIfInBounds_toArray,List.set_cons_zero,List.set_cons_succ]
    refine wpAnyH_take (i := 6) (v := .bool false) rfl (by kernel_rfl) (by kernel_rfl) (by kernel_rfl) (fun _ _ _ h => h) (Or.inl ⟨by rfl,fun w hSw => by dsimp only at hSw; go_simp⟩) (by assumption) ?_
    try simp only [Act.put,List.getElem_toArray,List.getElem_cons_zero,List.getElem_cons_succ,List.setIfInBounds_toArray,List.set_cons_zero,List.set_cons_succ]
    refine wpAnyH_take (i := 7) (v := undef) rfl (by kernel_rfl) (by kernel_rfl) (by kernel_rfl) (fun _ _ _ h => h) (Or.inr ⟨by rfl,rfl⟩) (by assumption) ?_
    try simp only [Act.put,List.getElem_toArray,List.getElem_cons_zero,List.getElem_cons_succ,List.setIfInBounds_toArray,List.set_cons_zero,List.set_cons_succ]
    refine wpAnyH_take (i := 8) (v := undef) rfl (by kernel_rfl) (by kernel_rfl) (by kernel_rfl) (fun _ _ _ h => h) (Or.inr ⟨by rfl,rfl⟩) (by assumption) ?_
    try simp only [Act.put,List.getElem_toArray,List.getElem_cons_zero,List.getElem_cons_succ,List.setIfInBounds_toArray,List.set_cons_zero,List.set_cons_succ]
    refine wpAnyH_take (i := 9) (v := undef) rfl (by kernel_rfl) (by kernel_rfl) (by kernel_rfl) (fun _ _ _ h => h) (Or.inr ⟨by rfl,rfl⟩) (by assumption) ?_
    try simp only [Act.put,List.getElem_toArray,List.getElem_cons_zero,List.getElem_cons_succ,List.setIfInBounds_toArray,List.set_cons_zero,List.set_cons_succ]
    refine wpAnyH_take (i := 10) (v := undef) rfl (by kernel_rfl) (by kernel_rfl) (by kernel_rfl) (fun _ _ _ h => h) (Or.inr ⟨by rfl,rfl⟩) (by assumption) ?_
    try simp only [Act.put,List.getElem_toArray,List.getElem_cons_zero,List.getElem_cons_succ,List.setIfInBounds_toArray,List.set_cons_zero,List.set_cons_succ]
    refine wpAnyH_take (i := 11) (v := undef) rfl (by kernel_rfl) (by kernel_rfl) (by kernel_rfl) (fun _ _ _ h => h) (Or.inr ⟨by rfl,rfl⟩) (by assumption) ?_
    try simp only [Act.put,List.getElem_toArray,List.getElem_cons_zero,List.getElem_cons_succ,List.setIfInBounds_toArray,List.set_cons_zero,List.set_cons_succ]
    refine wpAnyH_take (i := 12) (v := .bool false) rfl (by kernel_rfl) (by kernel_rfl) (by kernel_rfl) (fun _ _ _ h => h) (Or.inl ⟨by rfl,fun w hSw => by dsimp only at hSw; go_simp⟩) (by assumption) ?_
    try simp only [Act.put,List.getElem_toArray,List.getElem_cons_zero,List.getElem_cons_succ,List.setIfInBounds_toArray,List.set_cons_zero,List.set_cons_succ]
    refine wpAnyH_ready (rs := [13]) (by kernel_rfl) (by simp) ?_
    refine AllReadyH.cons rfl (fun K hK => ?_) ?_
    ·
     go_simp
     (go_at_call 81; refine (unless_calls _ _ _).mono ?_; rintro e w12 ⟨rfl,rfl⟩)
     go_wp2_with fail
     refine hK.out _ _ (by first | exact hS | exact HKP.out _ (by first | exact (Below.refl _ _).drew | exact ((Below.refl _ _).drew).alloc (by simp) _ | exact hbb | exact hbb.alloc (by have := hbb.size; omega) _ | fail) | fail) (fun hHeld => ?_)
     clear hK K
     try simp only [Act.put,List.getElem_toArray,List.getElem_cons_zero,List.getElem_cons_succ,List.setIfInBounds_toArray,List.set_cons_zero,List.set_cons_succ]
     refine wpAnyH_ready (rs := [17]) (by kernel_rfl) (by simp) ?_
     refine AllReadyH.cons rfl (fun K hK => ?_) ?_
     ·
      go_simp
      (go_at_call 136; refine (HSC.out _ _ (by first | exact HST.out _ _ rfl | (refine StrsAt.below ?_ hb11; exact HST.out _ _ rfl) | (refine StrsAt.below ?_ hb11; refine StrsAt.below ?_ ((Below.refl _ _).drew); exact HST.out _ _ (by first | omega | (simp <;> omega))) | (refine StrsAt.below ?_ hb11; refine StrsAt.below ?_ (by assumption); refine StrsAt.below ?_ ((Below.refl _ _).drew); exact HST.out _ _ (by first | omega | (simp <;> omega))) | fail)).mono ?_; rintro e w12 ⟨rfl,rfl⟩)
      go_wp2_with fail
      refine hK.out _ _ (by first | exact hS | exact HKP.out _ (by first | exact (Below.refl _ _).drew | exact ((Below.refl _ _).drew).alloc (by simp) _ | exact hbb | exact hbb.alloc (by have := hbb.size; omega) _ | fail) | fail) (fun hHeld => ?_)
      clear hK K
      try simp only [Act.put,List.getElem_toArray,List.getElem_cons_zero,List.getElem_cons_succ,List.setIfInBounds_toArray,List.set_cons_zero,List.set_cons_succ]
      refine wpAnyH_take (i := 18) (v := .int .i64 R) rfl (by kernel_rfl) (by kernel_rfl) (by kernel_rfl) (fun _ _ _ h => h) (Or.inl ⟨by rfl,fun w hSw => by dsimp only at hSw; go_simp⟩) (by assumption) ?_
      try simp only [Act.put,List.getElem_toArray,List.getElem_cons_zero,List.getElem_cons_succ,List.setIfInBounds_toArray,List.set_cons_zero,List.set_cons_succ]
      refine wpAnyH_done (by kernel_rfl) ?_ _
      go_wp2
      go_ret
      refine ⟨rfl,?_⟩
      rw [HN.out]
      exact HB1.out.trans (Below.mono (by first | exact hbb | exact hbb.alloc (by have := hbb.size; omega) _) (by omega))
     exact AllReadyH.nil
    exact AllReadyH.nil
   exact AllReadyH.nil
  exact AllReadyH.nil
end Go.Proofs.Ytlggjbopfnndbaa
