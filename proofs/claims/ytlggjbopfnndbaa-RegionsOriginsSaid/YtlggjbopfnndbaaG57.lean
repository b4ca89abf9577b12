import Derived.Test.YtlggjbopfnndbaaG56
import Derived.Test.YtlggjbopfnndbaaG30
import Derived.Test.YtlggjbopfnndbaaG25
import Derived.Test.YtlggjbopfnndbaaG19
import Derived.Test.YtlggjbopfnndbaaG36
import Derived.Test.YtlggjbopfnndbaaG16
namespace Go.Proofs.Ytlggjbopfnndbaa
open Go.RowKit
section
variable {w : World} {m : Mo} {B R : Nat} {vv fv : Value} {rows : List FR} {x : Nat → Nat → Nat → Bool} {tag : Tag} {rn : Int}
set_option maxRecDepth 100000 in
theorem sign19_out (h : RgM w m B R vv fv rows x tag rn) (hok : OkR m) {f : Int} (hf : inR m.fs.length f = false) :
  Calls Try.prog 36 #[.pointer (some ⟨R, 0, none⟩), .int .i64 f] w fun e w' => e = .returned (.string ⟨#[]⟩) ∧ Below w.heap.size w w' := by
 have HI := Lib.hid (inR19_calls h (by have := hok.nf; omega) f)
 rw [hf] at HI
 clear h
 go_enter Try.func36, Try.ntmps36
 go_wp2_with (go_at_call 65; refine HI.out.mono ?_; rintro e w2 ⟨rfl, rfl⟩)
 go_ret
 exact ⟨rfl, Below.refl _ _⟩
set_option maxRecDepth 100000 in
set_option maxHeartbeats 8000000 in
theorem sign19_calls (h : RgM w m B R vv fv rows x tag rn) (hok : OkR m) (hnm : NamesR m) {f : Nat} {g : Fn} (hg : m.fs[f]? = some g) :
  Calls Try.prog 36 #[.pointer (some ⟨R, 0, none⟩), .int .i64 (f : Int)] w fun e w' => e = .returned (.string (signF g (x f g.vs.length))) ∧ Below w.heap.size w w' := by
 obtain ⟨p0, p1, p2, p3⟩ := hok.fn g (List.mem_of_getElem? hg)
 obtain ⟨n1, n2, n3⟩ := hnm.fn g (List.mem_of_getElem? hg)
 obtain ⟨P, hP⟩ : ∃ P, g.c.par.toNat = P := ⟨_, rfl⟩
 have hPI : g.c.par = (P : Int) := by omega
 have hPb : P ≤ 300 := by omega
 have hPv : P ≤ g.vs.length := by omega
 have hfn : f < m.fs.length := (List.getElem?_eq_some_iff.1 hg).1
 have hfI : (f : Int) < (m.fs.length : Int) := by omega
 have hn60 := hok.nf
 have HI := Lib.hid (inR19_calls h (by omega) (f : Int))
 rw [inR_nat, decide_eq_true hfn] at HI
 obtain ⟨r, hr⟩ : ∃ r, rows[f]? = some r := ⟨_, List.getElem?_eq_getElem (by rw [h.n]; exact hfn)⟩
 obtain ⟨f1, f2⟩ := h.fit f r g hr hg
 rw [hP] at f1
 obtain ⟨VA, FA, cv, cf, e1, e2, hVA, hFA, hva, hfa⟩ := h.tab.fn hr
 obtain ⟨hlf, _⟩ := h.tab.leaf hr (Nat.le_refl _)
 rw [f2] at hlf hfa
 rw [f1] at hlf hfa
 obtain ⟨b, hb⟩ : ∃ b, r.at_ g.vs.length = b := ⟨_, rfl⟩
 obtain ⟨z, hz⟩ : ∃ z, x f g.vs.length = z := ⟨_, rfl⟩
 rw [hb] at hlf hfa
 rw [hz] at hlf ⊢
 obtain ⟨fb, fo, hfA, hfb, hfc⟩ := h.inn.frow (by intro e; rw [e] at hfn; simp at hfn)
 have hgi := h.inn.fin g (List.mem_of_getElem? hg)
 obtain ⟨N, hN⟩ : ∃ N, w.heap.size = N := ⟨_, rfl⟩
 obtain ⟨W3, hW3⟩ : ∃ W3, w.alloc (.cells g.cells 50) = W3 := ⟨_, rfl⟩
 have hb3 : Below N w W3 := by rw [← hW3, ← hN]; exact (Below.refl _ _).alloc (Nat.le_refl _) _
 have hs3 : W3.heap.size = N + 1 := by rw [← hW3]; simp [hN]
 have hr3 : W3.heap[N]? = some (.cells g.cells 50 (0, 0)) := by rw [← hW3, ← hN]; exact alloc_at _ _
 have hst : ∀ (c : Array Value), c.size = 8 → (storeCells ⟨w.heap.size, 0, none⟩ g.cells.toList 0).run Try.prog (w.alloc (.cells c 50)) = .ok () W3 := fun c hc => by
  rw [← hW3]
  exact run_storeCells_new (P := Try.prog) w 50 c g.cells (by show _ = some 8; kernel_rfl) hc (fn_cells_one' g)
 have HGL : Hid (∀ k u, g.cells.toList[k]? = some u → w.cell? ((⟨fb, fo + f * 8, none⟩ : Addr).add k) = some u) := fun k u hu => by rw [Addr.add_lit]; exact hfc f g hg k u hu
 have c1 : w.cell? ⟨R, 1, none⟩ = some (.slice (some ⟨fb, fo, none⟩) m.fs.length m.fC) := by rw [cell_of_row _ _ _ _ _ _ h.rec_, ← hfA]; rfl
 have HRC : Hid (∀ W, Below W3.heap.size W3 W → W.cell? ⟨R, 3, none⟩ = some (.slice (some ⟨FA, 0, none⟩) m.fs.length cf) ∧ W.cell? ⟨FA, f, none⟩ = some (.slice (some ⟨b, 0, none⟩) ((P + 63) / 64) ((P + 63) / 64)) ∧ Below N w W) := fun W hW => by
  have hq := hb3.trans (hW.mono (by omega : N ≤ W3.heap.size))
  have hRl : R < N := by rw [← hN]; exact (Array.getElem?_eq_some_iff.1 h.rec_).1
  refine ⟨?_, ?_, hq⟩
  ·rw [hq.cell (p := ⟨R, 3, none⟩) hRl, cell_of_row _ _ _ _ _ _ h.rec_, e2, h.n]; rfl
  ·rw [hq.cell (p := ⟨FA, f, none⟩) (by show FA < N; omega)]; exact hfa
 have HCB : Hid (∀ W, Below W3.heap.size W3 W → W.heap[N]? = some (.cells g.cells 50 (0, 0))) := fun W hW => (hW.block N (by omega)).trans hr3
 have HHAS : Hid (∀ W, Below W3.heap.size W3 W → ∀ v, v < P → Calls Try.prog 69 #[.slice (some ⟨b, 0, none⟩) ((P + 63) / 64) ((P + 63) / 64), .int .i64 (v : Int)] W fun e w' => e = .returned (.bool (z v)) ∧ W = w') := by
  intro W hW v hv
  have hq := hb3.trans (hW.mono (by omega : N ≤ W3.heap.size))
  exact hasB_calls W b P v z (bitsLeaf.keep hlf (hq.block b (by rw [← hN]; exact bitsLeaf.lt hlf))) hv (by omega)
 have HVS : Hid (P ≠ 0 → ∃ vb vo, g.c.varsA = some ⟨vb, vo, none⟩ ∧ ∀ W, Below W3.heap.size W3 W → ∀ (k : Nat) (y : Vr), g.vs[k]? = some y → ∀ q u, y.cells.toList[q]? = some u → W.cell? ((⟨vb, vo + k * 3, none⟩ : Addr).add q) = some u) := fun h0 => by
  obtain ⟨vb, vo, hA, hb, hc⟩ := hgi.vars (by intro e; rw [e] at hPv; simp at hPv; omega)
  refine ⟨vb, vo, hA, fun W hW k y hy q u hu => ?_⟩
  have hq := hb3.trans (hW.mono (by omega : N ≤ W3.heap.size))
  rw [Addr.add_lit, hq.cell (p := ⟨vb, _, none⟩) (by show vb < N; omega)]; exact hc k y hy q u hu
 have hnv := hgi.nvars
 have HG : Hid (∀ v ∈ g.vs, v.tgt.size ≤ 60) := n3
 obtain ⟨S, hS⟩ : ∃ S, signF g z = S := ⟨_, rfl⟩
 have HS : Hid (S = g.c.nm ++ ⟨#[40]⟩ ++ joinF (partsF g z P) ++ ⟨#[41, 32, 45, 62, 32]⟩ ++ partF g.sigV g.lentRet) := by unfold Hid; rw [← hS, ← hP]; rfl
 rw [hS]
 have hHN := Lib.hid hN
 have HS3 := Lib.hid hs3
 have HPI := Lib.hid hPI
 have HNV := Lib.hid hnv
 have HN2 := Lib.hid n2
 obtain ⟨q, hq⟩ : ∃ q, (P + 63) / 64 = q := ⟨_, rfl⟩
 rw [hq] at HRC HHAS
 clear hlf hfa hva e1 e2 h hok hnm hfc hgi hr f1 f2 hr3 hb3 hS hP hnv hg hfA hfb hVA hFA hb hz hq n2 n3 hPI hW3 p0 p1
 rw [hN] at hst ⊢
 go_enter Try.func36, Try.ntmps36
 go_upto_region 4 with (first
  | (go_at_call 65; refine HI.out.mono ?_; rintro e w2 ⟨rfl, rfl⟩)
  | (refine wpList_load_at rfl 50 _ rfl ⟨fb, fo + f * 8, none⟩ rfl g.cells _ HGL.out Try.underlying50 rfl (by kernel_rfl) ?_))
 clear c1 hst HI HGL
 obtain ⟨r3, ff, _⟩ := HRC.out W3 (Below.refl _ _)
 have p1 : W3.cell? ⟨N, 1, none⟩ = some (.int .i64 (P : Int)) := by rw [cell_of_row _ _ _ _ _ _ (HCB.out W3 (Below.refl _ _)), ← HPI.out]; rfl
 clear hN hs3
 go_wp2_with fail
 clear r3 ff p1
 go_loopw [7, 31] (fun v c wr => ∃ j : Nat, j ≤ P ∧ c = .int .i64 (j : Int) ∧ OwnS wr (N + 1) v (partsF g z j) ∧ Below W3.heap.size W3 wr) (fun _ c _ => P - (intOf c).toNat)
 case atStart => exact ⟨0, Nat.zero_le _, rfl, OwnS.nil _ _, Below.refl _ _⟩
 case round =>
  obtain ⟨j, hj, rfl, hown, hbr⟩ := hrel
  have HBR := Lib.hid hbr
  have HBQ : Hid (∀ p : BW wr, Below W3.heap.size W3 p.w) := fun p => HBR.out.trans (p.h.mono HBR.out.size)
  have HOW := Lib.hid hown
  by_cases hjP : j < P
  ·obtain ⟨y, hy⟩ : ∃ y, g.vs[j]? = some y := ⟨_, List.getElem?_eq_getElem (by omega)⟩
   have hjI : (j : Int) < (P : Int) := by omega
   have hjV : (j : Int) < (g.vs.length : Int) := by omega
   obtain ⟨vb, vo, hvA, hvc⟩ := HVS.out (by omega)
   have HXV : Hid (∀ (p : BW wr) k u, y.cells.toList[k]? = some u → p.w.cell? ((⟨vb, vo + j * 3, none⟩ : Addr).add k) = some u) := fun p => hvc p.w (HBQ.out p) j y hy
   have p2 : ∀ p : BW wr, p.w.cell? ⟨N, 2, none⟩ = some (.slice (some ⟨vb, vo, none⟩) g.vs.length g.c.varsC) := fun p => by
    rw [cell_of_row _ _ _ _ _ _ (HCB.out p.w (HBQ.out p)), ← hvA, ← HNV.out]; rfl
   have HH : Hid (∀ p : BW wr, Calls Try.prog 69 #[.slice (some ⟨b, 0, none⟩) q q, .int .i64 (j : Int)] p.w fun e w' => e = .returned (.bool (z j)) ∧ p.w = w') := fun p => HHAS.out p.w (HBQ.out p) j hjP
   have HPT : Hid (∀ p : BW wr, Calls Try.prog 70 #[.agg y.cells, .bool (z j)] p.w fun e w' => e = .returned (.string (partF y (z j))) ∧ Below p.w.heap.size p.w w') := fun p => part_calls y (z j) p.w (by have := HG.out y (List.mem_of_getElem? hy); omega)
   have HNX : Hid (partsF g z (j + 1) = partsF g z j ++ [partF y (z j)]) := by unfold Hid; rw [partsF_succ, List.getD_eq_getElem?_getD, hy]; rfl
   obtain ⟨PT, hPT⟩ : ∃ t, partF y (z j) = t := ⟨_, rfl⟩
   rw [hPT] at HPT HNX
   obtain ⟨ao, cap, rfl⟩ := hown.isSlice
   have HLEN := Lib.hid (partsF_len g z j)
   clear hown hbr hy hvA hvc hPT
   rw [HLEN.out]
   rw [HLEN.out] at HOW
   go_wp2_with fail
   obtain ⟨S, hS⟩ : ∃ S : World → Prop, S = Below wr.heap.size wr := ⟨_, rfl⟩
   have HSB : Hid (∀ w', S w' ↔ Below wr.heap.size wr w') := fun w' => by rw [hS]
   have HXS : Hid (∀ w', S w' → ∀ k u, y.cells.toList[k]? = some u → w'.cell? ((⟨vb, vo + j * 3, none⟩ : Addr).add k) = some u) := fun w' h => HXV.out ⟨w', (HSB.out w').1 h⟩
   have HSS : Hid (∀ w', S w' → w'.cell? ⟨N, 2, none⟩ = some (.slice (some ⟨vb, vo, none⟩) g.vs.length g.c.varsC)) := fun w' h => p2 ⟨w', (HSB.out w').1 h⟩
   have hS0 : S wr.drew := (HSB.out _).2 (Below.refl _ _).drew
   clear hS p2
   refine wp_region_J 11 S (by kernel_rfl) ?_
   refine wpAnyJ_take (i := 0) rfl (by kernel_rfl) (by kernel_rfl) (by kernel_rfl) (by kernel_rfl) (fun _ _ _ h => h) (Or.inl ⟨by rfl, fun w hSw => by have s1 := HSS.out w hSw; go_simp; try rfl⟩) (by assumption) ?_
   try go_simp
   refine wpAnyJ_take (i := 1) rfl (by kernel_rfl) (by kernel_rfl) (by kernel_rfl) (by kernel_rfl) (fun _ _ _ h => h) (Or.inl ⟨by rfl, fun w hSw => by have s1 := HSS.out w hSw; go_simp; try rfl⟩) (by assumption) ?_
   try go_simp
   refine wpAnyJ_take (i := 2) rfl (by kernel_rfl) (by kernel_rfl) (by kernel_rfl) (by kernel_rfl) (fun _ _ _ h => h) (Or.inl ⟨by rfl, fun w hSw => by have s1 := HSS.out w hSw; go_simp; try rfl⟩) (by assumption) ?_
   try go_simp
   refine wpAnyJ_take (i := 3) rfl (by kernel_rfl) (by kernel_rfl) (by kernel_rfl) (by kernel_rfl) (fun _ _ _ h => h) (Or.inl ⟨by rfl, fun w hSw => by have s1 := HSS.out w hSw; go_simp; try rfl⟩) (by assumption) ?_
   try go_simp
   refine wpAnyJ_take (i := 4) rfl (by kernel_rfl) (by kernel_rfl) (by kernel_rfl) (by kernel_rfl) (fun _ _ _ h => h) (Or.inl ⟨by rfl, fun w hSw => by have s1 := HSS.out w hSw; go_simp; try rfl⟩) (by assumption) ?_
   try go_simp
   refine wpAnyJ_take (i := 5) rfl (by kernel_rfl) (by kernel_rfl) (by kernel_rfl) (by kernel_rfl) (fun _ _ _ h => h) (load_yields (by rfl) 47 _ rfl ⟨vb, vo + j * 3, none⟩ rfl _ _ HXS.out Try.underlying47 rfl (by kernel_rfl)) (by assumption) ?_
   try go_simp
   refine wpAnyJ_take (i := 6) rfl (by kernel_rfl) (by kernel_rfl) (by kernel_rfl) (by kernel_rfl) (fun _ _ _ h => h) (Or.inl ⟨by rfl, fun w hSw => by have s1 := HSS.out w hSw; go_simp; try rfl⟩) (by assumption) ?_
   try go_simp
   refine wpAnyJ_take (i := 7) rfl (by kernel_rfl) (by kernel_rfl) (by kernel_rfl) (by kernel_rfl) (fun _ _ _ h => h) (Or.inl ⟨by rfl, fun w hSw => by have s1 := HSS.out w hSw; go_simp; try rfl⟩) (by assumption) ?_
   try go_simp
   refine wpAnyJ_one (i := 8) (by kernel_rfl) (by decide) rfl fun K' hK => ?_
   rw [if_pos (by rfl)]
   go_simp
   go_at_call 69
   refine (HH.out ⟨_, (HSB.out _).1 hS0⟩).mono ?_
   rintro e w4 ⟨rfl, rfl⟩
   refine hK _ _ hS0 ?_
   clear hK
   refine wpAnyJ_one (i := 9) (by kernel_rfl) (by decide) rfl fun K' hK => ?_
   rw [if_pos (by rfl)]
   go_simp
   go_at_call 70
   refine (HPT.out ⟨_, (HSB.out _).1 hS0⟩).mono ?_
   rintro e w5 ⟨rfl, hb5⟩
   have hS5 : S w5 := (HSB.out _).2 (((HSB.out _).1 hS0).trans (hb5.mono ((HSB.out _).1 hS0).size))
   refine hK _ _ hS5 ?_
   clear hK hb5 hS0
   try go_simp
   refine wpAnyJ_one (i := 10) (by kernel_rfl) (by decide) rfl fun K' hK => ?_
   rw [if_pos (by rfl)]
   go_simp
   have hS6 : ∀ c, S (w5.alloc c) := fun c => (HSB.out _).2 (((HSB.out _).1 hS5).alloc ((HSB.out _).1 hS5).size _)
   refine hK _ _ (hS6 _) ?_
   clear hK
   try go_simp
   obtain ⟨W6, hW6⟩ : ∃ W6, w5.alloc (.cells #[.string PT] 9) = W6 := ⟨_, rfl⟩
   have hB6 : Below wr.heap.size wr W6 := by rw [← hW6]; exact (HSB.out _).1 (hS6 _)
   have hat6 : ∀ (k : Nat) u, [Value.string PT][k]? = some u → W6.cell? ((⟨w5.heap.size, 0, none⟩ : Addr).add k) = some u := by rw [← hW6]; exact cells_new _ _ _
   have HO6 : Hid (OwnS W6 (N + 1) (.slice ao j cap) (partsF g z j)) := HOW.out.below hB6
   have hrow6 : W6.ownsRow (N + 1) 9 1 (.slice ao j cap) j ((partsF g z j).map Value.string) := by
    have := HO6.out
    unfold OwnS at this
    rw [HLEN.out] at this; exact this
   have hs6 : N + 1 ≤ W6.heap.size := by have h1 := hB6.size; have h2 := HBR.out.size; rw [HS3.out] at h2; omega
   have HB6 : Hid (Below W3.heap.size W3 W6) := HBR.out.trans (hB6.mono HBR.out.size)
   rw [hW6]
   clear hW6 hS6 hS5
   refine wpAnyJ_k (by kernel_rfl) rfl fun K' hK => ?_
   rw [if_pos (by rfl)]
   obtain ⟨i0, hi, hz0, hz1, hz2⟩ := info_parts info_string
   refine wp_append_own _ _ _ 104 rfl (N + 1) 9 i0 (.string ⟨#[]⟩) 1 16 Try.underlying104 hi hz0 hz1 hz2 rfl (by decide) (.slice ao j cap) j _ rfl hrow6 ⟨w5.heap.size, 0, none⟩ 1 1 [.string PT] rfl rfl hat6 (by simp [Value.oneCell']) (by unfold maxLen; omega) (by omega) hs6 fun v7 w7 h2 h3 _ => ?_
   have HN7 : Hid (OwnS w7 (N + 1) v7 (partsF g z (j + 1))) := by
    unfold Hid OwnS
    rw [partsF_len, HNX.out, List.map_append]; exact h2
   have HB7 : Hid (Below W3.heap.size W3 w7) := HB6.out.trans (OwnS.grown HO6.out h3 (by rw [HS3.out]; exact Nat.le_refl _) (by rw [HS3.out]; exact hs6))
   clear h2 h3 hrow6 hat6 hB6 hs6
   refine hK _ _ ?_
   clear hK
   try go_simp
   refine wpAny_end 12 rfl (by kernel_rfl) (by kernel_rfl) (· = w7) rfl ?_
   dsimp only [List.drop]
   repeat (go_big_quiet_step (fail))
   refine wpQuiet_nil ?_
   rintro _ rfl
   go_wp2
   go_roundw
   case rel => exact ⟨j + 1, by omega, by go_num, HN7.out, HB7.out⟩
   case measure => simp [intOf]; omega
  ·have hje : j = P := by omega
   subst hje
   have hps := partsF_size z j HG.out
   have hpl := partsF_len g z j
   obtain ⟨ao, cap, rfl⟩ := hown.isSlice
   rw [hpl] at HOW
   rw [hpl]
   have HJN : Hid (∀ p : BW wr, Calls Try.prog 71 #[.slice ao j cap, .string ⟨#[44, 32]⟩] p.w fun e w' => e = .returned (.string (joinF (partsF g z j))) ∧ Below p.w.heap.size p.w w') := fun p => joinS_calls p.w (N + 1) (.slice ao j cap) _ (HOW.out.below p.h) (by omega) hps
   have hjs := joinF_size _ hps
   rw [hpl] at hjs
   obtain ⟨J, hJ⟩ : ∃ J, joinF (partsF g z j) = J := ⟨_, rfl⟩
   rw [hJ] at HJN hjs
   have hpt := partF_size (v := g.sigV) g.lentRet HN2.out
   have HPT : Hid (∀ p : BW wr, Calls Try.prog 70 #[.agg #[.bool g.c.rp, .string g.c.rto, .int .i64 g.c.rcl], .bool g.lentRet] p.w fun e w' => e = .returned (.string (partF g.sigV g.lentRet)) ∧ Below p.w.heap.size p.w w') := fun p => part_calls g.sigV g.lentRet p.w (by have := HN2.out; show g.c.rto.size ≤ _; omega)
   obtain ⟨PT, hPT⟩ : ∃ t, partF g.sigV g.lentRet = t := ⟨_, rfl⟩
   have HLT : Hid (∀ p : BW wr, Calls Try.prog 29 #[.agg #[.bool g.c.rp, .string g.c.rto, .int .i64 g.c.rcl]] p.w fun e w' => e = .returned (.bool g.lentRet) ∧ Below p.w.heap.size p.w w') := fun p => lent19_calls g.sigV p.w
   have HSV : Hid (S = g.c.nm ++ ⟨#[40]⟩ ++ J ++ ⟨#[41, 32, 45, 62, 32]⟩ ++ PT) := by unfold Hid; rw [HS.out, hJ, hPT]
   rw [hPT] at HPT hpt
   obtain ⟨lr, hlr⟩ : ∃ b, g.lentRet = b := ⟨_, rfl⟩
   rw [hlr] at HPT HLT
   have p0 : ∀ p : BW wr, p.w.cell? ⟨N, 0, none⟩ = some (.string g.c.nm) := fun p => by rw [cell_of_row _ _ _ _ _ _ (HCB.out p.w (HBQ.out p))]; rfl
   have HRV : Hid (∀ (p : BW wr) k u, (#[.bool g.c.rp, .string g.c.rto, .int .i64 g.c.rcl] : Array Value).toList[k]? = some u → p.w.cell? ((⟨N, 3, none⟩ : Addr).add k) = some u) := fun p k u hu => by
    rw [Addr.add_lit, cell_of_row _ _ _ _ _ _ (HCB.out p.w (HBQ.out p))]
    have hk : k < 3 := (List.getElem?_eq_some_iff.1 hu).1
    rcases (by omega : k = 0 ∨ k = 1 ∨ k = 2) with rfl | rfl | rfl <;> exact hu
   have k1 : ¬ 9223372036854775807 < g.c.nm.size + 1 := by omega
   have k2 : ¬ 9223372036854775807 < g.c.nm.size + 1 + J.size := by omega
   have k3 : ¬ 9223372036854775807 < g.c.nm.size + 1 + J.size + 5 := by omega
   have k4 : ¬ 9223372036854775807 < g.c.nm.size + 1 + J.size + 5 + PT.size := by omega
   have HNS : Hid (∀ p : BW wr, Below N w p.w) := fun p => (HRC.out p.w (HBQ.out p)).2.2
   clear hown hbr hps hpl hJ hPT hlr hjs hpt
   go_wp2_with fail
   refine wp_region_quiet_bw (by kernel_rfl) (by kernel_rfl) ?_
   repeat (first
    | (go_big_quiet_want; (refine quiet_load_bw 47 _ rfl ⟨N, 3, none⟩ rfl _ _ HRV.out Try.underlying47 rfl (by kernel_rfl) ?_); (simp only [Act.put, List.setIfInBounds_toArray, List.set_cons_zero, List.set_cons_succ]); go_big_quiet_on)
    | (go_big_quiet_step (first
     | (go_at_call 71; exact bw_of (HJN.out _))
     | (go_at_call 29; exact bw_of (HLT.out _))
     | (go_at_call 70; exact bw_of (HPT.out _)))))
   refine wpQuiet_nil ?_
   rintro _ ⟨p, rfl⟩
   clear p0 k1 k2 k3 k4
   go_wp2
   go_ret
   rw [HSV.out]
   exact ⟨rfl, HNS.out p⟩
end
end Go.Proofs.Ytlggjbopfnndbaa
namespace Go.Proofs.Ytlggjbopfnndbaa
open Go.RowKit
set_option maxRecDepth 100000 in
theorem inNil_calls (f : Int) (w : World) : Calls Try.prog 65 #[.pointer none, .int .i64 f] w fun e w' => e = .returned (.bool false) ∧ w = w' := by
 go_enter Try.func65, Try.ntmps65
 go_wp2
 go_ret
 exact ⟨rfl, rfl⟩
set_option maxRecDepth 100000 in
theorem fromNil_calls (f : Int) (w : World) : Calls Try.prog 27 #[.pointer none, .int .i64 f] w fun e w' => e = .returned (.slice none 0 0) ∧ Below w.heap.size w w' := by
 have HI := Lib.hid (inNil_calls f w)
 go_enter Try.func27, Try.ntmps27
 go_wp2_with (go_at_call 65; refine HI.out.mono ?_; rintro e w2 ⟨rfl, rfl⟩)
 go_ret
 exact ⟨rfl, Below.refl _ _⟩
set_option maxRecDepth 100000 in
theorem varNil_calls (f v : Int) (w : World) : Calls Try.prog 28 #[.pointer none, .int .i64 f, .int .i64 v] w fun e w' => e = .returned (.slice none 0 0) ∧ Below w.heap.size w w' := by
 have HI := Lib.hid (inNil_calls f w)
 go_enter Try.func28, Try.ntmps28
 go_wp2_with (go_at_call 65; refine HI.out.mono ?_; rintro e w2 ⟨rfl, rfl⟩)
 go_ret
 exact ⟨rfl, Below.refl _ _⟩
set_option maxRecDepth 100000 in
theorem signNil_calls (f : Int) (w : World) : Calls Try.prog 36 #[.pointer none, .int .i64 f] w fun e w' => e = .returned (.string ⟨#[]⟩) ∧ Below w.heap.size w w' := by
 have HI := Lib.hid (inNil_calls f w)
 go_enter Try.func36, Try.ntmps36
 go_wp2_with (go_at_call 65; refine HI.out.mono ?_; rintro e w2 ⟨rfl, rfl⟩)
 go_ret
 exact ⟨rfl, Below.refl _ _⟩
theorem roundsNil_calls (w : World) : Calls Try.prog 38 #[.pointer none] w fun e w' => e = .returned (.int .i64 0) ∧ Below w.heap.size w w' := by
 go_enter Try.func38, Try.ntmps38
 go_wp2
 go_ret
 exact ⟨rfl, Below.refl _ _⟩
set_option maxRecDepth 100000 in
theorem moduleNil_calls (w : World) : Calls Try.prog 32 #[.pointer none] w fun e w' => e = .returned (.agg #[.slice none 0 0, .slice none 0 0]) ∧ Below w.heap.size w w' := by
 obtain ⟨N, hN⟩ : ∃ N, w.heap.size = N := ⟨_, rfl⟩
 obtain ⟨W1, hW1⟩ : ∃ W1, w.alloc (.cells #[.slice none 0 0, .slice none 0 0] 25) = W1 := ⟨_, rfl⟩
 have hb1 : Below N w W1 := by rw [← hW1, ← hN]; exact (Below.refl _ _).alloc (Nat.le_refl _) _
 have hr1 : W1.heap[N]? = some (.cells #[.slice none 0 0, .slice none 0 0] 25 (0, 0)) := by rw [← hW1, ← hN]; exact alloc_at _ _
 have c0 : W1.cell? ⟨N, 0, none⟩ = some (.slice none 0 0) := by rw [cell_of_row _ _ _ _ _ _ hr1]; rfl
 have c1 : W1.cell? ⟨N, 1, none⟩ = some (.slice none 0 0) := by rw [cell_of_row _ _ _ _ _ _ hr1]; rfl
 have f0 := frozen_of_row _ _ 0 _ _ hr1
 have f1 := frozen_of_row _ _ 1 _ _ hr1
 have HW1 := Lib.hid hW1
 have HR1 := Lib.hid hr1
 have HB1 := Lib.hid hb1
 clear hr1 hb1 hW1
 go_enter Try.func32, Try.ntmps32
 go_upto_region 1 with (fail)
 rw [HW1.out]
 go_wp2
 have h2 := heap_setCell_same W1 N 0 _ _ (.slice none 0 0) HR1.out
 have h3 := heap_setCell_same _ N 1 _ _ (.slice none 0 0) h2
 have y0 : ((W1.setCell ⟨N, 0, none⟩ (.slice none 0 0)).setCell ⟨N, 1, none⟩ (.slice none 0 0)).cell? ⟨N, 0, none⟩ = some (.slice none 0 0) := by rw [cell_of_row _ _ _ _ _ _ h3]; rfl
 have y1 : ((W1.setCell ⟨N, 0, none⟩ (.slice none 0 0)).setCell ⟨N, 1, none⟩ (.slice none 0 0)).cell? ⟨N, 1, none⟩ = some (.slice none 0 0) := by rw [cell_of_row _ _ _ _ _ _ h3]; rfl
 have hx : Ext (N ≤ ·) w ((W1.setCell ⟨N, 0, none⟩ (.slice none 0 0)).setCell ⟨N, 1, none⟩ (.slice none 0 0)) := ((Ext.of_below HB1.out).trans (Ext.set1 _ _ _ _) (fun j hj => .inl (by show N ≤ j; omega))).trans (Ext.set1 _ _ _ _) (fun j hj => .inl (by show N ≤ j; omega))
 exact bodyPost_ret (v := .agg #[.slice none 0 0, .slice none 0 0]) (by simp [results, Try.results32, go_sem, y0, y1]) rfl ⟨rfl, by rw [hN]; exact hx.below (by omega) (fun k hk => hk)⟩
end Go.Proofs.Ytlggjbopfnndbaa
