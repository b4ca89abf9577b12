/- The reference's groups. -/
import Derived.Test.YtbbogkcfngpbbaaCaV
import Derived.Test.YtbbogkcfngpbbaaCaX2
import Derived.Test.YtbbogkcfngpbbaaRegK
import Derived.Test.YtbbogkcfngpbbaaCaH
import Derived.BigRegion
namespace Go.Proofs.Ytbbogkcfngpbbaa
open Go.RowKit

theorem grp_head {n f : Nat} {D : Nat → List Nat} {h0 : Nat} (hf : f < n) (h : (grp n (reachB D) f)[0]? = some h0) : h0 ≤ f ∧ h0 ∈ grp n (reachB D) f := by
  refine ⟨?_, List.mem_of_getElem? h⟩
  obtain ⟨j, hj⟩ := List.mem_iff_getElem?.1 (grp_self (D := D) hf)
  have hp : (grp n (reachB D) f).Pairwise (· < ·) := List.pairwise_lt_range.filter _
  cases j with
  | zero => rw [h] at hj; have := Option.some.inj hj; omega
  | succ j =>
    obtain ⟨a1, a2⟩ := List.getElem?_eq_some_iff.1 h
    obtain ⟨b1, b2⟩ := List.getElem?_eq_some_iff.1 hj
    have := List.pairwise_iff_getElem.1 hp 0 (j + 1) a1 b1 (by omega)
    rw [a2, b2] at this
    omega

/-- Who is not the head of its group is passed over by the program too. -/
theorem head_skip {n f h0 : Nat} {D : Nat → List Nat} {s : (Nat → Int) × List (List Nat)} (H : PartI n D s) (hf : f < n) (h : (grp n (reachB D) f)[0]? = some h0) (hne : h0 ≠ f)
    (hno : ∀ x, x < f → (s.1 x == -1 && readyF D s.1 (grp n (reachB D) x)) = false) : (s.1 f == -1 && readyF D s.1 (grp n (reachB D) f)) = false := by
  obtain ⟨h1, h2⟩ := grp_head hf h
  have h3 := hno h0 (by omega)
  rw [grp_same h2] at h3
  have h4 := H.same h2 hf
  rw [← h3]
  congr 1
  rw [Bool.eq_iff_iff, beq_iff_eq, beq_iff_eq]
  exact h4.symm

/-- Rounds lower the fence. -/
theorem GrpI.base {w : World} {H H' : Nat} {gv : Value} {ls : List (List Nat)} (h : GrpI w H gv ls) (hH : H' ≤ H) : GrpI w H' gv ls := by
  obtain ⟨vals, h1, h2, h3⟩ := h.ex
  refine ⟨vals, h1, ownsRow_base h2 (fun k hk => by have := (h2.lt k hk).1; omega), fun j v l hv hl => ?_⟩
  obtain ⟨q1, q2⟩ := h3 j v l hv hl
  exact ⟨ownsRow_base q1 (fun k hk => by have := (q1.lt k hk).1; omega), q2⟩

theorem truC_same {n : Nat} {f g : Nat → Bool} (h : ∀ x, x < n → f x = g x) : truC n f = truC n g := by
  apply Array.ext_getElem?
  intro j
  by_cases hj : j < n
  · rw [truC_get _ hj, truC_get _ hj, h j hj]
  · rw [Array.getElem?_eq_none (by rw [truC_size]; omega), Array.getElem?_eq_none (by rw [truC_size]; omega)]

theorem take_all_snoc {α : Type} {l : List α} {k : Nat} {x : α} (p : α → Bool) (h : l[k]? = some x) : (l.take (k + 1)).all p = ((l.take k).all p && p x) := by
  rw [show l.take (k + 1) = l.take k ++ [x] from by rw [List.take_add_one, h]; rfl, List.all_append]; simp

/-- Behind a round of the marks. -/
theorem done_mark {w : World} {n Dn h q : Nat} {gk : Nat → Int} {l : List Nat} {K : Nat} (hw : w.heap[Dn]? = some (.cells (truC n (fun x => setF gk (l.take q) (K : Int) x != -1)) 4 (0, 0))) (hq : l[q]? = some h) :
    (w.setCell ⟨Dn, h, none⟩ (.bool true)).heap[Dn]? = some (.cells (truC n (fun x => setF gk (l.take (q + 1)) (K : Int) x != -1)) 4 (0, 0)) := by
  rw [heap_setCell_same _ _ _ _ _ _ hw, truC_set, setF_take hq]
  refine congrArg (fun f => some (Obj.cells (truC n f) 4 (0, 0))) (funext fun x => ?_)
  by_cases e : x = h
  · have : ((K : Int) != -1) = true := by rw [bne_iff_ne]; omega
    simp only [e, if_true]
    exact this.symm
  · simp only [if_neg e]

set_option maxRecDepth 100000 in
set_option maxHeartbeats 16000000 in
theorem rgroups_calls (w : World) (m : Mo) (hof : OfIn w m) : Calls Try.prog 37 #[.agg m.cells] w (GivesG w (groupsF m).2) := by
  obtain ⟨M, hM⟩ : ∃ M, m = M := ⟨_, rfl⟩
  have hn70 := hof.nf
  have HOF0 := Lib.hid hof
  clear hof
  obtain ⟨sA, sC, fA, fC, ss, fs⟩ := m
  obtain ⟨n, hn⟩ : ∃ n, fs.length = n := ⟨_, rfl⟩
  have HMC : Hid (M.cells = #[.slice sA ss.length sC, .slice fA n fC]) := by unfold Hid; rw [← hM, ← hn]; rfl
  have HML : Hid (M.fs.length = n) := by unfold Hid; rw [← hM, ← hn]
  rw [hM] at HOF0 ⊢
  simp only at hn70
  rw [hn] at hn70
  rw [HMC.out]
  clear hn hM
  obtain ⟨D, hD⟩ : ∃ D, downF M = D := ⟨_, rfl⟩
  have HD := Lib.hid hD
  have HGF : Hid (groupsF M = partN n D (reachB D) n) := by unfold Hid groupsF; rw [HML.out, hD]
  rw [HGF.out]
  obtain ⟨N, hN⟩ : ∃ N, w.heap.size = N := ⟨_, rfl⟩
  obtain ⟨W1, hW1⟩ : ∃ W1, w.alloc (.cells #[.slice sA ss.length sC, .slice fA n fC] 38) = W1 := ⟨_, rfl⟩
  have q1 : W1.heap[N]? = some (.cells #[.slice sA ss.length sC, .slice fA n fC] 38 (0, 0)) := by rw [← hW1, ← hN]; exact alloc_at _ _
  have hb1 : Below w.heap.size w W1 := by rw [← hW1]; exact (Below.refl _ _).alloc (Nat.le_refl _) _
  obtain ⟨B, hB⟩ : ∃ B, W1.heap.size = B := ⟨_, rfl⟩
  have HC : Hid (∀ W, Below B W1 W → W.cell? ⟨N, 0, none⟩ = some (.slice sA ss.length sC) ∧ W.cell? ⟨N, 1, none⟩ = some (.slice fA n fC) ∧ OfIn W M) := by
    intro W hW
    have hNl := (Array.getElem?_eq_some_iff.1 q1).1
    have h3 := (hW.block N (by omega)).trans q1
    exact ⟨(cell_of_row _ _ _ _ _ _ h3).trans rfl, (cell_of_row _ _ _ _ _ _ h3).trans rfl, HOF0.out.below (hb1.trans (hW.mono (by rw [← hB]; exact hb1.size)))⟩
  have HRCA : Hid (∀ W, Below B W1 W → ∀ x : Nat, x < n → Calls Try.prog 44 #[.agg #[.slice sA ss.length sC, .slice fA n fC], .int .i64 (x : Int)] W (GivesN W (D x))) := by
    intro W hW x hx
    have hrc := rCallees_calls W M (HC.out W hW).2.2 (x : Int)
    rw [HML.out, HMC.out, if_pos (by rw [inR_nat]; exact decide_eq_true hx), Int.toNat_natCast, HD.out] at hrc
    exact hrc
  have HTB := Lib.hid (table_calls W1 M (HC.out W1 (Below.refl _ _)).2.2)
  rw [HML.out, HMC.out, hD, hB] at HTB
  have HDL : Hid (∀ h, (D h).length ≤ n) := fun h => by have := downF_len M h; rw [HML.out, HD.out] at this; exact this
  have HDN : Hid (∀ h, ∀ y ∈ D h, y < n) := fun h y hy => by rw [← HD.out] at hy; have := downF_lt hy; have := HML.out; omega
  have HPI : Hid (∀ k, PartI n D (partN n D (reachB D) k)) := fun k => partN_inv HDN.out k
  have HLEN : Hid (∀ k, (partN n D (reachB D) k).2.length ≤ k) := by
    intro k
    induction k with
    | zero => exact Nat.le_refl _
    | succ k ih =>
      show (partS n D (reachB D) (partN n D (reachB D) k)).2.length ≤ _
      unfold partS
      split
      · omega
      · simp; omega
  have HB1 := Lib.hid hb1
  have HW1 := Lib.hid hW1
  have HB := Lib.hid hB
  have hNB : N < B := by rw [← hB]; exact (Array.getElem?_eq_some_iff.1 q1).1
  obtain ⟨c0, c1, _⟩ := HC.out W1 (Below.refl _ _)
  obtain ⟨i1, hi, hz0, hz1, hz2⟩ := info_parts info_bool
  clear q1 hb1 hW1 hB hD
  go_enter Try.func37, Try.ntmps37
  go_upto_region 1 with (fail)
  rw [HW1.out]
  go_upto_region 2 with (go_at_call 42; refine HTB.out.mono ?_; rintro e w2 ⟨R, rfl, hT, hb2⟩)
  have hr0 := hT
  obtain ⟨Dn, hDn⟩ : ∃ Dn, w2.heap.size = Dn := ⟨_, rfl⟩
  obtain ⟨W3, hW3⟩ : ∃ W3, w2.alloc (.cells (Array.replicate n (Value.bool false)) 4) = W3 := ⟨_, rfl⟩
  have hr3 : W3.heap[Dn]? = some (.cells (truC n (fun x => (partN n D (reachB D) 0).1 x != -1)) 4 (0, 0)) := by
    rw [← hW3, ← hDn, alloc_at, truC_rep]
    rfl
  have hb3 : Below Dn w2 W3 := by rw [← hW3, ← hDn]; exact (Below.refl _ _).alloc (Nat.le_refl _) _
  have hs3 : W3.heap.size = Dn + 1 := by rw [← hW3, World.size_alloc, hDn]
  have hBD : B ≤ Dn := by have := hb2.size; have := HB.out; omega
  have HTA : Hid (∀ W, Below Dn w2 W → TabT W R n (reachB D)) := fun W hW => hT.below (by rw [hDn]; exact hW)
  have HCA : Hid (∀ W, Below Dn w2 W → Below B W1 W) := fun W hW => hb2.trans (hW.mono hBD)
  have HB3 := Lib.hid hb3
  have HR3 := Lib.hid hr3
  have HW3 := Lib.hid hW3
  clear hr0 hT hb2 hW3 hr3 hb3 c0 c1
  go_upto_region 3 with (at_make; refine wpList_make_at rfl (.tmp 17) (.tmp 17) 79 rfl 4 i1 (.bool false) Try.underlying79 hi hz0 hz1 rfl .i64 .i64 _ _ n rfl rfl rfl rfl (by rw [hz2]; omega) (by unfold maxLen; omega) ?_; (try simp only [List.toArray_replicate]); rw [HW3.out, hDn])
  clear hi hz0 hz1 hz2 i1
  go_wp2_with fail
  go_loopw [5, 6] (fun v c wr => ∃ k : Nat, k ≤ n ∧ c = .int .i64 (k : Int) ∧ wr.heap[Dn]? = some (.cells (truC n (fun x => (partN n D (reachB D) k).1 x != -1)) 4 (0, 0)) ∧ GrpI wr (Dn + 1) v (partN n D (reachB D) k).2 ∧ Below Dn w2 wr) (fun _ c _ => n - (intOf c).toNat)
  case atStart => exact ⟨0, Nat.zero_le _, rfl, HR3.out, GrpI.nil _ _, HB3.out⟩
  case round =>
    obtain ⟨k, hk, rfl, hdn, hgr, hb⟩ := hrel
    by_cases hkn : k < n
    · have hkI : (k : Int) < (n : Int) := by omega
      obtain ⟨ao, cap, hv⟩ := hgr.slice
      subst hv
      obtain ⟨⟨gk, ls⟩, hS⟩ : ∃ S, partN n D (reachB D) k = S := ⟨_, rfl⟩
      have hlen := HLEN.out k
      have hpi := HPI.out k
      rw [hS] at hdn hgr hlen hpi
      simp only at hdn hgr hlen
      rw [hS]
      simp only
      have HS := Lib.hid hS
      have HDN1 := Lib.hid hdn
      have HGR1 := Lib.hid hgr
      have HB1' := Lib.hid hb
      have HPK := Lib.hid hpi
      clear hS hdn hgr hb hpi
      go_wp2_with fail
      go_loopw [5, 7] (fun v c wr2 => ∃ f : Nat, f ≤ n ∧ v = .slice ao ls.length cap ∧ c = .int .i64 (f : Int) ∧ (∀ x, x < f → (gk x == -1 && readyF D gk (grp n (reachB D) x)) = false) ∧ wr2.heap[Dn]? = some (.cells (truC n (fun x => gk x != -1)) 4 (0, 0)) ∧ GrpI wr2 (Dn + 1) v ls ∧ Below Dn w2 wr2) (fun _ c _ => n - (intOf c).toNat)
      case atStart => exact ⟨0, Nat.zero_le _, rfl, rfl, fun x h => absurd h (Nat.not_lt_zero _), HDN1.out, HGR1.out, HB1'.out⟩
      case round =>
        obtain ⟨f, hf, rfl, rfl, hno, hdn, hgr, hb⟩ := hrel
        by_cases hfn : f < n
        · have hfI : (f : Int) < (n : Int) := by omega
          have HG := Lib.hid (rgroup_calls wr R n (reachB D) (HTA.out wr hb) hn70 f hfn)
          have hlr : (grp n (reachB D) f).length ≤ n := rf_len _ n
          obtain ⟨l, hl⟩ : ∃ l, grp n (reachB D) f = l := ⟨_, rfl⟩
          rw [hl] at HG hlr
          have hszD : Dn < wr.heap.size := (Array.getElem?_eq_some_iff.1 hdn).1
          obtain ⟨H2, hH2⟩ : ∃ H2, wr.heap.size = H2 := ⟨_, rfl⟩
          have HV2 : Hid (∀ k, (Value.slice ao ls.length cap).ownBlock = some k → k < H2) := fun k hk => by obtain ⟨_, _, h2, _⟩ := hgr.ex; have := (h2.lt k hk).2; omega
          have HL := Lib.hid hl
          have HNO := Lib.hid hno
          have HDN2 := Lib.hid hdn
          have HGR2 := Lib.hid hgr
          have HB2 := Lib.hid hb
          clear hl hno hdn hgr hb
          go_wp2_with fail
          go_at_call 80
          refine HG.out.mono ?_
          rintro e w3 ⟨vl, rfl, hown3, hb3⟩
          obtain ⟨aol, capl, rfl⟩ := ownsRow_slice hown3
          have hs33 := hb3.size
          rw [hH2] at hown3
          have hl0 : f ∈ l := by rw [← HL.out]; exact grp_self hfn
          have hlp : 0 < l.length := List.length_pos_of_mem hl0
          have hlpI : (0 : Int) < (l.length : Int) := by omega
          obtain ⟨h0, hh0⟩ : ∃ h0, l[0]? = some h0 := ⟨_, List.getElem?_eq_getElem hlp⟩
          obtain ⟨gl, rfl, hgl, cl0⟩ := ownsRow_get hown3 (j := 0) (u := .int .i64 (h0 : Int)) (by rw [encN_flat]; simp [nums, hh0])
          have hglb := (hown3.lt gl rfl).1
          have HDN3 : Hid (w3.heap[Dn]? = some (.cells (truC n (fun x => gk x != -1)) 4 (0, 0))) := (hb3.block Dn hszD).trans HDN2.out
          have cd : w3.cell? ⟨Dn, f, none⟩ = some (.bool (gk f != -1)) := by rw [cell_of_row _ _ _ _ _ _ HDN3.out, truC_get _ hfn]
          have HB3' : Hid (Below Dn w2 w3) := HB2.out.trans (hb3.mono (by omega))
          have HGR3 := Lib.hid (HGR2.out.below hb3)
          have HO3 := Lib.hid hown3
          have HH0 := Lib.hid hh0
          obtain ⟨q, hq⟩ : ∃ q, gk f = q := ⟨_, rfl⟩
          rw [hq] at cd
          have HQ := Lib.hid hq
          clear hown3 hb3 hh0 hq hl0
          by_cases hq1 : q = -1
          · by_cases hhf : h0 = f
            · subst hq1
              subst hhf
              obtain ⟨cond, hcond⟩ : ∃ cond : Nat → Bool, (fun h => (gk h != -1) || decide (h ∈ l)) = cond := ⟨_, rfl⟩
              have HCOND : Hid (∀ h, cond h = ((gk h != -1) || decide (h ∈ l))) := fun h => by rw [← hcond]
              obtain ⟨ok, hok⟩ : ∃ ok : Nat → Bool, (fun x => (D x).all cond) = ok := ⟨_, rfl⟩
              have HOK : Hid (∀ x, ok x = (D x).all cond) := fun x => by rw [← hok]
              have HRD : Hid (readyF D gk l = (l.take l.length).all ok) := by unfold Hid; rw [List.take_length, ← hok, ← hcond]; rfl
              have HLN : Hid (∀ x ∈ l, x < n) := fun x hx => by rw [← HL.out] at hx; exact (mem_grp.1 hx).1
              obtain ⟨H3, hH3⟩ : ∃ H3, w3.heap.size = H3 := ⟨_, rfl⟩
              have hDH : Dn < H3 := by omega
              have HCW : Hid (∀ W, Below H3 w3 W → Below Dn w2 W) := fun W hW => HB3'.out.trans (hW.mono (by omega))
              have HCC : Hid (∀ W, Below H3 w3 W → W.cell? ⟨N, 0, none⟩ = some (.slice sA ss.length sC) ∧ W.cell? ⟨N, 1, none⟩ = some (.slice fA n fC)) := fun W hW => ⟨(HC.out W (HCA.out W (HCW.out W hW))).1, (HC.out W (HCA.out W (HCW.out W hW))).2.1⟩
              have HLA : Hid (∀ W, Below H3 w3 W → ∀ (a x : Nat), l[a]? = some x → W.cell? ⟨gl, a, none⟩ = some (.int .i64 (x : Int))) := by
                intro W hW a x hx
                obtain ⟨g', e', h1, h2⟩ := ownsRow_get HO3.out (j := a) (u := .int .i64 (x : Int)) (by rw [encN_flat]; simp [nums, hx])
                simp only [Option.some.injEq, Addr.mk.injEq] at e'
                obtain ⟨rfl, _⟩ := e'
                exact (hW.cell (p := ⟨gl, a, none⟩) (by rw [← hH3]; exact h1)).trans h2
              have HDA : Hid (∀ W, Below H3 w3 W → ∀ x, x < n → W.cell? ⟨Dn, x, none⟩ = some (.bool (gk x != -1))) := by
                intro W hW x hx
                rw [hW.cell (p := ⟨Dn, x, none⟩) hDH, cell_of_row _ _ _ _ _ _ HDN3.out, truC_get _ hx]
              have HRIN : Hid (∀ W, Below H3 w3 W → ∀ z : Nat, Calls Try.prog 81 #[.int .i64 (z : Int), .slice (some ⟨gl, 0, none⟩) l.length capl] W fun e w' => e = .returned (.bool (decide (z ∈ l))) ∧ W = w') := by
                intro W hW z
                have h := rin_calls W (z : Int) H2 capl (some ⟨gl, 0, none⟩) l (by omega) (ownsRow_below HO3.out (by rw [hH3]; exact hW))
                rw [show decide ((z : Int) ∈ nums l) = decide (z ∈ l) from decide_eq_decide.2 mem_nums] at h
                exact h
              clear hok hcond
              go_wp2_with fail
              go_loopw [9, 10] (fun fr c wr2 => ∃ a : Nat, a ≤ l.length ∧ c = .int .i64 (a : Int) ∧ fr = .bool ((l.take a).all ok) ∧ Below H3 w3 wr2) (fun _ c _ => l.length - (intOf c).toNat)
              case atStart => exact ⟨0, Nat.zero_le _, rfl, by simp, by rw [← hH3]; exact Below.refl _ _⟩
              case round =>
                obtain ⟨a, ha, rfl, rfl, hb⟩ := hrel
                by_cases hal : a < l.length
                · have haI : (a : Int) < (l.length : Int) := by omega
                  obtain ⟨x, hx⟩ : ∃ x, l[a]? = some x := ⟨_, List.getElem?_eq_getElem hal⟩
                  have hxn := HLN.out x (List.mem_of_getElem? hx)
                  have hla := HLA.out _ hb a x hx
                  have htk := take_all_snoc ok hx
                  rw [HOK.out x] at htk
                  obtain ⟨A, hA⟩ : ∃ A, (l.take a).all ok = A := ⟨_, rfl⟩
                  rw [hA] at htk ⊢
                  have HTK := Lib.hid htk
                  have hbd := hb.drew
                  have HRC := Lib.hid (HRCA.out _ (HCA.out _ (HCW.out _ hbd)) x hxn)
                  have HB4 := Lib.hid hb
                  have hs4 := hb.size
                  obtain ⟨S, hS⟩ : ∃ S : World → Prop, S = fun w' => w'.cell? ⟨N, 0, none⟩ = some (.slice sA ss.length sC) ∧ w'.cell? ⟨N, 1, none⟩ = some (.slice fA n fC) := ⟨_, rfl⟩
                  have HSS : Hid (∀ w', S w' → w'.cell? ⟨N, 0, none⟩ = some (.slice sA ss.length sC) ∧ w'.cell? ⟨N, 1, none⟩ = some (.slice fA n fC)) := fun w' h => by rw [hS] at h; exact h
                  have HSM : Hid (∀ w', Below H3 w3 w' → S w') := fun w' h => by rw [hS]; exact HCC.out _ h
                  have hS0 : S wr.drew := HSM.out _ hbd
                  have hla' : wr.drew.cell? ⟨gl, a, none⟩ = some (.int .i64 (x : Int)) := hla
                  clear hS hx htk hA hb hbd hla
                  go_wp2_with fail
                  refine wp_region_K 6 S (by kernel_rfl) ?_
                  refine wpAnyK_take (i := 0) rfl (by kernel_rfl) (by kernel_rfl) (by kernel_rfl) (by kernel_rfl) (fun _ _ _ h => h) (Or.inl ⟨by rfl, fun w hSw => by obtain ⟨s1, s2⟩ := HSS.out w hSw; go_simp; rfl⟩) (by assumption) ?_
                  simp only [List.getElem_toArray, List.getElem_cons_zero, Act.put, List.setIfInBounds_toArray, List.set_cons_zero, List.set_cons_succ]
                  refine wpAnyK_take (i := 1) rfl (by kernel_rfl) (by kernel_rfl) (by kernel_rfl) (by kernel_rfl) (fun _ _ _ h => h) (Or.inl ⟨by rfl, fun w hSw => by obtain ⟨s1, s2⟩ := HSS.out w hSw; go_simp; rfl⟩) (by assumption) ?_
                  simp only [List.getElem_toArray, List.getElem_cons_succ, List.getElem_cons_zero, Act.put, List.setIfInBounds_toArray, List.set_cons_zero, List.set_cons_succ]
                  refine wpAnyK_take (i := 2) rfl (by kernel_rfl) (by kernel_rfl) (by kernel_rfl) (by kernel_rfl) (fun _ _ _ h => h) (Or.inl ⟨by rfl, fun w hSw => by obtain ⟨s1, s2⟩ := HSS.out w hSw; go_simp; rfl⟩) (by assumption) ?_
                  simp only [List.getElem_toArray, List.getElem_cons_succ, List.getElem_cons_zero, Act.put, List.setIfInBounds_toArray, List.set_cons_zero, List.set_cons_succ]
                  refine wpAnyK_take (i := 3) rfl (by kernel_rfl) (by kernel_rfl) (by kernel_rfl) (by kernel_rfl) (fun _ _ _ h => h) (Or.inl ⟨by rfl, fun w hSw => by obtain ⟨s1, s2⟩ := HSS.out w hSw; go_simp; rfl⟩) (by assumption) ?_
                  simp only [List.getElem_toArray, List.getElem_cons_succ, List.getElem_cons_zero, Act.put, List.setIfInBounds_toArray, List.set_cons_zero, List.set_cons_succ]
                  refine wpAnyK_run (i := 4) (v := .int .i64 (x : Int)) (w' := wr.drew) (by kernel_rfl) rfl (by rfl) (Or.inl (by go_simp)) (fun _ => hS0) ?_
                  simp only [List.getElem_toArray, List.getElem_cons_succ, List.getElem_cons_zero, Act.put, List.setIfInBounds_toArray, List.set_cons_zero, List.set_cons_succ]
                  refine wpAnyK_one (i := 5) (by kernel_rfl) rfl fun K' hK => ?_
                  rw [if_pos (by rfl)]
                  go_simp
                  go_at_call 44
                  refine HRC.out.mono ?_
                  rintro e w5 ⟨v5, rfl, hown5, hb5⟩
                  obtain ⟨ao5, cap5, rfl⟩ := ownsRow_slice hown5
                  have hbz : Below H3 w3 w5 := HB4.out.drew.trans (hb5.mono (by have e : wr.drew.heap.size = wr.heap.size := rfl; omega))
                  have hS5 : S w5 := HSM.out _ hbz
                  refine hK _ _ (fun _ => hS5) ?_
                  try simp only [List.getElem_toArray, List.getElem_cons_succ, List.getElem_cons_zero, Act.put, List.setIfInBounds_toArray, List.set_cons_zero, List.set_cons_succ]
                  refine wpAnyK_run (i := 6) (v := .slice ao5 (D x).length cap5) (w' := w5) (by kernel_rfl) rfl (by rfl) (Or.inl (by go_simp)) (fun h => absurd rfl h) ?_
                  simp only [List.getElem_toArray, List.getElem_cons_succ, List.getElem_cons_zero, Act.put, List.setIfInBounds_toArray, List.set_cons_zero, List.set_cons_succ]
                  refine wpAnyK_done (by kernel_rfl) ?_ _
                  have HO5 := Lib.hid hown5
                  have HBZ := Lib.hid hbz
                  have HDA5 := Lib.hid (HDA.out _ hbz)
                  have HRIN5 := Lib.hid (HRIN.out _ hbz)
                  have hdl := HDL.out x
                  clear hS0 hS5 hown5 hbz hb5 hla'
                  go_wp2_with fail
                  go_loopw [9, 12] (fun fr c wr5 => ∃ b : Nat, b ≤ (D x).length ∧ c = .int .i64 (b : Int) ∧ fr = .bool (A && ((D x).take b).all cond) ∧ wr5 = w5) (fun _ c _ => (D x).length - (intOf c).toNat)
                  case atStart => exact ⟨0, Nat.zero_le _, rfl, by simp, rfl⟩
                  case round =>
                    obtain ⟨b, hb, rfl, rfl, rfl⟩ := hrel
                    by_cases hbl : b < (D x).length
                    · have hbI : (b : Int) < ((D x).length : Int) := by omega
                      obtain ⟨h, hh⟩ : ∃ h, (D x)[b]? = some h := ⟨_, List.getElem?_eq_getElem hbl⟩
                      have hhn : h < n := HDN.out x h (List.mem_of_getElem? hh)
                      obtain ⟨g2, rfl, _, ch⟩ := ownsRow_get HO5.out (j := b) (u := .int .i64 (h : Int)) (by rw [encN_flat]; simp [nums, hh])
                      have cg := HDA5.out h hhn
                      have hhI : (h : Int) < (n : Int) := by omega
                      have htk := take_all_snoc cond hh
                      obtain ⟨mm, hmm⟩ : ∃ mm, decide (h ∈ l) = mm := ⟨_, rfl⟩
                      have hcr := HRIN5.out h
                      have hcn := HCOND.out h
                      rw [hmm] at hcr hcn
                      obtain ⟨dn, hdn⟩ : ∃ dn, (gk h != -1) = dn := ⟨_, rfl⟩
                      rw [hdn] at cg hcn
                      obtain ⟨fb, hfb⟩ : ∃ fb, (A && ((D x).take b).all cond) = fb := ⟨_, rfl⟩
                      have HN : Hid ((A && ((D x).take (b + 1)).all cond) = (fb && (dn || mm))) := by
                        unfold Hid; rw [htk, ← Bool.and_assoc, hfb, hcn]
                      have HCR := Lib.hid hcr
                      rw [hfb]
                      clear htk hcr hcn hmm hdn hfb hh
                      cases fb with
                      | false =>
                        go_wp2
                        go_roundw
                        case rel => exact ⟨b + 1, by omega, by go_num, by rw [HN.out]; rfl, by first | rfl | trivial⟩
                        case measure => simp [intOf]; omega
                      | true =>
                        cases dn with
                        | true =>
                          go_wp2
                          go_roundw
                          case rel => exact ⟨b + 1, by omega, by go_num, by rw [HN.out]; rfl, by first | rfl | trivial⟩
                          case measure => simp [intOf]; omega
                        | false =>
                          go_wp2_with (go_at_call 81; refine HCR.out.mono ?_; rintro e w6 ⟨rfl, rfl⟩)
                          go_roundw
                          case rel => exact ⟨b + 1, by omega, by go_num, by rw [HN.out]; rfl, by first | rfl | trivial⟩
                          case measure => simp [intOf]; omega
                    · have hbe : b = (D x).length := by omega
                      subst hbe
                      rw [List.take_length]
                      have HN2 : Hid ((A && (D x).all cond) = (l.take (a + 1)).all ok) := HTK.out.symm
                      go_wp2
                      go_roundw
                      case rel => exact ⟨a + 1, by omega, by go_num, by rw [HN2.out], HBZ.out⟩
                      case measure => simp [intOf]; omega
                · have hae : a = l.length := by omega
                  subst hae
                  rw [← HRD.out]
                  have HRB := Lib.hid hb
                  obtain ⟨rb, hrb⟩ : ∃ rb, readyF D gk l = rb := ⟨_, rfl⟩
                  rw [hrb]
                  have HRBB := Lib.hid hrb
                  clear hrb hb
                  cases rb with
                  | false =>
                    have HN : Hid (∀ x, x < h0 + 1 → (gk x == -1 && readyF D gk (grp n (reachB D) x)) = false) := by
                      intro x hx
                      by_cases e : x = h0
                      · subst e; rw [HL.out, HRBB.out, Bool.and_false]
                      · exact HNO.out x (by omega)
                    have HDN4 : Hid (wr.heap[Dn]? = some (.cells (truC n (fun x => gk x != -1)) 4 (0, 0))) := (HRB.out.block Dn hDH).trans HDN3.out
                    have HGR4 := Lib.hid (HGR3.out.below (by rw [hH3]; exact HRB.out))
                    have HB4 := Lib.hid (HCW.out _ HRB.out)
                    go_wp2
                    go_roundw
                    case rel => exact ⟨h0 + 1, by omega, rfl, by go_num, HN.out, HDN4.out, HGR4.out, HB4.out⟩
                    case measure => simp [intOf]; omega
                  | true =>
                    have hPKF := Lib.hid (pickF_at (D := D) (T := reachB D) hfn HNO.out HQ.out (by rw [HL.out]; exact HRBB.out))
                    have HDN4 : Hid (wr.heap[Dn]? = some (.cells (truC n (fun x => setF gk (l.take 0) (ls.length : Int) x != -1)) 4 (0, 0))) := by
                      have e : setF gk (l.take 0) (ls.length : Int) = gk := by funext x; simp [setF]
                      rw [e]; exact (HRB.out.block Dn hDH).trans HDN3.out
                    have HGR4 := Lib.hid (HGR3.out.below (by rw [hH3]; exact HRB.out))
                    have HB4 := Lib.hid (HCW.out _ HRB.out)
                    have HO4 := Lib.hid (ownsRow_below HO3.out (by rw [hH3]; exact HRB.out))
                    have HLA4 := Lib.hid (HLA.out _ HRB.out)
                    have hs4 := HRB.out.size
                    go_wp2_with fail
                    go_loopw [13] (fun c w5 => ∃ a : Nat, a ≤ l.length ∧ c = .int .i64 (a : Int) ∧ w5.heap[Dn]? = some (.cells (truC n (fun x => setF gk (l.take a) (ls.length : Int) x != -1)) 4 (0, 0)) ∧ Ext (· = Dn) wr w5) (fun c _ => l.length - (intOf c).toNat)
                    case atStart => exact ⟨0, Nat.zero_le _, rfl, HDN4.out, Ext.refl _ _⟩
                    case round =>
                      obtain ⟨a, ha, rfl, hdd, hx⟩ := hrel
                      by_cases hal : a < l.length
                      · have haI : (a : Int) < (l.length : Int) := by omega
                        obtain ⟨h, hh⟩ : ∃ h, l[a]? = some h := ⟨_, List.getElem?_eq_getElem hal⟩
                        have hhn : h < n := HLN.out h (List.mem_of_getElem? hh)
                        have hhI : (h : Int) < (n : Int) := by omega
                        have cl := HLA4.out a h hh
                        have cl2 := (hx.cell (a := ⟨gl, a, none⟩) (spot_of_cell cl).2 (show ¬ gl = Dn by omega)).trans cl
                        have cd2 : wr.cell? ⟨Dn, h, none⟩ = some (.bool (setF gk (l.take a) (ls.length : Int) h != -1)) := by rw [cell_of_row _ _ _ _ _ _ hdd, truC_get _ hhn]
                        have fd2 : wr.frozen? ⟨Dn, h, none⟩ = false := frozen_of_row _ _ _ _ _ hdd
                        have HN := Lib.hid (done_mark hdd hh)
                        have HX := Lib.hid (hx.setCell (a := ⟨Dn, h, none⟩) (.inl rfl) (.bool true))
                        clear hdd hx hh cl
                        go_wp2
                        go_roundw
                        case rel => exact ⟨a + 1, by omega, by go_num, HN.out, HX.out⟩
                        case measure => simp [intOf]; omega
                      · have hae : a = l.length := by omega
                        subst hae
                        rw [List.take_length] at hdd
                        have hR5 := HGR4.out.ext hx (fun k h1 _ e => by omega)
                        obtain ⟨vals, v1, v2, v3⟩ := hR5.ex
                        have hol : wr.ownsRow (Dn + 1) 3 1 (.slice (some ⟨gl, 0, none⟩) l.length capl) l.length (l.flatMap encN) := ownsRow_base (ownsRow_ext HO4.out hx (fun k hk e => by have := (HO4.out.lt k hk).1; omega)) (fun k hk => by have := (HO4.out.lt k hk).1; omega)
                        have hne : ∀ k, (Value.slice (some ⟨gl, 0, none⟩) l.length capl).ownBlock = some k → (Value.slice ao ls.length cap).ownBlock ≠ some k := fun k hk hk' => by
                          have h1 := (HO4.out.lt k hk).1
                          have h2 := HV2.out k hk'
                          omega
                        have hszw : Dn + 1 ≤ wr.heap.size := by have := hx.size; omega
                        have hst : partN n D (reachB D) (k + 1) = (setF gk l (ls.length : Int), ls ++ [l]) := by
                          show partS n D (reachB D) (partN n D (reachB D) k) = _
                          rw [HS.out]
                          unfold partS
                          rw [hPKF.out]
                          show (setF gk (grp n (reachB D) h0) (ls.length : Int), ls ++ [grp n (reachB D) h0]) = _
                          rw [HL.out]
                        obtain ⟨i0, hi0, hi1, hi2, hi3⟩ := info_parts info_rowC
                        have HK : Hid (∀ (g5 cap5 : Nat) (w5 : World), w5.ownsRow (Dn + 1) 22 1 (.slice (some ⟨g5, 0, none⟩) (ls.length + 1) cap5) (ls.length + 1) (vals ++ [.slice (some ⟨gl, 0, none⟩) l.length capl]) →
                            (wr.alloc (.cells #[.slice (some ⟨gl, 0, none⟩) l.length capl] 22)).grownBy w5 (Value.slice ao ls.length cap).ownBlock → ((Value.slice ao ls.length cap).ownBlock = some g5 ∨ g5 = (wr.alloc (.cells #[.slice (some ⟨gl, 0, none⟩) l.length capl] 22)).heap.size) →
                            w5.heap[Dn]? = some (.cells (truC n (fun x => (partN n D (reachB D) (k + 1)).1 x != -1)) 4 (0, 0)) ∧ GrpI w5 (Dn + 1) (.slice (some ⟨g5, 0, none⟩) (ls.length + 1) cap5) (partN n D (reachB D) (k + 1)).2 ∧ Below Dn w2 w5) := by
                          intro g5 cap5 w5 h1 h2 h3
                          rw [hst]
                          have hA : Ext (fun _ => False) wr (wr.alloc (.cells #[.slice (some ⟨gl, 0, none⟩) l.length capl] 22)) := (Ext.refl _ _).alloc _
                          have hx5 : Ext (fun k => (Value.slice ao ls.length cap).ownBlock = some k) wr w5 := ext_grown hA h2
                          have hlow : ∀ k, (Value.slice ao ls.length cap).ownBlock = some k → Dn + 1 ≤ k := fun k hk => (v2.lt k hk).1
                          have hgr5 : GrpI w5 (Dn + 1) (.slice (some ⟨g5, 0, none⟩) (ls.length + 1) cap5) (ls ++ [l]) := GrpI.app hR5 hol hne hA h2 vals v1 v3 h1 (fun k hk => by
                            have e : some g5 = some k := hk
                            obtain rfl := Option.some.inj e
                            rcases h3 with h | h
                            · exact .inl h
                            · right; omega)
                          refine ⟨hx5.heap hdd (fun e => by have := hlow Dn e; omega), hgr5, ?_⟩
                          have hsz2 := HB4.out.size
                          exact HB4.out.trans ((hx.below (B := Dn) (by omega) (fun k hk => by omega)).trans (hx5.below (by omega) (fun k hk => by have := hlow k hk; omega)))
                        have HV5 := Lib.hid v2
                        have hk70 : ls.length ≤ 70 := by omega
                        have HST := Lib.hid hst
                        clear hdd hx hR5 v1 v2 v3 hol hne hst
                        go_wp2_with (at_builtin; refine wpList_append_lies _ rfl _ _ 63 rfl (Dn + 1) 22 i0 (.slice none 0 0) 1 24 Try.underlying63 hi0 hi1 hi2 hi3 rfl (by decide) (.slice ao ls.length cap) ls.length vals rfl (ownsRow_below HV5.out ((Below.refl wr.heap.size wr).alloc (Nat.le_refl _) _)) ⟨wr.heap.size, 0, none⟩ 1 1 [.slice (some ⟨gl, 0, none⟩) l.length capl] rfl rfl (cells_new _ _ _) (by simp [Value.oneCell']) (by decide) (by unfold maxLen; omega) (by omega) (by rw [World.size_alloc]; omega) _ rfl ?_; intro g5 cap5 w5 hown5 hgrow5 hat5 hlt5; have HR5 := Lib.hid (HK.out g5 cap5 w5 hown5 hgrow5 hat5); clear hown5 hgrow5 hat5 hlt5)
                        go_roundw
                        case rel => exact ⟨k + 1, by omega, by go_num, HR5.out⟩
                        case measure => simp [intOf]; omega
            · have hne : ((h0 : Int) != (f : Int)) = true := by rw [bne_iff_ne]; omega
              have HN : Hid (∀ x, x < f + 1 → (gk x == -1 && readyF D gk (grp n (reachB D) x)) = false) := by
                intro x hx
                by_cases e : x = f
                · subst e
                  exact head_skip HPK.out hfn (by rw [HL.out]; exact HH0.out) hhf HNO.out
                · exact HNO.out x (by omega)
              subst hq1
              clear hhf
              go_wp2
              go_roundw
              case rel => exact ⟨f + 1, by omega, rfl, by go_num, HN.out, HDN3.out, HGR3.out, HB3'.out⟩
              case measure => simp [intOf]; omega
          · have hq2 : (q != -1) = true := by rw [bne_iff_ne]; exact hq1
            have HN : Hid (∀ x, x < f + 1 → (gk x == -1 && readyF D gk (grp n (reachB D) x)) = false) := by
              intro x hx
              by_cases e : x = f
              · subst e; rw [HQ.out, beq_eq_false_iff_ne.2 hq1]; rfl
              · exact HNO.out x (by omega)
            clear hq1
            rw [hq2] at cd
            go_wp2
            go_roundw
            case rel => exact ⟨f + 1, by omega, rfl, by go_num, HN.out, HDN3.out, HGR3.out, HB3'.out⟩
            case measure => simp [intOf]; omega
        · have hfe : f = n := by omega
          subst hfe
          have hst : partN f D (reachB D) (k + 1) = (gk, ls) := by
            show partS f D (reachB D) (partN f D (reachB D) k) = _
            rw [HS.out]; exact partS_stop (pickF_none hno)
          have HN : Hid (wr.heap[Dn]? = some (.cells (truC f (fun x => (partN f D (reachB D) (k + 1)).1 x != -1)) 4 (0, 0)) ∧ GrpI wr (Dn + 1) (.slice ao ls.length cap) (partN f D (reachB D) (k + 1)).2 ∧ Below Dn w2 wr) := by
            rw [hst]; exact ⟨hdn, hgr, hb⟩
          clear hno hdn hgr hb hst
          go_wp2
          go_roundw
          case rel => exact ⟨k + 1, by omega, by go_num, HN.out⟩
          case measure => simp [intOf]; omega
    · have hke : k = n := by omega
      subst hke
      obtain ⟨ao, cap, hv⟩ := hgr.slice
      subst hv
      have HN : Hid (GrpI wr w.heap.size (.slice ao (partN k D (reachB D) k).2.length cap) (partN k D (reachB D) k).2 ∧ Below w.heap.size w wr) :=
        ⟨hgr.base (by have := HB1.out.size; have := HB.out; omega), HB1.out.trans ((HCA.out wr hb).mono (by have := HB1.out.size; have := HB.out; omega))⟩
      clear hdn hgr hb
      go_wp2
      go_ret
      exact ⟨_, rfl, HN.out⟩
end Go.Proofs.Ytbbogkcfngpbbaa
