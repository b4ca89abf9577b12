import Derived.Test.YtlggjbopfnndbaaIrP
import Derived.Test.YtlggjbopfnndbaaRegC

namespace Go.Proofs.Ytlggjbopfnndbaa
open Go.RowKit

def eaEnc (p : Vr × Nat) : Array Value := #[.agg #[.bool p.1.ptr, .string p.1.tgt, .int .i64 p.1.cls], .int .i64 (p.2 : Int)]

def Fn.retV (f : Fn) : Vr := ⟨f.c.rp, f.c.rto, f.c.rcl⟩
def eachFrom : Nat → List Fn → List (Vr × Nat)
  | _, [] => []
  | j, f :: r => f.vs.map (fun v => (v, j)) ++ ((f.retV, j) :: eachFrom (j + 1) r)
def eachF (m : Mo) : List (Vr × Nat) := eachFrom 0 m.fs
def tailE (m : Mo) (j : Nat) : List (Vr × Nat) := eachFrom j (m.fs.drop j)

theorem tailE_step {m : Mo} {j : Nat} {f : Fn} (h : m.fs[j]? = some f) : tailE m j = (f.vs.drop 0).map (fun v => (v, j)) ++ ((f.retV, j) :: tailE m (j + 1)) := by
  obtain ⟨hj, e⟩ := List.getElem?_eq_some_iff.1 h
  unfold tailE
  rw [List.drop_eq_getElem_cons hj, e]
  rfl
theorem tailE_end (m : Mo) : tailE m m.fs.length = [] := by unfold tailE; simp [eachFrom]
theorem dropE_step {l : List Vr} {q j : Nat} {x : Vr} (h : l[q]? = some x) : (l.drop q).map (fun v => (v, j)) = (x, j) :: (l.drop (q + 1)).map (fun v => (v, j)) := by
  obtain ⟨hj, e⟩ := List.getElem?_eq_some_iff.1 h
  rw [List.drop_eq_getElem_cons hj, e, List.map_cons]
theorem preE_step {α : Type} {pre r : List α} {x : α} {xs : List α} (h : xs = pre ++ x :: r) : (pre ++ [x]) <+: xs ∧ xs = (pre ++ [x]) ++ r := by
  subst h
  exact ⟨⟨r, by simp⟩, by simp⟩

set_option maxRecDepth 100000 in
set_option maxHeartbeats 16000000 in
theorem each1_iter (w0 w : World) (m : Mo) (B : Nat) (h : m.inn w0) (hb : Below w0.heap.size w0 w) (hB : w.heap[B]? = some (.cells m.cells 25 (0, 0))) (hvl : ∀ f ∈ m.fs, f.vs.length ≤ 90000) (hfn : m.fs.length ≤ 90000) :
    Iter Try.prog 98 #[.pointer (some ⟨B, 0, none⟩)] eaEnc (eachF m) (tyRd w0.heap.size B) w := by
  intro l J Jx C W hbw hst hJC hstx hmeet hJ
  have HST := Lib.hid hst
  have HJC := Lib.hid hJC
  have HM := Lib.hid hmeet
  have HJ := Lib.hid hJ
  have HVL := Lib.hid hvl
  have hWB : W.heap[B]? = some (.cells m.cells 25 (0, 0)) := (hbw.block B (Array.getElem?_eq_some_iff.1 hB).1).trans hB
  obtain ⟨N, hN⟩ : ∃ N, w0.heap.size = N := ⟨_, rfl⟩
  rw [hN] at HJC
  have HR : Hid (∀ W1, Ext (fun k => ¬ tyRd N B k) W W1 → W1.cell? ⟨B, 1, none⟩ = some (.slice m.fA m.fs.length m.fC) ∧ m.inn W1 ∧ B < W1.heap.size) := by
    intro W1 hx
    have q := hx.heap hWB (fun h => h (.inr rfl))
    refine ⟨by rw [cell_of_row _ _ _ _ _ _ q]; rfl, ?_, (Array.getElem?_eq_some_iff.1 q).1⟩
    have b1 : Below w0.heap.size w0 W := hb.trans (hbw.mono hb.size)
    have b2 : Below N W W1 := hx.below (by rw [← hN]; exact b1.size) (fun k hk => by
      by_cases e : k < N
      · exact absurd (.inl e) hk
      · omega)
    exact h.below (b1.trans (by rw [hN]; exact b2))
  obtain ⟨XS, hXS⟩ : ∃ X, eachF m = X := ⟨_, rfl⟩
  rw [hXS] at HM ⊢
  have HXS : Hid (XS = tailE m 0) := by rw [← hXS]; rfl
  obtain ⟨c1, _, hBl⟩ := HR.out W (Ext.refl _ _)
  have HNW : Hid (N ≤ W.heap.size) := by have := hb.size; have := hbw.size; unfold Hid; omega
  clear hst hJC hstx hmeet hJ h hb hB hbw hWB hXS hN hvl
  show Calls _ _ #[.func (.yield l) #[] #[], .pointer (some ⟨B, 0, none⟩)] _ _
  go_enter Try.func98, Try.ntmps98
  go_wp2_with fail
  go_loopw [10] (fun c wr => ∃ (j : Nat) (pre : List (Vr × Nat)) (C : Nat → Prop), j ≤ m.fs.length ∧ c = .int .i64 (j : Int) ∧ XS = pre ++ tailE m j ∧ J pre C wr ∧ Ext (fun k => ¬ tyRd N B k) W wr) (fun c _ => m.fs.length - (intOf c).toNat)
  case atStart => exact ⟨0, [], C, Nat.zero_le _, rfl, HXS.out, HJ.out, Ext.refl _ _⟩
  case round =>
    clear c1
    obtain ⟨j, pre, C1, hj, rfl, hxs, hJ1, hx1⟩ := hrel
    have HX1 := Lib.hid hx1
    have HJ1 := Lib.hid hJ1
    obtain ⟨_, hmin, _⟩ := HR.out wr hx1
    by_cases hjl : j < m.fs.length
    · obtain ⟨f, hf⟩ : ∃ f, m.fs[j]? = some f := ⟨_, List.getElem?_eq_getElem hjl⟩
      have hfm := List.mem_of_getElem? hf
      have hfnv := (hmin.fin f hfm).nvars
      obtain ⟨fb, foff, hfA, hfb, hfc⟩ := hmin.frow (by intro e; rw [e] at hjl; simp at hjl)
      have HFC : Hid (∀ k u, f.cells.toList[k]? = some u → wr.cell? ((⟨fb, foff + j * 8, none⟩ : Addr).add k) = some u) := fun k u hu => by
        rw [Addr.add_lit]; exact hfc j f hf k u hu
      obtain ⟨P, hP⟩ : ∃ P, wr.heap.size = P := ⟨_, rfl⟩
      obtain ⟨W3, hW3⟩ : ∃ W3, wr.alloc (.cells f.cells 50) = W3 := ⟨_, rfl⟩
      have hst3 : ∀ (c : Array Value), c.size = 8 → (storeCells ⟨P, 0, none⟩ f.cells.toList 0).run Try.prog (wr.alloc (.cells c 50)) = .ok () W3 := fun c hc => by
        rw [← hW3, ← hP]
        exact run_storeCells_new (P := Try.prog) wr 50 c f.cells (by show _ = some 8; kernel_rfl) hc (fnOne f)
      have hr3 : W3.heap[P]? = some (.cells f.cells 50 (0, 0)) := by rw [← hW3, ← hP]; exact alloc_at _ _
      have p2 : W3.cell? ⟨P, 2, none⟩ = some (.slice f.c.varsA f.vs.length f.c.varsC) := by rw [cell_of_row _ _ _ _ _ _ hr3, ← hfnv]; rfl
      have hPlt : P < W3.heap.size := (Array.getElem?_eq_some_iff.1 hr3).1
      have HX3 : Hid (Ext (fun k => ¬ tyRd N B k) W W3) := by rw [← hW3]; exact HX1.out.alloc _
      have hJ3 : J pre C1 W3 := by rw [← hW3]; exact HST.out _ _ _ _ HJ1.out ((Ext.refl _ _).alloc _)
      have HJ3 := Lib.hid hJ3
      have HNP : Hid (¬ C1 P) := fun h => by have := (HJC.out _ _ _ HJ1.out P h).1; omega
      have HNN : Hid (N ≤ P ∧ P ≠ B) := by
        have h1 := HX1.out.size
        have h2 := (HR.out wr hx1).2.2
        have h3 := HNW.out
        have h4 := (HR.out W (Ext.refl _ _)).2.2
        exact ⟨by omega, by omega⟩
      have HR3 := Lib.hid hr3
      have hxf : XS = pre ++ ((f.vs.drop 0).map (fun v => (v, j)) ++ ((f.retV, j) :: tailE m (j + 1))) := by rw [hxs, tailE_step hf]
      have HXF := Lib.hid hxf
      have hjI : (j : Int) < (m.fs.length : Int) := by omega
      have hvl := HVL.out f hfm
      have HVR : Hid (∀ W1, Ext (fun k => ¬ tyRd N B k) W W1 → RowOf Vr.cells 3 W1 W1.heap.size f.c.varsA f.vs) := fun W1 hx => ((HR.out W1 hx).2.1.fin f hfm).vars
      rw [hfA]
      clear hx1 hJ1 hxs hf hfb hfc hr3 hW3 hJ3 hxf hmin
      go_upto_region 3 with (refine wpList_load_at rfl 50 _ rfl ⟨fb, foff + j * 8, none⟩ rfl f.cells _ HFC.out Try.underlying50 rfl (by kernel_rfl) ?_)
      go_wp2_with fail
      clear p2
      obtain ⟨wo2, hwo2⟩ : ∃ wo, wo = wr := ⟨_, rfl⟩
      subst hwo2
      go_loopw [18] (fun c wq => ∃ (q : Nat) (pre : List (Vr × Nat)) (C : Nat → Prop), q ≤ f.vs.length ∧ c = .int .i64 (q : Int) ∧ XS = pre ++ ((f.vs.drop q).map (fun v => (v, j)) ++ ((f.retV, j) :: tailE m (j + 1))) ∧ J pre C wq ∧ Ext (fun k => ¬ tyRd N B k) W wq ∧ wq.heap[P]? = some (.cells f.cells 50 (0, 0)) ∧ ¬ C P) (fun c _ => f.vs.length - (intOf c).toNat)
      case atStart => exact ⟨0, pre, C1, Nat.zero_le _, rfl, HXF.out, HJ3.out, HX3.out, HR3.out, HNP.out⟩
      case round =>
        obtain ⟨q, pq, C2, hq, rfl, hxq, hJq, hx2, hrp, hnp⟩ := hrel
        have HXQ := Lib.hid hx2
        have HJQ := Lib.hid hJq
        have HRP := Lib.hid hrp
        have HNP2 := Lib.hid hnp
        have hPl : P < wr.heap.size := (Array.getElem?_eq_some_iff.1 hrp).1
        by_cases hql : q < f.vs.length
        · obtain ⟨x, hx⟩ : ∃ x, f.vs[q]? = some x := ⟨_, List.getElem?_eq_getElem hql⟩
          obtain ⟨vb, voff, hvA, hvb, hvc⟩ := HVR.out wr hx2 (by intro e; rw [e] at hql; simp at hql)
          have HVC : Hid (∀ k u, x.cells.toList[k]? = some u → wr.cell? ((⟨vb, voff + q * 3, none⟩ : Addr).add k) = some u) := fun k u hu => by
            rw [Addr.add_lit]; exact hvc q x hx k u hu
          obtain ⟨P2, hP2⟩ : ∃ P, wr.heap.size = P := ⟨_, rfl⟩
          obtain ⟨W4, hW4⟩ : ∃ W4, wr.alloc (.cells x.cells 47) = W4 := ⟨_, rfl⟩
          have hst4 : ∀ (c : Array Value), c.size = 3 → (storeCells ⟨P2, 0, none⟩ x.cells.toList 0).run Try.prog (wr.alloc (.cells c 47)) = .ok () W4 := fun c hc => by
            rw [← hW4, ← hP2]
            exact run_storeCells_new (P := Try.prog) wr 47 c x.cells (by show _ = some 3; kernel_rfl) hc (vr_cells_one x)
          have hr4 : W4.heap[P2]? = some (.cells x.cells 47 (0, 0)) := by rw [← hW4, ← hP2]; exact alloc_at _ _
          have p0 : W4.cell? ⟨P2, 0, none⟩ = some (.bool x.ptr) := by rw [cell_of_row _ _ _ _ _ _ hr4]; rfl
          have p1 : W4.cell? ⟨P2, 1, none⟩ = some (.string x.tgt) := by rw [cell_of_row _ _ _ _ _ _ hr4]; rfl
          have p2 : W4.cell? ⟨P2, 2, none⟩ = some (.int .i64 x.cls) := by rw [cell_of_row _ _ _ _ _ _ hr4]; rfl
          have hPlt4 : P2 < W4.heap.size := (Array.getElem?_eq_some_iff.1 hr4).1
          have hx24 : Ext (fun _ => False) wr W4 := by rw [← hW4]; exact (Ext.refl _ _).alloc _
          have HX4 : Hid (Ext (fun k => ¬ tyRd N B k) W W4) := HXQ.out.trans hx24 (fun _ h => h.elim)
          have hJ4 : J pq C2 W4 := HST.out _ _ _ _ HJQ.out (hx24.mono (fun _ h => h.elim))
          have HJ4 := Lib.hid hJ4
          have HRP4 : Hid (W4.heap[P]? = some (.cells f.cells 50 (0, 0))) := hx24.heap hrp (fun h => h)
          have hxf : XS = pq ++ (x, j) :: ((f.vs.drop (q + 1)).map (fun v => (v, j)) ++ ((f.retV, j) :: tailE m (j + 1))) := by rw [hxq, dropE_step hx]; rfl
          have HP4 := Lib.hid (preE_step hxf)
          have HMM := Lib.hid (HM.out pq (x, j) C2 W4 hJ4 HP4.out.1)
          unfold eaEnc at HMM
          simp only at HMM
          have hqI : (q : Int) < (f.vs.length : Int) := by omega
          rw [hvA]
          clear hx2 hJq hxq hx hvb hvc hr4 hW4 hJ4 hxf hrp hnp hx24
          go_upto_region 5 with (refine wpList_load_at rfl 47 _ rfl ⟨vb, voff + q * 3, none⟩ rfl x.cells _ HVC.out Try.underlying47 rfl (by kernel_rfl) ?_)
          go_upto_region 6 with (refine wpList_load_at rfl 47 _ rfl ⟨vb, voff + q * 3, none⟩ rfl x.cells _ HVC.out Try.underlying47 rfl (by kernel_rfl) ?_)
          refine (wpIn_wide (n := 0)).1 ?_
          refine wpIn_region_lit (wpListIn_ok rfl (by simp) (.func (.yield l) #[] #[]) (w' := W4) (by simp [go_sem]) ?_)
          simp only [Act.put, List.setIfInBounds_toArray, List.set_cons_zero, List.set_cons_succ]
          refine wpListIn_ok rfl (by simp) (.agg #[.bool x.ptr, .string x.tgt, .int .i64 x.cls]) (w' := W4) (by simp [go_sem, p0, p1, p2]) ?_
          simp only [Act.put, List.setIfInBounds_toArray, List.set_cons_zero, List.set_cons_succ]
          refine wpListIn_ok rfl (by simp) (.int .i64 (j : Int)) (w' := W4) (by simp [go_sem]) ?_
          simp only [Act.put, List.setIfInBounds_toArray, List.set_cons_zero, List.set_cons_succ]
          refine wpListIn_meets (fv := .func (.yield l) #[] #[]) (args := #[.agg #[.bool x.ptr, .string x.tgt, .int .i64 x.cls], .int .i64 (j : Int)]) rfl (.tmp 22) #[.tmp 23, .tmp 24] _ rfl rfl (by simp [Act.eval]) HMM.out ?_
          intro v w3 hv
          simp only [Act.put, List.setIfInBounds_toArray, List.set_cons_zero, List.set_cons_succ]
          rcases hv with ⟨rfl, C', hC', hJ', hx'⟩ | ⟨rfl, hJ'⟩
          · refine wpListIn_ok rfl (by simp) (.bool false) (w' := w3) (by simp [go_sem]) ?_
            simp only [Act.put, List.setIfInBounds_toArray, List.set_cons_zero, List.set_cons_succ]
            refine wpListIn_nil ?_
            have HN4 : Hid (J (pq ++ [(x, j)]) C' w3 ∧ Ext (fun k => ¬ tyRd N B k) W w3 ∧ w3.heap[P]? = some (.cells f.cells 50 (0, 0)) ∧ ¬ C' P) := ⟨hJ', HX4.out.trans hx' (fun k hk => .inl ((HJC.out _ _ _ HJ4.out k hk).2)), hx'.heap HRP4.out HNP2.out, fun h => by
              rcases hC' P h with h | h
              · exact HNP2.out h
              · omega⟩
            clear hJ' hx' hC' p0 p1 p2
            go_wp2
            go_roundw
            case rel => exact ⟨q + 1, _, C', by omega, by go_num, HP4.out.2, HN4.out.1, HN4.out.2.1, HN4.out.2.2.1, HN4.out.2.2.2⟩
            case measure => simp [intOf]; omega
          · refine wpListIn_ok rfl (by simp) (.bool true) (w' := w3) (by simp [go_sem]) ?_
            simp only [Act.put, List.setIfInBounds_toArray, List.set_cons_zero, List.set_cons_succ]
            refine wpListIn_nil ?_
            have HF : Hid (∃ pre, pre <+: XS ∧ Jx pre w3) := ⟨_, HP4.out.1, hJ'⟩
            clear hJ' p0 p1 p2
            go_wp2
            ((try simp only [Exit.inBlock, Exit.then]); (try rw [Exit.noGoto_ret]); (first | refine bodyPost_ret (results_none rfl _ _ _) rfl ?_ | refine bodyPost_end (results_none rfl _ _ _) rfl ?_))
            exact ⟨_, rfl, .inr HF.out⟩
        · have hqe : q = f.vs.length := by omega
          subst hqe
          have hxf : XS = pq ++ (f.retV, j) :: tailE m (j + 1) := by rw [hxq]; simp
          have HP4 := Lib.hid (preE_step hxf)
          have HMM := Lib.hid (HM.out pq (f.retV, j) C2 wr hJq HP4.out.1)
          unfold eaEnc Fn.retV at HMM
          simp only at HMM
          have p3 : wr.cell? ⟨P, 3, none⟩ = some (.bool f.c.rp) := by rw [cell_of_row _ _ _ _ _ _ hrp]; rfl
          have p4 : wr.cell? ⟨P, 4, none⟩ = some (.string f.c.rto) := by rw [cell_of_row _ _ _ _ _ _ hrp]; rfl
          have p5 : wr.cell? ⟨P, 5, none⟩ = some (.int .i64 f.c.rcl) := by rw [cell_of_row _ _ _ _ _ _ hrp]; rfl
          clear hx2 hJq hxq hxf hrp hnp
          go_upto_region 8 with (fail)
          refine (wpIn_wide (n := 0)).1 ?_
          refine wpIn_region_lit (wpListIn_ok rfl (by simp) (.func (.yield l) #[] #[]) (w' := wr) (by simp [go_sem]) ?_)
          simp only [Act.put, List.setIfInBounds_toArray, List.set_cons_zero, List.set_cons_succ]
          refine wpListIn_ok rfl (by simp) (.pointer (some ⟨P, 3, none⟩)) (w' := wr) (by simp [go_sem]) ?_
          simp only [Act.put, List.setIfInBounds_toArray, List.set_cons_zero, List.set_cons_succ]
          refine wpListIn_ok rfl (by simp) (.agg #[.bool f.c.rp, .string f.c.rto, .int .i64 f.c.rcl]) (w' := wr) (by simp [go_sem, p3, p4, p5]) ?_
          simp only [Act.put, List.setIfInBounds_toArray, List.set_cons_zero, List.set_cons_succ]
          refine wpListIn_ok rfl (by simp) (.int .i64 (j : Int)) (w' := wr) (by simp [go_sem]) ?_
          simp only [Act.put, List.setIfInBounds_toArray, List.set_cons_zero, List.set_cons_succ]
          refine wpListIn_meets (fv := .func (.yield l) #[] #[]) (args := #[.agg #[.bool f.c.rp, .string f.c.rto, .int .i64 f.c.rcl], .int .i64 (j : Int)]) rfl (.tmp 28) #[.tmp 30, .tmp 31] _ rfl rfl (by simp [Act.eval]) HMM.out ?_
          intro v w3 hv
          simp only [Act.put, List.setIfInBounds_toArray, List.set_cons_zero, List.set_cons_succ]
          rcases hv with ⟨rfl, C', hC', hJ', hx'⟩ | ⟨rfl, hJ'⟩
          · refine wpListIn_ok rfl (by simp) (.bool false) (w' := w3) (by simp [go_sem]) ?_
            simp only [Act.put, List.setIfInBounds_toArray, List.set_cons_zero, List.set_cons_succ]
            refine wpListIn_nil ?_
            have HN4 : Hid (J (pq ++ [(f.retV, j)]) C' w3 ∧ Ext (fun k => ¬ tyRd N B k) W w3) := ⟨hJ', HXQ.out.trans hx' (fun k hk => .inl ((HJC.out _ _ _ HJQ.out k hk).2))⟩
            clear hJ' hx' hC' p3 p4 p5
            go_wp2
            go_roundw
            case rel => exact ⟨j + 1, _, C', by omega, by go_num, HP4.out.2, HN4.out.1, HN4.out.2⟩
            case measure => simp [intOf]; omega
          · refine wpListIn_ok rfl (by simp) (.bool true) (w' := w3) (by simp [go_sem]) ?_
            simp only [Act.put, List.setIfInBounds_toArray, List.set_cons_zero, List.set_cons_succ]
            refine wpListIn_nil ?_
            have HF : Hid (∃ pre, pre <+: XS ∧ Jx pre w3) := ⟨_, HP4.out.1, hJ'⟩
            clear hJ' p3 p4 p5
            go_wp2
            ((try simp only [Exit.inBlock, Exit.then]); (try rw [Exit.noGoto_ret]); (first | refine bodyPost_ret (results_none rfl _ _ _) rfl ?_ | refine bodyPost_end (results_none rfl _ _ _) rfl ?_))
            exact ⟨_, rfl, .inr HF.out⟩
    · have hje : j = m.fs.length := by omega
      subst hje
      rw [tailE_end, List.append_nil] at hxs
      have HXE : Hid (J XS C1 wr) := by unfold Hid; rw [hxs]; exact HJ1.out
      clear hx1 hJ1 hxs hmin
      go_wp2
      ((try simp only [Exit.inBlock, Exit.then]); (try rw [Exit.noGoto_ret]); (first | refine bodyPost_ret (results_none rfl _ _ _) rfl ?_ | refine bodyPost_end (results_none rfl _ _ _) rfl ?_))
      exact ⟨_, rfl, .inl ⟨C1, HXE.out⟩⟩
end Go.Proofs.Ytlggjbopfnndbaa
