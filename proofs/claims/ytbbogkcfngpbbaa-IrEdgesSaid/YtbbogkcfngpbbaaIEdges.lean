/- IrEdges, at any code and any number: true. -/
import Derived.Test.YtbbogkcfngpbbaaIrEd
import Derived.Test.YtbbogkcfngpbbaaIrS
import Derived.Test.YtbbogkcfngpbbaaTwo
import Derived.Test.YtbbogkcfngpbbaaSepX
namespace Go.Proofs.Ytbbogkcfngpbbaa
open Go.RowKit
attribute [local go_sem] Oper.semAt_some

theorem edges_results (tmps : Array Value) (w : World) (ad : Addr) (v : Value) (ht : tmps[4]? = some (.pointer (some ad))) (hc : w.cell? ad = some v) : (results Try.f6 tmps).run Try.prog w = .ok v w := by
  simp [results, go_sem, ht, hc]

private theorem fold_two (p q : Tmp) (v u : Value) (t : Array Value) : ((#[p, q] : Array Tmp).zip #[v, u]).foldl (fun t (p, v) => t.setIfInBounds p v) t = (t.setIfInBounds p v).setIfInBounds q u := by simp

theorem code_fold (c : Cod) : Array.foldl (fun (cs : Array Value) (x : Value × Nat) => cs.setIfInBounds x.snd x.fst) #[Value.string { data := #[] }, Value.int IntKind.i64 0, Value.slice none 0 0, Value.bool false, Value.string { data := #[] }, Value.int IntKind.i64 0, Value.slice none 0 0, Value.slice none 0 0] c.cells.zipIdx 0 8 = c.cells := by
  obtain ⟨nm, par, varsA, nvars, varsC, rp, rto, rcl, fromA, nfrom, fromC, insA, insC, ins⟩ := c
  simp [Cod.cells, Array.zipIdx]

/-- A function that gives true, and nothing that was there has changed. -/
def YesW (w : World) (e : Ending) (w' : World) : Prop := e = .returned (.bool true) ∧ Below w.heap.size w w'

set_option maxRecDepth 100000 in
theorem edgesF_calls (w : World) (c : Cod) : Calls Try.prog 31 #[.agg c.cells] w fun e w' =>
    e = .returned (.func (.func 74) #[] #[.pointer (some ⟨w.heap.size, 0, none⟩)]) ∧ w' = w.alloc (.cells c.cells 48) := by
  go_enter Try.func31, Try.ntmps31
  go_wp2
  go_ret
  exact ⟨rfl, rfl⟩

set_option maxRecDepth 100000 in
set_option maxHeartbeats 4000000 in
theorem edges5_calls (c : Cod) (stop : Int) (w : World) (hin : c.inn w) : Calls Try.prog 6 #[.agg c.cells, .int .i64 stop] w (YesW w) := by
  have HIN := Lib.hid hin
  clear hin
  obtain ⟨N, hN⟩ : ∃ N, w.heap.size = N := ⟨_, rfl⟩
  obtain ⟨W1, hW1⟩ : ∃ W1, ((w.alloc (.cells c.cells 48)).alloc (.cells #[.int .i64 stop] 3)).alloc (.cells #[.bool false] 4) = W1 := ⟨_, rfl⟩
  have hb1 : Below w.heap.size w W1 := by rw [← hW1]; exact (((Below.refl _ _).alloc (Nat.le_refl _) _).alloc (by simp) _).alloc (by simp; omega) _
  have hsz : W1.heap.size = N + 3 := by rw [← hW1]; simp [hN]
  have hx0 : W1.heap[N]? = some (.cells c.cells 48 (0, 0)) := by
    rw [← hW1, ← hN, Below.heap_alloc _ _ _ (by simp; omega), Below.heap_alloc _ _ _ (by simp)]; exact alloc_at _ _
  have hstp : W1.heap[N + 1]? = some (.cells #[.int .i64 stop] 3 (0, 0)) := by
    rw [← hW1, ← hN, Below.heap_alloc _ _ _ (by simp)]
    have := alloc_at (w.alloc (.cells c.cells 48)) (.cells #[.int .i64 stop] 3)
    rwa [World.size_alloc] at this
  have hres : W1.heap[N + 2]? = some (.cells #[.bool false] 4 (0, 0)) := by
    rw [← hW1, ← hN]
    have := alloc_at ((w.alloc (.cells c.cells 48)).alloc (.cells #[.int .i64 stop] 3)) (.cells #[.bool false] 4)
    rwa [World.size_alloc, World.size_alloc] at this
  have hin1 := HIN.out.below hb1
  have HS : Hid (∀ W, Below (N + 3) W1 W → W.heap[N]? = some (.cells c.cells 48 (0, 0)) ∧ W.cell? ⟨N, 7, none⟩ = some (.slice c.insA c.ins.length c.insC) ∧ W.cell? ⟨N + 1, 0, none⟩ = some (.int .i64 stop) ∧ W.cell? ⟨N + 2, 0, none⟩ = some (.bool false) ∧ W.frozen? ⟨N + 2, 0, none⟩ = false ∧ c.inn W ∧ N + 3 ≤ W.heap.size) := by
    intro W h1
    have h4 := (h1.block N (by omega)).trans hx0
    have h6 := (h1.block (N + 1) (by omega)).trans hstp
    have h5 := (h1.block (N + 2) (by omega)).trans hres
    refine ⟨h4, ?_, ?_, ?_, frozen_of_row _ _ _ _ _ h5, hin1.below (by rw [hsz]; exact h1), by have := h1.size; omega⟩
    all_goals first
      | (rw [cell_of_row _ _ _ _ _ _ h4]; rfl)
      | (rw [cell_of_row _ _ _ _ _ _ h6]; rfl)
      | (rw [cell_of_row _ _ _ _ _ _ h5]; rfl)
  have HY : Hid (∀ Wx w' (M : Nat → Prop), (∀ k, M k → N + 3 ≤ k) → Below (N + 3) W1 Wx → Ext M (Wx.setCell ⟨N + 2, 0, none⟩ (.bool true)) w' → w'.cell? ⟨N + 2, 0, none⟩ = some (.bool true) ∧ YesW w (.returned (.bool true)) w') := by
    intro Wx w' M hM hb hx
    have hsx : N + 3 ≤ Wx.heap.size := by have := hb.size; omega
    have h0 : Ext (fun k => N ≤ k) w W1 := Ext.of_below (by rw [hN] at hb1; exact hb1)
    have h1 : Ext (fun k => N ≤ k) w (Wx.setCell ⟨N + 2, 0, none⟩ (.bool true)) := (h0.trans (Ext.of_below hb) (fun k hk => .inl (by omega))).trans (Ext.set1 _ _ _ _) (fun k hk => .inl (by omega))
    have h2 : Ext (fun k => N ≤ k) w w' := h1.trans hx (fun k hk => .inl (by have := hM k hk; omega))
    obtain ⟨_, _, _, k8, _, _, _⟩ := HS.out Wx hb
    refine ⟨?_, rfl, by rw [hN]; exact h2.below (by omega) (fun _ h => h)⟩
    rw [hx.cell (a := ⟨N + 2, 0, none⟩) (by rw [World.size_setCell]; show N + 2 < _; omega) (fun h => by have := hM _ h; simp only at this; omega)]
    first | exact World.cell?_setCell_same _ k8 | exact World.cell?_setCell_same _ _ k8 | exact World.cell?_setCell_same _ _ _ k8
  have HW1 := Lib.hid hW1
  have hs1 : N + 3 ≤ W1.heap.size := by omega
  clear hb1 hsz hx0 hstp hres hin1 hW1 HIN
  (refine calls_of_wp_marks Try.func6 rfl ?_
   simp only [Try.ntmps6, List.size_toArray, List.length_cons, List.length_nil, Nat.reduceAdd, Nat.reduceSub, Array.replicate_succ,
     Array.replicate_zero, List.push_toArray, List.append_toArray, List.nil_append, List.cons_append])
  go_upto_region 3 with (go_at_call 11; rw [HW1.out]; refine (alive5_calls _).mono ?_; rintro e w2 ⟨rfl, hb2⟩)
  have hb2' : Below (N + 3) W1 w2 := hb2.mono hs1
  have HB2 := Lib.hid hb2'
  obtain ⟨k0, k7, k1, k2, k3, k4, k5⟩ := HS.out w2 hb2'
  have HR2 := Lib.hid k0
  obtain ⟨M, hM⟩ : ∃ M, w2.heap.size = M := ⟨_, rfl⟩
  obtain ⟨W3, hW3⟩ : ∃ W3, w2.alloc (.cells c.cells 48) = W3 := ⟨_, rfl⟩
  have hcs : c.cells.size = 8 := rfl
  have hfold : w2.alloc (.cells (Array.foldl (fun (cs : Array Value) (x : Value × Nat) => cs.setIfInBounds x.snd x.fst) #[Value.string { data := #[] }, Value.int IntKind.i64 0, Value.slice none 0 0, Value.bool false, Value.string { data := #[] }, Value.int IntKind.i64 0, Value.slice none 0 0, Value.slice none 0 0] c.cells.zipIdx 0 8) 48) = W3 := by
    rw [← hW3, code_fold]
  have HFO := Lib.hid hfold
  have hr3 : W3.heap[M]? = some (.cells c.cells 48 (0, 0)) := by rw [← hW3, ← hM]; exact alloc_at _ _
  have hb3 : Below (N + 3) W1 W3 := by rw [← hW3]; exact hb2'.alloc (by have := hb2'.size; omega) _
  have HLI : Hid (Calls Try.prog 21 #[.agg #[.slice none 0 0, .slice (some ⟨M, 0, none⟩) 1 1]] W3 (SaysIf W3 W3.heap.size (LightM [] [c]))) := by
    refine light5_calls W3 none (some ⟨M, 0, none⟩) 0 1 [] [c] (fun h => absurd rfl h) (rowOf_one hr3) ?_ ?_ (by decide) (by simp)
    · intro c' hc'; simp at hc'; subst hc'; exact (HS.out W3 hb3).2.2.2.2.2.1.row
    · intro c' hc'; simp at hc'; subst hc'; exact fun x hx => ((HS.out W3 hb3).2.2.2.2.2.1.args x hx).1
  have HB3 := Lib.hid hb3
  clear hb2 hb2' k0 k4 hW3 hr3 hb3 hfold
  go_wp2_with (refine wpList_load_row rfl 48 _ rfl N rfl 48 c.cells (0, 0) _ HR2.out Try.underlying48 rfl (by kernel_rfl) ?_)
  go_at_call 21
  rw [HFO.out]
  refine HLI.out.mono ?_
  rintro e w4 ⟨fb, rfl, hfb, hb4⟩
  have hb4' : Below (N + 3) W1 w4 := HB3.out.trans (hb4.mono (HS.out W3 HB3.out).2.2.2.2.2.2)
  clear k7 k1 k2 k3 k5
  have HFB := Lib.hid hfb
  have HB4 := Lib.hid hb4'
  clear hfb hb4 hb4' HLI HFO HR2 HB2 HB3 hM
  cases fb with
  | false =>
    go_wp2_with fail
    go_at_call 11
    refine (alive5_calls _).mono ?_
    rintro e w5 ⟨rfl, hb5⟩
    have hb5' : Below (N + 3) W1 w5 := HB4.out.trans (hb5.mono (HS.out w4 HB4.out).2.2.2.2.2.2)
    obtain ⟨_, _, _, k2, k3, _, _⟩ := HS.out w5 hb5'
    have HB5 := Lib.hid hb5'
    clear hb5 hb5'
    go_wp2
    refine ⟨[], rfl, by simp, by simp, .bool true, fun w' hx => ?_⟩
    obtain ⟨h1, h2⟩ := HY.out w5 w' _ (fun k hk => by simp at hk) HB5.out hx
    exact ⟨edges_results _ _ _ _ rfl h1, h2⟩
  | true =>
    have hil : c.ins.length ≤ 400 := ((HFB.out rfl).2.2.2.1 c (by simp)).1
    clear HFB
    obtain ⟨k0, k7, k1, k2, k3, k4, k5⟩ := HS.out w4 HB4.out
    obtain ⟨P, hP⟩ : ∃ P, w4.heap.size = P := ⟨_, rfl⟩
    have HP := Lib.hid hP
    go_upto_region 6 with (fail)
    obtain ⟨W5, hW5⟩ : ∃ W5, (w4.alloc (.cells #[.slice none 0 0] 22)).alloc (.cells #[.slice none 0 0] 22) = W5 := ⟨_, rfl⟩
    rw [hW5]
    have htw : TwoI W5 P [] [] (.slice none 0 0) (.slice none 0 0) := by
      refine ⟨?_, ?_, OwnI.nil _ _, OwnI.nil _ _, fun g h => by simp [Value.ownBlock] at h⟩
      · rw [← hW5, ← hP, Below.heap_alloc _ _ _ (by simp)]; exact alloc_at _ _
      · rw [← hW5, ← hP]
        have := alloc_at (w4.alloc (.cells #[.slice none 0 0] 22)) (.cells #[.slice none 0 0] 22)
        rwa [World.size_alloc] at this
    have hb5 : Below P w4 W5 := by rw [← hW5, ← hP]; exact ((Below.refl _ _).alloc (Nat.le_refl _) _).alloc (by simp) _
    have HTW := Lib.hid htw
    have HB5 := Lib.hid hb5
    obtain ⟨XS, hXS⟩ : ∃ X, edgesFrom 0 c.ins = X := ⟨_, rfl⟩
    have HXS : Hid (XS = edgesFrom 0 (c.ins.drop 0)) := hXS.symm
    have HXS2 : Hid (edgesFrom 0 c.ins = XS) := hXS
    have hNP : N + 3 ≤ P := by omega
    clear k0 k7 k1 k2 k3 k4 k5 hW5 htw hb5 hXS hP
    go_wp2_with fail
    go_loopw [7] (fun k wr => ∃ (j : Nat) (pre : List (Int × Int)) (v1 v2 : Value), j ≤ c.ins.length ∧ k = .int .i64 (j : Int) ∧ XS = pre ++ edgesFrom j (c.ins.drop j) ∧ TwoI wr P (pre.map Prod.fst) (pre.map Prod.snd) v1 v2 ∧ Below P w4 wr ∧ pre.length ≤ 2 * j) (fun k _ => c.ins.length - (intOf k).toNat)
    case atStart => exact ⟨0, [], _, _, Nat.zero_le _, rfl, HXS.out, HTW.out, HB5.out, Nat.le_refl _⟩
    case round =>
      obtain ⟨j, pre, v1, v2, hj, rfl, hxs, htw, hbr, hpl⟩ := hrel
      have HTR := Lib.hid htw
      have HBR := Lib.hid hbr
      have hb1r : Below (N + 3) W1 wr := HB4.out.trans (hbr.mono hNP)
      have HB1R := Lib.hid hb1r
      obtain ⟨k0, k7, k1, k2, k3, k4, k5⟩ := HS.out wr hb1r
      by_cases hjl : j < c.ins.length
      · obtain ⟨i, hi⟩ : ∃ i, c.ins[j]? = some i := ⟨_, List.getElem?_eq_getElem hjl⟩
        obtain ⟨b0, off, hA, hb0, hcell⟩ := k4.row (by intro e; rw [e] at hjl; simp at hjl)
        have HCA : Hid (∀ k u, i.cells.toList[k]? = some u → wr.cell? ((⟨b0, off + j * 13, none⟩ : Addr).add k) = some u) := fun k u hu => by
          rw [Addr.add_lit]; exact hcell j i hi k u hu
        obtain ⟨nx, hnx⟩ : ∃ nx, nextOf i (j : Int) = nx := ⟨_, rfl⟩
        have HNX : Hid (Calls Try.prog 18 #[.agg i.cells, .int .i64 (j : Int)] wr (GivesI wr nx)) := by rw [← hnx]; exact ref05_Next i (j : Int) wr (by omega) (by omega)
        have HXJ : Hid (XS = pre ++ ((nx.drop 0).map (fun t => ((j : Int), t)) ++ edgesFrom (j + 1) (c.ins.drop (j + 1)))) := by unfold Hid; rw [hxs, edges_step hi, hnx]
        have hnl : nx.length ≤ 2 := by rw [← hnx]; exact nextOf_len2 i _
        have hjI : (j : Int) < (c.ins.length : Int) := by omega
        rw [hA] at k7
        obtain ⟨S, hS⟩ : ∃ S, wr.heap.size = S := ⟨_, rfl⟩
        have hPS : P + 2 ≤ S := by have := (Array.getElem?_eq_some_iff.1 htw.2.1).1; omega
        clear htw hbr hb1r hxs hb0 hcell hi hnx k0 k4
        go_upto_region 10 with (first
          | (refine wpList_load_at rfl 26 _ rfl ⟨b0, off + j * 13, none⟩ rfl i.cells _ HCA.out Try.underlying26 rfl (by kernel_rfl) ?_)
          | (go_at_call 18; refine HNX.out.mono ?_; rintro e w5 ⟨ao5, cap5, rfl, hown5, hb5⟩))
        have HO5 : Hid (OwnI w5 S (.slice ao5 nx.length cap5) nx) := by rw [← hS]; exact hown5
        have HB5w : Hid (Below P w4 w5) := HBR.out.trans (hb5.mono (by omega))
        have HT5 : Hid (TwoI w5 P (pre.map Prod.fst) (pre.map Prod.snd) v1 v2) := HTR.out.ext (M := fun _ => False) (Ext.of_below_size hb5) (fun h => h) (fun h => h) (fun _ _ h => h) (fun _ _ h => h)
        have HG5 : Hid (∀ g, (Value.slice ao5 nx.length cap5).ownBlock = some g → v1.ownBlock ≠ some g ∧ v2.ownBlock ≠ some g) := by
          intro g hg
          have h1 := (HO5.out.lt g hg).1
          exact ⟨fun h => by have := (HTR.out.2.2.1.lt g h).2; omega, fun h => by have := (HTR.out.2.2.2.1.lt g h).2; omega⟩
        clear hown5 hb5 HTR HBR HB1R HCA HNX k7 k1 k2 k3 k5 hS
        go_wp2_with fail
        go_loopw [9] (fun k wq => ∃ (q : Nat) (pq : List (Int × Int)) (v1 v2 : Value), q ≤ nx.length ∧ k = .int .i64 (q : Int) ∧ XS = pq ++ ((nx.drop q).map (fun t => ((j : Int), t)) ++ edgesFrom (j + 1) (c.ins.drop (j + 1))) ∧ TwoI wq P (pq.map Prod.fst) (pq.map Prod.snd) v1 v2 ∧ Below P w4 wq ∧ pq.length = pre.length + q ∧ OwnI wq S (.slice ao5 nx.length cap5) nx ∧ (∀ g, (Value.slice ao5 nx.length cap5).ownBlock = some g → v1.ownBlock ≠ some g ∧ v2.ownBlock ≠ some g)) (fun k _ => nx.length - (intOf k).toNat)
        case atStart => exact ⟨0, pre, v1, v2, Nat.zero_le _, rfl, HXJ.out, HT5.out, HB5w.out, rfl, HO5.out, HG5.out⟩
        case round =>
          clear HT5 HB5w HO5 HG5 HXJ
          obtain ⟨q, pq, u1, u2, hq, rfl, hxq, htq, hbq, hpq, hoq, hgq⟩ := hrel
          have HTQ := Lib.hid htq
          have HBQ := Lib.hid hbq
          have HOQ := Lib.hid hoq
          have HGQ := Lib.hid hgq
          by_cases hql : q < nx.length
          · obtain ⟨t, ht⟩ : ∃ t, nx[q]? = some t := ⟨_, List.getElem?_eq_getElem hql⟩
            obtain ⟨g, hga, hg1, hg2, hgc⟩ := hoq.shape (by omega)
            subst hga
            have hct : wr.cell? ⟨g, q, none⟩ = some (.int .i64 t) := hgc q t ht
            have HXF : Hid (XS = (pq ++ [((j : Int), t)]) ++ ((nx.drop (q + 1)).map (fun t => ((j : Int), t)) ++ edgesFrom (j + 1) (c.ins.drop (j + 1)))) := by unfold Hid; rw [hxq, drop_step_map _ ht]; simp
            obtain ⟨fs, hfs⟩ : ∃ fs, pq.map Prod.fst = fs := ⟨_, rfl⟩
            obtain ⟨ts, hts⟩ : ∃ ts, pq.map Prod.snd = ts := ⟨_, rfl⟩
            have hfl : fs.length = pq.length := by rw [← hfs]; simp
            have htl : ts.length = pq.length := by rw [← hts]; simp
            rw [hfs, hts] at HTQ
            have HFE : Hid ((pq ++ [((j : Int), t)]).map Prod.fst = fs ++ [(j : Int)] ∧ (pq ++ [((j : Int), t)]).map Prod.snd = ts ++ [t]) := by unfold Hid; simp [hfs, hts]
            have c1 : wr.cell? ⟨P, 0, none⟩ = some u1 := by rw [cell_of_row _ _ _ _ _ _ HTQ.out.1]; rfl
            have hqI : (q : Int) < (nx.length : Int) := by omega
            obtain ⟨j0, hj0, hj1, hj2, hj3⟩ := info_parts info_int
            have hPr : P + 2 ≤ wr.heap.size := by have := (Array.getElem?_eq_some_iff.1 htq.2.1).1; omega
            have hpqb : fs.length ≤ 900 := by omega
            have hpqc : ts.length ≤ 900 := by omega
            have HPQ : Hid (pq.length = pre.length + q) := hpq
            clear hfl htl hpq hxq htq hbq hoq hgq hgc ht hfs hts
            go_upto_region 14 with (at_builtin; refine wpList_append_lies _ rfl _ _ 22 rfl (P + 2) 3 j0 (.int .i64 0) 1 8 Try.underlying22 hj0 hj1 hj2 hj3 rfl (by decide) u1 fs.length _ rfl (ownsRow_below HTQ.out.2.2.1 ((Below.refl wr.heap.size wr).alloc (Nat.le_refl _) _)) ⟨wr.heap.size, 0, none⟩ 1 1 [.int .i64 (j : Int)] rfl rfl (cells_new _ _ _) (by simp [Value.oneCell']) (by decide) (by unfold maxLen; omega) (by omega) (by rw [World.size_alloc]; omega) _ rfl ?_; intro g5 cap6 w6 hown6 hgrow6 hat6 hlt6; have hPU := Lib.hid (HTQ.out.push1 ((Ext.refl _ wr).alloc _) hown6 hgrow6 hat6); obtain ⟨d1, d2, _, _, _⟩ := hPU.out; have HAT := Lib.hid hat6; clear hown6 hgrow6 hat6 hlt6)
            obtain ⟨W7, hW7⟩ : ∃ W7, w6.setCell ⟨P, 0, none⟩ (.slice (some ⟨g5, 0, none⟩) (fs.length + 1) cap6) = W7 := ⟨_, rfl⟩
            rw [hW7] at hPU ⊢
            obtain ⟨_, _, ht7, hx7, hx7b⟩ := hPU.out
            have HT7 := Lib.hid ht7
            have HX7 := Lib.hid hx7
            have hgne : ¬ (u1.ownBlock = some g ∨ g = P) := by
              rintro (h | h)
              · exact (HGQ.out g rfl).1 h
              · have := (HOQ.out.lt g rfl).1; omega
            have c2 : W7.cell? ⟨P + 1, 0, none⟩ = some u2 := by rw [cell_of_row _ _ _ _ _ _ ht7.2.1]; rfl
            have hg7 : g < wr.heap.size := (HOQ.out.lt g rfl).2
            have ct7 : W7.cell? ⟨g, q, none⟩ = some (.int .i64 t) := by rw [hx7b.cell (a := ⟨g, q, none⟩) hg7 hgne]; exact hct
            have HO7 : Hid (OwnI W7 S (.slice (some ⟨g, 0, none⟩) nx.length cap5) nx) := OwnI.keep HOQ.out (fun k hk => by
              simp [Value.ownBlock] at hk; subst hk; exact hx7b.block g hg7 hgne)
            have HG7 : Hid (g5 ≠ g ∧ u2.ownBlock ≠ some g) := by
              refine ⟨?_, (HGQ.out g rfl).2⟩
              rintro rfl
              rcases HAT.out with h | h
              · exact (HGQ.out _ rfl).1 h
              · rw [World.size_alloc] at h; omega
            have hsz7 : wr.heap.size ≤ W7.heap.size := hx7.size
            have HB7 : Hid (Below P w4 W7) := HBQ.out.trans (hx7.below (by omega) (fun _ h => h))
            have hg7' : g < W7.heap.size := by omega
            have hp7 : P + 1 < W7.heap.size := by omega
            clear hPU d1 d2 c1 ht7 hx7 hx7b hct HTQ HAT HBQ HOQ HGQ hW7
            have HF : Hid (∀ (g8 cap8 : Nat) (w8 : World), w8.ownsRow (P + 2) 3 1 (.slice (some ⟨g8, 0, none⟩) (ts.length + 1) cap8) (ts.length + 1) (ts.map (Value.int .i64) ++ [.int .i64 t]) → (W7.drew.alloc (.cells #[.int .i64 t] 3)).grownBy w8 u2.ownBlock → (u2.ownBlock = some g8 ∨ g8 = (W7.drew.alloc (.cells #[.int .i64 t] 3)).heap.size) →
                w8.cell? ⟨P + 1, 0, none⟩ = some u2 ∧ w8.frozen? ⟨P + 1, 0, none⟩ = false ∧ ∃ (q' : Nat) (pq : List (Int × Int)) (v1 v2 : Value), q' ≤ nx.length ∧ Value.int .i64 ((q : Int) + 1) = .int .i64 (q' : Int) ∧ XS = pq ++ ((nx.drop q').map (fun t => ((j : Int), t)) ++ edgesFrom (j + 1) (c.ins.drop (j + 1))) ∧ TwoI (w8.setCell ⟨P + 1, 0, none⟩ (.slice (some ⟨g8, 0, none⟩) (ts.length + 1) cap8)) P (pq.map Prod.fst) (pq.map Prod.snd) v1 v2 ∧ Below P w4 (w8.setCell ⟨P + 1, 0, none⟩ (.slice (some ⟨g8, 0, none⟩) (ts.length + 1) cap8)) ∧ pq.length = pre.length + q' ∧ OwnI (w8.setCell ⟨P + 1, 0, none⟩ (.slice (some ⟨g8, 0, none⟩) (ts.length + 1) cap8)) S (.slice (some ⟨g, 0, none⟩) nx.length cap5) nx ∧ (∀ g', (Value.slice (some ⟨g, 0, none⟩) nx.length cap5).ownBlock = some g' → v1.ownBlock ≠ some g' ∧ v2.ownBlock ≠ some g')) := by
              intro g8 cap8 w8 hown8 hgrow8 hat8
              obtain ⟨e1, e2, e3, e4, e5⟩ := HT7.out.push2 ((Ext.refl _ W7).drew.alloc _) hown8 hgrow8 hat8
              have hgne : ¬ (u2.ownBlock = some g ∨ g = P + 1) := by
                rintro (h | h)
                · exact HG7.out.2 h
                · have := (HO7.out.lt g rfl).1; omega
              refine ⟨e1, e2, q + 1, _, .slice (some ⟨g5, 0, none⟩) (fs.length + 1) cap6, .slice (some ⟨g8, 0, none⟩) (ts.length + 1) cap8, by omega, by simp, HXF.out, ?_, HB7.out.trans (e4.below (by omega) (fun _ h => h)), by have := HPQ.out; simp; omega, ?_, ?_⟩
              · rw [HFE.out.1, HFE.out.2]; exact e3
              · exact OwnI.keep HO7.out (fun k hk => by simp [Value.ownBlock] at hk; subst hk; exact e5.block g hg7' hgne)
              · intro g' hg'
                simp [Value.ownBlock] at hg'
                subst hg'
                refine ⟨by simp [Value.ownBlock]; exact HG7.out.1, ?_⟩
                simp only [Value.ownBlock, ne_eq, Option.some.injEq]
                rintro rfl
                rcases hat8 with h | h
                · exact HG7.out.2 h
                · rw [World.size_alloc] at h
                  have : W7.drew.heap.size = W7.heap.size := rfl
                  omega
            have HO8 : Hid (∀ o, (W7.drew.alloc o).ownsRow (P + 2) 3 1 u2 ts.length (ts.map (Value.int .i64))) := fun o => ownsRow_below HT7.out.2.2.2.1 ((Below.refl W7.heap.size W7).drew.alloc (Nat.le_refl _) _)
            clear HG7 HO7 HT7 HB7 HX7 HXF HFE
            go_wp2_with fail
            go_region_law (first
              | (refine step_append_lies _ (by rfl) (.tmp 46) (.tmp 51) 22 (by rfl) (P + 2) 3 j0 (.int .i64 0) 1 8 Try.underlying22 hj0 hj1 hj2 hj3 rfl (by decide) u2 ts.length _ (by rfl) (HO8.out _) ⟨W7.heap.size, 0, none⟩ 1 1 [.int .i64 t] (by rfl) rfl (cells_new _ _ _) (by simp [Value.oneCell']) (by decide) (by unfold maxLen; omega) (by omega) (by simp; omega) _ rfl ?_; intro g8 cap8 w8 hown8 hgrow8 hat8 hlt8; obtain ⟨e1, e2, hR⟩ := HF.out _ _ _ hown8 hgrow8 hat8; have HR := Lib.hid hR; clear hown8 hgrow8 hat8 hlt8 hR))
            all_goals
              go_wp2
              go_roundw
              case rel => exact HR.out
              case measure => simp [intOf]; omega
          · have hqe : q = nx.length := by omega
            subst hqe
            rw [List.drop_length, List.map_nil, List.nil_append] at hxq
            have HXE := Lib.hid hxq
            clear hxq htq hbq hoq hgq
            go_wp2
            go_roundw
            case rel => exact ⟨j + 1, pq, u1, u2, by omega, by go_num, HXE.out, HTQ.out, HBQ.out, by omega⟩
            case measure => simp [intOf]; omega
      · have hje : j = c.ins.length := by omega
        subst hje
        rw [edges_end, List.append_nil] at hxs
        have HTX : Hid (TwoI wr P (XS.map Prod.fst) (XS.map Prod.snd) v1 v2) := by unfold Hid; rw [hxs]; exact htw
        obtain ⟨L, hL⟩ : ∃ L, XS.length = L := ⟨_, rfl⟩
        have HL := Lib.hid hL
        have hL8 : L ≤ 800 := by rw [← hL, hxs]; omega
        obtain ⟨Q, hQ⟩ : ∃ Q, wr.heap.size = Q := ⟨_, rfl⟩
        have hPQ : P + 2 ≤ Q := by have := (Array.getElem?_eq_some_iff.1 htw.2.1).1; omega
        obtain ⟨W8, hW8⟩ : ∃ W8, wr.alloc (.cells #[.int .i64 0] 3) = W8 := ⟨_, rfl⟩
        have hcnt : W8.heap[Q]? = some (.cells #[.int .i64 0] 3 (0, 0)) := by rw [← hW8, ← hQ]; exact alloc_at _ _
        have hs8 : W8.heap.size = Q + 1 := by rw [← hW8]; simp [hQ]
        have hb8 : Below Q wr W8 := by rw [← hW8, ← hQ]; exact (Below.refl _ _).alloc (Nat.le_refl _) _
        have hb18 : Below (N + 3) W1 W8 := hb1r.trans (hb8.mono (by omega))
        obtain ⟨m0, m7, m1, m2, m3, m4, m5⟩ := HS.out W8 hb18
        have HR8 := Lib.hid m0
        obtain ⟨W9, hW9⟩ : ∃ W9, W8.alloc (.cells c.cells 48) = W9 := ⟨_, rfl⟩
        have hb9 : Below (Q + 1) W8 W9 := by rw [← hW9, ← hs8]; exact (Below.refl _ _).alloc (Nat.le_refl _) _
        have hs9 : W9.heap.size = Q + 2 := by rw [← hW9]; simp [hs8]
        have hB9 : W9.heap[Q + 1]? = some (.cells c.cells 48 (0, 0)) := by rw [← hW9, ← hs8]; exact alloc_at _ _
        have hb49 : Below P w4 W9 := (hbr.trans (hb8.mono (by omega))).trans (hb9.mono (by omega))
        have hit : Iter Try.prog 74 #[.pointer (some ⟨Q + 1, 0, none⟩)] edEnc XS (edRd P (Q + 1)) W9 := by
          have := edges1_iter w4 W9 c (Q + 1) (HS.out w4 HB4.out).2.2.2.2.2.1 (by rw [HP.out]; exact hb49) hB9 (by omega)
          rw [HXS2.out, HP.out] at this
          exact this
        have HIT := Lib.hid hit
        have HCN : Hid (W9.heap[Q]? = some (.cells #[.int .i64 0] 3 (0, 0))) := (hb9.block Q (by omega)).trans hcnt
        have HT9 : Hid (TwoI W9 P (XS.map Prod.fst) (XS.map Prod.snd) v1 v2) := by
          have hx : Ext (fun _ => False) wr W9 := by rw [← hW9, ← hW8]; exact ((Ext.refl _ wr).alloc _).alloc _
          exact HTX.out.ext hx (fun h => h) (fun h => h) (fun _ _ h => h) (fun _ _ h => h)
        have HB19 : Hid (Below (N + 3) W1 W9) := HB4.out.trans (hb49.mono hNP)
        have HO1 : Hid (∀ g, (v1.ownBlock = some g ∨ v2.ownBlock = some g) → g < Q) := by
          rintro g (h | h)
          · have := (htw.2.2.1.lt g h).2; omega
          · have := (htw.2.2.2.1.lt g h).2; omega
        clear htw hbr hb1r hxs hL hcnt hb8 hb18 hB9 hb49 hit HTX hb9 k0 k4 m0 HTR HBR HB1R
        have HQH := Lib.hid hQ
        have HW8 := Lib.hid hW8
        have HW9 := Lib.hid hW9
        have HS8 := Lib.hid hs8
        clear hQ hW8 hW9 hs8
        go_upto_region 16 with (fail)
        rw [HW8.out, HQH.out]
        clear k7 k1 k2 k3 k5
        go_wp2_with (refine wpList_load_row rfl 48 _ rfl N rfl 48 c.cells (0, 0) _ HR8.out Try.underlying48 rfl (by kernel_rfl) ?_)
        go_at_call 31
        refine (edgesF_calls W8 c).mono ?_
        rintro e w9 ⟨rfl, rfl⟩
        rw [HW9.out, HS8.out]
        clear m7 m1 m2 m3 m4 m5
        go_wp2_with fail
        refine wp_rangeFunc_out (α := Int × Int) (gf := 74) (hf := Try.func74) (hname := by rfl) (hb := rfl) (hit := HIT.out) rfl ?hbel ?hRd (fun _ => rfl)
          (fun pre C W => C = (fun k => k = Q) ∧ W.heap[Q]? = some (.cells #[.int .i64 (pre.length : Int)] 3 (0, 0)) ∧ Ext (fun k => k = Q) W9 W ∧ ∀ q : Nat, 1 ≤ q → q ≤ pre.length → (q : Int) ≠ stop)
          (fun pre C W => C = (fun k => k = Q) ∧ W.heap[Q]? = some (.cells #[.int .i64 (pre.length : Int)] 3 (0, 0)) ∧ Ext (fun k => k = Q) W9 W ∧ 1 ≤ pre.length ∧ (pre.length : Int) = stop) ?hI ?hIC ?hIx (fun k => k = Q) ?h0 ?hround ?hout
        case hbel => exact Below.refl _ _
        case hRd => rintro k (h | h) <;> omega
        case hI =>
          rintro pre C W W' ⟨rfl, h1, h2, h3⟩ hx
          exact ⟨rfl, hx.heap h1 (fun h => h.2 rfl), h2.trans hx (fun j hj => .inr hj.1), h3⟩
        case hIx =>
          rintro pre C W W' ⟨rfl, h1, h2, h3⟩ hx
          exact ⟨rfl, hx.heap h1 (fun h => h.2 rfl), h2.trans hx (fun j hj => .inr hj.1), h3⟩
        case hIC =>
          rintro pre C W ⟨rfl, h1, h2, h3⟩ k rfl
          exact ⟨(Array.getElem?_eq_some_iff.1 h1).1, fun h => by rcases h with h | h <;> omega⟩
        case h0 => exact ⟨rfl, HCN.out, Ext.refl _ _, fun q h1 h2 => absurd (Nat.le_trans h1 h2) (by simp)⟩
        case hround =>
          rintro l pre x C W hl ⟨rfl, h1, h2, h3⟩ hpre
          have hpl : pre.length < L := by have := hpre.length_le; rw [HL.out] at this; simp at this; omega
          have hwx : XS[pre.length]? = some x := by
            obtain ⟨t, ht⟩ := hpre
            rw [← ht]; simp
          unfold edEnc
          rw [fold_two]
          simp only [List.setIfInBounds_toArray, List.set_cons_zero, List.set_cons_succ]
          have HI := Lib.hid (And.intro h1 (And.intro h2 h3))
          clear h1 h2 h3 hpre
          obtain ⟨F, hF⟩ : ∃ F, F = Fence.wide.inRound l := ⟨_, rfl⟩
          have hFr : F.round = some l := by rw [hF]; rfl
          have hFf : ∀ f, F.fn f := fun f => by rw [hF]; trivial
          have hFd : F.depth = none := by rw [hF]; rfl
          rw [← hF]
          clear hF
          gi_wp2
          refine ⟨_, fun k hk => .inl hk, ⟨rfl, HI.out.1, HI.out.2.1, HI.out.2.2⟩, Ext.refl _ _, ?_⟩
          rintro W₂ ⟨_, g1, g2, g3⟩ hl2
          have hcn2 : W₂.cell? ⟨Q, 0, none⟩ = some (.int .i64 (pre.length : Int)) := by rw [cell_of_row _ _ _ _ _ _ g1]; rfl
          have hfz2 : W₂.frozen? ⟨Q, 0, none⟩ = false := frozen_of_row _ _ _ _ _ g1
          have ht2 : TwoI W₂ P (XS.map Prod.fst) (XS.map Prod.snd) v1 v2 := HT9.out.ext g2 (by omega) (by omega) (fun g h => by have := HO1.out g (.inl h); omega) (fun g h => by have := HO1.out g (.inr h); omega)
          have hq1 : W₂.cell? ⟨P, 0, none⟩ = some v1 := by rw [cell_of_row _ _ _ _ _ _ ht2.1]; rfl
          have hq2 : W₂.cell? ⟨P + 1, 0, none⟩ = some v2 := by rw [cell_of_row _ _ _ _ _ _ ht2.2.1]; rfl
          have hlm1 : (XS.map Prod.fst).length = L := by simp [HL.out]
          have hlm2 : (XS.map Prod.snd).length = L := by simp [HL.out]
          obtain ⟨a1, e1, rfl⟩ := ht2.2.2.1.isSlice
          obtain ⟨a2, e2, rfl⟩ := ht2.2.2.2.1.isSlice
          obtain ⟨b1, rfl, _, _, hb1c⟩ := ht2.2.2.1.shape (by omega)
          obtain ⟨b2, rfl, _, _, hb2c⟩ := ht2.2.2.2.1.shape (by omega)
          have hx1 : W₂.cell? ⟨b1, pre.length, none⟩ = some (.int .i64 x.1) := hb1c pre.length x.1 (by simp [hwx])
          have hx2 : W₂.cell? ⟨b2, pre.length, none⟩ = some (.int .i64 x.2) := hb2c pre.length x.2 (by simp [hwx])
          rw [hlm1] at hq1
          rw [hlm2] at hq2
          have hs2 := g2.size
          have hbW2 : Below (N + 3) W1 W₂ := HB19.out.trans (g2.below (by omega) (fun k hk => by omega))
          have hst2 := (HS.out W₂ hbW2).2.2.1
          have hd0 : decide ((L : Int) ≤ (pre.length : Int)) = false := decide_eq_false (by omega)
          have hd1 : (pre.length : Int) < (L : Int) := by omega
          have hxs : Ext (· = Q) W₂ (W₂.setCell ⟨Q, 0, none⟩ (.int .i64 ((pre.length : Int) + 1))) := Ext.set1 _ _ _ _
          have hG1 : (W₂.setCell ⟨Q, 0, none⟩ (.int .i64 ((pre.length : Int) + 1))).heap[Q]? = some (.cells #[.int .i64 ((pre.length : Int) + 1)] 3 (0, 0)) := by
            rw [heap_setCell_same _ _ _ _ _ _ g1]; rfl
          have hst3 : (W₂.setCell ⟨Q, 0, none⟩ (.int .i64 ((pre.length : Int) + 1))).cell? ⟨N + 1, 0, none⟩ = some (.int .i64 stop) := by
            rw [hxs.cell (a := ⟨N + 1, 0, none⟩) (by show N + 1 < _; omega) (by show N + 1 ≠ _; omega)]; exact hst2
          have hc3 : (W₂.setCell ⟨Q, 0, none⟩ (.int .i64 ((pre.length : Int) + 1))).cell? ⟨Q, 0, none⟩ = some (.int .i64 ((pre.length : Int) + 1)) := by rw [cell_of_row _ _ _ _ _ _ hG1]; rfl
          have hwr : IntKind.i64.wrap ((pre.length : Int) + 1) = (pre.length : Int) + 1 := by rw [IntKind.wrap_i64]; omega
          have hG : Ext (fun k => k = Q) W9 (W₂.setCell ⟨Q, 0, none⟩ (.int .i64 ((pre.length : Int) + 1))) := g2.trans hxs (fun j hj => .inl hj)
          have HG := Lib.hid (And.intro hG1 (And.intro hG hxs))
          have HG3 := Lib.hid g3
          have hle : ((pre ++ [x]).length : Int) = (pre.length : Int) + 1 := by simp
          clear g1 ht2 hb1c hb2c hbW2 g2 g3 hG hG1 hxs hl2 hwx hlm1 hlm2
          obtain ⟨sb, hsb⟩ : ∃ sb, ((pre.length : Int) + 1 == stop) = sb := ⟨_, rfl⟩
          cases sb with
          | true =>
            have HSE : Hid ((pre.length : Int) + 1 = stop) := by unfold Hid; simpa using hsb
            gi_wp2
            refine ⟨_, fun k hk => .inl hk, ⟨rfl, rfl, ?_, HG.out.2.1, by simp, by rw [hle]; exact HSE.out⟩, HG.out.2.2⟩
            rw [hle]; exact HG.out.1
          | false =>
            have HSE : Hid ((pre.length : Int) + 1 ≠ stop) := by unfold Hid; simpa using hsb
            gi_wp2
            refine ⟨_, fun k hk => .inl hk, ⟨rfl, ?_, HG.out.2.1, fun q h1 h2 => ?_⟩, HG.out.2.2⟩
            · rw [hle]; exact HG.out.1
            · rw [List.length_append] at h2
              simp at h2
              rcases Nat.lt_or_ge pre.length q with h3 | h3
              · have : q = pre.length + 1 := by omega
                subst this; push_cast; exact HSE.out
              · exact HG3.out q h1 h3
        case hout =>
          rintro D pre C2 W hD hCD hpre hcase hdd
          have hG : W.heap[Q]? = some (.cells #[.int .i64 (pre.length : Int)] 3 (0, 0)) ∧ Ext (fun k => k = Q) W9 W ∧ ((if 0 < stop ∧ stop < (L : Int) then stop else (L : Int)) = (pre.length : Int)) := by
            rcases hcase with ⟨rfl, rfl, h1, h2, h3⟩ | ⟨rfl, h1, h2, h3, h4⟩
            · refine ⟨h1, h2, ?_⟩
              rw [HL.out] at h3 ⊢
              rw [if_neg]
              rintro ⟨q1, q2⟩
              exact h3 stop.toNat (by omega) (by omega) (by omega)
            · refine ⟨h1, h2, ?_⟩
              have := hpre.length_le
              rw [HL.out] at this
              split <;> omega
          clear hcase
          obtain ⟨h1, h2, h3⟩ := hG
          have hs := h2.size
          have hDlt : D < W.heap.size := (Array.getElem?_eq_some_iff.1 hdd).1
          have hbW : Below (N + 3) W1 W := HB19.out.trans (h2.below (by omega) (fun k hk => by omega))
          have ht2 : TwoI W P (XS.map Prod.fst) (XS.map Prod.snd) v1 v2 := HT9.out.ext h2 (by omega) (by omega) (fun g h => by have := HO1.out g (.inl h); omega) (fun g h => by have := HO1.out g (.inr h); omega)
          have hq1 : W.cell? ⟨P, 0, none⟩ = some v1 := by rw [cell_of_row _ _ _ _ _ _ ht2.1]; rfl
          have hlm1 : (XS.map Prod.fst).length = L := by simp [HL.out]
          obtain ⟨a1, e1, rfl⟩ := ht2.2.2.1.isSlice
          rw [hlm1] at hq1
          have hnc : W.cell? ⟨Q, 0, none⟩ = some (.int .i64 (pre.length : Int)) := by rw [cell_of_row _ _ _ _ _ _ h1]; rfl
          obtain ⟨k0, k7, k1, k2, k3, k4, k5⟩ := HS.out W hbW
          have HBW := Lib.hid hbW
          have HDD := Lib.hid hdd
          have HE := Lib.hid h3
          have HSW : Hid (∀ w', Below W.heap.size W w' → w'.cell? ⟨N + 2, 0, none⟩ = some (.bool false) ∧ w'.frozen? ⟨N + 2, 0, none⟩ = false ∧ Below (N + 3) W1 w' ∧ (w'.setCell ⟨N + 2, 0, none⟩ (.bool true)).heap[D]? = some (.deferred (some []))) := by
            intro w' hb
            have hb' := HBW.out.trans (hb.mono (by omega))
            obtain ⟨_, _, _, q2, q3, _, _⟩ := HS.out w' hb'
            refine ⟨q2, q3, hb', ?_⟩
            rw [heap_setCell_other _ _ _ _ (by show D ≠ N + 2; omega), hb.block D hDlt]; exact HDD.out
          clear k0 k4 ht2 h1 h2 hdd hbW hpre h3
          have main : ∀ (s13 : Int), True := fun _ => trivial
          by_cases c1 : 0 < stop
          · by_cases c2 : stop < (L : Int)
            · have hse : stop = (pre.length : Int) := by have := HE.out; rwa [if_pos ⟨c1, c2⟩] at this
              subst hse
              clear HE
              go_wp2_with (go_at_call 11; refine (alive5_calls _).mono ?_; rintro e w12 ⟨rfl, hb12⟩; obtain ⟨r1, r2, r3, r4⟩ := HSW.out w12 hb12; have HR4 := Lib.hid (And.intro r3 r4); clear hb12 r3 r4)
              refine ⟨[D], rfl, by simp, by intro b hb; simp at hb; subst hb; exact HR4.out.2, .bool true, fun w' hx => ?_⟩
              obtain ⟨h3, h4⟩ := HY.out w12 w' (· = D) (fun k hk => by omega) HR4.out.1 (hx.mono (fun k hk => by simpa using hk))
              exact ⟨edges_results _ _ _ _ rfl h3, h4⟩
            · have hse : (L : Int) = (pre.length : Int) := by have := HE.out; rwa [if_neg (fun h => c2 h.2)] at this
              clear HE
              go_wp2_with (go_at_call 11; refine (alive5_calls _).mono ?_; rintro e w12 ⟨rfl, hb12⟩; obtain ⟨r1, r2, r3, r4⟩ := HSW.out w12 hb12; have HR4 := Lib.hid (And.intro r3 r4); clear hb12 r3 r4)
              refine ⟨[D], rfl, by simp, by intro b hb; simp at hb; subst hb; exact HR4.out.2, .bool true, fun w' hx => ?_⟩
              obtain ⟨h3, h4⟩ := HY.out w12 w' (· = D) (fun k hk => by omega) HR4.out.1 (hx.mono (fun k hk => by simpa using hk))
              exact ⟨edges_results _ _ _ _ rfl h3, h4⟩
          · have hse : (L : Int) = (pre.length : Int) := by have := HE.out; rwa [if_neg (fun h => c1 h.1)] at this
            clear HE
            go_wp2_with (go_at_call 11; refine (alive5_calls _).mono ?_; rintro e w12 ⟨rfl, hb12⟩; obtain ⟨r1, r2, r3, r4⟩ := HSW.out w12 hb12; have HR4 := Lib.hid (And.intro r3 r4); clear hb12 r3 r4)
            refine ⟨[D], rfl, by simp, by intro b hb; simp at hb; subst hb; exact HR4.out.2, .bool true, fun w' hx => ?_⟩
            obtain ⟨h3, h4⟩ := HY.out w12 w' (· = D) (fun k hk => by omega) HR4.out.1 (hx.mono (fun k hk => by simpa using hk))
            exact ⟨edges_results _ _ _ _ rfl h3, h4⟩
end Go.Proofs.Ytbbogkcfngpbbaa
