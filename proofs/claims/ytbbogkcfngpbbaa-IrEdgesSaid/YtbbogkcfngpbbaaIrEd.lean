/- The edges of a code, one by one: an iterator. -/
import Derived.Test.YtbbogkcfngpbbaaIrL
import Derived.Test.YtbbogkcfngpbbaaComp
namespace Go.Proofs.Ytbbogkcfngpbbaa
open Go.RowKit

def edEnc (e : Int × Int) : Array Value := #[.int .i64 e.1, .int .i64 e.2]
def edRd (N B : Nat) (k : Nat) : Prop := k < N ∨ k = B

/-- The edges of instructions that begin at place k. -/
def edgesFrom : Nat → List Ins → List (Int × Int)
  | _, [] => []
  | k, i :: r => (nextOf i (k : Int)).map (fun t => ((k : Int), t)) ++ edgesFrom (k + 1) r

theorem edges_step {ins : List Ins} {j : Nat} {i : Ins} (h : ins[j]? = some i) : edgesFrom j (ins.drop j) = ((nextOf i (j : Int)).drop 0).map (fun t => ((j : Int), t)) ++ edgesFrom (j + 1) (ins.drop (j + 1)) := by
  obtain ⟨hj, e⟩ := List.getElem?_eq_some_iff.1 h
  rw [List.drop_eq_getElem_cons hj, e]
  rfl
theorem edges_end (ins : List Ins) : edgesFrom ins.length (ins.drop ins.length) = [] := by
  rw [List.drop_length]; rfl

theorem pre_stepE {pre r : List (Int × Int)} {x : Int × Int} {xs : List (Int × Int)} (h : xs = pre ++ x :: r) : (pre ++ [x]) <+: xs ∧ xs = (pre ++ [x]) ++ r := by
  subst h
  exact ⟨⟨r, by simp⟩, by simp⟩

theorem drop_step_map {l : List Int} {q : Nat} {x : Int} (f : Int → Int × Int) (h : l[q]? = some x) : (l.drop q).map f = f x :: (l.drop (q + 1)).map f := by
  obtain ⟨hj, e⟩ := List.getElem?_eq_some_iff.1 h
  rw [List.drop_eq_getElem_cons hj, e, List.map_cons]

theorem OwnI.keep {w w' : World} {base : Nat} {v : Value} {xs : List Int} (h : OwnI w base v xs) (hk : ∀ g, v.ownBlock = some g → w'.heap[g]? = w.heap[g]?) : OwnI w' base v xs := by
  refine ⟨h.1, ?_⟩
  rcases h.2 with h | ⟨g, cap, cur, h1, h2, h3, h4⟩
  · exact .inl h
  · exact .inr ⟨g, cap, cur, h1, h2, (hk g (by rw [h1]; rfl)).trans h3, h4⟩

theorem nextOf_len2 (i : Ins) (at_ : Int) : (nextOf i at_).length ≤ 2 := by
  unfold nextOf
  repeat' split
  all_goals simp

set_option maxRecDepth 100000 in
set_option maxHeartbeats 16000000 in
theorem edges1_iter (w0 w : World) (c : Cod) (B : Nat) (h : c.inn w0) (hb : Below w0.heap.size w0 w) (hB : w.heap[B]? = some (.cells c.cells 48 (0, 0))) (hn : c.ins.length ≤ 90000) :
    Iter Try.prog 74 #[.pointer (some ⟨B, 0, none⟩)] edEnc (edgesFrom 0 c.ins) (edRd w0.heap.size B) w := by
  intro l J Jx C W hbw hst hJC hstx hmeet hJ
  have HST := Lib.hid hst
  have HM := Lib.hid hmeet
  have HJ := Lib.hid hJ
  have hWB : W.heap[B]? = some (.cells c.cells 48 (0, 0)) := (hbw.block B (Array.getElem?_eq_some_iff.1 hB).1).trans hB
  obtain ⟨N, hN⟩ : ∃ N, w0.heap.size = N := ⟨_, rfl⟩
  have hNW : N ≤ W.heap.size := by rw [← hN]; exact (hb.trans (hbw.mono hb.size)).size
  rw [hN] at hJC
  have HJC := Lib.hid hJC
  have HR : Hid (∀ W1, Ext (fun k => ¬ edRd N B k) W W1 → W1.cell? ⟨B, 7, none⟩ = some (.slice c.insA c.ins.length c.insC) ∧ c.inn W1 ∧ B < W1.heap.size) := by
    intro W1 hx
    have q := hx.heap hWB (fun h => h (.inr rfl))
    refine ⟨by rw [cell_of_row _ _ _ _ _ _ q]; rfl, ?_, (Array.getElem?_eq_some_iff.1 q).1⟩
    have b1 : Below w0.heap.size w0 W := hb.trans (hbw.mono hb.size)
    have b2 : Below N W W1 := hx.below (by rw [← hN]; exact b1.size) (fun k hk => by
      by_cases e : k < N
      · exact absurd (.inl e) hk
      · omega)
    exact h.below (b1.trans (by rw [hN]; exact b2))
  obtain ⟨XS, hXS⟩ : ∃ X, edgesFrom 0 c.ins = X := ⟨_, rfl⟩
  rw [hXS] at HM ⊢
  have HXS : Hid (XS = edgesFrom 0 (c.ins.drop 0)) := hXS.symm
  obtain ⟨c7, _, hBl⟩ := HR.out W (Ext.refl _ _)
  clear hst hJC hstx hmeet hJ h hb hB hbw hWB hXS hN
  show Calls _ _ #[.func (.yield l) #[] #[], .pointer (some ⟨B, 0, none⟩)] _ _
  go_enter Try.func74, Try.ntmps74
  go_wp2_with fail
  go_loopw [10] (fun k wr => ∃ (j : Nat) (pre : List (Int × Int)) (C : Nat → Prop), j ≤ c.ins.length ∧ k = .int .i64 (j : Int) ∧ XS = pre ++ edgesFrom j (c.ins.drop j) ∧ J pre C wr ∧ Ext (fun k => ¬ edRd N B k) W wr) (fun k _ => c.ins.length - (intOf k).toNat)
  case atStart => exact ⟨0, [], C, Nat.zero_le _, rfl, HXS.out, HJ.out, Ext.refl _ _⟩
  case round =>
    clear c7
    obtain ⟨j, pre, C1, hj, rfl, hxs, hJ1, hx1⟩ := hrel
    have HX1 := Lib.hid hx1
    have HJ1 := Lib.hid hJ1
    obtain ⟨c7, hinn, hBl1⟩ := HR.out wr hx1
    by_cases hjl : j < c.ins.length
    · obtain ⟨i, hi⟩ : ∃ i, c.ins[j]? = some i := ⟨_, List.getElem?_eq_getElem hjl⟩
      have him := List.mem_of_getElem? hi
      have hok := (hinn.args i him).1
      obtain ⟨b0, off, hA, hb0, hcell⟩ := hinn.row (by intro e; rw [e] at hjl; simp at hjl)
      have HCA : Hid (∀ k u, i.cells.toList[k]? = some u → wr.cell? ((⟨b0, off + j * 13, none⟩ : Addr).add k) = some u) := fun k u hu => by
        rw [Addr.add_lit]; exact hcell j i hi k u hu
      obtain ⟨P, hP⟩ : ∃ P, wr.heap.size = P := ⟨_, rfl⟩
      obtain ⟨W3, hW3⟩ : ∃ W3, wr.alloc (.cells i.cells 26) = W3 := ⟨_, rfl⟩
      have hst3 : ∀ (c : Array Value), c.size = 13 → (storeCells ⟨P, 0, none⟩ i.cells.toList 0).run Try.prog (wr.alloc (.cells c 26)) = .ok () W3 := fun c hc => by
        rw [← hW3, ← hP]
        exact run_storeCells_new (P := Try.prog) wr 26 c i.cells (by show _ = some 13; kernel_rfl) hc (ins_cells_one hok)
      have HR3 : Hid (W3.heap[P]? = some (.cells i.cells 26 (0, 0))) := by unfold Hid; rw [← hW3, ← hP]; exact alloc_at _ _
      have hs3 : W3.heap.size = P + 1 := by rw [← hW3]; simp [hP]
      have HX3 : Hid (Ext (fun k => ¬ edRd N B k) W W3) := by rw [← hW3]; exact HX1.out.alloc _
      have HJ3 : Hid (J pre C1 W3) := by rw [← hW3]; exact HST.out _ _ _ _ HJ1.out ((Ext.refl _ _).alloc _)
      obtain ⟨nx, hnx⟩ : ∃ nx, nextOf i (j : Int) = nx := ⟨_, rfl⟩
      have HNX : Hid (Calls Try.prog 17 #[.agg i.cells, .int .i64 (j : Int)] W3 (GivesI W3 nx)) := by rw [← hnx]; exact ir_Next i (j : Int) W3 (by omega) (by omega)
      have hXJ : XS = pre ++ ((nx.drop 0).map (fun t => ((j : Int), t)) ++ edgesFrom (j + 1) (c.ins.drop (j + 1))) := by rw [hxs, edges_step hi, hnx]
      have HXJ := Lib.hid hXJ
      have HNL : Hid (nx.length ≤ 2) := by rw [← hnx]; exact nextOf_len2 i _
      have HCP : Hid (∀ k, C1 k → k < P) := fun k hk => by rw [← hP]; exact (HJC.out _ _ _ HJ1.out k hk).1
      have hjI : (j : Int) < (c.ins.length : Int) := by omega
      rw [hA] at c7 ⊢
      clear hx1 hJ1 hxs hb0 hcell hi him hok hW3 hXJ hinn hnx
      go_upto_region 4 with (first
        | (refine wpList_load_at rfl 26 _ rfl ⟨b0, off + j * 13, none⟩ rfl i.cells _ HCA.out Try.underlying26 rfl (by kernel_rfl) ?_)
        | (refine wpList_load_row rfl 26 _ rfl P rfl 26 i.cells (0, 0) _ HR3.out Try.underlying26 rfl (by kernel_rfl) ?_)
        | (go_at_call 17; refine HNX.out.mono ?_; rintro e w5 ⟨ao5, cap5, rfl, hown5, hb5⟩; have HO5 := Lib.hid hown5; have HB5 := Lib.hid hb5; clear hown5 hb5))
      have h35 : Ext (fun _ => False) W3 w5 := Ext.of_below_size HB5.out
      have HX5 : Hid (Ext (fun k => ¬ edRd N B k) W w5) := HX3.out.trans h35 (fun _ h => h.elim)
      have HJ5 : Hid (J pre C1 w5) := HST.out _ _ _ _ HJ3.out (h35.mono (fun _ h => h.elim))
      have HG5 : Hid (∀ g, (Value.slice ao5 nx.length cap5).ownBlock = some g → ¬ C1 g ∧ ¬ edRd N B g) := by
        intro g hg
        have h1 := (HO5.out.lt g hg).1
        have h2 := (HR.out W3 HX3.out).2.2
        have h3 := HX3.out.size
        exact ⟨fun h => by have := HCP.out g h; omega, fun h => by rcases h with h | h <;> omega⟩
      clear h35 HB5 HR3 HX3 HJ3 HX1 HJ1 HCA hst3
      go_loopw [19] (fun k wq => ∃ (q : Nat) (pre : List (Int × Int)) (C : Nat → Prop), q ≤ nx.length ∧ k = .int .i64 (q : Int) ∧ XS = pre ++ ((nx.drop q).map (fun t => ((j : Int), t)) ++ edgesFrom (j + 1) (c.ins.drop (j + 1))) ∧ J pre C wq ∧ Ext (fun k => ¬ edRd N B k) W wq ∧ OwnI wq W3.heap.size (.slice ao5 nx.length cap5) nx ∧ (∀ g, (Value.slice ao5 nx.length cap5).ownBlock = some g → ¬ C g)) (fun k _ => nx.length - (intOf k).toNat)
      case atStart => exact ⟨0, pre, C1, Nat.zero_le _, rfl, HXJ.out, HJ5.out, HX5.out, HO5.out, fun g hg => (HG5.out g hg).1⟩
      case round =>
        clear c7
        obtain ⟨q, pq, C2, hq, rfl, hxq, hJq, hx2, hoq, hcg⟩ := hrel
        have HXQ := Lib.hid hx2
        have HJQ := Lib.hid hJq
        have HOQ := Lib.hid hoq
        have HCG := Lib.hid hcg
        by_cases hql : q < nx.length
        · obtain ⟨t, ht⟩ : ∃ t, nx[q]? = some t := ⟨_, List.getElem?_eq_getElem hql⟩
          obtain ⟨g, hga, hg1, hg2, hgc⟩ := hoq.shape (by omega)
          have hct : wr.cell? ⟨g, q, none⟩ = some (.int .i64 t) := hgc q t ht
          have hxf : XS = pq ++ ((j : Int), t) :: ((nx.drop (q + 1)).map (fun t => ((j : Int), t)) ++ edgesFrom (j + 1) (c.ins.drop (j + 1))) := by rw [hxq, drop_step_map _ ht]; rfl
          have HP := Lib.hid (pre_stepE hxf)
          have HMM := Lib.hid (HM.out pq ((j : Int), t) C2 wr hJq HP.out.1)
          unfold edEnc at HMM
          simp only at HMM
          have hqI : (q : Int) < (nx.length : Int) := by omega
          subst hga
          clear hx2 hJq hxq ht hgc hxf hoq hcg
          go_upto_region 6 with (fail)
          refine (wpIn_wide (n := 0)).1 ?_
          refine wpIn_region_lit (wpListIn_ok rfl (by simp) (.func (.yield l) #[] #[]) (w' := wr) (by simp [go_sem]) ?_)
          simp only [Act.put, List.setIfInBounds_toArray, List.set_cons_zero, List.set_cons_succ]
          refine wpListIn_ok rfl (by simp) (.int .i64 (j : Int)) (w' := wr) (by simp [go_sem]) ?_
          simp only [Act.put, List.setIfInBounds_toArray, List.set_cons_zero, List.set_cons_succ]
          refine wpListIn_ok rfl (by simp) (.int .i64 t) (w' := wr) (by simp [go_sem]) ?_
          simp only [Act.put, List.setIfInBounds_toArray, List.set_cons_zero, List.set_cons_succ]
          refine wpListIn_meets (fv := .func (.yield l) #[] #[]) (args := #[.int .i64 (j : Int), .int .i64 t]) rfl (.tmp 23) #[.tmp 24, .tmp 25] _ rfl rfl (by simp [Act.eval]) HMM.out ?_
          intro v w3 hv
          simp only [Act.put, List.setIfInBounds_toArray, List.set_cons_zero, List.set_cons_succ]
          rcases hv with ⟨rfl, C', hC', hJ', hx'⟩ | ⟨rfl, hJ'⟩
          · refine wpListIn_ok rfl (by simp) (.bool false) (w' := w3) (by simp [go_sem]) ?_
            simp only [Act.put, List.setIfInBounds_toArray, List.set_cons_zero, List.set_cons_succ]
            refine wpListIn_nil ?_
            have HNN : Hid (J (pq ++ [((j : Int), t)]) C' w3 ∧ Ext (fun k => ¬ edRd N B k) W w3 ∧ OwnI w3 W3.heap.size (.slice (some ⟨g, 0, none⟩) nx.length cap5) nx ∧ (∀ k, (Value.slice (some ⟨g, 0, none⟩) nx.length cap5).ownBlock = some k → ¬ C' k)) := by
              refine ⟨hJ', HXQ.out.trans hx' (fun k hk => .inl ((HJC.out _ _ _ HJQ.out k hk).2)), OwnI.keep HOQ.out (fun k hk => hx'.block k (HOQ.out.lt k hk).2 (HCG.out k hk)), fun k hk hC2 => ?_⟩
              rcases hC' k hC2 with h | h
              · exact HCG.out k hk h
              · have := (HOQ.out.lt k hk).2; omega
            clear hJ' hx' hC' hct
            have hnl2 := HNL.out
            go_wp2
            go_roundw
            case rel => exact ⟨q + 1, _, C', by omega, by have := HNL.out; go_num, HP.out.2, HNN.out.1, HNN.out.2.1, HNN.out.2.2.1, HNN.out.2.2.2⟩
            case measure => have := HNL.out; simp [intOf]; omega
          · refine wpListIn_ok rfl (by simp) (.bool true) (w' := w3) (by simp [go_sem]) ?_
            simp only [Act.put, List.setIfInBounds_toArray, List.set_cons_zero, List.set_cons_succ]
            refine wpListIn_nil ?_
            have HF : Hid (∃ pre, pre <+: XS ∧ Jx pre w3) := ⟨_, HP.out.1, hJ'⟩
            clear hJ' hct
            go_wp2
            ((try simp only [Exit.inBlock, Exit.then]); (try rw [Exit.noGoto_ret]); (first | refine bodyPost_ret (results_none rfl _ _ _) rfl ?_ | refine bodyPost_end (results_none rfl _ _ _) rfl ?_))
            exact ⟨_, rfl, .inr HF.out⟩
        · have hqe : q = nx.length := by omega
          subst hqe
          rw [List.drop_length, List.map_nil, List.nil_append] at hxq
          have HXE := Lib.hid hxq
          clear hx2 hJq hxq hoq hcg
          go_wp2
          go_roundw
          case rel => exact ⟨j + 1, pq, C2, by omega, by go_num, HXE.out, HJQ.out, HXQ.out⟩
          case measure => simp [intOf]; omega
    · have hje : j = c.ins.length := by omega
      subst hje
      rw [edges_end, List.append_nil] at hxs
      have HXE : Hid (J XS C1 wr) := by unfold Hid; rw [hxs]; exact HJ1.out
      clear hx1 hJ1 hxs hinn
      go_wp2
      ((try simp only [Exit.inBlock, Exit.then]); (try rw [Exit.noGoto_ret]); (first | refine bodyPost_ret (results_none rfl _ _ _) rfl ?_ | refine bodyPost_end (results_none rfl _ _ _) rfl ?_))
      exact ⟨_, rfl, .inl ⟨C1, HXE.out⟩⟩
end Go.Proofs.Ytbbogkcfngpbbaa
