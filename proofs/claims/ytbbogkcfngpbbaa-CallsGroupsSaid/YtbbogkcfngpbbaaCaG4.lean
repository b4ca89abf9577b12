/- All functions into groups: the walk. -/
import Derived.Test.YtbbogkcfngpbbaaCaG3
import Derived.RegionTactic
import Derived.BigRegion
namespace Go.Proofs.Ytbbogkcfngpbbaa
open Go.RowKit

theorem info_rowC : (Try.prog.info? 22).map (fun i => (i.zero, i.size, i.bytes)) = some (some (.slice none 0 0), 1, 24) := by kernel_rfl

theorem GM.drew {w : World} {N G n DN UP ST RE GP : Nat} {gv : Value} {tag : Nat → Nat} {d u : Nat → List Nat} {s : Nat → List (Nat × Nat)} {r : Nat → List Bool} {gi : Nat → Int} (h : GM w N G n DN UP ST RE GP gv tag d u s r gi) : GM w.drew N G n DN UP ST RE GP gv tag d u s r gi :=
  h.ext (M := fun _ => False) (Ext.refl _ w).drew (fun _ _ h => h) (fun h => h) (fun h => h)

set_option maxRecDepth 100000 in
set_option maxHeartbeats 8000000 in
theorem part_calls (w : World) (N G n DN UP ST RE GP : Nat) (tag : Nat → Nat) (d u : Nat → List Nat) (s : Nat → List (Nat × Nat)) (gi : Nat → Int) (hg : GM w N G n DN UP ST RE GP (.slice none 0 0) tag d u s (fun f => (List.range n).map (reachB d f)) gi) (hn : n ≤ 70)
    (hdl : ∀ x, x < n → (d x).length ≤ n) (hdn : ∀ x, ∀ y ∈ d x, y < n) :
    Calls Try.prog 77 #[.pointer (some ⟨G, 0, none⟩)] w fun e w' => e = .returned (.tuple #[]) ∧ ∃ gv, GM w' N G n DN UP ST RE GP gv tag d u s (fun f => (List.range n).map (reachB d f)) (partN n d (reachB d) n).1 ∧
      GrpI w' w.heap.size gv (partN n d (reachB d) n).2 ∧ Below N w w' := by
  obtain ⟨H, hH⟩ : ∃ H, w.heap.size = H := ⟨_, rfl⟩
  have HG0 := Lib.hid hg
  have HDL := Lib.hid hdl
  have HDN := Lib.hid hdn
  obtain ⟨_, _, _, _, _, c5⟩ := hg.cells
  have hGP : GP < H := by rw [← hH]; exact hg.ltP
  have hGG : G < H := by rw [← hH]; exact hg.ltG
  have HLT : Hid (∀ k, tag k ≠ 0 → k < H) := by rw [← hH]; exact hg.tagLt
  have hNG := hg.lowG
  have hNP := hg.lowP
  have HTG := Lib.hid hg.tg
  have HTP := Lib.hid hg.tp
  have HNE := Lib.hid hg.ne
  rw [hH]
  clear hg hdl hdn
  go_enter Try.func77, Try.ntmps77
  go_step3
  go_wp2_with fail
  go_loopw [14] (fun c wr => ∃ (j : Nat) (g' : Nat → Int), j ≤ n ∧ c = .int .i64 (j : Int) ∧ (∀ x, x < j → g' x = -1) ∧ GM wr N G n DN UP ST RE GP (.slice none 0 0) tag d u s (fun f => (List.range n).map (reachB d f)) g' ∧ Ext (fun k => k = G ∨ k = GP ∨ H ≤ k) w wr) (fun c _ => n - (intOf c).toNat)
  case atStart => exact ⟨0, gi, Nat.zero_le _, rfl, fun x h => absurd h (Nat.not_lt_zero _), HG0.out, Ext.refl _ _⟩
  case round =>
    obtain ⟨j, g', hj, rfl, hg', hgm, hx⟩ := hrel
    obtain ⟨_, _, _, _, _, d5⟩ := hgm.cells
    by_cases hjn : j < n
    · have hjI : (j : Int) < (n : Int) := by omega
      have e1 : wr.cell? ⟨GP, j, none⟩ = some (.int .i64 (g' j)) := by rw [cell_of_row _ _ _ _ _ _ hgm.gp, numsC_get _ hjn]
      have e2 : wr.frozen? ⟨GP, j, none⟩ = false := frozen_of_row _ _ _ _ _ hgm.gp
      have HN : Hid (∃ (j' : Nat) (g2 : Nat → Int), j' ≤ n ∧ ((j : Int) + 1) = (j' : Int) ∧ (∀ x, x < j' → g2 x = -1) ∧ GM (wr.setCell ⟨GP, j, none⟩ (.int .i64 (-1))) N G n DN UP ST RE GP (.slice none 0 0) tag d u s (fun f => (List.range n).map (reachB d f)) g2 ∧ Ext (fun k => k = G ∨ k = GP ∨ H ≤ k) w (wr.setCell ⟨GP, j, none⟩ (.int .i64 (-1)))) := by
        refine ⟨j + 1, _, by omega, by simp, fun x hx => ?_, hgm.setP j (-1), hx.setCell (a := ⟨GP, j, none⟩) (.inl (.inr (.inl rfl))) _⟩
        by_cases e : x = j
        · rw [if_pos e]
        · rw [if_neg e]; exact hg' x (by omega)
      clear hg' hgm hx
      go_wp2
      go_roundw
      case rel =>
        obtain ⟨j', g2, a1, a2, a3⟩ := HN.out
        exact ⟨j', g2, a1, by rw [← a2], a3⟩
      case measure => simp [intOf]; omega
    · have hje : j = n := by omega
      subst hje
      have HGM := Lib.hid (hgm.num (gi' := (partN j d (reachB d) 0).1) (fun x hx => by rw [hg' x hx]; rfl))
      have HX := Lib.hid hx
      clear hg' hgm hx
      go_wp2_with fail
      go_step3
      go_wp2_with fail
      go_loopg [] (freeN j (partN j d (reachB d) 0).1) (fun m wo => ∃ (k : Nat) (gv : Value), m = freeN j (partN j d (reachB d) k).1 ∧ (partN j d (reachB d) k).2.length = k ∧ k + m ≤ j ∧ GM wo N G j DN UP ST RE GP gv tag d u s (fun f => (List.range j).map (reachB d f)) (partN j d (reachB d) k).1 ∧
        GrpI wo H gv (partN j d (reachB d) k).2 ∧ Ext (fun k => k = G ∨ k = GP ∨ H ≤ k) w wo)
      case atStart => 
        refine ⟨0, _, rfl, rfl, ?_, HGM.out, GrpI.nil _ _, HX.out⟩
        have := List.length_filter_le (fun h => (partN j d (reachB d) 0).1 h == -1) (List.range j)
        simpa [freeN] using this
      case round =>
        obtain ⟨k, gv, rfl, hlen, hkj, hgm, hgr, hx⟩ := hrel
        obtain ⟨⟨gk, ls⟩, hS⟩ : ∃ S, partN j d (reachB d) k = S := ⟨_, rfl⟩
        rw [hS] at hlen hkj hgm hgr
        simp only at hlen hkj hgm hgr
        have HS := Lib.hid hS
        clear hS
        obtain ⟨d0, _, _, _, _, d5⟩ := hgm.cells
        have HGM2 := Lib.hid hgm
        have HGR2 := Lib.hid hgr
        have HX2 := Lib.hid hx
        have HLEN := Lib.hid hlen
        have HKJ := Lib.hid hkj
        clear hgm hgr hx hlen hkj
        go_wp2_with fail
        go_loopw [33] (fun c wr2 => ∃ f : Nat, f ≤ j ∧ c = .int .i64 (f : Int) ∧ (∀ x, x < f → (gk x == -1 && readyF d gk (grp j (reachB d) x)) = false) ∧ GM wr2 N G j DN UP ST RE GP gv tag d u s (fun f => (List.range j).map (reachB d f)) gk ∧ GrpI wr2 H gv ls ∧
          Ext (fun k => k = G ∨ k = GP ∨ H ≤ k) w wr2) (fun c _ => j - (intOf c).toNat)
        case atStart => exact ⟨0, Nat.zero_le _, rfl, fun x h => absurd h (Nat.not_lt_zero _), HGM2.out, HGR2.out, HX2.out⟩
        case round =>
          obtain ⟨f, hf, rfl, hno, hgm, hgr, hx⟩ := hrel
          obtain ⟨e0, _, _, _, e4, e5⟩ := hgm.cells
          by_cases hfj : f < j
          · have hfI : (f : Int) < (j : Int) := by omega
            have eg : wr.cell? ⟨GP, f, none⟩ = some (.int .i64 (gk f)) := by rw [cell_of_row _ _ _ _ _ _ hgm.gp, numsC_get _ hfj]
            obtain ⟨q, hq⟩ : ∃ q, gk f = q := ⟨_, rfl⟩
            rw [hq] at eg
            have HQ := Lib.hid hq
            have HNO := Lib.hid hno
            have HG3 := Lib.hid hgm
            have HR3 := Lib.hid hgr
            have HX3 := Lib.hid hx
            clear hq hno hgm hgr hx
            by_cases hq1 : q = -1
            · subst hq1
              have HM := Lib.hid (members_calls wr N G j DN UP ST RE GP gv tag d u s (reachB d) gk HG3.out hn f hfj)
              have hlr : (grp j (reachB d) f).length ≤ j := rf_len _ j
              obtain ⟨l, hl⟩ : ∃ l, grp j (reachB d) f = l := ⟨_, rfl⟩
              rw [hl] at HM hlr
              have HL := Lib.hid hl
              clear hl
              have hszr : H ≤ wr.heap.size := by have := HX3.out.size; omega
              go_wp2_with fail
              go_at_call 90
              refine HM.out.mono ?_
              rintro e w3 ⟨vl, rfl, hown3, hb3⟩
              obtain ⟨aol, capl, rfl⟩ := ownsRow_slice hown3
              have hg3 := HG3.out.below hb3
              have HR4 := Lib.hid (HR3.out.below hb3)
              have HX4 : Hid (Ext (fun k => k = G ∨ k = GP ∨ H ≤ k) w w3) := HX3.out.trans (Ext.of_below_size (M := fun _ => False) hb3) (fun _ h => h.elim)
              have hsz3 : H ≤ w3.heap.size := by have := hb3.size; omega
              have HLN : Hid (∀ x ∈ l, x < j) := fun x hx => by rw [← HL.out] at hx; exact (mem_grp.1 hx).1
              have HRD := Lib.hid (ready_calls w3 N G j DN UP ST RE GP gv tag d u s _ gk hg3 hn HDL.out HDN.out l aol capl wr.heap.size hown3 (by omega) HLN.out)
              have HG4 := Lib.hid hg3
              have HO4 := Lib.hid hown3
              obtain ⟨rb, hrb⟩ : ∃ rb, readyF d gk l = rb := ⟨_, rfl⟩
              rw [hrb] at HRD
              have HRB := Lib.hid hrb
              clear e0 e4 e5 eg hown3 hb3 hg3 hrb
              go_wp2_with fail
              go_at_call 91
              refine HRD.out.mono ?_
              rintro e w4 ⟨rfl, rfl⟩
              cases rb with
              | false =>
                have HN : Hid (∀ x, x < f + 1 → (gk x == -1 && readyF d gk (grp j (reachB d) x)) = false) := by
                  intro x hx
                  by_cases e : x = f
                  · subst e; rw [HL.out, HRB.out, Bool.and_false]
                  · exact HNO.out x (by omega)
                go_wp2
                go_roundw
                case rel => exact ⟨f + 1, by omega, by go_num, HN.out, HG4.out, HR4.out, HX4.out⟩
                case measure => simp [intOf]; omega
              | true =>
                obtain ⟨gao, gcap, hgv⟩ : ∃ ao cap, gv = .slice ao ls.length cap := by obtain ⟨vals, _, h2, _⟩ := HR4.out.ex; exact ownsRow_slice h2
                subst hgv
                have hPK := Lib.hid (pickF_at (D := d) (T := reachB d) hfj HNO.out HQ.out (by rw [HL.out]; exact HRB.out))
                have HG40 : Hid (GM w3 N G j DN UP ST RE GP (.slice gao ls.length gcap) tag d u s (fun f => (List.range j).map (reachB d f)) (setF gk (l.take 0) (ls.length : Int))) := by
                  have e : setF gk (l.take 0) (ls.length : Int) = gk := by funext x; simp [setF]
                  rw [e]; exact HG4.out
                go_wp2_with fail
                go_loopw [53] (fun c w5 => ∃ a : Nat, a ≤ l.length ∧ c = .int .i64 (a : Int) ∧ GM w5 N G j DN UP ST RE GP (.slice gao ls.length gcap) tag d u s (fun f => (List.range j).map (reachB d f)) (setF gk (l.take a) (ls.length : Int)) ∧ Ext (· = GP) w3 w5) (fun c _ => l.length - (intOf c).toNat)
                case atStart => exact ⟨0, Nat.zero_le _, rfl, HG40.out, Ext.refl _ _⟩
                case round =>
                  obtain ⟨a, ha, rfl, hgm, hx⟩ := hrel
                  obtain ⟨_, _, _, _, f4, f5⟩ := hgm.cells
                  by_cases hal : a < l.length
                  · have haI : (a : Int) < (l.length : Int) := by omega
                    obtain ⟨h, hh⟩ : ∃ h, l[a]? = some h := ⟨_, List.getElem?_eq_getElem hal⟩
                    have hhj : h < j := HLN.out h (List.mem_of_getElem? hh)
                    have hhI : (h : Int) < (j : Int) := by omega
                    obtain ⟨gl, rfl, hgl, cl⟩ := ownsRow_get HO4.out (j := a) (u := .int .i64 (h : Int)) (by rw [encN_flat]; simp [nums, hh])
                    have hglb := (HO4.out.lt gl rfl).1
                    have cl2 : wr.cell? ⟨gl, a, none⟩ = some (.int .i64 (h : Int)) := (hx.cell (a := ⟨gl, a, none⟩) hgl (show ¬ gl = GP by omega)).trans cl
                    have ch : wr.cell? ⟨GP, h, none⟩ = some (.int .i64 (setF gk (l.take a) (ls.length : Int) h)) := by rw [cell_of_row _ _ _ _ _ _ hgm.gp, numsC_get _ hhj]
                    have fh : wr.frozen? ⟨GP, h, none⟩ = false := frozen_of_row _ _ _ _ _ hgm.gp
                    have HN : Hid (GM (wr.setCell ⟨GP, h, none⟩ (.int .i64 (ls.length : Int))).drew N G j DN UP ST RE GP (.slice gao ls.length gcap) tag d u s (fun f => (List.range j).map (reachB d f)) (setF gk (l.take (a + 1)) (ls.length : Int)) ∧ Ext (· = GP) w3 (wr.setCell ⟨GP, h, none⟩ (.int .i64 (ls.length : Int))).drew) := by
                      refine ⟨?_, ((hx.setCell (a := ⟨GP, h, none⟩) (.inl rfl) _)).drew⟩
                      rw [setF_take hh]
                      exact (hgm.setP h (ls.length : Int)).drew
                    clear hgm hx hh cl
                    go_wp2_with fail
                    go_region
                    all_goals
                      go_wp2
                      go_roundw
                    case rel => exact ⟨a + 1, by omega, by go_num, HN.out.1, HN.out.2⟩
                    case measure => simp [intOf]; omega
                  · have hae : a = l.length := by omega
                    subst hae
                    rw [List.take_length] at hgm
                    have hR5 := HR4.out.ext hx (fun k h1 _ e => by omega)
                    obtain ⟨vals, v1, v2, v3⟩ := hR5.ex
                    have hol : wr.ownsRow H 3 1 (.slice aol l.length capl) l.length (l.flatMap encN) := ownsRow_base (ownsRow_ext HO4.out hx (fun k hk e => by have := (HO4.out.lt k hk).1; omega)) (fun k hk => by have := (HO4.out.lt k hk).1; omega)
                    have hne : ∀ k, (Value.slice aol l.length capl).ownBlock = some k → (Value.slice gao ls.length gcap).ownBlock ≠ some k := fun k hk hk' => by
                      have h1 := (HO4.out.lt k hk).1
                      obtain ⟨vals0, _, h3, _⟩ := HR3.out.ex
                      have h2 := (h3.lt k hk').2
                      omega
                    have hszw : H ≤ wr.heap.size := by have := hx.size; omega
                    have hk70 : ls.length ≤ 70 := by have := HKJ.out; have := HLEN.out; omega
                    obtain ⟨i0, hi0, hi1, hi2, hi3⟩ := info_parts info_rowC
                    have HK : Hid (∀ (g5 cap5 : Nat) (w5 : World), w5.ownsRow H 22 1 (.slice (some ⟨g5, 0, none⟩) (ls.length + 1) cap5) (ls.length + 1) (vals ++ [.slice aol l.length capl]) →
                        (wr.alloc (.cells #[.slice aol l.length capl] 22)).grownBy w5 (Value.slice gao ls.length gcap).ownBlock → ((Value.slice gao ls.length gcap).ownBlock = some g5 ∨ g5 = (wr.alloc (.cells #[.slice aol l.length capl] 22)).heap.size) →
                        w5.cell? ⟨G, 4, none⟩ = some (.slice gao ls.length gcap) ∧ w5.frozen? ⟨G, 4, none⟩ = false ∧
                        GM (w5.setCell ⟨G, 4, none⟩ (.slice (some ⟨g5, 0, none⟩) (ls.length + 1) cap5)) N G j DN UP ST RE GP (.slice (some ⟨g5, 0, none⟩) (ls.length + 1) cap5) tag d u s (fun f => (List.range j).map (reachB d f)) (setF gk l (ls.length : Int)) ∧
                        GrpI (w5.setCell ⟨G, 4, none⟩ (.slice (some ⟨g5, 0, none⟩) (ls.length + 1) cap5)) H (.slice (some ⟨g5, 0, none⟩) (ls.length + 1) cap5) (ls ++ [l]) ∧ Ext (fun k => k = G ∨ k = GP ∨ H ≤ k) w (w5.setCell ⟨G, 4, none⟩ (.slice (some ⟨g5, 0, none⟩) (ls.length + 1) cap5))) := by
                      intro g5 cap5 w5 h1 h2 h3
                      have hA : Ext (fun _ => False) wr (wr.alloc (.cells #[.slice aol l.length capl] 22)) := (Ext.refl _ _).alloc _
                      have hx5 : Ext (fun k => (Value.slice gao ls.length gcap).ownBlock = some k) wr w5 := ext_grown hA h2
                      have hlow : ∀ k, (Value.slice gao ls.length gcap).ownBlock = some k → H ≤ k := fun k hk => (v2.lt k hk).1
                      have hgm5 := hgm.ext hx5 (fun k h1 h2 => by have := HLT.out k h1; have := hlow k h2; omega) (fun h => by have := hlow G h; omega) (fun h => by have := hlow GP h; omega)
                      have hgr5 : GrpI w5 H (.slice (some ⟨g5, 0, none⟩) (ls.length + 1) cap5) (ls ++ [l]) := GrpI.app hR5 hol hne hA h2 vals v1 v3 h1 (fun k hk => by
                        have e : some g5 = some k := hk
                        obtain rfl := Option.some.inj e
                        rcases h3 with h | h
                        · exact .inl h
                        · right; omega)
                      have hxs : Ext (· = G) w5 (w5.setCell ⟨G, 4, none⟩ (.slice (some ⟨g5, 0, none⟩) (ls.length + 1) cap5)) := Ext.set1 _ _ _ _
                      refine ⟨hgm5.cells.2.2.2.2.1, frozen_of_row _ _ _ _ _ hgm5.g, hgm5.setG _, hgr5.ext hxs (fun k h1 _ e => by omega), ?_⟩
                      exact ((HX4.out.trans hx (fun k hk => .inl (.inr (.inl hk)))).trans hx5 (fun k hk => .inl (.inr (.inr (hlow k hk))))).trans hxs (fun k hk => .inl (.inl hk))
                    have HV2 := Lib.hid v2
                    clear hgm hx hR5 v1 v2 v3 hol hne
                    go_wp2_with (at_builtin; refine wpList_append_lies _ rfl _ _ 63 rfl H 22 i0 (.slice none 0 0) 1 24 Try.underlying63 hi0 hi1 hi2 hi3 rfl (by decide) (.slice gao ls.length gcap) ls.length vals rfl (ownsRow_below HV2.out ((Below.refl wr.heap.size wr).alloc (Nat.le_refl _) _)) ⟨wr.heap.size, 0, none⟩ 1 1 [.slice aol l.length capl] rfl rfl (cells_new _ _ _) (by simp [Value.oneCell']) (by decide) (by unfold maxLen; omega) (by omega) (by rw [World.size_alloc]; omega) _ rfl ?_; intro g5 cap5 w5 hown5 hgrow5 hat5 hlt5; obtain ⟨r1, r2, r3⟩ := HK.out g5 cap5 w5 hown5 hgrow5 hat5; have HR5 := Lib.hid r3; clear hown5 hgrow5 hat5 hlt5 r3)
                    have hst : partN j d (reachB d) (k + 1) = (setF gk l (ls.length : Int), ls ++ [l]) := by
                      show partS j d (reachB d) (partN j d (reachB d) k) = _
                      rw [HS.out]
                      unfold partS
                      rw [hPK.out]
                      show (setF gk (grp j (reachB d) f) (ls.length : Int), ls ++ [grp j (reachB d) f]) = _
                      rw [HL.out]
                    have hfr : freeN j (partN j d (reachB d) (k + 1)).1 < freeN j gk := by
                      have := partS_free (n := j) (D := d) (s := (gk, ls)) hPK.out
                      show freeN j (partS j d (reachB d) (partN j d (reachB d) k)).1 < _
                      rw [HS.out]; exact this
                    go_roundg (freeN j (partN j d (reachB d) (k + 1)).1)
                    case measure => rw [HS.out]; exact hfr
                    case rel => exact ⟨k + 1, _, rfl, by rw [hst]; simp [HLEN.out], by have := HKJ.out; omega, by rw [hst]; exact HR5.out.1, by rw [hst]; exact HR5.out.2.1, HR5.out.2.2⟩
            · have hq2 : (q != -1) = true := by rw [bne_iff_ne]; exact hq1
              have HN : Hid (∀ x, x < f + 1 → (gk x == -1 && readyF d gk (grp j (reachB d) x)) = false) := by
                intro x hx
                by_cases e : x = f
                · subst e; rw [HQ.out, beq_eq_false_iff_ne.2 hq1]; rfl
                · exact HNO.out x (by omega)
              clear hq1
              go_wp2
              go_roundw
              case rel => exact ⟨f + 1, by omega, by go_num, HN.out, HG3.out, HR3.out, HX3.out⟩
              case measure => simp [intOf]; omega
          · have hfe : f = j := by omega
            subst hfe
            have hpn : pickF f d (reachB d) gk = none := pickF_none hno
            have hst : partN f d (reachB d) f = (gk, ls) := by
              rw [partN_stop (k := k) (by rw [HS.out]; exact hpn) f (by have := HKJ.out; omega), HS.out]
            have HN : Hid (GM wr N G f DN UP ST RE GP gv tag d u s (fun x => (List.range f).map (reachB d x)) (partN f d (reachB d) f).1 ∧ GrpI wr H gv (partN f d (reachB d) f).2 ∧ Below N w wr) := by
              rw [hst]
              exact ⟨hgm, hgr, hx.below (by omega) (fun k hk => by omega)⟩
            clear hno hgm hgr hx hpn hst
            go_wp2
            rw [Exit.noGoto_normal]
            go_end0
            exact ⟨rfl, gv, HN.out⟩
end Go.Proofs.Ytbbogkcfngpbbaa
