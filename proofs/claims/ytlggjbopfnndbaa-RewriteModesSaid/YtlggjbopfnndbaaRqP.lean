/- The reference's Of: the walk. -/
import Derived.Test.YtlggjbopfnndbaaG65
namespace Go.Proofs.Ytlggjbopfnndbaa
open Go.RowKit
theorem RqM.keep2 {w w' : World} {m : Mo} {B R : Nat} {vv fv : Value} {rows : List FR} {x : Nat → Nat → Nat → Bool} {tag : Tag} {rn : Int} {M : Nat → Prop} (h : RqM w m B R vv fv rows x tag rn) (hx : Ext M w w') (hM : ∀ k,M k → tag k = (0,0,0)) (hmod : ∃ w0 : World,m.inn w0 ∧ w0.heap.size ≤ B ∧ Below w0.heap.size w0 w') : RqM w' m B R vv fv rows x tag rn :=
 ⟨hmod,hx.heap h.rec_ (fun hk => by have := hM R hk; rw [h.tR] at this; simp at this),h.tab.keep hx (fun k hk => .inl (hM k hk)),h.tR,h.fit,h.n⟩
set_option maxRecDepth 100000 in
set_option maxHeartbeats 16000000 in
theorem rof_calls (m : Mo) (w : World) (hin : m.inn w) (hok : OkR m) : Calls Try.prog 34 #[.agg m.cells] w (OfQ m w) := by
 have HOK := Lib.hid hok
 have hn60 := hok.nf
 obtain ⟨B,hB⟩ : ∃ B,w.heap.size = B := ⟨_,rfl⟩
 have HB := Lib.hid hB
 obtain ⟨W1,hW1⟩ : ∃ W1,((w.alloc (.cells m.cells 25)).alloc (.cells #[.slice none 0 0,.slice none 0 0,.int .i64 0] 67)).alloc (.cells #[.slice none 0 0,.slice none 0 0,.int .i64 0] 67) = W1 := ⟨_,rfl⟩
 obtain ⟨hb1,hs1,r0,r1,r2⟩ := box3 hW1
 rw [hB] at hb1 hs1 r0 r1 r2
 have HG0 : Hid (RqB W1 m (B + 2) (B + 2) 0 (.slice none 0 0) (.slice none 0 0) [] (initR m) (fun k => if k = B + 2 then (5,0,0) else (0,0,0))) := RqB.start hin (by rw [hB]; omega) (by rw [hB]; exact hb1) r2 (Nat.le_refl _)
 have HX0 : Hid (OfBx m w B W1) := ⟨hb1,r0,r1⟩
 have c1 : W1.cell? ⟨B,1,none⟩ = some (.slice m.fA m.fs.length m.fC) := by rw [cell_of_row _ _ _ _ _ _ r0]; rfl
 have HIN := Lib.hid hin
 have HW1 := Lib.hid hW1
 clear hin hok hb1 hs1 r0 r1 r2 hW1
 go_enter Try.func34,Try.ntmps34
 go_upto_region 2 with (fail)
 rw [HW1.out]
 clear HW1
 go_wp2_with fail
 clear c1
 go_loopw [4] (fun c wr => OfSI m w B (B + 2) c wr) (fun c _ => m.fs.length - (intOf c).toNat)
 case atStart => exact ⟨0,_,_,_,_,Nat.zero_le _,rfl,HG0.out,HX0.out⟩
 case round =>
  rename World => wo
  obtain ⟨j,vv,fv,rows,tag,hj,rfl,hgm,hbx⟩ := hrel
  have c1 : wo.cell? ⟨B,1,none⟩ = some (.slice m.fA m.fs.length m.fC) := by rw [cell_of_row _ _ _ _ _ _ hbx.mod]; rfl
  by_cases hjn : j < m.fs.length
  ·have hjI : (j : Int) < (m.fs.length : Int) := by omega
   obtain ⟨g,hg⟩ : ∃ g,m.fs[j]? = some g := ⟨_,List.getElem?_eq_getElem hjn⟩
   obtain ⟨p0,p1,p2,p3⟩ := HOK.out.fn g (List.mem_of_getElem? hg)
   obtain ⟨P,hP⟩ : ∃ P : Nat,g.c.par = (P : Int) := ⟨g.c.par.toNat,by omega⟩
   have hPb : P ≤ 300 := by omega
   have HPN : Hid (P = g.c.par.toNat) := by unfold Hid; omega
   obtain ⟨fb,fo,hfA,hfb,hfc⟩ := hgm.inn.frow (by intro e; rw [e] at hjn; simp at hjn)
   have HCA : Hid (∀ k u,g.cells.toList[k]? = some u → wo.cell? ((⟨fb,fo + j * 8,none⟩ : Addr).add k) = some u) := fun k u hu => by rw [Addr.add_lit]; exact hfc j g hg k u hu
   have hnv := (hgm.inn.fin g (List.mem_of_getElem? hg)).nvars
   obtain ⟨N4,hN4⟩ : ∃ N,wo.heap.size = N := ⟨_,rfl⟩
   have hst : ∀ c : Array Value,c.size = 8 → (storeCells ⟨wo.heap.size,0,none⟩ g.cells.toList).run Try.prog (wo.alloc (.cells c 50)) = .ok () (wo.alloc (.cells g.cells 50)) := fun c hc =>
    run_storeCells_new (P := Try.prog) wo 50 c g.cells (by show _ = some 8; kernel_rfl) hc (fnOne g)
   obtain ⟨W4,hW4⟩ : ∃ W4,wo.alloc (.cells g.cells 50) = W4 := ⟨_,rfl⟩
   rw [hW4,hN4] at hst
   have hb4 : Below wo.heap.size wo W4 := by rw [← hW4]; exact (Below.refl _ _).alloc (Nat.le_refl _) _
   have hr4 : W4.heap[N4]? = some (.cells g.cells 50 (0,0)) := by rw [← hW4,← hN4]; exact alloc_at _ _
   have HG4 := Lib.hid (hgm.below hb4)
   have HT4 : Hid (tag N4 = (0,0,0)) := Classical.byContradiction fun h => by have := (hgm.tab.low N4 h).2; omega
   have HR4 := Lib.hid hr4
   have HX4 : Hid (OfBx m w B W4) := hbx.ext HB.out (Ext.of_below_size (M := fun _ => False) hb4) (fun _ h => h.elim)
   have HV2 : Hid (∀ W : World,W.heap[N4]? = some (.cells g.cells 50 (0,0)) → W.cell? ⟨N4,1,none⟩ = some (.int .i64 (P : Int)) ∧ W.cell? ⟨N4,2,none⟩ = some (.slice g.c.varsA g.vs.length g.c.varsC)) := fun W hW => ⟨by rw [cell_of_row _ _ _ _ _ _ hW,← hP]; rfl,by rw [cell_of_row _ _ _ _ _ _ hW,← hnv]; rfl⟩
   have e2 := (HV2.out W4 hr4).2
   have HGG := Lib.hid hg
   have hrl : rows.length = j := hgm.n
   have HRL := Lib.hid hrl
   rw [hfA] at c1
   clear hg hgm hbx hfc hW4 hb4 hr4 p0 p1 p3 hrl hnv hfA
   go_upto_region 8 with (refine wpList_load_at rfl 50 _ rfl ⟨fb,fo + j * 8,none⟩ rfl g.cells _ HCA.out Try.underlying50 rfl (by kernel_rfl) ?_)
   clear hst c1
   go_wp2_with fail
   clear e2 HCA
   go_loopw [6,7] (fun l c w9 => OfSJ m w B (B + 2) j g P N4 vv fv rows l c w9) (fun _ c _ => g.vs.length - (intOf c).toNat)
   case atStart => exact ⟨0,[],tag,Nat.zero_le _,rfl,rfl,HG4.out,⟨World.ownsRow_nil _ _ _ _,fun u b h => (by simp at h),fun k h => (by simp [Value.ownBlock] at h)⟩,HR4.out,HT4.out,HX4.out⟩
   case round =>
    clear HG4 HR4 HT4 HX4
    obtain ⟨u,locs,tag2,hu,rfl,hl,hgm,hrt,hr4,ht4,hbx⟩ := hrel
    obtain ⟨n1,n2⟩ := HV2.out wr hr4
    have hN4s : N4 < wr.heap.size := (Array.getElem?_eq_some_iff.1 hr4).1
    by_cases huv : u < g.vs.length
    ·subst hl
     have huI : (locs.length : Int) < (g.vs.length : Int) := by omega
     obtain ⟨x,hx⟩ : ∃ x,g.vs[locs.length]? = some x := ⟨_,List.getElem?_eq_getElem huv⟩
     obtain ⟨vb,vo,hvA,hvb,hvc⟩ := (hgm.inn.fin g (List.mem_of_getElem? HGG.out)).vars (by intro e; rw [e] at huv; simp at huv)
     obtain ⟨N5,hN5⟩ : ∃ N,wr.heap.size = N := ⟨_,rfl⟩
     obtain ⟨W6,hW6⟩ : ∃ W6,wr.alloc (.cells (boolRow P (fun _ => false)) 4) = W6 := ⟨_,rfl⟩
     have hb6 : Below wr.heap.size wr W6 := by rw [← hW6]; exact (Below.refl _ _).alloc (Nat.le_refl _) _
     have hs6 : W6.heap.size = N5 + 1 := by rw [← hW6]; simp [hN5]
     have hr6 : boolsOk W6 N5 P (fun _ => false) := by unfold boolsOk; rw [← hW6,← hN5]; exact alloc_at _ _
     have HN6 : Hid (∀ W,Below W6.heap.size W6 W → W.cell? ⟨N4,1,none⟩ = some (.int .i64 (P : Int)) ∧ W.cell? ⟨N4,2,none⟩ = some (.slice (some ⟨vb,vo,none⟩) g.vs.length g.c.varsC)) := fun W hW => by
      have h1 := hb6.trans (hW.mono hb6.size)
      have h2 := HV2.out W ((h1.block N4 hN4s).trans hr4)
      exact ⟨h2.1,by rw [← hvA]; exact h2.2⟩
     have hx3 : ∀ k u',x.cells.toList[k]? = some u' → W6.cell? ⟨vb,vo + locs.length * 3 + k,none⟩ = some u' := fun k u' h' => by rw [hb6.cell (p := ⟨vb,_,none⟩) hvb]; exact hvc _ x hx k u' h'
     have a0 : W6.cell? ⟨vb,vo + locs.length * 3,none⟩ = some (.bool x.ptr) := hx3 0 _ rfl
     have a1 : W6.cell? ⟨vb,vo + locs.length * 3 + 1,none⟩ = some (.string x.tgt) := hx3 1 _ rfl
     have a2 : W6.cell? ⟨vb,vo + locs.length * 3 + 2,none⟩ = some (.int .i64 x.cls) := hx3 2 _ rfl
     have HLENT := Lib.hid (rlent19_calls x W6)
     simp only [Vr.cells] at HLENT
     have HOWN : Hid (∀ w7,Below wr.heap.size wr w7 → w7.ownsRow 0 70 1 u6 locs.length (locs.map fun b => boolLeaf.enc b P)) := fun w7 h7 => ownsRow_below hrt.own h7
     have HNXT : Hid (∀ (w7 w8 : World) (o : Obj) (v8 : Value),Below wr.heap.size wr w7 → N5 < w7.heap.size → boolsOk w7 N5 P (initR m j locs.length) → w8.ownsRow 0 70 1 v8 (locs.length + 1) ((locs.map fun b => boolLeaf.enc b P) ++ [.slice (some ⟨N5,0,none⟩) P P]) →
       (w7.alloc o).grownBy w8 u6.ownBlock → (∀ k,v8.ownBlock = some k → u6.ownBlock = some k ∨ (w7.alloc o).heap.size ≤ k) → OfSJ m w B (B + 2) j g P N4 vv fv rows v8 (.int .i64 ((locs.length : Int) + 1)) w8) := by
      intro w7 w8 o v8 h7 h7s hok7 hown8 hg8 hat8
      obtain ⟨tag',q1,q2,q3,q4⟩ := hgm.var hrt h7 (by rw [hN5]; exact Nat.le_refl _) h7s hok7 hown8 hg8 hat8
      have hT : ∀ k,u6.ownBlock = some k → tag2 k = (3,j,0) := hrt.tr
      refine ⟨locs.length + 1,locs ++ [N5],tag',huv,by simp,by simp,q1,q2,q3.heap hr4 (fun hk => by have := hT N4 hk; rw [ht4] at this; simp at this),by rw [q4 N4 hN4s]; exact ht4,hbx.ext HB.out q3 (fun k hk => (hgm.tab.low k (by rw [hT k hk]; simp)).1)⟩
     have HOKN : Hid ((decide ((locs.length : Int) < g.c.par) && x.lent) = false → ∀ w7,boolsOk w7 N5 P (fun _ => false) → boolsOk w7 N5 P (initR m j locs.length)) := fun hc w7 h7 =>
      rleaf_none HGG.out (by rw [lentAt_get hx,decide_eq_true huv,Bool.true_and]; exact hc) h7
     have HOKY : Hid (locs.length < P → x.lent = true → ∀ w7,boolsOk w7 N5 P (fun n => if n = locs.length then true else false) → boolsOk w7 N5 P (initR m j locs.length)) := fun h1 h2 w7 h7 => rleaf_one HGG.out hP h1 hx h2 h7
     have HR6 := Lib.hid hr6
     have HB6 := Lib.hid hb6
     have HS6 := Lib.hid hs6
     have HN5 := Lib.hid hN5
     have HW6 := Lib.hid hW6
     obtain ⟨i0,hi0,hi1,hi2,hi3⟩ := info_parts info_bools
     obtain ⟨ib,hib,hib1,hib2,hib3⟩ := info_parts info_bool1
     clear hx hvc hW6 hb6 hr6 hgm hrt hr4 ht4 hbx hs6 hx3 hvA
     go_upto_region 11 with (at_make; refine wpList_make_at rfl (.tmp 30) (.tmp 30) 70 rfl 4 ib (.bool false) Try.underlying70 hib hib1 hib2 rfl .i64 .i64 _ _ P rfl rfl rfl rfl (by rw [hib3]; omega) (by unfold maxLen; omega) ?_; rw [boolRow_rep])
     rw [HW6.out]
     clear n1 n2 hN5 HW6
     obtain ⟨n1,n2⟩ := HN6.out W6 (Below.refl _ _)
     by_cases hup : locs.length < P
     rotate_left
     ·have hd : decide (locs.length < P) = false := decide_eq_false hup
      have HB7 := HB6
      have HS7 : Hid (N5 < W6.heap.size) := by unfold Hid; rw [HS6.out]; omega
      have HOK7 := Lib.hid (HOKN.out (by rw [decide_eq_false (by omega : ¬ (locs.length : Int) < g.c.par)]; rfl) W6 HR6.out)
      have HOWN7 := Lib.hid (HOWN.out W6 HB7.out)
      go_wp2_with (at_builtin; refine wpList_append_lies _ rfl (.tmp 47) (.tmp 49) 65 rfl 0 70 i0 (.slice none 0 0) 1 24 Try.underlying65 hi0 hi1 hi2 hi3 rfl (by decide) u6 locs.length (locs.map fun b => boolLeaf.enc b P) rfl (ownsRow_below HOWN7.out ((Below.refl W6.heap.size W6).alloc (Nat.le_refl _) _)) ⟨W6.heap.size,0,none⟩ 1 1 [.slice (some ⟨N5,0,none⟩) P P] rfl rfl (cells_new _ _ _) (by simp [Value.oneCell']) (by decide) (by unfold maxLen; omega) (by omega) (Nat.zero_le _) _ rfl ?_; intro g8 cap8 w8 hown8 hgrow8 hat8 hlt8; have HREL := Lib.hid (HNXT.out W6 w8 _ (.slice (some ⟨g8,0,none⟩) (locs.length + 1) cap8) HB7.out HS7.out HOK7.out hown8 hgrow8 (own_at hat8)); clear hown8 hgrow8 hat8 hlt8)
      go_roundw
      case rel => exact HREL.out
      case measure => simp [intOf]; omega
     have hd : decide (locs.length < P) = true := decide_eq_true hup
     cases hxl : x.lent with
     | false =>
      rw [hxl] at HLENT
      have HOKN2 := Lib.hid (HOKN.out (by rw [hxl,Bool.and_false]))
      clear hxl
      go_upto_region 13 with (go_at_call 40; refine HLENT.out.mono ?_; rintro e w7 ⟨rfl,hb7⟩; have HB7 : Hid (Below wr.heap.size wr w7) := HB6.out.trans (hb7.mono HB6.out.size); have HS7 : Hid (N5 < w7.heap.size) := (by have := HS6.out; have := hb7.size; unfold Hid; omega); have HOK7 := Lib.hid (HOKN2.out w7 (boolLeaf.keep HR6.out (hb7.block N5 (by rw [HS6.out]; omega)))); have HOWN7 := Lib.hid (HOWN.out w7 HB7.out); clear hb7)
      clear n1 n2 a0 a1 a2
      go_wp2_with (at_builtin; refine wpList_append_lies _ rfl (.tmp 47) (.tmp 49) 65 rfl 0 70 i0 (.slice none 0 0) 1 24 Try.underlying65 hi0 hi1 hi2 hi3 rfl (by decide) u6 locs.length (locs.map fun b => boolLeaf.enc b P) rfl (ownsRow_below HOWN7.out ((Below.refl w7.heap.size w7).alloc (Nat.le_refl _) _)) ⟨w7.heap.size,0,none⟩ 1 1 [.slice (some ⟨N5,0,none⟩) P P] rfl rfl (cells_new _ _ _) (by simp [Value.oneCell']) (by decide) (by unfold maxLen; omega) (by omega) (Nat.zero_le _) _ rfl ?_; intro g8 cap8 w8 hown8 hgrow8 hat8 hlt8; have HREL := Lib.hid (HNXT.out w7 w8 _ (.slice (some ⟨g8,0,none⟩) (locs.length + 1) cap8) HB7.out HS7.out HOK7.out hown8 hgrow8 (own_at hat8)); clear hown8 hgrow8 hat8 hlt8)
      go_roundw
      case rel => exact HREL.out
      case measure => simp [intOf]; omega
     | true =>
      rw [hxl] at HLENT
      have HOKY2 := Lib.hid (HOKY.out hup hxl)
      clear hxl
      go_upto_region 12 with (go_at_call 40; refine HLENT.out.mono ?_; rintro e w7 ⟨rfl,hb7⟩; have HB67 := Lib.hid hb7; clear hb7)
      clear n1 n2 a0 a1 a2
      have hr7 : boolsOk w7 N5 P (fun _ => false) := boolLeaf.keep HR6.out (HB67.out.block N5 (by rw [HS6.out]; omega))
      have z0 := boolsOk.cell hr7 hup
      have f0 : w7.frozen? ⟨N5,locs.length,none⟩ = false := frozen_of_row _ _ _ _ _ hr7
      have hupI : (locs.length : Int) < (P : Int) := by omega
      obtain ⟨W9,hW9⟩ : ∃ W9,w7.setCell ⟨N5,locs.length,none⟩ (.bool true) = W9 := ⟨_,rfl⟩
      have hx79 : Ext (· = N5) w7 W9 := by rw [← hW9]; exact Ext.set1 _ _ _ _
      have HB7 : Hid (Below wr.heap.size wr W9) := (HB6.out.trans (HB67.out.mono HB6.out.size)).trans (hx79.below (by have := HB6.out.size; have := HB67.out.size; omega) (fun k hk => by rw [hk]; have := HN5.out; omega))
      have HS7 : Hid (N5 < W9.heap.size) := by have := HS6.out; have := HB67.out.size; have := hx79.size; unfold Hid; omega
      have HOK7 : Hid (boolsOk W9 N5 P (initR m j locs.length)) := HOKY2.out W9 (by
       have h1 := heap_setCell_same w7 N5 locs.length _ _ (.bool true) hr7
       unfold boolsOk
       rw [← hW9,h1,boolRow_set])
      have HOWN7 := Lib.hid (HOWN.out W9 HB7.out)
      have HW9 := Lib.hid hW9
      clear hr7 hW9 hx79
      go_upto_region 13 with (fail)
      rw [HW9.out]
      clear z0 f0 HW9
      go_wp2_with (at_builtin; refine wpList_append_lies _ rfl (.tmp 47) (.tmp 49) 65 rfl 0 70 i0 (.slice none 0 0) 1 24 Try.underlying65 hi0 hi1 hi2 hi3 rfl (by decide) u6 locs.length (locs.map fun b => boolLeaf.enc b P) rfl (ownsRow_below HOWN7.out ((Below.refl W9.heap.size W9).alloc (Nat.le_refl _) _)) ⟨W9.heap.size,0,none⟩ 1 1 [.slice (some ⟨N5,0,none⟩) P P] rfl rfl (cells_new _ _ _) (by simp [Value.oneCell']) (by decide) (by unfold maxLen; omega) (by omega) (Nat.zero_le _) _ rfl ?_; intro g8 cap8 w8 hown8 hgrow8 hat8 hlt8; have HREL := Lib.hid (HNXT.out W9 w8 _ (.slice (some ⟨g8,0,none⟩) (locs.length + 1) cap8) HB7.out HS7.out HOK7.out hown8 hgrow8 (own_at hat8)); clear hown8 hgrow8 hat8 hlt8)
      go_roundw
      case rel => exact HREL.out
      case measure => simp [intOf]; omega
    ·have hle : locs.length = g.vs.length := by omega
     have hrl : rows.length ≤ 60 := by have := HRL.out; omega
     obtain ⟨ao6,c6,he6⟩ := ownsRow_slice hrt.own
     subst he6
     have r2 : wr.cell? ⟨B + 2,0,none⟩ = some vv := by rw [cell_of_row _ _ _ _ _ _ hgm.rec_]; rfl
     have HOV : Hid (wr.ownsRow 0 65 1 vv rows.length (rows.map FR.tv)) := hgm.tab.vars
     have hTV : ∀ k,vv.ownBlock = some k → tag2 k = (1,0,0) := hgm.tab.tv
     have HR5 : Hid (∀ w5,Ext (fun k => vv.ownBlock = some k) wr w5 → w5.cell? ⟨B + 2,0,none⟩ = some vv ∧ w5.frozen? ⟨B + 2,0,none⟩ = false) := by
      intro w5 h5
      have h6 := h5.heap hgm.rec_ (fun hk => by have := hTV (B + 2) hk; rw [hgm.tR] at this; simp at this)
      exact ⟨by rw [cell_of_row _ _ _ _ _ _ h6]; rfl,frozen_of_row _ _ _ _ _ h6⟩
     have HG := Lib.hid hgm
     have HRT := Lib.hid hrt
     have HR4 := Lib.hid hr4
     have HT4 := Lib.hid ht4
     have HBX := Lib.hid hbx
     have HLE := Lib.hid hle
     have HTV := Lib.hid hTV
     obtain ⟨i1,hj0,hj1,hj2,hj3⟩ := info_parts info_boolss
     obtain ⟨i0,hi0,hi1,hi2,hi3⟩ := info_parts info_bools
     obtain ⟨ib,hib,hib1,hib2,hib3⟩ := info_parts info_bool1
     clear hgm hrt hr4 ht4 hbx hle hl hTV n1
     go_wp2_with (at_builtin; refine wpList_append_lies _ rfl (.tmp 52) (.tmp 54) 64 rfl 0 65 i1 (.slice none 0 0) 1 24 Try.underlying64 hj0 hj1 hj2 hj3 rfl (by decide) vv rows.length (rows.map FR.tv) rfl (ownsRow_below HOV.out ((Below.refl wr.heap.size wr).alloc (Nat.le_refl _) _)) ⟨wr.heap.size,0,none⟩ 1 1 [.slice ao6 locs.length c6] rfl rfl (cells_new _ _ _) (by simp [Value.oneCell']) (by decide) (by unfold maxLen; omega) (by omega) (Nat.zero_le _) _ rfl ?_; intro g5 cap5 w5 hown5 hgrow5 hat5 hlt5; obtain ⟨z2,f2⟩ := HR5.out w5 (ext_grown ((Ext.refl _ _).alloc _) hgrow5); have HO5 := Lib.hid hown5; have HW5 := Lib.hid hgrow5; have HA5 := Lib.hid hat5; clear hown5 hgrow5 hat5 hlt5)
     obtain ⟨W6,hW6⟩ : ∃ W6,w5.setCell ⟨B + 2,0,none⟩ (.slice (some ⟨g5,0,none⟩) (rows.length + 1) cap5) = W6 := ⟨_,rfl⟩
     rw [hW6]
     have hx5 : Ext (fun k => vv.ownBlock = some k) wr w5 := ext_grown ((Ext.refl _ _).alloc _) HW5.out
     have hx6 : Ext (fun k => vv.ownBlock = some k ∨ k = B + 2) wr W6 := by
      rw [← hW6]; exact (hx5.mono (M' := fun k => vv.ownBlock = some k ∨ k = B + 2) (fun _ h => .inl h)).trans (Ext.set1 _ _ _ _) (fun k hk => .inl (.inr hk))
     have hT12 : ∀ k,(vv.ownBlock = some k ∨ k = B + 2) → tag2 k ≠ (2,0,0) ∧ tag2 k ≠ (0,0,0) := by
      rintro k (hk | hk)
      ·rw [HTV.out k hk]; simp
      ·rw [hk,HG.out.tR]; simp
     have HOF : Hid (W6.ownsRow 0 70 1 fv rows.length (rows.map fun r => boolLeaf.enc r.fl r.P)) := own_tag HG.out.tab.from_ hx6 HG.out.tab.tf (fun k hk _ => (hT12 k hk).1)
     have HR8 : Hid (∀ w8,Ext (fun k => fv.ownBlock = some k) W6 w8 → w8.cell? ⟨B + 2,1,none⟩ = some fv ∧ w8.frozen? ⟨B + 2,1,none⟩ = false) := by
      intro w8 h8
      have h1 := hx5.heap HG.out.rec_ (fun hk => by have := HTV.out (B + 2) hk; rw [HG.out.tR] at this; simp at this)
      have h2 := heap_setCell_same w5 (B + 2) 0 _ _ (.slice (some ⟨g5,0,none⟩) (rows.length + 1) cap5) h1
      rw [hW6] at h2
      have h3 := h8.heap h2 (fun hk => by have := HG.out.tab.tf (B + 2) hk; rw [HG.out.tR] at this; simp at this)
      exact ⟨by rw [cell_of_row _ _ _ _ _ _ h3]; rfl,frozen_of_row _ _ _ _ _ h3⟩
     obtain ⟨nb,hnb⟩ : ∃ nb,W6.heap.size = nb := ⟨_,rfl⟩
     have hs65 : W6.heap.size = w5.heap.size := by rw [← hW6]; exact World.size_setCell _ _ _
     have hs5r := hx5.size
     have hsd : W6.drew.heap.size = nb := hnb
     obtain ⟨W7,hW7⟩ : ∃ W7,W6.drew.alloc (.cells (boolRow P (fun _ => false)) 4) = W7 := ⟨_,rfl⟩
     have hb7 : Below W6.heap.size W6 W7 := by rw [← hW7]; exact ((Below.refl _ _).drew).alloc (Nat.le_refl _) _
     have hs7 : W7.heap.size = nb + 1 := by rw [← hW7]; simp [hnb]
     have hok7 : boolsOk W7 nb P (initR m j locs.length) := rleaf_none HGG.out (by rw [HLE.out,decide_eq_false (Nat.lt_irrefl _)]; simp) (by unfold boolsOk; rw [← hW7,← hsd]; exact alloc_at _ _)
     have HOF7 : Hid (W7.ownsRow 0 70 1 fv rows.length (rows.map fun r => boolLeaf.enc r.fl r.P)) := ownsRow_below HOF.out hb7
     obtain ⟨S,hS⟩ : ∃ S : World → Prop,S = fun w' => w'.cell? ⟨B + 2,1,none⟩ = some fv ∧ w'.cell? ⟨N4,1,none⟩ = some (.int .i64 (P : Int)) := ⟨_,rfl⟩
     have HSS : Hid (∀ w',S w' → w'.cell? ⟨B + 2,1,none⟩ = some fv ∧ w'.cell? ⟨N4,1,none⟩ = some (.int .i64 (P : Int))) := fun w' h => by rw [hS] at h; exact h
     have hr46 : W6.heap[N4]? = some (.cells g.cells 50 (0,0)) := hx6.heap HR4.out (fun hk => (hT12 N4 hk).2 HT4.out)
     have HSM : Hid (∀ w',Ext (fun k => fv.ownBlock = some k) W6 w' → S w') := fun w' h => by
      rw [hS]
      exact ⟨(HR8.out w' h).1,(HV2.out w' (h.heap hr46 (fun hk => by have := HG.out.tab.tf N4 hk; rw [HT4.out] at this; simp at this))).1⟩
     have HFIN : Hid (∀ (g8 cap8 : Nat) (w8 : World),w8.ownsRow 0 70 1 (.slice (some ⟨g8,0,none⟩) (rows.length + 1) cap8) (rows.length + 1) ((rows.map fun r => boolLeaf.enc r.fl r.P) ++ [.slice (some ⟨nb,0,none⟩) P P]) →
       (W7.alloc (.cells #[.slice (some ⟨nb,0,none⟩) P P] 70)).grownBy w8 fv.ownBlock → (fv.ownBlock = some g8 ∨ g8 = (W7.alloc (.cells #[.slice (some ⟨nb,0,none⟩) P P] 70)).heap.size) → OfSI m w B (B + 2) (.int .i64 ((j : Int) + 1)) (w8.setCell ⟨B + 2,1,none⟩ (.slice (some ⟨g8,0,none⟩) (rows.length + 1) cap8))) := by
      intro g8 cap8 w8 hown8 hg8 hat8
      have h7' : Below (w5.setCell ⟨B + 2,0,none⟩ (.slice (some ⟨g5,0,none⟩) (rows.length + 1) cap5)).heap.size (w5.setCell ⟨B + 2,0,none⟩ (.slice (some ⟨g5,0,none⟩) (rows.length + 1) cap5)) W7 := by rw [hW6]; exact hb7
      obtain ⟨tag',q1,q2⟩ := HG.out.func HRT.out HGG.out HPN.out HLE.out HO5.out HW5.out (own_at HA5.out) h7' (by omega : w5.heap.size ≤ nb) (by omega : nb < W7.heap.size) hok7 hown8 hg8 (own_at hat8)
      exact ⟨j + 1,_,_,_,tag',hjn,by simp,q1,HBX.out.ext HB.out q2 (fun k hk => (HG.out.tab.low k hk).1)⟩
     have hS0 : S W6.drew := HSM.out _ (Ext.refl _ _).drew
     have HX67 : Hid (Ext (fun k => fv.ownBlock = some k) W6 W7) := Ext.of_below_size hb7
     have HW7 := Lib.hid hW7
     have HNB : Hid (W6.drew.heap.size = nb) := hsd
     clear hW6 hx5 hx6 hT12 hnb hs65 hs5r hsd hW7 hb7 hs7 hok7 hS hr46 z2 f2 r2 n2 HR5 HOV HW5 HO5 HA5 HR4 HT4 HRT HLE hj0 hj1 hj2 hj3
     refine wp_region_K 8 S (by kernel_rfl) ?_
     refine wpAnyK_take (i := 0) rfl (by kernel_rfl) (by kernel_rfl) (by kernel_rfl) (by kernel_rfl) (fun _ _ _ h => h) (Or.inl ⟨by rfl,fun w hSw => by obtain ⟨s1,s2⟩ := HSS.out w hSw; go_simp; try rfl⟩) (by assumption) ?_
     try go_simp
     refine wpAnyK_take (i := 1) rfl (by kernel_rfl) (by kernel_rfl) (by kernel_rfl) (by kernel_rfl) (fun _ _ _ h => h) (Or.inl ⟨by rfl,fun w hSw => by obtain ⟨s1,s2⟩ := HSS.out w hSw; go_simp; try rfl⟩) (by assumption) ?_
     try go_simp
     refine wpAnyK_take (i := 2) rfl (by kernel_rfl) (by kernel_rfl) (by kernel_rfl) (by kernel_rfl) (fun _ _ _ h => h) (Or.inl ⟨by rfl,fun w hSw => by obtain ⟨s1,s2⟩ := HSS.out w hSw; go_simp; try rfl⟩) (by assumption) ?_
     try go_simp
     refine wpAnyK_take (i := 3) rfl (by kernel_rfl) (by kernel_rfl) (by kernel_rfl) (by kernel_rfl) (fun _ _ _ h => h) (Or.inl ⟨by rfl,fun w hSw => by obtain ⟨s1,s2⟩ := HSS.out w hSw; go_simp; try rfl⟩) (by assumption) ?_
     try go_simp
     refine wpAnyK_one (i := 4) (by kernel_rfl) rfl fun K' hK => ?_
     rw [if_pos (by rfl)]
     refine wp_make_at (.tmp 60) (.tmp 60) 70 rfl 4 ib (.bool false) Try.underlying70 hib hib1 hib2 rfl P rfl rfl (by rw [hib3]; omega) (by unfold maxLen; omega) ?_
     rw [boolRow_rep,HW7.out,HNB.out]
     have hS7 : S W7 := HSM.out _ HX67.out
     refine hK _ _ (fun _ => hS7) ?_
     clear hK
     try go_simp
     have hS7a : S (W7.alloc (.cells #[.slice (some ⟨nb,0,none⟩) P P] 70)) := HSM.out _ (HX67.out.alloc _)
     refine wpAnyK_run (i := 5) (v := .slice (some ⟨W7.heap.size,0,none⟩) 1 1) (w' := W7.alloc (.cells #[.slice (some ⟨nb,0,none⟩) P P] 70)) (by kernel_rfl) rfl (by rfl) (Or.inl (by go_simp)) (fun _ => hS7a) ?_
     try go_simp
     refine wpAnyK_one (i := 6) (by kernel_rfl) rfl fun K' hK => ?_
     rw [if_pos (by rfl)]
     refine wp_append_lies _ (.tmp 58) (.tmp 62) 65 rfl 0 70 i0 (.slice none 0 0) 1 24 Try.underlying65 hi0 hi1 hi2 hi3 rfl (by decide) fv rows.length (rows.map fun r => boolLeaf.enc r.fl r.P) rfl (ownsRow_below HOF7.out ((Below.refl W7.heap.size W7).alloc (Nat.le_refl _) _)) ⟨W7.heap.size,0,none⟩ 1 1 [.slice (some ⟨nb,0,none⟩) P P] rfl rfl (cells_new _ _ _) (by simp [Value.oneCell']) (by decide) (by unfold maxLen; omega) (by omega) (Nat.zero_le _) _ rfl fun g8 cap8 w8 hown8 hgrow8 hat8 hlt8 => ?_
     have hx8 : Ext (fun k => fv.ownBlock = some k) W6 w8 := HX67.out.trans (ext_grown ((Ext.refl _ _).alloc _) hgrow8) (fun k hk => .inl hk)
     have hS8 : S w8 := HSM.out _ hx8
     obtain ⟨y3,y4⟩ := HR8.out w8 hx8
     have HREL := Lib.hid (HFIN.out g8 cap8 w8 hown8 hgrow8 hat8)
     refine hK _ _ (fun _ => hS8) ?_
     clear hK hx8 hown8 hgrow8 hat8 hlt8
     try go_simp
     refine wpAnyK_run (i := 7) (v := .pointer (some ⟨B + 2,1,none⟩)) (w' := w8) (by kernel_rfl) rfl (by rfl) (Or.inl (by go_simp)) (fun _ => hS8) ?_
     try go_simp
     refine wpAnyK_run (i := 8) (v := undef) (w' := w8.setCell ⟨B + 2,1,none⟩ (.slice (some ⟨g8,0,none⟩) (rows.length + 1) cap8)) (by kernel_rfl) rfl (by rfl) (Or.inr ⟨by go_simp,rfl⟩) (fun h => absurd rfl h) ?_
     try go_simp
     refine wpAnyK_done (by kernel_rfl) ?_ _
     clear hS0 hS7 hS7a hS8 y3 y4 hi0 hi1 hi2 hi3
     go_wp2
     go_roundw
     case rel => exact HREL.out
     case measure => simp [intOf]; omega
  ·have hje : j = m.fs.length := by omega
   rw [hje] at hgm
   have HG : Hid (RqM wo m (B + 2) (B + 2) vv fv rows (roundsR m 0) tag ((0 : Nat) : Int)) := hgm.done
   have HBX := Lib.hid hbx
   clear hgm hbx hje
   go_wp2_with fail
   clear c1
   go_loopg [9] (m.lack (roundsR m 0) + 1) (fun mm c wo => OfSK m w B (B + 2) vv fv rows tag c mm wo)
   case atStart => exact ⟨HBX.out,.inl ⟨0,rfl,rfl,by omega,HG.out,fun i hi => absurd hi (Nat.not_lt_zero _)⟩⟩
   case round =>
    clear HG HBX
    obtain ⟨hbx,hrel⟩ := hrel
    have HBX := Lib.hid hbx
    rcases hrel with ⟨k,rfl,rfl,hk,hq,hall⟩ | ⟨k,rfl,rfl,hq,hrs,hk⟩
    ·have hlk := lack_le HOK.out (roundsR m 0)
     have HRC := Lib.hid (rround_calls wr m (B + 2) (B + 2) vv fv rows (roundsR m k) tag k hq HOK.out)
     obtain ⟨PS,hPS⟩ : ∃ PS,passR m (roundsR m k) = PS := ⟨_,rfl⟩
     rw [hPS] at HRC
     have HPS := Lib.hid hPS
     have HALL : Hid (∀ i,i < k → (passR m (roundsR m i)).is = true) := Lib.hid hall
     have HLOW : Hid (∀ i,turnQ tag i → B + 2 ≤ i) := by
      rintro i ⟨f,u,e⟩
      exact (hq.tab.low i (by rw [e]; simp)).1
     have HKL := Lib.hid hk
     have hkb : k ≤ 5418000 := by omega
     have HMR := Lib.hid hbx.mod
     clear hPS hq hall hbx hk
     go_wp2_with (refine wpList_load_row rfl 25 _ rfl B rfl 25 m.cells (0,0) _ HMR.out Try.underlying25 rfl (by kernel_rfl) ?_)
     go_at_call 68
     refine HRC.out.mono ?_
     rintro e w6 ⟨e1,h2,h3⟩
     subst e1
     have HX : roundsR m (k + 1) = PS.x := by show (passR m (roundsR m k)).x = PS.x; rw [HPS.out]
     have HG6 : Hid (RqM (w6.setCell ⟨B + 2,2,none⟩ (.int .i64 ((k : Int) + 1))) m (B + 2) (B + 2) vv fv rows (roundsR m (k + 1)) tag ((k + 1 : Nat) : Int)) := by
      unfold Hid; rw [HX,Int.natCast_add]; exact h2.count _
     have HX6 : Hid (OfBx m w B (w6.setCell ⟨B + 2,2,none⟩ (.int .i64 ((k : Int) + 1)))) := (HBX.out.ext HB.out h3 HLOW.out).ext HB.out (Ext.set1 _ _ _ _) (fun k hk => by rw [hk]; exact Nat.le_refl _)
     have c2 : w6.cell? ⟨B + 2,2,none⟩ = some (.int .i64 (k : Int)) := by rw [cell_of_row _ _ _ _ _ _ h2.rec_]; rfl
     have f2 := frozen_of_row _ _ 2 _ _ h2.rec_
     clear h2 h3 HX HMR
     go_wp2_with fail
     obtain ⟨W7,hW7⟩ : ∃ W7,w6.setCell ⟨B + 2,2,none⟩ (.int .i64 ((k : Int) + 1)) = W7 := ⟨_,rfl⟩
     rw [hW7] at HG6 HX6
     try rw [hW7]
     clear hW7 c2 f2
     cases his : PS.is with
     | true =>
      have HL : Hid (m.lack (roundsR m (k + 1)) < m.lack (roundsR m k)) := passR_less m (roundsR m k) (by rw [HPS.out]; exact his)
      have HALL2 : Hid (∀ i,i < k + 1 → (passR m (roundsR m i)).is = true) := by
       intro i hi
       rcases Nat.lt_or_ge i k with h | h
       ·exact HALL.out i h
       ·have : i = k := by omega
        rw [this,HPS.out]; exact his
      go_roundg (m.lack (roundsR m (k + 1)) + 1)
      case measure => have := HL.out; omega
      case rel => exact ⟨HX6.out,.inl ⟨k + 1,rfl,rfl,by have := HL.out; have := HKL.out; omega,HG6.out,HALL2.out⟩⟩
     | false =>
      go_roundg 0
      case measure => omega
      case rel => exact ⟨HX6.out,.inr ⟨k,rfl,rfl,HG6.out,⟨by rw [HPS.out]; exact his,HALL.out⟩,hkb⟩⟩
    ·have q0 : wr.cell? ⟨B + 2,0,none⟩ = some vv := by rw [cell_of_row _ _ _ _ _ _ hq.rec_]; rfl
     have q1 : wr.cell? ⟨B + 2,1,none⟩ = some fv := by rw [cell_of_row _ _ _ _ _ _ hq.rec_]; rfl
     have q2 : wr.cell? ⟨B + 2,2,none⟩ = some (.int .i64 ((k + 1 : Nat) : Int)) := by rw [cell_of_row _ _ _ _ _ _ hq.rec_]; rfl
     obtain ⟨KI,hKI⟩ : ∃ z : Int,((k + 1 : Nat) : Int) = z := ⟨_,rfl⟩
     rw [hKI] at q2
     have g0 : wr.cell? ⟨B + 1,0,none⟩ = some (.slice none 0 0) := by rw [cell_of_row _ _ _ _ _ _ hbx.res]; rfl
     have g1 : wr.cell? ⟨B + 1,1,none⟩ = some (.slice none 0 0) := by rw [cell_of_row _ _ _ _ _ _ hbx.res]; rfl
     have g2 : wr.cell? ⟨B + 1,2,none⟩ = some (.int .i64 0) := by rw [cell_of_row _ _ _ _ _ _ hbx.res]; rfl
     have f0 := frozen_of_row _ _ 0 _ _ hbx.res
     have f1 := frozen_of_row _ _ 1 _ _ hbx.res
     have f2 := frozen_of_row _ _ 2 _ _ hbx.res
     have h1 := heap_setCell_same wr (B + 1) 0 _ _ vv hbx.res
     have h2 := heap_setCell_same _ (B + 1) 1 _ _ fv h1
     have h3 := heap_setCell_same _ (B + 1) 2 _ _ (.int .i64 KI) h2
     have hx3 : Ext (· = B + 1) wr (((wr.setCell ⟨B + 1,0,none⟩ vv).setCell ⟨B + 1,1,none⟩ fv).setCell ⟨B + 1,2,none⟩ (.int .i64 KI)) := ((Ext.set1 _ _ _ _).trans (Ext.set1 _ _ _ _) (fun _ h => .inl h)).trans (Ext.set1 _ _ _ _) (fun _ h => .inl h)
     obtain ⟨W9,hW9⟩ : ∃ W9,((wr.setCell ⟨B + 1,0,none⟩ vv).setCell ⟨B + 1,1,none⟩ fv).setCell ⟨B + 1,2,none⟩ (.int .i64 KI) = W9 := ⟨_,rfl⟩
     rw [hW9] at h3 hx3
     have hb9 : Below B w W9 := hbx.below.trans (hx3.below (by have := hbx.below.size; have := HB.out; omega) (fun k hk => by rw [hk]; omega))
     have hq9 : RqM W9 m (B + 2) (B + 2) vv fv rows (roundsR m (k + 1)) tag KI := by
      rw [hKI] at hq
      exact hq.keep2 hx3 (fun k hk => Classical.byContradiction fun e => by have := (hq.tab.low k e).1; omega) ⟨w,HIN.out,by have := HB.out; omega,by rw [HB.out]; exact hb9⟩
     have HFIN : Hid (OfQ m w (.returned (.agg #[vv,fv,.int .i64 KI])) W9) := ⟨B + 2,B + 2,vv,fv,rows,tag,k,by rw [hKI],by rw [HB.out]; omega,by rw [hKI]; exact hq9,hrs,hk,by rw [HB.out]; exact hb9⟩
     have y0 : W9.cell? ⟨B + 1,0,none⟩ = some vv := by rw [cell_of_row _ _ _ _ _ _ h3]; rfl
     have y1 : W9.cell? ⟨B + 1,1,none⟩ = some fv := by rw [cell_of_row _ _ _ _ _ _ h3]; rfl
     have y2 : W9.cell? ⟨B + 1,2,none⟩ = some (.int .i64 KI) := by rw [cell_of_row _ _ _ _ _ _ h3]; rfl
     have hv1 : vv.oneCell' = true := by obtain ⟨ao,c,rfl⟩ := ownsRow_slice hq.tab.vars; rfl
     have hv2 : fv.oneCell' = true := by obtain ⟨ao,c,rfl⟩ := ownsRow_slice hq.tab.from_; rfl
     obtain ⟨ao1,ca1,e1⟩ := ownsRow_slice hq.tab.vars
     obtain ⟨ao2,ca2,e2⟩ := ownsRow_slice hq.tab.from_
     clear hq hq9 hbx h1 h2 h3 hx3 hrs hb9 hKI
     subst e1 e2
     go_wp2
     exact bodyPost_ret (v := .agg #[_,_,_]) (by simp [results,Try.results34,go_sem,y0,y1,y2]) rfl HFIN.out
end Go.Proofs.Ytlggjbopfnndbaa
