import Derived.Test.YtlggjbopfnndbaaRegC3

namespace Go.Proofs.Ytlggjbopfnndbaa
open Go.RowKit

theorem callR_split (ml : Nat → Nat) (f : Nat) (g : Fn) (d : Int) (h : Nat) : ∀ (l : List Int) (n : Nat) (x : Nat → Nat → Nat → Bool) (b c : Bool), callR ml f g d h n l ⟨x, b || c⟩ = ⟨(callR ml f g d h n l ⟨x, b⟩).x, (callR ml f g d h n l ⟨x, b⟩).is || c⟩
  | [], _, _, _, _ => rfl
  | a :: r, n, x, b, c => by
    unfold callR
    split
    · show callR ml f g d h (n + 1) r ⟨_, newR _ x f _ _ || (b || c)⟩ = _
      rw [← Bool.or_assoc]
      exact callR_split ml f g d h r (n + 1) _ _ c
    · exact callR_split ml f g d h r (n + 1) x b c

theorem insR_split (ml : Nat → Nat) (f : Nat) (g : Fn) (i : Ins) (s : RS) : insR ml f g i s = ⟨(insR ml f g i ⟨s.x, false⟩).x, (insR ml f g i ⟨s.x, false⟩).is || s.is⟩ := by
  obtain ⟨x, b⟩ := s
  unfold insR
  split
  · split
    · show RS.mk _ _ = RS.mk _ _
      congr 1
      show (newR _ x f _ _ || b) = ((newR _ x f _ _ || false) || b)
      rw [Bool.or_false]
    · show RS.mk _ _ = RS.mk _ _
      simp
  · split
    · have := callR_split ml f g i.d i.f.toNat i.args 0 x false b
      rw [Bool.false_or] at this
      exact this
    · split
      · split
        · show RS.mk _ _ = RS.mk _ _
          congr 1
          show (newR _ x f _ _ || b) = ((newR _ x f _ _ || false) || b)
          rw [Bool.or_false]
        · show RS.mk _ _ = RS.mk _ _
          simp
      · show RS.mk _ _ = RS.mk _ _
        simp

/-- What a round may turn. -/
def turnR (tag : Tag) (R : Nat) (k : Nat) : Prop := (∃ f u, tag k = (4, f, u)) ∨ k = R

/-- Between two functions. -/
def RndI (m : Mo) (P : RS) (B R : Nat) (vv fv : Value) (rows : List FR) (tag : Tag) (rn : Int) (W : World) (is c : Value) (wr : World) : Prop :=
  ∃ (j : Nat) (s : RS), j ≤ m.fs.length ∧ c = .int .i64 (j : Int) ∧ is = .bool s.is ∧ funcsR m.nv j (m.fs.drop j) s = P ∧ RgM wr m B R vv fv rows s.x tag rn ∧ Ext (turnR tag R) W wr

/-- Between two instructions. -/
def RndJ (m : Mo) (P : RS) (j : Nat) (g : Fn) (B R : Nat) (vv fv : Value) (rows : List FR) (tag : Tag) (rn : Int) (W : World) (is c : Value) (wr : World) : Prop :=
  ∃ (k : Nat) (s : RS), k ≤ g.c.ins.length ∧ c = .int .i64 (k : Int) ∧ is = .bool s.is ∧ funcsR m.nv (j + 1) (m.fs.drop (j + 1)) (codeR m.nv j g (g.c.ins.drop k) s) = P ∧ RgM wr m B R vv fv rows s.x tag rn ∧ Ext (turnR tag R) W wr

theorem drop_get {α : Type} {l : List α} {k : Nat} {a : α} (h : l[k]? = some a) : l.drop k = a :: l.drop (k + 1) := by
  have hk := (List.getElem?_eq_some_iff.1 h).1
  rw [List.drop_eq_getElem_cons hk]
  congr 1
  exact (List.getElem?_eq_some_iff.1 h).2

/-- Behind a round. -/
def RoundP (w : World) (m : Mo) (B R : Nat) (vv fv : Value) (rows : List FR) (tag : Tag) (rn : Int) (s : RS) (e : Ending) (w' : World) : Prop :=
  e = .returned (.bool s.is) ∧ RgM w' m B R vv fv rows s.x tag rn ∧ Ext (turnR tag R) w w'

theorem RgM.count {w : World} {m : Mo} {B R : Nat} {vv fv : Value} {rows : List FR} {x : Nat → Nat → Nat → Bool} {tag : Tag} {rn : Int} (h : RgM w m B R vv fv rows x tag rn) (z : Int) :
    RgM (w.setCell ⟨R, 4, none⟩ (.int .i64 z)) m B R vv fv rows x tag z := by
  obtain ⟨w0, h1, h3, h2⟩ := h.mod
  have hx : Ext (· = R) w (w.setCell ⟨R, 4, none⟩ (.int .i64 z)) := Ext.set1 _ _ _ _
  have hl := (h.tab.low R (by rw [h.tR]; simp)).1
  refine ⟨⟨w0, h1, h3, h2.trans (hx.below h2.size (fun k hk => by rw [hk]; omega))⟩, ?_, h.tab.keep hx (fun k hk => .inr (by rw [hk]; exact h.tR)), h.tR, h.fit, h.n⟩
  exact heap_setCell_same _ _ _ _ _ _ h.rec_

set_option maxRecDepth 100000 in
set_option maxHeartbeats 8000000 in
theorem round_calls (w : World) (m : Mo) (B R : Nat) (vv fv : Value) (rows : List FR) (x : Nat → Nat → Nat → Bool) (tag : Tag) (rn : Nat) (h : RgM w m B R vv fv rows x tag rn) (hok : OkR m) (hrn : rn ≤ 1000000000) :
    Calls Try.prog 64 #[.pointer (some ⟨R, 0, none⟩)] w (RoundP w m B R vv fv rows tag ((rn : Int) + 1) (passR m x)) := by
  obtain ⟨PS, hPS⟩ : ∃ s, passR m x = s := ⟨_, rfl⟩
  have HPS : Hid (funcsR m.nv 0 m.fs ⟨x, false⟩ = PS) := hPS
  rw [hPS]
  clear hPS
  have c4 : w.cell? ⟨R, 4, none⟩ = some (.int .i64 (rn : Int)) := by rw [cell_of_row _ _ _ _ _ _ h.rec_]; rfl
  have f4 : w.frozen? ⟨R, 4, none⟩ = false := frozen_of_row _ _ _ _ _ h.rec_
  have hRl : R < w.heap.size := (Array.getElem?_eq_some_iff.1 h.rec_).1
  obtain ⟨W1, hW1⟩ : ∃ W1, w.setCell ⟨R, 4, none⟩ (.int .i64 ((rn : Int) + 1)) = W1 := ⟨_, rfl⟩
  have h1 : RgM W1 m B R vv fv rows x tag ((rn : Int) + 1) := by rw [← hW1]; exact h.count _
  have HX1 : Hid (Ext (turnR tag R) w W1) := by
    unfold Hid; rw [← hW1]; exact (Ext.set1 _ _ _ _).mono (fun k hk => .inr hk)
  have HG := Lib.hid h1
  have HW1 := Lib.hid hW1
  have HOK := Lib.hid hok
  have d1 : W1.cell? ⟨R, 1, none⟩ = some (.slice m.fA m.fs.length m.fC) := by rw [cell_of_row _ _ _ _ _ _ h1.rec_]; rfl
  have hn60 := hok.nf
  clear h h1 hW1 hok
  go_enter Try.func64, Try.ntmps64
  go_upto_region 3 with (fail)
  rw [HW1.out]
  clear c4 f4
  go_wp2_with fail
  clear d1
  go_loopw [2, 23] (fun is c wr => RndI m PS B R vv fv rows tag ((rn : Int) + 1) w is c wr) (fun _ c _ => m.fs.length - (intOf c).toNat)
  case atStart => exact ⟨0, ⟨x, false⟩, Nat.zero_le _, rfl, rfl, HPS.out, HG.out, HX1.out⟩
  case round =>
    obtain ⟨j, ⟨y, s⟩, hj, rfl, rfl, hP, hgm, hx⟩ := hrel
    by_cases hjn : j < m.fs.length
    · have hjI : (j : Int) < (m.fs.length : Int) := by omega
      obtain ⟨g, hg⟩ : ∃ g, m.fs[j]? = some g := ⟨_, List.getElem?_eq_getElem hjn⟩
      obtain ⟨fb, fo, hfA, hfb, hfc⟩ := hgm.inn.frow (by intro e; rw [e] at hjn; simp at hjn)
      have HCA : Hid (∀ k u, g.cells.toList[k]? = some u → wr.cell? ((⟨fb, fo + j * 8, none⟩ : Addr).add k) = some u) := fun k u hu => by rw [Addr.add_lit]; exact hfc j g hg k u hu
      rw [drop_get hg] at hP
      have HP0 : Hid (funcsR m.nv (j + 1) (m.fs.drop (j + 1)) (codeR m.nv j g g.c.ins ⟨y, s⟩) = PS) := hP
      have hil : g.c.ins.length ≤ 3000 := (HOK.out.fn g (List.mem_of_getElem? hg)).2.2.2
      obtain ⟨N, hN⟩ : ∃ N, wr.heap.size = N := ⟨_, rfl⟩
      have hst : ∀ c : Array Value, c.size = 8 → (storeCells ⟨wr.heap.size, 0, none⟩ g.cells.toList).run Try.prog (wr.alloc (.cells c 50)) = .ok () (wr.alloc (.cells g.cells 50)) := fun c hc =>
        run_storeCells_new (P := Try.prog) wr 50 c g.cells (by show _ = some 8; kernel_rfl) hc (fnOne g)
      obtain ⟨W2, hW2⟩ : ∃ W2, wr.alloc (.cells g.cells 50) = W2 := ⟨_, rfl⟩
      rw [hW2, hN] at hst
      have hb2 : Below wr.heap.size wr W2 := by rw [← hW2]; exact (Below.refl _ _).alloc (Nat.le_refl _) _
      have hr2 : W2.heap[N]? = some (.cells g.cells 50 (0, 0)) := by rw [← hW2, ← hN]; exact alloc_at _ _
      have e7 : W2.cell? ⟨N, 7, none⟩ = some (.slice g.c.insA g.c.ins.length g.c.insC) := by rw [cell_of_row _ _ _ _ _ _ hr2]; rfl
      have HG2 := Lib.hid (hgm.below hb2)
      have HX2 : Hid (Ext (turnR tag R) w W2) := hx.trans (Ext.of_below_size (M := fun _ => False) hb2) (fun _ h => h.elim)
      have HGG := Lib.hid hg
      clear hg hP hgm hx hfc hW2 hb2 hr2
      rw [hfA]
      go_upto_region 6 with (first | (refine wpList_load_at rfl 50 _ rfl ⟨fb, fo + j * 8, none⟩ rfl g.cells _ HCA.out Try.underlying50 rfl (by kernel_rfl) ?_))
      clear hst
      go_wp2_with fail
      clear e7 HCA
      go_loopw [2, 31] (fun is c w9 => RndJ m PS j g B R vv fv rows tag ((rn : Int) + 1) w is c w9) (fun _ c _ => g.c.ins.length - (intOf c).toNat)
      case atStart => exact ⟨0, ⟨y, s⟩, Nat.zero_le _, rfl, rfl, by rw [List.drop_zero]; exact HP0.out, HG2.out, HX2.out⟩
      case round =>
        clear HG2 HX2 HP0
        obtain ⟨k, ⟨y2, s2⟩, hk, rfl, rfl, hP, hgm, hx⟩ := hrel
        by_cases hkl : k < g.c.ins.length
        · have hkI : (k : Int) < (g.c.ins.length : Int) := by omega
          obtain ⟨i, hi⟩ : ∃ i, g.c.ins[k]? = some i := ⟨_, List.getElem?_eq_getElem hkl⟩
          have him := List.mem_of_getElem? hi
          have hgi := hgm.inn.fin g (List.mem_of_getElem? HGG.out)
          obtain ⟨b2, o2, hA2, hb2, hc2⟩ := hgi.code.row (by intro e; rw [e] at hkl; simp at hkl)
          have HCB : Hid (∀ q u, i.cells.toList[q]? = some u → wr.cell? ((⟨b2, o2 + k * 13, none⟩ : Addr).add q) = some u) := fun q u hu => by rw [Addr.add_lit]; exact hc2 k i hi q u hu
          obtain ⟨⟨⟨a1, c1, e1⟩, a2, n2, c2, e2⟩, _⟩ := hgi.code.args i him
          have hone : i.cells.all (·.oneCell') = true := insOne ⟨by rw [e1]; rfl, by rw [e2]; rfl⟩
          have HP2 : Hid (funcsR m.nv (j + 1) (m.fs.drop (j + 1)) (codeR m.nv j g (g.c.ins.drop (k + 1)) (insR m.nv j g i ⟨y2, s2⟩)) = PS) := by
            unfold Hid
            rw [drop_get hi] at hP
            exact hP
          obtain ⟨N2, hN2⟩ : ∃ N, wr.heap.size = N := ⟨_, rfl⟩
          have hst : ∀ c : Array Value, c.size = 13 → (storeCells ⟨wr.heap.size, 0, none⟩ i.cells.toList).run Try.prog (wr.alloc (.cells c 62)) = .ok () (wr.alloc (.cells i.cells 62)) := fun c hc =>
            run_storeCells_new (P := Try.prog) wr 62 c i.cells (by show _ = some 13; kernel_rfl) hc hone
          obtain ⟨W3, hW3⟩ : ∃ W3, wr.alloc (.cells i.cells 62) = W3 := ⟨_, rfl⟩
          rw [hW3, hN2] at hst
          have hb3 : Below wr.heap.size wr W3 := by rw [← hW3]; exact (Below.refl _ _).alloc (Nat.le_refl _) _
          have hr3 : W3.heap[N2]? = some (.cells i.cells 62 (0, 0)) := by rw [← hW3, ← hN2]; exact alloc_at _ _
          have HLOAD : Hid (∀ q u, i.cells.toList[q]? = some u → W3.cell? ((⟨N2, 0, none⟩ : Addr).add q) = some u) := fun q u hu => by
            rw [Addr.add_lit, Nat.zero_add, cell_of_row _ _ _ _ _ _ hr3]; simpa using hu
          have hg3 := hgm.below hb3
          have hx3 : Ext (turnR tag R) w W3 := hx.trans (Ext.of_below_size (M := fun _ => False) hb3) (fun _ h => h.elim)
          have HIC := Lib.hid (rinstr_calls W3 m B R vv fv rows y2 tag ((rn : Int) + 1) hg3 HOK.out j g HGG.out i him)
          obtain ⟨S3, hS3⟩ : ∃ S3, insR m.nv j g i ⟨y2, false⟩ = S3 := ⟨_, rfl⟩
          rw [hS3] at HIC
          have HREL : Hid (∀ w6, InsP W3 m B R vv fv rows tag ((rn : Int) + 1) S3 (.returned (.bool S3.is)) w6 → RndJ m PS j g B R vv fv rows tag ((rn : Int) + 1) w (.bool (S3.is || s2)) (.int .i64 ((k : Int) + 1)) w6) := by
            rintro w6 ⟨_, h2, h3⟩
            refine ⟨k + 1, ⟨S3.x, S3.is || s2⟩, hkl, by simp, rfl, ?_, h2, hx3.trans h3 (fun k hk => .inl (.inl hk))⟩
            have h4 := HP2.out
            rw [insR_split, hS3] at h4
            exact h4
          have hone2 := hone
          clear hi him hgi hc2 e1 e2 hone hP hgm hx hW3 hb3 hr3 hg3 hx3 hS3 hone2
          rw [hA2]
          go_upto_region 9 with (first | (refine wpList_load_at rfl 62 _ rfl ⟨b2, o2 + k * 13, none⟩ rfl i.cells _ HCB.out Try.underlying62 rfl (by kernel_rfl) ?_))
          clear hst
          go_wp2_with (first | (refine wpList_load_at rfl 62 _ rfl ⟨N2, 0, none⟩ rfl i.cells _ HLOAD.out Try.underlying62 rfl (by kernel_rfl) ?_))
          go_at_call 91
          refine HIC.out.mono ?_
          rintro e w6 hins
          obtain ⟨e1, h2, h3⟩ := hins
          subst e1
          have HR6 := Lib.hid (HREL.out w6 ⟨rfl, h2, h3⟩)
          clear h2 h3
          cases hsi : S3.is with
          | true =>
            rw [hsi] at HR6
            go_wp2
            go_roundw
            case rel => exact HR6.out
            case measure => simp [intOf]; omega
          | false =>
            rw [hsi] at HR6
            go_wp2
            go_roundw
            case rel => exact HR6.out
            case measure => simp [intOf]; omega
        · have HREL : Hid (RndI m PS B R vv fv rows tag ((rn : Int) + 1) w (.bool s2) (.int .i64 ((j : Int) + 1)) wr) := by
            refine ⟨j + 1, ⟨y2, s2⟩, hjn, by simp, rfl, ?_, hgm, hx⟩
            rw [List.drop_eq_nil_of_le (by omega : g.c.ins.length ≤ k)] at hP
            exact hP
          clear hP hgm hx
          go_wp2
          go_roundw
          case rel => exact HREL.out
          case measure => simp [intOf]; omega
    · have HFIN : Hid (RoundP w m B R vv fv rows tag ((rn : Int) + 1) PS (.returned (.bool s)) wr) := by
        rw [List.drop_eq_nil_of_le (by omega)] at hP
        have hP' : (⟨y, s⟩ : RS) = PS := hP
        unfold Hid; rw [← hP']
        exact ⟨rfl, hgm, hx⟩
      clear hP hgm hx
      go_wp2
      go_ret
      exact HFIN.out
end Go.Proofs.Ytlggjbopfnndbaa
