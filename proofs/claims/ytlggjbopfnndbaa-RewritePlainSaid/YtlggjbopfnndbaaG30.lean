import Derived.Test.YtlggjbopfnndbaaRegC3
namespace Go.Proofs.Ytlggjbopfnndbaa
open Go.RowKit
theorem callR_split (ml : Nat → Nat) (f : Nat) (g : Fn) (d : Int) (h : Nat) : ∀ (l : List Int) (n : Nat) (x : Nat → Nat → Nat → Bool) (b c : Bool),callR ml f g d h n l ⟨x,b || c⟩ = ⟨(callR ml f g d h n l ⟨x,b⟩).x,(callR ml f g d h n l ⟨x,b⟩).is || c⟩
 | [],_,_,_,_ => rfl
 | a :: r,n,x,b,c => by
  unfold callR
  split
  ·show callR ml f g d h (n + 1) r ⟨_,newR _ x f _ _ || (b || c)⟩ = _
   rw [← Bool.or_assoc]
   exact callR_split ml f g d h r (n + 1) _ _ c
  ·exact callR_split ml f g d h r (n + 1) x b c
theorem insR_split (ml : Nat → Nat) (f : Nat) (g : Fn) (i : Ins) (s : RS) : insR ml f g i s = ⟨(insR ml f g i ⟨s.x,false⟩).x,(insR ml f g i ⟨s.x,false⟩).is || s.is⟩ := by
 obtain ⟨x,b⟩ := s
 unfold insR
 split
 ·split
  ·show RS.mk _ _ = RS.mk _ _
   congr 1
   show (newR _ x f _ _ || b) = ((newR _ x f _ _ || false) || b)
   rw [Bool.or_false]
  ·show RS.mk _ _ = RS.mk _ _
   simp
 ·split
  ·have := callR_split ml f g i.d i.f.toNat i.args 0 x false b
   rw [Bool.false_or] at this
   exact this
  ·split
   ·split
    ·show RS.mk _ _ = RS.mk _ _
     congr 1
     show (newR _ x f _ _ || b) = ((newR _ x f _ _ || false) || b)
     rw [Bool.or_false]
    ·show RS.mk _ _ = RS.mk _ _
     simp
   ·show RS.mk _ _ = RS.mk _ _
    simp
def turnR (tag : Tag) (R : Nat) (k : Nat) : Prop := (∃ f u,tag k = (4,f,u)) ∨ k = R
def RndI (m : Mo) (P : RS) (B R : Nat) (vv fv : Value) (rows : List FR) (tag : Tag) (rn : Int) (W : World) (is c : Value) (wr : World) : Prop :=
 ∃ (j : Nat) (s : RS),j ≤ m.fs.length ∧ c = .int .i64 (j : Int) ∧ is = .bool s.is ∧ funcsR m.nv j (m.fs.drop j) s = P ∧ RgM wr m B R vv fv rows s.x tag rn ∧ Ext (turnR tag R) W wr
def RndJ (m : Mo) (P : RS) (j : Nat) (g : Fn) (B R : Nat) (vv fv : Value) (rows : List FR) (tag : Tag) (rn : Int) (W : World) (is c : Value) (wr : World) : Prop :=
 ∃ (k : Nat) (s : RS),k ≤ g.c.ins.length ∧ c = .int .i64 (k : Int) ∧ is = .bool s.is ∧ funcsR m.nv (j + 1) (m.fs.drop (j + 1)) (codeR m.nv j g (g.c.ins.drop k) s) = P ∧ RgM wr m B R vv fv rows s.x tag rn ∧ Ext (turnR tag R) W wr
theorem drop_get {α : Type} {l : List α} {k : Nat} {a : α} (h : l[k]? = some a) : l.drop k = a :: l.drop (k + 1) := by
 have hk := (List.getElem?_eq_some_iff.1 h).1
 rw [List.drop_eq_getElem_cons hk]
 congr 1
 exact (List.getElem?_eq_some_iff.1 h).2
def RoundP (w : World) (m : Mo) (B R : Nat) (vv fv : Value) (rows : List FR) (tag : Tag) (rn : Int) (s : RS) (e : Ending) (w' : World) : Prop :=
 e = .returned (.bool s.is) ∧ RgM w' m B R vv fv rows s.x tag rn ∧ Ext (turnR tag R) w w'
theorem RgM.count {w : World} {m : Mo} {B R : Nat} {vv fv : Value} {rows : List FR} {x : Nat → Nat → Nat → Bool} {tag : Tag} {rn : Int} (h : RgM w m B R vv fv rows x tag rn) (z : Int) :
  RgM (w.setCell ⟨R,4,none⟩ (.int .i64 z)) m B R vv fv rows x tag z := by
 obtain ⟨w0,h1,h3,h2⟩ := h.mod
 have hx : Ext (· = R) w (w.setCell ⟨R,4,none⟩ (.int .i64 z)) := Ext.set1 _ _ _ _
 have hl := (h.tab.low R (by rw [h.tR]; simp)).1
 refine ⟨⟨w0,h1,h3,h2.trans (hx.below h2.size (fun k hk => by rw [hk]; omega))⟩,?_,h.tab.keep hx (fun k hk => .inr (by rw [hk]; exact h.tR)),h.tR,h.fit,h.n⟩
 exact heap_setCell_same _ _ _ _ _ _ h.rec_
set_option maxRecDepth 100000 in
set_option maxHeartbeats 8000000 in
theorem round_calls (w : World) (m : Mo) (B R : Nat) (vv fv : Value) (rows : List FR) (x : Nat → Nat → Nat → Bool) (tag : Tag) (rn : Nat) (h : RgM w m B R vv fv rows x tag rn) (hok : OkR m) (hrn : rn ≤ 1000000000) :
  Calls Try.prog 64 #[.pointer (some ⟨R,0,none⟩)] w (RoundP w m B R vv fv rows tag ((rn : Int) + 1) (passR m x)) := by
 obtain ⟨PS,hPS⟩ : ∃ s,passR m x = s := ⟨_,rfl⟩
 have HPS : Hid (funcsR m.nv 0 m.fs ⟨x,false⟩ = PS) := hPS
 rw [hPS]
 clear hPS
 have c4 : w.cell? ⟨R,4,none⟩ = some (.int .i64 (rn : Int)) := by rw [cell_of_row _ _ _ _ _ _ h.rec_]; rfl
 have f4 : w.frozen? ⟨R,4,none⟩ = false := frozen_of_row _ _ _ _ _ h.rec_
 have hRl : R < w.heap.size := (Array.getElem?_eq_some_iff.1 h.rec_).1
 obtain ⟨W1,hW1⟩ : ∃ W1,w.setCell ⟨R,4,none⟩ (.int .i64 ((rn : Int) + 1)) = W1 := ⟨_,rfl⟩
 have h1 : RgM W1 m B R vv fv rows x tag ((rn : Int) + 1) := by rw [← hW1]; exact h.count _
 have HX1 : Hid (Ext (turnR tag R) w W1) := by
  unfold Hid; rw [← hW1]; exact (Ext.set1 _ _ _ _).mono (fun k hk => .inr hk)
 have HG := Lib.hid h1
 have HW1 := Lib.hid hW1
 have HOK := Lib.hid hok
 have d1 : W1.cell? ⟨R,1,none⟩ = some (.slice m.fA m.fs.length m.fC) := by rw [cell_of_row _ _ _ _ _ _ h1.rec_]; rfl
 have hn60 := hok.nf
 clear h h1 hW1 hok
 go_enter Try.func64,Try.ntmps64
 go_upto_region 3 with (fail)
 rw [HW1.out]
 clear c4 f4
 go_wp2_with fail
 clear d1
 go_loopw [2,23] (fun is c wr => RndI m PS B R vv fv rows tag ((rn : Int) + 1) w is c wr) (fun _ c _ => m.fs.length - (intOf c).toNat)
 case atStart => exact ⟨0,⟨x,false⟩,Nat.zero_le _,rfl,rfl,HPS.out,HG.out,HX1.out⟩
 case round =>
  obtain ⟨j,⟨y,s⟩,hj,rfl,rfl,hP,hgm,hx⟩ := hrel
  by_cases hjn : j < m.fs.length
  ·have hjI : (j : Int) < (m.fs.length : Int) := by omega
   obtain ⟨g,hg⟩ : ∃ g,m.fs[j]? = some g := ⟨_,List.getElem?_eq_getElem hjn⟩
   obtain ⟨fb,fo,hfA,hfb,hfc⟩ := hgm.inn.frow (by intro e; rw [e] at hjn; simp at hjn)
   have HCA : Hid (∀ k u,g.cells.toList[k]? = some u → wr.cell? ((⟨fb,fo + j * 8,none⟩ : Addr).add k) = some u) := fun k u hu => by rw [Addr.add_lit]; exact hfc j g hg k u hu
   rw [drop_get hg] at hP
   have HP0 : Hid (funcsR m.nv (j + 1) (m.fs.drop (j + 1)) (codeR m.nv j g g.c.ins ⟨y,s⟩) = PS) := hP
   have hil : g.c.ins.length ≤ 3000 := (HOK.out.fn g (List.mem_of_getElem? hg)).2.2.2
   obtain ⟨N,hN⟩ : ∃ N,wr.heap.size = N := ⟨_,rfl⟩
   have hst : ∀ c : Array Value,c.size = 8 → (storeCells ⟨wr.heap.size,0,none⟩ g.cells.toList).run Try.prog (wr.alloc (.cells c 50)) = .ok () (wr.alloc (.cells g.cells 50)) := fun c hc =>
    run_storeCells_new (P := Try.prog) wr 50 c g.cells (by show _ = some 8; kernel_rfl) hc (fnOne g)
   obtain ⟨W2,hW2⟩ : ∃ W2,wr.alloc (.cells g.cells 50) = W2 := ⟨_,rfl⟩
   rw [hW2,hN] at hst
   have hb2 : Below wr.heap.size wr W2 := by rw [← hW2]; exact (Below.refl _ _).alloc (Nat.le_refl _) _
   have hr2 : W2.heap[N]? = some (.cells g.cells 50 (0,0)) := by rw [← hW2,← hN]; exact alloc_at _ _
   have e7 : W2.cell? ⟨N,7,none⟩ = some (.slice g.c.insA g.c.ins.length g.c.insC) := by rw [cell_of_row _ _ _ _ _ _ hr2]; rfl
   have HG2 := Lib.hid (hgm.below hb2)
   have HX2 : Hid (Ext (turnR tag R) w W2) := hx.trans (Ext.of_below_size (M := fun _ => False) hb2) (fun _ h => h.elim)
   have HGG := Lib.hid hg
   clear hg hP hgm hx hfc hW2 hb2 hr2
   rw [hfA]
   go_upto_region 6 with (first | (refine wpList_load_at rfl 50 _ rfl ⟨fb,fo + j * 8,none⟩ rfl g.cells _ HCA.out Try.underlying50 rfl (by kernel_rfl) ?_))
   clear hst
   go_wp2_with fail
   clear e7 HCA
   go_loopw [2,31] (fun is c w9 => RndJ m PS j g B R vv fv rows tag ((rn : Int) + 1) w is c w9) (fun _ c _ => g.c.ins.length - (intOf c).toNat)
   case atStart => exact ⟨0,⟨y,s⟩,Nat.zero_le _,rfl,rfl,by rw [List.drop_zero]; exact HP0.out,HG2.out,HX2.out⟩
   case round =>
    clear HG2 HX2 HP0
    obtain ⟨k,⟨y2,s2⟩,hk,rfl,rfl,hP,hgm,hx⟩ := hrel
    by_cases hkl : k < g.c.ins.length
    ·have hkI : (k : Int) < (g.c.ins.length : Int) := by omega
     obtain ⟨i,hi⟩ : ∃ i,g.c.ins[k]? = some i := ⟨_,List.getElem?_eq_getElem hkl⟩
     have him := List.mem_of_getElem? hi
     have hgi := hgm.inn.fin g (List.mem_of_getElem? HGG.out)
     obtain ⟨b2,o2,hA2,hb2,hc2⟩ := hgi.code.row (by intro e; rw [e] at hkl; simp at hkl)
     have HCB : Hid (∀ q u,i.cells.toList[q]? = some u → wr.cell? ((⟨b2,o2 + k * 13,none⟩ : Addr).add q) = some u) := fun q u hu => by rw [Addr.add_lit]; exact hc2 k i hi q u hu
     obtain ⟨⟨⟨a1,c1,e1⟩,a2,n2,c2,e2⟩,_⟩ := hgi.code.args i him
     have hone : i.cells.all (·.oneCell') = true := insOne ⟨by rw [e1]; rfl,by rw [e2]; rfl⟩
     have HP2 : Hid (funcsR m.nv (j + 1) (m.fs.drop (j + 1)) (codeR m.nv j g (g.c.ins.drop (k + 1)) (insR m.nv j g i ⟨y2,s2⟩)) = PS) := by
      unfold Hid
      rw [drop_get hi] at hP
      exact hP
     obtain ⟨N2,hN2⟩ : ∃ N,wr.heap.size = N := ⟨_,rfl⟩
     have hst : ∀ c : Array Value,c.size = 13 → (storeCells ⟨wr.heap.size,0,none⟩ i.cells.toList).run Try.prog (wr.alloc (.cells c 62)) = .ok () (wr.alloc (.cells i.cells 62)) := fun c hc =>
      run_storeCells_new (P := Try.prog) wr 62 c i.cells (by show _ = some 13; kernel_rfl) hc hone
     obtain ⟨W3,hW3⟩ : ∃ W3,wr.alloc (.cells i.cells 62) = W3 := ⟨_,rfl⟩
     rw [hW3,hN2] at hst
     have hb3 : Below wr.heap.size wr W3 := by rw [← hW3]; exact (Below.refl _ _).alloc (Nat.le_refl _) _
     have hr3 : W3.heap[N2]? = some (.cells i.cells 62 (0,0)) := by rw [← hW3,← hN2]; exact alloc_at _ _
     have HLOAD : Hid (∀ q u,i.cells.toList[q]? = some u → W3.cell? ((⟨N2,0,none⟩ : Addr).add q) = some u) := fun q u hu => by
      rw [Addr.add_lit,Nat.zero_add,cell_of_row _ _ _ _ _ _ hr3]; simpa using hu
     have hg3 := hgm.below hb3
     have hx3 : Ext (turnR tag R) w W3 := hx.trans (Ext.of_below_size (M := fun _ => False) hb3) (fun _ h => h.elim)
     have HIC := Lib.hid (rinstr_calls W3 m B R vv fv rows y2 tag ((rn : Int) + 1) hg3 HOK.out j g HGG.out i him)
     obtain ⟨S3,hS3⟩ : ∃ S3,insR m.nv j g i ⟨y2,false⟩ = S3 := ⟨_,rfl⟩
     rw [hS3] at HIC
     have HREL : Hid (∀ w6,InsP W3 m B R vv fv rows tag ((rn : Int) + 1) S3 (.returned (.bool S3.is)) w6 → RndJ m PS j g B R vv fv rows tag ((rn : Int) + 1) w (.bool (S3.is || s2)) (.int .i64 ((k : Int) + 1)) w6) := by
      rintro w6 ⟨_,h2,h3⟩
      refine ⟨k + 1,⟨S3.x,S3.is || s2⟩,hkl,by simp,rfl,?_,h2,hx3.trans h3 (fun k hk => .inl (.inl hk))⟩
      have h4 := HP2.out
      rw [insR_split,hS3] at h4
      exact h4
     have hone2 := hone
     clear hi him hgi hc2 e1 e2 hone hP hgm hx hW3 hb3 hr3 hg3 hx3 hS3 hone2
     rw [hA2]
     go_upto_region 9 with (first | (refine wpList_load_at rfl 62 _ rfl ⟨b2,o2 + k * 13,none⟩ rfl i.cells _ HCB.out Try.underlying62 rfl (by kernel_rfl) ?_))
     clear hst
     go_wp2_with (first | (refine wpList_load_at rfl 62 _ rfl ⟨N2,0,none⟩ rfl i.cells _ HLOAD.out Try.underlying62 rfl (by kernel_rfl) ?_))
     go_at_call 91
     refine HIC.out.mono ?_
     rintro e w6 hins
     obtain ⟨e1,h2,h3⟩ := hins
     subst e1
     have HR6 := Lib.hid (HREL.out w6 ⟨rfl,h2,h3⟩)
     clear h2 h3
     cases hsi : S3.is with
     | true =>
      rw [hsi] at HR6
      go_wp2
      go_roundw
      case rel => exact HR6.out
      case measure => simp [intOf]; omega
     | false =>
      rw [hsi] at HR6
      go_wp2
      go_roundw
      case rel => exact HR6.out
      case measure => simp [intOf]; omega
    ·have HREL : Hid (RndI m PS B R vv fv rows tag ((rn : Int) + 1) w (.bool s2) (.int .i64 ((j : Int) + 1)) wr) := by
      refine ⟨j + 1,⟨y2,s2⟩,hjn,by simp,rfl,?_,hgm,hx⟩
      rw [List.drop_eq_nil_of_le (by omega : g.c.ins.length ≤ k)] at hP
      exact hP
     clear hP hgm hx
     go_wp2
     go_roundw
     case rel => exact HREL.out
     case measure => simp [intOf]; omega
  ·have HFIN : Hid (RoundP w m B R vv fv rows tag ((rn : Int) + 1) PS (.returned (.bool s)) wr) := by
    rw [List.drop_eq_nil_of_le (by omega)] at hP
    have hP' : (⟨y,s⟩ : RS) = PS := hP
    unfold Hid; rw [← hP']
    exact ⟨rfl,hgm,hx⟩
   clear hP hgm hx
   go_wp2
   go_ret
   exact HFIN.out
end Go.Proofs.Ytlggjbopfnndbaa
namespace Go.Proofs.Ytlggjbopfnndbaa
open Go.RowKit
theorem inR_true {n : Nat} {f : Int} (h : inR n f = true) : ∃ x : Nat,f = (x : Int) ∧ x < n := by
 unfold inR at h
 have := of_decide_eq_true h
 exact ⟨f.toNat,by omega,by omega⟩
theorem inR_nat {n x : Nat} : inR n (x : Int) = decide (x < n) := by
 unfold inR; rw [decide_eq_decide]; omega
section
variable {w : World} {m : Mo} {B R : Nat} {vv fv : Value} {rows : List FR} {x : Nat → Nat → Nat → Bool} {tag : Tag} {rn : Int}
set_option maxRecDepth 100000 in
set_option maxHeartbeats 2000000 in
theorem list_calls (h : RgM w m B R vv fv rows x tag rn) (hok : OkR m) {f : Nat} {g : Fn} (hg : m.fs[f]? = some g) (b P : Nat) (z : Nat → Bool) (hP : P = g.c.par.toNat) (hz : bitsOk w b P z) :
  Calls Try.prog 66 #[.pointer (some ⟨R,0,none⟩),.int .i64 (f : Int),bitsLeaf.enc b P] w (GivesN w ((List.range P).filter z)) := by
 obtain ⟨p0,p1,p2,p3⟩ := hok.fn g (List.mem_of_getElem? hg)
 have hPI : g.c.par = (P : Int) := by omega
 have hPb : P ≤ 300 := by omega
 have hfn : f < m.fs.length := (List.getElem?_eq_some_iff.1 hg).1
 have hfI : (f : Int) < (m.fs.length : Int) := by omega
 have hn60 := hok.nf
 obtain ⟨fb,fo,hfA,hfb,hfc⟩ := h.inn.frow (by intro e; rw [e] at hfn; simp at hfn)
 have c1 : w.cell? ⟨R,1,none⟩ = some (.slice (some ⟨fb,fo,none⟩) m.fs.length m.fC) := by rw [cell_of_row _ _ _ _ _ _ h.rec_,← hfA]; rfl
 have c2 : w.cell? ⟨fb,fo + f * 8 + 1,none⟩ = some (.int .i64 (P : Int)) := by rw [← hPI]; exact hfc f g hg 1 _ rfl
 obtain ⟨B0,hB0⟩ : ∃ B,w.heap.size = B := ⟨_,rfl⟩
 have HHAS : Hid (∀ W,Below B0 w W → ∀ v,v < P → Calls Try.prog 69 #[.slice (some ⟨b,0,none⟩) ((P + 63) / 64) ((P + 63) / 64),.int .i64 (v : Int)] W fun e w' => e = .returned (.bool (z v)) ∧ W = w') := by
  intro W hW v hv
  exact hasB_calls W b P v z (bitsLeaf.keep hz (hW.block b (by rw [← hB0]; exact bitsLeaf.lt hz))) hv (by omega)
 have HB0 := Lib.hid hB0
 show Calls _ _ #[.pointer (some ⟨R,0,none⟩),.int .i64 (f : Int),.slice (some ⟨b,0,none⟩) ((P + 63) / 64) ((P + 63) / 64)] w _
 obtain ⟨q,hq⟩ : ∃ q,(P + 63) / 64 = q := ⟨_,rfl⟩
 rw [hq] at HHAS ⊢
 have HPOST : Hid (∀ v wr,PkI z B0 w P v wr → GivesN w ((List.range P).filter z) (.returned v) wr) := by
  rintro v wr ⟨a1,a2,a3⟩
  exact ⟨v,rfl,by rw [hB0]; exact a1,by rw [hB0]; exact a2⟩
 have HP0 : Hid (PkI z B0 w 0 (.slice none 0 0) w) := ⟨World.ownsRow_nil _ _ _ _,Below.refl _ _,by omega⟩
 have hf0 : (0 : Int) ≤ (f : Int) := by omega
 clear hP hz h hg hfc p0 p1 hPI hq hfA hB0
 obtain ⟨i0,hi0,hi1,hi2,hi3⟩ := info_parts info_int
 go_enter Try.func66,Try.ntmps66
 go_wp2
 clear c1 c2
 go_loopw [6,17] (fun v c wr => ∃ j : Nat,j ≤ P ∧ c = .int .i64 (j : Int) ∧ PkI z B0 w j v wr) (fun _ c _ => P - (intOf c).toNat)
 case atStart => exact ⟨0,Nat.zero_le _,rfl,HP0.out⟩
 case round =>
  obtain ⟨j,hj,rfl,hpk⟩ := hrel
  by_cases hjP : j < P
  ·have hjI : (j : Int) < (P : Int) := by omega
   have HPK := Lib.hid hpk
   have HC := Lib.hid (HHAS.out wr hpk.2.1 j hjP)
   obtain ⟨ao,cap,rfl⟩ := ownsRow_slice hpk.1
   have hl := rf_len z j
   have HOW := Lib.hid hpk.1
   have hsz := hpk.2.2
   clear hpk
   cases hzj : z j with
   | true =>
    have HZ := Lib.hid hzj
    rw [hzj] at HC
    clear hzj
    go_wp2_with (first
     | (go_at_call 69; refine HC.out.mono ?_; rintro e w2 ⟨rfl,rfl⟩)
     | (at_builtin; refine wpList_append_lies _ rfl _ _ 35 rfl B0 3 i0 (.int .i64 0) 1 8 Try.underlying35 hi0 hi1 hi2 hi3 rfl (by decide) (.slice ao ((List.range j).filter z).length cap) ((List.range j).filter z).length (((List.range j).filter z).flatMap encN) rfl (ownsRow_below HOW.out ((Below.refl wr.heap.size wr).alloc (Nat.le_refl _) _)) ⟨wr.heap.size,0,none⟩ 1 1 [.int .i64 (j : Int)] rfl rfl (cells_new _ _ _) (by simp [Value.oneCell']) (by decide) (by unfold maxLen; omega) (by omega) (by rw [World.size_alloc]; omega) _ rfl ?_; intro g5 cap5 w5 hown5 hgrow5 hat5 hlt5; have HN := Lib.hid (HPK.out.app HZ.out ((Below.refl _ _).alloc hsz _) (by rw [World.size_alloc]; omega) hown5 hgrow5); clear hown5 hgrow5 hat5 hlt5))
    go_roundw
    case rel => exact ⟨j + 1,by omega,by go_num,HN.out⟩
    case measure => simp [intOf]; omega
   | false =>
    have HN := Lib.hid (HPK.out.skip hzj)
    rw [hzj] at HC
    clear hzj
    go_wp2_with (go_at_call 69; refine HC.out.mono ?_; rintro e w2 ⟨rfl,rfl⟩)
    go_roundw
    case rel => exact ⟨j + 1,by omega,by go_num,HN.out⟩
    case measure => simp [intOf]; omega
  ·have hje : j = P := by omega
   subst hje
   have HF := Lib.hid (HPOST.out _ _ hpk)
   clear hpk
   go_wp2
   go_ret
   exact HF.out
set_option maxRecDepth 100000 in
set_option maxHeartbeats 2000000 in
theorem inR19_calls (h : RgM w m B R vv fv rows x tag rn) (_ : m.fs.length ≤ 90000) (f : Int) :
  Calls Try.prog 65 #[.pointer (some ⟨R,0,none⟩),.int .i64 f] w fun e w' => e = .returned (.bool (inR m.fs.length f)) ∧ w = w' := by
 obtain ⟨bo,cf,hfv⟩ := ownsRow_slice h.tab.from_
 have c3 : w.cell? ⟨R,3,none⟩ = some (.slice bo m.fs.length cf) := by rw [cell_of_row _ _ _ _ _ _ h.rec_,← h.n,← hfv]; rfl
 clear h hfv
 by_cases h0 : f < 0
 ·have hr : Hid (inR m.fs.length f = false) := by unfold Hid inR; exact decide_eq_false (by omega)
  have h1 : decide (0 ≤ f) = false := decide_eq_false (by omega)
  clear h0
  go_enter Try.func65,Try.ntmps65
  go_wp2
  go_ret
  rw [hr.out]
  exact ⟨rfl,rfl⟩
 ·obtain ⟨y,rfl⟩ : ∃ x : Nat,f = (x : Int) := ⟨f.toNat,by omega⟩
  have hr : Hid (inR m.fs.length (y : Int) = decide (y < m.fs.length)) := inR_nat
  have h1 : decide (0 ≤ (y : Int)) = true := decide_eq_true (by omega)
  clear h0
  go_enter Try.func65,Try.ntmps65
  go_wp2
  go_ret
  rw [hr.out]
  exact ⟨by simp,rfl⟩
def fromL (m : Mo) (x : Nat → Nat → Nat → Bool) (f : Int) : List Nat := if inR m.fs.length f = true then (List.range (m.np f.toNat)).filter (x f.toNat (m.nv f.toNat)) else []
theorem np_get {m : Mo} {f : Nat} {g : Fn} (hg : m.fs[f]? = some g) : m.np f = g.c.par.toNat := by unfold Mo.np; rw [hg]
theorem nv_get {m : Mo} {f : Nat} {g : Fn} (hg : m.fs[f]? = some g) : m.nv f = g.vs.length := by unfold Mo.nv; rw [hg]
theorem givesN_nil (w : World) : GivesN w [] (.returned (.slice none 0 0)) w := ⟨_,rfl,World.ownsRow_nil _ _ _ _,Below.refl _ _⟩
set_option maxRecDepth 100000 in
set_option maxHeartbeats 2000000 in
theorem from19_calls (h : RgM w m B R vv fv rows x tag rn) (hok : OkR m) (f : Int) :
  Calls Try.prog 27 #[.pointer (some ⟨R,0,none⟩),.int .i64 f] w (GivesN w (fromL m x f)) := by
 have HI := Lib.hid (inR19_calls h (by have := hok.nf; omega) f)
 cases hr : inR m.fs.length f with
 | false =>
  rw [hr] at HI
  have e : fromL m x f = [] := by unfold fromL; rw [hr]; rfl
  rw [e]
  clear hr h hok
  go_enter Try.func27,Try.ntmps27
  go_wp2_with (go_at_call 65; refine HI.out.mono ?_; rintro e w2 ⟨rfl,rfl⟩)
  go_ret
  exact givesN_nil _
 | true =>
  rw [hr] at HI
  obtain ⟨y,rfl,hy⟩ := inR_true hr
  obtain ⟨g,hg⟩ : ∃ g,m.fs[y]? = some g := ⟨_,List.getElem?_eq_getElem hy⟩
  obtain ⟨r,hrr,hP,hL⟩ := h.row hg
  obtain ⟨VA,FA,cv,cf,hvv,hfv,_,_,_,kf⟩ := h.tab.fn hrr
  have hleaf := (h.tab.leaf hrr (Nat.le_refl _)).1
  have e : fromL m x (y : Int) = (List.range r.P).filter (x y r.locs.length) := by
   unfold fromL; rw [hr,if_pos rfl,Int.toNat_natCast,np_get hg,nv_get hg,hP,hL]
  rw [e]
  have HL := Lib.hid (list_calls h hok hg (r.at_ r.locs.length) r.P _ hP hleaf)
  have c3 : w.cell? ⟨R,3,none⟩ = some (.slice (some ⟨FA,0,none⟩) rows.length cf) := by rw [cell_of_row _ _ _ _ _ _ h.rec_,← hfv]; rfl
  have hrl : y < rows.length := (List.getElem?_eq_some_iff.1 hrr).1
  have hyI : (y : Int) < (rows.length : Int) := by omega
  have hrb : rows.length ≤ 60 := by rw [h.n]; exact hok.nf
  obtain ⟨EV,hEV⟩ : ∃ EV,bitsLeaf.enc (r.at_ r.locs.length) r.P = EV := ⟨_,rfl⟩
  rw [hEV] at HL kf
  have h1 : EV.oneCell' = true := by rw [← hEV]; rfl
  have HEV : Hid (EV = .slice (some ⟨r.at_ r.locs.length,0,none⟩) ((r.P + 63) / 64) ((r.P + 63) / 64)) := by rw [← hEV]; rfl
  rw [HEV.out] at HL kf
  clear hr h hok hg hrr hP hL hvv hfv hleaf e hEV h1 hy
  go_enter Try.func27,Try.ntmps27
  go_wp2_with (first
   | (go_at_call 65; refine HI.out.mono ?_; rintro e w2 ⟨rfl,rfl⟩)
   | (go_at_call 66; refine HL.out.mono ?_; rintro e w2 ⟨v2,rfl,hown2,hb2⟩; have HO2 := Lib.hid hown2; have HB2 := Lib.hid hb2; clear hown2 hb2))
  go_ret
  exact ⟨_,rfl,HO2.out,HB2.out⟩
end
end Go.Proofs.Ytlggjbopfnndbaa
