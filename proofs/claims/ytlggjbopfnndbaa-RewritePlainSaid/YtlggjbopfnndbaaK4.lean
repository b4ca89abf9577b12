import Derived.Test.YtlggjbopfnndbaaK3
import Derived.Test.YtlggjbopfnndbaaG36
import Derived.Test.YtlggjbopfnndbaaK2
import Derived.Test.YtlggjbopfnndbaaH01
namespace Go.Proofs.Ytlggjbopfnndbaa
open Go.RowKit
def HdI (m : Mo) (B : Nat) (W1 : World) (v c : Value) (wr : World) : Prop :=
 ∃ (j : Nat) (fs : List Fn) (fA : Option Addr) (fC : Nat),j ≤ m.fs.length ∧ c = .int .i64 (j : Int) ∧ v = .slice fA j fC ∧ fs.length = j ∧ MdM (fun _ => False) wr B ⟨m.sA,m.sC,fA,fC,m.ss,fs⟩ ∧
  (∀ (f : Nat) (g' : Fn),fs[f]? = some g' → ∃ g,m.fs[f]? = some g ∧ HdFn g.c.nm g') ∧ Below B W1 wr
def HdP (m : Mo) (w : World) (e : Ending) (w' : World) : Prop :=
 ∃ h : Mo,h.sA = m.sA ∧ h.sC = m.sC ∧ e = .returned (.slice h.fA h.fs.length h.fC) ∧ h.inn w' ∧ HeadsOf m h ∧ Below w.heap.size w w'
def hdVs : List Value := [.bool false,.string ⟨#[]⟩,.int .i64 0]
def hdIs (op : Int) : List Value := [.int .i64 op,.int .i64 0,.int .i64 0,.int .i64 0,.int .i64 0,.int .i64 0,.string ⟨#[]⟩,.slice none 0 0,.slice none 0 0,.int .i64 0,.int .i64 0,.int .i64 0,.int .i64 0]
set_option maxRecDepth 100000 in
set_option maxHeartbeats 8000000 in
theorem heads_calls (m : Mo) (w : World) (hm : m.inn w) (hn : m.fs.length ≤ 90) : Calls Try.prog 52 #[.agg m.cells] w (HdP m w) := by
 obtain ⟨N,hN⟩ : ∃ N,w.heap.size = N := ⟨_,rfl⟩
 obtain ⟨W1,hW1⟩ : ∃ W1,w.alloc (.cells m.cells 25) = W1 := ⟨_,rfl⟩
 have hb1 : Below N w W1 := by rw [← hW1,← hN]; exact (Below.refl _ _).alloc (Nat.le_refl _) _
 have q1 : W1.heap[N]? = some (.cells m.cells 25 (0,0)) := by rw [← hW1,← hN]; exact alloc_at _ _
 have hs1 : W1.heap.size = N + 1 := by rw [← hW1]; simp [hN]
 have HK : Hid (∀ W,Below (N + 1) W1 W → W.cell? ⟨N,1,none⟩ = some (.slice m.fA m.fs.length m.fC) ∧ m.inn W ∧ Below N w W) := fun W hW => by
  have h1 := (hW.block N (by omega)).trans q1
  have h3 := hb1.trans (hW.mono (by omega))
  exact ⟨by rw [cell_of_row _ _ _ _ _ _ h1]; rfl,hm.below (by rw [hN]; exact h3),h3⟩
 have HPOST : Hid (∀ e w',(∃ h : Mo,h.sA = m.sA ∧ h.sC = m.sC ∧ e = .returned (.slice h.fA h.fs.length h.fC) ∧ h.inn w' ∧ HeadsOf m h ∧ Below N w w') → HdP m w e w') := fun e w' h => by unfold HdP; rw [hN]; exact h
 have HM0 : Hid (MdM (fun _ => False) W1 (N + 1) ⟨m.sA,m.sC,none,0,m.ss,[]⟩) := by
  refine ⟨by omega,World.ownsRow_nil _ _ _ _,fun w' hx => ?_,hm.ns,by simp⟩
  have q2 : Below (N + 1) W1 w' := hx.below (by omega) (fun k hk => by
   rcases hk with hk | hk
   ·exact absurd hk (by simp [Value.ownBlock])
   ·exact hk.elim)
  have q3 := (HK.out w' q2).2.1
  exact ⟨q3.srow,q3.sin,fun f hf => absurd hf (by simp)⟩
 have HS1 := Lib.hid hs1
 have hW1' := hW1
 simp only [Mo.cells] at hW1'
 have HW1 := Lib.hid hW1'
 simp only [Mo.cells]
 clear hm hW1 hW1' q1 hb1 hs1
 have c1 : W1.cell? ⟨N,1,none⟩ = some (.slice m.fA m.fs.length m.fC) := (HK.out W1 (Below.refl _ _)).1
 go_enter Try.func52,Try.ntmps52
 go_upto_region 1 with (fail)
 rw [HW1.out]
 clear hN HW1
 go_wp2_with fail
 clear c1
 go_loopw [3,4] (fun v c wr => HdI m (N + 1) W1 v c wr) (fun _ c _ => m.fs.length - (intOf c).toNat)
 case atStart => exact ⟨0,[],none,0,Nat.zero_le _,rfl,rfl,rfl,HM0.out,fun f g h => (by simp at h),Below.refl _ _⟩
 case round =>
  clear HM0
  obtain ⟨j,fs,fA,fC,hj,rfl,rfl,hfl,hmd,hup,hbr⟩ := hrel
  subst hfl
  obtain ⟨c1,hmi,hbw⟩ := HK.out wr hbr
  by_cases hjl : fs.length < m.fs.length
  rotate_left
  ·have hje : fs.length = m.fs.length := by omega
   have HR : Hid (HdP m w (.returned (.slice fA fs.length fC)) wr) := HPOST.out _ _ ⟨⟨m.sA,m.sC,fA,fC,m.ss,fs⟩,rfl,rfl,rfl,hmd.inn,⟨rfl,hje,hup⟩,hbw⟩
   clear hmd hup hbr hmi hbw
   go_wp2
   go_ret
   exact HR.out
  have hjI : (fs.length : Int) < (m.fs.length : Int) := by omega
  obtain ⟨g,hg⟩ : ∃ g,m.fs[fs.length]? = some g := ⟨_,List.getElem?_eq_getElem hjl⟩
  obtain ⟨fb,fo,hfA,_,hfc⟩ := hmi.frow (by intro e; rw [e] at hjl; simp at hjl)
  have k0 : wr.cell? ⟨fb,fo + fs.length * 8,none⟩ = some (.string g.c.nm) := by have := hfc _ g hg 0 _ rfl; simpa using this
  have hnm : g.c.nm.size ≤ maxLen := (hmi.fin g (List.mem_of_getElem? hg)).nm
  obtain ⟨Q,hQ⟩ : ∃ z,wr.heap.size = z := ⟨_,rfl⟩
  obtain ⟨W7,hW7⟩ : ∃ W,(wr.alloc (.cells hdVs.toArray 47)).alloc (.cells (hdIs 1 ++ hdIs 18).toArray 62) = W := ⟨_,rfl⟩
  have hb7 : Below wr.heap.size wr W7 := by rw [← hW7]; exact ((Below.refl _ _).alloc (Nat.le_refl _) _).alloc (by simp) _
  have hs7 : W7.heap.size = Q + 1 + 1 := by rw [← hW7]; simp [hQ]
  have hv7 : W7.heap[Q]? = some (.cells hdVs.toArray 47 (0,0)) := by rw [← hW7,← hQ]; exact heap_alloc2_old _ _ _
  have hi7 : W7.heap[Q + 1]? = some (.cells (hdIs 1 ++ hdIs 18).toArray 62 (0,0)) := by rw [← hW7,← hQ]; exact heap_alloc2_new _ _ _
  obtain ⟨g',hg'⟩ : ∃ g' : Fn,g' = ⟨⟨g.c.nm,0,some ⟨Q,0,none⟩,1,1,false,⟨#[]⟩,0,none,0,0,some ⟨Q + 1,0,none⟩,2,[alI 1 0 0,alI 18 0 0]⟩,[alV false ⟨#[]⟩ 0],[],[[],[]]⟩ := ⟨_,rfl⟩
  have hcells : g'.cells.toList = [.string g.c.nm,.int .i64 0,.slice (some ⟨Q,0,none⟩) 1 1,.bool false,.string ⟨#[]⟩,.int .i64 0,.slice none 0 0,.slice (some ⟨Q + 1,0,none⟩) 2 2] := by rw [hg']; rfl
  have HGI : Hid (∀ w',Ext (fun k => ownOf fA fs.length fC (fun _ => False) k ∨ W7.heap.size ≤ k) W7 w' → g'.inn w') := by
   intro w' hx
   have hM : ∀ k,(ownOf fA fs.length fC (fun _ => False) k ∨ W7.heap.size ≤ k) → k < Q ∨ Q + 1 < k := by
    rintro k ((hk | hk) | hk)
    ·have := hmd.fown.lt k hk; exact .inl (by omega)
    ·exact hk.elim
    ·exact .inr (by omega)
   have hv := hx.heap hv7 (fun h => by have := hM _ h; omega)
   have hi := hx.heap hi7 (fun h => by have := hM _ h; omega)
   have hrV : RowOf Vr.cells 3 w' w'.heap.size (some ⟨Q,0,none⟩) [alV false ⟨#[]⟩ 0] := rowOf_heap vrLen hv rfl
   have hrI : RowOf Ins.cells 13 w' w'.heap.size (some ⟨Q + 1,0,none⟩) [alI 1 0 0,alI 18 0 0] := rowOf_heap insLen hi rfl
   rw [hg']
   refine ⟨⟨hrI,fun y hy => ?_,by unfold maxLen; simp,⟨_,by simp,hrV⟩,by unfold maxLen; simp,by unfold maxLen; simp,⟨[],by simp,fun h => absurd rfl h⟩⟩,hnm,rfl,hrV,rfl,fun h => absurd rfl h,rfl,fun q y l hy hl => ?_⟩
   ·have e : y = alI 1 0 0 ∨ y = alI 18 0 0 := by simpa using hy
    rcases e with rfl | rfl
    ·exact ⟨⟨⟨none,0,rfl⟩,none,0,0,rfl⟩,none,0,rfl,fun h => absurd rfl h⟩
    ·exact ⟨⟨⟨none,0,rfl⟩,none,0,0,rfl⟩,none,0,rfl,fun h => absurd rfl h⟩
   ·have hq : q < 2 := (List.getElem?_eq_some_iff.1 hy).1
    have hl' : ([[],[]] : List (List Int))[q]? = some l := hl
    have hy' : [alI 1 0 0,alI 18 0 0][q]? = some y := hy
    match q,hq,hl',hy' with
    | 0,_,hl',hy' =>
     obtain rfl : [] = l := by simpa using hl'
     obtain rfl : alI 1 0 0 = y := by simpa using hy'
     exact ⟨none,0,rfl,fun h => absurd rfl h⟩
    | 1,_,hl',hy' =>
     obtain rfl : [] = l := by simpa using hl'
     obtain rfl : alI 18 0 0 = y := by simpa using hy'
     exact ⟨none,0,rfl,fun h => absurd rfl h⟩
  have hhd : HdFn g.c.nm g' := by rw [hg']; exact ⟨rfl,rfl,rfl,rfl,rfl,rfl,rfl,rfl,rfl⟩
  have HSTEP : Hid (∀ (g8 cap8 : Nat) (w8 : World) (o : Obj),w8.ownsRow (N + 1) 50 8 (.slice (some ⟨g8,0,none⟩) (fs.length + 1) cap8) (fs.length + 1) ((fs.flatMap fun g => g.cells.toList) ++ [.string g.c.nm,.int .i64 0,.slice (some ⟨Q,0,none⟩) 1 1,.bool false,.string ⟨#[]⟩,.int .i64 0,.slice none 0 0,.slice (some ⟨Q + 1,0,none⟩) 2 2]) →
    (W7.alloc o).grownBy w8 (Value.slice fA fs.length fC).ownBlock → ((Value.slice fA fs.length fC).ownBlock = some g8 ∨ g8 = (W7.alloc o).heap.size) →
    HdI m (N + 1) W1 (.slice (some ⟨g8,0,none⟩) (fs.length + 1) cap8) (.int .i64 ((fs.length : Int) + 1)) w8) := by
   intro g8 cap8 w8 o ho hgr hat
   have hx8 : Ext (fun b => (Value.slice fA fs.length fC).ownBlock = some b) W7 w8 := ext_grown ((Ext.refl _ _).alloc _) hgr
   refine ⟨fs.length + 1,fs ++ [g'],some ⟨g8,0,none⟩,cap8,hjl,by simp,rfl,by simp,?_,fun f q hq => ?_,?_⟩
   ·exact MdM.push hmd (fun b hb => hb.elim) hb7 (by rw [hcells]; exact ho) hgr hat (Ext.refl _ _) (by unfold maxLen; omega) HGI.out
   ·rcases Nat.lt_or_ge f fs.length with hlt | hge
    ·rw [List.getElem?_append_left hlt] at hq
     exact hup f q hq
    ·have hfe : f = fs.length := by
      have := (List.getElem?_eq_some_iff.1 hq).1
      rw [List.length_append] at this; simp at this; omega
     subst hfe
     rw [List.getElem?_append_right (Nat.le_refl _),Nat.sub_self] at hq
     have e : g' = q := by simpa using hq
     rw [← e]
     exact ⟨g,hg,hhd⟩
   ·have h1 : Below (N + 1) W1 W7 := hbr.trans (hb7.mono (by have := hbr.size; have := HS1.out; omega))
    exact h1.trans (hx8.below (by have := h1.size; have := HS1.out; omega) (fun b hb => (hmd.fown.lt b hb).1))
  have HOW : Hid (∀ W,Below wr.heap.size wr W → W.ownsRow (N + 1) 50 8 (.slice fA fs.length fC) fs.length (fs.flatMap fun g => g.cells.toList)) := fun W hW => ownsRow_below hmd.fown hW
  have hlow : N + 1 ≤ Q := by have := hmd.low; omega
  have HW7 := Lib.hid hW7
  have HCN : Hid (∀ (o : List Value) (k : Nat) (u : Value),o[k]? = some u → (W7.alloc (.cells o.toArray 50)).cell? ((⟨Q + 1 + 1,0,none⟩ : Addr).add k) = some u) := fun o k u hu => by
   rw [← hs7]; exact cells_new _ _ _ k u hu
  have HB7 : Hid (∀ o : Obj,Below wr.heap.size wr (W7.alloc o)) := fun o => hb7.alloc hb7.size o
  rw [hfA] at c1
  obtain ⟨i0,hi0,hi1,hi2,hi3⟩ := info_parts info_cod
  clear hmd hup hbr hmi hbw hg hfA hfc hW7 hb7 hs7 hv7 hi7 hg' hcells hhd hnm
  go_wp2_with (at_builtin; refine wpList_append_lies _ rfl (.tmp 12) (.tmp 25) 23 rfl (N + 1) 50 i0 _ 8 128 Try.underlying23 hi0 hi1 hi2 hi3 rfl (by decide) (.slice fA fs.length fC) fs.length (fs.flatMap fun g => g.cells.toList) rfl (HOW.out _ (by have := HB7.out (.cells #[.string g.c.nm,.int .i64 0,.slice (some ⟨Q,0,none⟩) 1 1,.bool false,.string ⟨#[]⟩,.int .i64 0,.slice none 0 0,.slice (some ⟨Q + 1,0,none⟩) 2 2] 50); rw [← HW7.out] at this; exact this)) ⟨Q + 1 + 1,0,none⟩ 1 1 [.string g.c.nm,.int .i64 0,.slice (some ⟨Q,0,none⟩) 1 1,.bool false,.string ⟨#[]⟩,.int .i64 0,.slice none 0 0,.slice (some ⟨Q + 1,0,none⟩) 2 2] rfl rfl (by have := HCN.out [.string g.c.nm,.int .i64 0,.slice (some ⟨Q,0,none⟩) 1 1,.bool false,.string ⟨#[]⟩,.int .i64 0,.slice none 0 0,.slice (some ⟨Q + 1,0,none⟩) 2 2]; rw [← HW7.out] at this; exact this) (by simp [Value.oneCell']) (by decide) (by unfold maxLen; omega) (by omega) (by simp only [World.size_alloc]; omega) _ rfl ?_; intro g8 cap8 w8 hown8 hgrow8 hat8 hlt8; have HNX := Lib.hid (HSTEP.out g8 cap8 w8 _ hown8 (by rw [← HW7.out]; exact hgrow8) (by rw [← HW7.out]; exact hat8)); clear hown8 hgrow8 hat8 hlt8)
  go_roundw
  case rel => exact HNX.out
  case measure => simp [intOf]; omega
set_option maxRecDepth 100000 in
set_option maxHeartbeats 4000000 in
theorem named27_calls (m : Mo) (w : World) (hin : RightIn w m) (hF : rightF m = 0) : Calls Try.prog 21 #[.agg m.cells] w fun e w' => e = .returned (.bool (namesF m)) ∧ Below w.heap.size w w' := by
 obtain ⟨N,hN⟩ : ∃ N,w.heap.size = N := ⟨_,rfl⟩
 obtain ⟨W1,hW1⟩ : ∃ W1,w.alloc (.cells m.cells 25) = W1 := ⟨_,rfl⟩
 have hb1 : Below N w W1 := by rw [← hW1,← hN]; exact (Below.refl _ _).alloc (Nat.le_refl _) _
 have q1 : W1.heap[N]? = some (.cells m.cells 25 (0,0)) := by rw [← hW1,← hN]; exact alloc_at _ _
 have hs1 : W1.heap.size = N + 1 := by rw [← hW1]; simp [hN]
 obtain ⟨S,hS⟩ : ∃ S : World → Prop,S = Below W1.heap.size W1 := ⟨_,rfl⟩
 have HSB : Hid (∀ w',S w' ↔ Below W1.heap.size W1 w') := fun w' => by rw [hS]
 have HSN : Hid (∀ w',S w' → m.inn w' ∧ Below N w w' ∧ w'.heap[N]? = some (.cells m.cells 25 (0,0))) := fun w' h => by
  have h1 := (HSB.out w').1 h
  have h2 := hb1.trans (h1.mono (by omega))
  exact ⟨hin.mo.below (by rw [hN]; exact h2),h2,(h1.block N (by omega)).trans q1⟩
 have HSS : Hid (∀ w',S w' → w'.cell? ⟨N,0,none⟩ = some (.slice m.sA m.ss.length m.sC) ∧ True) := fun w' h => ⟨by rw [cell_of_row _ _ _ _ _ _ (HSN.out w' h).2.2]; rfl,trivial⟩
 have HSM : Hid (∀ w',S w' → ∀ k u,m.cells.toList[k]? = some u → w'.cell? ((⟨N,0,none⟩ : Addr).add k) = some u) := fun w' h k u hu => by
  rw [Addr.add_lit,Nat.zero_add,cell_of_row _ _ _ _ _ _ (HSN.out w' h).2.2]; simpa using hu
 have hS0 : S W1.drew := (HSB.out _).2 (Below.refl _ _).drew
 have hn90 : m.fs.length ≤ 90 := by have := (OkR.of hF).nf; omega
 have HHD := Lib.hid (heads_calls m W1.drew (HSN.out _ hS0).1 hn90)
 have HIN := Lib.hid hin
 have HF := Lib.hid hF
 have hW1' := hW1
 simp only [Mo.cells] at hW1'
 have HW1 := Lib.hid hW1'
 have HNN := Lib.hid hN
 obtain ⟨nf,hnf⟩ : ∃ b,namesF m = b := ⟨_,rfl⟩
 have HNF := Lib.hid hnf
 rw [hnf]
 simp only [Mo.cells]
 rw [hN]
 clear hnf hin hF hW1 hW1' hb1 q1 hs1 hS
 go_enter Try.func21,Try.ntmps21
 go_upto_region 1 with (fail)
 rw [HW1.out]
 clear hN HW1
 refine wp_region_J 5 S (by kernel_rfl) ?_
 refine wpAnyJ_take (i := 0) rfl (by kernel_rfl) (by kernel_rfl) (by kernel_rfl) (by kernel_rfl) (fun _ _ _ h => h) (Or.inl ⟨by rfl,fun w hSw => by obtain ⟨s1,s2⟩ := HSS.out w hSw; go_simp; try rfl⟩) (by assumption) ?_
 try go_simp
 refine wpAnyJ_take (i := 1) rfl (by kernel_rfl) (by kernel_rfl) (by kernel_rfl) (by kernel_rfl) (fun _ _ _ h => h) (Or.inl ⟨by rfl,fun w hSw => by obtain ⟨s1,s2⟩ := HSS.out w hSw; go_simp; try rfl⟩) (by assumption) ?_
 try go_simp
 refine wpAnyJ_take (i := 2) (v := .agg m.cells) rfl (by kernel_rfl) (by kernel_rfl) (by kernel_rfl) (by kernel_rfl) (fun _ _ _ h => h) (load_yields (by rfl) 25 _ rfl ⟨N,0,none⟩ rfl _ _ HSM.out Try.underlying25 rfl (by kernel_rfl)) (by assumption) ?_
 try go_simp
 refine wpAnyJ_one (i := 3) (by kernel_rfl) (by decide) rfl fun K' hK => ?_
 rw [if_pos (by rfl)]
 go_simp
 go_at_call 52
 refine HHD.out.mono ?_
 rintro e w2 ⟨h,hsA,hsC,rfl,hhi,hho,hb2⟩
 have hS2 : S w2 := (HSB.out _).2 (((HSB.out _).1 hS0).trans (hb2.mono ((HSB.out _).1 hS0).size))
 have hFO := heads_form HF.out hho
 have hRI : RightIn w2 h := by
  refine ⟨hhi,by rw [hho.ss]; exact HIN.out.sl,by rw [hho.len]; exact HIN.out.fl,by rw [hho.ss]; exact HIN.out.fd,fun g hg => ?_,fun g hg i hi => ?_⟩
  ·obtain ⟨nm,hd⟩ := hho.mem hg
   rw [hd.vs]; simp
  ·obtain ⟨nm,hd⟩ := hho.mem hg
   rw [hd.ins] at hi
   have e : i = alI 1 0 0 ∨ i = alI 18 0 0 := by simpa using hi
   rcases e with rfl | rfl <;> simp [alI]
 have hfm := formed20_calls h w2 hRI hFO
 have e1 : formF h = if nf = true then 0 else 3 := by unfold formF; rw [heads_names hho,HNF.out]
 rw [e1] at hfm
 simp only [Mo.cells] at hfm
 rw [hsA,hsC,hho.ss] at hfm
 have HFM := Lib.hid hfm
 obtain ⟨hA,hhA⟩ : ∃ z,h.fA = z := ⟨_,rfl⟩
 obtain ⟨hC,hhC⟩ : ∃ z,h.fC = z := ⟨_,rfl⟩
 obtain ⟨hL,hhL⟩ : ∃ z,h.fs.length = z := ⟨_,rfl⟩
 rw [hhA,hhC,hhL] at HFM ⊢
 clear hhi hho hb2 hFO hRI hfm e1 hsA hsC hhA hhC hhL HHD
 refine hK _ _ hS2 ?_
 clear hK
 try go_simp
 refine wpAnyJ_one (i := 4) (by kernel_rfl) (by decide) rfl fun K' hK => ?_
 rw [if_pos (by rfl)]
 go_simp
 refine hK _ _ hS2 ?_
 clear hK
 try go_simp
 refine wpAnyJ_k (by kernel_rfl) rfl fun K' hK => ?_
 rw [if_pos (by rfl)]
 go_simp
 go_at_call 22
 refine HFM.out.mono ?_
 rintro e w3 ⟨rfl,hb3⟩
 have HEND : Hid (Below N w w3) := by
  have hS3 : S w3 := (HSB.out _).2 (((HSB.out _).1 hS2).trans (hb3.mono ((HSB.out _).1 hS2).size))
  exact (HSN.out w3 hS3).2.1
 refine hK _ _ ?_
 clear hK hb3 HFM
 try go_simp
 refine wpAny_end 6 rfl (by kernel_rfl) (by kernel_rfl) (· = w3) rfl ?_
 dsimp only [List.drop]
 cases nf with
 | true =>
  repeat (go_big_quiet_step (fail))
  refine wpQuiet_nil ?_
  intro w9 hw9
  rw [hw9]
  clear hw9 w9
  go_wp2
  go_ret
  exact ⟨rfl,HEND.out⟩
 | false =>
  repeat (go_big_quiet_step (fail))
  refine wpQuiet_nil ?_
  intro w9 hw9
  rw [hw9]
  clear hw9 w9
  go_wp2
  go_ret
  exact ⟨rfl,HEND.out⟩
end Go.Proofs.Ytlggjbopfnndbaa
namespace Go.Proofs.Ytlggjbopfnndbaa
open Go.RowKit
theorem plOf_mem {m a : Mo} (h : PlOf m a) {g' : Fn} (hg : g' ∈ a.fs) : ∃ g ∈ m.fs,PlFn g g' := by
 obtain ⟨f,hf⟩ := List.mem_iff_getElem?.1 hg
 obtain ⟨g,hg,hp⟩ := h.fs f g' hf
 exact ⟨g,List.mem_of_getElem? hg,hp⟩
theorem plOf_md {md : Ins → List Int} {m a : Mo} (h : PlOf m a) (hd : MdAt md a) : ∀ g ∈ a.fs,∀ i ∈ g.c.ins,md i = [] := by
 intro g' hg i hi
 obtain ⟨g,_,hp⟩ := plOf_mem h hg
 obtain ⟨q,hq⟩ := List.mem_iff_getElem?.1 hi
 refine hd g' hg q i [] hq ?_
 rw [hp.mds,List.getElem?_map]
 have hl : q < g.c.ins.length := by
  have := (List.getElem?_eq_some_iff.1 hq).1
  rw [hp.ins,List.length_map] at this; exact this
 rw [List.getElem?_eq_getElem hl]; rfl
theorem plOf_fit {w : World} {m a : Mo} (hF : rightF m = 0) (hal : ∀ f ∈ m.fs,∀ i ∈ f.c.ins,i.args.length ≤ 40) (h : PlOf m a) (ha : a.inn w) : a.fitS (mdOf w) w := by
 have hok := OkR.of hF
 have hss := (right_parts hF).2.1
 have hmd := mdOf_mdAt ha
 refine ⟨ha,fun g' hg' => ?_,by rw [h.ss]; omega,by rw [h.len]; have := hok.nf; omega⟩
 obtain ⟨g,hgm,hp⟩ := plOf_mem h hg'
 obtain ⟨p0,p1,p2,p3⟩ := hok.fn g hgm
 have hgi := ha.fin g' hg'
 refine ⟨hgi,fun i hi => ?_,by rw [hp.frm]; simp,by rw [hp.vs,List.length_map]; omega,by rw [hp.ins,List.length_map]; omega,fun i hi => ?_⟩
 ·obtain ⟨q,hq⟩ := List.mem_iff_getElem?.1 hi
  obtain ⟨l,hl⟩ : ∃ l,g'.mds[q]? = some l := ⟨_,List.getElem?_eq_getElem (by rw [hgi.nmds]; exact (List.getElem?_eq_some_iff.1 hq).1)⟩
  obtain ⟨ao,cap,e1,e2⟩ := hgi.mds q i l hq hl
  exact mdOf_at ⟨l,ao,cap,e1,e2⟩
 ·have e := plOf_md h hmd g' hg' i hi
  rw [e]
  rw [hp.ins] at hi
  obtain ⟨j,hj,rfl⟩ := List.mem_map.1 hi
  have := hal g hgm j hj
  exact ⟨by show j.args.length ≤ 90000; omega,by simp⟩
theorem plSame {md : Ins → List Int} {m n a b : Mo} (H : RewOf m n) (h1 : PlOf n a) (h2 : PlOf m b) (ha : MdAt md a) (_ : MdAt md b) : sameM md a b = true := by
 obtain ⟨r1,r2,k,_,r4⟩ := H
 unfold sameM
 rw [h1.ss,h2.ss,r1,eqBy_self stSame_self,Bool.true_and]
 refine eqBy_iff.2 ⟨by rw [h1.len,h2.len,r2],fun f g1 g2 e1 e2 => ?_⟩
 obtain ⟨x,hx,px⟩ := h1.fs f g1 e1
 obtain ⟨y,hy,py⟩ := h2.fs f g2 e2
 obtain ⟨z,hz,R⟩ := r4 f y hy
 rw [hx] at hz
 obtain rfl := Option.some.inj hz
 have hins : g1.c.ins = g2.c.ins := by
  rw [px.ins,py.ins]
  refine List.ext_getElem? fun q => ?_
  rw [List.getElem?_map,List.getElem?_map]
  rcases Nat.lt_or_ge q y.c.ins.length with hq | hq
  ·obtain ⟨i,hi⟩ : ∃ i,y.c.ins[q]? = some i := ⟨_,List.getElem?_eq_getElem hq⟩
   obtain ⟨v,hv⟩ := R.ins q i hi
   rw [hi,hv]; rfl
  ·rw [List.getElem?_eq_none hq,List.getElem?_eq_none (by rw [R.len]; exact hq)]
 have hm1 := plOf_md h1 ha g1 (List.mem_of_getElem? e1)
 unfold sameC
 rw [px.nm,px.par,px.rp,px.rto,px.rcl,px.frm,px.vs,py.nm,py.par,py.rp,py.rto,py.rcl,py.frm,py.vs,R.nm,R.par,R.rp,R.rto,R.vs,hins,eqI_self,eqBy_self vrSame_self]
 have hin : eqBy (sameI md) g2.c.ins g2.c.ins = true := eqBy_self (fun i => by unfold sameI; simp [eqI_self]) _
 rw [hin]
 simp
end Go.Proofs.Ytlggjbopfnndbaa
