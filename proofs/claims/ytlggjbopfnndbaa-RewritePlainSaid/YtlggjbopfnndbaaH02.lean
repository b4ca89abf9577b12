import Derived.Test.YtlggjbopfnndbaaG34
import Derived.Test.YtlggjbopfnndbaaG19
import Derived.Test.YtlggjbopfnndbaaG52
import Derived.Test.YtlggjbopfnndbaaG39
import Derived.Test.YtlggjbopfnndbaaG55
namespace Go.Proofs.Ytlggjbopfnndbaa
open Go.RowKit
theorem okC_eq (v : Vr) : okC v = (v.ptr && decide (1 ≤ v.cls) && decide (v.cls ≤ 3) || !v.ptr && v.cls == 0) := by
 unfold okC
 cases v.ptr with
 | true =>
  rw [Bool.eq_iff_iff]
  simp
  omega
 | false =>
  rw [Bool.eq_iff_iff]
  simp
  omega
set_option maxRecDepth 100000 in
theorem rclassed_calls (v : Vr) (w : World) : Calls Try.prog 47 #[.agg v.cells] w fun e w' => e = .returned (.bool (okC v)) ∧ Below w.heap.size w w' := by
 obtain ⟨N,hN⟩ : ∃ N,w.heap.size = N := ⟨_,rfl⟩
 obtain ⟨W1,hW1⟩ : ∃ W1,w.alloc (.cells v.cells 47) = W1 := ⟨_,rfl⟩
 have hb1 : Below N w W1 := by rw [← hW1,← hN]; exact (Below.refl _ _).alloc (Nat.le_refl _) _
 have q1 : W1.heap[N]? = some (.cells v.cells 47 (0,0)) := by rw [← hW1,← hN]; exact alloc_at _ _
 have c0 : W1.cell? ⟨N,0,none⟩ = some (.bool v.ptr) := by rw [cell_of_row _ _ _ _ _ _ q1]; rfl
 have c2 : W1.cell? ⟨N,2,none⟩ = some (.int .i64 v.cls) := by rw [cell_of_row _ _ _ _ _ _ q1]; rfl
 obtain ⟨p,hp⟩ : ∃ p,v.ptr = p := ⟨_,rfl⟩
 obtain ⟨c,hc⟩ : ∃ c,v.cls = c := ⟨_,rfl⟩
 rw [okC_eq,hp,hc]
 rw [hp] at c0
 rw [hc] at c2
 simp only [Vr.cells] at hW1 ⊢
 have HW1 := Lib.hid hW1
 rw [hN]
 have HB := Lib.hid hb1
 clear hW1 q1 hp hc hb1
 go_enter Try.func47,Try.ntmps47
 go_upto_region 1 with (fail)
 rw [HW1.out]
 clear hN
 cases p with
 | false =>
  go_wp2
  go_ret
  exact ⟨by simp,HB.out⟩
 | true =>
  by_cases h1 : 1 ≤ c
  ·have d1 : decide (1 ≤ c) = true := decide_eq_true h1
   by_cases h3 : c ≤ 3
   ·have d3 : decide (c ≤ 3) = true := decide_eq_true h3
    go_wp2
    go_ret
    exact ⟨by simp [d1,d3],HB.out⟩
   ·have d3 : decide (c ≤ 3) = false := decide_eq_false h3
    go_wp2
    go_ret
    exact ⟨by simp,HB.out⟩
  ·have d1 : decide (1 ≤ c) = false := decide_eq_false h1
   go_wp2
   go_ret
   exact ⟨by simp,HB.out⟩
end Go.Proofs.Ytlggjbopfnndbaa
namespace Go.Proofs.Ytlggjbopfnndbaa
open Go.RowKit
theorem gives_one {w W w5 : World} {B g5 cap5 : Nat} {z : Int} {o : Obj} (hB : W.heap.size = B) (hb : Below w.heap.size w W) (h1 : w5.ownsRow B 3 1 (.slice (some ⟨g5,0,none⟩) 1 cap5) 1 [.int .i64 z]) (h2 : (W.alloc o).grownBy w5 (Value.slice none 0 0).ownBlock) :
  GivesI w [z] (.returned (.slice (some ⟨g5,0,none⟩) 1 cap5)) w5 := by
 have h3 : OwnI w5 B (.slice (some ⟨g5,0,none⟩) 1 cap5) [z] := h1
 refine ⟨_,_,rfl,h3.mono (by rw [← hB]; exact hb.size),hb.trans ((ext_grown (v := .slice none 0 0) ((Ext.refl _ _).alloc _) h2).below hb.size (fun k hk => ?_))⟩
 simp [Value.ownBlock] at hk
set_option maxRecDepth 100000 in
set_option maxHeartbeats 4000000 in
theorem rmode_9 (w : World) (m : Mo) (hm : m.inn w) (hok : OkR m) (f : Nat) (g : Fn) (hg : m.fs[f]? = some g) (i : Ins) (hi : i ∈ g.c.ins) (hop : i.op = 9) :
  Calls Try.prog 48 #[.agg m.cells,.agg g.cells,.agg i.cells] w (GivesI w (modesF m g i)) := by
 have hgm : g ∈ m.fs := List.mem_of_getElem? hg
 obtain ⟨p0,p1,p2,p3⟩ := hok.fn g hgm
 have hgi := hm.fin g hgm
 obtain ⟨⟨⟨a1,c1,e1⟩,a2,n2,c2,e2⟩,a3,c3,e3,har⟩ := hgi.code.args i hi
 obtain ⟨N,hN⟩ : ∃ N,w.heap.size = N := ⟨_,rfl⟩
 obtain ⟨W2,hW2⟩ : ∃ W2,((w.alloc (.cells m.cells 25)).alloc (.cells g.cells 50)).alloc (.cells i.cells 62) = W2 := ⟨_,rfl⟩
 obtain ⟨hb2,hs2,hr0,hr1,hr2⟩ := box3 hW2
 rw [hN] at hs2 hr0 hr1 hr2
 have hm2 := hm.below hb2
 obtain ⟨L,hL⟩ : ∃ L,modesF m g i = L := ⟨_,rfl⟩
 rw [hL]
 obtain ⟨B,hB⟩ : ∃ B,W2.heap.size = B := ⟨_,rfl⟩
 have HB2 := Lib.hid hb2
 have HB := Lib.hid hB
 obtain ⟨j0,hj0,hj1,hj2,hj3⟩ := info_parts info_int
 obtain ⟨hvd,_⟩ := hok.mv g hgm i hi (.inl hop)
 have HL : Hid (L = [clsAt g.vs i.d]) := by unfold Hid; rw [← hL]; unfold modesF; rw [if_pos (.inl hop)]
 clear hL
 obtain ⟨d,hd⟩ : ∃ d : Nat,i.d = (d : Int) := ⟨i.d.toNat,by have := isVarR_iff.1 hvd; omega⟩
 rw [hd] at hvd HL
 have hdl : d < g.vs.length := by have := (isVarR_iff.1 hvd).2; omega
 obtain ⟨x,hx⟩ : ∃ x,g.vs[d]? = some x := ⟨_,List.getElem?_eq_getElem hdl⟩
 have hcl : clsAt g.vs (d : Int) = x.cls := by unfold clsAt; rw [Int.toNat_natCast,hx]
 rw [hcl] at HL
 obtain ⟨vb,vo,hvA,hvb,hvc⟩ := (hm2.fin g hgm).vars (by intro e; rw [e] at hdl; simp at hdl)
 have q2 : W2.cell? ⟨vb,vo + d * 3 + 2,none⟩ = some (.int .i64 x.cls) := hvc d x hx 2 _ rfl
 have k2 : W2.cell? ⟨N + 1,2,none⟩ = some (.slice (some ⟨vb,vo,none⟩) g.vs.length g.c.varsC) := by rw [cell_of_row _ _ _ _ _ _ hr1,← hgi.nvars,← hvA]; rfl
 have i0 : W2.cell? ⟨N + 2,0,none⟩ = some (.int .i64 9) := by rw [cell_of_row _ _ _ _ _ _ hr2,← hop]; rfl
 have i1 : W2.cell? ⟨N + 2,1,none⟩ = some (.int .i64 (d : Int)) := by rw [cell_of_row _ _ _ _ _ _ hr2,← hd]; rfl
 have hdI : (d : Int) < (g.vs.length : Int) := by omega
 rw [HL.out]
 obtain ⟨xc,hxc⟩ : ∃ c,x.cls = c := ⟨_,rfl⟩
 rw [hxc] at q2 ⊢
 have HW2 := Lib.hid hW2
 simp only [Mo.cells,Fn.cells,Cod.cells,Ins.cells] at HW2 ⊢
 clear hm hok hg hgm hgi hi hm2 hr0 hr1 hr2 hb2 hW2 hvc hx hcl hop hvd hd e1 e2 e3 har HL hvA p0 p1 hxc hdl
 go_enter Try.func48,Try.ntmps48
 go_upto_region 1 with (fail)
 rw [HW2.out]
 clear HW2 hB hs2
 go_wp2_with (at_builtin; refine wpList_append_lies _ rfl _ _ 35 rfl B 3 j0 (.int .i64 0) 1 8 Try.underlying35 hj0 hj1 hj2 hj3 rfl (by decide) (.slice none 0 0) 0 [] rfl (ownsRow_below (World.ownsRow_nil _ _ _ _) ((Below.refl W2.heap.size W2).alloc (Nat.le_refl _) _)) ⟨W2.heap.size,0,none⟩ 1 1 [.int .i64 xc] rfl rfl (cells_new _ _ _) (by simp [Value.oneCell']) (by decide) (by unfold maxLen; omega) (by omega) (by rw [World.size_alloc]; have := HB.out; omega) _ rfl ?_; intro g5 cap5 w5 hown5 hgrow5 hat5 hlt5; have HR : Hid (GivesI w [xc] (.returned (.slice (some ⟨g5,0,none⟩) 1 cap5)) w5) := gives_one HB.out HB2.out hown5 hgrow5; clear hown5 hgrow5 hat5 hlt5)
 go_ret
 exact HR.out
set_option maxRecDepth 100000 in
set_option maxHeartbeats 4000000 in
theorem rmode_10 (w : World) (m : Mo) (hm : m.inn w) (hok : OkR m) (f : Nat) (g : Fn) (hg : m.fs[f]? = some g) (i : Ins) (hi : i ∈ g.c.ins) (hop : i.op = 10) :
  Calls Try.prog 48 #[.agg m.cells,.agg g.cells,.agg i.cells] w (GivesI w (modesF m g i)) := by
 have hgm : g ∈ m.fs := List.mem_of_getElem? hg
 obtain ⟨p0,p1,p2,p3⟩ := hok.fn g hgm
 have hgi := hm.fin g hgm
 obtain ⟨⟨⟨a1,c1,e1⟩,a2,n2,c2,e2⟩,a3,c3,e3,har⟩ := hgi.code.args i hi
 obtain ⟨N,hN⟩ : ∃ N,w.heap.size = N := ⟨_,rfl⟩
 obtain ⟨W2,hW2⟩ : ∃ W2,((w.alloc (.cells m.cells 25)).alloc (.cells g.cells 50)).alloc (.cells i.cells 62) = W2 := ⟨_,rfl⟩
 obtain ⟨hb2,hs2,hr0,hr1,hr2⟩ := box3 hW2
 rw [hN] at hs2 hr0 hr1 hr2
 have hm2 := hm.below hb2
 obtain ⟨L,hL⟩ : ∃ L,modesF m g i = L := ⟨_,rfl⟩
 rw [hL]
 obtain ⟨B,hB⟩ : ∃ B,W2.heap.size = B := ⟨_,rfl⟩
 have HB2 := Lib.hid hb2
 have HB := Lib.hid hB
 obtain ⟨j0,hj0,hj1,hj2,hj3⟩ := info_parts info_int
 obtain ⟨hvd,_⟩ := hok.mv g hgm i hi (.inr hop)
 have HL : Hid (L = [clsAt g.vs i.d]) := by unfold Hid; rw [← hL]; unfold modesF; rw [if_pos (.inr hop)]
 clear hL
 obtain ⟨d,hd⟩ : ∃ d : Nat,i.d = (d : Int) := ⟨i.d.toNat,by have := isVarR_iff.1 hvd; omega⟩
 rw [hd] at hvd HL
 have hdl : d < g.vs.length := by have := (isVarR_iff.1 hvd).2; omega
 obtain ⟨x,hx⟩ : ∃ x,g.vs[d]? = some x := ⟨_,List.getElem?_eq_getElem hdl⟩
 have hcl : clsAt g.vs (d : Int) = x.cls := by unfold clsAt; rw [Int.toNat_natCast,hx]
 rw [hcl] at HL
 obtain ⟨vb,vo,hvA,hvb,hvc⟩ := (hm2.fin g hgm).vars (by intro e; rw [e] at hdl; simp at hdl)
 have q2 : W2.cell? ⟨vb,vo + d * 3 + 2,none⟩ = some (.int .i64 x.cls) := hvc d x hx 2 _ rfl
 have k2 : W2.cell? ⟨N + 1,2,none⟩ = some (.slice (some ⟨vb,vo,none⟩) g.vs.length g.c.varsC) := by rw [cell_of_row _ _ _ _ _ _ hr1,← hgi.nvars,← hvA]; rfl
 have i0 : W2.cell? ⟨N + 2,0,none⟩ = some (.int .i64 10) := by rw [cell_of_row _ _ _ _ _ _ hr2,← hop]; rfl
 have i1 : W2.cell? ⟨N + 2,1,none⟩ = some (.int .i64 (d : Int)) := by rw [cell_of_row _ _ _ _ _ _ hr2,← hd]; rfl
 have hdI : (d : Int) < (g.vs.length : Int) := by omega
 rw [HL.out]
 obtain ⟨xc,hxc⟩ : ∃ c,x.cls = c := ⟨_,rfl⟩
 rw [hxc] at q2 ⊢
 have HW2 := Lib.hid hW2
 simp only [Mo.cells,Fn.cells,Cod.cells,Ins.cells] at HW2 ⊢
 clear hm hok hg hgm hgi hi hm2 hr0 hr1 hr2 hb2 hW2 hvc hx hcl hop hvd hd e1 e2 e3 har HL hvA p0 p1 hxc hdl
 go_enter Try.func48,Try.ntmps48
 go_upto_region 1 with (fail)
 rw [HW2.out]
 clear HW2 hB hs2
 go_wp2_with (at_builtin; refine wpList_append_lies _ rfl _ _ 35 rfl B 3 j0 (.int .i64 0) 1 8 Try.underlying35 hj0 hj1 hj2 hj3 rfl (by decide) (.slice none 0 0) 0 [] rfl (ownsRow_below (World.ownsRow_nil _ _ _ _) ((Below.refl W2.heap.size W2).alloc (Nat.le_refl _) _)) ⟨W2.heap.size,0,none⟩ 1 1 [.int .i64 xc] rfl rfl (cells_new _ _ _) (by simp [Value.oneCell']) (by decide) (by unfold maxLen; omega) (by omega) (by rw [World.size_alloc]; have := HB.out; omega) _ rfl ?_; intro g5 cap5 w5 hown5 hgrow5 hat5 hlt5; have HR : Hid (GivesI w [xc] (.returned (.slice (some ⟨g5,0,none⟩) 1 cap5)) w5) := gives_one HB.out HB2.out hown5 hgrow5; clear hown5 hgrow5 hat5 hlt5)
 go_ret
 exact HR.out
set_option maxRecDepth 100000 in
set_option maxHeartbeats 4000000 in
theorem rmode_18 (w : World) (m : Mo) (hm : m.inn w) (hok : OkR m) (f : Nat) (g : Fn) (hg : m.fs[f]? = some g) (i : Ins) (hi : i ∈ g.c.ins) (hop : i.op = 18) :
  Calls Try.prog 48 #[.agg m.cells,.agg g.cells,.agg i.cells] w (GivesI w (modesF m g i)) := by
 have hgm : g ∈ m.fs := List.mem_of_getElem? hg
 obtain ⟨p0,p1,p2,p3⟩ := hok.fn g hgm
 have hgi := hm.fin g hgm
 obtain ⟨⟨⟨a1,c1,e1⟩,a2,n2,c2,e2⟩,a3,c3,e3,har⟩ := hgi.code.args i hi
 obtain ⟨N,hN⟩ : ∃ N,w.heap.size = N := ⟨_,rfl⟩
 obtain ⟨W2,hW2⟩ : ∃ W2,((w.alloc (.cells m.cells 25)).alloc (.cells g.cells 50)).alloc (.cells i.cells 62) = W2 := ⟨_,rfl⟩
 obtain ⟨hb2,hs2,hr0,hr1,hr2⟩ := box3 hW2
 rw [hN] at hs2 hr0 hr1 hr2
 have hm2 := hm.below hb2
 obtain ⟨L,hL⟩ : ∃ L,modesF m g i = L := ⟨_,rfl⟩
 rw [hL]
 obtain ⟨B,hB⟩ : ∃ B,W2.heap.size = B := ⟨_,rfl⟩
 have HB2 := Lib.hid hb2
 have HB := Lib.hid hB
 obtain ⟨j0,hj0,hj1,hj2,hj3⟩ := info_parts info_int
 have HL : Hid (L = if g.c.rp = true then [g.c.rcl] else []) := by unfold Hid; rw [← hL]; unfold modesF; rw [if_neg (by omega),if_pos hop]
 clear hL
 have k3 : W2.cell? ⟨N + 1,3,none⟩ = some (.bool g.c.rp) := by rw [cell_of_row _ _ _ _ _ _ hr1]; rfl
 have k5 : W2.cell? ⟨N + 1,5,none⟩ = some (.int .i64 g.c.rcl) := by rw [cell_of_row _ _ _ _ _ _ hr1]; rfl
 have i0 : W2.cell? ⟨N + 2,0,none⟩ = some (.int .i64 18) := by rw [cell_of_row _ _ _ _ _ _ hr2,← hop]; rfl
 rw [HL.out]
 obtain ⟨xc,hxc⟩ : ∃ c,g.c.rcl = c := ⟨_,rfl⟩
 rw [hxc] at k5 ⊢
 obtain ⟨pb,hpb⟩ : ∃ c,g.c.rp = c := ⟨_,rfl⟩
 rw [hpb] at k3 ⊢
 have HW2 := Lib.hid hW2
 simp only [Mo.cells,Fn.cells,Cod.cells,Ins.cells] at HW2 ⊢
 clear hm hok hg hgm hgi hi hm2 hr0 hr1 hr2 hb2 hW2 hop e1 e2 e3 har HL p0 p1 hxc hpb
 go_enter Try.func48,Try.ntmps48
 go_upto_region 1 with (fail)
 rw [HW2.out]
 clear HW2 hB hs2
 cases pb with
 | true =>
  go_wp2_with (at_builtin; refine wpList_append_lies _ rfl _ _ 35 rfl B 3 j0 (.int .i64 0) 1 8 Try.underlying35 hj0 hj1 hj2 hj3 rfl (by decide) (.slice none 0 0) 0 [] rfl (ownsRow_below (World.ownsRow_nil _ _ _ _) ((Below.refl W2.heap.size W2).alloc (Nat.le_refl _) _)) ⟨W2.heap.size,0,none⟩ 1 1 [.int .i64 xc] rfl rfl (cells_new _ _ _) (by simp [Value.oneCell']) (by decide) (by unfold maxLen; omega) (by omega) (by rw [World.size_alloc]; have := HB.out; omega) _ rfl ?_; intro g5 cap5 w5 hown5 hgrow5 hat5 hlt5; have HR : Hid (GivesI w [xc] (.returned (.slice (some ⟨g5,0,none⟩) 1 cap5)) w5) := gives_one HB.out HB2.out hown5 hgrow5; clear hown5 hgrow5 hat5 hlt5)
  go_ret
  exact HR.out
 | false =>
  go_wp2
  go_ret
  exact ⟨none,0,rfl,OwnI.nil _ _,HB2.out⟩
set_option maxRecDepth 100000 in
set_option maxHeartbeats 4000000 in
theorem rmode_15 (w : World) (m : Mo) (hm : m.inn w) (hok : OkR m) (f : Nat) (g : Fn) (hg : m.fs[f]? = some g) (i : Ins) (hi : i ∈ g.c.ins) (hop : i.op = 15) :
  Calls Try.prog 48 #[.agg m.cells,.agg g.cells,.agg i.cells] w (GivesI w (modesF m g i)) := by
 have hgm : g ∈ m.fs := List.mem_of_getElem? hg
 obtain ⟨p0,p1,p2,p3⟩ := hok.fn g hgm
 have hgi := hm.fin g hgm
 obtain ⟨⟨⟨a1,c1,e1⟩,a2,n2,c2,e2⟩,a3,c3,e3,har⟩ := hgi.code.args i hi
 obtain ⟨N,hN⟩ : ∃ N,w.heap.size = N := ⟨_,rfl⟩
 obtain ⟨W2,hW2⟩ : ∃ W2,((w.alloc (.cells m.cells 25)).alloc (.cells g.cells 50)).alloc (.cells i.cells 62) = W2 := ⟨_,rfl⟩
 obtain ⟨hb2,hs2,hr0,hr1,hr2⟩ := box3 hW2
 rw [hN] at hs2 hr0 hr1 hr2
 have hm2 := hm.below hb2
 obtain ⟨L,hL⟩ : ∃ L,modesF m g i = L := ⟨_,rfl⟩
 rw [hL]
 obtain ⟨B,hB⟩ : ∃ B,W2.heap.size = B := ⟨_,rfl⟩
 have HB2 := Lib.hid hb2
 have HB := Lib.hid hB
 obtain ⟨j0,hj0,hj1,hj2,hj3⟩ := info_parts info_int
 obtain ⟨_,_,hf0,h,hgh,hlen⟩ := hok.call g hgm i hi hop
 obtain ⟨r0,r1,r2,_⟩ := hok.fn h (List.mem_of_getElem? hgh)
 have HL : Hid (L = (h.vs.take i.args.length).map (fun x => x.cls)) := by unfold Hid; rw [← hL]; unfold modesF; rw [if_neg (by omega),if_neg (by omega),if_pos hop,hgh]
 clear hL
 obtain ⟨y,hy⟩ : ∃ y : Nat,i.f = (y : Int) := ⟨i.f.toNat,by omega⟩
 rw [hy,Int.toNat_natCast] at hgh
 have hyl : y < m.fs.length := (List.getElem?_eq_some_iff.1 hgh).1
 obtain ⟨fb,fo,hfA,hfb,hfc⟩ := hm2.frow (by intro e; rw [e] at hyl; simp at hyl)
 have k1 : W2.cell? ⟨N,1,none⟩ = some (.slice (some ⟨fb,fo,none⟩) m.fs.length m.fC) := by rw [cell_of_row _ _ _ _ _ _ hr0,← hfA]; rfl
 have i0 : W2.cell? ⟨N + 2,0,none⟩ = some (.int .i64 15) := by rw [cell_of_row _ _ _ _ _ _ hr2,← hop]; rfl
 have i4 : W2.cell? ⟨N + 2,4,none⟩ = some (.int .i64 (y : Int)) := by rw [cell_of_row _ _ _ _ _ _ hr2,← hy]; rfl
 have i7 : W2.cell? ⟨N + 2,7,none⟩ = some (.slice a3 i.args.length c3) := by rw [cell_of_row _ _ _ _ _ _ hr2,← e3]; rfl
 have hyI : (y : Int) < (m.fs.length : Int) := by omega
 have hn60 := hok.nf
 have hal : i.args.length ≤ h.vs.length := by omega
 have hal3 : i.args.length ≤ 300 := by omega
 have HK : Hid (∀ W,Below B W2 W → W.cell? ⟨N,1,none⟩ = some (.slice (some ⟨fb,fo,none⟩) m.fs.length m.fC) ∧ W.cell? ⟨N + 2,4,none⟩ = some (.int .i64 (y : Int)) ∧ W.cell? ⟨N + 2,7,none⟩ = some (.slice a3 i.args.length c3) ∧
   ∀ k,k < h.vs.length → ∃ (vb vo : Nat) (x : Vr),h.vs[k]? = some x ∧ W.cell? ⟨fb,fo + y * 8 + 2,none⟩ = some (.slice (some ⟨vb,vo,none⟩) h.vs.length h.c.varsC) ∧ W.cell? ⟨vb,vo + k * 3 + 2,none⟩ = some (.int .i64 x.cls)) := by
  intro W hW
  refine ⟨?_,?_,?_,fun k hk => ?_⟩
  ·rw [hW.cell (p := ⟨N,1,none⟩) (by show N < _; omega)]; exact k1
  ·rw [hW.cell (p := ⟨N + 2,4,none⟩) (by show N + 2 < _; omega)]; exact i4
  ·rw [hW.cell (p := ⟨N + 2,7,none⟩) (by show N + 2 < _; omega)]; exact i7
  ·obtain ⟨x,hx⟩ : ∃ x,h.vs[k]? = some x := ⟨_,List.getElem?_eq_getElem hk⟩
   have hhi := hm2.fin h (List.mem_of_getElem? hgh)
   obtain ⟨vb,vo,hvA,hvb,hvc⟩ := hhi.vars (by intro e; rw [e] at hk; simp at hk)
   refine ⟨vb,vo,x,hx,?_,?_⟩
   ·rw [hW.cell (p := ⟨fb,_,none⟩) (by rw [← hB]; exact hfb),hfc y h hgh 2 _ rfl,hhi.nvars,hvA]
   ·rw [hW.cell (p := ⟨vb,_,none⟩) (by rw [← hB]; exact hvb)]; exact hvc k x hx 2 _ rfl
 have HHL : Hid (h.vs.length ≤ 300) := r2
 have HW2 := Lib.hid hW2
 simp only [Mo.cells,Fn.cells,Cod.cells,Ins.cells] at HW2 ⊢
 clear hm hok hg hgm hgi hi hm2 hr0 hr1 hr2 hb2 hW2 hop e1 e2 e3 har p0 p1 r0 r1 r2 hgh hfc hfA hy hlen hf0
 go_enter Try.func48,Try.ntmps48
 go_upto_region 1 with (fail)
 rw [HW2.out]
 clear HW2
 go_wp2_with fail
 clear i0 i7 k1 i4
 go_loopw [7,8] (fun v c wr => ∃ j : Nat,j ≤ i.args.length ∧ c = .int .i64 (j : Int) ∧ OwnI wr B v ((h.vs.take j).map (fun x => x.cls)) ∧ Below B W2 wr) (fun _ c _ => i.args.length - (intOf c).toNat)
 case atStart => exact ⟨0,Nat.zero_le _,rfl,OwnI.nil _ _,Below.refl _ _⟩
 case round =>
  obtain ⟨j,hj,rfl,hown,hb⟩ := hrel
  obtain ⟨k1,i4,i7,hk⟩ := HK.out wr hb
  by_cases hjl : j < i.args.length
  ·have hjI : (j : Int) < (i.args.length : Int) := by omega
   obtain ⟨vb,vo,x,hx,k2,kx⟩ := hk j (by omega)
   have hjh : (j : Int) < (h.vs.length : Int) := by omega
   have hHL := HHL.out
   have hl : ((h.vs.take j).map (fun x => x.cls)).length = j := by rw [List.length_map,List.length_take]; omega
   have hsz : B ≤ wr.heap.size := by have := hb.size; rw [HB.out] at this; exact this
   obtain ⟨ao,cap,e⟩ := hown.isSlice
   subst e
   have HOW : Hid (wr.ownsRow B 3 1 (.slice ao ((h.vs.take j).map (fun x => x.cls)).length cap) j (((h.vs.take j).map (fun x => x.cls)).map (Value.int .i64))) := by
    have h9 := hown; unfold OwnI at h9; rw [hl] at h9; unfold Hid; rw [hl]; exact h9
   rw [hl] at HOW ⊢
   have HB1 := Lib.hid hb
   have HSTEP : Hid (∀ g5 cap5 w5,w5.ownsRow B 3 1 (.slice (some ⟨g5,0,none⟩) (j + 1) cap5) (j + 1) (((h.vs.take j).map (fun x => x.cls)).map (Value.int .i64) ++ [.int .i64 x.cls]) → (wr.alloc (.cells #[.int .i64 x.cls] 3)).grownBy w5 (Value.slice ao j cap).ownBlock →
     OwnI w5 B (.slice (some ⟨g5,0,none⟩) (j + 1) cap5) ((h.vs.take (j + 1)).map (fun x => x.cls)) ∧ Below B W2 w5) := by
    intro g5 cap5 w5 h1 h2
    refine ⟨?_,?_⟩
    ·unfold OwnI
     rw [take_snocI hx,List.map_append,List.length_append,hl,List.map_append]
     exact h1
    ·exact HB1.out.trans ((ext_grown (v := .slice ao j cap) ((Ext.refl _ _).alloc _) h2).below hsz (fun k hk => (HOW.out.lt k hk).1))
   clear hown hb hk hx hl
   go_wp2_with (at_builtin; refine wpList_append_lies _ rfl _ _ 35 rfl B 3 j0 (.int .i64 0) 1 8 Try.underlying35 hj0 hj1 hj2 hj3 rfl (by decide) (.slice ao j cap) j (((h.vs.take j).map (fun x => x.cls)).map (Value.int .i64)) rfl (ownsRow_below HOW.out ((Below.refl wr.heap.size wr).alloc (Nat.le_refl _) _)) ⟨wr.heap.size,0,none⟩ 1 1 [.int .i64 x.cls] rfl rfl (cells_new _ _ _) (by simp [Value.oneCell']) (by decide) (by unfold maxLen; omega) (by omega) (by rw [World.size_alloc]; omega) _ rfl ?_; intro g5 cap5 w5 hown5 hgrow5 hat5 hlt5; have HN := Lib.hid (HSTEP.out g5 cap5 w5 hown5 hgrow5); clear hown5 hgrow5 hat5 hlt5)
   go_roundw
   case rel => exact ⟨j + 1,by omega,by go_num,HN.out.1,HN.out.2⟩
   case measure => simp [intOf]; omega
  ·have hje : j = i.args.length := by omega
   subst hje
   rw [← HL.out] at hown
   obtain ⟨ao,cap,e⟩ := hown.isSlice
   subst e
   have HO : Hid (GivesI w L (.returned (.slice ao L.length cap)) wr) := ⟨_,_,rfl,hown.mono (by rw [← HB.out]; exact HB2.out.size),HB2.out.trans (hb.mono (by rw [← HB.out]; exact HB2.out.size))⟩
   clear hown hb hk
   go_wp2
   go_ret
   exact HO.out
set_option maxRecDepth 100000 in
set_option maxHeartbeats 4000000 in
theorem rmode_none (w : World) (m : Mo) (hm : m.inn w) (hok : OkR m) (f : Nat) (g : Fn) (hg : m.fs[f]? = some g) (i : Ins) (hi : i ∈ g.c.ins) (h9 : i.op ≠ 9) (h10 : i.op ≠ 10) (h15 : i.op ≠ 15) (h18 : i.op ≠ 18) :
  Calls Try.prog 48 #[.agg m.cells,.agg g.cells,.agg i.cells] w (GivesI w (modesF m g i)) := by
 have hgm : g ∈ m.fs := List.mem_of_getElem? hg
 obtain ⟨p0,p1,p2,p3⟩ := hok.fn g hgm
 have hgi := hm.fin g hgm
 obtain ⟨⟨⟨a1,c1,e1⟩,a2,n2,c2,e2⟩,a3,c3,e3,har⟩ := hgi.code.args i hi
 obtain ⟨N,hN⟩ : ∃ N,w.heap.size = N := ⟨_,rfl⟩
 obtain ⟨W2,hW2⟩ : ∃ W2,((w.alloc (.cells m.cells 25)).alloc (.cells g.cells 50)).alloc (.cells i.cells 62) = W2 := ⟨_,rfl⟩
 obtain ⟨hb2,hs2,hr0,hr1,hr2⟩ := box3 hW2
 rw [hN] at hs2 hr0 hr1 hr2
 have hm2 := hm.below hb2
 obtain ⟨L,hL⟩ : ∃ L,modesF m g i = L := ⟨_,rfl⟩
 rw [hL]
 obtain ⟨B,hB⟩ : ∃ B,W2.heap.size = B := ⟨_,rfl⟩
 have HB2 := Lib.hid hb2
 have HB := Lib.hid hB
 obtain ⟨j0,hj0,hj1,hj2,hj3⟩ := info_parts info_int
 have HL : Hid (L = []) := by unfold Hid; rw [← hL]; unfold modesF; rw [if_neg (by omega),if_neg h18,if_neg h15]
 clear hL
 have i0 : W2.cell? ⟨N + 2,0,none⟩ = some (.int .i64 i.op) := by rw [cell_of_row _ _ _ _ _ _ hr2]; rfl
 obtain ⟨oo,hoo⟩ : ∃ o,i.op = o := ⟨_,rfl⟩
 rw [hoo] at i0 h9 h10 h15 h18
 have d9 : (oo == 9) = false := beq_eq_false_iff_ne.2 h9
 have d10 : (oo == 10) = false := beq_eq_false_iff_ne.2 h10
 have d15 : (oo == 15) = false := beq_eq_false_iff_ne.2 h15
 have d18 : (oo == 18) = false := beq_eq_false_iff_ne.2 h18
 rw [HL.out]
 have HW2 := Lib.hid hW2
 simp only [Mo.cells,Fn.cells,Cod.cells,Ins.cells] at HW2 ⊢
 clear hm hok hg hgm hgi hi hm2 hr0 hr1 hr2 hb2 hW2 e1 e2 e3 har HL p0 p1 hoo h9 h10 h15 h18
 go_enter Try.func48,Try.ntmps48
 go_upto_region 1 with (fail)
 rw [HW2.out]
 clear HW2
 go_wp2
 go_ret
 exact ⟨none,0,rfl,OwnI.nil _ _,HB2.out⟩
theorem rmode_calls (w : World) (m : Mo) (hm : m.inn w) (hok : OkR m) (f : Nat) (g : Fn) (hg : m.fs[f]? = some g) (i : Ins) (hi : i ∈ g.c.ins) :
  Calls Try.prog 48 #[.agg m.cells,.agg g.cells,.agg i.cells] w (GivesI w (modesF m g i)) := by
 by_cases h9 : i.op = 9
 ·exact rmode_9 w m hm hok f g hg i hi h9
 by_cases h10 : i.op = 10
 ·exact rmode_10 w m hm hok f g hg i hi h10
 by_cases h15 : i.op = 15
 ·exact rmode_15 w m hm hok f g hg i hi h15
 by_cases h18 : i.op = 18
 ·exact rmode_18 w m hm hok f g hg i hi h18
 exact rmode_none w m hm hok f g hg i hi h9 h10 h15 h18
end Go.Proofs.Ytlggjbopfnndbaa
namespace Go.Proofs.Ytlggjbopfnndbaa
open Go.RowKit
set_option maxRecDepth 100000 in
set_option maxHeartbeats 16000000 in
theorem rMode_calls (m : Mo) (w : World) (hin : RightIn w m) (f a : Int) : Calls Try.prog 20 #[.agg m.cells,.int .i64 f,.int .i64 a] w (GivesI w (modeF m f a)) := by
 have HIN := Lib.hid hin
 obtain ⟨N,hN⟩ : ∃ N,w.heap.size = N := ⟨_,rfl⟩
 obtain ⟨W2,hW2⟩ : ∃ W2,w.alloc (.cells m.cells 25) = W2 := ⟨_,rfl⟩
 have hb2 : Below N w W2 := by rw [← hW2,← hN]; exact (Below.refl _ _).alloc (Nat.le_refl _) _
 have hs2 : W2.heap.size = N + 1 := by rw [← hW2]; simp [hN]
 have hr1 : W2.heap[N]? = some (.cells m.cells 25 (0,0)) := by rw [← hW2,← hN]; exact alloc_at _ _
 have hin2 := hin.below (by rw [hN]; exact hb2)
 have HRI := Lib.hid (refRight_calls m W2 hin2)
 have HK : Hid (∀ W,Below W2.heap.size W2 W → W.cell? ⟨N,0,none⟩ = some (.slice m.sA m.ss.length m.sC) ∧ W.cell? ⟨N,1,none⟩ = some (.slice m.fA m.fs.length m.fC) ∧ Below N w W ∧ m.inn W) := fun W hW => by
  have h1 := (hW.block N (by omega)).trans hr1
  have h2 := hb2.trans (hW.mono (by omega))
  exact ⟨by rw [cell_of_row _ _ _ _ _ _ h1]; rfl,by rw [cell_of_row _ _ _ _ _ _ h1]; rfl,h2,hin.mo.below (by rw [hN]; exact h2)⟩
 obtain ⟨c0,c1,_,_⟩ := HK.out W2 (Below.refl _ _)
 obtain ⟨L,hL⟩ : ∃ L,modeF m f a = L := ⟨_,rfl⟩
 rw [hL]
 have HNIL : Hid (∀ W,Below W2.heap.size W2 W → L = [] → GivesI w L (.returned (.slice none 0 0)) W) := by
  intro W hW e
  rw [e]
  exact ⟨none,0,rfl,OwnI.nil _ _,by rw [hN]; exact (HK.out W hW).2.2.1⟩
 have HL := Lib.hid hL
 have hW2' := hW2
 simp only [Mo.cells] at hW2' HRI
 have HW2 := Lib.hid hW2'
 have HS2 := Lib.hid hs2
 have HB2 := Lib.hid hb2
 have HN := Lib.hid hN
 simp only [Mo.cells]
 clear hin hin2 hW2 hW2' hb2 hs2 hr1 hL
 go_enter Try.func20,Try.ntmps20
 go_upto_region 1 with (fail)
 rw [HW2.out]
 go_wp2_with fail
 go_at_call 24
 refine HRI.out.mono ?_
 rintro e w3 ⟨rfl,hb3⟩
 obtain ⟨F,hF⟩ : ∃ F,rightF m = F := ⟨_,rfl⟩
 rw [hF]
 clear c0 c1
 obtain ⟨c0,c1,hbw,hmi⟩ := HK.out w3 hb3
 by_cases h0 : F = 0
 rotate_left
 ·have d0 : (F != 0) = true := by rw [bne_iff_ne]; exact h0
  have HR := Lib.hid (HNIL.out w3 hb3 (by rw [← HL.out]; unfold modeF; rw [if_neg (by rw [hF]; omega)]))
  clear hbw hmi hb3 hF h0
  go_wp2
  go_ret
  exact HR.out
 subst h0
 have d0 : ((0 : Int) != 0) = false := rfl
 by_cases h1 : f < 0
 ·have HR := Lib.hid (HNIL.out w3 hb3 (by rw [← HL.out]; unfold modeF; rw [if_neg (by omega)]))
  clear hbw hmi hb3 hF
  go_wp2
  go_ret
  exact HR.out
 obtain ⟨f,rfl⟩ : ∃ n : Nat,f = (n : Int) := ⟨f.toNat,by omega⟩
 clear h1
 by_cases h2 : f < m.fs.length
 rotate_left
 ·have h2I : (m.fs.length : Int) ≤ (f : Int) := by omega
  have HR := Lib.hid (HNIL.out w3 hb3 (by rw [← HL.out]; unfold modeF; rw [Int.toNat_natCast,List.getElem?_eq_none (by omega)]; split <;> rfl))
  clear hbw hmi hb3 hF
  go_wp2
  go_ret
  exact HR.out
 have h2I : (f : Int) < (m.fs.length : Int) := by omega
 by_cases h3 : a < 0
 ·have HR := Lib.hid (HNIL.out w3 hb3 (by rw [← HL.out]; unfold modeF; rw [if_neg (by omega)]))
  clear hbw hmi hb3 hF
  go_wp2
  go_ret
  exact HR.out
 obtain ⟨a,rfl⟩ : ∃ n : Nat,a = (n : Int) := ⟨a.toNat,by omega⟩
 clear h3
 obtain ⟨g,hg⟩ : ∃ g,m.fs[f]? = some g := ⟨_,List.getElem?_eq_getElem h2⟩
 have hgm := List.mem_of_getElem? hg
 obtain ⟨fb,fo,hfA,hfb,hfc⟩ := hmi.frow (by intro e; rw [e] at h2; simp at h2)
 have e7 := hfc f g hg 7 _ rfl
 by_cases h4 : a < g.c.ins.length
 rotate_left
 ·have h4I : (g.c.ins.length : Int) ≤ (a : Int) := by omega
  have HR := Lib.hid (HNIL.out w3 hb3 (by rw [← HL.out]; unfold modeF; rw [Int.toNat_natCast,hg,Int.toNat_natCast]; dsimp only; rw [List.getElem?_eq_none (by omega)]; split <;> rfl))
  rw [hfA] at c1 ⊢
  clear hbw hmi hb3 hF hg hfc
  go_wp2
  go_ret
  exact HR.out
 have h4I : (a : Int) < (g.c.ins.length : Int) := by omega
 obtain ⟨i,hi⟩ : ∃ i,g.c.ins[a]? = some i := ⟨_,List.getElem?_eq_getElem h4⟩
 obtain ⟨b2,o2,hA2,hb2,hc2⟩ := (hmi.fin g hgm).code.row (by intro e; rw [e] at h4; simp at h4)
 have HOK := Lib.hid (OkR.of hF)
 have HMO : Hid (∀ p : BW w3,Calls Try.prog 48 #[.agg m.cells,.agg g.cells,.agg i.cells] p.w (GivesI p.w (modesF m g i))) := fun p =>
  rmode_calls p.w m (HK.out p.w (hb3.trans (p.h.mono hb3.size))).2.2.2 HOK.out f g hg i (List.mem_of_getElem? hi)
 have HLE : Hid (modesF m g i = L) := by rw [← HL.out]; unfold modeF; rw [if_pos ⟨hF,by omega,by omega⟩,Int.toNat_natCast,hg,Int.toNat_natCast]; dsimp only; rw [hi]; exact Lib.hid rfl
 rw [HLE.out] at HMO
 have HGL : Hid (∀ (p : BW w3) (k : Nat) (u : Value),(#[.string g.c.nm,.int .i64 g.c.par,.slice g.c.varsA g.c.nvars g.c.varsC,.bool g.c.rp,.string g.c.rto,.int .i64 g.c.rcl,.slice g.c.fromA g.c.nfrom g.c.fromC,.slice g.c.insA g.c.ins.length g.c.insC] : Array Value).toList[k]? = some u → p.w.cell? ((⟨fb,fo + f * 8,none⟩ : Addr).add k) = some u) := fun p k u hu => by
  obtain ⟨fb',fo',hfA',_,hfc'⟩ := (HK.out p.w (hb3.trans (p.h.mono hb3.size))).2.2.2.frow (by intro e; rw [e] at h2; simp at h2)
  rw [hfA] at hfA'
  simp only [Option.some.injEq,Addr.mk.injEq,and_true] at hfA'
  rw [Addr.add_lit,hfA'.1,hfA'.2]; exact hfc' f g hg k u hu
 have HIL : Hid (∀ (p : BW w3) k u,i.cells.toList[k]? = some u → p.w.cell? ((⟨b2,o2 + a * 13,none⟩ : Addr).add k) = some u) := fun p k u hu => by
  obtain ⟨fb',fo',hfA',_,hfc'⟩ := ((HK.out p.w (hb3.trans (p.h.mono hb3.size))).2.2.2.fin g hgm).code.row (by intro e; rw [e] at h4; simp at h4)
  rw [hA2] at hfA'
  simp only [Option.some.injEq,Addr.mk.injEq,and_true] at hfA'
  rw [Addr.add_lit,hfA'.1,hfA'.2]; exact hfc' a i hi k u hu
 have m0 : ∀ p : BW w3,p.w.cell? ⟨N,0,none⟩ = some (.slice m.sA m.ss.length m.sC) := fun p => (HK.out p.w (hb3.trans (p.h.mono hb3.size))).1
 have m1 : ∀ p : BW w3,p.w.cell? ⟨N,1,none⟩ = some (.slice (some ⟨fb,fo,none⟩) m.fs.length m.fC) := fun p => by rw [← hfA]; exact (HK.out p.w (hb3.trans (p.h.mono hb3.size))).2.1
 have m7 : ∀ p : BW w3,p.w.cell? ⟨fb,fo + f * 8 + 7,none⟩ = some (.slice (some ⟨b2,o2,none⟩) g.c.ins.length g.c.insC) := fun p => by
  have := HGL.out p 7 (.slice g.c.insA g.c.ins.length g.c.insC) rfl
  rw [Addr.add_lit,hA2] at this; exact this
 have HPOST : Hid (∀ (p : BW w3) e w',GivesI p.w L e w' → GivesI w L e w') := by
  rintro p e w' ⟨ao,cap,rfl,h1,h2⟩
  have hb := hb3.trans (p.h.mono hb3.size)
  refine ⟨ao,cap,rfl,h1.mono ?_,?_⟩
  ·have := hb.size; rw [HS2.out] at this; rw [HN.out]; omega
  ·rw [HN.out]; exact (HK.out p.w hb).2.2.1.trans (h2.mono (by have := hb.size; rw [HS2.out] at this; omega))
 simp only [Mo.cells,Fn.cells,Cod.cells] at HMO
 have HML : Hid (∀ (p : BW w3) k u,(#[.slice m.sA m.ss.length m.sC,.slice (some ⟨fb,fo,none⟩) m.fs.length m.fC] : Array Value).toList[k]? = some u → p.w.cell? ((⟨N,0,none⟩ : Addr).add k) = some u) := fun p k u hu => by
  rw [Addr.add_lit,Nat.zero_add]
  match k,hu with
  | 0,hu => rw [m0 p]; exact hu
  | 1,hu => rw [m1 p]; exact hu
 rw [hfA] at c1 HMO ⊢
 rw [hA2] at e7 HMO
 clear hmi hb3 hbw hF hg hfc hi hc2
 go_wp2_with fail
 clear e7 c0 c1
 refine wp_region_phase 15 1 rfl (by kernel_rfl) (by kernel_rfl) (by kernel_rfl) (fun w' => ∃ p : BW w3,w' = p.w) ⟨⟨w3.drew,(Below.refl _ _).drew⟩,rfl⟩ ?_
 dsimp only [List.take]
 repeat (first
  | (go_big_quiet_want; (refine quiet_load_bw 25 _ rfl ⟨N,0,none⟩ rfl _ _ HML.out Try.underlying25 rfl (by kernel_rfl) ?_); (simp only [Act.put,List.setIfInBounds_toArray,List.set_cons_zero,List.set_cons_succ]); go_big_quiet_on)
  | (go_big_quiet_want; (refine quiet_load_bw 50 _ rfl ⟨fb,fo + f * 8,none⟩ rfl _ _ HGL.out Try.underlying50 rfl (by kernel_rfl) ?_); (simp only [Act.put,List.setIfInBounds_toArray,List.set_cons_zero,List.set_cons_succ]); go_big_quiet_on)
  | (go_big_quiet_want; (refine quiet_load_bw 62 _ rfl ⟨b2,o2 + a * 13,none⟩ rfl _ _ HIL.out Try.underlying62 rfl (by kernel_rfl) ?_); (simp only [Act.put,List.setIfInBounds_toArray,List.set_cons_zero,List.set_cons_succ]); go_big_quiet_on)
  | (go_big_quiet_step (fail)))
 refine wpQuiet_nil ?_
 rintro _ ⟨p,rfl⟩
 refine wpOp_step rfl fun K' hK => ?_
 rw [if_pos (by rfl)]
 go_simp
 go_at_call 48
 refine (HMO.out p).mono ?_
 intro e w4 hg4
 have HR := Lib.hid (HPOST.out p e w4 hg4)
 obtain ⟨ao,cap,rfl,_,_⟩ := hg4
 refine hK _ _ ?_
 clear hK
 try go_simp
 refine wpAny_end 16 rfl (by kernel_rfl) (by kernel_rfl) (· = w4) rfl ?_
 dsimp only [List.drop]
 repeat (go_big_quiet_step (fail))
 refine wpQuiet_nil ?_
 rintro _ rfl
 go_wp2
 go_ret
 exact HR.out
end Go.Proofs.Ytlggjbopfnndbaa
namespace Go.Proofs.Ytlggjbopfnndbaa
open Go.RowKit
set_option maxRecDepth 100000 in
set_option maxHeartbeats 8000000 in
theorem rMoves_calls (w : World) (m : Mo) (hm : m.inn w) (hf : m.fs.length ≤ 90) (hl : ∀ g ∈ m.fs,g.mds.length ≤ 3000 ∧ ∀ x ∈ g.mds,x.length ≤ 400) :
  Calls Try.prog 16 #[.agg m.cells] w fun e w' => e = .returned (.tuple #[.int .i64 (sumF ownOne m.fs),.int .i64 (sumF lentOne m.fs)]) ∧ Below w.heap.size w w' := by
 obtain ⟨N,hN⟩ : ∃ N,w.heap.size = N := ⟨_,rfl⟩
 obtain ⟨W3,hW3⟩ : ∃ W3,w.alloc (.cells m.cells 25) = W3 := ⟨_,rfl⟩
 have hb3 : Below N w W3 := by rw [← hW3,← hN]; exact (Below.refl _ _).alloc (Nat.le_refl _) _
 have hr1 : W3.heap[N]? = some (.cells m.cells 25 (0,0)) := by rw [← hW3,← hN]; exact alloc_at _ _
 have c1 : W3.cell? ⟨N,1,none⟩ = some (.slice m.fA m.fs.length m.fC) := by rw [cell_of_row _ _ _ _ _ _ hr1]; rfl
 have hm3 := hm.below (by rw [hN]; exact hb3)
 obtain ⟨SO,hSO⟩ : ∃ s,sumF ownOne m.fs = s := ⟨_,rfl⟩
 obtain ⟨SL,hSL⟩ : ∃ s,sumF lentOne m.fs = s := ⟨_,rfl⟩
 have HSO := Lib.hid hSO
 have HSL := Lib.hid hSL
 rw [hSO,hSL]
 have HM3 := Lib.hid hm3
 have HC1 := Lib.hid c1
 have HB3 := Lib.hid hb3
 have HLN := Lib.hid hl
 have hW3' := hW3
 simp only [Mo.cells] at hW3'
 have HW3 := Lib.hid hW3'
 simp only [Mo.cells]
 have HLB : Hid (∀ j,(∀ g ∈ m.fs.take j,g.mds.length ≤ 3000 ∧ ∀ x ∈ g.mds,x.length ≤ 400) ∧ (m.fs.take j).length ≤ 90) := fun j => ⟨fun g hg => hl g (List.mem_of_mem_take hg),by rw [List.length_take]; omega⟩
 rw [hN]
 clear hm hm3 hl hb3 hr1 hW3 hW3' hSO hSL
 go_enter Try.func16,Try.ntmps16
 go_upto_region 1 with (fail)
 rw [HW3.out]
 clear HW3 hN
 go_wp2_with fail
 clear c1
 go_loop [4,5,6] (fun a b c => ∃ j : Nat,j ≤ m.fs.length ∧ c = .int .i64 (j : Int) ∧ a = .int .i64 (sumF ownOne (m.fs.take j)) ∧ b = .int .i64 (sumF lentOne (m.fs.take j))) (fun _ _ c => m.fs.length - (intOf c).toNat)
 case atStart => exact ⟨0,Nat.zero_le _,rfl,rfl,rfl⟩
 case round =>
  obtain ⟨j,hj,rfl,rfl,rfl⟩ := hrel
  have c1 := HC1.out
  by_cases hjl : j < m.fs.length
  ·have hjI : (j : Int) < (m.fs.length : Int) := by omega
   obtain ⟨g,hg⟩ : ∃ g,m.fs[j]? = some g := ⟨_,List.getElem?_eq_getElem hjl⟩
   have hgm := List.mem_of_getElem? hg
   obtain ⟨fb,fo,hfA,hfb,hfc⟩ := HM3.out.frow (by intro e; rw [e] at hjl; simp at hjl)
   have hgi := HM3.out.fin g hgm
   have e7 : W3.cell? ⟨fb,fo + j * 8 + 7,none⟩ = some (.slice g.c.insA g.c.ins.length g.c.insC) := hfc j g hg 7 _ rfl
   have hil : g.c.ins.length ≤ 3000 := by rw [← hgi.nmds]; exact (HLN.out g hgm).1
   have HGG := Lib.hid hg
   have hga : 0 ≤ sumF ownOne (m.fs.take j) ∧ sumF ownOne (m.fs.take j) ≤ 108000000 := by have := sumF_le ownOne_b _ (HLB.out j).1; have := (HLB.out j).2; omega
   have hgb : 0 ≤ sumF lentOne (m.fs.take j) ∧ sumF lentOne (m.fs.take j) ≤ 108000000 := by have := sumF_le lentOne_b _ (HLB.out j).1; have := (HLB.out j).2; omega
   obtain ⟨A0,hA0⟩ : ∃ a,sumF ownOne (m.fs.take j) = a := ⟨_,rfl⟩
   obtain ⟨B0,hB0⟩ : ∃ a,sumF lentOne (m.fs.take j) = a := ⟨_,rfl⟩
   have HNX : Hid (sumF ownOne (m.fs.take (j + 1)) = A0 + sumL ownOne g.mds ∧ sumF lentOne (m.fs.take (j + 1)) = B0 + sumL lentOne g.mds) := by
    unfold Hid
    rw [take_snocI hg,sumF_snoc,sumF_snoc,hA0,hB0]; exact ⟨rfl,rfl⟩
   rw [hA0] at hga ⊢
   rw [hB0] at hgb ⊢
   have HGI := Lib.hid hgi
   have HLG := Lib.hid (HLN.out g hgm)
   have hmdl := hgi.nmds
   rw [hfA] at c1 HC1
   have HE7 := Lib.hid e7
   clear hg hfc hfA hA0 hB0 hgi hfb
   go_wp2_with fail
   clear c1 e7
   go_loop [4,5,7] (fun a b c => ∃ q : Nat,q ≤ g.c.ins.length ∧ c = .int .i64 (q : Int) ∧ a = .int .i64 (A0 + sumL ownOne (g.mds.take q)) ∧ b = .int .i64 (B0 + sumL lentOne (g.mds.take q))) (fun _ _ c => g.c.ins.length - (intOf c).toNat)
   case atStart => exact ⟨0,Nat.zero_le _,rfl,by simp [sumL],by simp [sumL]⟩
   case round =>
    obtain ⟨q,hq,rfl,rfl,rfl⟩ := hrel
    have c1 := HC1.out
    have e7 := HE7.out
    by_cases hql : q < g.c.ins.length
    ·have hqI : (q : Int) < (g.c.ins.length : Int) := by omega
     obtain ⟨i,hi⟩ : ∃ i,g.c.ins[q]? = some i := ⟨_,List.getElem?_eq_getElem hql⟩
     obtain ⟨l,hl⟩ : ∃ l,g.mds[q]? = some l := ⟨_,List.getElem?_eq_getElem (by omega)⟩
     obtain ⟨ib,io,hiA,hib,hic⟩ := HGI.out.code.row (by intro e; rw [e] at hql; simp at hql)
     obtain ⟨ao,cap,e1,e2⟩ := HGI.out.mds q i l hi hl
     have e8 : W3.cell? ⟨ib,io + q * 13 + 8,none⟩ = some (.slice ao l.length cap) := by rw [← e1]; exact hic q i hi 8 _ rfl
     have hll : l.length ≤ 400 := HLG.out.2 l (List.mem_of_getElem? hl)
     have hsa : 0 ≤ sumL ownOne (g.mds.take q) ∧ sumL ownOne (g.mds.take q) ≤ 1200000 := by
      have h1 := sumL_le ownOne_b (g.mds.take q) (fun y hy => HLG.out.2 y (List.mem_of_mem_take hy))
      have h2 := HLG.out.1
      rw [List.length_take] at h1; omega
     have hsb : 0 ≤ sumL lentOne (g.mds.take q) ∧ sumL lentOne (g.mds.take q) ≤ 1200000 := by
      have h1 := sumL_le lentOne_b (g.mds.take q) (fun y hy => HLG.out.2 y (List.mem_of_mem_take hy))
      have h2 := HLG.out.1
      rw [List.length_take] at h1; omega
     obtain ⟨A1,hA1⟩ : ∃ a,A0 + sumL ownOne (g.mds.take q) = a := ⟨_,rfl⟩
     obtain ⟨B1,hB1⟩ : ∃ a,B0 + sumL lentOne (g.mds.take q) = a := ⟨_,rfl⟩
     have HNY : Hid (A0 + sumL ownOne (g.mds.take (q + 1)) = A1 + sumI ownOne l ∧ B0 + sumL lentOne (g.mds.take (q + 1)) = B1 + sumI lentOne l) := by
      unfold Hid
      rw [take_snocI hl,sumL_snoc,sumL_snoc]; omega
     have ha1 : 0 ≤ A1 ∧ A1 ≤ 110000000 := by omega
     have hb1 : 0 ≤ B1 ∧ B1 ≤ 110000000 := by omega
     rw [hA1,hB1]
     have HRW := Lib.hid e2
     rw [hiA] at e7 HE7
     clear hi hl hic hiA e1 e2 hA1 hB1 hsa hsb
     go_wp2_with fail
     clear c1 e7 e8
     go_loop [4,5,9] (fun a b c => ∃ z : Nat,z ≤ l.length ∧ c = .int .i64 (z : Int) ∧ a = .int .i64 (A1 + sumI ownOne (l.take z)) ∧ b = .int .i64 (B1 + sumI lentOne (l.take z))) (fun _ _ c => l.length - (intOf c).toNat)
     case atStart => exact ⟨0,Nat.zero_le _,rfl,by simp [sumI],by simp [sumI]⟩
     case round =>
      obtain ⟨z,hz,rfl,rfl,rfl⟩ := hrel
      by_cases hzl : z < l.length
      ·have hzI : (z : Int) < (l.length : Int) := by omega
       obtain ⟨x,hx⟩ : ∃ x,l[z]? = some x := ⟨_,List.getElem?_eq_getElem hzl⟩
       obtain ⟨b,o,hao,_,hc⟩ := HRW.out (by intro e; rw [e] at hzl; simp at hzl)
       have cx : W3.cell? ⟨b,o + z,none⟩ = some (.int .i64 x) := by
        have := hc z x hx 0 _ rfl
        simpa using this
       have h1 := sumI_le ownOne_b (l.take z)
       have h2 := sumI_le lentOne_b (l.take z)
       rw [List.length_take] at h1 h2
       have HNZ : Hid (A1 + sumI ownOne (l.take (z + 1)) = A1 + sumI ownOne (l.take z) + ownOne x ∧ B1 + sumI lentOne (l.take (z + 1)) = B1 + sumI lentOne (l.take z) + lentOne x) := by
        unfold Hid
        rw [take_snocI hx,sumI_snoc,sumI_snoc]; omega
       obtain ⟨A2,hA2⟩ : ∃ a,A1 + sumI ownOne (l.take z) = a := ⟨_,rfl⟩
       obtain ⟨B2,hB2⟩ : ∃ a,B1 + sumI lentOne (l.take z) = a := ⟨_,rfl⟩
       have ha2 : 0 ≤ A2 ∧ A2 ≤ 120000000 := by omega
       have hb2 : 0 ≤ B2 ∧ B2 ≤ 120000000 := by omega
       rw [hA2,hB2] at HNZ ⊢
       rw [hao]
       clear hx hc hao hA2 hB2 h1 h2
       by_cases e1 : x = 1
       ·subst e1
        have HNZ' : Hid (A1 + sumI ownOne (l.take (z + 1)) = A2 + 1 ∧ B1 + sumI lentOne (l.take (z + 1)) = B2) := by
         have h9 := HNZ.out; unfold Hid; unfold ownOne lentOne at h9; rw [if_pos rfl,if_neg (by omega),Int.add_zero] at h9; exact h9
        go_wp2
        go_round
        case rel => exact ⟨z + 1,by omega,by go_num,by rw [HNZ'.out.1],by rw [HNZ'.out.2]⟩
        case measure => simp [intOf]; omega
       by_cases e2 : x = 2
       ·subst e2
        have HNZ' : Hid (A1 + sumI ownOne (l.take (z + 1)) = A2 ∧ B1 + sumI lentOne (l.take (z + 1)) = B2 + 1) := by
         have h9 := HNZ.out; unfold Hid; unfold ownOne lentOne at h9; rw [if_neg (by omega),if_pos (by omega),Int.add_zero] at h9; exact h9
        clear e1
        go_wp2
        go_round
        case rel => exact ⟨z + 1,by omega,by go_num,by rw [HNZ'.out.1],by rw [HNZ'.out.2]⟩
        case measure => simp [intOf]; omega
       by_cases e3 : x = 3
       ·subst e3
        have HNZ' : Hid (A1 + sumI ownOne (l.take (z + 1)) = A2 ∧ B1 + sumI lentOne (l.take (z + 1)) = B2 + 1) := by
         have h9 := HNZ.out; unfold Hid; unfold ownOne lentOne at h9; rw [if_neg (by omega),if_pos (by omega),Int.add_zero] at h9; exact h9
        clear e1 e2
        go_wp2
        go_round
        case rel => exact ⟨z + 1,by omega,by go_num,by rw [HNZ'.out.1],by rw [HNZ'.out.2]⟩
        case measure => simp [intOf]; omega
       have HNZ' : Hid (A1 + sumI ownOne (l.take (z + 1)) = A2 ∧ B1 + sumI lentOne (l.take (z + 1)) = B2) := by
        have h9 := HNZ.out; unfold Hid; unfold ownOne lentOne at h9; rw [if_neg e1,if_neg (by omega),Int.add_zero,Int.add_zero] at h9; exact h9
       have d1 : (x == 1) = false := beq_eq_false_iff_ne.2 e1
       have d2 : (x == 2) = false := beq_eq_false_iff_ne.2 e2
       have d3 : (x == 3) = false := beq_eq_false_iff_ne.2 e3
       clear e1 e2 e3
       go_wp2
       go_round
       case rel => exact ⟨z + 1,by omega,by go_num,by rw [HNZ'.out.1],by rw [HNZ'.out.2]⟩
       case measure => simp [intOf]; omega
      ·have hze : z = l.length := by omega
       subst hze
       rw [List.take_length]
       go_wp2
       go_round
       case rel => exact ⟨q + 1,by omega,by go_num,by rw [HNY.out.1],by rw [HNY.out.2]⟩
       case measure => simp [intOf]; omega
    ·have hqe : q = g.c.ins.length := by omega
     subst hqe
     rw [← hmdl,List.take_length]
     rw [hmdl]
     go_wp2
     go_round
     case rel => exact ⟨j + 1,by omega,by go_num,by rw [HNX.out.1],by rw [HNX.out.2]⟩
     case measure => simp [intOf]; omega
  ·have hje : j = m.fs.length := by omega
   subst hje
   rw [List.take_length,HSO.out,HSL.out]
   go_wp2
   exact bodyPost_ret (v := .tuple #[.int .i64 SO,.int .i64 SL]) (by simp [results,Try.results16,go_sem]) rfl ⟨rfl,HB3.out⟩
end Go.Proofs.Ytlggjbopfnndbaa
