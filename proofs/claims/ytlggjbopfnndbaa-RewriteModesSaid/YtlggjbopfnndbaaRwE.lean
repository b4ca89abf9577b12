/- The reference's Rewrite: a row of a function's variables and its result. -/
import Derived.Test.YtlggjbopfnndbaaRewR
import Derived.Test.YtlggjbopfnndbaaH02
import Derived.Test.YtlggjbopfnndbaaG36
import Derived.Test.YtlggjbopfnndbaaG22
import Derived.Test.YtlggjbopfnndbaaH06
import Derived.Test.YtlggjbopfnndbaaRqP
import Derived.Test.YtlggjbopfnndbaaG55
namespace Go.Proofs.Ytlggjbopfnndbaa
open Go.RowKit
theorem below_cellE {w w' : World} {a : Addr} {v : Value} (hb : Below w.heap.size w w') (h : w.cell? a = some v) : w'.cell? a = some v := (hb.cell (World.block_lt_of_cell? _ _ h)).trans h
theorem oper_append_row {P : Program} {w : World} {o : Oper} {a : Act} {Q : Exit → Act → World → Prop} {K : Act → World → Prop} (s x : Operand) (t : TypeId)
  (ho : o.op = .call { callee := .builtin .append,args := #[s,x],argTypes := #[t,t] }) (base : Nat) (e : TypeId) (i : TypeInfo) (z : Value) (size bytes : Nat) (ht : P.underlying t = some (.slice e)) (hi : P.info? e = some i) (hz : i.zero = some z)
  (hsize : i.size = size) (hby : i.bytes = bytes) (hzs : z.cells.size = size) (hsz : 0 < size)
  (v : Value) (n : Nat) (xs : List Value) (hs : a.eval s = v) (hown : w.ownsRow base e size v n xs)
  (ao : Option Addr) (m c : Nat) (news : List Value) (hx : a.eval x = .slice ao m c) (hl : news.length = m * size) (hnone : ao = none → m = 0) (hnews : ∀ ad,ao = some ad → ∀ j u,news[j]? = some u → w.cell? (ad.add j) = some u) (h1 : ∀ u ∈ news,u.oneCell' = true)
  (h63 : n + m ≤ maxLen) (hbytes : (n + m) * bytes ≤ 140737488355328) (hbase : base ≤ w.heap.size)
  (h : ∀ v' w',w'.ownsRow base e size v' (n + m) (xs ++ news) → w.grownBy w' v.ownBlock → (∀ k,v'.ownBlock = some k → v.ownBlock = some k ∨ w.heap.size ≤ k) → K (a.put o.dst v') w') : Oper.wp P o a w K Q := by
 have hrun : ∃ v' w',(Builtin.append_ #[t,t] o.type #[v,.slice ao m c]).run P w = .ok v' w' ∧ w'.ownsRow base e size v' (n + m) (xs ++ news) ∧ w.grownBy w' v.ownBlock ∧ (∀ k,v'.ownBlock = some k → v.ownBlock = some k ∨ w.heap.size ≤ k) := by
  cases ao with
  | none =>
   obtain rfl := hnone rfl
   have hn : news = [] := List.eq_nil_of_length_eq_zero (by omega)
   subst hn
   exact ⟨v,w,run_append_nil w base t o.type e i size ht hi v n xs hown c,by simpa using hown,World.grownBy.refl w _,fun k hk => .inl hk⟩
  | some ad =>
   obtain ⟨v',w',r1,r2,r3,_,r5⟩ := run_append_own_at w base t o.type e i z size bytes ht hi hz hsize hby hzs hsz v n xs hown ad m c news hl (hnews ad rfl) h1 h63 hbytes hbase
   refine ⟨v',w',r1,r2,r3,fun k hk => ?_⟩
   rcases r5 with r5 | r5
   ·exact .inl (by rw [← r5]; exact hk)
   ·right; rw [r5] at hk; simp at hk; omega
 obtain ⟨v',w',r1,r2,r3,r4⟩ := hrun
 unfold Oper.wp
 simp [execOp,ho,resolve,invoke,builtin,hs,hx,r1,Result.andThen]
 exact h _ _ r2 r3 r4
section
variable {P : Program} {ops : Array Oper} {Q : Exit → Act → World → Prop} {md : Region.Mode} {S : World → Prop} {k : Nat}
theorem wpAnyJ_two {i j : Nat} {oi oj : Oper} {fuel : Nat} {listed : Array Bool} {a : Act} {w : World} (hr : Region.ready md ops listed = [i,j]) (hik : i ≠ k) (hjk : j ≠ k) (hoi : ops[i]? = some oi) (hoj : ops[j]? = some oj)
  (hi : ∀ K' : Act → World → Prop,(∀ a w,S w → wpAnyJ P md ops Q S k fuel (listed.setIfInBounds i true) a w → K' a w) → if Region.wanted oi (yielded ops a.tmps) = true then Oper.wp P oi a w K' Q else K' (a.put oi.dst undef) w)
  (hj : ∀ K' : Act → World → Prop,(∀ a w,S w → wpAnyJ P md ops Q S k fuel (listed.setIfInBounds j true) a w → K' a w) → if Region.wanted oj (yielded ops a.tmps) = true then Oper.wp P oj a w K' Q else K' (a.put oj.dst undef) w) :
  wpAnyJ P md ops Q S k (fuel + 1) listed a w := by
 refine ⟨fun h0 => (by rw [hr] at h0; cases h0),fun z hz => ?_⟩
 rw [hr] at hz
 rcases List.mem_cons.1 hz with rfl | hz
 ·simp only [if_neg hik]
  exact wpOp_step hoi (fun K' hK => hi K' (fun a w hS hW => hK a w ⟨hS,hW⟩))
 ·obtain rfl := List.mem_singleton.1 hz
  simp only [if_neg hjk]
  exact wpOp_step hoj (fun K' hK => hj K' (fun a w hS hW => hK a w ⟨hS,hW⟩))
end
def Fn.all (g : Fn) : List Vr := g.vs ++ [g.retV]
def LvR (B : Nat) (g : Fn) (s : Value) (wc : World) : Prop :=
 ∃ b cap,s = .slice (some ⟨b,0,none⟩) (g.vs.length + 1) cap ∧ wc.ownsRow B 47 3 s (g.vs.length + 1) (g.all.flatMap fun a => a.cells.toList)
theorem LvR.of {B : Nat} {g : Fn} {s : Value} {wc : World} (h : wc.ownsRow B 47 3 s (g.vs.length + 1) ((g.vs.flatMap fun a => a.cells.toList) ++ g.retV.cells.toList)) : LvR B g s wc := by
 have e : g.all.flatMap (fun a => a.cells.toList) = (g.vs.flatMap fun a => a.cells.toList) ++ g.retV.cells.toList := by
  unfold Fn.all; rw [List.flatMap_append]; simp
 obtain ⟨ao,cap,rfl⟩ := ownsRow_slice h
 obtain ⟨b,rfl,_,_⟩ := ownsRow_get h (j := g.vs.length * 3) (u := .bool g.c.rp) (by rw [List.getElem?_append_right (by rw [flat_len vrLen]; exact Nat.le_refl _),flat_len vrLen,Nat.sub_self]; rfl)
 exact ⟨b,cap,rfl,by rw [e]; exact h⟩
theorem classed_iff (m : Mo) : classedF m = true ↔ ∀ g ∈ m.fs,∀ v ∈ g.all,okC v = true := by
 have key : ∀ (l : List Fn) (j : Nat),(eachFrom j l).all (fun p => okC p.1) = true ↔ ∀ g ∈ l,∀ v ∈ g.all,okC v = true := by
  intro l
  induction l with
  | nil => intro j; simp [eachFrom]
  | cons f r ih =>
   intro j
   rw [eachFrom,List.all_append,Bool.and_eq_true,List.all_cons,Bool.and_eq_true,ih (j + 1)]
   simp only [List.all_map,List.all_eq_true,Function.comp,List.mem_cons,Fn.all,List.mem_append,List.not_mem_nil,or_false]
   constructor
   ·rintro ⟨h1,h2,h3⟩ g (rfl | hg) v hv
    ·rcases hv with hv | rfl
     ·exact h1 v hv
     ·exact h2
    ·exact h3 g hg v hv
   ·intro h
    exact ⟨fun v hv => h f (.inl rfl) v (.inl hv),h f (.inl rfl) _ (.inr rfl),fun g hg => h g (.inr hg)⟩
 exact key m.fs 0
def RrI (m : Mo) (x : Nat → Nat → Nat → Bool) (Z RB : Nat) (W9 : World) (c : Value) (wr : World) : Prop :=
 ∃ (f : Nat) (fs : List Fn) (fA : Option Addr) (fC : Nat),f ≤ m.fs.length ∧ c = .int .i64 (f : Int) ∧ fs.length = f ∧ wr.heap[RB]? = some (.cells #[.slice m.sA m.ss.length m.sC,.slice fA fs.length fC] 25 (0,0)) ∧
  MdM (fun k => k = Z ∨ k = RB) wr (RB + 1) ⟨m.sA,m.sC,fA,fC,m.ss,fs⟩ ∧ (∀ (f : Nat) (g' : Fn),fs[f]? = some g' → ∃ g,m.fs[f]? = some g ∧ RewFn m x f g g') ∧ Below RB W9 wr
def RrJ (m : Mo) (g : Fn) (W12 : World) (N12 : Nat) (v c : Value) (wq : World) : Prop :=
 ∃ (k : Nat) (ao : Option Addr) (cap : Nat) (il : List Ins) (mv : Nat → Value),k ≤ g.c.ins.length ∧ c = .int .i64 (k : Int) ∧ v = .slice ao k cap ∧ il.length = k ∧
  wq.ownsRow (N12 + 1) 62 13 v k (il.flatMap fun i => i.cells.toList) ∧
  (∀ (q : Nat) (i : Ins),q < k → g.c.ins[q]? = some i → il[q]? = some { i with modeV := mv q }) ∧
  (∀ (q : Nat) (i : Ins),q < k → g.c.ins[q]? = some i → OwnI wq (N12 + 1) (mv q) (modesF m g i) ∧ ∀ b,(mv q).ownBlock = some b → v.ownBlock ≠ some b) ∧
  Below W12.heap.size W12 wq
theorem rrew_results (tmps : Array Value) (w : World) (b : Nat) (u v z : Value) (ht : tmps[2]? = some (.pointer (some ⟨b,0,none⟩))) (h3 : tmps[3]? = some z) (hc : w.cell? ⟨b,0,none⟩ = some u) (hc2 : w.cell? ⟨b,1,none⟩ = some v) :
  (results Try.f14 tmps).run Try.prog w = .ok (.tuple #[.agg #[u,v],z]) w := by
 simp [results,go_sem,ht,h3,hc,hc2]
section
variable {w wr : World} {m : Mo} {N : Nat}
set_option maxRecDepth 100000 in
set_option maxHeartbeats 16000000 in
theorem rRewrite_calls0 (m : Mo) (w : World) (hin : RightIn w m) : Calls Try.prog 14 #[.agg m.cells] w (RewP m w) := by
 have HIN := Lib.hid hin
 obtain ⟨N,hN⟩ : ∃ N,w.heap.size = N := ⟨_,rfl⟩
 obtain ⟨W2,hW2⟩ : ∃ W2,(w.alloc (.cells m.cells 25)).alloc (.cells #[.slice none 0 0,.slice none 0 0] 25) = W2 := ⟨_,rfl⟩
 have hb2 : Below N w W2 := by rw [← hW2,← hN]; exact ((Below.refl _ _).alloc (Nat.le_refl _) _).alloc (by simp) _
 have hs2 : W2.heap.size = N + 2 := by rw [← hW2]; simp [hN]
 have hr1 : W2.heap[N]? = some (.cells m.cells 25 (0,0)) := by rw [← hW2,← hN]; exact heap_alloc2_old _ _ _
 have hr2 : W2.heap[N + 1]? = some (.cells #[.slice none 0 0,.slice none 0 0] 25 (0,0)) := by rw [← hW2,← hN]; exact heap_alloc2_new _ _ _
 have HRI := Lib.hid (refRight_calls m W2 (hin.below (by rw [hN]; exact hb2)))
 have HK : Hid (∀ W,Below W2.heap.size W2 W → W.heap[N]? = some (.cells m.cells 25 (0,0)) ∧ W.heap[N + 1]? = some (.cells #[.slice none 0 0,.slice none 0 0] 25 (0,0)) ∧ Below N w W ∧ m.inn W) := fun W hW =>
  ⟨(hW.block N (by omega)).trans hr1,(hW.block (N + 1) (by omega)).trans hr2,hb2.trans (hW.mono (by omega)),hin.mo.below (by rw [hN]; exact hb2.trans (hW.mono (by omega)))⟩
 have c0 : W2.cell? ⟨N,0,none⟩ = some (.slice m.sA m.ss.length m.sC) := by rw [cell_of_row _ _ _ _ _ _ hr1]; rfl
 have c1 : W2.cell? ⟨N,1,none⟩ = some (.slice m.fA m.fs.length m.fC) := by rw [cell_of_row _ _ _ _ _ _ hr1]; rfl
 have HN := Lib.hid hN
 have HS2 := Lib.hid hs2
 have hW2' := hW2
 simp only [Mo.cells] at hW2' HRI
 have HW2 := Lib.hid hW2'
 simp only [Mo.cells]
 clear hin hW2 hW2' hb2 hs2 hr1 hr2
 go_enter Try.func14,Try.ntmps14
 go_upto_region 1 with (fail)
 rw [HW2.out]
 clear hN
 go_wp2_with fail
 go_at_call 24
 refine HRI.out.mono ?_
 rintro e w3 ⟨rfl,hb3⟩
 clear c0 c1
 obtain ⟨F,hFF⟩ : ∃ F,rightF m = F := ⟨_,rfl⟩
 rw [hFF]
 by_cases hF : F = 0
 rotate_left
 ·obtain ⟨r1,r2,hbw,_⟩ := HK.out w3 hb3
  have hFb : (F != 0) = true := by rw [bne_iff_ne]; exact hF
  have y0 : w3.cell? ⟨N + 1,0,none⟩ = some (.slice none 0 0) := by rw [cell_of_row _ _ _ _ _ _ r2]; rfl
  have y1 : w3.cell? ⟨N + 1,1,none⟩ = some (.slice none 0 0) := by rw [cell_of_row _ _ _ _ _ _ r2]; rfl
  have f0 : w3.frozen? ⟨N + 1,0,none⟩ = false := frozen_of_row _ _ _ _ _ r2
  have f1 : w3.frozen? ⟨N + 1,1,none⟩ = false := frozen_of_row _ _ _ _ _ r2
  have n0 : w3.setCell ⟨N + 1,0,none⟩ (.slice none 0 0) = w3 := setCell_noop r2 rfl
  have n1 : w3.setCell ⟨N + 1,1,none⟩ (.slice none 0 0) = w3 := setCell_noop r2 rfl
  have HFIN : Hid (RewP m w (.returned (.tuple #[.agg #[.slice none 0 0,.slice none 0 0],.int .i64 F])) w3) := .inl ⟨by rw [hFF]; exact hF,by rw [hFF]; rfl,by rw [HN.out]; exact hbw⟩
  clear hF hFF r1 r2 hbw hb3
  go_wp2
  exact bodyPost_ret (rrew_results _ _ _ _ _ _ rfl rfl y0 y1) rfl HFIN.out
 subst hF
 have HF := Lib.hid hFF
 have HOK := Lib.hid (OkR.of hFF)
 have hn60 := HOK.out.nf
 have hd0 : ((0 : Int) != 0) = false := rfl
 have HK3 : Hid (∀ W,Below w3.heap.size w3 W → W.heap[N]? = some (.cells m.cells 25 (0,0)) ∧ W.heap[N + 1]? = some (.cells #[.slice none 0 0,.slice none 0 0] 25 (0,0)) ∧ Below N w W ∧ m.inn W) := fun W hW => HK.out W (hb3.trans (hW.mono hb3.size))
 clear hFF hb3 HK HRI
 go_wp2_with fail
 clear hd0
 go_loopw [5] (fun c wr => ∃ f : Nat,f ≤ m.fs.length ∧ c = .int .i64 (f : Int) ∧ (∀ g ∈ m.fs.take f,∀ v ∈ g.all,okC v = true) ∧ Below w3.heap.size w3 wr) (fun c _ => m.fs.length - (intOf c).toNat)
 case atStart => exact ⟨0,Nat.zero_le _,rfl,fun g hg => absurd hg (by simp),Below.refl _ _⟩
 case round =>
  obtain ⟨f,hf,rfl,hall,hbr⟩ := hrel
  obtain ⟨z0,z1,hbw,hmi⟩ := HK3.out wr hbr
  have y1 : wr.cell? ⟨N,1,none⟩ = some (.slice m.fA m.fs.length m.fC) := by rw [cell_of_row _ _ _ _ _ _ z0]; rfl
  by_cases hfl : f < m.fs.length
  rotate_left
  ·have hfe : f = m.fs.length := by omega
   have HCL : Hid (classedF m = true) := (classed_iff m).2 (by rw [hfe,List.take_length] at hall; exact hall)
   have HQF := Lib.hid (rof_calls m wr hmi HOK.out)
   simp only [Mo.cells] at HQF
   have HBR := Lib.hid hbr
   have y0 : wr.cell? ⟨N,0,none⟩ = some (.slice m.sA m.ss.length m.sC) := by rw [cell_of_row _ _ _ _ _ _ z0]; rfl
   clear hall hbr z0 z1 hbw hmi hf
   subst hfe
   go_wp2_with fail
   go_at_call 34
   refine HQF.out.mono ?_
   rintro e w5 ⟨B7,R7,vv7,fv7,rows7,tag7,k7,rfl,_,hq,hk7,_,hb5⟩
   have HRD := Lib.hid hk7
   obtain ⟨X,hX⟩ : ∃ X,roundsR m (k7 + 1) = X := ⟨_,rfl⟩
   obtain ⟨KI,hKI⟩ : ∃ z : Int,((k7 + 1 : Nat) : Int) = z := ⟨_,rfl⟩
   have HX := Lib.hid hX
   rw [hX,hKI] at hq
   rw [hKI]
   obtain ⟨ao1,ca1,e1⟩ := ownsRow_slice hq.tab.vars
   obtain ⟨ao2,ca2,e2⟩ := ownsRow_slice hq.tab.from_
   subst e1 e2
   obtain ⟨n1,hn1⟩ : ∃ n,rows7.length = n := ⟨_,rfl⟩
   rw [hn1] at hq ⊢
   clear y0 y1 HQF hk7 hn1 hX hKI
   obtain ⟨N7,hN7⟩ : ∃ n,w5.heap.size = n := ⟨_,rfl⟩
   obtain ⟨W7,hW7⟩ : ∃ W,w5.alloc (.cells #[.slice ao1 n1 ca1,.slice ao2 n1 ca2,.int .i64 KI] 67) = W := ⟨_,rfl⟩
   have hb7 : Below w5.heap.size w5 W7 := by rw [← hW7]; exact (Below.refl _ _).alloc (Nat.le_refl _) _
   have hr7 : W7.heap[N7]? = some (.cells #[.slice ao1 n1 ca1,.slice ao2 n1 ca2,.int .i64 KI] 67 (0,0)) := by rw [← hW7,← hN7]; exact alloc_at _ _
   have hst : ∀ (c : Array Value),c.size = 3 → (storeCells ⟨w5.heap.size,0,none⟩ #[.slice ao1 n1 ca1,.slice ao2 n1 ca2,.int .i64 KI].toList 0).run Try.prog (w5.alloc (.cells c 67)) = .ok () W7 := fun c hc => by
    rw [← hW7]
    exact run_storeCells_new (P := Try.prog) w5 67 c #[.slice ao1 n1 ca1,.slice ao2 n1 ca2,.int .i64 KI] (by show _ = some 3; kernel_rfl) hc (by rw [← Array.all_toList]; simp [Value.oneCell'])
   rw [hN7] at hst
   have hq7 := hq.copy hb7 hr7 (by omega)
   have hb37 : Below w3.heap.size w3 W7 := by
    have h1 := HBR.out.trans (hb5.mono HBR.out.size)
    exact h1.trans (hb7.mono h1.size)
   have HMQ := Lib.hid (rmodule19_calls hq7 HOK.out)
   simp only [Mo.cells] at HMQ
   have HB37 := Lib.hid hb37
   have HW7 := Lib.hid hW7
   obtain ⟨v0,v1,_,_⟩ := HK3.out W7 hb37
   have y0 : W7.cell? ⟨N,0,none⟩ = some (.slice m.sA m.ss.length m.sC) := by rw [cell_of_row _ _ _ _ _ _ v0]; rfl
   have y1 : W7.cell? ⟨N,1,none⟩ = some (.slice m.fA m.fs.length m.fC) := by rw [cell_of_row _ _ _ _ _ _ v0]; rfl
   clear hb5 hb7 hr7 hq hq7 hW7 v0 v1 hb37
   go_upto_region 14 with (fail)
   try rw [HW7.out]
   clear hst hN7 HW7
   go_wp2_with fail
   go_at_call 39
   refine HMQ.out.mono ?_
   rintro e w9 ⟨n,rfl,hni,hns,hnl,hnu,hb9⟩
   clear y0 y1 HMQ
   obtain ⟨N9,hN9⟩ : ∃ z,w9.heap.size = z := ⟨_,rfl⟩
   obtain ⟨W9,hW9⟩ : ∃ W,w9.alloc (.cells n.cells 25) = W := ⟨_,rfl⟩
   have hb99 : Below w9.heap.size w9 W9 := by rw [← hW9]; exact (Below.refl _ _).alloc (Nat.le_refl _) _
   have hr9 : W9.heap[N9]? = some (.cells n.cells 25 (0,0)) := by rw [← hW9,← hN9]; exact alloc_at _ _
   have hs9 : W9.heap.size = N9 + 1 := by rw [← hW9]; simp [hN9]
   have hst : ∀ (c : Array Value),c.size = 2 → (storeCells ⟨w9.heap.size,0,none⟩ n.cells.toList 0).run Try.prog (w9.alloc (.cells c 25)) = .ok () W9 := fun c hc => by
    rw [← hW9]
    exact run_storeCells_new (P := Try.prog) w9 25 c n.cells (by show _ = some 2; kernel_rfl) hc (by rw [← Array.all_toList]; simp [Mo.cells,Value.oneCell'])
   rw [hN9] at hst
   have hb39 : Below w3.heap.size w3 w9 := HB37.out.trans (hb9.mono HB37.out.size)
   have hb39' : Below w3.heap.size w3 W9 := hb39.trans (hb99.mono hb39.size)
   obtain ⟨v0,v1,vbw,vmi⟩ := HK3.out W9 hb39'
   have y0 : W9.cell? ⟨N,0,none⟩ = some (.slice m.sA m.ss.length m.sC) := by rw [cell_of_row _ _ _ _ _ _ v0]; rfl
   obtain ⟨RB,hRB⟩ : ∃ RB,W9.heap.size = RB := ⟨_,rfl⟩
   obtain ⟨W10,hW10⟩ : ∃ W,W9.alloc (.cells #[.slice m.sA m.ss.length m.sC,.slice none 0 0] 25) = W := ⟨_,rfl⟩
   have hb10 : Below RB W9 W10 := by rw [← hW10,← hRB]; exact (Below.refl _ _).alloc (Nat.le_refl _) _
   have hr10 : W10.heap[RB]? = some (.cells #[.slice m.sA m.ss.length m.sC,.slice none 0 0] 25 (0,0)) := by rw [← hW10,← hRB]; exact alloc_at _ _
   have hst2 : ∀ (c : Array Value),c.size = 2 → (storeCells ⟨RB,0,none⟩ #[.slice m.sA m.ss.length m.sC,.slice none 0 0].toList 0).run Try.prog (W9.alloc (.cells c 25)) = .ok () W10 := fun c hc => by
    rw [← hW10,← hRB]
    exact run_storeCells_new (P := Try.prog) W9 25 c #[.slice m.sA m.ss.length m.sC,.slice none 0 0] (by show _ = some 2; kernel_rfl) hc (by rw [← Array.all_toList]; simp [Value.oneCell'])
   have hNS : N + 2 ≤ w3.heap.size := by
    obtain ⟨_,q,_,_⟩ := HK3.out w3 (Below.refl _ _)
    have := (Array.getElem?_eq_some_iff.1 q).1
    omega
   have hNRB : N + 2 ≤ RB := by have := hb39'.size; omega
   -- the new module's rows, whatever is written behind, and in the result
   have HFR : Hid (∀ w',Ext (fun k => k = N + 1 ∨ RB ≤ k) W9 w' → ∀ g1 ∈ n.fs,IntRow w' g1.c.fromA g1.frm) := by
    intro w' hx g1 hg1 hne
    obtain ⟨b,o,e,hbl,hc⟩ := (hni.fin g1 hg1).frm hne
    have hbl9 : b < W9.heap.size := by have := hb99.size; omega
    have hb99c : W9.heap[b]? = w9.heap[b]? := hb99.block b hbl
    have hbn : b ≠ N + 1 := by
     intro e2
     obtain ⟨z,hz⟩ : ∃ z,g1.frm[0]? = some z := by
      cases hfr : g1.frm with
      | nil => exact absurd hfr hne
      | cons a r => exact ⟨a,rfl⟩
     have h1 := hc 0 z hz 0 _ rfl
     have h2 : w9.heap[N + 1]? = some (.cells #[.slice none 0 0,.slice none 0 0] 25 (0,0)) := (HK3.out w9 hb39).2.1
     rw [e2,cell_of_row _ _ _ _ _ _ h2] at h1
     have h3 : o + 0 * 1 + 0 = 0 ∨ o + 0 * 1 + 0 = 1 ∨ 2 ≤ o + 0 * 1 + 0 := by omega
     rcases h3 with h3 | h3 | h3
     ·rw [h3] at h1; simp at h1
     ·rw [h3] at h1; simp at h1
     ·rw [Array.getElem?_eq_none (by simpa using h3)] at h1; cases h1
    refine ⟨b,o,e,by have := hx.size; omega,fun j z hj k u hu => ?_⟩
    have h1 := hc j z hj k u hu
    rw [hx.cell (a := ⟨b,_,none⟩) hbl9 (by show ¬ (b = N + 1 ∨ RB ≤ b); omega),World.cell?_of_block (w := w9) (w' := W9) hb99c]
    exact h1
   have HM0 : Hid (MdM (fun k => k = N + 1 ∨ k = RB) W10 (RB + 1) ⟨m.sA,m.sC,none,0,m.ss,[]⟩) := by
    refine ⟨by have := (Array.getElem?_eq_some_iff.1 hr10).1; omega,World.ownsRow_nil _ _ _ _,fun w' hx => ?_,HIN.out.mo.ns,by simp⟩
    have q2 : Below N w W10 := vbw.trans (hb10.mono (by omega))
    have q1 : Below N w w' := q2.trans (hx.below (by have := q2.size; have := HN.out; omega) (fun k hk => by
     rcases hk with hk | hk | hk
     ·exact absurd hk (by simp [Value.ownBlock])
     ·omega
     ·omega))
    have q3 := HIN.out.mo.below (by rw [HN.out]; exact q1)
    exact ⟨q3.srow,q3.sin,fun f hf => absurd hf (by simp)⟩
   have HR10 := Lib.hid hr10
   have HB10 := Lib.hid hb10
   have HRB := Lib.hid hRB
   have hW9' := hW9
   simp only [Mo.cells] at hW9'
   have HW9 := Lib.hid hW9'
   have HW10 := Lib.hid hW10
   have HNU := Lib.hid hnu
   have HNW : Hid (∀ W,Below RB W9 W → W.heap[N9]? = some (.cells n.cells 25 (0,0)) ∧ n.inn W ∧ W.heap[N]? = some (.cells m.cells 25 (0,0)) ∧ W.heap[N + 1]? = some (.cells #[.slice none 0 0,.slice none 0 0] 25 (0,0)) ∧ Below N w W ∧ m.inn W) := fun W hW => by
    obtain ⟨u0,u1,u2,u3⟩ := HK3.out W (hb39'.trans (hW.mono (by have := hb39'.size; omega)))
    exact ⟨(hW.block N9 (by omega)).trans hr9,(hni.below hb99).below (by rw [hRB]; exact hW),u0,u1,u2,u3⟩
   have HNL : Hid (n.fs.length = m.fs.length) := hnl
   simp only [Mo.cells] at hst
   clear hni hns hnl hnu hb9 hb99 hs9 hr9 hb39 hb39' v0 v1 vbw vmi hb10 hr10 hW9 hW9' hW10
   unfold Mo.cells
   go_upto_region 15 with (fail)
   try rw [HW9.out]
   clear hst HW9
   clear hN9
   go_upto_region 16 with (fail)
   try rw [HW10.out]
   clear y0 hst2 HW10 hRB
   obtain ⟨t9,_,_,_,_,_⟩ := HNW.out W10 HB10.out
   have x1 : W10.cell? ⟨N9,1,none⟩ = some (.slice n.fA n.fs.length n.fC) := by rw [cell_of_row _ _ _ _ _ _ t9]; rfl
   clear t9
   go_wp2_with fail
   clear x1
   clear HK3 HBR HB37
   go_loopw [11] (fun c wr => RrI m X (N + 1) RB W9 c wr) (fun c _ => m.fs.length - (intOf c).toNat)
   case atStart => exact ⟨0,[],none,0,Nat.zero_le _,rfl,rfl,HR10.out,HM0.out,fun f g h => (by simp at h),HB10.out⟩
   case round =>
    clear HR10 HM0 HB10
    obtain ⟨f,fs,fA,fC,hf,rfl,hfl,hrb,hmd,hup,hbr⟩ := hrel
    subst hfl
    obtain ⟨t9,hnw,t0,tz,hbw,hmw⟩ := HNW.out wr hbr
    have x1 : wr.cell? ⟨N9,1,none⟩ = some (.slice n.fA n.fs.length n.fC) := by rw [cell_of_row _ _ _ _ _ _ t9]; rfl
    rw [HNL.out] at x1
    by_cases hfn : fs.length < m.fs.length
    rotate_left
    ·have hfe : fs.length = m.fs.length := by omega
     have y0 : wr.cell? ⟨RB,0,none⟩ = some (.slice m.sA m.ss.length m.sC) := by rw [cell_of_row _ _ _ _ _ _ hrb]; rfl
     have y1 : wr.cell? ⟨RB,1,none⟩ = some (.slice fA fs.length fC) := by rw [cell_of_row _ _ _ _ _ _ hrb]; rfl
     have g0 : wr.cell? ⟨N + 1,0,none⟩ = some (.slice none 0 0) := by rw [cell_of_row _ _ _ _ _ _ tz]; rfl
     have g1 : wr.cell? ⟨N + 1,1,none⟩ = some (.slice none 0 0) := by rw [cell_of_row _ _ _ _ _ _ tz]; rfl
     have f0 : wr.frozen? ⟨N + 1,0,none⟩ = false := frozen_of_row _ _ _ _ _ tz
     have f1 : wr.frozen? ⟨N + 1,1,none⟩ = false := frozen_of_row _ _ _ _ _ tz
     have h1 := heap_setCell_same wr (N + 1) 0 _ _ (.slice m.sA m.ss.length m.sC) tz
     have h2 := heap_setCell_same _ (N + 1) 1 _ _ (.slice fA fs.length fC) h1
     have hx2 : Ext (· = N + 1) wr ((wr.setCell ⟨N + 1,0,none⟩ (.slice m.sA m.ss.length m.sC)).setCell ⟨N + 1,1,none⟩ (.slice fA fs.length fC)) := (Ext.set1 _ _ _ _).trans (Ext.set1 _ _ _ _) (fun _ h => .inl h)
     obtain ⟨W20,hW20⟩ : ∃ W,(wr.setCell ⟨N + 1,0,none⟩ (.slice m.sA m.ss.length m.sC)).setCell ⟨N + 1,1,none⟩ (.slice fA fs.length fC) = W := ⟨_,rfl⟩
     rw [hW20] at h2 hx2
     have HFIN : Hid (RewP m w (.returned (.tuple #[.agg #[.slice m.sA m.ss.length m.sC,.slice fA fs.length fC],.int .i64 0])) W20) := by
      refine .inr (.inr ⟨HF.out,HCL.out,⟨m.sA,m.sC,fA,fC,m.ss,fs⟩,rfl,?_,⟨rfl,hfe,k7,HRD.out,fun f g hg => ?_⟩,?_⟩)
      ·have hx' : Ext (ownOf fA fs.length fC (fun b => b = N + 1 ∨ b = RB)) wr W20 := hx2.mono fun b hb => .inr (.inl hb)
       obtain ⟨q1,q2,q3⟩ := hmd.rest W20 hx'
       have q4 := ownsRow_ext hmd.fown hx2 (fun b hb e => by have := (hmd.fown.lt b hb).1; omega)
       exact ⟨q1,rowOf_owns fnLen q4,q2,q3,hmd.ns,hmd.nf⟩
      ·obtain ⟨g',hg'⟩ : ∃ g',fs[f]? = some g' := ⟨_,List.getElem?_eq_getElem (by rw [hfe]; exact (List.getElem?_eq_some_iff.1 hg).1)⟩
       obtain ⟨g2,e1,e2⟩ := hup f g' hg'
       rw [hg] at e1
       obtain rfl := Option.some.inj e1
       exact ⟨g',hg',by rw [HX.out]; exact e2⟩
      ·rw [HN.out]
       exact hbw.trans (hx2.below (by have := hbw.size; have := HN.out; omega) (fun b hb => by omega))
     have z0 : W20.cell? ⟨N + 1,0,none⟩ = some (.slice m.sA m.ss.length m.sC) := by rw [cell_of_row _ _ _ _ _ _ h2]; rfl
     have z1 : W20.cell? ⟨N + 1,1,none⟩ = some (.slice fA fs.length fC) := by rw [cell_of_row _ _ _ _ _ _ h2]; rfl
     clear hrb hmd hup hbr h1 h2 hx2 t9 hnw t0 tz hbw hmw
     rw [hfe] at y1 z1 hW20 HFIN
     rw [hfe]
     go_wp2
     exact bodyPost_ret (rrew_results _ _ _ _ _ _ rfl rfl z0 z1) rfl HFIN.out
    have hfI : (fs.length : Int) < (m.fs.length : Int) := by omega
    obtain ⟨g1,hg1⟩ : ∃ g1,n.fs[fs.length]? = some g1 := ⟨_,List.getElem?_eq_getElem (by rw [HNL.out]; exact hfn)⟩
    obtain ⟨g,hg,hwf⟩ := HNU.out _ g1 hg1
    have hgm := List.mem_of_getElem? hg
    obtain ⟨p0,p1,p2,p3⟩ := HOK.out.fn g hgm
    have hgi := hmw.fin g hgm
    obtain ⟨nb,no,hnA,hnb,hnc⟩ := hnw.frow (by intro e; rw [e] at hg1; simp at hg1)
    obtain ⟨fb,fo,hmA,hfb,hfc⟩ := hmw.frow (by intro e; rw [e] at hfn; simp at hfn)
    have HCA : Hid (∀ k u,g1.cells.toList[k]? = some u → wr.cell? ((⟨nb,no + fs.length * 8,none⟩ : Addr).add k) = some u) := fun k u hu => by rw [Addr.add_lit]; exact hnc _ g1 hg1 k u hu
    obtain ⟨N12,hN12⟩ : ∃ N,wr.heap.size = N := ⟨_,rfl⟩
    have hst : ∀ c : Array Value,c.size = 8 → (storeCells ⟨wr.heap.size,0,none⟩ g1.cells.toList).run Try.prog (wr.alloc (.cells c 50)) = .ok () (wr.alloc (.cells g1.cells 50)) := fun c hc =>
     run_storeCells_new (P := Try.prog) wr 50 c g1.cells (by show _ = some 8; kernel_rfl) hc (fnOne g1)
    obtain ⟨W12,hW12⟩ : ∃ W,wr.alloc (.cells g1.cells 50) = W := ⟨_,rfl⟩
    rw [hW12,hN12] at hst
    have hb12 : Below wr.heap.size wr W12 := by rw [← hW12]; exact (Below.refl _ _).alloc (Nat.le_refl _) _
    have hr12 : W12.heap[N12]? = some (.cells g1.cells 50 (0,0)) := by rw [← hW12,← hN12]; exact alloc_at _ _
    have hs12 : W12.heap.size = N12 + 1 := by rw [← hW12]; simp [hN12]
    obtain ⟨l,hl⟩ : ∃ l,fromL m X (fs.length : Int) = l := ⟨_,rfl⟩
    rw [hl] at hwf
    unfold WithFrom at hwf
    obtain ⟨frA,hfrA⟩ : ∃ A,g1.c.fromA = A := ⟨_,rfl⟩
    obtain ⟨frC,hfrC⟩ : ∃ C,g1.c.fromC = C := ⟨_,rfl⟩
    rw [hfrA,hfrC] at hwf
    have hGC : g1.cells = #[.string g.c.nm,.int .i64 g.c.par,.slice g.c.varsA g.c.nvars g.c.varsC,.bool g.c.rp,.string g.c.rto,.int .i64 g.c.rcl,.slice frA l.length frC,.slice g.c.insA g.c.ins.length g.c.insC] := by rw [hwf]; rfl
    have hr12' := hr12
    rw [hGC] at hr12'
    have e7 : W12.cell? ⟨N12,7,none⟩ = some (.slice g.c.insA g.c.ins.length g.c.insC) := by rw [cell_of_row _ _ _ _ _ _ hr12']; rfl
    have HFRG : Hid (∀ w',Ext (fun k => k = N + 1 ∨ RB ≤ k) W9 w' → IntRow w' frA (l.map fun n : Nat => (n : Int))) := fun w' hx => by
     have h1 := HFR.out w' hx g1 (List.mem_of_getElem? hg1)
     rw [hfrA] at h1
     have e : g1.frm = l.map fun n : Nat => (n : Int) := by rw [hwf]
     rw [e] at h1; exact h1
    have HLM : Hid (l.length ≤ maxLen) := by
     have h1 := (hnw.fin g1 (List.mem_of_getElem? hg1)).code.nfrom
     have e : g1.c.nfrom = l.length := by rw [hwf]
     unfold Hid; rw [e] at h1; exact h1
    have HWO : Hid (∀ W,Below wr.heap.size wr W → W.heap[N]? = some (.cells m.cells 25 (0,0)) ∧ m.inn W) := fun W hW => by
     have h1 := HNW.out W (hbr.trans (hW.mono (by have := hbr.size; have := HRB.out; omega)))
     exact ⟨h1.2.2.1,h1.2.2.2.2.2⟩
    have HMD := Lib.hid hmd
    have HUP := Lib.hid hup
    have HBR := Lib.hid hbr
    have HRBB := Lib.hid hrb
    have HGG := Lib.hid hg
    have HLL := Lib.hid hl
    have HB12 := Lib.hid hb12
    have HR12 := Lib.hid hr12'
    have HS12 := Lib.hid hs12
    have HN12 := Lib.hid hN12
    have HMA := Lib.hid hmA
    rw [hnA] at x1
    clear hnA hnc hnw hmw hgi hfc hwf hfrA hfrC hGC hr12 hr12' hs12 hb12 hW12 hmd hup hbr hrb hg hl t9 t0 tz hbw hmA hg1
    go_upto_region 20 with (refine wpList_load_at rfl 50 _ rfl ⟨nb,no + fs.length * 8,none⟩ rfl g1.cells _ HCA.out Try.underlying50 rfl (by kernel_rfl) ?_)
    clear hst x1 HCA
    go_wp2_with fail
    clear e7
    obtain ⟨wo,hwo⟩ : ∃ wo : World,wo = wr := ⟨_,rfl⟩
    rw [← hwo] at HWO HMD HBR HRBB HB12 HN12
    have hfb' : fb < wo.heap.size := by rw [hwo]; exact hfb
    clear hwo hnb hfb hN12
    go_loopw [13,14] (fun v c wq => RrJ m g W12 N12 v c wq) (fun _ c _ => g.c.ins.length - (intOf c).toNat)
    case atStart => exact ⟨0,none,0,[],fun _ => .slice none 0 0,Nat.zero_le _,rfl,rfl,rfl,World.ownsRow_nil _ _ _ _,fun q i hq => absurd hq (Nat.not_lt_zero _),fun q i hq => absurd hq (Nat.not_lt_zero _),Below.refl _ _⟩
    case round =>
     obtain ⟨k,ao,cap,il,mv,hk,rfl,rfl,hil,ho,hins,hmods,hbq⟩ := hrel
     have hbo : Below wo.heap.size wo wr := HB12.out.trans (hbq.mono HB12.out.size)
     have hr12q := (hbq.block N12 (by have := HS12.out; omega)).trans HR12.out
     have x7 : wr.cell? ⟨N12,7,none⟩ = some (.slice g.c.insA g.c.ins.length g.c.insC) := by rw [cell_of_row _ _ _ _ _ _ hr12q]; rfl
     obtain ⟨t0,hmw⟩ := HWO.out wr hbo
     have hgi := hmw.fin g hgm
     by_cases hkl : k < g.c.ins.length
     rotate_left
     ·have hke : k = g.c.ins.length := by omega
      subst hke
      obtain ⟨g2,hg2⟩ : ∃ g2 : Fn,g2 = ⟨{ g.c with fromA := frA,nfrom := l.length,fromC := frC,insA := ao,insC := cap,ins := il },g.vs,l.map fun n : Nat => (n : Int),g.c.ins.map (modesF m g)⟩ := ⟨_,rfl⟩
      have hcells : g2.cells = #[.string g.c.nm,.int .i64 g.c.par,.slice g.c.varsA g.c.nvars g.c.varsC,.bool g.c.rp,.string g.c.rto,.int .i64 g.c.rcl,.slice frA l.length frC,.slice ao g.c.ins.length cap] := by rw [hg2,← hil]; rfl
      obtain ⟨W15,hW15⟩ : ∃ W,wr.setCell ⟨N12,7,none⟩ (.slice ao g.c.ins.length cap) = W := ⟨_,rfl⟩
      have hx15 : Ext (· = N12) wr W15 := by rw [← hW15]; exact Ext.set1 _ _ _ _
      have hs15 : W15.heap.size = wr.heap.size := by rw [← hW15]; exact World.size_setCell _ _ _
      have hr15 : W15.heap[N12]? = some (.cells g2.cells 50 (0,0)) := by
       have := heap_setCell_same wr N12 7 _ _ (.slice ao g.c.ins.length cap) hr12q
       rw [hW15] at this
       rw [this,hcells]; rfl
      have f7 : wr.frozen? ⟨N12,7,none⟩ = false := frozen_of_row _ _ _ _ _ hr12q
      have hN12o := HN12.out
      have hbo15 : Below wo.heap.size wo W15 := hbo.trans (hx15.below hbo.size (fun b hb => by omega))
      have hRBo : RB + 1 ≤ wo.heap.size := (HMD.out.low)
      have hb915 : Below RB W9 W15 := HBR.out.trans (hbo15.mono (by omega))
      have hmd15 := HMD.out.below hbo15
      have hrb15 : W15.heap[RB]? = some (.cells #[.slice m.sA m.ss.length m.sC,.slice fA fs.length fC] 25 (0,0)) := (hbo15.block RB (by omega)).trans HRBB.out
      have hw915 : Below N w W15 := by
       obtain ⟨_,_,_,_,h1,_⟩ := HNW.out W15 hb915
       exact h1
      have HGI : Hid (∀ w',Ext (fun b => ownOf fA fs.length fC (fun b => b = N + 1 ∨ b = RB) b ∨ W15.heap.size ≤ b) W15 w' → g2.inn w') := by
       intro w' hx
       have hM : ∀ b,(ownOf fA fs.length fC (fun b => b = N + 1 ∨ b = RB) b ∨ W15.heap.size ≤ b) → b = N + 1 ∨ (RB ≤ b ∧ b < N12) ∨ W15.heap.size ≤ b := by
        rintro b ((hb | hb | hb) | hb)
        ·have := HMD.out.fown.lt b hb; exact .inr (.inl ⟨by omega,by omega⟩)
        ·exact .inl hb
        ·exact .inr (.inl ⟨by omega,by omega⟩)
        ·exact .inr (.inr hb)
       have hx2 : Ext (fun b => b = N + 1 ∨ (RB ≤ b ∧ b < N12) ∨ W15.heap.size ≤ b) W15 w' := hx.mono hM
       have hgi2 : g.inn w' := by
        have h1 : Below N w w' := hw915.trans (hx2.below (by have := hw915.size; have := HN.out; omega) (fun b hb => by have := hw915.size; have := HN.out; have := HBR.out.size; have := HRB.out; omega))
        exact (HIN.out.mo.below (by rw [HN.out]; exact h1)).fin g hgm
       have hfrm : IntRow w' frA (l.map fun n : Nat => (n : Int)) := by
        refine HFRG.out w' ?_
        have h1 : Ext (fun b => b = N + 1 ∨ RB ≤ b) W9 W15 := by
         have := Ext.of_below_size (M := fun b => b = N + 1 ∨ RB ≤ b) (w := W9) (w' := W15) (by rw [HRB.out]; exact hb915)
         exact this
        exact h1.trans hx2 (fun b hb => by
         rcases hb with hb | hb | hb
         ·exact .inl (.inl hb)
         ·exact .inl (.inr hb.1)
         ·exact .inl (.inr (by have := hb915.size; have := HRB.out; omega)))
       have hx3 : Ext (fun b => b = N12 ∨ b = N + 1 ∨ (RB ≤ b ∧ b < N12) ∨ W15.heap.size ≤ b) wr w' := (hx15.mono (M' := fun b => b = N12 ∨ b = N + 1 ∨ (RB ≤ b ∧ b < N12) ∨ W15.heap.size ≤ b) (fun _ h => .inl h)).trans hx2 (fun b hb => .inl (.inr hb))
       have hNN : N + 1 < N12 := by omega
       have hkeep : ∀ b,N12 + 1 ≤ b → b < wr.heap.size → ¬ (b = N12 ∨ b = N + 1 ∨ (RB ≤ b ∧ b < N12) ∨ W15.heap.size ≤ b) := fun b h1 h2 h3 => by omega
       have hrow2 : RowOf Ins.cells 13 w' w'.heap.size ao il := by
        have h1 := ownsRow_ext ho hx3 (fun b hb => hkeep b (ho.lt b hb).1 (ho.lt b hb).2)
        exact rowOf_owns (xs := il) (e := 62) (base := N12 + 1) (cap := cap) insLen (by rw [hil]; exact h1)
       have hrest2 : ∀ (q : Nat) (i : Ins),g.c.ins[q]? = some i → ∃ (ao : Option Addr) (cp : Nat),mv q = .slice ao (modesF m g i).length cp ∧ IntRow w' ao (modesF m g i) := by
        intro q i hi
        obtain ⟨h1,_⟩ := hmods q i (List.getElem?_eq_some_iff.1 hi).1 hi
        obtain ⟨a2,c2,e⟩ := h1.isSlice
        rw [e] at h1
        exact ⟨a2,c2,e,intRow_own h1 hx3 (fun b hb => hkeep b (h1.lt b hb).1 (h1.lt b hb).2)⟩
       have hget : ∀ (q : Nat) (y : Ins),il[q]? = some y → ∃ i,g.c.ins[q]? = some i ∧ y = { i with modeV := mv q } := by
        intro q y hq
        have hql : q < g.c.ins.length := by rw [← hil]; exact (List.getElem?_eq_some_iff.1 hq).1
        obtain ⟨i,hi⟩ : ∃ i,g.c.ins[q]? = some i := ⟨_,List.getElem?_eq_getElem hql⟩
        have h1 := hins q i hql hi
        rw [hq] at h1
        exact ⟨i,hi,Option.some.inj h1⟩
       rw [hg2]
       refine ⟨⟨hrow2,fun y hy => ?_,by show il.length ≤ maxLen; rw [hil]; exact hgi2.code.len,⟨g.vs,hgi2.nvars.symm,hgi2.vars⟩,hgi2.code.nvars,HLM.out,⟨_,by simp,hfrm⟩⟩,hgi2.nm,hgi2.nvars,hgi2.vars,by simp,hfrm,by show (g.c.ins.map _).length = il.length; rw [List.length_map,hil],fun q y ll hy hlq => ?_⟩
       ·obtain ⟨q,hq⟩ := List.mem_iff_getElem?.1 hy
        obtain ⟨i,hi,rfl⟩ := hget q y hq
        obtain ⟨⟨z1,_⟩,z3⟩ := hgi2.code.args i (List.mem_of_getElem? hi)
        obtain ⟨ao',cp,e,_⟩ := hrest2 q i hi
        exact ⟨⟨z1,_,_,_,e⟩,z3⟩
       ·obtain ⟨i,hi,rfl⟩ := hget q y hy
        have hlq' : (g.c.ins.map (modesF m g))[q]? = some ll := hlq
        rw [List.getElem?_map,hi] at hlq'
        obtain rfl : modesF m g i = ll := by simpa using hlq'
        exact hrest2 q i hi
      have hrw : RewFn m X fs.length g g2 := by
       rw [hg2]
       exact ⟨rfl,rfl,rfl,rfl,rfl,rfl,by rw [HLL.out],hil,fun q i hq => ⟨mv q,hins q i (List.getElem?_eq_some_iff.1 hq).1 hq⟩,rfl⟩
      have HUP2 : Hid (∀ (f : Nat) (g' : Fn),(fs ++ [g2])[f]? = some g' → ∃ g,m.fs[f]? = some g ∧ RewFn m X f g g') := by
       intro f q hq
       rcases Nat.lt_or_ge f fs.length with hlt | hge
       ·rw [List.getElem?_append_left hlt] at hq
        exact HUP.out f q hq
       ·have hfe : f = fs.length := by
         have := (List.getElem?_eq_some_iff.1 hq).1
         rw [List.length_append] at this; simp at this; omega
        subst hfe
        rw [List.getElem?_append_right (Nat.le_refl _),Nat.sub_self] at hq
        have e : g2 = q := by simpa using hq
        rw [← e]
        exact ⟨g,HGG.out,hrw⟩
      have b1 : W15.cell? ⟨RB,1,none⟩ = some (.slice fA fs.length fC) := by rw [cell_of_row _ _ _ _ _ _ hrb15]; rfl
      have HLD : Hid (∀ k u,g2.cells.toList[k]? = some u → W15.cell? ((⟨N12,0,none⟩ : Addr).add k) = some u) := fun k u hu => by
       rw [Addr.add_lit,Nat.zero_add,cell_of_row _ _ _ _ _ _ hr15]; simpa using hu
      have HCL8 := Lib.hid hcells
      rw [HCL8.out] at HLD
      have HMD15 := Lib.hid hmd15
      have HSTEP : Hid (∀ (g8 cap8 : Nat) (w8 : World) (o : Obj),w8.ownsRow (RB + 1) 50 8 (.slice (some ⟨g8,0,none⟩) (fs.length + 1) cap8) (fs.length + 1) ((fs.flatMap fun g => g.cells.toList) ++ [.string g.c.nm,.int .i64 g.c.par,.slice g.c.varsA g.c.nvars g.c.varsC,.bool g.c.rp,.string g.c.rto,.int .i64 g.c.rcl,.slice frA l.length frC,.slice ao g.c.ins.length cap]) →
        (W15.alloc o).grownBy w8 (Value.slice fA fs.length fC).ownBlock → ((Value.slice fA fs.length fC).ownBlock = some g8 ∨ g8 = (W15.alloc o).heap.size) →
        (w8.cell? ⟨RB,1,none⟩ = some (.slice fA fs.length fC) ∧ w8.frozen? ⟨RB,1,none⟩ = false) ∧ RrI m X (N + 1) RB W9 (.int .i64 ((fs.length : Int) + 1)) (w8.setCell ⟨RB,1,none⟩ (.slice (some ⟨g8,0,none⟩) (fs.length + 1) cap8))) := by
       intro g8 cap8 w8 o ho8 hgr hat
       have hx8 : Ext (fun b => (Value.slice fA fs.length fC).ownBlock = some b) W15 w8 := ext_grown ((Ext.refl _ _).alloc _) hgr
       have hrb8 := hx8.heap hrb15 (fun hb => by have := (hmd15.fown.lt RB hb).1; omega)
       have hx9 : Ext (· = RB) w8 (w8.setCell ⟨RB,1,none⟩ (.slice (some ⟨g8,0,none⟩) (fs.length + 1) cap8)) := Ext.set1 _ _ _ _
       refine ⟨⟨by rw [cell_of_row _ _ _ _ _ _ hrb8]; rfl,frozen_of_row _ _ _ _ _ hrb8⟩,fs.length + 1,fs ++ [g2],some ⟨g8,0,none⟩,cap8,hfn,by simp,by simp,?_,?_,HUP2.out,?_⟩
       ·rw [List.length_append]
        exact heap_setCell_same w8 RB 1 _ _ (.slice (some ⟨g8,0,none⟩) (fs.length + 1) cap8) hrb8
       ·exact MdM.push hmd15 (fun b hb => by omega) (Below.refl _ _) (by rw [HCL8.out]; exact ho8) hgr hat (hx9.mono fun b hb => .inr hb) (by unfold maxLen; omega) HGI.out
       ·exact hb915.trans (((hx8.mono (M' := fun b => RB ≤ b) (fun b hb => by have := (hmd15.fown.lt b hb).1; omega)).trans hx9 (fun b hb => .inl (by rw [hb]; exact Nat.le_refl _))).below (by have := hb915.size; have := HRB.out; omega) (fun b hb => hb))
      have HW15 := Lib.hid hW15
      have hfs60 : fs.length ≤ 60 := by omega
      clear hg2 hcells hW15 hx15 hs15 hr15 hr12q hbo hbo15 hb915 hmd15 hrb15 hw915 hrw ho hins hmods hbq hgi hmw t0 hil
      obtain ⟨i0,hi0,hi1,hi2,hi3⟩ := info_parts info_cod
      go_upto_region 28 with (fail)
      rw [HW15.out]
      clear x7 f7
      go_wp2_with (first
       | (refine wpList_load_at rfl 50 _ rfl ⟨N12,0,none⟩ rfl _ _ HLD.out Try.underlying50 rfl (by kernel_rfl) ?_)
       | (at_builtin; refine wpList_append_lies _ rfl (.tmp 105) (.tmp 107) 23 rfl (RB + 1) 50 i0 _ 8 128 Try.underlying23 hi0 hi1 hi2 hi3 rfl (by decide) (.slice fA fs.length fC) fs.length (fs.flatMap fun g => g.cells.toList) rfl (ownsRow_below HMD15.out.fown ((Below.refl W15.heap.size W15).alloc (Nat.le_refl _) _)) ⟨W15.heap.size,0,none⟩ 1 1 [.string g.c.nm,.int .i64 g.c.par,.slice g.c.varsA g.c.nvars g.c.varsC,.bool g.c.rp,.string g.c.rto,.int .i64 g.c.rcl,.slice frA l.length frC,.slice ao g.c.ins.length cap] rfl rfl (cells_new _ _ _) (by simp [Value.oneCell']) (by decide) (by unfold maxLen; omega) (by omega) (by have := HMD15.out.low; rw [World.size_alloc]; exact Nat.le_succ_of_le this) _ rfl ?_; intro g8 cap8 w8 hown8 hgrow8 hat8 hlt8; obtain ⟨⟨u1,u2⟩,hnx⟩ := HSTEP.out g8 cap8 w8 _ hown8 hgrow8 hat8; have HNX := Lib.hid hnx; clear hown8 hgrow8 hat8 hlt8 hnx))
      go_roundw
      case rel => exact HNX.out
      case measure => simp [intOf]; omega
     have hkI : (k : Int) < (g.c.ins.length : Int) := by omega
     obtain ⟨i,hi⟩ : ∃ i,g.c.ins[k]? = some i := ⟨_,List.getElem?_eq_getElem hkl⟩
     have him := List.mem_of_getElem? hi
     obtain ⟨ib,io,hiA,hib,hic⟩ := hgi.code.row (by intro e; rw [e] at hkl; simp at hkl)
     have HCB : Hid (∀ q u,i.cells.toList[q]? = some u → wr.cell? ((⟨ib,io + k * 13,none⟩ : Addr).add q) = some u) := fun q u hu => by rw [Addr.add_lit]; exact hic k i hi q u hu
     obtain ⟨N13,hN13⟩ : ∃ z,wr.heap.size = z := ⟨_,rfl⟩
     have hone : i.cells.all (·.oneCell') = true := by
      obtain ⟨⟨⟨a1,c1,e1⟩,a2,n2,c2,e2⟩,_⟩ := hgi.code.args i him
      exact insOne ⟨by rw [e1]; rfl,by rw [e2]; rfl⟩
     have hst : ∀ c : Array Value,c.size = 13 → (storeCells ⟨wr.heap.size,0,none⟩ i.cells.toList).run Try.prog (wr.alloc (.cells c 62)) = .ok () (wr.alloc (.cells i.cells 62)) := fun c hc =>
      run_storeCells_new (P := Try.prog) wr 62 c i.cells (by show _ = some 13; kernel_rfl) hc hone
     obtain ⟨W13,hW13⟩ : ∃ W,wr.alloc (.cells i.cells 62) = W := ⟨_,rfl⟩
     rw [hW13,hN13] at hst
     have hb13 : Below wr.heap.size wr W13 := by rw [← hW13]; exact (Below.refl _ _).alloc (Nat.le_refl _) _
     have hr13 : W13.heap[N13]? = some (.cells i.cells 62 (0,0)) := by rw [← hW13,← hN13]; exact alloc_at _ _
     have hs13 : W13.heap.size = N13 + 1 := by rw [← hW13]; simp [hN13]
     have hbo13 : Below wo.heap.size wo W13 := hbo.trans (hb13.mono hbo.size)
     obtain ⟨S,hS⟩ : ∃ S : World → Prop,S = Below W13.heap.size W13 := ⟨_,rfl⟩
     have HSB : Hid (∀ w',S w' ↔ Below W13.heap.size W13 w') := fun w' => by rw [hS]
     have HSO : Hid (∀ w',S w' → wr.heap[N]? = wr.heap[N]? ∧ w'.heap[N]? = some (.cells m.cells 25 (0,0)) ∧ m.inn w') := fun w' h => by
      have h1 := HWO.out w' (hbo13.trans (((HSB.out w').1 h).mono hbo13.size))
      exact ⟨rfl,h1.1,h1.2⟩
     have HSS : Hid (∀ w',S w' → w'.cell? ⟨N,1,none⟩ = some (.slice (some ⟨fb,fo,none⟩) m.fs.length m.fC) ∧ True) := fun w' h => ⟨by rw [cell_of_row _ _ _ _ _ _ (HSO.out w' h).2.1,← HMA.out]; rfl,trivial⟩
     have HSM : Hid (∀ w',S w' → ∀ k u,m.cells.toList[k]? = some u → w'.cell? ((⟨N,0,none⟩ : Addr).add k) = some u) := fun w' h k u hu => by
      rw [Addr.add_lit,Nat.zero_add,cell_of_row _ _ _ _ _ _ (HSO.out w' h).2.1]; simpa using hu
     have HSG : Hid (∀ w',S w' → ∀ k u,g.cells.toList[k]? = some u → w'.cell? ((⟨fb,fo + fs.length * 8,none⟩ : Addr).add k) = some u) := fun w' h k u hu => by
      obtain ⟨fb2,fo2,e1,_,e3⟩ := (HSO.out w' h).2.2.frow (by intro e; rw [e] at hfn; simp at hfn)
      rw [HMA.out] at e1
      simp only [Option.some.injEq,Addr.mk.injEq,and_true] at e1
      rw [Addr.add_lit,e1.1,e1.2]; exact e3 _ g HGG.out k u hu
     have HSI : Hid (∀ w',S w' → ∀ k u,i.cells.toList[k]? = some u → w'.cell? ((⟨N13,0,none⟩ : Addr).add k) = some u) := fun w' h k u hu => by
      have h1 := (((HSB.out w').1 h).block N13 (by omega)).trans hr13
      rw [Addr.add_lit,Nat.zero_add,cell_of_row _ _ _ _ _ _ h1]; simpa using hu
     have hS0 : S W13.drew := (HSB.out _).2 (Below.refl _ _).drew
     have HMO := Lib.hid (rmode_calls W13.drew m (HSO.out _ hS0).2.2 HOK.out _ g HGG.out i him)
     obtain ⟨ML,hML⟩ : ∃ ML,modesF m g i = ML := ⟨_,rfl⟩
     rw [hML] at HMO
     have HML := Lib.hid hML
     have HAFT : Hid (∀ (w14 : World) (ao2 : Option Addr) (cp : Nat),Below W13.heap.size W13 w14 → OwnI w14 W13.heap.size (.slice ao2 ML.length cp) ML → ∀ W14 : World,w14.setCell ⟨N13,8,none⟩ (.slice ao2 ML.length cp) = W14 →
       (w14.cell? ⟨N13,8,none⟩ = some i.modeV ∧ w14.frozen? ⟨N13,8,none⟩ = false) ∧ Below wr.heap.size wr W14 ∧
       (∀ k u,[.int .i64 i.op,.int .i64 i.d,.int .i64 i.a,.int .i64 i.b,.int .i64 i.f,.int .i64 i.n,.string i.sign,i.argsV,.slice ao2 ML.length cp,.int .i64 i.to,.int .i64 i.els,.int .i64 i.ln,.int .i64 i.cl][k]? = some u → W14.cell? ((⟨N13,0,none⟩ : Addr).add k) = some u) ∧
       ∀ (g8 cap8 : Nat) (w8 : World) (o : Obj),w8.ownsRow (N12 + 1) 62 13 (.slice (some ⟨g8,0,none⟩) (k + 1) cap8) (k + 1) ((il.flatMap fun i => i.cells.toList) ++ [.int .i64 i.op,.int .i64 i.d,.int .i64 i.a,.int .i64 i.b,.int .i64 i.f,.int .i64 i.n,.string i.sign,i.argsV,.slice ao2 ML.length cp,.int .i64 i.to,.int .i64 i.els,.int .i64 i.ln,.int .i64 i.cl]) →
        (W14.alloc o).grownBy w8 (Value.slice ao k cap).ownBlock → ((Value.slice ao k cap).ownBlock = some g8 ∨ g8 = (W14.alloc o).heap.size) → RrJ m g W12 N12 (.slice (some ⟨g8,0,none⟩) (k + 1) cap8) (.int .i64 ((k : Int) + 1)) w8) := by
      intro w14 ao2 cp hb14 hown14 W14 hW14
      have hr14 := (hb14.block N13 (by omega)).trans hr13
      have hx14 : Ext (· = N13) w14 W14 := by rw [← hW14]; exact Ext.set1 _ _ _ _
      have hs14 : W14.heap.size = w14.heap.size := by rw [← hW14]; exact World.size_setCell _ _ _
      have hr14' : W14.heap[N13]? = some (.cells ({ i with modeV := .slice ao2 ML.length cp } : Ins).cells 62 (0,0)) := by
       have := heap_setCell_same w14 N13 8 _ _ (.slice ao2 ML.length cp) hr14
       rw [hW14] at this; exact this
      have hbw14 : Below wr.heap.size wr w14 := hb13.trans (hb14.mono hb13.size)
      have hbW14 : Below wr.heap.size wr W14 := hbw14.trans (hx14.below hbw14.size (fun k hk => by rw [hk,hN13]; exact Nat.le_refl _))
      refine ⟨⟨by rw [cell_of_row _ _ _ _ _ _ hr14]; rfl,frozen_of_row _ _ _ _ _ hr14⟩,hbW14,fun k u hu => by rw [Addr.add_lit,Nat.zero_add,cell_of_row _ _ _ _ _ _ hr14',← Array.getElem?_toList]; exact hu,fun g8 cap8 w8 o hown8 hgr hat => ?_⟩
      have hx8 : Ext (fun b => (Value.slice ao k cap).ownBlock = some b) W14 w8 := ext_grown ((Ext.refl _ _).alloc _) hgr
      have hN12 := HS12.out
      have hN1213 : N12 + 1 ≤ N13 := by have := hbq.size; omega
      refine ⟨k + 1,some ⟨g8,0,none⟩,cap8,il ++ [{ i with modeV := .slice ao2 ML.length cp }],fun q => if q = k then .slice ao2 ML.length cp else mv q,hkl,by simp,rfl,by simp [hil],?_,fun q j hq hj => ?_,fun q j hq hj => ?_,?_⟩
      ·rw [List.flatMap_append]; simpa [Ins.cells] using hown8
      ·by_cases e : q = k
       ·subst e
        rw [hi] at hj
        obtain rfl := Option.some.inj hj
        rw [List.getElem?_append_right (by omega),hil,Nat.sub_self]; simp
       ·rw [List.getElem?_append_left (by omega),hins q j (by omega) hj]
        simp only [if_neg e]
      ·by_cases e : q = k
       ·subst e
        rw [hi] at hj
        obtain rfl := Option.some.inj hj
        dsimp only
        rw [if_pos rfl,HML.out]
        have hl : ∀ b,(Value.slice ao2 ML.length cp).ownBlock = some b → N13 + 1 ≤ b ∧ b < w14.heap.size := fun b hb => by have := hown14.lt b hb; omega
        have o14 : OwnI W14 W13.heap.size (.slice ao2 ML.length cp) ML := ownsRow_ext hown14 hx14 (fun b hb e => by have := hl b hb; omega)
        have o8 : OwnI w8 W13.heap.size (.slice ao2 ML.length cp) ML := ownsRow_ext o14 hx8 (fun b hb e => by have := hl b hb; have := (ho.lt b e).2; omega)
        refine ⟨o8.mono (by omega),fun b hb e => ?_⟩
        have h1 := hl b hb
        have e2 : g8 = b := by have h : some g8 = some b := e; exact Option.some.inj h
        rcases hat with h | h
        ·have := (ho.lt g8 h).2; omega
        ·rw [World.size_alloc] at h; omega
       ·dsimp only
        rw [if_neg e]
        obtain ⟨h1,h2⟩ := hmods q j (by omega) hj
        have hl := fun b hb => h1.lt b hb
        have h3 : OwnI w14 (N12 + 1) (mv q) (modesF m g j) := ownsRow_below h1 hbw14
        have o14 : OwnI W14 (N12 + 1) (mv q) (modesF m g j) := ownsRow_ext h3 hx14 (fun b hb e => by have := hl b hb; omega)
        have o8 : OwnI w8 (N12 + 1) (mv q) (modesF m g j) := ownsRow_ext o14 hx8 (fun b hb e => h2 b hb e)
        refine ⟨o8,fun b hb e => ?_⟩
        have e2 : g8 = b := by have h : some g8 = some b := e; exact Option.some.inj h
        rcases hat with h | h
        ·exact h2 b hb (by rw [← e2]; exact h)
        ·have := hl b hb; rw [World.size_alloc] at h; have := hbW14.size; omega
      ·have h1 : Below W12.heap.size W12 W14 := hbq.trans (hbW14.mono hbq.size)
       exact h1.trans (hx8.below h1.size (fun b hb => by have := (ho.lt b hb).1; omega))
     have HOW : Hid (wr.ownsRow (N12 + 1) 62 13 (.slice ao k cap) k (il.flatMap fun i => i.cells.toList)) := ho
     have HONE : Hid (∀ (ao2 : Option Addr) (cp : Nat),∀ u ∈ [Value.int .i64 i.op,.int .i64 i.d,.int .i64 i.a,.int .i64 i.b,.int .i64 i.f,.int .i64 i.n,.string i.sign,i.argsV,.slice ao2 ML.length cp,.int .i64 i.to,.int .i64 i.els,.int .i64 i.ln,.int .i64 i.cl],u.oneCell' = true) := fun ao2 cp => by
      obtain ⟨⟨⟨a1,c1,e1⟩,_⟩,_⟩ := hgi.code.args i him
      rw [e1]; simp [Value.oneCell']
     have HN13 := Lib.hid hN13
     have HW13 := Lib.hid hW13
     have hkn : k ≤ 3000 := by omega
     have HN1213 : Hid (N12 + 1 ≤ N13) := by have := hbq.size; have := HS12.out; unfold Hid; omega
     clear hbo hr12q t0 hmw hgi hi him hic hone hW13 hb13 hr13 hs13 hbo13 hS hML ho hins hmods hil hib
     rw [hiA] at x7
     clear hiA
     go_upto_region 25 with (first | (refine wpList_load_at rfl 62 _ rfl ⟨ib,io + k * 13,none⟩ rfl i.cells _ HCB.out Try.underlying62 rfl (by kernel_rfl) ?_))
     clear hst x7 HCB hN13
     refine wp_region_J 9 S (by kernel_rfl) ?_
     refine wpAnyJ_take (i := 0) (v := .agg m.cells) rfl (by kernel_rfl) (by kernel_rfl) (by kernel_rfl) (by kernel_rfl) (fun _ _ _ h => h) (load_yields (by rfl) 25 _ rfl ⟨N,0,none⟩ rfl m.cells _ HSM.out Try.underlying25 rfl (by kernel_rfl)) (by assumption) ?_
     try go_simp
     refine wpAnyJ_take (i := 1) rfl (by kernel_rfl) (by kernel_rfl) (by kernel_rfl) (by kernel_rfl) (fun _ _ _ h => h) (Or.inl ⟨by rfl,fun w hSw => by obtain ⟨s1,s2⟩ := HSS.out w hSw; go_simp; try rfl⟩) (by assumption) ?_
     try go_simp
     refine wpAnyJ_take (i := 2) rfl (by kernel_rfl) (by kernel_rfl) (by kernel_rfl) (by kernel_rfl) (fun _ _ _ h => h) (Or.inl ⟨by rfl,fun w hSw => by obtain ⟨s1,s2⟩ := HSS.out w hSw; go_simp; try rfl⟩) (by assumption) ?_
     try go_simp
     refine wpAnyJ_take (i := 3) rfl (by kernel_rfl) (by kernel_rfl) (by kernel_rfl) (by kernel_rfl) (fun _ _ _ h => h) (Or.inl ⟨by rfl,fun w hSw => by obtain ⟨s1,s2⟩ := HSS.out w hSw; go_simp; try rfl⟩) (by assumption) ?_
     try go_simp
     refine wpAnyJ_take (i := 4) rfl (by kernel_rfl) (by kernel_rfl) (by kernel_rfl) (by kernel_rfl) (fun _ _ _ h => h) (Or.inl ⟨by rfl,fun w hSw => by obtain ⟨s1,s2⟩ := HSS.out w hSw; go_simp; try rfl⟩) (by assumption) ?_
     try go_simp
     refine wpAnyJ_take (i := 5) (v := .agg g.cells) rfl (by kernel_rfl) (by kernel_rfl) (by kernel_rfl) (by kernel_rfl) (fun _ _ _ h => h) (load_yields (by rfl) 50 _ rfl ⟨fb,fo + fs.length * 8,none⟩ rfl g.cells _ HSG.out Try.underlying50 rfl (by kernel_rfl)) (by assumption) ?_
     try go_simp
     refine wpAnyJ_take (i := 6) (v := .agg i.cells) rfl (by kernel_rfl) (by kernel_rfl) (by kernel_rfl) (by kernel_rfl) (fun _ _ _ h => h) (load_yields (by rfl) 62 _ rfl ⟨N13,0,none⟩ rfl i.cells _ HSI.out Try.underlying62 rfl (by kernel_rfl)) (by assumption) ?_
     try go_simp
     refine wpAnyJ_one (i := 7) (by kernel_rfl) (by decide) rfl fun K' hK => ?_
     rw [if_pos (by rfl)]
     go_simp
     go_at_call 48
     refine HMO.out.mono ?_
     rintro e w14 ⟨ao2,cp,rfl,hown14,hb14⟩
     have hS14 : S w14 := (HSB.out _).2 (((HSB.out _).1 hS0).trans (hb14.mono ((HSB.out _).1 hS0).size))
     obtain ⟨W14,hW14⟩ : ∃ W,w14.setCell ⟨N13,8,none⟩ (.slice ao2 ML.length cp) = W := ⟨_,rfl⟩
     obtain ⟨⟨c8,f8⟩,hbW14,hld,hstp⟩ := HAFT.out w14 ao2 cp ((HSB.out _).1 hS14) hown14 W14 hW14
     have HLD := Lib.hid hld
     have HSTEP := Lib.hid hstp
     have HOW14 : Hid (W14.ownsRow (N12 + 1) 62 13 (.slice ao k cap) k (il.flatMap fun i => i.cells.toList)) := ownsRow_below HOW.out hbW14
     have HLOW : Hid (N12 + 1 ≤ W14.heap.size) := by have := hbW14.size; have := HN13.out; have := HN1213.out; unfold Hid; omega
     have HW14 := Lib.hid hW14
     clear hown14 hb14 hW14 hbW14 hld hstp HMO HAFT
     refine hK _ _ hS14 ?_
     clear hK
     try go_simp
     refine wpAnyJ_take (i := 8) (v := .pointer (some ⟨N13,8,none⟩)) rfl (by kernel_rfl) (by kernel_rfl) (by kernel_rfl) (by kernel_rfl) (fun _ _ _ h => h) (Or.inl ⟨by rfl,fun w hSw => by go_simp; try rfl⟩) (by assumption) ?_
     try go_simp
     refine wpAnyJ_k (by kernel_rfl) rfl fun K' hK => ?_
     rw [if_pos (by rfl)]
     go_simp
     rw [HW14.out]
     refine hK _ _ ?_
     clear hK c8 f8
     try go_simp
     refine wpAny_end 10 rfl (by kernel_rfl) (by kernel_rfl) (· = W14) rfl ?_
     dsimp only [List.drop]
     refine wpQuiet_nil ?_
     intro w' hw'
     rw [hw']
     clear hw' w' hS0 hS14
     obtain ⟨i0,hi0,hi1,hi2,hi3⟩ := info_parts info_ins
     go_wp2_with (first
      | (refine wpList_load_at rfl 62 _ rfl ⟨N13,0,none⟩ rfl _ _ HLD.out Try.underlying62 rfl (by kernel_rfl) ?_)
      | (at_builtin; refine wpList_append_lies _ rfl (.tmp 98) (.tmp 100) 48 rfl (N12 + 1) 62 i0 _ 13 144 Try.underlying48 hi0 hi1 hi2 hi3 rfl (by decide) (.slice ao k cap) k (il.flatMap fun i => i.cells.toList) rfl (ownsRow_below HOW14.out ((Below.refl W14.heap.size W14).alloc (Nat.le_refl _) _)) ⟨W14.heap.size,0,none⟩ 1 1 [.int .i64 i.op,.int .i64 i.d,.int .i64 i.a,.int .i64 i.b,.int .i64 i.f,.int .i64 i.n,.string i.sign,i.argsV,.slice ao2 ML.length cp,.int .i64 i.to,.int .i64 i.els,.int .i64 i.ln,.int .i64 i.cl] rfl rfl (cells_new _ _ _) (HONE.out ao2 cp) (by decide) (by unfold maxLen; omega) (by omega) (by have := HLOW.out; rw [World.size_alloc]; omega) _ rfl ?_; intro g8 cap8 w8 hown8 hgrow8 hat8 hlt8; have HNX := Lib.hid (HSTEP.out g8 cap8 w8 _ hown8 hgrow8 hat8); clear hown8 hgrow8 hat8 hlt8))
     go_roundw
     case rel => exact HNX.out
     case measure => simp [intOf]; omega
  have hfI : (f : Int) < (m.fs.length : Int) := by omega
  obtain ⟨g,hg⟩ : ∃ g,m.fs[f]? = some g := ⟨_,List.getElem?_eq_getElem hfl⟩
  have hgm := List.mem_of_getElem? hg
  obtain ⟨p0,p1,p2,p3⟩ := HOK.out.fn g hgm
  have hgi := hmi.fin g hgm
  have HNV : Hid (g.c.nvars = g.vs.length) := hgi.nvars
  obtain ⟨fb,fo,hfA,hfb,hfc⟩ := hmi.frow (by intro e; rw [e] at hfl; simp at hfl)
  obtain ⟨B,hB⟩ : ∃ B,wr.heap.size = B := ⟨_,rfl⟩
  obtain ⟨S,hS⟩ : ∃ S : World → Prop,S = Below wr.heap.size wr := ⟨_,rfl⟩
  have HSB : Hid (∀ w',S w' ↔ Below wr.heap.size wr w') := fun w' => by rw [hS]
  have HSS : Hid (∀ w',S w' → w'.cell? ⟨N,1,none⟩ = some (.slice (some ⟨fb,fo,none⟩) m.fs.length m.fC) ∧ w'.cell? ⟨fb,fo + f * 8 + 2,none⟩ = some (.slice g.c.varsA g.vs.length g.c.varsC)) := fun w' h => by
   have h1 := (HSB.out w').1 h
   refine ⟨?_,?_⟩
   ·rw [← hfA]; exact below_cellE h1 y1
   ·have := below_cellE h1 (hfc f g hg 2 _ rfl)
    rw [HNV.out] at this; exact this
  have HSL : Hid (∀ w',S w' → ∀ k u,#[.bool g.c.rp,.string g.c.rto,.int .i64 g.c.rcl].toList[k]? = some u → w'.cell? ((⟨fb,fo + f * 8 + 3,none⟩ : Addr).add k) = some u) := fun w' h k u hu => by
   have h1 := (HSB.out w').1 h
   rw [Addr.add_lit]
   have hk : k < 3 := (List.getElem?_eq_some_iff.1 hu).1
   have := below_cellE h1 (hfc f g hg (3 + k) u (by match k,hk,hu with
    | 0,_,hu => exact hu
    | 1,_,hu => exact hu
    | 2,_,hu => exact hu))
   rw [← Nat.add_assoc] at this; exact this
  obtain ⟨z2,z3⟩ := rowOf_flat vrLen (by decide) hgi.vars
  have HVN : Hid (∀ w',S w' → ∀ ad,g.c.varsA = some ad → ∀ j u,(g.vs.flatMap fun a => a.cells.toList)[j]? = some u → w'.cell? (ad.add j) = some u) := fun w' h ad e j u hu => below_cellE ((HSB.out w').1 h) (z3 ad e j u hu)
  have HV0 : Hid (g.c.varsA = none → g.vs.length = 0) := z2
  obtain ⟨WD,hWD⟩ : ∃ W,wr.drew = W := ⟨_,rfl⟩
  have hbD : Below B wr WD := by rw [← hWD]; exact (Below.refl _ _).drew
  have hS0 : S WD := (HSB.out _).2 (by rw [hB]; exact hbD)
  obtain ⟨i0,hi0,hi1,hi2,hi3⟩ := info_parts info_vr
  have HALL := Lib.hid hall
  have HBR := Lib.hid hbr
  have HG := Lib.hid hg
  have HBB := Lib.hid hB
  clear hall hbr hg z0 z1 hbw hmi hgi hfc z2 z3 hS
  rw [hfA] at y1
  clear hfA
  go_wp2_with fail
  clear y1
  go_cut [6] from 22 to 57 (fun s6 wc => LvR B g s6 wc ∧ Below B wr wc)
  case first =>
   refine wp_region_J 15 S (by kernel_rfl) ?_
   rw [hWD]
   refine wpAnyJ_take (i := 1) rfl (by kernel_rfl) (by kernel_rfl) (by kernel_rfl) (by kernel_rfl) (fun _ _ _ h => h) (Or.inl ⟨by rfl,fun w hSw => by obtain ⟨s1,s2⟩ := HSS.out w hSw; go_simp; try rfl⟩) (by assumption) ?_
   try go_simp
   refine wpAnyJ_take (i := 2) rfl (by kernel_rfl) (by kernel_rfl) (by kernel_rfl) (by kernel_rfl) (fun _ _ _ h => h) (Or.inl ⟨by rfl,fun w hSw => by obtain ⟨s1,s2⟩ := HSS.out w hSw; go_simp; try rfl⟩) (by assumption) ?_
   try go_simp
   refine wpAnyJ_take (i := 3) rfl (by kernel_rfl) (by kernel_rfl) (by kernel_rfl) (by kernel_rfl) (fun _ _ _ h => h) (Or.inl ⟨by rfl,fun w hSw => by obtain ⟨s1,s2⟩ := HSS.out w hSw; go_simp; try rfl⟩) (by assumption) ?_
   try go_simp
   refine wpAnyJ_take (i := 4) rfl (by kernel_rfl) (by kernel_rfl) (by kernel_rfl) (by kernel_rfl) (fun _ _ _ h => h) (Or.inl ⟨by rfl,fun w hSw => by obtain ⟨s1,s2⟩ := HSS.out w hSw; go_simp; try rfl⟩) (by assumption) ?_
   try go_simp
   refine wpAnyJ_take (i := 5) rfl (by kernel_rfl) (by kernel_rfl) (by kernel_rfl) (by kernel_rfl) (fun _ _ _ h => h) (Or.inl ⟨by rfl,fun w hSw => by obtain ⟨s1,s2⟩ := HSS.out w hSw; go_simp; try rfl⟩) (by assumption) ?_
   try go_simp
   refine wpAnyJ_take (i := 6) rfl (by kernel_rfl) (by kernel_rfl) (by kernel_rfl) (by kernel_rfl) (fun _ _ _ h => h) (Or.inl ⟨by rfl,fun w hSw => by obtain ⟨s1,s2⟩ := HSS.out w hSw; go_simp; try rfl⟩) (by assumption) ?_
   try go_simp
   refine wpAnyJ_take (i := 8) rfl (by kernel_rfl) (by kernel_rfl) (by kernel_rfl) (by kernel_rfl) (fun _ _ _ h => h) (Or.inl ⟨by rfl,fun w hSw => by obtain ⟨s1,s2⟩ := HSS.out w hSw; go_simp; try rfl⟩) (by assumption) ?_
   try go_simp
   refine wpAnyJ_take (i := 9) rfl (by kernel_rfl) (by kernel_rfl) (by kernel_rfl) (by kernel_rfl) (fun _ _ _ h => h) (Or.inl ⟨by rfl,fun w hSw => by obtain ⟨s1,s2⟩ := HSS.out w hSw; go_simp; try rfl⟩) (by assumption) ?_
   try go_simp
   refine wpAnyJ_take (i := 10) rfl (by kernel_rfl) (by kernel_rfl) (by kernel_rfl) (by kernel_rfl) (fun _ _ _ h => h) (Or.inl ⟨by rfl,fun w hSw => by obtain ⟨s1,s2⟩ := HSS.out w hSw; go_simp; try rfl⟩) (by assumption) ?_
   try go_simp
   refine wpAnyJ_take (i := 11) rfl (by kernel_rfl) (by kernel_rfl) (by kernel_rfl) (by kernel_rfl) (fun _ _ _ h => h) (Or.inl ⟨by rfl,fun w hSw => by obtain ⟨s1,s2⟩ := HSS.out w hSw; go_simp; try rfl⟩) (by assumption) ?_
   try go_simp
   refine wpAnyJ_take (i := 12) rfl (by kernel_rfl) (by kernel_rfl) (by kernel_rfl) (by kernel_rfl) (fun _ _ _ h => h) (Or.inl ⟨by rfl,fun w hSw => by obtain ⟨s1,s2⟩ := HSS.out w hSw; go_simp; try rfl⟩) (by assumption) ?_
   try go_simp
   refine wpAnyJ_take (i := 13) (v := .agg #[.bool g.c.rp,.string g.c.rto,.int .i64 g.c.rcl]) rfl (by kernel_rfl) (by kernel_rfl) (by kernel_rfl) (by kernel_rfl) (fun _ _ _ h => h) (load_yields (by rfl) 47 _ rfl ⟨fb,fo + f * 8 + 3,none⟩ rfl _ _ HSL.out Try.underlying47 rfl (by kernel_rfl)) (by assumption) ?_
   try go_simp
   refine wpAnyJ_two (i := 0) (j := 14) (by kernel_rfl) (by decide) (by decide) rfl rfl (fun K' hK => ?_) (fun K' hK => ?_)
   ·rw [if_pos (by rfl)]
    go_simp
    obtain ⟨Wa,hWa⟩ : ∃ W,WD.alloc (.cells #[] 47) = W := ⟨_,rfl⟩
    obtain ⟨ba,hba⟩ : ∃ z,WD.heap.size = z := ⟨_,rfl⟩
    have hBa : Below B wr Wa := by rw [← hWa]; exact hbD.alloc (by have := hbD.size; omega) _
    have hSa : S Wa := (HSB.out _).2 (by rw [hB]; exact hBa)
    have hsa : Hid (Wa.heap.size = ba + 1) := by unfold Hid; rw [← hWa]; simp [hba]
    have hbaB : B ≤ ba := by rw [← hba]; have := hbD.size; omega
    have hoa : Wa.ownsRow B 47 3 (.slice (some ⟨ba,0,none⟩) 0 0) 0 [] := by rw [← hWa,← hba]; exact ownsRow_empty _ _ _ _ (by have := hbD.size; omega)
    try rw [hWa]
    try rw [hba]
    refine hK _ _ hSa ?_
    clear hK
    try go_simp
    refine wpAnyJ_two (i := 7) (j := 14) (by kernel_rfl) (by decide) (by decide) rfl rfl (fun K' hK => ?_) (fun K' hK => ?_)
    ·rw [if_pos (by rfl)]
     refine oper_append_row (.tmp 29) (.tmp 35) 43 rfl B 47 i0 _ 3 32 Try.underlying43 hi0 hi1 hi2 hi3 rfl (by decide) (.slice (some ⟨ba,0,none⟩) 0 0) 0 [] rfl hoa g.c.varsA g.vs.length g.c.varsC (g.vs.flatMap fun a => a.cells.toList) rfl (flat_len vrLen _) HV0.out (HVN.out _ hSa) (cells_one fun s _ => vrOne s) (by unfold maxLen; omega) (by omega) (by have := hBa.size; omega) (fun v' w' hown hgr hlt => ?_)
     have hBb : Below B wr w' := hBa.grown hgr (by have := hBa.size; omega) (fun z hz => by have h9 : some ba = some z := hz; have := Option.some.inj h9; omega)
     have hSb : S w' := (HSB.out _).2 (by rw [hB]; exact hBb)
     obtain ⟨vb,hvb⟩ : ∃ v,v' = v := ⟨_,rfl⟩
     rw [hvb] at hown
     have hob := hown
     refine hK _ _ hSb ?_
     clear hK
     try go_simp
     try rw [hvb]
     refine wpAnyJ_one (i := 14) (by kernel_rfl) (by decide) rfl fun K' hK => ?_
     rw [if_pos (by rfl)]
     go_simp
     obtain ⟨Wc,hWc⟩ : ∃ W,w'.alloc (.cells #[.bool g.c.rp,.string g.c.rto,.int .i64 g.c.rcl] 47) = W := ⟨_,rfl⟩
     obtain ⟨bc,hbc⟩ : ∃ z,w'.heap.size = z := ⟨_,rfl⟩
     have hBc : Below B wr Wc := by rw [← hWc]; exact hBb.alloc (by have := hBb.size; omega) _
     have hSc : S Wc := (HSB.out _).2 (by rw [hB]; exact hBc)
     have hsc : Hid (Wc.heap.size = bc + 1) := by unfold Hid; rw [← hWc]; simp [hbc]
     have hbcB : B ≤ bc := by rw [← hbc]; have := hBb.size; omega
     have hcc : ∀ j u,([.bool g.c.rp,.string g.c.rto,.int .i64 g.c.rcl] : List Value)[j]? = some u → Wc.cell? ((⟨bc,0,none⟩ : Addr).add j) = some u := by rw [← hWc,← hbc]; exact cells_new _ _ _
     have hoc : Wc.ownsRow B 47 3 vb (0 + g.vs.length) ([] ++ (g.vs.flatMap fun a => a.cells.toList)) := by rw [← hWc]; exact ownsRow_below hob ((Below.refl _ _).alloc (Nat.le_refl _) _)
     try rw [hWc]
     try rw [hbc]
     refine hK _ _ hSc ?_
     clear hK
     try go_simp
     refine wpAnyJ_k (by kernel_rfl) rfl fun K' hK => ?_
     rw [if_pos (by rfl)]
     refine oper_append_row (.tmp 36) (.tmp 43) 43 rfl B 47 i0 _ 3 32 Try.underlying43 hi0 hi1 hi2 hi3 rfl (by decide) vb (0 + g.vs.length) ([] ++ (g.vs.flatMap fun a => a.cells.toList)) rfl hoc (some ⟨bc,0,none⟩) 1 1 [.bool g.c.rp,.string g.c.rto,.int .i64 g.c.rcl] rfl rfl (fun h => by cases h) (fun ad e j u hu => by obtain rfl := Option.some.inj e; exact hcc j u hu) (by simp [Value.oneCell']) (by unfold maxLen; omega) (by omega) (by have := hBc.size; omega) (fun v2 w2 hown2 hgr2 hlt2 => ?_)
     have hFIN : LvR B g v2 w2 ∧ Below B wr w2 := by
      refine ⟨LvR.of ?_,hBc.grown hgr2 (by have := hBc.size; omega) (fun z hz => (hoc.lt z hz).1)⟩
      simpa [Fn.retV,Vr.cells] using hown2
     refine hK _ _ ?_
     clear hK
     try go_simp
     refine wpAny_end 16 rfl (by kernel_rfl) (by kernel_rfl) (· = w2) rfl ?_
     dsimp only [List.drop]
     repeat (go_big_quiet_step (fail))
     refine wpQuiet_nil ?_
     intro w9 hw9
     rw [hw9]
     clear hw9 w9
     go_wp2
     go_meet
     case rel => exact hFIN
    ·rw [if_pos (by rfl)]
     go_simp
     obtain ⟨Wc,hWc⟩ : ∃ W,Wa.alloc (.cells #[.bool g.c.rp,.string g.c.rto,.int .i64 g.c.rcl] 47) = W := ⟨_,rfl⟩
     obtain ⟨bc,hbc⟩ : ∃ z,Wa.heap.size = z := ⟨_,rfl⟩
     have hBc : Below B wr Wc := by rw [← hWc]; exact hBa.alloc (by have := hBa.size; omega) _
     have hSc : S Wc := (HSB.out _).2 (by rw [hB]; exact hBc)
     have hsc : Hid (Wc.heap.size = bc + 1) := by unfold Hid; rw [← hWc]; simp [hbc]
     have hbcB : B ≤ bc := by rw [← hbc]; have := hBa.size; omega
     have hcc : ∀ j u,([.bool g.c.rp,.string g.c.rto,.int .i64 g.c.rcl] : List Value)[j]? = some u → Wc.cell? ((⟨bc,0,none⟩ : Addr).add j) = some u := by rw [← hWc,← hbc]; exact cells_new _ _ _
     have hoc : Wc.ownsRow B 47 3 (.slice (some ⟨ba,0,none⟩) 0 0) 0 [] := by rw [← hWc]; exact ownsRow_below hoa ((Below.refl _ _).alloc (Nat.le_refl _) _)
     try rw [hWc]
     try rw [hbc]
     refine hK _ _ hSc ?_
     clear hK
     try go_simp
     refine wpAnyJ_one (i := 7) (by kernel_rfl) (by decide) rfl fun K' hK => ?_
     rw [if_pos (by rfl)]
     refine oper_append_row (.tmp 29) (.tmp 35) 43 rfl B 47 i0 _ 3 32 Try.underlying43 hi0 hi1 hi2 hi3 rfl (by decide) (.slice (some ⟨ba,0,none⟩) 0 0) 0 [] rfl hoc g.c.varsA g.vs.length g.c.varsC (g.vs.flatMap fun a => a.cells.toList) rfl (flat_len vrLen _) HV0.out (HVN.out _ hSc) (cells_one fun s _ => vrOne s) (by unfold maxLen; omega) (by omega) (by have := hBc.size; omega) (fun v' w' hown hgr hlt => ?_)
     have hBb : Below B wr w' := hBc.grown hgr (by have := hBc.size; omega) (fun z hz => by have h9 : some ba = some z := hz; have := Option.some.inj h9; omega)
     have hSb : S w' := (HSB.out _).2 (by rw [hB]; exact hBb)
     obtain ⟨vb,hvb⟩ : ∃ v,v' = v := ⟨_,rfl⟩
     rw [hvb] at hown
     have hob := hown
     have hcb : ∀ j u,([.bool g.c.rp,.string g.c.rto,.int .i64 g.c.rcl] : List Value)[j]? = some u → w'.cell? ((⟨bc,0,none⟩ : Addr).add j) = some u := fun j u hu => by
      have hxg : Ext (fun z => some ba = some z) Wc w' := Ext.of_grown hgr (fun z hz => .inl hz)
      rw [Addr.add_lit,hxg.cell (a := ⟨bc,_,none⟩) (by show bc < _; have := hsa.out; have := hsc.out; omega) (by show ¬ some ba = some bc; intro h; have := Option.some.inj h; have := hsa.out; have := hsc.out; omega),← Addr.add_lit]
      exact hcc j u hu
     refine hK _ _ hSb ?_
     clear hK
     try go_simp
     try rw [hvb]
     refine wpAnyJ_k (by kernel_rfl) rfl fun K' hK => ?_
     rw [if_pos (by rfl)]
     refine oper_append_row (.tmp 36) (.tmp 43) 43 rfl B 47 i0 _ 3 32 Try.underlying43 hi0 hi1 hi2 hi3 rfl (by decide) vb (0 + g.vs.length) ([] ++ (g.vs.flatMap fun a => a.cells.toList)) rfl hob (some ⟨bc,0,none⟩) 1 1 [.bool g.c.rp,.string g.c.rto,.int .i64 g.c.rcl] rfl rfl (fun h => by cases h) (fun ad e j u hu => by obtain rfl := Option.some.inj e; exact hcb j u hu) (by simp [Value.oneCell']) (by unfold maxLen; omega) (by omega) (by have := hBb.size; omega) (fun v2 w2 hown2 hgr2 hlt2 => ?_)
     have hFIN : LvR B g v2 w2 ∧ Below B wr w2 := by
      refine ⟨LvR.of ?_,hBb.grown hgr2 (by have := hBb.size; omega) (fun z hz => (hob.lt z hz).1)⟩
      simpa [Fn.retV,Vr.cells] using hown2
     refine hK _ _ ?_
     clear hK
     try go_simp
     refine wpAny_end 16 rfl (by kernel_rfl) (by kernel_rfl) (· = w2) rfl ?_
     dsimp only [List.drop]
     repeat (go_big_quiet_step (fail))
     refine wpQuiet_nil ?_
     intro w9 hw9
     rw [hw9]
     clear hw9 w9
     go_wp2
     go_meet
     case rel => exact hFIN
   ·rw [if_pos (by rfl)]
    go_simp
    obtain ⟨Wc,hWc⟩ : ∃ W,WD.alloc (.cells #[.bool g.c.rp,.string g.c.rto,.int .i64 g.c.rcl] 47) = W := ⟨_,rfl⟩
    obtain ⟨bc,hbc⟩ : ∃ z,WD.heap.size = z := ⟨_,rfl⟩
    have hBc : Below B wr Wc := by rw [← hWc]; exact hbD.alloc (by have := hbD.size; omega) _
    have hSc : S Wc := (HSB.out _).2 (by rw [hB]; exact hBc)
    have hsc : Hid (Wc.heap.size = bc + 1) := by unfold Hid; rw [← hWc]; simp [hbc]
    have hbcB : B ≤ bc := by rw [← hbc]; have := hbD.size; omega
    have hcc : ∀ j u,([.bool g.c.rp,.string g.c.rto,.int .i64 g.c.rcl] : List Value)[j]? = some u → Wc.cell? ((⟨bc,0,none⟩ : Addr).add j) = some u := by rw [← hWc,← hbc]; exact cells_new _ _ _
    try rw [hWc]
    try rw [hbc]
    refine hK _ _ hSc ?_
    clear hK
    try go_simp
    refine wpAnyJ_one (i := 0) (by kernel_rfl) (by decide) rfl fun K' hK => ?_
    rw [if_pos (by rfl)]
    go_simp
    obtain ⟨Wa,hWa⟩ : ∃ W,Wc.alloc (.cells #[] 47) = W := ⟨_,rfl⟩
    obtain ⟨ba,hba⟩ : ∃ z,Wc.heap.size = z := ⟨_,rfl⟩
    have hBa : Below B wr Wa := by rw [← hWa]; exact hBc.alloc (by have := hBc.size; omega) _
    have hSa : S Wa := (HSB.out _).2 (by rw [hB]; exact hBa)
    have hsa : Hid (Wa.heap.size = ba + 1) := by unfold Hid; rw [← hWa]; simp [hba]
    have hbaB : B ≤ ba := by rw [← hba]; have := hBc.size; omega
    have hoa : Wa.ownsRow B 47 3 (.slice (some ⟨ba,0,none⟩) 0 0) 0 [] := by rw [← hWa,← hba]; exact ownsRow_empty _ _ _ _ (by have := hBc.size; omega)
    have hca : ∀ j u,([.bool g.c.rp,.string g.c.rto,.int .i64 g.c.rcl] : List Value)[j]? = some u → Wa.cell? ((⟨bc,0,none⟩ : Addr).add j) = some u := fun j u hu => by rw [← hWa]; exact below_cellE ((Below.refl _ _).alloc (Nat.le_refl _) _) (hcc j u hu)
    try rw [hWa]
    try rw [hba]
    refine hK _ _ hSa ?_
    clear hK
    try go_simp
    refine wpAnyJ_one (i := 7) (by kernel_rfl) (by decide) rfl fun K' hK => ?_
    rw [if_pos (by rfl)]
    refine oper_append_row (.tmp 29) (.tmp 35) 43 rfl B 47 i0 _ 3 32 Try.underlying43 hi0 hi1 hi2 hi3 rfl (by decide) (.slice (some ⟨ba,0,none⟩) 0 0) 0 [] rfl hoa g.c.varsA g.vs.length g.c.varsC (g.vs.flatMap fun a => a.cells.toList) rfl (flat_len vrLen _) HV0.out (HVN.out _ hSa) (cells_one fun s _ => vrOne s) (by unfold maxLen; omega) (by omega) (by have := hBa.size; omega) (fun v' w' hown hgr hlt => ?_)
    have hBb : Below B wr w' := hBa.grown hgr (by have := hBa.size; omega) (fun z hz => by have h9 : some ba = some z := hz; have := Option.some.inj h9; omega)
    have hSb : S w' := (HSB.out _).2 (by rw [hB]; exact hBb)
    obtain ⟨vb,hvb⟩ : ∃ v,v' = v := ⟨_,rfl⟩
    rw [hvb] at hown
    have hob := hown
    have hcb : ∀ j u,([.bool g.c.rp,.string g.c.rto,.int .i64 g.c.rcl] : List Value)[j]? = some u → w'.cell? ((⟨bc,0,none⟩ : Addr).add j) = some u := fun j u hu => by
     have hxg : Ext (fun z => some ba = some z) Wa w' := Ext.of_grown hgr (fun z hz => .inl hz)
     rw [Addr.add_lit,hxg.cell (a := ⟨bc,_,none⟩) (by show bc < _; have := hsa.out; have := hsc.out; omega) (by show ¬ some ba = some bc; intro h; have := Option.some.inj h; have := hsa.out; have := hsc.out; omega),← Addr.add_lit]
     exact hca j u hu
    refine hK _ _ hSb ?_
    clear hK
    try go_simp
    try rw [hvb]
    refine wpAnyJ_k (by kernel_rfl) rfl fun K' hK => ?_
    rw [if_pos (by rfl)]
    refine oper_append_row (.tmp 36) (.tmp 43) 43 rfl B 47 i0 _ 3 32 Try.underlying43 hi0 hi1 hi2 hi3 rfl (by decide) vb (0 + g.vs.length) ([] ++ (g.vs.flatMap fun a => a.cells.toList)) rfl hob (some ⟨bc,0,none⟩) 1 1 [.bool g.c.rp,.string g.c.rto,.int .i64 g.c.rcl] rfl rfl (fun h => by cases h) (fun ad e j u hu => by obtain rfl := Option.some.inj e; exact hcb j u hu) (by simp [Value.oneCell']) (by unfold maxLen; omega) (by omega) (by have := hBb.size; omega) (fun v2 w2 hown2 hgr2 hlt2 => ?_)
    have hFIN : LvR B g v2 w2 ∧ Below B wr w2 := by
     refine ⟨LvR.of ?_,hBb.grown hgr2 (by have := hBb.size; omega) (fun z hz => (hob.lt z hz).1)⟩
     simpa [Fn.retV,Vr.cells] using hown2
    refine hK _ _ ?_
    clear hK
    try go_simp
    refine wpAny_end 16 rfl (by kernel_rfl) (by kernel_rfl) (· = w2) rfl ?_
    dsimp only [List.drop]
    repeat (go_big_quiet_step (fail))
    refine wpQuiet_nil ?_
    intro w9 hw9
    rw [hw9]
    clear hw9 w9
    go_wp2
    go_meet
    case rel => exact hFIN
  case rest =>
   obtain ⟨⟨b,cap,rfl,hown⟩,hbc⟩ := hcut
   obtain ⟨nl,hnl⟩ : ∃ z,g.vs.length + 1 = z := ⟨_,rfl⟩
   have HAL : Hid (g.all.length = nl) := by unfold Hid Fn.all; rw [List.length_append]; simpa using hnl
   have HNLE : Hid (nl ≤ 301) := by unfold Hid; omega
   rw [hnl] at hown ⊢
   have HOWN := Lib.hid hown
   have HBC := Lib.hid hbc
   have hn301 := HNLE.out
   clear hown hbc hnl
   go_wp2_with fail
   go_loopw [7] (fun c wq => ∃ v : Nat,v ≤ nl ∧ c = .int .i64 (v : Int) ∧ (∀ x ∈ g.all.take v,okC x = true) ∧ Below wc.heap.size wc wq) (fun c _ => nl - (intOf c).toNat)
   case atStart => exact ⟨0,Nat.zero_le _,rfl,fun x hx => absurd hx (by simp),Below.refl _ _⟩
   case round =>
    obtain ⟨v,hv,rfl,hok,hbq⟩ := hrel
    have hb3q := HBR.out.trans ((HBC.out.trans (hbq.mono (by have := HBC.out.size; have := HBB.out; omega))).mono (by have := HBR.out.size; have := HBB.out; omega))
    obtain ⟨_,z1,hbw,_⟩ := HK3.out wr hb3q
    by_cases hvl : v < nl
    rotate_left
    ·have hve : v = nl := by omega
     rw [hve,← HAL.out,List.take_length] at hok
     have HNEXT : Hid (∃ f' : Nat,f' ≤ m.fs.length ∧ Value.int .i64 ((f : Int) + 1) = .int .i64 (f' : Int) ∧ (∀ g ∈ m.fs.take f',∀ v ∈ g.all,okC v = true) ∧ Below w3.heap.size w3 wr) := by
      refine ⟨f + 1,hfl,by simp,fun g' hg' x hx => ?_,hb3q⟩
      rw [List.take_add_one,HG.out] at hg'
      rcases List.mem_append.1 hg' with h | h
      ·exact HALL.out g' h x hx
      ·have e : g' = g := by simpa using h
       rw [e] at hx
       exact hok x hx
     clear hok hbq hb3q z1 hbw
     go_wp2
     go_roundw
     case rel => exact HNEXT.out
     case measure => simp [intOf]; omega
    have hvI : (v : Int) < (nl : Int) := by omega
    obtain ⟨x,hx⟩ : ∃ x,g.all[v]? = some x := ⟨_,List.getElem?_eq_getElem (by rw [HAL.out]; exact hvl)⟩
    have HCB : Hid (∀ k u,x.cells.toList[k]? = some u → wr.cell? ((⟨b,v * 3,none⟩ : Addr).add k) = some u) := owns_load (f := fun a : Vr => a.cells.toList) vrLen (ownsRow_below HOWN.out hbq) hx
    have HCK := Lib.hid (rclassed_calls x wr)
    obtain ⟨o,ho⟩ : ∃ o,okC x = o := ⟨_,rfl⟩
    rw [ho] at HCK
    cases o with
    | true =>
     have HNX : Hid (∀ W,Below wr.heap.size wr W → ∃ v' : Nat,v' ≤ nl ∧ Value.int .i64 ((v : Int) + 1) = .int .i64 (v' : Int) ∧ (∀ x ∈ g.all.take v',okC x = true) ∧ Below wc.heap.size wc W) := fun W hW => by
      refine ⟨v + 1,hvl,by simp,fun y hy => ?_,hbq.trans (hW.mono hbq.size)⟩
      rw [List.take_add_one,hx] at hy
      rcases List.mem_append.1 hy with h | h
      ·exact hok y h
      ·have e : y = x := by simpa using h
       rw [e]; exact ho
     clear hok hbq hb3q z1 hbw hx ho
     go_wp2_with (first
      | (refine wpList_load_at rfl 47 _ rfl ⟨b,v * 3,none⟩ rfl x.cells _ HCB.out Try.underlying47 rfl (by kernel_rfl) ?_)
      | (go_at_call 47; refine HCK.out.mono ?_; rintro e w4 ⟨rfl,hb4⟩; have HR := Lib.hid (HNX.out w4 hb4); clear hb4))
     go_roundw
     case rel => exact HR.out
     case measure => simp [intOf]; omega
    | false =>
     have HNX : Hid (∀ W,Below wr.heap.size wr W → (W.cell? ⟨N + 1,0,none⟩ = some (.slice none 0 0) ∧ W.cell? ⟨N + 1,1,none⟩ = some (.slice none 0 0) ∧ W.frozen? ⟨N + 1,0,none⟩ = false ∧ W.frozen? ⟨N + 1,1,none⟩ = false ∧ W.setCell ⟨N + 1,0,none⟩ (.slice none 0 0) = W ∧ W.setCell ⟨N + 1,1,none⟩ (.slice none 0 0) = W) ∧ RewP m w (.returned (.tuple #[.agg #[.slice none 0 0,.slice none 0 0],.int .i64 1])) W) := fun W hW => by
      have r2 := (hW.block (N + 1) (Array.getElem?_eq_some_iff.1 z1).1).trans z1
      refine ⟨⟨by rw [cell_of_row _ _ _ _ _ _ r2]; rfl,by rw [cell_of_row _ _ _ _ _ _ r2]; rfl,frozen_of_row _ _ _ _ _ r2,frozen_of_row _ _ _ _ _ r2,setCell_noop r2 rfl,setCell_noop r2 rfl⟩,.inr (.inl ⟨HF.out,?_,rfl,?_⟩)⟩
      ·cases hcl : classedF m with
       | false => rfl
       | true => rw [(classed_iff m).1 hcl g hgm x (List.mem_of_getElem? hx)] at ho; cases ho
      ·rw [HN.out]; exact hbw.trans (hW.mono (by have := hbw.size; have := HN.out; omega))
     clear hok hbq hb3q z1 hbw hx ho
     go_wp2_with (first
      | (refine wpList_load_at rfl 47 _ rfl ⟨b,v * 3,none⟩ rfl x.cells _ HCB.out Try.underlying47 rfl (by kernel_rfl) ?_)
      | (go_at_call 47; refine HCK.out.mono ?_; rintro e w4 ⟨rfl,hb4⟩; obtain ⟨⟨y0,y1,f0,f1,n0,n1⟩,hfin⟩ := HNX.out w4 hb4; have HFIN := Lib.hid hfin; clear hb4 hfin))
     exact bodyPost_ret (rrew_results _ _ _ _ _ _ rfl rfl y0 y1) rfl HFIN.out
end
end Go.Proofs.Ytlggjbopfnndbaa
