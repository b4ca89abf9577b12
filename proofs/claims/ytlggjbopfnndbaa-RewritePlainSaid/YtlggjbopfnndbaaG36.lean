import Derived.Test.YtlggjbopfnndbaaRegMd
import Derived.Laws.CopyRow
import Derived.Test.YtlggjbopfnndbaaG27
namespace Go.Proofs.Ytlggjbopfnndbaa
open Go.RowKit
section
variable {α : Type} {f : α → List Value} {k : Nat}
theorem flat_take (hk : ∀ a,(f a).length = k) : ∀ (xs : List α) (i : Nat),i ≤ xs.length → (xs.flatMap f).take (i * k) = (xs.take i).flatMap f
 | xs,0,_ => by simp
 | [],i + 1,h => by simp at h
 | a :: r,i + 1,h => by
  rw [List.flatMap_cons,List.take_succ_cons,List.flatMap_cons,List.take_append,hk,show (i + 1) * k - k = i * k from by rw [Nat.add_mul]; omega,flat_take hk r i (by simpa using h),List.take_of_length_le (by rw [hk,Nat.add_mul]; omega)]
theorem flat_drop (hk : ∀ a,(f a).length = k) : ∀ (xs : List α) (i : Nat),i ≤ xs.length → (xs.flatMap f).drop (i * k) = (xs.drop i).flatMap f
 | xs,0,_ => by simp
 | [],i + 1,h => by simp at h
 | a :: r,i + 1,h => by
  rw [List.flatMap_cons,List.drop_succ_cons,List.drop_append,hk,show (i + 1) * k - k = i * k from by rw [Nat.add_mul]; omega,flat_drop hk r i (by simpa using h),List.drop_of_length_le (by rw [hk,Nat.add_mul]; omega),List.nil_append]
theorem set_split {xs : List α} {i : Nat} (y : α) (h : i < xs.length) : xs.set i y = xs.take i ++ y :: xs.drop (i + 1) := by
 apply List.ext_getElem?
 intro j
 rw [List.getElem?_set,List.getElem?_append,List.length_take]
 by_cases h1 : i = j
 ·subst h1
  rw [if_pos rfl,if_pos h,if_neg (by omega),show i - min i xs.length = 0 from by omega]; rfl
 ·rw [if_neg h1]
  by_cases h2 : j < i
  ·rw [if_pos (by omega),List.getElem?_take,if_pos h2]
  ·rw [if_neg (by omega),show j - min i xs.length = (j - i - 1) + 1 from by omega,List.getElem?_cons_succ,List.getElem?_drop]
   congr 1; omega
theorem flat_set (hk : ∀ a,(f a).length = k) {xs : List α} {i : Nat} (y : α) (h : i < xs.length) : (xs.set i y).flatMap f = (xs.flatMap f).take (i * k) ++ f y ++ (xs.flatMap f).drop (i * k + k) := by
 rw [set_split y h,List.flatMap_append,List.flatMap_cons,flat_take hk xs i (by omega),show i * k + k = (i + 1) * k from by rw [Nat.add_mul]; omega,flat_drop hk xs (i + 1) (by omega),List.append_assoc]
theorem owns_put {P : Program} {w : World} {base g n cap : Nat} {e : TypeId} (hk : ∀ a,(f a).length = k) (hk0 : 0 < k) {xs : List α} (h : w.ownsRow base e k (.slice (some ⟨g,0,none⟩) n cap) n (xs.flatMap f)) (hn : n = xs.length) {i : Nat} (hi : i < n) (y : α) (h1 : ∀ v ∈ f y,v.oneCell' = true) :
  ∃ w',(storeCells ⟨g,i * k,none⟩ (f y) 0).run P w = .ok () w' ∧ w'.ownsRow base e k (.slice (some ⟨g,0,none⟩) n cap) n ((xs.set i y).flatMap f) ∧ Ext (· = g) w w' := by
 rcases h.2 with ⟨h0,_⟩ | ⟨g',cap',cur,e1,e2,e3,e4,e5,e6,e7⟩
 ·cases h0
 ·simp only [Value.slice.injEq,Option.some.injEq,Addr.mk.injEq] at e1
  obtain ⟨⟨rfl,_⟩,_,rfl⟩ := e1
  have hik : i * k + k ≤ n * k := by rw [← Nat.succ_mul]; exact Nat.mul_le_mul_right k hi
  have hnk : n * k ≤ cur.size := by rw [e6]; exact Nat.mul_le_mul_right k e4
  have hl : i * k + 0 + (f y).length ≤ cur.size := by rw [hk]; omega
  refine ⟨_,run_storeCells_at (P := P) g (i * k) e (f y) 0 cur w e3 hl h1,?_,?_⟩
  ·refine ⟨?_,.inr ⟨g,cap,_,rfl,e2,setRow_heap w g cur _ e _ e3,e4,e5,?_,?_⟩⟩
   ·rw [flat_len hk,List.length_set,hn]
   ·simp only [List.size_toArray,List.length_append,List.length_take,List.length_drop,Array.length_toList,hk]
    omega
   ·rw [flat_set hk y (by omega),← e7]
    simp only [Nat.add_zero,hk]
    rw [List.append_assoc,List.take_append,List.take_append,List.length_take,Array.length_toList,hk]
    have h3 : min (i * k) cur.size = i * k := by omega
    rw [h3,List.take_take,show min (n * k) (i * k) = i * k from by omega,List.take_of_length_le (by rw [hk]; omega : (f y).length ≤ n * k - i * k),List.append_assoc]
    have ha : (cur.toList.take (n * k)).take (i * k) = cur.toList.take (i * k) := by rw [List.take_take]; congr 1; omega
    have hb : (cur.toList.take (n * k)).drop (i * k + k) = (cur.toList.drop (i * k + k)).take (n * k - i * k - k) := by rw [List.drop_take]; congr 1; omega
    rw [ha,hb]
  ·exact ⟨rfl,rfl,rfl,by simp [World.setRow],fun b _ hb => setRow_other w g b _ (fun e => hb e)⟩
theorem owns_set1 {w : World} {base g n cap : Nat} {e : TypeId} (hk : ∀ a,(f a).length = k) {xs : List α} (h : w.ownsRow base e k (.slice (some ⟨g,0,none⟩) n cap) n (xs.flatMap f)) (hn : n = xs.length) {i q : Nat} {x y : α} (hx : xs[i]? = some x) (hq : q < k) {v : Value} (hy : f y = (f x).set q v) :
  (w.setCell ⟨g,i * k + q,none⟩ v).ownsRow base e k (.slice (some ⟨g,0,none⟩) n cap) n ((xs.set i y).flatMap f) := by
 have hi : i < xs.length := (List.getElem?_eq_some_iff.1 hx).1
 rcases h.2 with ⟨h0,_⟩ | ⟨g',cap',cur,e1,e2,e3,e4,e5,e6,e7⟩
 ·cases h0
 ·simp only [Value.slice.injEq,Option.some.injEq,Addr.mk.injEq] at e1
  obtain ⟨⟨rfl,_⟩,_,rfl⟩ := e1
  have hik : i * k + k ≤ n * k := by rw [← Nat.succ_mul]; exact Nat.mul_le_mul_right k (by omega)
  have hnk : n * k ≤ cur.size := by rw [e6]; exact Nat.mul_le_mul_right k e4
  refine ⟨by rw [flat_len hk,List.length_set,hn],.inr ⟨g,cap,_,rfl,e2,heap_setCell_same w g (i * k + q) cur e v e3,e4,e5,by simpa using e6,?_⟩⟩
  have hset : (cur.toList.set (i * k + q) v).take (n * k) = (xs.flatMap f).set (i * k + q) v := by
   rw [← e7]
   apply List.ext_getElem?
   intro j
   rw [List.getElem?_take,List.getElem?_set,List.getElem?_set,List.getElem?_take,List.length_take,Array.length_toList]
   by_cases h1 : i * k + q = j
   ·rw [if_pos h1,if_pos h1,if_pos (by omega),if_pos (by omega),if_pos (by omega)]
   ·rw [if_neg h1,if_neg h1]
  rw [Array.toList_setIfInBounds,hset,flat_set hk y hi]
  apply List.ext_getElem?
  intro j
  have hfl : (xs.flatMap f).length = n * k := by rw [flat_len hk,hn]
  rw [List.getElem?_set,List.append_assoc,List.getElem?_append,List.getElem?_append,List.length_take,hk,hfl]
  have h3 : min (i * k) (n * k) = i * k := by omega
  rw [h3]
  by_cases j1 : j < i * k
  ·rw [if_neg (by omega),if_pos j1,List.getElem?_take,if_pos j1]
  ·rw [if_neg j1]
   by_cases j2 : j - i * k < k
   ·rw [if_pos j2,hy,List.getElem?_set,hk]
    have hg := flat_get (f := f) hk hx (j - i * k) j2
    rw [show i * k + (j - i * k) = j from by omega] at hg
    by_cases j3 : i * k + q = j
    ·rw [if_pos j3,if_pos (by omega),if_pos (by omega),if_pos (by omega)]
    ·rw [if_neg j3,if_neg (by omega)]; exact hg
   ·rw [if_neg j2,if_neg (by omega),List.getElem?_drop]
    congr 1; omega
end
theorem owns_load {α : Type} {f : α → List Value} {k : Nat} {w : World} {base g n cap : Nat} {e : TypeId} (hk : ∀ a,(f a).length = k) {xs : List α} (h : w.ownsRow base e k (.slice (some ⟨g,0,none⟩) n cap) n (xs.flatMap f)) {i : Nat} {x : α} (hx : xs[i]? = some x) :
  ∀ (j : Nat) (u : Value),(f x)[j]? = some u → w.cell? ((⟨g,i * k,none⟩ : Addr).add j) = some u := by
 intro j u hu
 have hj : j < k := by rw [← hk x]; exact (List.getElem?_eq_some_iff.1 hu).1
 have h4 := h.cells (g := g) rfl (i * k + j) u (by rw [flat_get hk hx j hj]; exact hu)
 rw [Addr.add_lit] at h4 ⊢
 rw [Nat.zero_add] at h4
 exact h4
theorem owns_frozen {w : World} {base g n cap k : Nat} {e : TypeId} {xs : List Value} (h : w.ownsRow base e k (.slice (some ⟨g,0,none⟩) n cap) n xs) (o : Nat) : w.frozen? ⟨g,o,none⟩ = false := by
 rcases h.2 with ⟨h0,_⟩ | ⟨g',cap',cur,e1,e2,e3,_⟩
 ·cases h0
 ·simp only [Value.slice.injEq,Option.some.injEq,Addr.mk.injEq] at e1
  obtain ⟨⟨rfl,_⟩,_⟩ := e1
  exact frozen_of_row _ _ _ _ _ e3
theorem MdM.replace {X : Nat → Prop} {w w' : World} {B g cap sC i : Nat} {sA : Option Addr} {ss : List St} {fs : List Fn} {y : Fn} (h : MdM X w B ⟨sA,sC,some ⟨g,0,none⟩,cap,ss,fs⟩)
  (hown : w'.ownsRow B 50 8 (.slice (some ⟨g,0,none⟩) fs.length cap) fs.length ((fs.set i y).flatMap fun g => g.cells.toList)) (hx : Ext (· = g) w w')
  (hy : ∀ w2,Ext (fun k => k = g ∨ X k) w w2 → y.inn w2) : MdM X w' B ⟨sA,sC,some ⟨g,0,none⟩,cap,ss,fs.set i y⟩ := by
 have hM : ∀ k,ownOf (some ⟨g,0,none⟩) (fs.set i y).length cap X k → k = g ∨ X k := by
  rintro k (hk | hk)
  ·have e : some g = some k := hk
   exact .inl (Option.some.inj e).symm
  ·exact .inr hk
 refine ⟨Nat.le_trans h.low hx.size,by show w'.ownsRow _ _ _ (.slice _ (fs.set i y).length _) (fs.set i y).length _; rw [List.length_set]; exact hown,fun w2 h2 => ?_,h.ns,by show (fs.set i y).length ≤ maxLen; rw [List.length_set]; exact h.nf⟩
 have h3 : Ext (fun k => k = g ∨ X k) w w2 := (hx.mono (M' := fun k => k = g ∨ X k) (fun _ hk => .inl hk)).trans h2 (fun k hk => .inl (hM k hk))
 obtain ⟨a1,a2,a3⟩ := h.rest w2 (h3.mono fun k hk => by
  rcases hk with hk | hk
  ·subst hk; exact .inl rfl
  ·exact .inr hk)
 refine ⟨a1,a2,fun f hf => ?_⟩
 rcases List.mem_or_eq_of_mem_set hf with e | e
 ·exact a3 f e
 ·rw [e]; exact hy w2 h3
end Go.Proofs.Ytlggjbopfnndbaa
namespace Go.Proofs.Ytlggjbopfnndbaa
open Go.RowKit
section
variable {P : Program} {ops : Array Oper} {Q : Exit → Act → World → Prop} {md : Region.Mode} {S : World → Prop} {k : Nat}
def wpAnyJ (P : Program) (md : Region.Mode) (ops : Array Oper) (Q : Exit → Act → World → Prop) (S : World → Prop) (k : Nat) : Nat → Array Bool → Act → World → Prop
 | 0,_,_,_ => False
 | fuel + 1,listed,a,w =>
  (Region.ready md ops listed = [] → False) ∧
  ∀ i ∈ Region.ready md ops listed,wpOp P ops Q i (fun a' w' => if i = k then wpAny P md ops Q fuel (listed.setIfInBounds i true) a' w' else S w' ∧ wpAnyJ P md ops Q S k fuel (listed.setIfInBounds i true) a' w') a w
theorem wpAny_of_J : ∀ (fuel : Nat) (listed : Array Bool) (a : Act) (w : World),wpAnyJ P md ops Q S k fuel listed a w → wpAny P md ops Q fuel listed a w
 | 0,_,_,_,h => h.elim
 | fuel + 1,_,_,_,h => ⟨fun h0 => (h.1 h0).elim,fun i hi => wpOp_mono (fun a' w' h' => by
   by_cases e : i = k
   ·rw [if_pos e] at h'; exact h'
   ·rw [if_neg e] at h'; exact wpAny_of_J fuel _ a' w' h'.2) (h.2 i hi)⟩
theorem wpAnyJ_first {i : Nat} {oi : Oper} {v : Value} (hi : ops[i]? = some oi) (hsel : ∀ (j : Nat) (o : Oper) cs b,ops[j]? = some o → o.op ≠ .select cs b)
  (hQ : ∀ c a w,Q (.panic c) (a.put oi.dst v) w → Q (.panic c) a w) :
  ∀ (fuel : Nat) (listed : Array Bool) (a : Act) (w : World),
   (∀ j oj,ops[j]? = some oj → j ≠ i → listed.getD j true = false → (∀ e ∈ oj.after,Region.binds md e = true → e.on ≠ i) → oi.apart ops oj = true) →
   i ∈ Region.ready md ops listed → Leads md ops k listed i → YieldsIf P ops S oi v a → S w →
   wpAnyJ P md ops Q S k fuel (listed.setIfInBounds i true) (a.put oi.dst v) w → wpAnyJ P md ops Q S k (fuel + 1) listed a w := by
 intro fuel
 induction fuel with
 | zero => intro listed a w _ _ _ _ _ H; exact H.elim
 | succ fuel ih =>
  intro listed a w hfree hr hle hy hS H
  have hik : i ≠ k := fun e => by subst e; exact hle.notReady hr
  refine ⟨fun h => (by rw [h] at hr; cases hr),fun j hj => ?_⟩
  by_cases hji : j = i
  ·subst hji; exact hy.wpOp hi hS (by rw [if_neg hik]; exact ⟨hS,H⟩)
  ·have hjk : j ≠ k := fun e => by subst e; exact hle.notReady hj
   have h1 := H.2 j (ready_mono hj hji)
   simp only [if_neg hjk] at h1 ⊢
   obtain ⟨hjun,oj,hoj,hall⟩ := mem_ready.1 hj
   have hnot : ∀ e ∈ oj.after,Region.binds md e = true → e.on ≠ i := fun e he hb heq => not_ready hle.un hoj he hb heq hj
   have h2 := wpOp_putIf hoj (hfree j oj hoj hji hjun hnot) (fun cs b => hsel i oi cs b hi) (fun cs b => hsel j oj cs b hoj) hQ hy h1
   have hfree' : ∀ k ok,ops[k]? = some ok → k ≠ i → (listed.setIfInBounds j true).getD k true = false →
     (∀ e ∈ ok.after,Region.binds md e = true → e.on ≠ i) → oi.apart ops ok = true := fun k ok hk hki hun hno => by
    refine hfree k ok hk hki ?_ hno
    by_cases hjk : j = k
    ·subst hjk; exact hjun
    ·rw [getD_set_ne true hjk] at hun; exact hun
   refine wpOp_mono (fun a' w' h3 => ⟨h3.2.1,ih (listed.setIfInBounds j true) a' w' hfree' (ready_mono hr (Ne.symm hji)) (hle.set hj hji) h3.1 h3.2.1 ?_⟩) h2
   rw [Array.setIfInBounds_comm _ _ hji]
   exact h3.2.2
theorem wpAnyJ_take {i : Nat} {oi : Oper} {v : Value} {fuel : Nat} {listed : Array Bool} {a : Act} {w : World} (hi : ops[i]? = some oi)
  (hs : Region.noSelect ops = true) (hf : Region.free md ops listed i = true) (hr : (Region.ready md ops listed).contains i = true) (hl : leadsB md ops k listed ops.size i = true)
  (hQ : ∀ c a w,Q (.panic c) (a.put oi.dst v) w → Q (.panic c) a w) (hy : YieldsIf P ops S oi v a) (hS : S w)
  (h : wpAnyJ P md ops Q S k fuel (listed.setIfInBounds i true) (a.put oi.dst v) w) : wpAnyJ P md ops Q S k (fuel + 1) listed a w :=
 wpAnyJ_first hi (Region.noSelect_spec hs) hQ fuel listed a w (Region.free_spec hi hf) (by simpa using hr) (leads_of _ _ hl) hy hS h
theorem wpAnyJ_one {i : Nat} {o : Oper} {fuel : Nat} {listed : Array Bool} {a : Act} {w : World} (hr : Region.ready md ops listed = [i]) (hik : i ≠ k) (ho : ops[i]? = some o)
  (h : ∀ K' : Act → World → Prop,(∀ a w,S w → wpAnyJ P md ops Q S k fuel (listed.setIfInBounds i true) a w → K' a w) → if Region.wanted o (yielded ops a.tmps) = true then Oper.wp P o a w K' Q else K' (a.put o.dst undef) w) :
  wpAnyJ P md ops Q S k (fuel + 1) listed a w := by
 refine ⟨fun h0 => (by rw [hr] at h0; cases h0),fun j hj => ?_⟩
 rw [hr] at hj
 obtain rfl := List.mem_singleton.1 hj
 simp only [if_neg hik]
 exact wpOp_step ho (fun K' hK => h K' (fun a w hS hW => hK a w ⟨hS,hW⟩))
theorem wpAnyJ_k {o : Oper} {fuel : Nat} {listed : Array Bool} {a : Act} {w : World} (hr : Region.ready md ops listed = [k]) (ho : ops[k]? = some o)
  (h : ∀ K' : Act → World → Prop,(∀ a w,wpAny P md ops Q fuel (listed.setIfInBounds k true) a w → K' a w) → if Region.wanted o (yielded ops a.tmps) = true then Oper.wp P o a w K' Q else K' (a.put o.dst undef) w) :
  wpAnyJ P md ops Q S k (fuel + 1) listed a w := by
 refine ⟨fun h0 => (by rw [hr] at h0; cases h0),fun j hj => ?_⟩
 rw [hr] at hj
 obtain rfl := List.mem_singleton.1 hj
 simp only [if_true]
 exact wpOp_step ho (fun K' hK => h K' hK)
theorem wp_region_J {id : Nat} {a : Act} {w : World} (k : Nat) (S : World → Prop) (hm : P.follows .mixedOrders = true)
  (h : wpAnyJ P .any ops Q S k ops.size (Array.replicate ops.size false) a w.drew) : (Code.region id ops true).wp P Q a w :=
 wp_region_any hm (wpAny_of_J _ _ _ _ h)
theorem load_yields {o : Oper} {a : Act} (hw : Region.wanted o (yielded ops a.tmps) = true) (ty : TypeId) (x : Operand) (ho : o.op = .load ty x)
  (ad : Addr) (hx : a.eval x = .pointer (some ad)) (cs : Array Value) (d : TypeDesc) (hcells : ∀ w,S w → ∀ j u,cs.toList[j]? = some u → w.cell? (ad.add j) = some u)
  (hu : P.underlying ty = some d) (hd : (match d with | .struct _ | .array _ _ => true | _ => false) = true) (hi : (P.info? ty).map (·.size) = some cs.size) : YieldsIf P ops S o (.agg cs) a := by
 refine Or.inl ⟨hw,fun w hS => ?_⟩
 unfold execOp
 simp only [ho,hx,Instr.loadAt,Instr.sureAddr,Sem.run_bind,Sem.run_pure,Result.andThen_ok,run_loadVar_at w ad ty cs d (hcells w hS) hu hd hi]
end
end Go.Proofs.Ytlggjbopfnndbaa
