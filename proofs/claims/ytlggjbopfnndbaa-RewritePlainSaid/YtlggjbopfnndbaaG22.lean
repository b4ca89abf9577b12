import Derived.Test.YtlggjbopfnndbaaG04
import Derived.Test.YtlggjbopfnndbaaG01
import Derived.Maps.AppendAt
namespace Go.Proofs.Ytlggjbopfnndbaa
open Go.RowKit
def encN (x : Nat) : List Value := [.int .i64 (x : Int)]
theorem flat_one {α β : Type} (f : α → β) : ∀ l : List α,(l.flatMap fun x => [f x]) = l.map f
 | [] => rfl
 | x :: r => by rw [List.flatMap_cons,flat_one f r]; rfl
theorem encN_flat (l : List Nat) : l.flatMap encN = l.map (fun x : Nat => Value.int .i64 (x : Int)) := flat_one _ l
theorem rf_succ (p : Nat → Bool) (j : Nat) : (List.range (j + 1)).filter p = if p j = true then (List.range j).filter p ++ [j] else (List.range j).filter p := by
 rw [List.range_succ,List.filter_append,List.filter_cons]
 split <;> simp
theorem rf_len (p : Nat → Bool) (j : Nat) : ((List.range j).filter p).length ≤ j := Nat.le_trans (List.length_filter_le _ _) (by simp)
section
variable {w : World} {e : TypeId} {size : Nat}
theorem ownsRow_get {base m cap : Nat} {ao : Option Addr} {xs : List Value} (h : w.ownsRow base e size (.slice ao m cap) m xs) {j : Nat} {u : Value} (hu : xs[j]? = some u) : ∃ g,ao = some ⟨g,0,none⟩ ∧ g < w.heap.size ∧ w.cell? ⟨g,j,none⟩ = some u := by
 rcases h.2 with ⟨h1,h2⟩ | ⟨g,cap',cur,h1,h2,h3,h4,h5,h6,h7⟩
 ·have := h.1
  subst h2
  have := (List.getElem?_eq_some_iff.1 hu).1
  omega
 ·have hs : ao = some ⟨g,0,none⟩ := by simp only [Value.slice.injEq] at h1; exact h1.1
  refine ⟨g,hs,(Array.getElem?_eq_some_iff.1 h3).1,?_⟩
  rw [cell_of_row _ _ _ _ _ _ h3]
  rw [← h7,List.getElem?_take] at hu
  split at hu
  ·simpa using hu
  ·simp at hu
theorem ownsRow_slice {base m sz : Nat} {v : Value} {xs : List Value} (h : w.ownsRow base e sz v m xs) : ∃ ao cap,v = .slice ao m cap := by
 rcases h.2 with ⟨h1,h2⟩ | ⟨g,cap,cur,h1,_⟩
 ·exact ⟨none,0,by rw [h2]; exact h1⟩
 ·exact ⟨_,_,h1⟩
end
def PkI (p : Nat → Bool) (B : Nat) (w0 : World) (j : Nat) (v : Value) (wr : World) : Prop :=
 wr.ownsRow B 3 1 v ((List.range j).filter p).length (((List.range j).filter p).flatMap encN) ∧ Below B w0 wr ∧ B ≤ wr.heap.size
theorem PkI.skip {p : Nat → Bool} {B j : Nat} {w0 wr : World} {v : Value} (h : PkI p B w0 j v wr) (hp : p j = false) : PkI p B w0 (j + 1) v wr := by
 unfold PkI
 rw [rf_succ,hp]; exact h
theorem PkI.app {p : Nat → Bool} {B j : Nat} {w0 wr wA w5 : World} {v v5 : Value} (h : PkI p B w0 j v wr) (hp : p j = true) (hA : Below B wr wA) (hs : wr.heap.size ≤ wA.heap.size) (hown : w5.ownsRow B 3 1 v5 (((List.range j).filter p).length + 1) (((List.range j).filter p).flatMap encN ++ [.int .i64 (j : Int)]))
  (hg : wA.grownBy w5 v.ownBlock) : PkI p B w0 (j + 1) v5 w5 := by
 unfold PkI
 rw [rf_succ,hp,if_pos rfl,List.length_append,List.flatMap_append]
 have hx : Ext (fun k => B ≤ k) wA w5 := Ext.of_grown (M := fun k => B ≤ k) hg (fun k hk => .inl (h.1.lt k hk).1)
 exact ⟨hown,(h.2.1.trans hA).trans (hx.below (by have := h.2.2; omega) (fun _ h => h)),by have := h.2.2; have := hx.size; omega⟩
def GivesN (w : World) (xs : List Nat) (e : Ending) (w' : World) : Prop :=
 ∃ v,e = .returned v ∧ w'.ownsRow w.heap.size 3 1 v xs.length (xs.flatMap encN) ∧ Below w.heap.size w w'
end Go.Proofs.Ytlggjbopfnndbaa
namespace Go.Proofs.Ytlggjbopfnndbaa
open Go.RowKit
theorem run_append_nil {P : Program} (w : World) (base : Nat) (t ty e : TypeId) (i : TypeInfo) (size : Nat) (ht : P.underlying t = some (.slice e)) (hi : P.info? e = some i)
  (v : Value) (n : Nat) (xs : List Value) (hown : w.ownsRow base e size v n xs) (c : Nat) : (Builtin.append_ #[t,t] ty #[v,.slice none 0 c]).run P w = .ok v w := by
 rcases hown.2 with ⟨rfl,rfl⟩ | ⟨g,cap,cur,rfl,_,_,hnc,_⟩
 ·simp [Builtin.append_,run_underlying ht,sizeOf,typeInfo,hi,Builtin.lenOf,Builtin.firstCells]
 ·simp [Builtin.append_,run_underlying ht,sizeOf,typeInfo,hi,Builtin.lenOf,Builtin.firstCells,hnc,storeCells]
theorem wpList_append_row {P : Program} {w : World} {ops : Array Oper} {rest : List Oper} {o : Oper} {a : Act} {Q : Exit → Act → World → Prop} (hgd : o.guard = none) (s x : Operand) (t : TypeId)
  (ho : o.op = .call { callee := .builtin .append,args := #[s,x],argTypes := #[t,t] }) (base : Nat) (e : TypeId) (i : TypeInfo) (z : Value) (size bytes : Nat) (ht : P.underlying t = some (.slice e)) (hi : P.info? e = some i) (hz : i.zero = some z)
  (hsize : i.size = size) (hby : i.bytes = bytes) (hzs : z.cells.size = size) (hsz : 0 < size)
  (v : Value) (n : Nat) (xs : List Value) (hs : a.eval s = v) (hown : w.ownsRow base e size v n xs)
  (ao : Option Addr) (m c : Nat) (news : List Value) (hx : a.eval x = .slice ao m c) (hl : news.length = m * size) (hnone : ao = none → m = 0) (hnews : ∀ ad,ao = some ad → ∀ j u,news[j]? = some u → w.cell? (ad.add j) = some u) (h1 : ∀ u ∈ news,u.oneCell' = true)
  (h63 : n + m ≤ maxLen) (hbytes : (n + m) * bytes ≤ 140737488355328) (hbase : base ≤ w.heap.size)
  (h : ∀ v' w',w'.ownsRow base e size v' (n + m) (xs ++ news) → w.grownBy w' v.ownBlock → (∀ k,v'.ownBlock = some k → v.ownBlock = some k ∨ w.heap.size ≤ k) → wpList P ops Q rest (a.put o.dst v') w') : wpList P ops Q (o :: rest) a w := by
 refine wpList_plain hgd fun K hK => ?_
 have hrun : ∃ v' w',(Builtin.append_ #[t,t] o.type #[v,.slice ao m c]).run P w = .ok v' w' ∧ w'.ownsRow base e size v' (n + m) (xs ++ news) ∧ w.grownBy w' v.ownBlock ∧ (∀ k,v'.ownBlock = some k → v.ownBlock = some k ∨ w.heap.size ≤ k) := by
  cases ao with
  | none =>
   obtain rfl := hnone rfl
   have hn : news = [] := List.eq_nil_of_length_eq_zero (by omega)
   subst hn
   exact ⟨v,w,run_append_nil w base t o.type e i size ht hi v n xs hown c,by simpa using hown,World.grownBy.refl w _,fun k hk => .inl hk⟩
  | some ad =>
   obtain ⟨v',w',r1,r2,r3,_,r5⟩ := run_append_own_at w base t o.type e i z size bytes ht hi hz hsize hby hzs hsz v n xs hown ad m c news hl (hnews ad rfl) h1 h63 hbytes hbase
   refine ⟨v',w',r1,r2,r3,fun k hk => ?_⟩
   rcases r5 with r5 | r5
   ·exact .inl (by rw [← r5]; exact hk)
   ·right; rw [r5] at hk; simp at hk; omega
 obtain ⟨v',w',r1,r2,r3,r4⟩ := hrun
 unfold Oper.wp
 simp [execOp,ho,resolve,invoke,builtin,hs,hx,r1,Result.andThen]
 exact hK _ _ (h _ _ r2 r3 r4)
theorem ownsRow_empty (w : World) (e : TypeId) (size base : Nat) (hb : base ≤ w.heap.size) : (w.alloc (.cells #[] e)).ownsRow base e size (.slice (some ⟨w.heap.size,0,none⟩) 0 0) 0 [] :=
 World.ownsRow_made w #[] 0 hb (by unfold maxLen; omega) (by simp)
end Go.Proofs.Ytlggjbopfnndbaa
namespace Go.Proofs.Ytlggjbopfnndbaa
open Go.RowKit
theorem info_st : (Try.prog.info? 84).map (fun i => (i.zero,i.size,i.bytes)) = some (some (.agg #[.string ⟨#[]⟩,.slice none 0 0,.int .i64 0,.int .i64 0]),4,56) := by kernel_rfl
theorem info_vr : (Try.prog.info? 47).map (fun i => (i.zero,i.size,i.bytes)) = some (some (.agg #[.bool false,.string ⟨#[]⟩,.int .i64 0]),3,32) := by kernel_rfl
theorem info_ins : (Try.prog.info? 62).map (fun i => (i.zero,i.size,i.bytes)) = some (some (.agg #[.int .i64 0,.int .i64 0,.int .i64 0,.int .i64 0,.int .i64 0,.int .i64 0,.string ⟨#[]⟩,.slice none 0 0,.slice none 0 0,.int .i64 0,.int .i64 0,.int .i64 0,.int .i64 0]),13,144) := by kernel_rfl
theorem info_cod : (Try.prog.info? 50).map (fun i => (i.zero,i.size,i.bytes)) = some (some (.agg #[.string ⟨#[]⟩,.int .i64 0,.slice none 0 0,.bool false,.string ⟨#[]⟩,.int .i64 0,.slice none 0 0,.slice none 0 0]),8,128) := by kernel_rfl
set_option maxRecDepth 100000 in
set_option maxHeartbeats 2000000 in
theorem cloneSt_calls (w : World) (ao : Option Addr) (n cap : Nat) (xs : List Value) (hl : xs.length = n * 4) (hnone : ao = none → n = 0) (hc : ∀ ad,ao = some ad → ∀ j u,xs[j]? = some u → w.cell? (ad.add j) = some u) (hone : ∀ u ∈ xs,u.oneCell' = true) (hn : n ≤ 90000) :
  Calls Try.prog 67 #[.slice ao n cap] w fun e w' => ∃ v',e = .returned v' ∧ w'.ownsRow w.heap.size 84 4 v' n xs ∧ Below w.heap.size w w' := by
 have q22 : ∀ (w : World) (a : Option Addr) (n c n' c' : Nat),(binOp .eql 22 (.slice a n c) (.slice none n' c')).run Try.prog w = .ok (.bool a.isNone) w := fun w a n c n' c' => Lib.run_eql_slice_nil w _ _ a n c n' c' Try.underlying22
 cases ao with
 | none =>
  obtain rfl := hnone rfl
  have hx : xs = [] := List.eq_nil_of_length_eq_zero (by omega)
  subst hx
  clear hl hnone hc hone
  go_enter Try.func67,Try.ntmps67
  go_wp2
  go_ret
  exact ⟨_,rfl,World.ownsRow_nil _ _ _ _,Below.refl _ _⟩
 | some ad =>
  have HN : Hid (xs.length = n * 4) := hl
  have HONE := Lib.hid hone
  have HC : Hid (∀ ad',some ad = some ad' → ∀ j u,xs[j]? = some u → (w.alloc (.cells #[] 84)).cell? (ad'.add j) = some u) := by
   intro ad' e j u hu
   obtain rfl := Option.some.inj e
   have h1 := hc ad rfl j u hu
   rw [World.cell?_alloc_lt _ _ _ (spot_of_cell h1).2]
   exact h1
  have HE : Hid ((w.alloc (.cells #[] 84)).ownsRow w.heap.size 84 4 (.slice (some ⟨w.heap.size,0,none⟩) 0 0) 0 []) := ownsRow_empty _ _ _ _ (Nat.le_refl _)
  obtain ⟨i0,hi0,hi1,hi2,hi3⟩ := info_parts info_st
  clear hl hnone hc hone
  go_enter Try.func67,Try.ntmps67
  go_wp2_with (at_builtin; refine wpList_append_row rfl _ _ 22 rfl w.heap.size 84 i0 _ 4 56 Try.underlying22 hi0 hi1 hi2 hi3 rfl (by decide) _ 0 [] rfl HE.out (some ad) n cap xs rfl HN.out (fun h => by cases h) HC.out HONE.out (by unfold maxLen; omega) (by omega) (by rw [World.size_alloc]; omega) ?_; intro v7 w7 hown7 hgrow7 hat7; have HQ7 := Lib.hid hown7; have HG7 := Lib.hid hgrow7; clear hown7 hgrow7 hat7)
  go_ret
  refine ⟨_,rfl,?_,?_⟩
  ·have := HQ7.out
   simpa using this
  ·exact ((Below.refl _ _).alloc (Nat.le_refl _) _).grown HG7.out (by rw [World.size_alloc]; omega) (fun k hk => by have h9 : some w.heap.size = some k := hk; have := Option.some.inj h9; omega)
set_option maxRecDepth 100000 in
set_option maxHeartbeats 2000000 in
theorem cloneVr_calls (w : World) (ao : Option Addr) (n cap : Nat) (xs : List Value) (hl : xs.length = n * 3) (hnone : ao = none → n = 0) (hc : ∀ ad,ao = some ad → ∀ j u,xs[j]? = some u → w.cell? (ad.add j) = some u) (hone : ∀ u ∈ xs,u.oneCell' = true) (hn : n ≤ 90000) :
  Calls Try.prog 45 #[.slice ao n cap] w fun e w' => ∃ v',e = .returned v' ∧ w'.ownsRow w.heap.size 47 3 v' n xs ∧ Below w.heap.size w w' := by
 have q22 : ∀ (w : World) (a : Option Addr) (n c n' c' : Nat),(binOp .eql 43 (.slice a n c) (.slice none n' c')).run Try.prog w = .ok (.bool a.isNone) w := fun w a n c n' c' => Lib.run_eql_slice_nil w _ _ a n c n' c' Try.underlying43
 cases ao with
 | none =>
  obtain rfl := hnone rfl
  have hx : xs = [] := List.eq_nil_of_length_eq_zero (by omega)
  subst hx
  clear hl hnone hc hone
  go_enter Try.func45,Try.ntmps45
  go_wp2
  go_ret
  exact ⟨_,rfl,World.ownsRow_nil _ _ _ _,Below.refl _ _⟩
 | some ad =>
  have HN : Hid (xs.length = n * 3) := hl
  have HONE := Lib.hid hone
  have HC : Hid (∀ ad',some ad = some ad' → ∀ j u,xs[j]? = some u → (w.alloc (.cells #[] 47)).cell? (ad'.add j) = some u) := by
   intro ad' e j u hu
   obtain rfl := Option.some.inj e
   have h1 := hc ad rfl j u hu
   rw [World.cell?_alloc_lt _ _ _ (spot_of_cell h1).2]
   exact h1
  have HE : Hid ((w.alloc (.cells #[] 47)).ownsRow w.heap.size 47 3 (.slice (some ⟨w.heap.size,0,none⟩) 0 0) 0 []) := ownsRow_empty _ _ _ _ (Nat.le_refl _)
  obtain ⟨i0,hi0,hi1,hi2,hi3⟩ := info_parts info_vr
  clear hl hnone hc hone
  go_enter Try.func45,Try.ntmps45
  go_wp2_with (at_builtin; refine wpList_append_row rfl _ _ 43 rfl w.heap.size 47 i0 _ 3 32 Try.underlying43 hi0 hi1 hi2 hi3 rfl (by decide) _ 0 [] rfl HE.out (some ad) n cap xs rfl HN.out (fun h => by cases h) HC.out HONE.out (by unfold maxLen; omega) (by omega) (by rw [World.size_alloc]; omega) ?_; intro v7 w7 hown7 hgrow7 hat7; have HQ7 := Lib.hid hown7; have HG7 := Lib.hid hgrow7; clear hown7 hgrow7 hat7)
  go_ret
  refine ⟨_,rfl,?_,?_⟩
  ·have := HQ7.out
   simpa using this
  ·exact ((Below.refl _ _).alloc (Nat.le_refl _) _).grown HG7.out (by rw [World.size_alloc]; omega) (fun k hk => by have h9 : some w.heap.size = some k := hk; have := Option.some.inj h9; omega)
set_option maxRecDepth 100000 in
set_option maxHeartbeats 2000000 in
theorem cloneIn_calls (w : World) (ao : Option Addr) (n cap : Nat) (xs : List Value) (hl : xs.length = n * 13) (hnone : ao = none → n = 0) (hc : ∀ ad,ao = some ad → ∀ j u,xs[j]? = some u → w.cell? (ad.add j) = some u) (hone : ∀ u ∈ xs,u.oneCell' = true) (hn : n ≤ 90000) :
  Calls Try.prog 46 #[.slice ao n cap] w fun e w' => ∃ v',e = .returned v' ∧ w'.ownsRow w.heap.size 62 13 v' n xs ∧ Below w.heap.size w w' := by
 have q22 : ∀ (w : World) (a : Option Addr) (n c n' c' : Nat),(binOp .eql 48 (.slice a n c) (.slice none n' c')).run Try.prog w = .ok (.bool a.isNone) w := fun w a n c n' c' => Lib.run_eql_slice_nil w _ _ a n c n' c' Try.underlying48
 cases ao with
 | none =>
  obtain rfl := hnone rfl
  have hx : xs = [] := List.eq_nil_of_length_eq_zero (by omega)
  subst hx
  clear hl hnone hc hone
  go_enter Try.func46,Try.ntmps46
  go_wp2
  go_ret
  exact ⟨_,rfl,World.ownsRow_nil _ _ _ _,Below.refl _ _⟩
 | some ad =>
  have HN : Hid (xs.length = n * 13) := hl
  have HONE := Lib.hid hone
  have HC : Hid (∀ ad',some ad = some ad' → ∀ j u,xs[j]? = some u → (w.alloc (.cells #[] 62)).cell? (ad'.add j) = some u) := by
   intro ad' e j u hu
   obtain rfl := Option.some.inj e
   have h1 := hc ad rfl j u hu
   rw [World.cell?_alloc_lt _ _ _ (spot_of_cell h1).2]
   exact h1
  have HE : Hid ((w.alloc (.cells #[] 62)).ownsRow w.heap.size 62 13 (.slice (some ⟨w.heap.size,0,none⟩) 0 0) 0 []) := ownsRow_empty _ _ _ _ (Nat.le_refl _)
  obtain ⟨i0,hi0,hi1,hi2,hi3⟩ := info_parts info_ins
  clear hl hnone hc hone
  go_enter Try.func46,Try.ntmps46
  go_wp2_with (at_builtin; refine wpList_append_row rfl _ _ 48 rfl w.heap.size 62 i0 _ 13 144 Try.underlying48 hi0 hi1 hi2 hi3 rfl (by decide) _ 0 [] rfl HE.out (some ad) n cap xs rfl HN.out (fun h => by cases h) HC.out HONE.out (by unfold maxLen; omega) (by omega) (by rw [World.size_alloc]; omega) ?_; intro v7 w7 hown7 hgrow7 hat7; have HQ7 := Lib.hid hown7; have HG7 := Lib.hid hgrow7; clear hown7 hgrow7 hat7)
  go_ret
  refine ⟨_,rfl,?_,?_⟩
  ·have := HQ7.out
   simpa using this
  ·exact ((Below.refl _ _).alloc (Nat.le_refl _) _).grown HG7.out (by rw [World.size_alloc]; omega) (fun k hk => by have h9 : some w.heap.size = some k := hk; have := Option.some.inj h9; omega)
theorem flat_get {α : Type} {f : α → List Value} {k : Nat} (hk : ∀ a,(f a).length = k) : ∀ {xs : List α} {i : Nat} {x : α},xs[i]? = some x → ∀ q,q < k → (xs.flatMap f)[i * k + q]? = (f x)[q]?
 | [],_,_,h,_,_ => by simp at h
 | a :: r,0,x,h,q,hq => by
  have e : a = x := by simpa using h
  subst e
  rw [List.flatMap_cons,Nat.zero_mul,Nat.zero_add,List.getElem?_append_left (by rw [hk]; exact hq)]
 | a :: r,i + 1,x,h,q,hq => by
  rw [List.flatMap_cons,List.getElem?_append_right (by rw [hk,Nat.add_mul]; omega),hk,show (i + 1) * k + q - k = i * k + q from by rw [Nat.add_mul]; omega]
  exact flat_get hk (by simpa using h) q hq
theorem flat_len {α : Type} {f : α → List Value} {k : Nat} (hk : ∀ a,(f a).length = k) : ∀ xs : List α,(xs.flatMap f).length = xs.length * k
 | [] => by simp
 | a :: r => by rw [List.flatMap_cons,List.length_append,hk,flat_len hk r,List.length_cons,Nat.add_mul]; omega
theorem flat_at {α : Type} {f : α → List Value} {k : Nat} (hk : ∀ a,(f a).length = k) {xs : List α} {j : Nat} {u : Value} (h : (xs.flatMap f)[j]? = some u) (hk0 : 0 < k) : ∃ x,xs[j / k]? = some x ∧ (f x)[j % k]? = some u := by
 have hj := (List.getElem?_eq_some_iff.1 h).1
 rw [flat_len hk] at hj
 have hi : j / k < xs.length := (Nat.div_lt_iff_lt_mul hk0).2 hj
 obtain ⟨x,hx⟩ : ∃ x,xs[j / k]? = some x := ⟨_,List.getElem?_eq_getElem hi⟩
 refine ⟨x,hx,?_⟩
 rw [← flat_get hk hx (j % k) (Nat.mod_lt _ hk0),show j / k * k + j % k = j from by rw [Nat.mul_comm]; exact Nat.div_add_mod j k]
 exact h
theorem rowOf_owns {α : Type} {cells : α → Array Value} {k : Nat} (hk : ∀ a,(cells a).toList.length = k) {w : World} {base cap : Nat} {e : TypeId} {ao : Option Addr} {xs : List α} (h : w.ownsRow base e k (.slice ao xs.length cap) xs.length (xs.flatMap fun a => (cells a).toList)) :
  RowOf cells k w w.heap.size ao xs := by
 intro hne
 have hl : 0 < xs.length := List.length_pos_iff.2 hne
 rcases h.2 with ⟨_,h2⟩ | ⟨g,cap',cur,h1,h2,h3,_⟩
 ·omega
 ·simp only [Value.slice.injEq] at h1
  obtain ⟨rfl,_,rfl⟩ := h1
  refine ⟨g,0,rfl,(Array.getElem?_eq_some_iff.1 h3).1,fun i x hx q u hu => ?_⟩
  have hq : q < k := by rw [← hk x]; exact (List.getElem?_eq_some_iff.1 hu).1
  have h4 := h.cells (g := g) rfl (i * k + q) u (by rw [flat_get (f := fun a => (cells a).toList) hk hx q hq]; exact hu)
  rw [Addr.add_lit] at h4
  rw [Nat.zero_add] at h4 ⊢
  exact h4
theorem rowOf_flat {α : Type} {cells : α → Array Value} {k : Nat} (hk : ∀ a,(cells a).toList.length = k) (hk0 : 0 < k) {w : World} {B : Nat} {ao : Option Addr} {xs : List α} (h : RowOf cells k w B ao xs) :
  (ao = none → xs.length = 0) ∧ ∀ ad,ao = some ad → ∀ j u,(xs.flatMap fun a => (cells a).toList)[j]? = some u → w.cell? (ad.add j) = some u := by
 refine ⟨fun e => Classical.byContradiction fun hne => ?_,fun ad e j u hu => ?_⟩
 ·obtain ⟨b,off,h1,_⟩ := h (fun e2 => hne (by rw [e2]; rfl))
  rw [e] at h1; cases h1
 ·obtain ⟨x,hx,hq⟩ := flat_at (f := fun a => (cells a).toList) hk hu hk0
  obtain ⟨b,off,h1,_,h3⟩ := h (fun e2 => by rw [e2] at hx; simp at hx)
  rw [e] at h1
  obtain rfl := Option.some.inj h1
  rw [Addr.add_lit]
  have := h3 _ x hx _ u hq
  rw [show off + j / k * k + j % k = off + j from by have := Nat.div_add_mod j k; rw [Nat.mul_comm] at this; omega] at this
  exact this
theorem cells_one {α : Type} {cells : α → Array Value} {xs : List α} (h : ∀ a ∈ xs,(cells a).all (·.oneCell') = true) : ∀ u ∈ xs.flatMap fun a => (cells a).toList,u.oneCell' = true := by
 intro u hu
 obtain ⟨a,ha,hm⟩ := List.mem_flatMap.1 hu
 have := h a ha
 rw [← Array.all_toList,List.all_eq_true] at this
 exact this u hm
theorem stOne (s : St) : s.cells.all (·.oneCell') = true := by rw [← Array.all_toList]; simp only [St.cells,Stc.cells,List.all_cons,List.all_nil]; rfl
theorem vrOne (x : Vr) : x.cells.all (·.oneCell') = true := by rw [← Array.all_toList]; simp only [Vr.cells,List.all_cons,List.all_nil]; rfl
end Go.Proofs.Ytlggjbopfnndbaa
