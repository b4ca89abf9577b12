import Derived.Test.YtlggjbopfnndbaaReads
import Derived.Test.YtlggjbopfnndbaaG04
import Derived.Handy
namespace Go.Proofs.Ytlggjbopfnndbaa
open Go.RowKit
theorem IntsAt.lit (w : World) (cs : Array Value) (xs : List Int) {B : Nat} (hB : B = w.heap.size) (h : cs = (xs.map (Value.int .i64)).toArray) : IntsAt (w.alloc (.cells cs 3)) (some ⟨B,0,none⟩) xs := by
 subst hB h
 intro _
 refine ⟨w.heap.size,0,rfl,by simp,fun i u hi => ?_⟩
 rw [Nat.zero_add,World.cell?_alloc_new]
 simp [hi]
theorem in5_lit (op : Int) (xs : List Int) (n : Nat) (hn : n = xs.length) (hl : xs.length ≤ 90000) (W : World) (ao : Option Addr) (h : IntsAt W ao xs) :
  Calls Try.prog 108 #[.int .i64 op,.slice ao n n] W fun e w' => e = .returned (.bool (decide (op ∈ xs))) ∧ W = w' := by
 subst hn; exact in5_calls W _ ao xs op hl h
set_option maxRecDepth 100000 in
set_option maxHeartbeats 1000000 in
theorem refWrites_calls (i : Ins) (w : World) (hok : i.ok) : Calls Try.prog 85 #[.agg i.cells] w fun e w' => e = .returned (.tuple #[.int .i64 (writesOf i).1,.bool (writesOf i).2]) ∧ Below w.heap.size w w' := by
 obtain ⟨op,d,a,b,f,n,sign,argsV,modeV,tgt,els,ln,cl,args⟩ := i
 obtain ⟨⟨ao,cap,h1⟩,ao2,n2,cap2,h2⟩ := hok
 simp only at h1 h2
 subst h1 h2
 simp only [Ins.cells,writesOf]
 have HD : Hid (∀ (W : World) ao,IntsAt W ao [1,2,3,4,5,7,9,10,12,14,15] → Calls Try.prog 108 #[.int .i64 op,.slice ao 11 11] W fun e w' => e = .returned (.bool (shD op)) ∧ W = w') :=
  fun W ao h => in5_lit op [1,2,3,4,5,7,9,10,12,14,15] 11 rfl (by simp) W ao h
 cases hd : shD op with
 | true =>
  go_enter Try.func85,Try.ntmps85
  go_wp2_with (go_at_call 108; refine (HD.out _ _ (IntsAt.lit _ _ _ (by simp) rfl)).mono ?_; rintro e w' ⟨rfl,rfl⟩)
  go_ret2
  exact ⟨rfl,((Below.refl _ _).alloc (Nat.le_refl _) _).alloc (by simp) _⟩
 | false =>
  go_enter Try.func85,Try.ntmps85
  go_wp2_with (go_at_call 108; refine (HD.out _ _ (IntsAt.lit _ _ _ (by simp) rfl)).mono ?_; rintro e w' ⟨rfl,rfl⟩)
  go_ret2
  exact ⟨rfl,((Below.refl _ _).alloc (Nat.le_refl _) _).alloc (by simp) _⟩
set_option maxRecDepth 100000 in
set_option maxHeartbeats 4000000 in
theorem refReads_calls (i : Ins) (w : World) (hin : i.args_in w) (hl : i.args.length ≤ 40) : Calls Try.prog 87 #[.agg i.cells] w (GivesI w (readsOf i)) := by
 obtain ⟨op,d,a,b,f,n,sign,argsV,modeV,tgt,els,ln,cl,args⟩ := i
 obtain ⟨⟨_,ao2,n2,cap2,h2⟩,ao,cap,h1,hrow⟩ := hin
 simp only at h1 h2 hrow hl
 subst h1 h2
 simp only [Ins.cells,readsOf]
 have HA : Hid (∀ (W : World) ao,IntsAt W ao [3,4,6,7,8,9,10,11,13,14,17,18] → Calls Try.prog 108 #[.int .i64 op,.slice ao 12 12] W fun e w' => e = .returned (.bool (shA op)) ∧ W = w') :=
  fun W ao h => in5_lit op [3,4,6,7,8,9,10,11,13,14,17,18] 12 rfl (by simp) W ao h
 have HB : Hid (∀ (W : World) ao,IntsAt W ao [4,8,11] → Calls Try.prog 108 #[.int .i64 op,.slice ao 3 3] W fun e w' => e = .returned (.bool (shB op)) ∧ W = w') :=
  fun W ao h => in5_lit op [4,8,11] 3 rfl (by simp) W ao h
 have HROW := Lib.hid hrow.at_
 clear hrow
 obtain ⟨N,hN⟩ : ∃ N,w.heap.size = N := ⟨_,rfl⟩
 obtain ⟨W1,hW1⟩ : ∃ W1,w.alloc (.cells #[.int .i64 op,.int .i64 d,.int .i64 a,.int .i64 b,.int .i64 f,.int .i64 n,.string sign,.slice ao args.length cap,.slice ao2 n2 cap2,.int .i64 tgt,.int .i64 els,.int .i64 ln,.int .i64 cl] 62) = W1 := ⟨_,rfl⟩
 have hb1 : Below N w W1 := by rw [← hW1,← hN]; exact (Below.refl _ _).alloc (Nat.le_refl _) _
 have hs1 : W1.heap.size = N + 1 := by rw [← hW1]; simp [hN]
 have hr1 : W1.heap[N]? = some (.cells #[.int .i64 op,.int .i64 d,.int .i64 a,.int .i64 b,.int .i64 f,.int .i64 n,.string sign,.slice ao args.length cap,.slice ao2 n2 cap2,.int .i64 tgt,.int .i64 els,.int .i64 ln,.int .i64 cl] 62 (0,0)) := by
  rw [← hW1,← hN]; exact alloc_at _ _
 have HK : Hid (∀ W,Ext (fun k => N + 1 ≤ k) W1 W → W.cell? ⟨N,0,none⟩ = some (.int .i64 op) ∧ W.cell? ⟨N,2,none⟩ = some (.int .i64 a) ∧ W.cell? ⟨N,3,none⟩ = some (.int .i64 b) ∧ W.cell? ⟨N,7,none⟩ = some (.slice ao args.length cap) ∧ N < W.heap.size ∧ Below N w W ∧ IntsAt W ao args) := by
  intro W hx
  have h4 := hx.heap hr1 (by omega)
  have hbW : Below N w W := hb1.trans ((hx.below (B := N + 1) (by omega) (fun k hk => hk)).mono (by omega))
  refine ⟨?_,?_,?_,?_,(Array.getElem?_eq_some_iff.1 h4).1,hbW,HROW.out.below (by rw [hN]; exact hbW)⟩ <;> (rw [cell_of_row _ _ _ _ _ _ h4]; rfl)
 have HS1 := Lib.hid hs1
 have HW1 := Lib.hid hW1
 have hs1' : N + 1 ≤ W1.heap.size := by omega
 clear hb1 hs1 hr1 hW1 HROW
 by_cases h15 : op = 15
 ·subst h15
  have ea : shA 15 = false := by decide
  have eb : shB 15 = false := by decide
  rw [ea,eb,if_neg (by decide),if_neg (by decide),if_pos rfl]
  rw [ea] at HA
  rw [eb] at HB
  simp only [List.nil_append]
  clear ea eb
  go_enter Try.func87,Try.ntmps87
  go_wp2_with fail
  go_at_call 108
  rw [HW1.out]
  refine (HA.out _ _ (IntsAt.lit _ _ _ (by have := HS1.out; omega) rfl)).mono ?_
  rintro e w2 ⟨rfl,hw2⟩
  have hx2 : Ext (fun k => N + 1 ≤ k) W1 w2 := by rw [← hw2]; exact (Ext.refl _ _).alloc _
  obtain ⟨k0,k2,k3,k7,hlt,hbN,hat⟩ := HK.out w2 hx2
  have HX2 := Lib.hid hx2
  have HAT2 := Lib.hid hat
  have HBN2 := Lib.hid hbN
  clear hw2 hx2 hat hbN
  go_wp2_with fail
  go_at_call 108
  refine (HB.out _ _ (IntsAt.lit _ _ _ rfl rfl)).mono ?_
  rintro e w4 ⟨rfl,hw4⟩
  have hx4 : Ext (fun k => N + 1 ≤ k) W1 w4 := by rw [← hw4]; exact HX2.out.alloc _
  have hy4 : Below w2.heap.size w2 w4 := by rw [← hw4]; exact (Below.refl _ _).alloc (Nat.le_refl _) _
  obtain ⟨k0,k2,k3,k7,hlt,hbN,hat⟩ := HK.out w4 hx4
  have HX4 := Lib.hid hx4
  have HY4 := Lib.hid hy4
  have HAT4 := Lib.hid hat
  have HBN4 := Lib.hid hbN
  clear hw4 hx4 hy4 hat hbN
  have hlt1 : N < w4.heap.size + 1 := by omega
  go_wp2_with (at_builtin; refine wpList_append_ints rfl (.tmp 25) (.tmp 27) rfl (N + 1) (.slice none 0 0) [] rfl (OwnI.nil _ _) _ args cap rfl HAT4.out ?c51 ?c52 ?_)
  case c51 => first | omega | (simp <;> omega) | simp
  case c52 => first | omega | (simp <;> omega) | simp
  intro v5 w5 hown5 hgrow5
  obtain ⟨ao5,cap5,rfl⟩ := hown5.isSlice
  have hx5 : Ext (fun k => N + 1 ≤ k) W1 w5 := HX4.out.trans (Ext.of_grown hgrow5 (fun k hk => .inl (by first | (have h3 := ((OwnI.nil _ _).lt k hk).1; exact h3) | (simp [Value.ownBlock] at hk)))) (fun j hj => .inl hj)
  have HG : Hid (GivesI w args (.returned (.slice ao5 args.length cap5)) w5) := ⟨_,_,rfl,by rw [hN]; exact OwnI.mono (by simpa using hown5) (Nat.le_succ N),by rw [hN]; exact (HK.out w5 hx5).2.2.2.2.2.1⟩
  clear hown5 hgrow5 hx5
  try simp only [List.nil_append]
  go_wp2
  go_ret
  exact HG.out
 ·have h15' : (op == 15) = false := by simpa using h15
  rw [if_neg h15,List.append_nil]
  clear h15
  cases ha : shA op with
  | false =>
   have hb : shB op = false := by
    cases h : shB op with
    | false => rfl
    | true => rw [shB_shA h] at ha; cases ha
   rw [hb,if_neg (by decide),if_neg (by decide)]
   rw [ha] at HA
   rw [hb] at HB
   clear ha hb
   go_enter Try.func87,Try.ntmps87
   go_wp2_with fail
   go_at_call 108
   rw [HW1.out]
   refine (HA.out _ _ (IntsAt.lit _ _ _ (by have := HS1.out; omega) rfl)).mono ?_
   rintro e w2 ⟨rfl,hw2⟩
   have hx2 : Ext (fun k => N + 1 ≤ k) W1 w2 := by rw [← hw2]; exact (Ext.refl _ _).alloc _
   obtain ⟨k0,k2,k3,k7,hlt,hbN,hat⟩ := HK.out w2 hx2
   have HX2 := Lib.hid hx2
   have HAT2 := Lib.hid hat
   have HBN2 := Lib.hid hbN
   clear hw2 hx2 hat hbN
   go_wp2_with fail
   go_at_call 108
   refine (HB.out _ _ (IntsAt.lit _ _ _ rfl rfl)).mono ?_
   rintro e w4 ⟨rfl,hw4⟩
   have hx4 : Ext (fun k => N + 1 ≤ k) W1 w4 := by rw [← hw4]; exact HX2.out.alloc _
   have hy4 : Below w2.heap.size w2 w4 := by rw [← hw4]; exact (Below.refl _ _).alloc (Nat.le_refl _) _
   obtain ⟨k0,k2,k3,k7,hlt,hbN,hat⟩ := HK.out w4 hx4
   have HX4 := Lib.hid hx4
   have HY4 := Lib.hid hy4
   have HAT4 := Lib.hid hat
   have HBN4 := Lib.hid hbN
   clear hw4 hx4 hy4 hat hbN
   go_wp2
   go_ret
   exact ⟨none,0,rfl,OwnI.nil _ _,by first | exact HBN4.out | (rw [hN]; exact HBN4.out)⟩
  | true =>
   rw [ha] at HA
   cases hb : shB op with
   | false =>
    rw [if_pos rfl,if_neg (by decide),List.append_nil]
    rw [hb] at HB
    clear ha hb
    go_enter Try.func87,Try.ntmps87
    go_wp2_with fail
    go_at_call 108
    rw [HW1.out]
    refine (HA.out _ _ (IntsAt.lit _ _ _ (by have := HS1.out; omega) rfl)).mono ?_
    rintro e w2 ⟨rfl,hw2⟩
    have hx2 : Ext (fun k => N + 1 ≤ k) W1 w2 := by rw [← hw2]; exact (Ext.refl _ _).alloc _
    obtain ⟨k0,k2,k3,k7,hlt,hbN,hat⟩ := HK.out w2 hx2
    have HX2 := Lib.hid hx2
    have HAT2 := Lib.hid hat
    have HBN2 := Lib.hid hbN
    clear hw2 hx2 hat hbN
    have hlt1 : N < w2.heap.size + 1 := by omega
    go_wp2_with (at_builtin; refine wpList_append_ints rfl (.tmp 8) (.tmp 11) rfl (N + 1) (.slice none 0 0) [] rfl (OwnI.nil _ _) _ [a] 1 rfl (IntsAt.one _ _ rfl) ?c31 ?c32 ?_)
    case c31 => first | omega | (simp <;> omega) | simp
    case c32 => first | omega | (simp <;> omega) | simp
    intro v3 w3 hown3 hgrow3
    obtain ⟨ao3,cap3,rfl⟩ := hown3.isSlice
    have hx3 : Ext (fun k => N + 1 ≤ k) W1 w3 := (HX2.out.alloc _).trans (Ext.of_grown hgrow3 (fun k hk => .inl (by first | (have h3 := ((OwnI.nil _ _).lt k hk).1; exact h3) | (simp [Value.ownBlock] at hk)))) (fun j hj => .inl hj)
    obtain ⟨k0,k2,k3,k7,hlt,_,_⟩ := HK.out w3 hx3
    have HX3 := Lib.hid hx3
    have HO3 : Hid (OwnI w3 (N + 1) (.slice ao3 [a].length cap3) [a]) := by unfold Hid; simpa using hown3
    clear hown3 hgrow3 hx3
    try simp only [List.nil_append]
    go_wp2_with fail
    go_at_call 108
    refine (HB.out _ _ (IntsAt.lit _ _ _ rfl rfl)).mono ?_
    rintro e w4 ⟨rfl,hw4⟩
    have hx4 : Ext (fun k => N + 1 ≤ k) W1 w4 := by rw [← hw4]; exact HX3.out.alloc _
    have hy4 : Below w3.heap.size w3 w4 := by rw [← hw4]; exact (Below.refl _ _).alloc (Nat.le_refl _) _
    obtain ⟨k0,k2,k3,k7,hlt,hbN,hat⟩ := HK.out w4 hx4
    have HX4 := Lib.hid hx4
    have HY4 := Lib.hid hy4
    have HAT4 := Lib.hid hat
    have HBN4 := Lib.hid hbN
    clear hw4 hx4 hy4 hat hbN
    have HG : Hid (GivesI w [a] (.returned (.slice ao3 [a].length cap3)) w4) := ⟨_,_,rfl,by rw [hN]; exact OwnI.mono (ownsRow_below HO3.out HY4.out) (Nat.le_succ N),by rw [hN]; exact HBN4.out⟩
    go_wp2
    go_ret
    exact HG.out
   | true =>
    rw [if_pos rfl,if_pos rfl]
    rw [hb] at HB
    clear ha hb
    go_enter Try.func87,Try.ntmps87
    go_wp2_with fail
    go_at_call 108
    rw [HW1.out]
    refine (HA.out _ _ (IntsAt.lit _ _ _ (by have := HS1.out; omega) rfl)).mono ?_
    rintro e w2 ⟨rfl,hw2⟩
    have hx2 : Ext (fun k => N + 1 ≤ k) W1 w2 := by rw [← hw2]; exact (Ext.refl _ _).alloc _
    obtain ⟨k0,k2,k3,k7,hlt,hbN,hat⟩ := HK.out w2 hx2
    have HX2 := Lib.hid hx2
    have HAT2 := Lib.hid hat
    have HBN2 := Lib.hid hbN
    clear hw2 hx2 hat hbN
    have hlt1 : N < w2.heap.size + 1 := by omega
    go_wp2_with (at_builtin; refine wpList_append_ints rfl (.tmp 8) (.tmp 11) rfl (N + 1) (.slice none 0 0) [] rfl (OwnI.nil _ _) _ [a] 1 rfl (IntsAt.one _ _ rfl) ?c31 ?c32 ?_)
    case c31 => first | omega | (simp <;> omega) | simp
    case c32 => first | omega | (simp <;> omega) | simp
    intro v3 w3 hown3 hgrow3
    obtain ⟨ao3,cap3,rfl⟩ := hown3.isSlice
    have hx3 : Ext (fun k => N + 1 ≤ k) W1 w3 := (HX2.out.alloc _).trans (Ext.of_grown hgrow3 (fun k hk => .inl (by first | (have h3 := ((OwnI.nil _ _).lt k hk).1; exact h3) | (simp [Value.ownBlock] at hk)))) (fun j hj => .inl hj)
    obtain ⟨k0,k2,k3,k7,hlt,_,_⟩ := HK.out w3 hx3
    have HX3 := Lib.hid hx3
    have HO3 : Hid (OwnI w3 (N + 1) (.slice ao3 [a].length cap3) [a]) := by unfold Hid; simpa using hown3
    clear hown3 hgrow3 hx3
    try simp only [List.nil_append]
    go_wp2_with fail
    go_at_call 108
    refine (HB.out _ _ (IntsAt.lit _ _ _ rfl rfl)).mono ?_
    rintro e w4 ⟨rfl,hw4⟩
    have hx4 : Ext (fun k => N + 1 ≤ k) W1 w4 := by rw [← hw4]; exact HX3.out.alloc _
    have hy4 : Below w3.heap.size w3 w4 := by rw [← hw4]; exact (Below.refl _ _).alloc (Nat.le_refl _) _
    obtain ⟨k0,k2,k3,k7,hlt,hbN,hat⟩ := HK.out w4 hx4
    have HX4 := Lib.hid hx4
    have HY4 := Lib.hid hy4
    have HAT4 := Lib.hid hat
    have HBN4 := Lib.hid hbN
    clear hw4 hx4 hy4 hat hbN
    have HO4 : Hid (OwnI w4 (N + 1) (.slice ao3 1 cap3) [a]) := ownsRow_below HO3.out HY4.out
    have hlt1 : N < w4.heap.size + 1 := by omega
    go_wp2_with (at_builtin; refine wpList_append_ints rfl (.tmp 17) (.tmp 20) rfl (N + 1) (.slice ao3 1 cap3) [a] rfl (ownsRow_below HO4.out ((Below.refl _ _).alloc (Nat.le_refl _) _)) _ [b] 1 rfl (IntsAt.one _ _ rfl) ?c51 ?c52 ?_)
    case c51 => first | omega | (simp <;> omega) | simp
    case c52 => first | omega | (simp <;> omega) | simp
    intro v5 w5 hown5 hgrow5
    obtain ⟨ao5,cap5,rfl⟩ := hown5.isSlice
    have hx5 : Ext (fun k => N + 1 ≤ k) W1 w5 := (HX4.out.alloc _).trans (Ext.of_grown hgrow5 (fun k hk => .inl (by first | (have h3 := (HO4.out.lt k hk).1; exact h3) | (simp [Value.ownBlock] at hk)))) (fun j hj => .inl hj)
    obtain ⟨k0,k2,k3,k7,hlt,hbN,_⟩ := HK.out w5 hx5
    have HG : Hid (GivesI w [a,b] (.returned (.slice ao5 [a,b].length cap5)) w5) := ⟨_,_,rfl,by rw [hN]; exact OwnI.mono (by simpa using hown5) (Nat.le_succ N),by rw [hN]; exact hbN⟩
    clear hown5 hgrow5 hx5 hbN
    try simp only [List.cons_append,List.nil_append]
    go_wp2
    go_ret
    exact HG.out
end Go.Proofs.Ytlggjbopfnndbaa
namespace Go.Proofs.Ytlggjbopfnndbaa
open Go.RowKit
def ixOf {α : Type} (p : α → Bool) (l : List α) : Int := if l.findIdx p < l.length then ((l.findIdx p : Nat) : Int) else -1
def Mo.stIx (m : Mo) (nm : ByteArray) : Int := ixOf (fun s => s.s.nm == nm) m.ss
def Mo.fnIx (m : Mo) (nm : ByteArray) : Int := ixOf (fun f => f.c.nm == nm) m.fs
def Mo.known (m : Mo) (t : Ty) : Bool := if t.1 = true then decide (0 ≤ m.stIx t.2) else t.2 == ByteArray.empty
def tyAt (vs : List Vr) (v : Int) : Ty := match vs[v.toNat]? with
 | some x => x.ty
 | none => noTy
def isVar (n : Nat) (v : Int) : Bool := decide (0 ≤ v) && decide (v < (n : Int))
def thereF (n : Nat) (l : List Int) : Bool := l.all (isVar n)
def unl (b : Bool) (f : Int) : Int := if b = true then 0 else f
def fieldF (m : Mo) (vs : List Vr) (v f : Int) : Ty × Int :=
 if (tyAt vs v).1 = false then (noTy,7)
 else match m.ss[(m.stIx (tyAt vs v).2).toNat]? with
  | none => (noTy,15)
  | some s => if f < 0 then (noTy,15) else match s.fs[f.toNat]? with
   | none => (noTy,15)
   | some x => (x.ty,0)
def heapF (m : Mo) (vs : List Vr) (i : Ins) (other : Int) (ptr : Bool) : Int :=
 if (fieldF m vs i.a i.f).2 ≠ 0 then (fieldF m vs i.a i.f).2
 else unl ((fieldF m vs i.a i.f).1 == tyAt vs other && (fieldF m vs i.a i.f).1.1 == ptr) 7
def argsF (vs gs : List Vr) : Nat → List Int → Bool
 | _,[] => true
 | k,a :: r => tyAt vs a == tyAt gs (k : Int) && argsF vs gs (k + 1) r
def callF (m : Mo) (vs : List Vr) (i : Ins) : Int :=
 if i.f < 0 then 15 else match m.fs[i.f.toNat]? with
  | none => 15
  | some g => if (i.args.length : Int) ≠ g.c.par ∨ (g.vs.length : Int) < g.c.par then 7
   else if argsF vs g.vs 0 i.args = false then 7 else unl (tyAt vs i.d == g.ret) 7
def numsF (vs : List Vr) (l : List Int) : Int := unl (l.all fun v => !(tyAt vs v).1) 7
def signedF (f : Int) (s : ByteArray) (l : List ByteArray) : Int := if f ≠ 0 then f else unl (l.any fun x => x == s) 3
def signsB : List ByteArray := [⟨#[43]⟩,⟨#[45]⟩,⟨#[42]⟩,⟨#[47]⟩,⟨#[37]⟩,⟨#[60]⟩,⟨#[60,61]⟩,⟨#[62]⟩,⟨#[62,61]⟩,⟨#[61,61]⟩,⟨#[33,61]⟩]
def signsN : List ByteArray := [⟨#[61,61]⟩,⟨#[33,61]⟩]
def plainF (m : Mo) (vs : List Vr) (i : Ins) : Int :=
 if i.op = 1 ∨ i.op = 5 then numsF vs [i.d]
 else if i.op = 3 then numsF vs [i.d,i.a]
 else if i.op = 4 then signedF (numsF vs [i.d,i.a,i.b]) i.sign signsB
 else if i.op = 6 then numsF vs [i.a]
 else if i.op = 2 then unl (tyAt vs i.d).1 7
 else if i.op = 13 then unl (tyAt vs i.a).1 7
 else if i.op = 14 then signedF (unl (!(tyAt vs i.d).1 && (tyAt vs i.a).1) 7) i.sign signsN
 else if i.op = 9 then unl ((tyAt vs i.a).1 && tyAt vs i.a == tyAt vs i.d) 7
 else if i.op = 7 ∨ i.op = 10 then heapF m vs i i.d (decide (i.op = 10))
 else if i.op = 8 ∨ i.op = 11 then heapF m vs i i.b (decide (i.op = 11))
 else if i.f < 0 then 15 else match m.ss[i.f.toNat]? with
  | none => 15
  | some s => unl (tyAt vs i.d == (true,s.s.nm)) 7
def instrF (m : Mo) (g : Fn) (i : Ins) : Int :=
 if i.op < 1 ∨ 18 < i.op then 3
 else if thereF g.vs.length (readsOf i ++ (if shD i.op then [i.d] else [])) = false then 15
 else if i.op = 15 then callF m g.vs i
 else if i.op = 16 then unl (isVar g.c.ins.length i.to) 15
 else if i.op = 17 then (if isVar g.c.ins.length i.to && isVar g.c.ins.length i.els then numsF g.vs [i.a] else 15)
 else if i.op = 18 then unl (tyAt g.vs i.a == g.ret) 7
 else plainF m g.vs i
def firstF {α : Type} (f : α → Int) : List α → Int
 | [] => 0
 | x :: r => if f x = 0 then firstF f r else f x
def codeF (m : Mo) (g : Fn) : Int :=
 if 300 < g.vs.length ∨ g.c.ins.length < 1 ∨ 3000 < g.c.ins.length then 2
 else if g.c.par < 0 ∨ (g.vs.length : Int) < g.c.par then 15
 else if firstF (instrF m g) g.c.ins ≠ 0 then firstF (instrF m g) g.c.ins
 else unl (match g.c.ins.getLast? with
  | some i => decide (16 ≤ i.op)
  | none => false) 15
def twiceF (m : Mo) : Bool := (m.ss.any fun s => decide (¬ (s.fs.map Fd.nm).Nodup)) || decide (¬ (m.ss.map fun s => s.s.nm).Nodup) || decide (¬ (m.fs.map fun f => f.c.nm).Nodup)
def typesF (m : Mo) : List Ty := (m.ss.flatMap fun s => s.fs.map Fd.ty) ++ (m.fs.flatMap fun f => f.ret :: f.vs.map Vr.ty)
def mainB : ByteArray := ⟨#[109,97,105,110]⟩
def rightF (m : Mo) : Int :=
 if 30 < m.ss.length ∨ 60 < m.fs.length then 2
 else if twiceF m = true then 6
 else if (typesF m).all m.known = false then 5
 else if firstF (codeF m) m.fs ≠ 0 then firstF (codeF m) m.fs
 else unl (decide (0 ≤ m.fnIx mainB) && (match m.fs[(m.fnIx mainB).toNat]? with
  | some g => decide (g.c.par = 0) && !g.c.rp
  | none => false)) 9
end Go.Proofs.Ytlggjbopfnndbaa
namespace Go.Proofs.Ytlggjbopfnndbaa
open Go.RowKit
set_option maxRecDepth 100000 in
theorem unless_calls (b : Bool) (f : Int) (w : World) : Calls Try.prog 81 #[.bool b,.int .i64 f] w fun e w' => e = .returned (.int .i64 (unl b f)) ∧ w = w' := by
 cases b with
 | true =>
  go_enter Try.func81,Try.ntmps81
  go_wp2
  go_ret
  exact ⟨rfl,rfl⟩
 | false =>
  go_enter Try.func81,Try.ntmps81
  go_wp2
  go_ret
  exact ⟨rfl,rfl⟩
def jg (m : Mo) (g : Fn) : Array Value := #[.slice m.sA m.ss.length m.sC,.slice m.fA m.fs.length m.fC,.string g.c.nm,.int .i64 g.c.par,.slice g.c.varsA g.c.nvars g.c.varsC,.bool g.c.rp,.string g.c.rto,.int .i64 g.c.rcl,.slice g.c.fromA g.c.nfrom g.c.fromC,.slice g.c.insA g.c.ins.length g.c.insC]
def tyV (t : Ty) : Value := .agg #[.bool t.1,.string t.2]
theorem field_typ : ∀ (b : Bool) (s : ByteArray) (w : World),(Instr.field 45 (.agg #[.bool b,.string s]) 0).run Try.prog w = .ok (.bool b) w := fun b s w => by kernel_rfl
theorem isVar_iff {n : Nat} {v : Int} : isVar n v = true ↔ 0 ≤ v ∧ v < (n : Int) := by simp [isVar]
theorem var_at {w : World} {A : Option Addr} {vs : List Vr} (hr : RowOf Vr.cells 3 w w.heap.size A vs) {v : Int} (hv : isVar vs.length v = true) :
  ∃ (k b off : Nat) (x : Vr),v = (k : Int) ∧ k < vs.length ∧ A = some ⟨b,off,none⟩ ∧ b < w.heap.size ∧ tyAt vs v = (x.ptr,x.tgt) ∧ w.cell? ⟨b,off + k * 3,none⟩ = some (.bool x.ptr) ∧ w.cell? ⟨b,off + k * 3 + 1,none⟩ = some (.string x.tgt) := by
 obtain ⟨h0,h1⟩ := isVar_iff.1 hv
 obtain ⟨k,rfl⟩ : ∃ k : Nat,v = (k : Int) := ⟨v.toNat,by omega⟩
 have hk : k < vs.length := by omega
 obtain ⟨x,hx⟩ : ∃ x,vs[k]? = some x := ⟨_,List.getElem?_eq_getElem hk⟩
 obtain ⟨b,off,hA,hb,hc⟩ := hr (by intro e; rw [e] at hk; simp at hk)
 refine ⟨k,b,off,x,rfl,hk,hA,hb,?_,hc k x hx 0 _ rfl,hc k x hx 1 _ rfl⟩
 unfold tyAt
 rw [Int.toNat_natCast,hx]
 rfl
set_option maxRecDepth 100000 in
set_option maxHeartbeats 1000000 in
theorem typ_calls (m : Mo) (g : Fn) (v : Int) (w : World) (hr : RowOf Vr.cells 3 w w.heap.size g.c.varsA g.vs) (hn : g.c.nvars = g.vs.length) (_ : g.vs.length ≤ maxLen) (hv : isVar g.vs.length v = true) :
  Calls Try.prog 125 #[.agg (jg m g),.int .i64 v] w fun e w' => e = .returned (tyV (tyAt g.vs v)) ∧ Below w.heap.size w w' := by
 obtain ⟨k,b,off,x,rfl,hk,hA,hb,ht,q0,q1⟩ := var_at hr hv
 have hkI : (k : Int) < (g.vs.length : Int) := by omega
 rw [ht]
 unfold tyV jg
 rw [hA,hn]
 clear hr hv ht hA hn
 go_enter Try.func125,Try.ntmps125
 go_wp2
 go_returns
 exact ⟨rfl,((Below.refl _ _).alloc (Nat.le_refl _) _).alloc (by simp) _⟩
set_option maxRecDepth 100000 in
set_option maxHeartbeats 1000000 in
theorem line_calls (m : Mo) (g : Fn) (v : Int) (w : World) : Calls Try.prog 123 #[.agg (jg m g),.int .i64 v] w fun e w' => e = .returned (.bool (isVar g.c.ins.length v)) ∧ Below w.heap.size w w' := by
 unfold jg
 by_cases h : 0 ≤ v
 ·have HE : Hid (decide (v < (g.c.ins.length : Int)) = isVar g.c.ins.length v) := by
   unfold Hid isVar; rw [decide_eq_true h]; rfl
  go_enter Try.func123,Try.ntmps123
  go_wp2
  go_ret
  rw [← HE.out]
  exact ⟨rfl,(Below.refl _ _).alloc (Nat.le_refl _) _⟩
 ·have HE : Hid (false = isVar g.c.ins.length v) := by
   unfold Hid isVar; rw [decide_eq_false h]; rfl
  go_enter Try.func123,Try.ntmps123
  go_wp2
  go_ret
  rw [← HE.out]
  exact ⟨rfl,(Below.refl _ _).alloc (Nat.le_refl _) _⟩
set_option maxRecDepth 100000 in
set_option maxHeartbeats 1000000 in
theorem there1_calls (m : Mo) (g : Fn) (B : Nat) (v : Int) (w : World) (hB : w.heap[B]? = some (.cells (jg m g) 113 (0,0))) (hn : g.c.nvars = g.vs.length) :
  Calls Try.prog 134 #[.int .i64 v,.pointer (some ⟨B,0,none⟩)] w fun e w' => e = .returned (.bool (!isVar g.vs.length v)) ∧ w = w' := by
 have q : w.cell? ⟨B,4,none⟩ = some (.slice g.c.varsA g.vs.length g.c.varsC) := by rw [cell_of_row _ _ _ _ _ _ hB,← hn]; rfl
 clear hB hn
 by_cases h : v < 0
 ·have HE : Hid (true = !isVar g.vs.length v) := by
   unfold Hid isVar; rw [decide_eq_false (by omega)]; rfl
  go_enter Try.func134,Try.ntmps134
  go_wp2
  go_ret
  rw [← HE.out]
  exact ⟨rfl,rfl⟩
 ·have HE : Hid (decide ((g.vs.length : Int) ≤ v) = !isVar g.vs.length v) := by
   unfold Hid isVar; rw [Bool.eq_iff_iff]; simp; omega
  go_enter Try.func134,Try.ntmps134
  go_wp2
  go_ret
  rw [← HE.out]
  exact ⟨rfl,rfl⟩
set_option maxRecDepth 100000 in
set_option maxHeartbeats 1000000 in
theorem numbers1_calls (m : Mo) (g : Fn) (B : Nat) (v : Int) (w : World) (hB : w.heap[B]? = some (.cells (jg m g) 113 (0,0))) (hr : RowOf Vr.cells 3 w w.heap.size g.c.varsA g.vs) (hn : g.c.nvars = g.vs.length) (hl : g.vs.length ≤ maxLen) (hv : isVar g.vs.length v = true) :
  Calls Try.prog 135 #[.int .i64 v,.pointer (some ⟨B,0,none⟩)] w fun e w' => e = .returned (.bool (tyAt g.vs v).1) ∧ Below w.heap.size w w' := by
 have HT := Lib.hid (typ_calls m g v w hr hn hl hv)
 unfold tyV at HT
 have HB := Lib.hid hB
 have hfld := field_typ
 have hBlt := (Array.getElem?_eq_some_iff.1 hB).1
 clear hB hr hv hn hl
 go_enter Try.func135,Try.ntmps135
 go_wp2_with (first
  | (refine wpList_load_row rfl 113 _ rfl B rfl 113 (jg m g) (0,0) _ HB.out Try.underlying113 rfl (by kernel_rfl) ?_)
  | (go_at_call 125; refine HT.out.mono ?_; rintro e w2 ⟨rfl,hb⟩; have HB2 := Lib.hid hb; clear hb))
 go_ret
 exact ⟨rfl,HB2.out⟩
end Go.Proofs.Ytlggjbopfnndbaa
