import Derived.Test.YtlggjbopfnndbaaG19
import Derived.Test.YtlggjbopfnndbaaG22
import Derived.Test.YtlggjbopfnndbaaG33
import Derived.Test.YtlggjbopfnndbaaG30
namespace Go.Proofs.Ytlggjbopfnndbaa
open Go.RowKit
def alI (op d a : Int) : Ins := ⟨op, d, a, 0, 0, 0, ⟨#[]⟩, .slice none 0 0, .slice none 0 0, 0, 0, 0, 0, []⟩
def alV (p : Bool) (t : ByteArray) (c : Int) : Vr := ⟨p, t, c⟩
theorem rowOf_heap {α : Type} {cells : α → Array Value} {k b : Nat} {t : TypeId} (hc : ∀ a, (cells a).toList.length = k) {w : World} {xs : List α} {cs : Array Value} (h : w.heap[b]? = some (.cells cs t (0, 0))) (e : (xs.flatMap fun a => (cells a).toList) = cs.toList) : RowOf cells k w w.heap.size (some ⟨b, 0, none⟩) xs := by
 intro _
 refine ⟨b, 0, rfl, (Array.getElem?_eq_some_iff.1 h).1, fun i x hx q u hu => ?_⟩
 rw [cell_of_row _ _ _ _ _ _ h, Nat.zero_add, ← Array.getElem?_toList, ← e, flat_get hc hx q (by rw [← hc x]; exact (List.getElem?_eq_some_iff.1 hu).1)]
 exact hu
theorem rowOf_nil {α : Type} (cells : α → Array Value) (k : Nat) (w : World) (B : Nat) (ao : Option Addr) : RowOf cells k w B ao [] := fun h => (h rfl).elim
end Go.Proofs.Ytlggjbopfnndbaa
namespace Go.Proofs.Ytlggjbopfnndbaa
open Go.RowKit
/-- A module without what Rewrite writes. -/
def erI (i : Ins) : Ins := { i with modeV := .bool false }
def erF (g : Fn) : Fn := ⟨⟨g.c.nm, g.c.par, none, 0, 0, g.c.rp, g.c.rto, g.c.rcl, none, 0, 0, none, 0, g.c.ins.map erI⟩, g.vs, [], []⟩
def erM (m : Mo) : Mo := ⟨none, 0, none, 0, m.ss, m.fs.map erF⟩
theorem erM_get (m : Mo) (f : Nat) : (erM m).fs[f]? = (m.fs[f]?).map erF := by show (m.fs.map erF)[f]? = _; rw [List.getElem?_map]
theorem firstF_map {α β : Type} (f : β → Int) (e : α → β) : ∀ l : List α, firstF f (l.map e) = firstF (fun x => f (e x)) l
 | [] => rfl
 | x :: r => by simp only [List.map_cons, firstF, firstF_map f e r]
theorem callF_er (m : Mo) (vs : List Vr) (i : Ins) : callF (erM m) vs (erI i) = callF m vs i := by
 unfold callF
 have e : (erI i).f = i.f := rfl
 rw [e, erM_get]
 cases m.fs[i.f.toNat]? <;> rfl
theorem instrF_er (m : Mo) (g : Fn) (i : Ins) : instrF (erM m) (erF g) (erI i) = instrF m g i := by
 have h1 : callF (erM m) (erF g).vs (erI i) = callF m g.vs i := callF_er m g.vs i
 have h2 : (erF g).c.ins.length = g.c.ins.length := List.length_map _
 have h3 : plainF (erM m) (erF g).vs (erI i) = plainF m g.vs i := rfl
 have h4 : readsOf (erI i) = readsOf i := rfl
 unfold instrF
 rw [h1, h2, h3, h4]
 rfl
theorem codeF_er (m : Mo) (g : Fn) : codeF (erM m) (erF g) = codeF m g := by
 have h1 : firstF (instrF (erM m) (erF g)) (erF g).c.ins = firstF (instrF m g) g.c.ins := by
  show firstF (instrF (erM m) (erF g)) (g.c.ins.map erI) = _
  rw [firstF_map]
  congr 1
  exact funext fun i => instrF_er m g i
 have h2 : (erF g).c.ins.length = g.c.ins.length := List.length_map _
 have h3 : (erF g).c.ins.getLast? = (g.c.ins.getLast?).map erI := List.getLast?_map
 unfold codeF
 rw [h1, h2, h3]
 cases g.c.ins.getLast? <;> rfl
theorem ixOf_map {α β : Type} (p : β → Bool) (e : α → β) (l : List α) : ixOf p (l.map e) = ixOf (fun x => p (e x)) l := by
 unfold ixOf
 rw [List.length_map, List.findIdx_map]
 rfl
theorem rightF_er (m : Mo) : rightF (erM m) = rightF m := by
 have h1 : twiceF (erM m) = twiceF m := by
  unfold twiceF
  show ((m.ss.any _) || _ || decide (¬ ((m.fs.map erF).map fun f => f.c.nm).Nodup)) = _
  rw [List.map_map]
  rfl
 have h2 : typesF (erM m) = typesF m := by
  unfold typesF
  show _ ++ ((m.fs.map erF).flatMap fun f => f.ret :: f.vs.map Vr.ty) = _
  rw [List.flatMap_map]
  rfl
 have h3 : (erM m).known = m.known := rfl
 have h4 : firstF (codeF (erM m)) (erM m).fs = firstF (codeF m) m.fs := by
  show firstF (codeF (erM m)) (m.fs.map erF) = _
  rw [firstF_map]
  congr 1
  exact funext fun g => codeF_er m g
 have h5 : (erM m).fnIx mainB = m.fnIx mainB := ixOf_map _ _ _
 have h6 : (erM m).fs.length = m.fs.length := List.length_map _
 have h7 : (erM m).ss = m.ss := rfl
 unfold rightF
 rw [h1, h2, h3, h4, h5, h6, h7, erM_get]
 cases m.fs[(m.fnIx mainB).toNat]? <;> rfl
theorem nv_er (m : Mo) : (erM m).nv = m.nv := by
 funext f
 unfold Mo.nv
 rw [erM_get]
 cases m.fs[f]? <;> rfl
theorem np_er (m : Mo) (f : Nat) : (erM m).np f = m.np f := by
 unfold Mo.np
 rw [erM_get]
 cases m.fs[f]? <;> rfl
theorem initR_er (m : Mo) : initR (erM m) = initR m := by
 funext f u n
 unfold initR
 rw [erM_get]
 cases m.fs[f]? <;> rfl
theorem callR_er (ml : Nat → Nat) (f : Nat) (g : Fn) (d : Int) (h : Nat) : ∀ (l : List Int) (n : Nat) (s : RS), callR ml f (erF g) d h n l s = callR ml f g d h n l s
 | [], _, _ => rfl
 | a :: r, n, s => by
  show callR ml f (erF g) d h (n + 1) r _ = callR ml f g d h (n + 1) r _
  rw [callR_er ml f g d h r (n + 1)]
  rfl
theorem insR_er (ml : Nat → Nat) (f : Nat) (g : Fn) (i : Ins) (s : RS) : insR ml f (erF g) (erI i) s = insR ml f g i s := by
 have h : callR ml f (erF g) (erI i).d (erI i).f.toNat 0 (erI i).args s = callR ml f g i.d i.f.toNat 0 i.args s := callR_er _ _ _ _ _ _ _ _
 unfold insR
 rw [h]
 rfl
theorem codeR_er (ml : Nat → Nat) (f : Nat) (g : Fn) : ∀ (l : List Ins) (s : RS), codeR ml f (erF g) (l.map erI) s = codeR ml f g l s
 | [], _ => rfl
 | i :: r, s => by
  show codeR ml f (erF g) (r.map erI) (insR ml f (erF g) (erI i) s) = codeR ml f g r (insR ml f g i s)
  rw [insR_er, codeR_er ml f g r]
theorem funcsR_er (ml : Nat → Nat) : ∀ (l : List Fn) (f : Nat) (s : RS), funcsR ml f (l.map erF) s = funcsR ml f l s
 | [], _, _ => rfl
 | g :: r, f, s => by
  show funcsR ml (f + 1) (r.map erF) (codeR ml f (erF g) (g.c.ins.map erI) s) = funcsR ml (f + 1) r (codeR ml f g g.c.ins s)
  rw [codeR_er, funcsR_er ml r]
theorem passR_er (m : Mo) (x : Nat → Nat → Nat → Bool) : passR (erM m) x = passR m x := by
 unfold passR
 rw [nv_er]
 exact funcsR_er _ _ _ _
theorem roundsR_er (m : Mo) : ∀ k, roundsR (erM m) k = roundsR m k
 | 0 => initR_er m
 | k + 1 => by show (passR (erM m) (roundsR (erM m) k)).x = _; rw [roundsR_er m k, passR_er]; rfl
theorem fromL_er (m : Mo) (x : Nat → Nat → Nat → Bool) (f : Int) : fromL (erM m) x f = fromL m x f := by
 unfold fromL
 rw [np_er, nv_er, show (erM m).fs.length = m.fs.length from List.length_map _]
theorem roundsIs_one {m : Mo} {k j : Nat} (h1 : RoundsIs m k) (h2 : RoundsIs m j) : k = j := by
 rcases Nat.lt_trichotomy k j with h | h | h
 ·have := h2.2 k h; rw [h1.1] at this; cases this
 ·exact h
 ·have := h1.2 j h; rw [h2.1] at this; cases this
theorem eqBy_self {α : Type} {p : α → α → Bool} (h : ∀ x, p x x = true) (xs : List α) : eqBy p xs xs = true :=
 eqBy_iff.2 ⟨rfl, fun k x y h1 h2 => by rw [h1] at h2; cases h2; exact h x⟩
theorem vrSame_self (x : Vr) : Vr.same x x = true := by simp [Vr.same]
theorem stSame_self (x : St) : sameS x x = true := by
 unfold sameS
 rw [eqBy_self (fun y => by simp [Fd.same])]
 simp
theorem eqI_self (l : List Int) : eqI l l = true := eqBy_self (fun x => by simp) l
theorem fromL_len (m : Mo) (x : Nat → Nat → Nat → Bool) (f : Int) : (fromL m x f).length ≤ m.np f.toNat := by
 unfold fromL
 split
 ·exact Nat.le_trans (List.length_filter_le _ _) (by rw [List.length_range]; exact Nat.le_refl _)
 ·exact Nat.zero_le _
end Go.Proofs.Ytlggjbopfnndbaa
