import Derived.Test.YtlggjbopfnndbaaG19
import Derived.Test.YtlggjbopfnndbaaG22
import Derived.Test.YtlggjbopfnndbaaG33
import Derived.Test.YtlggjbopfnndbaaG30
namespace Go.Proofs.Ytlggjbopfnndbaa
open Go.RowKit
def alI (op d a : Int) : Ins := ⟨op,d,a,0,0,0,⟨#[]⟩,.slice none 0 0,.slice none 0 0,0,0,0,0,[]⟩
def alV (p : Bool) (t : ByteArray) (c : Int) : Vr := ⟨p,t,c⟩
theorem rowOf_heap {α : Type} {cells : α → Array Value} {k b : Nat} {t : TypeId} (hc : ∀ a,(cells a).toList.length = k) {w : World} {xs : List α} {cs : Array Value} (h : w.heap[b]? = some (.cells cs t (0,0))) (e : (xs.flatMap fun a => (cells a).toList) = cs.toList) : RowOf cells k w w.heap.size (some ⟨b,0,none⟩) xs := by
 intro _
 refine ⟨b,0,rfl,(Array.getElem?_eq_some_iff.1 h).1,fun i x hx q u hu => ?_⟩
 rw [cell_of_row _ _ _ _ _ _ h,Nat.zero_add,← Array.getElem?_toList,← e,flat_get hc hx q (by rw [← hc x]; exact (List.getElem?_eq_some_iff.1 hu).1)]
 exact hu
theorem rowOf_nil {α : Type} (cells : α → Array Value) (k : Nat) (w : World) (B : Nat) (ao : Option Addr) : RowOf cells k w B ao [] := fun h => (h rfl).elim
end Go.Proofs.Ytlggjbopfnndbaa
namespace Go.Proofs.Ytlggjbopfnndbaa
open Go.RowKit
theorem roundsIs_one {m : Mo} {k j : Nat} (h1 : RoundsIs m k) (h2 : RoundsIs m j) : k = j := by
 rcases Nat.lt_trichotomy k j with h | h | h
 ·have := h2.2 k h; rw [h1.1] at this; cases this
 ·exact h
 ·have := h1.2 j h; rw [h2.1] at this; cases this
theorem eqBy_self {α : Type} {p : α → α → Bool} (h : ∀ x,p x x = true) (xs : List α) : eqBy p xs xs = true :=
 eqBy_iff.2 ⟨rfl,fun k x y h1 h2 => by rw [h1] at h2; cases h2; exact h x⟩
theorem vrSame_self (x : Vr) : Vr.same x x = true := by simp [Vr.same]
theorem stSame_self (x : St) : sameS x x = true := by
 unfold sameS
 rw [eqBy_self (fun y => by simp [Fd.same])]
 simp
theorem eqI_self (l : List Int) : eqI l l = true := eqBy_self (fun x => by simp) l
theorem fromL_len (m : Mo) (x : Nat → Nat → Nat → Bool) (f : Int) : (fromL m x f).length ≤ m.np f.toNat := by
 unfold fromL
 split
 ·exact Nat.le_trans (List.length_filter_le _ _) (by rw [List.length_range]; exact Nat.le_refl _)
 ·exact Nat.zero_le _
end Go.Proofs.Ytlggjbopfnndbaa
