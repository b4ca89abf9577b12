/- Equality of strings. -/
import Derived.Test.YtbbogkcfngpbbaaSep
namespace Go.Proofs.Ytbbogkcfngpbbaa

theorem bytes_inj {x y : ByteArray} (h : x.data.toList = y.data.toList) : x = y := by
  obtain ⟨a⟩ := x
  obtain ⟨b⟩ := y
  have : a = b := Array.ext' h
  rw [this]

instance lawfulBytes : LawfulBEq ByteArray where
  eq_of_beq {a b} h := bytes_inj (by have : a.data = b.data := eq_of_beq (show (a.data == b.data) = true from h); rw [this])
  rfl {a} := show (a.data == a.data) = true from BEq.rfl

theorem lit_ne {x y : ByteArray} (h : x ≠ y) : Lit.string x.data.toList ≠ Lit.string y.data.toList := fun e => h (bytes_inj (by simpa using e))
end Go.Proofs.Ytbbogkcfngpbbaa
