/-
  DERIVED. GIVEN WITH THE SEED: THE CARDS: each row of YtpbkkajgcdahcaaDoorRows.lean that lists a variable, with what it lists TIED to the program's text (the seventh form; the later family's looks); each row that meets fmt, with fmt's text TOLD by the authors' own Lean function (tested against real Go, not proved from fmt's source: count such statements apart). THE CARD IS WHAT COUNTS. Prove the row's statement (the work); the ties are given (YtpbkkajgcdahcaaDoorTie.lean); close each card by the builder's one call (the guide's Derived/Test/ToyasCard.lean, 'card_holds'). Laid BY PROGRAM, IN A SANDBOX (cutbox-door.mjs). By AI agents, Wed Nov 11 2026. No macro, syntax, notation, axiom, sorry.
-/
import Derived.Test.YtpbkkajgcdahcaaDoorRows
import GoSem.ClaimSeven
namespace Go.Proofs.YtpbkkajgcdahcaaDoor
namespace Rows

/-- THE TIED CARD OF 'usufructlaw10.LiveLists'. -/
def liveListsCard : Claim7 := { stood := { row := liveListsRow, standIns := [], harness := (true, "007c870b1d77f7e9ae1651c44a7b6780cbf7e6d6c459770510df820bbeed5fcb"), looks := false }, kinds := [], alts := [], laidByText := true, laidKinds := [.data], laidTests := true, laidLooks := .later }
def LiveListsCardSaid : Prop := Claim7.holds Tryd.pinned (.plain (OpenSpec.ofChange liveListsSpec)) liveListsCard

/-- THE TIED CARD OF 'usufructlaw10.LiveNils'. -/
def liveNilsCard : Claim7 := { stood := { row := liveNilsRow, standIns := [], harness := (true, "007c870b1d77f7e9ae1651c44a7b6780cbf7e6d6c459770510df820bbeed5fcb"), looks := false }, kinds := [], alts := [], laidByText := true, laidKinds := [.data], laidTests := true, laidLooks := .later }
def LiveNilsCardSaid : Prop := Claim7.holds Tryd.pinned (.plain (OpenSpec.ofChange liveNilsSpec)) liveNilsCard

/-- THE SECOND FORM's CARD OF 'usufructlaw10.LiveLists'. -/
def liveListsUptoCard : Claim7 := { stood := { row := liveListsUptoRow, standIns := [], harness := (true, "007c870b1d77f7e9ae1651c44a7b6780cbf7e6d6c459770510df820bbeed5fcb"), looks := false }, kinds := [], alts := [], laidByText := true, laidKinds := [.data], laidTests := true, laidLooks := .later }
def LiveListsUptoCardSaid : Prop := Claim7.holds Tryd.pinned (.plain (OpenSpec.upto liveListsSpec)) liveListsUptoCard

/-- THE SECOND FORM's CARD OF 'usufructlaw10.LiveNils'. -/
def liveNilsUptoCard : Claim7 := { stood := { row := liveNilsUptoRow, standIns := [], harness := (true, "007c870b1d77f7e9ae1651c44a7b6780cbf7e6d6c459770510df820bbeed5fcb"), looks := false }, kinds := [], alts := [], laidByText := true, laidKinds := [.data], laidTests := true, laidLooks := .later }
def LiveNilsUptoCardSaid : Prop := Claim7.holds Tryd.pinned (.plain (OpenSpec.upto liveNilsSpec)) liveNilsUptoCard
end Rows
end Go.Proofs.YtpbkkajgcdahcaaDoor
