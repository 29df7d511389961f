/-
  DERIVED. GIVEN WITH THE SEED: THE CARDS: each row of YtmiijmiikpmcgaaDoorRows.lean that lists a variable, with what it lists TIED to the program's text (the seventh form; the later family's looks); each row that meets fmt, with fmt's text TOLD by the authors' own Lean function (tested against real Go, not proved from fmt's source: count such statements apart). THE CARD IS WHAT COUNTS. Prove the row's statement (the work); the ties are given (YtmiijmiikpmcgaaDoorTie.lean); close each card by the builder's one call (the guide's Derived/Test/ToyasCard.lean, 'card_holds'). Laid BY PROGRAM, IN A SANDBOX (cutbox-door.mjs). By AI agents, Wed Nov 11 2026. No macro, syntax, notation, axiom, sorry.
-/
import Derived.Test.YtmiijmiikpmcgaaDoorRows
import GoSem.ClaimSeven
namespace Go.Proofs.YtmiijmiikpmcgaaDoor
namespace Rows

/-- THE TIED CARD OF 'staithlaw23.LinkNone'. -/
def linkNoneCard : Claim7 := { stood := { row := linkNoneRow, standIns := [], harness := (true, "7d2e004ea593476fe5e85b43cb8529d9b63e02650693f9a8fbec22938309da4b"), looks := false }, kinds := [], alts := [], laidByText := true, laidKinds := [.data, .data, .data, .pinned], laidTests := true, laidLooks := .later }
def LinkNoneCardSaid : Prop := Claim7.holds Tryd.pinned (.plain (OpenSpec.ofChange linkNoneSpec)) linkNoneCard

/-- THE TIED CARD OF 'staithlaw23.LinkEpochs'. -/
def linkEpochsCard : Claim7 := { stood := { row := linkEpochsRow, standIns := [], harness := (true, "7d2e004ea593476fe5e85b43cb8529d9b63e02650693f9a8fbec22938309da4b"), looks := false }, kinds := [], alts := [], laidByText := true, laidKinds := [.data, .data, .data, .pinned], laidTests := true, laidLooks := .later }
def LinkEpochsCardSaid : Prop := Claim7.holds Tryd.pinned (.plain (OpenSpec.ofChange linkEpochsSpec)) linkEpochsCard

/-- THE SECOND FORM's CARD OF 'staithlaw23.LinkNone'. -/
def linkNoneUptoCard : Claim7 := { stood := { row := linkNoneUptoRow, standIns := [], harness := (true, "7d2e004ea593476fe5e85b43cb8529d9b63e02650693f9a8fbec22938309da4b"), looks := false }, kinds := [], alts := [], laidByText := true, laidKinds := [.data, .data, .data, .pinned], laidTests := true, laidLooks := .later }
def LinkNoneUptoCardSaid : Prop := Claim7.holds Tryd.pinned (.plain (OpenSpec.upto linkNoneSpec)) linkNoneUptoCard

/-- THE SECOND FORM's CARD OF 'staithlaw23.LinkEpochs'. -/
def linkEpochsUptoCard : Claim7 := { stood := { row := linkEpochsUptoRow, standIns := [], harness := (true, "7d2e004ea593476fe5e85b43cb8529d9b63e02650693f9a8fbec22938309da4b"), looks := false }, kinds := [], alts := [], laidByText := true, laidKinds := [.data, .data, .data, .pinned], laidTests := true, laidLooks := .later }
def LinkEpochsUptoCardSaid : Prop := Claim7.holds Tryd.pinned (.plain (OpenSpec.upto linkEpochsSpec)) linkEpochsUptoCard
end Rows
end Go.Proofs.YtmiijmiikpmcgaaDoor
