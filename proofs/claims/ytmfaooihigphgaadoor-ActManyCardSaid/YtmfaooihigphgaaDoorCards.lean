/-
  DERIVED. GIVEN WITH THE SEED: THE CARDS: each row of YtmfaooihigphgaaDoorRows.lean that lists a variable, with what it lists TIED to the program's text (the seventh form; the later family's looks); each row that meets fmt, with fmt's text TOLD by the authors' own Lean function (tested against real Go, not proved from fmt's source: count such statements apart). THE CARD IS WHAT COUNTS. Prove the row's statement (the work); the ties are given (YtmfaooihigphgaaDoorTie.lean); close each card by the builder's one call (the guide's Derived/Test/ToyasCard.lean, 'card_holds'). Laid BY PROGRAM, IN A SANDBOX (cutbox-door.mjs). By AI agents, Wed Nov 11 2026. No macro, syntax, notation, axiom, sorry.
-/
import Derived.Test.YtmfaooihigphgaaDoorRows
import GoSem.ClaimSeven
namespace Go.Proofs.YtmfaooihigphgaaDoor
namespace Rows

/-- THE TIED CARD OF 'staithlaw13.ActTells'. -/
def actTellsCard : Claim7 := { stood := { row := actTellsRow, standIns := [], harness := (true, "4cf7842e0f41a69c2258e18f43cdfc3403d1380bc0d090a6da65813b30fc245a"), looks := false }, kinds := [], alts := [], laidByText := true, laidKinds := [.data, .data, .data, .pinned], laidTests := true, laidLooks := .later }
def ActTellsCardSaid : Prop := Claim7.holds Tryd.pinned (.plain (OpenSpec.ofChange actTellsSpec)) actTellsCard

/-- THE TIED CARD OF 'staithlaw13.ActApart'. -/
def actApartCard : Claim7 := { stood := { row := actApartRow, standIns := [], harness := (true, "4cf7842e0f41a69c2258e18f43cdfc3403d1380bc0d090a6da65813b30fc245a"), looks := false }, kinds := [], alts := [], laidByText := true, laidKinds := [.data, .data, .data, .pinned], laidTests := true, laidLooks := .later }
def ActApartCardSaid : Prop := Claim7.holds Tryd.pinned (.plain (OpenSpec.ofChange actApartSpec)) actApartCard

/-- THE TIED CARD OF 'staithlaw13.ActBack'. -/
def actBackCard : Claim7 := { stood := { row := actBackRow, standIns := [], harness := (true, "4cf7842e0f41a69c2258e18f43cdfc3403d1380bc0d090a6da65813b30fc245a"), looks := false }, kinds := [], alts := [], laidByText := true, laidKinds := [.data, .data, .data, .pinned], laidTests := true, laidLooks := .later }
def ActBackCardSaid : Prop := Claim7.holds Tryd.pinned (.plain (OpenSpec.ofChange actBackSpec)) actBackCard

/-- THE TIED CARD OF 'staithlaw13.ActReads'. -/
def actReadsCard : Claim7 := { stood := { row := actReadsRow, standIns := [], harness := (true, "4cf7842e0f41a69c2258e18f43cdfc3403d1380bc0d090a6da65813b30fc245a"), looks := false }, kinds := [], alts := [], laidByText := true, laidKinds := [.data, .data, .data, .pinned], laidTests := true, laidLooks := .later }
def ActReadsCardSaid : Prop := Claim7.holds Tryd.pinned (.plain (OpenSpec.ofChange actReadsSpec)) actReadsCard

/-- THE TIED CARD OF 'staithlaw13.ActMany'. -/
def actManyCard : Claim7 := { stood := { row := actManyRow, standIns := [], harness := (true, "4cf7842e0f41a69c2258e18f43cdfc3403d1380bc0d090a6da65813b30fc245a"), looks := false }, kinds := [], alts := [], laidByText := true, laidKinds := [.data, .data, .data, .pinned], laidTests := true, laidLooks := .later }
def ActManyCardSaid : Prop := Claim7.holds Tryd.pinned (.plain (OpenSpec.ofChange actManySpec)) actManyCard

/-- THE SECOND FORM's CARD OF 'staithlaw13.ActTells'. -/
def actTellsUptoCard : Claim7 := { stood := { row := actTellsUptoRow, standIns := [], harness := (true, "4cf7842e0f41a69c2258e18f43cdfc3403d1380bc0d090a6da65813b30fc245a"), looks := false }, kinds := [], alts := [], laidByText := true, laidKinds := [.data, .data, .data, .pinned], laidTests := true, laidLooks := .later }
def ActTellsUptoCardSaid : Prop := Claim7.holds Tryd.pinned (.plain (OpenSpec.upto actTellsSpec)) actTellsUptoCard

/-- THE SECOND FORM's CARD OF 'staithlaw13.ActApart'. -/
def actApartUptoCard : Claim7 := { stood := { row := actApartUptoRow, standIns := [], harness := (true, "4cf7842e0f41a69c2258e18f43cdfc3403d1380bc0d090a6da65813b30fc245a"), looks := false }, kinds := [], alts := [], laidByText := true, laidKinds := [.data, .data, .data, .pinned], laidTests := true, laidLooks := .later }
def ActApartUptoCardSaid : Prop := Claim7.holds Tryd.pinned (.plain (OpenSpec.upto actApartSpec)) actApartUptoCard

/-- THE SECOND FORM's CARD OF 'staithlaw13.ActBack'. -/
def actBackUptoCard : Claim7 := { stood := { row := actBackUptoRow, standIns := [], harness := (true, "4cf7842e0f41a69c2258e18f43cdfc3403d1380bc0d090a6da65813b30fc245a"), looks := false }, kinds := [], alts := [], laidByText := true, laidKinds := [.data, .data, .data, .pinned], laidTests := true, laidLooks := .later }
def ActBackUptoCardSaid : Prop := Claim7.holds Tryd.pinned (.plain (OpenSpec.upto actBackSpec)) actBackUptoCard

/-- THE SECOND FORM's CARD OF 'staithlaw13.ActReads'. -/
def actReadsUptoCard : Claim7 := { stood := { row := actReadsUptoRow, standIns := [], harness := (true, "4cf7842e0f41a69c2258e18f43cdfc3403d1380bc0d090a6da65813b30fc245a"), looks := false }, kinds := [], alts := [], laidByText := true, laidKinds := [.data, .data, .data, .pinned], laidTests := true, laidLooks := .later }
def ActReadsUptoCardSaid : Prop := Claim7.holds Tryd.pinned (.plain (OpenSpec.upto actReadsSpec)) actReadsUptoCard

/-- THE SECOND FORM's CARD OF 'staithlaw13.ActMany'. -/
def actManyUptoCard : Claim7 := { stood := { row := actManyUptoRow, standIns := [], harness := (true, "4cf7842e0f41a69c2258e18f43cdfc3403d1380bc0d090a6da65813b30fc245a"), looks := false }, kinds := [], alts := [], laidByText := true, laidKinds := [.data, .data, .data, .pinned], laidTests := true, laidLooks := .later }
def ActManyUptoCardSaid : Prop := Claim7.holds Tryd.pinned (.plain (OpenSpec.upto actManySpec)) actManyUptoCard
end Rows
end Go.Proofs.YtmfaooihigphgaaDoor
