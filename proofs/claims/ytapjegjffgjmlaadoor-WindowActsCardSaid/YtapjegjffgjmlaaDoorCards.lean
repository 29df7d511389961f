/-
  DERIVED. GIVEN WITH THE SEED: THE CARDS: each row of YtapjegjffgjmlaaDoorRows.lean that lists a variable, with what it lists TIED to the program's text (the seventh form; the later family's looks); each row that meets fmt, with fmt's text TOLD by the authors' own Lean function (tested against real Go, not proved from fmt's source: count such statements apart). THE CARD IS WHAT COUNTS. Prove the row's statement (the work); the ties are given (YtapjegjffgjmlaaDoorTie.lean); close each card by the builder's one call (the guide's Derived/Test/ToyasCard.lean, 'card_holds'). Laid BY PROGRAM, IN A SANDBOX (cutbox-door.mjs). By AI agents, Wed Nov 11 2026. No macro, syntax, notation, axiom, sorry.
-/
import Derived.Test.YtapjegjffgjmlaaDoorRows
import GoSem.ClaimSeven
namespace Go.Proofs.YtapjegjffgjmlaaDoor
namespace Rows

/-- THE TIED CARD OF 'staithlaw20.WindowAgain'. -/
def windowAgainCard : Claim7 := { stood := { row := windowAgainRow, standIns := [], harness := (true, "e95f307fb16a704593eafb3155812cd20a0675f61edd4bd4e37d43ced4b381ce"), looks := false }, kinds := [], alts := [], laidByText := true, laidKinds := [.data], laidTests := true, laidLooks := .later }
def WindowAgainCardSaid : Prop := Claim7.holds Tryd.pinned (.plain (OpenSpec.ofChange windowAgainSpec)) windowAgainCard

/-- THE TIED CARD OF 'staithlaw20.WindowActs'. -/
def windowActsCard : Claim7 := { stood := { row := windowActsRow, standIns := [], harness := (true, "e95f307fb16a704593eafb3155812cd20a0675f61edd4bd4e37d43ced4b381ce"), looks := false }, kinds := [], alts := [], laidByText := true, laidKinds := [.data], laidTests := true, laidLooks := .later }
def WindowActsCardSaid : Prop := Claim7.holds Tryd.pinned (.plain (OpenSpec.ofChange windowActsSpec)) windowActsCard

/-- THE TIED CARD OF 'staithlaw20.WindowBounds'. -/
def windowBoundsCard : Claim7 := { stood := { row := windowBoundsRow, standIns := [], harness := (true, "e95f307fb16a704593eafb3155812cd20a0675f61edd4bd4e37d43ced4b381ce"), looks := false }, kinds := [], alts := [], laidByText := true, laidKinds := [.data], laidTests := true, laidLooks := .later }
def WindowBoundsCardSaid : Prop := Claim7.holds Tryd.pinned (.plain (OpenSpec.ofChange windowBoundsSpec)) windowBoundsCard

/-- THE TIED CARD OF 'staithlaw20.WindowNone'. -/
def windowNoneCard : Claim7 := { stood := { row := windowNoneRow, standIns := [], harness := (true, "e95f307fb16a704593eafb3155812cd20a0675f61edd4bd4e37d43ced4b381ce"), looks := false }, kinds := [], alts := [], laidByText := true, laidKinds := [.data], laidTests := true, laidLooks := .later }
def WindowNoneCardSaid : Prop := Claim7.holds Tryd.pinned (.plain (OpenSpec.ofChange windowNoneSpec)) windowNoneCard

/-- THE TIED CARD OF 'staithlaw20.WindowStays'. -/
def windowStaysCard : Claim7 := { stood := { row := windowStaysRow, standIns := [], harness := (true, "e95f307fb16a704593eafb3155812cd20a0675f61edd4bd4e37d43ced4b381ce"), looks := false }, kinds := [], alts := [], laidByText := true, laidKinds := [.data], laidTests := true, laidLooks := .later }
def WindowStaysCardSaid : Prop := Claim7.holds Tryd.pinned (.plain (OpenSpec.ofChange windowStaysSpec)) windowStaysCard

/-- THE SECOND FORM's CARD OF 'staithlaw20.WindowAgain'. -/
def windowAgainUptoCard : Claim7 := { stood := { row := windowAgainUptoRow, standIns := [], harness := (true, "e95f307fb16a704593eafb3155812cd20a0675f61edd4bd4e37d43ced4b381ce"), looks := false }, kinds := [], alts := [], laidByText := true, laidKinds := [.data], laidTests := true, laidLooks := .later }
def WindowAgainUptoCardSaid : Prop := Claim7.holds Tryd.pinned (.plain (OpenSpec.upto windowAgainSpec)) windowAgainUptoCard

/-- THE SECOND FORM's CARD OF 'staithlaw20.WindowActs'. -/
def windowActsUptoCard : Claim7 := { stood := { row := windowActsUptoRow, standIns := [], harness := (true, "e95f307fb16a704593eafb3155812cd20a0675f61edd4bd4e37d43ced4b381ce"), looks := false }, kinds := [], alts := [], laidByText := true, laidKinds := [.data], laidTests := true, laidLooks := .later }
def WindowActsUptoCardSaid : Prop := Claim7.holds Tryd.pinned (.plain (OpenSpec.upto windowActsSpec)) windowActsUptoCard

/-- THE SECOND FORM's CARD OF 'staithlaw20.WindowBounds'. -/
def windowBoundsUptoCard : Claim7 := { stood := { row := windowBoundsUptoRow, standIns := [], harness := (true, "e95f307fb16a704593eafb3155812cd20a0675f61edd4bd4e37d43ced4b381ce"), looks := false }, kinds := [], alts := [], laidByText := true, laidKinds := [.data], laidTests := true, laidLooks := .later }
def WindowBoundsUptoCardSaid : Prop := Claim7.holds Tryd.pinned (.plain (OpenSpec.upto windowBoundsSpec)) windowBoundsUptoCard

/-- THE SECOND FORM's CARD OF 'staithlaw20.WindowNone'. -/
def windowNoneUptoCard : Claim7 := { stood := { row := windowNoneUptoRow, standIns := [], harness := (true, "e95f307fb16a704593eafb3155812cd20a0675f61edd4bd4e37d43ced4b381ce"), looks := false }, kinds := [], alts := [], laidByText := true, laidKinds := [.data], laidTests := true, laidLooks := .later }
def WindowNoneUptoCardSaid : Prop := Claim7.holds Tryd.pinned (.plain (OpenSpec.upto windowNoneSpec)) windowNoneUptoCard

/-- THE SECOND FORM's CARD OF 'staithlaw20.WindowStays'. -/
def windowStaysUptoCard : Claim7 := { stood := { row := windowStaysUptoRow, standIns := [], harness := (true, "e95f307fb16a704593eafb3155812cd20a0675f61edd4bd4e37d43ced4b381ce"), looks := false }, kinds := [], alts := [], laidByText := true, laidKinds := [.data], laidTests := true, laidLooks := .later }
def WindowStaysUptoCardSaid : Prop := Claim7.holds Tryd.pinned (.plain (OpenSpec.upto windowStaysSpec)) windowStaysUptoCard
end Rows
end Go.Proofs.YtapjegjffgjmlaaDoor
