/-
  DERIVED. GIVEN WITH THE SEED: THE CARDS: each row of YthcedodfedfkgaaDoorRows.lean that lists a variable, with what it lists TIED to the program's text (the seventh form; the later family's looks); each row that meets fmt, with fmt's text TOLD by the authors' own Lean function (tested against real Go, not proved from fmt's source: count such statements apart). THE CARD IS WHAT COUNTS. Prove the row's statement (the work); the ties are given (YthcedodfedfkgaaDoorTie.lean); close each card by the builder's one call (the guide's Derived/Test/ToyasCard.lean, 'card_holds'). Laid BY PROGRAM, IN A SANDBOX (cutbox-door.mjs). By AI agents, Wed Nov 11 2026. No macro, syntax, notation, axiom, sorry.
-/
import Derived.Test.YthcedodfedfkgaaDoorRows
import GoSem.ClaimSeven
namespace Go.Proofs.YthcedodfedfkgaaDoor
namespace Rows

/-- THE TIED CARD OF 'staithlaw02.MaskSlides'. -/
def maskSlidesCard : Claim7 := { stood := { row := maskSlidesRow, standIns := [], harness := (true, "92981c9754835fbc09b52c14ac2e3b5a7ef31c93b54cd8508194a8781fdca771"), looks := false }, kinds := [], alts := [], laidByText := true, laidKinds := [.data], laidTests := true, laidLooks := .later }
def MaskSlidesCardSaid : Prop := Claim7.holds Tryd.pinned (.plain (OpenSpec.ofChange maskSlidesSpec)) maskSlidesCard

/-- THE TIED CARD OF 'staithlaw02.MaskTwice'. -/
def maskTwiceCard : Claim7 := { stood := { row := maskTwiceRow, standIns := [], harness := (true, "92981c9754835fbc09b52c14ac2e3b5a7ef31c93b54cd8508194a8781fdca771"), looks := false }, kinds := [], alts := [], laidByText := true, laidKinds := [.data], laidTests := true, laidLooks := .later }
def MaskTwiceCardSaid : Prop := Claim7.holds Tryd.pinned (.plain (OpenSpec.ofChange maskTwiceSpec)) maskTwiceCard

/-- THE TIED CARD OF 'staithlaw02.MaskRuns'. -/
def maskRunsCard : Claim7 := { stood := { row := maskRunsRow, standIns := [], harness := (true, "92981c9754835fbc09b52c14ac2e3b5a7ef31c93b54cd8508194a8781fdca771"), looks := false }, kinds := [], alts := [], laidByText := true, laidKinds := [.data], laidTests := true, laidLooks := .later }
def MaskRunsCardSaid : Prop := Claim7.holds Tryd.pinned (.plain (OpenSpec.ofChange maskRunsSpec)) maskRunsCard

/-- THE TIED CARD OF 'staithlaw02.MaskSets'. -/
def maskSetsCard : Claim7 := { stood := { row := maskSetsRow, standIns := [], harness := (true, "92981c9754835fbc09b52c14ac2e3b5a7ef31c93b54cd8508194a8781fdca771"), looks := false }, kinds := [], alts := [], laidByText := true, laidKinds := [.data], laidTests := true, laidLooks := .later }
def MaskSetsCardSaid : Prop := Claim7.holds Tryd.pinned (.plain (OpenSpec.ofChange maskSetsSpec)) maskSetsCard

/-- THE TIED CARD OF 'staithlaw02.MaskLists'. -/
def maskListsCard : Claim7 := { stood := { row := maskListsRow, standIns := [], harness := (true, "92981c9754835fbc09b52c14ac2e3b5a7ef31c93b54cd8508194a8781fdca771"), looks := false }, kinds := [], alts := [], laidByText := true, laidKinds := [.data], laidTests := true, laidLooks := .later }
def MaskListsCardSaid : Prop := Claim7.holds Tryd.pinned (.plain (OpenSpec.ofChange maskListsSpec)) maskListsCard

/-- THE TIED CARD OF 'staithlaw02.MaskBack'. -/
def maskBackCard : Claim7 := { stood := { row := maskBackRow, standIns := [], harness := (true, "92981c9754835fbc09b52c14ac2e3b5a7ef31c93b54cd8508194a8781fdca771"), looks := false }, kinds := [], alts := [], laidByText := true, laidKinds := [.data], laidTests := true, laidLooks := .later }
def MaskBackCardSaid : Prop := Claim7.holds Tryd.pinned (.plain (OpenSpec.ofChange maskBackSpec)) maskBackCard

/-- THE SECOND FORM's CARD OF 'staithlaw02.MaskSlides'. -/
def maskSlidesUptoCard : Claim7 := { stood := { row := maskSlidesUptoRow, standIns := [], harness := (true, "92981c9754835fbc09b52c14ac2e3b5a7ef31c93b54cd8508194a8781fdca771"), looks := false }, kinds := [], alts := [], laidByText := true, laidKinds := [.data], laidTests := true, laidLooks := .later }
def MaskSlidesUptoCardSaid : Prop := Claim7.holds Tryd.pinned (.plain (OpenSpec.upto maskSlidesSpec)) maskSlidesUptoCard

/-- THE SECOND FORM's CARD OF 'staithlaw02.MaskTwice'. -/
def maskTwiceUptoCard : Claim7 := { stood := { row := maskTwiceUptoRow, standIns := [], harness := (true, "92981c9754835fbc09b52c14ac2e3b5a7ef31c93b54cd8508194a8781fdca771"), looks := false }, kinds := [], alts := [], laidByText := true, laidKinds := [.data], laidTests := true, laidLooks := .later }
def MaskTwiceUptoCardSaid : Prop := Claim7.holds Tryd.pinned (.plain (OpenSpec.upto maskTwiceSpec)) maskTwiceUptoCard

/-- THE SECOND FORM's CARD OF 'staithlaw02.MaskRuns'. -/
def maskRunsUptoCard : Claim7 := { stood := { row := maskRunsUptoRow, standIns := [], harness := (true, "92981c9754835fbc09b52c14ac2e3b5a7ef31c93b54cd8508194a8781fdca771"), looks := false }, kinds := [], alts := [], laidByText := true, laidKinds := [.data], laidTests := true, laidLooks := .later }
def MaskRunsUptoCardSaid : Prop := Claim7.holds Tryd.pinned (.plain (OpenSpec.upto maskRunsSpec)) maskRunsUptoCard

/-- THE SECOND FORM's CARD OF 'staithlaw02.MaskSets'. -/
def maskSetsUptoCard : Claim7 := { stood := { row := maskSetsUptoRow, standIns := [], harness := (true, "92981c9754835fbc09b52c14ac2e3b5a7ef31c93b54cd8508194a8781fdca771"), looks := false }, kinds := [], alts := [], laidByText := true, laidKinds := [.data], laidTests := true, laidLooks := .later }
def MaskSetsUptoCardSaid : Prop := Claim7.holds Tryd.pinned (.plain (OpenSpec.upto maskSetsSpec)) maskSetsUptoCard

/-- THE SECOND FORM's CARD OF 'staithlaw02.MaskLists'. -/
def maskListsUptoCard : Claim7 := { stood := { row := maskListsUptoRow, standIns := [], harness := (true, "92981c9754835fbc09b52c14ac2e3b5a7ef31c93b54cd8508194a8781fdca771"), looks := false }, kinds := [], alts := [], laidByText := true, laidKinds := [.data], laidTests := true, laidLooks := .later }
def MaskListsUptoCardSaid : Prop := Claim7.holds Tryd.pinned (.plain (OpenSpec.upto maskListsSpec)) maskListsUptoCard

/-- THE SECOND FORM's CARD OF 'staithlaw02.MaskBack'. -/
def maskBackUptoCard : Claim7 := { stood := { row := maskBackUptoRow, standIns := [], harness := (true, "92981c9754835fbc09b52c14ac2e3b5a7ef31c93b54cd8508194a8781fdca771"), looks := false }, kinds := [], alts := [], laidByText := true, laidKinds := [.data], laidTests := true, laidLooks := .later }
def MaskBackUptoCardSaid : Prop := Claim7.holds Tryd.pinned (.plain (OpenSpec.upto maskBackSpec)) maskBackUptoCard
end Rows
end Go.Proofs.YthcedodfedfkgaaDoor
