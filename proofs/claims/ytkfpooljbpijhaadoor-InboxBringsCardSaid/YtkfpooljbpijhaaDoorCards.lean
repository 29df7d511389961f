/-
  DERIVED. GIVEN WITH THE SEED: THE CARDS: each row of YtkfpooljbpijhaaDoorRows.lean that lists a variable, with what it lists TIED to the program's text (the seventh form; the later family's looks); each row that meets fmt, with fmt's text TOLD by the authors' own Lean function (tested against real Go, not proved from fmt's source: count such statements apart). THE CARD IS WHAT COUNTS. Prove the row's statement (the work); the ties are given (YtkfpooljbpijhaaDoorTie.lean); close each card by the builder's one call (the guide's Derived/Test/ToyasCard.lean, 'card_holds'). Laid BY PROGRAM, IN A SANDBOX (cutbox-door.mjs). By AI agents, Wed Nov 11 2026. No macro, syntax, notation, axiom, sorry.
-/
import Derived.Test.YtkfpooljbpijhaaDoorRows
import GoSem.ClaimSeven
namespace Go.Proofs.YtkfpooljbpijhaaDoor
namespace Rows

/-- THE TIED CARD OF 'staithlaw21.InboxBrings'. -/
def inboxBringsCard : Claim7 := { stood := { row := inboxBringsRow, standIns := [], harness := (true, "fe20d23e11b77423c0b9caf3dcf5f81f67f9a721c53c6c508bdf642cea268041"), looks := false }, kinds := [], alts := [], laidByText := true, laidKinds := [.data], laidTests := true, laidLooks := .later }
def InboxBringsCardSaid : Prop := Claim7.holds Tryd.pinned (.plain (OpenSpec.ofChange inboxBringsSpec)) inboxBringsCard

/-- THE SECOND FORM's CARD OF 'staithlaw21.InboxBrings'. -/
def inboxBringsUptoCard : Claim7 := { stood := { row := inboxBringsUptoRow, standIns := [], harness := (true, "fe20d23e11b77423c0b9caf3dcf5f81f67f9a721c53c6c508bdf642cea268041"), looks := false }, kinds := [], alts := [], laidByText := true, laidKinds := [.data], laidTests := true, laidLooks := .later }
def InboxBringsUptoCardSaid : Prop := Claim7.holds Tryd.pinned (.plain (OpenSpec.upto inboxBringsSpec)) inboxBringsUptoCard
end Rows
end Go.Proofs.YtkfpooljbpijhaaDoor
