/-
  DERIVED. GIVEN WITH THE SEED: THE CARDS: each row of YtjpaaadcnlfjhaaDoorRows.lean that lists a variable, with what it lists TIED to the program's text (the seventh form; the later family's looks); each row that meets fmt, with fmt's text TOLD by the authors' own Lean function (tested against real Go, not proved from fmt's source: count such statements apart). THE CARD IS WHAT COUNTS. Prove the row's statement (the work); the ties are given (YtjpaaadcnlfjhaaDoorTie.lean); close each card by the builder's one call (the guide's Derived/Test/ToyasCard.lean, 'card_holds'). Laid BY PROGRAM, IN A SANDBOX (cutbox-door.mjs). By AI agents, Wed Nov 11 2026. No macro, syntax, notation, axiom, sorry.
-/
import Derived.Test.YtjpaaadcnlfjhaaDoorRows
import GoSem.ClaimSeven
namespace Go.Proofs.YtjpaaadcnlfjhaaDoor
namespace Rows

/-- THE TIED CARD OF 'staithlaw05.TopicNames'. -/
def topicNamesCard : Claim7 := { stood := { row := topicNamesRow, standIns := [], harness := (true, "9ba5d3e330d32bba1defc277f963ff7f77a3d9a56de64ef1b102f587d5637e1f"), looks := false }, kinds := [], alts := [], laidByText := true, laidKinds := [.data, .pinned], laidTests := true, laidLooks := .later }
def TopicNamesCardSaid : Prop := Claim7.holds Tryd.pinned (.plain (OpenSpec.ofChange topicNamesSpec)) topicNamesCard

/-- THE TIED CARD OF 'staithlaw05.TopicMatches'. -/
def topicMatchesCard : Claim7 := { stood := { row := topicMatchesRow, standIns := [], harness := (true, "9ba5d3e330d32bba1defc277f963ff7f77a3d9a56de64ef1b102f587d5637e1f"), looks := false }, kinds := [], alts := [], laidByText := true, laidKinds := [.data, .pinned], laidTests := true, laidLooks := .later }
def TopicMatchesCardSaid : Prop := Claim7.holds Tryd.pinned (.plain (OpenSpec.ofChange topicMatchesSpec)) topicMatchesCard

/-- THE TIED CARD OF 'staithlaw05.TopicSelf'. -/
def topicSelfCard : Claim7 := { stood := { row := topicSelfRow, standIns := [], harness := (true, "9ba5d3e330d32bba1defc277f963ff7f77a3d9a56de64ef1b102f587d5637e1f"), looks := false }, kinds := [], alts := [], laidByText := true, laidKinds := [.data, .pinned], laidTests := true, laidLooks := .later }
def TopicSelfCardSaid : Prop := Claim7.holds Tryd.pinned (.plain (OpenSpec.ofChange topicSelfSpec)) topicSelfCard

/-- THE TIED CARD OF 'staithlaw05.TopicOver'. -/
def topicOverCard : Claim7 := { stood := { row := topicOverRow, standIns := [], harness := (true, "9ba5d3e330d32bba1defc277f963ff7f77a3d9a56de64ef1b102f587d5637e1f"), looks := false }, kinds := [], alts := [], laidByText := true, laidKinds := [.data, .pinned], laidTests := true, laidLooks := .later }
def TopicOverCardSaid : Prop := Claim7.holds Tryd.pinned (.plain (OpenSpec.ofChange topicOverSpec)) topicOverCard

/-- THE TIED CARD OF 'staithlaw05.TopicJoins'. -/
def topicJoinsCard : Claim7 := { stood := { row := topicJoinsRow, standIns := [], harness := (true, "9ba5d3e330d32bba1defc277f963ff7f77a3d9a56de64ef1b102f587d5637e1f"), looks := false }, kinds := [], alts := [], laidByText := true, laidKinds := [.data, .pinned], laidTests := true, laidLooks := .later }
def TopicJoinsCardSaid : Prop := Claim7.holds Tryd.pinned (.plain (OpenSpec.ofChange topicJoinsSpec)) topicJoinsCard

/-- THE TIED CARD OF 'staithlaw05.TopicStars'. -/
def topicStarsCard : Claim7 := { stood := { row := topicStarsRow, standIns := [], harness := (true, "9ba5d3e330d32bba1defc277f963ff7f77a3d9a56de64ef1b102f587d5637e1f"), looks := false }, kinds := [], alts := [], laidByText := true, laidKinds := [.data, .pinned], laidTests := true, laidLooks := .later }
def TopicStarsCardSaid : Prop := Claim7.holds Tryd.pinned (.plain (OpenSpec.ofChange topicStarsSpec)) topicStarsCard

/-- THE SECOND FORM's CARD OF 'staithlaw05.TopicNames'. -/
def topicNamesUptoCard : Claim7 := { stood := { row := topicNamesUptoRow, standIns := [], harness := (true, "9ba5d3e330d32bba1defc277f963ff7f77a3d9a56de64ef1b102f587d5637e1f"), looks := false }, kinds := [], alts := [], laidByText := true, laidKinds := [.data, .pinned], laidTests := true, laidLooks := .later }
def TopicNamesUptoCardSaid : Prop := Claim7.holds Tryd.pinned (.plain (OpenSpec.upto topicNamesSpec)) topicNamesUptoCard

/-- THE SECOND FORM's CARD OF 'staithlaw05.TopicMatches'. -/
def topicMatchesUptoCard : Claim7 := { stood := { row := topicMatchesUptoRow, standIns := [], harness := (true, "9ba5d3e330d32bba1defc277f963ff7f77a3d9a56de64ef1b102f587d5637e1f"), looks := false }, kinds := [], alts := [], laidByText := true, laidKinds := [.data, .pinned], laidTests := true, laidLooks := .later }
def TopicMatchesUptoCardSaid : Prop := Claim7.holds Tryd.pinned (.plain (OpenSpec.upto topicMatchesSpec)) topicMatchesUptoCard

/-- THE SECOND FORM's CARD OF 'staithlaw05.TopicSelf'. -/
def topicSelfUptoCard : Claim7 := { stood := { row := topicSelfUptoRow, standIns := [], harness := (true, "9ba5d3e330d32bba1defc277f963ff7f77a3d9a56de64ef1b102f587d5637e1f"), looks := false }, kinds := [], alts := [], laidByText := true, laidKinds := [.data, .pinned], laidTests := true, laidLooks := .later }
def TopicSelfUptoCardSaid : Prop := Claim7.holds Tryd.pinned (.plain (OpenSpec.upto topicSelfSpec)) topicSelfUptoCard

/-- THE SECOND FORM's CARD OF 'staithlaw05.TopicOver'. -/
def topicOverUptoCard : Claim7 := { stood := { row := topicOverUptoRow, standIns := [], harness := (true, "9ba5d3e330d32bba1defc277f963ff7f77a3d9a56de64ef1b102f587d5637e1f"), looks := false }, kinds := [], alts := [], laidByText := true, laidKinds := [.data, .pinned], laidTests := true, laidLooks := .later }
def TopicOverUptoCardSaid : Prop := Claim7.holds Tryd.pinned (.plain (OpenSpec.upto topicOverSpec)) topicOverUptoCard

/-- THE SECOND FORM's CARD OF 'staithlaw05.TopicJoins'. -/
def topicJoinsUptoCard : Claim7 := { stood := { row := topicJoinsUptoRow, standIns := [], harness := (true, "9ba5d3e330d32bba1defc277f963ff7f77a3d9a56de64ef1b102f587d5637e1f"), looks := false }, kinds := [], alts := [], laidByText := true, laidKinds := [.data, .pinned], laidTests := true, laidLooks := .later }
def TopicJoinsUptoCardSaid : Prop := Claim7.holds Tryd.pinned (.plain (OpenSpec.upto topicJoinsSpec)) topicJoinsUptoCard

/-- THE SECOND FORM's CARD OF 'staithlaw05.TopicStars'. -/
def topicStarsUptoCard : Claim7 := { stood := { row := topicStarsUptoRow, standIns := [], harness := (true, "9ba5d3e330d32bba1defc277f963ff7f77a3d9a56de64ef1b102f587d5637e1f"), looks := false }, kinds := [], alts := [], laidByText := true, laidKinds := [.data, .pinned], laidTests := true, laidLooks := .later }
def TopicStarsUptoCardSaid : Prop := Claim7.holds Tryd.pinned (.plain (OpenSpec.upto topicStarsSpec)) topicStarsUptoCard
end Rows
end Go.Proofs.YtjpaaadcnlfjhaaDoor
