/-
  DERIVED. GIVEN WITH THE SEED: THE CARDS: each row of YtgnhpjakjoaejaaDoorRows.lean that lists a variable, with what it lists TIED to the program's text (the seventh form; the later family's looks); each row that meets fmt, with fmt's text TOLD by the authors' own Lean function (tested against real Go, not proved from fmt's source: count such statements apart). THE CARD IS WHAT COUNTS. Prove the row's statement (the work); the ties are given (YtgnhpjakjoaejaaDoorTie.lean); close each card by the builder's one call (the guide's Derived/Test/ToyasCard.lean, 'card_holds'). Laid BY PROGRAM, IN A SANDBOX (cutbox-door.mjs). By AI agents, Wed Nov 11 2026. No macro, syntax, notation, axiom, sorry.
-/
import Derived.Test.YtgnhpjakjoaejaaDoorRows
import GoSem.ClaimSeven
namespace Go.Proofs.YtgnhpjakjoaejaaDoor
namespace Rows

/-- THE TIED CARD OF 'staithlaw19.PacketTells'. -/
def packetTellsCard : Claim7 := { stood := { row := packetTellsRow, standIns := [], harness := (true, "08060e705cc3aed6a39972cb8c140e1f3a51371e4b6ace1d59c773c831a5e79f"), looks := false }, kinds := [], alts := [], laidByText := true, laidKinds := [.data, .data, .data, .pinned], laidTests := true, laidLooks := .later }
def PacketTellsCardSaid : Prop := Claim7.holds Tryd.pinned (.plain (OpenSpec.ofChange packetTellsSpec)) packetTellsCard

/-- THE TIED CARD OF 'staithlaw19.PacketReads'. -/
def packetReadsCard : Claim7 := { stood := { row := packetReadsRow, standIns := [], harness := (true, "08060e705cc3aed6a39972cb8c140e1f3a51371e4b6ace1d59c773c831a5e79f"), looks := false }, kinds := [], alts := [], laidByText := true, laidKinds := [.data, .data, .data, .pinned], laidTests := true, laidLooks := .later }
def PacketReadsCardSaid : Prop := Claim7.holds Tryd.pinned (.plain (OpenSpec.ofChange packetReadsSpec)) packetReadsCard

/-- THE TIED CARD OF 'staithlaw19.PacketBack'. -/
def packetBackCard : Claim7 := { stood := { row := packetBackRow, standIns := [], harness := (true, "08060e705cc3aed6a39972cb8c140e1f3a51371e4b6ace1d59c773c831a5e79f"), looks := false }, kinds := [], alts := [], laidByText := true, laidKinds := [.data, .data, .data, .pinned], laidTests := true, laidLooks := .later }
def PacketBackCardSaid : Prop := Claim7.holds Tryd.pinned (.plain (OpenSpec.ofChange packetBackSpec)) packetBackCard

/-- THE TIED CARD OF 'staithlaw19.PacketApart'. -/
def packetApartCard : Claim7 := { stood := { row := packetApartRow, standIns := [], harness := (true, "08060e705cc3aed6a39972cb8c140e1f3a51371e4b6ace1d59c773c831a5e79f"), looks := false }, kinds := [], alts := [], laidByText := true, laidKinds := [.data, .data, .data, .pinned], laidTests := true, laidLooks := .later }
def PacketApartCardSaid : Prop := Claim7.holds Tryd.pinned (.plain (OpenSpec.ofChange packetApartSpec)) packetApartCard

/-- THE SECOND FORM's CARD OF 'staithlaw19.PacketTells'. -/
def packetTellsUptoCard : Claim7 := { stood := { row := packetTellsUptoRow, standIns := [], harness := (true, "08060e705cc3aed6a39972cb8c140e1f3a51371e4b6ace1d59c773c831a5e79f"), looks := false }, kinds := [], alts := [], laidByText := true, laidKinds := [.data, .data, .data, .pinned], laidTests := true, laidLooks := .later }
def PacketTellsUptoCardSaid : Prop := Claim7.holds Tryd.pinned (.plain (OpenSpec.upto packetTellsSpec)) packetTellsUptoCard

/-- THE SECOND FORM's CARD OF 'staithlaw19.PacketReads'. -/
def packetReadsUptoCard : Claim7 := { stood := { row := packetReadsUptoRow, standIns := [], harness := (true, "08060e705cc3aed6a39972cb8c140e1f3a51371e4b6ace1d59c773c831a5e79f"), looks := false }, kinds := [], alts := [], laidByText := true, laidKinds := [.data, .data, .data, .pinned], laidTests := true, laidLooks := .later }
def PacketReadsUptoCardSaid : Prop := Claim7.holds Tryd.pinned (.plain (OpenSpec.upto packetReadsSpec)) packetReadsUptoCard

/-- THE SECOND FORM's CARD OF 'staithlaw19.PacketBack'. -/
def packetBackUptoCard : Claim7 := { stood := { row := packetBackUptoRow, standIns := [], harness := (true, "08060e705cc3aed6a39972cb8c140e1f3a51371e4b6ace1d59c773c831a5e79f"), looks := false }, kinds := [], alts := [], laidByText := true, laidKinds := [.data, .data, .data, .pinned], laidTests := true, laidLooks := .later }
def PacketBackUptoCardSaid : Prop := Claim7.holds Tryd.pinned (.plain (OpenSpec.upto packetBackSpec)) packetBackUptoCard

/-- THE SECOND FORM's CARD OF 'staithlaw19.PacketApart'. -/
def packetApartUptoCard : Claim7 := { stood := { row := packetApartUptoRow, standIns := [], harness := (true, "08060e705cc3aed6a39972cb8c140e1f3a51371e4b6ace1d59c773c831a5e79f"), looks := false }, kinds := [], alts := [], laidByText := true, laidKinds := [.data, .data, .data, .pinned], laidTests := true, laidLooks := .later }
def PacketApartUptoCardSaid : Prop := Claim7.holds Tryd.pinned (.plain (OpenSpec.upto packetApartSpec)) packetApartUptoCard
end Rows
end Go.Proofs.YtgnhpjakjoaejaaDoor
