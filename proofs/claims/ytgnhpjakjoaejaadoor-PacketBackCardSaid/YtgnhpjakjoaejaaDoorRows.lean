/-
  NARROWER THAN 'FOR EVERY INPUT', by the rows' own cells (each row's printed sentence says how): PacketTells: laid · PacketReads: laid · PacketBack: laid · PacketApart: laid.
  DERIVED. THE GIVEN ROWS OF THIS SEAT. 4 by the template 'for every input the law returns true; each argument reads behind the call as it read before'; 0 by the template 'total and deterministic' (their statements: YtgnhpjakjoaejaaDoorTotals.lean).
  GIVEN WITH THE SEED: the statements are not yours to turn. If you find one false, say at which input.
  Laid BY PROGRAM, IN A SANDBOX (cutbox-rows.mjs): the forced cells as the released guide's own fill.sh prints them over the translation a13c576fd4af19ce… (all of the seat's roots in one cut). By AI agents, Wed Nov 11 2026. No macro, syntax, notation, axiom, sorry.
-/
import Derived.Test.YtgnhpjakjoaejaaDoorChecked
import GoSem.PinnedTables
import GoSem.Claim
import GoSem.ClaimJoined
import GoSem.ClaimMapViews
import Derived.JoinedTies
import Derived.KernelRfl
namespace Go.Proofs.YtgnhpjakjoaejaaDoor
/- THE CELL 'sum', in the pinned program and in every row, IS THE sha256 OF THE DUMP (.gsa) THAT YtgnhpjakjoaejaaDoorProg.lean LOADS. Nothing in Lean hashes anything: it is a label: what it is worth is what the hold of that sum in a sandbox is worth. -/
noncomputable def Tryd.pinned : Pinned := { name := "ytgnhpjakjoaejaadoor", sum := "a13c576fd4af19ce211e410a71ea7711a0a5a735a5d06e02f6d0ab24fb85d418", checked := Tryd.checked }
namespace Rows
def none {H : Type} : Left H := { results := [], args := [] }

/- WHAT THE LISTED PACKAGE-LEVEL VARIABLES READ AS WHEN THE CALL BEGINS. Each datum BY PROGRAM (the guide's laid-datum.mjs) off the statement by which the dump's own 'gosem.cut.vars' lays the variable. In a bare row this is a premise. The card (YtgnhpjakjoaejaaDoorCards.lean) ties it to the program's text. -/
def laid_staith_word_widths {H : Type} : DataW H := .agg [.lit (.int .i64 1), .lit (.int .i64 2), .lit (.int .i64 4), .lit (.int .i64 8)]
def laid_unicode_utf8_acceptRanges {H : Type} : DataW H := .agg [.agg [.lit (.int .u8 128), .lit (.int .u8 191)], .agg [.lit (.int .u8 160), .lit (.int .u8 191)], .agg [.lit (.int .u8 128), .lit (.int .u8 159)], .agg [.lit (.int .u8 144), .lit (.int .u8 191)], .agg [.lit (.int .u8 128), .lit (.int .u8 143)], .agg [.lit (.int .u8 0), .lit (.int .u8 0)], .agg [.lit (.int .u8 0), .lit (.int .u8 0)], .agg [.lit (.int .u8 0), .lit (.int .u8 0)], .agg [.lit (.int .u8 0), .lit (.int .u8 0)], .agg [.lit (.int .u8 0), .lit (.int .u8 0)], .agg [.lit (.int .u8 0), .lit (.int .u8 0)], .agg [.lit (.int .u8 0), .lit (.int .u8 0)], .agg [.lit (.int .u8 0), .lit (.int .u8 0)], .agg [.lit (.int .u8 0), .lit (.int .u8 0)], .agg [.lit (.int .u8 0), .lit (.int .u8 0)], .agg [.lit (.int .u8 0), .lit (.int .u8 0)]]
def laid_staith_packet_kinds {H : Type} : DataW H := .agg [.lit (.string []), .lit (.string [104, 101, 108, 108, 111]), .lit (.string [119, 101, 108, 99, 111, 109, 101]), .lit (.string [100, 97, 116, 97]), .lit (.string [97, 99, 107])]
/-- One of Go's own tables, pinned by name: the form's constant. -/
def laid_unicode_utf8_first : DataW Unit := Go.Pinned.utf8First

/-- 'staithlaw19.PacketTells': WHATEVER THE INPUT: true; the input reads as it did. -/
def packetTellsSpec : ChangeSpec := { name := "packetTells", fn := fun _ => fun
  | [d] => { results := [.lit (.bool true)], args := [d] }
  | _ => none }
def packetTellsRow : OpenClaim := { program := "ytgnhpjakjoaejaadoor", sum := "a13c576fd4af19ce211e410a71ea7711a0a5a735a5d06e02f6d0ab24fb85d418", func := "staith/staithlaw19.PacketTells", spec := "packetTells", inPlace := ["internal/bytealg.IndexByteString", "internal/bytealg.IndexString"], unfollowed := true, recurses := true, named := ["staith/packet.kinds", "unicode/utf8.first", "unicode/utf8.acceptRanges", "internal/bytealg.MaxLen", "staith/word.widths"], apart := false, laid := [("staith/word.widths", laid_staith_word_widths), ("unicode/utf8.acceptRanges", laid_unicode_utf8_acceptRanges), ("staith/packet.kinds", laid_staith_packet_kinds), ("unicode/utf8.first", laid_unicode_utf8_first)] }
def PacketTellsSaid : Prop := packetTellsRow.holds Tryd.pinned (OpenSpec.ofChange packetTellsSpec)

/-- ITS FALSE NEIGHBOUR: 'it returns false'. Refute it at one input. -/
def packetTellsWrong : ChangeSpec := { name := "packetTells", fn := fun _ => fun
  | [d] => { results := [.lit (.bool false)], args := [d] }
  | _ => none }
def PacketTellsWrongFalsely : Prop := packetTellsRow.holds Tryd.pinned (OpenSpec.ofChange packetTellsWrong)

/-- 'staithlaw19.PacketReads': WHATEVER THE INPUT: true; the input reads as it did. -/
def packetReadsSpec : ChangeSpec := { name := "packetReads", fn := fun _ => fun
  | [d] => { results := [.lit (.bool true)], args := [d] }
  | _ => none }
def packetReadsRow : OpenClaim := { program := "ytgnhpjakjoaejaadoor", sum := "a13c576fd4af19ce211e410a71ea7711a0a5a735a5d06e02f6d0ab24fb85d418", func := "staith/staithlaw19.PacketReads", spec := "packetReads", inPlace := ["internal/bytealg.IndexByteString", "internal/bytealg.IndexString"], unfollowed := true, recurses := true, named := ["staith/packet.kinds", "unicode/utf8.first", "unicode/utf8.acceptRanges", "internal/bytealg.MaxLen", "staith/word.widths"], apart := false, laid := [("staith/word.widths", laid_staith_word_widths), ("unicode/utf8.acceptRanges", laid_unicode_utf8_acceptRanges), ("staith/packet.kinds", laid_staith_packet_kinds), ("unicode/utf8.first", laid_unicode_utf8_first)] }
def PacketReadsSaid : Prop := packetReadsRow.holds Tryd.pinned (OpenSpec.ofChange packetReadsSpec)

/-- ITS FALSE NEIGHBOUR: 'it returns false'. Refute it at one input. -/
def packetReadsWrong : ChangeSpec := { name := "packetReads", fn := fun _ => fun
  | [d] => { results := [.lit (.bool false)], args := [d] }
  | _ => none }
def PacketReadsWrongFalsely : Prop := packetReadsRow.holds Tryd.pinned (OpenSpec.ofChange packetReadsWrong)

/-- 'staithlaw19.PacketBack': WHATEVER THE INPUT: true; the input reads as it did. -/
def packetBackSpec : ChangeSpec := { name := "packetBack", fn := fun _ => fun
  | [d1, d2, d3] => { results := [.lit (.bool true)], args := [d1, d2, d3] }
  | _ => none }
def packetBackRow : OpenClaim := { program := "ytgnhpjakjoaejaadoor", sum := "a13c576fd4af19ce211e410a71ea7711a0a5a735a5d06e02f6d0ab24fb85d418", func := "staith/staithlaw19.PacketBack", spec := "packetBack", inPlace := ["internal/bytealg.IndexByteString", "internal/bytealg.IndexString"], unfollowed := true, recurses := true, named := ["staith/packet.kinds", "unicode/utf8.first", "unicode/utf8.acceptRanges", "internal/bytealg.MaxLen", "staith/word.widths"], apart := false, laid := [("staith/word.widths", laid_staith_word_widths), ("unicode/utf8.acceptRanges", laid_unicode_utf8_acceptRanges), ("staith/packet.kinds", laid_staith_packet_kinds), ("unicode/utf8.first", laid_unicode_utf8_first)] }
def PacketBackSaid : Prop := packetBackRow.holds Tryd.pinned (OpenSpec.ofChange packetBackSpec)

/-- ITS FALSE NEIGHBOUR: 'it returns false'. Refute it at one input. -/
def packetBackWrong : ChangeSpec := { name := "packetBack", fn := fun _ => fun
  | [d1, d2, d3] => { results := [.lit (.bool false)], args := [d1, d2, d3] }
  | _ => none }
def PacketBackWrongFalsely : Prop := packetBackRow.holds Tryd.pinned (OpenSpec.ofChange packetBackWrong)

/-- 'staithlaw19.PacketApart': WHATEVER THE INPUT: true; the input reads as it did. -/
def packetApartSpec : ChangeSpec := { name := "packetApart", fn := fun _ => fun
  | [d1, d2] => { results := [.lit (.bool true)], args := [d1, d2] }
  | _ => none }
def packetApartRow : OpenClaim := { program := "ytgnhpjakjoaejaadoor", sum := "a13c576fd4af19ce211e410a71ea7711a0a5a735a5d06e02f6d0ab24fb85d418", func := "staith/staithlaw19.PacketApart", spec := "packetApart", inPlace := ["internal/bytealg.IndexByteString", "internal/bytealg.IndexString"], unfollowed := true, recurses := true, named := ["staith/packet.kinds", "unicode/utf8.first", "unicode/utf8.acceptRanges", "internal/bytealg.MaxLen", "staith/word.widths"], apart := false, laid := [("staith/word.widths", laid_staith_word_widths), ("unicode/utf8.acceptRanges", laid_unicode_utf8_acceptRanges), ("staith/packet.kinds", laid_staith_packet_kinds), ("unicode/utf8.first", laid_unicode_utf8_first)] }
def PacketApartSaid : Prop := packetApartRow.holds Tryd.pinned (OpenSpec.ofChange packetApartSpec)

/-- ITS FALSE NEIGHBOUR: 'it returns false'. Refute it at one input. -/
def packetApartWrong : ChangeSpec := { name := "packetApart", fn := fun _ => fun
  | [d1, d2] => { results := [.lit (.bool false)], args := [d1, d2] }
  | _ => none }
def PacketApartWrongFalsely : Prop := packetApartRow.holds Tryd.pinned (OpenSpec.ofChange packetApartWrong)

/- THE SECOND FORM. 'bulk': how many values and letters a reading holds, each counted each time it is reached (what is shared counts as often as it is met; a slice's spare places count too). A statement '..UptoSaid' is the law's where the arguments, and the package variables that the reading takes, are together of bulk at most 1048576: NARROWER than '..Said'. Prove '..Said' where nothing that the law and all that it calls make is longer than what came in: it says more and counts as full. Else prove '..UptoSaid'. A law counts once. -/
mutual
def uptoBulk {H : Type} : DataW H → Nat
  | .lit (.string bytes) => bytes.length + 1
  | .lit _ => 1
  | .nil => 1
  | .ptr d => uptoBulk d + 1
  | .slice elems spare => uptoBulkAll elems + uptoBulkAll spare + 1
  | .agg parts => uptoBulkAll parts + 1
  | .iface _ d => uptoBulk d + 1
  | .map entries => uptoBulkEntries entries + 1
  | .held _ => 1
def uptoBulkAll {H : Type} : List (DataW H) → Nat
  | [] => 0
  | d :: r => uptoBulk d + uptoBulkAll r
def uptoBulkEntries {H : Type} : List (Lit × DataW H) → Nat
  | [] => 0
  | x :: r => uptoBulkEntry x + uptoBulkEntries r
def uptoBulkEntry {H : Type} : Lit × DataW H → Nat
  | (.string bytes, d) => bytes.length + uptoBulk d + 1
  | (_, d) => uptoBulk d + 1
 end
def uptoSmall : (H : Type) → List (DataW H) → Bool := fun _ ds => decide (uptoBulkAll ds ≤ 1048576)
def OpenSpec.upto (s : _root_.Go.ChangeSpec) : _root_.Go.OpenSpec := { _root_.Go.OpenSpec.ofChange s with cond := some uptoSmall }

/-- 'staithlaw19.PacketTells', WHERE WHAT IT READS IS OF BULK AT MOST 1048576: true; the input reads as it did. -/
def packetTellsUptoRow : OpenClaim := { program := "ytgnhpjakjoaejaadoor", sum := "a13c576fd4af19ce211e410a71ea7711a0a5a735a5d06e02f6d0ab24fb85d418", func := "staith/staithlaw19.PacketTells", spec := "packetTells", inPlace := ["internal/bytealg.IndexByteString", "internal/bytealg.IndexString"], unfollowed := true, recurses := true, named := ["staith/packet.kinds", "unicode/utf8.first", "unicode/utf8.acceptRanges", "internal/bytealg.MaxLen", "staith/word.widths"], apart := false, laid := [("staith/word.widths", laid_staith_word_widths), ("unicode/utf8.acceptRanges", laid_unicode_utf8_acceptRanges), ("staith/packet.kinds", laid_staith_packet_kinds), ("unicode/utf8.first", laid_unicode_utf8_first)], narrowed := true }
def PacketTellsUptoSaid : Prop := packetTellsUptoRow.holds Tryd.pinned (OpenSpec.upto packetTellsSpec)

/-- 'staithlaw19.PacketReads', WHERE WHAT IT READS IS OF BULK AT MOST 1048576: true; the input reads as it did. -/
def packetReadsUptoRow : OpenClaim := { program := "ytgnhpjakjoaejaadoor", sum := "a13c576fd4af19ce211e410a71ea7711a0a5a735a5d06e02f6d0ab24fb85d418", func := "staith/staithlaw19.PacketReads", spec := "packetReads", inPlace := ["internal/bytealg.IndexByteString", "internal/bytealg.IndexString"], unfollowed := true, recurses := true, named := ["staith/packet.kinds", "unicode/utf8.first", "unicode/utf8.acceptRanges", "internal/bytealg.MaxLen", "staith/word.widths"], apart := false, laid := [("staith/word.widths", laid_staith_word_widths), ("unicode/utf8.acceptRanges", laid_unicode_utf8_acceptRanges), ("staith/packet.kinds", laid_staith_packet_kinds), ("unicode/utf8.first", laid_unicode_utf8_first)], narrowed := true }
def PacketReadsUptoSaid : Prop := packetReadsUptoRow.holds Tryd.pinned (OpenSpec.upto packetReadsSpec)

/-- 'staithlaw19.PacketBack', WHERE WHAT IT READS IS OF BULK AT MOST 1048576: true; the input reads as it did. -/
def packetBackUptoRow : OpenClaim := { program := "ytgnhpjakjoaejaadoor", sum := "a13c576fd4af19ce211e410a71ea7711a0a5a735a5d06e02f6d0ab24fb85d418", func := "staith/staithlaw19.PacketBack", spec := "packetBack", inPlace := ["internal/bytealg.IndexByteString", "internal/bytealg.IndexString"], unfollowed := true, recurses := true, named := ["staith/packet.kinds", "unicode/utf8.first", "unicode/utf8.acceptRanges", "internal/bytealg.MaxLen", "staith/word.widths"], apart := false, laid := [("staith/word.widths", laid_staith_word_widths), ("unicode/utf8.acceptRanges", laid_unicode_utf8_acceptRanges), ("staith/packet.kinds", laid_staith_packet_kinds), ("unicode/utf8.first", laid_unicode_utf8_first)], narrowed := true }
def PacketBackUptoSaid : Prop := packetBackUptoRow.holds Tryd.pinned (OpenSpec.upto packetBackSpec)

/-- 'staithlaw19.PacketApart', WHERE WHAT IT READS IS OF BULK AT MOST 1048576: true; the input reads as it did. -/
def packetApartUptoRow : OpenClaim := { program := "ytgnhpjakjoaejaadoor", sum := "a13c576fd4af19ce211e410a71ea7711a0a5a735a5d06e02f6d0ab24fb85d418", func := "staith/staithlaw19.PacketApart", spec := "packetApart", inPlace := ["internal/bytealg.IndexByteString", "internal/bytealg.IndexString"], unfollowed := true, recurses := true, named := ["staith/packet.kinds", "unicode/utf8.first", "unicode/utf8.acceptRanges", "internal/bytealg.MaxLen", "staith/word.widths"], apart := false, laid := [("staith/word.widths", laid_staith_word_widths), ("unicode/utf8.acceptRanges", laid_unicode_utf8_acceptRanges), ("staith/packet.kinds", laid_staith_packet_kinds), ("unicode/utf8.first", laid_unicode_utf8_first)], narrowed := true }
def PacketApartUptoSaid : Prop := packetApartUptoRow.holds Tryd.pinned (OpenSpec.upto packetApartSpec)

end Rows
end Go.Proofs.YtgnhpjakjoaejaaDoor
