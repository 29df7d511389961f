/-
  NARROWER THAN 'FOR EVERY INPUT', by the rows' own cells (each row's printed sentence says how): ActTells: laid · ActApart: laid · ActBack: laid · ActReads: laid · ActMany: laid.
  DERIVED. THE GIVEN ROWS OF THIS SEAT. 5 by the template 'for every input the law returns true; each argument reads behind the call as it read before'; 0 by the template 'total and deterministic' (their statements: YtmfaooihigphgaaDoorTotals.lean).
  GIVEN WITH THE SEED: the statements are not yours to turn. If you find one false, say at which input.
  Laid BY PROGRAM, IN A SANDBOX (cutbox-rows.mjs): the forced cells as the released guide's own fill.sh prints them over the translation a7f5833c74719478… (all of the seat's roots in one cut). By AI agents, Wed Nov 11 2026. No macro, syntax, notation, axiom, sorry.
-/
import Derived.Test.YtmfaooihigphgaaDoorChecked
import GoSem.PinnedTables
import GoSem.Claim
import GoSem.ClaimJoined
import GoSem.ClaimMapViews
import Derived.JoinedTies
import Derived.KernelRfl
namespace Go.Proofs.YtmfaooihigphgaaDoor
/- THE CELL 'sum', in the pinned program and in every row, IS THE sha256 OF THE DUMP (.gsa) THAT YtmfaooihigphgaaDoorProg.lean LOADS. Nothing in Lean hashes anything: it is a label: what it is worth is what the hold of that sum in a sandbox is worth. -/
noncomputable def Tryd.pinned : Pinned := { name := "ytmfaooihigphgaadoor", sum := "a7f5833c74719478cb3fed52f6ed2c57131f2800c1da5167345510dcc3f2b032", checked := Tryd.checked }
namespace Rows
def none {H : Type} : Left H := { results := [], args := [] }

/- WHAT THE LISTED PACKAGE-LEVEL VARIABLES READ AS WHEN THE CALL BEGINS. Each datum BY PROGRAM (the guide's laid-datum.mjs) off the statement by which the dump's own 'gosem.cut.vars' lays the variable. In a bare row this is a premise. The card (YtmfaooihigphgaaDoorCards.lean) ties it to the program's text. -/
def laid_staith_word_widths {H : Type} : DataW H := .agg [.lit (.int .i64 1), .lit (.int .i64 2), .lit (.int .i64 4), .lit (.int .i64 8)]
def laid_unicode_utf8_acceptRanges {H : Type} : DataW H := .agg [.agg [.lit (.int .u8 128), .lit (.int .u8 191)], .agg [.lit (.int .u8 160), .lit (.int .u8 191)], .agg [.lit (.int .u8 128), .lit (.int .u8 159)], .agg [.lit (.int .u8 144), .lit (.int .u8 191)], .agg [.lit (.int .u8 128), .lit (.int .u8 143)], .agg [.lit (.int .u8 0), .lit (.int .u8 0)], .agg [.lit (.int .u8 0), .lit (.int .u8 0)], .agg [.lit (.int .u8 0), .lit (.int .u8 0)], .agg [.lit (.int .u8 0), .lit (.int .u8 0)], .agg [.lit (.int .u8 0), .lit (.int .u8 0)], .agg [.lit (.int .u8 0), .lit (.int .u8 0)], .agg [.lit (.int .u8 0), .lit (.int .u8 0)], .agg [.lit (.int .u8 0), .lit (.int .u8 0)], .agg [.lit (.int .u8 0), .lit (.int .u8 0)], .agg [.lit (.int .u8 0), .lit (.int .u8 0)], .agg [.lit (.int .u8 0), .lit (.int .u8 0)]]
def laid_staith_act_shapes {H : Type} : DataW H := .agg [.lit (.string [45]), .lit (.string [110, 99]), .lit (.string [110]), .lit (.string [120]), .lit (.string [110]), .lit (.string [98]), .lit (.string [98]), .lit (.string [109]), .lit (.string [110]), .lit (.string [110, 116]), .lit (.string [110, 116]), .lit (.string [111, 99]), .lit (.string [])]
/-- One of Go's own tables, pinned by name: the form's constant. -/
def laid_unicode_utf8_first : DataW Unit := Go.Pinned.utf8First

/-- 'staithlaw13.ActTells': WHATEVER THE INPUT: true; the input reads as it did. -/
def actTellsSpec : ChangeSpec := { name := "actTells", fn := fun _ => fun
  | [d1, d2] => { results := [.lit (.bool true)], args := [d1, d2] }
  | _ => none }
def actTellsRow : OpenClaim := { program := "ytmfaooihigphgaadoor", sum := "a7f5833c74719478cb3fed52f6ed2c57131f2800c1da5167345510dcc3f2b032", func := "staith/staithlaw13.ActTells", spec := "actTells", inPlace := ["internal/bytealg.IndexByteString", "internal/bytealg.IndexString"], unfollowed := true, recurses := true, named := ["staith/act.shapes", "unicode/utf8.first", "unicode/utf8.acceptRanges", "internal/bytealg.MaxLen", "staith/word.widths"], apart := false, laid := [("staith/word.widths", laid_staith_word_widths), ("unicode/utf8.acceptRanges", laid_unicode_utf8_acceptRanges), ("staith/act.shapes", laid_staith_act_shapes), ("unicode/utf8.first", laid_unicode_utf8_first)] }
def ActTellsSaid : Prop := actTellsRow.holds Tryd.pinned (OpenSpec.ofChange actTellsSpec)

/-- ITS FALSE NEIGHBOUR: 'it returns false'. Refute it at one input. -/
def actTellsWrong : ChangeSpec := { name := "actTells", fn := fun _ => fun
  | [d1, d2] => { results := [.lit (.bool false)], args := [d1, d2] }
  | _ => none }
def ActTellsWrongFalsely : Prop := actTellsRow.holds Tryd.pinned (OpenSpec.ofChange actTellsWrong)

/-- 'staithlaw13.ActApart': WHATEVER THE INPUT: true; the input reads as it did. -/
def actApartSpec : ChangeSpec := { name := "actApart", fn := fun _ => fun
  | [d1, d2, d3] => { results := [.lit (.bool true)], args := [d1, d2, d3] }
  | _ => none }
def actApartRow : OpenClaim := { program := "ytmfaooihigphgaadoor", sum := "a7f5833c74719478cb3fed52f6ed2c57131f2800c1da5167345510dcc3f2b032", func := "staith/staithlaw13.ActApart", spec := "actApart", inPlace := ["internal/bytealg.IndexByteString", "internal/bytealg.IndexString"], unfollowed := true, recurses := true, named := ["staith/act.shapes", "unicode/utf8.first", "unicode/utf8.acceptRanges", "internal/bytealg.MaxLen", "staith/word.widths"], apart := false, laid := [("staith/word.widths", laid_staith_word_widths), ("unicode/utf8.acceptRanges", laid_unicode_utf8_acceptRanges), ("staith/act.shapes", laid_staith_act_shapes), ("unicode/utf8.first", laid_unicode_utf8_first)] }
def ActApartSaid : Prop := actApartRow.holds Tryd.pinned (OpenSpec.ofChange actApartSpec)

/-- ITS FALSE NEIGHBOUR: 'it returns false'. Refute it at one input. -/
def actApartWrong : ChangeSpec := { name := "actApart", fn := fun _ => fun
  | [d1, d2, d3] => { results := [.lit (.bool false)], args := [d1, d2, d3] }
  | _ => none }
def ActApartWrongFalsely : Prop := actApartRow.holds Tryd.pinned (OpenSpec.ofChange actApartWrong)

/-- 'staithlaw13.ActBack': WHATEVER THE INPUT: true; the input reads as it did. -/
def actBackSpec : ChangeSpec := { name := "actBack", fn := fun _ => fun
  | [d1, d2, d3] => { results := [.lit (.bool true)], args := [d1, d2, d3] }
  | _ => none }
def actBackRow : OpenClaim := { program := "ytmfaooihigphgaadoor", sum := "a7f5833c74719478cb3fed52f6ed2c57131f2800c1da5167345510dcc3f2b032", func := "staith/staithlaw13.ActBack", spec := "actBack", inPlace := ["internal/bytealg.IndexByteString", "internal/bytealg.IndexString"], unfollowed := true, recurses := true, named := ["staith/act.shapes", "unicode/utf8.first", "unicode/utf8.acceptRanges", "internal/bytealg.MaxLen", "staith/word.widths"], apart := false, laid := [("staith/word.widths", laid_staith_word_widths), ("unicode/utf8.acceptRanges", laid_unicode_utf8_acceptRanges), ("staith/act.shapes", laid_staith_act_shapes), ("unicode/utf8.first", laid_unicode_utf8_first)] }
def ActBackSaid : Prop := actBackRow.holds Tryd.pinned (OpenSpec.ofChange actBackSpec)

/-- ITS FALSE NEIGHBOUR: 'it returns false'. Refute it at one input. -/
def actBackWrong : ChangeSpec := { name := "actBack", fn := fun _ => fun
  | [d1, d2, d3] => { results := [.lit (.bool false)], args := [d1, d2, d3] }
  | _ => none }
def ActBackWrongFalsely : Prop := actBackRow.holds Tryd.pinned (OpenSpec.ofChange actBackWrong)

/-- 'staithlaw13.ActReads': WHATEVER THE INPUT: true; the input reads as it did. -/
def actReadsSpec : ChangeSpec := { name := "actReads", fn := fun _ => fun
  | [d] => { results := [.lit (.bool true)], args := [d] }
  | _ => none }
def actReadsRow : OpenClaim := { program := "ytmfaooihigphgaadoor", sum := "a7f5833c74719478cb3fed52f6ed2c57131f2800c1da5167345510dcc3f2b032", func := "staith/staithlaw13.ActReads", spec := "actReads", inPlace := ["internal/bytealg.IndexByteString", "internal/bytealg.IndexString"], unfollowed := true, recurses := true, named := ["staith/act.shapes", "unicode/utf8.first", "unicode/utf8.acceptRanges", "internal/bytealg.MaxLen", "staith/word.widths"], apart := false, laid := [("staith/word.widths", laid_staith_word_widths), ("unicode/utf8.acceptRanges", laid_unicode_utf8_acceptRanges), ("staith/act.shapes", laid_staith_act_shapes), ("unicode/utf8.first", laid_unicode_utf8_first)] }
def ActReadsSaid : Prop := actReadsRow.holds Tryd.pinned (OpenSpec.ofChange actReadsSpec)

/-- ITS FALSE NEIGHBOUR: 'it returns false'. Refute it at one input. -/
def actReadsWrong : ChangeSpec := { name := "actReads", fn := fun _ => fun
  | [d] => { results := [.lit (.bool false)], args := [d] }
  | _ => none }
def ActReadsWrongFalsely : Prop := actReadsRow.holds Tryd.pinned (OpenSpec.ofChange actReadsWrong)

/-- 'staithlaw13.ActMany': WHATEVER THE INPUT: true; the input reads as it did. -/
def actManySpec : ChangeSpec := { name := "actMany", fn := fun _ => fun
  | [d] => { results := [.lit (.bool true)], args := [d] }
  | _ => none }
def actManyRow : OpenClaim := { program := "ytmfaooihigphgaadoor", sum := "a7f5833c74719478cb3fed52f6ed2c57131f2800c1da5167345510dcc3f2b032", func := "staith/staithlaw13.ActMany", spec := "actMany", inPlace := ["internal/bytealg.IndexByteString", "internal/bytealg.IndexString"], unfollowed := true, recurses := true, named := ["staith/act.shapes", "unicode/utf8.first", "unicode/utf8.acceptRanges", "internal/bytealg.MaxLen", "staith/word.widths"], apart := false, laid := [("staith/word.widths", laid_staith_word_widths), ("unicode/utf8.acceptRanges", laid_unicode_utf8_acceptRanges), ("staith/act.shapes", laid_staith_act_shapes), ("unicode/utf8.first", laid_unicode_utf8_first)] }
def ActManySaid : Prop := actManyRow.holds Tryd.pinned (OpenSpec.ofChange actManySpec)

/-- ITS FALSE NEIGHBOUR: 'it returns false'. Refute it at one input. -/
def actManyWrong : ChangeSpec := { name := "actMany", fn := fun _ => fun
  | [d] => { results := [.lit (.bool false)], args := [d] }
  | _ => none }
def ActManyWrongFalsely : Prop := actManyRow.holds Tryd.pinned (OpenSpec.ofChange actManyWrong)

/- THE SECOND FORM. 'bulk': how many values and letters a reading holds, each counted each time it is reached (what is shared counts as often as it is met; a slice's spare places count too). A statement '..UptoSaid' is the law's where the arguments, and the package variables that the reading takes, are together of bulk at most 1048576: NARROWER than '..Said'. Prove '..Said' where nothing that the law and all that it calls make is longer than what came in: it says more and counts as full. Else prove '..UptoSaid'. A law counts once. -/
mutual
def uptoBulk {H : Type} : DataW H → Nat
  | .lit (.string bytes) => bytes.length + 1
  | .lit _ => 1
  | .nil => 1
  | .ptr d => uptoBulk d + 1
  | .slice elems spare => uptoBulkAll elems + uptoBulkAll spare + 1
  | .agg parts => uptoBulkAll parts + 1
  | .iface _ d => uptoBulk d + 1
  | .map entries => uptoBulkEntries entries + 1
  | .held _ => 1
def uptoBulkAll {H : Type} : List (DataW H) → Nat
  | [] => 0
  | d :: r => uptoBulk d + uptoBulkAll r
def uptoBulkEntries {H : Type} : List (Lit × DataW H) → Nat
  | [] => 0
  | x :: r => uptoBulkEntry x + uptoBulkEntries r
def uptoBulkEntry {H : Type} : Lit × DataW H → Nat
  | (.string bytes, d) => bytes.length + uptoBulk d + 1
  | (_, d) => uptoBulk d + 1
 end
def uptoSmall : (H : Type) → List (DataW H) → Bool := fun _ ds => decide (uptoBulkAll ds ≤ 1048576)
def OpenSpec.upto (s : _root_.Go.ChangeSpec) : _root_.Go.OpenSpec := { _root_.Go.OpenSpec.ofChange s with cond := some uptoSmall }

/-- 'staithlaw13.ActTells', WHERE WHAT IT READS IS OF BULK AT MOST 1048576: true; the input reads as it did. -/
def actTellsUptoRow : OpenClaim := { program := "ytmfaooihigphgaadoor", sum := "a7f5833c74719478cb3fed52f6ed2c57131f2800c1da5167345510dcc3f2b032", func := "staith/staithlaw13.ActTells", spec := "actTells", inPlace := ["internal/bytealg.IndexByteString", "internal/bytealg.IndexString"], unfollowed := true, recurses := true, named := ["staith/act.shapes", "unicode/utf8.first", "unicode/utf8.acceptRanges", "internal/bytealg.MaxLen", "staith/word.widths"], apart := false, laid := [("staith/word.widths", laid_staith_word_widths), ("unicode/utf8.acceptRanges", laid_unicode_utf8_acceptRanges), ("staith/act.shapes", laid_staith_act_shapes), ("unicode/utf8.first", laid_unicode_utf8_first)], narrowed := true }
def ActTellsUptoSaid : Prop := actTellsUptoRow.holds Tryd.pinned (OpenSpec.upto actTellsSpec)

/-- 'staithlaw13.ActApart', WHERE WHAT IT READS IS OF BULK AT MOST 1048576: true; the input reads as it did. -/
def actApartUptoRow : OpenClaim := { program := "ytmfaooihigphgaadoor", sum := "a7f5833c74719478cb3fed52f6ed2c57131f2800c1da5167345510dcc3f2b032", func := "staith/staithlaw13.ActApart", spec := "actApart", inPlace := ["internal/bytealg.IndexByteString", "internal/bytealg.IndexString"], unfollowed := true, recurses := true, named := ["staith/act.shapes", "unicode/utf8.first", "unicode/utf8.acceptRanges", "internal/bytealg.MaxLen", "staith/word.widths"], apart := false, laid := [("staith/word.widths", laid_staith_word_widths), ("unicode/utf8.acceptRanges", laid_unicode_utf8_acceptRanges), ("staith/act.shapes", laid_staith_act_shapes), ("unicode/utf8.first", laid_unicode_utf8_first)], narrowed := true }
def ActApartUptoSaid : Prop := actApartUptoRow.holds Tryd.pinned (OpenSpec.upto actApartSpec)

/-- 'staithlaw13.ActBack', WHERE WHAT IT READS IS OF BULK AT MOST 1048576: true; the input reads as it did. -/
def actBackUptoRow : OpenClaim := { program := "ytmfaooihigphgaadoor", sum := "a7f5833c74719478cb3fed52f6ed2c57131f2800c1da5167345510dcc3f2b032", func := "staith/staithlaw13.ActBack", spec := "actBack", inPlace := ["internal/bytealg.IndexByteString", "internal/bytealg.IndexString"], unfollowed := true, recurses := true, named := ["staith/act.shapes", "unicode/utf8.first", "unicode/utf8.acceptRanges", "internal/bytealg.MaxLen", "staith/word.widths"], apart := false, laid := [("staith/word.widths", laid_staith_word_widths), ("unicode/utf8.acceptRanges", laid_unicode_utf8_acceptRanges), ("staith/act.shapes", laid_staith_act_shapes), ("unicode/utf8.first", laid_unicode_utf8_first)], narrowed := true }
def ActBackUptoSaid : Prop := actBackUptoRow.holds Tryd.pinned (OpenSpec.upto actBackSpec)

/-- 'staithlaw13.ActReads', WHERE WHAT IT READS IS OF BULK AT MOST 1048576: true; the input reads as it did. -/
def actReadsUptoRow : OpenClaim := { program := "ytmfaooihigphgaadoor", sum := "a7f5833c74719478cb3fed52f6ed2c57131f2800c1da5167345510dcc3f2b032", func := "staith/staithlaw13.ActReads", spec := "actReads", inPlace := ["internal/bytealg.IndexByteString", "internal/bytealg.IndexString"], unfollowed := true, recurses := true, named := ["staith/act.shapes", "unicode/utf8.first", "unicode/utf8.acceptRanges", "internal/bytealg.MaxLen", "staith/word.widths"], apart := false, laid := [("staith/word.widths", laid_staith_word_widths), ("unicode/utf8.acceptRanges", laid_unicode_utf8_acceptRanges), ("staith/act.shapes", laid_staith_act_shapes), ("unicode/utf8.first", laid_unicode_utf8_first)], narrowed := true }
def ActReadsUptoSaid : Prop := actReadsUptoRow.holds Tryd.pinned (OpenSpec.upto actReadsSpec)

/-- 'staithlaw13.ActMany', WHERE WHAT IT READS IS OF BULK AT MOST 1048576: true; the input reads as it did. -/
def actManyUptoRow : OpenClaim := { program := "ytmfaooihigphgaadoor", sum := "a7f5833c74719478cb3fed52f6ed2c57131f2800c1da5167345510dcc3f2b032", func := "staith/staithlaw13.ActMany", spec := "actMany", inPlace := ["internal/bytealg.IndexByteString", "internal/bytealg.IndexString"], unfollowed := true, recurses := true, named := ["staith/act.shapes", "unicode/utf8.first", "unicode/utf8.acceptRanges", "internal/bytealg.MaxLen", "staith/word.widths"], apart := false, laid := [("staith/word.widths", laid_staith_word_widths), ("unicode/utf8.acceptRanges", laid_unicode_utf8_acceptRanges), ("staith/act.shapes", laid_staith_act_shapes), ("unicode/utf8.first", laid_unicode_utf8_first)], narrowed := true }
def ActManyUptoSaid : Prop := actManyUptoRow.holds Tryd.pinned (OpenSpec.upto actManySpec)

end Rows
end Go.Proofs.YtmfaooihigphgaaDoor
