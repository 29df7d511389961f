/-
  No cell of these rows narrows 'for every input' (looked for: loops, veiled, ifaces, maps, wideKeys, modest, calm, conditions, laid).
  DERIVED. THE GIVEN ROWS OF THIS SEAT. 5 by the template 'for every input the law returns true; each argument reads behind the call as it read before'; 0 by the template 'total and deterministic' (their statements: YthgejgfdpmbpaaaTotals.lean).
  GIVEN WITH THE SEED: the statements are not yours to turn. If you find one false, say at which input.
  Laid BY PROGRAM, IN A SANDBOX (cutbox-rows.mjs): the forced cells as the released guide's own fill.sh prints them over the translation a76fdf2f99795013… (all of the seat's roots in one cut). By AI agents, Wed Nov 11 2026. No macro, syntax, notation, axiom, sorry.
-/
import Derived.Test.YthgejgfdpmbpaaaChecked
import GoSem.Claim
import GoSem.ClaimJoined
import GoSem.ClaimMapViews
import Derived.JoinedTies
import Derived.KernelRfl
namespace Go.Proofs.Ythgejgfdpmbpaaa
/- THE CELL 'sum', in the pinned program and in every row, IS THE sha256 OF THE DUMP (.gsa) THAT YthgejgfdpmbpaaaProg.lean LOADS. Nothing in Lean hashes anything: it is a label: what it is worth is what the hold of that sum in a sandbox is worth. -/
noncomputable def Try.pinned : Pinned := { name := "ythgejgfdpmbpaaa", sum := "a76fdf2f99795013a9f885020dbe829bd12be59f3b30566346b3a8876dbe8717", checked := Try.checked }
namespace Rows
def none {H : Type} : Left H := { results := [], args := [] }

/-- 'staithlaw09.SeenOnce': WHATEVER THE INPUT: true; the input reads as it did. -/
def seenOnceSpec : ChangeSpec := { name := "seenOnce", fn := fun _ => fun
  | [d1, d2] => { results := [.lit (.bool true)], args := [d1, d2] }
  | _ => none }
def seenOnceRow : OpenClaim := { program := "ythgejgfdpmbpaaa", sum := "a76fdf2f99795013a9f885020dbe829bd12be59f3b30566346b3a8876dbe8717", func := "staith/staithlaw09.SeenOnce", spec := "seenOnce", unfollowed := true, recurses := true, apart := false }
def SeenOnceSaid : Prop := seenOnceRow.holds Try.pinned (OpenSpec.ofChange seenOnceSpec)

/-- ITS FALSE NEIGHBOUR: 'it returns false'. Refute it at one input. -/
def seenOnceWrong : ChangeSpec := { name := "seenOnce", fn := fun _ => fun
  | [d1, d2] => { results := [.lit (.bool false)], args := [d1, d2] }
  | _ => none }
def SeenOnceWrongFalsely : Prop := seenOnceRow.holds Try.pinned (OpenSpec.ofChange seenOnceWrong)

/-- 'staithlaw09.SeenAdds': WHATEVER THE INPUT: true; the input reads as it did. -/
def seenAddsSpec : ChangeSpec := { name := "seenAdds", fn := fun _ => fun
  | [d1, d2] => { results := [.lit (.bool true)], args := [d1, d2] }
  | _ => none }
def seenAddsRow : OpenClaim := { program := "ythgejgfdpmbpaaa", sum := "a76fdf2f99795013a9f885020dbe829bd12be59f3b30566346b3a8876dbe8717", func := "staith/staithlaw09.SeenAdds", spec := "seenAdds", unfollowed := true, recurses := true, apart := false }
def SeenAddsSaid : Prop := seenAddsRow.holds Try.pinned (OpenSpec.ofChange seenAddsSpec)

/-- ITS FALSE NEIGHBOUR: 'it returns false'. Refute it at one input. -/
def seenAddsWrong : ChangeSpec := { name := "seenAdds", fn := fun _ => fun
  | [d1, d2] => { results := [.lit (.bool false)], args := [d1, d2] }
  | _ => none }
def SeenAddsWrongFalsely : Prop := seenAddsRow.holds Try.pinned (OpenSpec.ofChange seenAddsWrong)

/-- 'staithlaw09.SeenGaps': WHATEVER THE INPUT: true; the input reads as it did. -/
def seenGapsSpec : ChangeSpec := { name := "seenGaps", fn := fun _ => fun
  | [d1, d2, d3] => { results := [.lit (.bool true)], args := [d1, d2, d3] }
  | _ => none }
def seenGapsRow : OpenClaim := { program := "ythgejgfdpmbpaaa", sum := "a76fdf2f99795013a9f885020dbe829bd12be59f3b30566346b3a8876dbe8717", func := "staith/staithlaw09.SeenGaps", spec := "seenGaps", unfollowed := true, recurses := true, apart := false }
def SeenGapsSaid : Prop := seenGapsRow.holds Try.pinned (OpenSpec.ofChange seenGapsSpec)

/-- ITS FALSE NEIGHBOUR: 'it returns false'. Refute it at one input. -/
def seenGapsWrong : ChangeSpec := { name := "seenGaps", fn := fun _ => fun
  | [d1, d2, d3] => { results := [.lit (.bool false)], args := [d1, d2, d3] }
  | _ => none }
def SeenGapsWrongFalsely : Prop := seenGapsRow.holds Try.pinned (OpenSpec.ofChange seenGapsWrong)

/-- 'staithlaw09.SeenPuts': WHATEVER THE INPUT: true; the input reads as it did. -/
def seenPutsSpec : ChangeSpec := { name := "seenPuts", fn := fun _ => fun
  | [d1, d2] => { results := [.lit (.bool true)], args := [d1, d2] }
  | _ => none }
def seenPutsRow : OpenClaim := { program := "ythgejgfdpmbpaaa", sum := "a76fdf2f99795013a9f885020dbe829bd12be59f3b30566346b3a8876dbe8717", func := "staith/staithlaw09.SeenPuts", spec := "seenPuts", unfollowed := true, recurses := true, apart := false }
def SeenPutsSaid : Prop := seenPutsRow.holds Try.pinned (OpenSpec.ofChange seenPutsSpec)

/-- ITS FALSE NEIGHBOUR: 'it returns false'. Refute it at one input. -/
def seenPutsWrong : ChangeSpec := { name := "seenPuts", fn := fun _ => fun
  | [d1, d2] => { results := [.lit (.bool false)], args := [d1, d2] }
  | _ => none }
def SeenPutsWrongFalsely : Prop := seenPutsRow.holds Try.pinned (OpenSpec.ofChange seenPutsWrong)

/-- 'staithlaw09.SeenNone': WHATEVER THE INPUT: true; the input reads as it did. -/
def seenNoneSpec : ChangeSpec := { name := "seenNone", fn := fun _ => fun
  | [d1, d2] => { results := [.lit (.bool true)], args := [d1, d2] }
  | _ => none }
def seenNoneRow : OpenClaim := { program := "ythgejgfdpmbpaaa", sum := "a76fdf2f99795013a9f885020dbe829bd12be59f3b30566346b3a8876dbe8717", func := "staith/staithlaw09.SeenNone", spec := "seenNone", unfollowed := true, recurses := true, apart := false }
def SeenNoneSaid : Prop := seenNoneRow.holds Try.pinned (OpenSpec.ofChange seenNoneSpec)

/-- ITS FALSE NEIGHBOUR: 'it returns false'. Refute it at one input. -/
def seenNoneWrong : ChangeSpec := { name := "seenNone", fn := fun _ => fun
  | [d1, d2] => { results := [.lit (.bool false)], args := [d1, d2] }
  | _ => none }
def SeenNoneWrongFalsely : Prop := seenNoneRow.holds Try.pinned (OpenSpec.ofChange seenNoneWrong)

/- THE SECOND FORM. 'bulk': how many values and letters a reading holds, each counted each time it is reached (what is shared counts as often as it is met; a slice's spare places count too). A statement '..UptoSaid' is the law's where the arguments, and the package variables that the reading takes, are together of bulk at most 1048576: NARROWER than '..Said'. Prove '..Said' where nothing that the law and all that it calls make is longer than what came in: it says more and counts as full. Else prove '..UptoSaid'. A law counts once. -/
mutual
def uptoBulk {H : Type} : DataW H → Nat
  | .lit (.string bytes) => bytes.length + 1
  | .lit _ => 1
  | .nil => 1
  | .ptr d => uptoBulk d + 1
  | .slice elems spare => uptoBulkAll elems + uptoBulkAll spare + 1
  | .agg parts => uptoBulkAll parts + 1
  | .iface _ d => uptoBulk d + 1
  | .map entries => uptoBulkEntries entries + 1
  | .held _ => 1
def uptoBulkAll {H : Type} : List (DataW H) → Nat
  | [] => 0
  | d :: r => uptoBulk d + uptoBulkAll r
def uptoBulkEntries {H : Type} : List (Lit × DataW H) → Nat
  | [] => 0
  | x :: r => uptoBulkEntry x + uptoBulkEntries r
def uptoBulkEntry {H : Type} : Lit × DataW H → Nat
  | (.string bytes, d) => bytes.length + uptoBulk d + 1
  | (_, d) => uptoBulk d + 1
 end
def uptoSmall : (H : Type) → List (DataW H) → Bool := fun _ ds => decide (uptoBulkAll ds ≤ 1048576)
def OpenSpec.upto (s : _root_.Go.ChangeSpec) : _root_.Go.OpenSpec := { _root_.Go.OpenSpec.ofChange s with cond := some uptoSmall }

/-- 'staithlaw09.SeenOnce', WHERE WHAT IT READS IS OF BULK AT MOST 1048576: true; the input reads as it did. -/
def seenOnceUptoRow : OpenClaim := { program := "ythgejgfdpmbpaaa", sum := "a76fdf2f99795013a9f885020dbe829bd12be59f3b30566346b3a8876dbe8717", func := "staith/staithlaw09.SeenOnce", spec := "seenOnce", unfollowed := true, recurses := true, apart := false, narrowed := true }
def SeenOnceUptoSaid : Prop := seenOnceUptoRow.holds Try.pinned (OpenSpec.upto seenOnceSpec)

/-- 'staithlaw09.SeenAdds', WHERE WHAT IT READS IS OF BULK AT MOST 1048576: true; the input reads as it did. -/
def seenAddsUptoRow : OpenClaim := { program := "ythgejgfdpmbpaaa", sum := "a76fdf2f99795013a9f885020dbe829bd12be59f3b30566346b3a8876dbe8717", func := "staith/staithlaw09.SeenAdds", spec := "seenAdds", unfollowed := true, recurses := true, apart := false, narrowed := true }
def SeenAddsUptoSaid : Prop := seenAddsUptoRow.holds Try.pinned (OpenSpec.upto seenAddsSpec)

/-- 'staithlaw09.SeenGaps', WHERE WHAT IT READS IS OF BULK AT MOST 1048576: true; the input reads as it did. -/
def seenGapsUptoRow : OpenClaim := { program := "ythgejgfdpmbpaaa", sum := "a76fdf2f99795013a9f885020dbe829bd12be59f3b30566346b3a8876dbe8717", func := "staith/staithlaw09.SeenGaps", spec := "seenGaps", unfollowed := true, recurses := true, apart := false, narrowed := true }
def SeenGapsUptoSaid : Prop := seenGapsUptoRow.holds Try.pinned (OpenSpec.upto seenGapsSpec)

/-- 'staithlaw09.SeenPuts', WHERE WHAT IT READS IS OF BULK AT MOST 1048576: true; the input reads as it did. -/
def seenPutsUptoRow : OpenClaim := { program := "ythgejgfdpmbpaaa", sum := "a76fdf2f99795013a9f885020dbe829bd12be59f3b30566346b3a8876dbe8717", func := "staith/staithlaw09.SeenPuts", spec := "seenPuts", unfollowed := true, recurses := true, apart := false, narrowed := true }
def SeenPutsUptoSaid : Prop := seenPutsUptoRow.holds Try.pinned (OpenSpec.upto seenPutsSpec)

/-- 'staithlaw09.SeenNone', WHERE WHAT IT READS IS OF BULK AT MOST 1048576: true; the input reads as it did. -/
def seenNoneUptoRow : OpenClaim := { program := "ythgejgfdpmbpaaa", sum := "a76fdf2f99795013a9f885020dbe829bd12be59f3b30566346b3a8876dbe8717", func := "staith/staithlaw09.SeenNone", spec := "seenNone", unfollowed := true, recurses := true, apart := false, narrowed := true }
def SeenNoneUptoSaid : Prop := seenNoneUptoRow.holds Try.pinned (OpenSpec.upto seenNoneSpec)

end Rows
end Go.Proofs.Ythgejgfdpmbpaaa
