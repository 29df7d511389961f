/-
  No cell of these rows narrows 'for every input' (looked for: loops, veiled, ifaces, maps, wideKeys, modest, calm, conditions, laid).
  DERIVED. THE GIVEN ROWS OF THIS SEAT. 7 by the template 'for every input the law returns true; each argument reads behind the call as it read before'; 0 by the template 'total and deterministic' (their statements: YtbnhnmfmgfoacaaTotals.lean).
  GIVEN WITH THE SEED: the statements are not yours to turn. If you find one false, say at which input.
  Laid BY PROGRAM, IN A SANDBOX (cutbox-rows.mjs): the forced cells as the released guide's own fill.sh prints them over the translation 6ef80d33caef03e2… (all of the seat's roots in one cut). By AI agents, Wed Nov 11 2026. No macro, syntax, notation, axiom, sorry.
-/
import Derived.Test.YtbnhnmfmgfoacaaChecked
import GoSem.Claim
import GoSem.ClaimJoined
import GoSem.ClaimMapViews
import Derived.JoinedTies
import Derived.KernelRfl
namespace Go.Proofs.Ytbnhnmfmgfoacaa
/- THE CELL 'sum', in the pinned program and in every row, IS THE sha256 OF THE DUMP (.gsa) THAT YtbnhnmfmgfoacaaProg.lean LOADS. Nothing in Lean hashes anything: it is a label: what it is worth is what the hold of that sum in a sandbox is worth. -/
noncomputable def Try.pinned : Pinned := { name := "ytbnhnmfmgfoacaa", sum := "6ef80d33caef03e280a71bf0ac3437aeed5d818a37d46b7929bc2ebfe1785ae9", checked := Try.checked }
namespace Rows
def none {H : Type} : Left H := { results := [], args := [] }

/-- 'staithlaw04.SpanAdds': WHATEVER THE INPUT: true; the input reads as it did. -/
def spanAddsSpec : ChangeSpec := { name := "spanAdds", fn := fun _ => fun
  | [d1, d2] => { results := [.lit (.bool true)], args := [d1, d2] }
  | _ => none }
def spanAddsRow : OpenClaim := { program := "ytbnhnmfmgfoacaa", sum := "6ef80d33caef03e280a71bf0ac3437aeed5d818a37d46b7929bc2ebfe1785ae9", func := "staith/staithlaw04.SpanAdds", spec := "spanAdds", unfollowed := true, recurses := true, apart := false }
def SpanAddsSaid : Prop := spanAddsRow.holds Try.pinned (OpenSpec.ofChange spanAddsSpec)

/-- ITS FALSE NEIGHBOUR: 'it returns false'. Refute it at one input. -/
def spanAddsWrong : ChangeSpec := { name := "spanAdds", fn := fun _ => fun
  | [d1, d2] => { results := [.lit (.bool false)], args := [d1, d2] }
  | _ => none }
def SpanAddsWrongFalsely : Prop := spanAddsRow.holds Try.pinned (OpenSpec.ofChange spanAddsWrong)

/-- 'staithlaw04.SpanOrder': WHATEVER THE INPUT: true; the input reads as it did. -/
def spanOrderSpec : ChangeSpec := { name := "spanOrder", fn := fun _ => fun
  | [d] => { results := [.lit (.bool true)], args := [d] }
  | _ => none }
def spanOrderRow : OpenClaim := { program := "ytbnhnmfmgfoacaa", sum := "6ef80d33caef03e280a71bf0ac3437aeed5d818a37d46b7929bc2ebfe1785ae9", func := "staith/staithlaw04.SpanOrder", spec := "spanOrder", unfollowed := true, recurses := true, apart := false }
def SpanOrderSaid : Prop := spanOrderRow.holds Try.pinned (OpenSpec.ofChange spanOrderSpec)

/-- ITS FALSE NEIGHBOUR: 'it returns false'. Refute it at one input. -/
def spanOrderWrong : ChangeSpec := { name := "spanOrder", fn := fun _ => fun
  | [d] => { results := [.lit (.bool false)], args := [d] }
  | _ => none }
def SpanOrderWrongFalsely : Prop := spanOrderRow.holds Try.pinned (OpenSpec.ofChange spanOrderWrong)

/-- 'staithlaw04.SpanHoles': WHATEVER THE INPUT: true; the input reads as it did. -/
def spanHolesSpec : ChangeSpec := { name := "spanHoles", fn := fun _ => fun
  | [d] => { results := [.lit (.bool true)], args := [d] }
  | _ => none }
def spanHolesRow : OpenClaim := { program := "ytbnhnmfmgfoacaa", sum := "6ef80d33caef03e280a71bf0ac3437aeed5d818a37d46b7929bc2ebfe1785ae9", func := "staith/staithlaw04.SpanHoles", spec := "spanHoles", unfollowed := true, recurses := true, apart := false }
def SpanHolesSaid : Prop := spanHolesRow.holds Try.pinned (OpenSpec.ofChange spanHolesSpec)

/-- ITS FALSE NEIGHBOUR: 'it returns false'. Refute it at one input. -/
def spanHolesWrong : ChangeSpec := { name := "spanHoles", fn := fun _ => fun
  | [d] => { results := [.lit (.bool false)], args := [d] }
  | _ => none }
def SpanHolesWrongFalsely : Prop := spanHolesRow.holds Try.pinned (OpenSpec.ofChange spanHolesWrong)

/-- 'staithlaw04.SpanFills': WHATEVER THE INPUT: true; the input reads as it did. -/
def spanFillsSpec : ChangeSpec := { name := "spanFills", fn := fun _ => fun
  | [d1, d2] => { results := [.lit (.bool true)], args := [d1, d2] }
  | _ => none }
def spanFillsRow : OpenClaim := { program := "ytbnhnmfmgfoacaa", sum := "6ef80d33caef03e280a71bf0ac3437aeed5d818a37d46b7929bc2ebfe1785ae9", func := "staith/staithlaw04.SpanFills", spec := "spanFills", unfollowed := true, recurses := true, apart := false }
def SpanFillsSaid : Prop := spanFillsRow.holds Try.pinned (OpenSpec.ofChange spanFillsSpec)

/-- ITS FALSE NEIGHBOUR: 'it returns false'. Refute it at one input. -/
def spanFillsWrong : ChangeSpec := { name := "spanFills", fn := fun _ => fun
  | [d1, d2] => { results := [.lit (.bool false)], args := [d1, d2] }
  | _ => none }
def SpanFillsWrongFalsely : Prop := spanFillsRow.holds Try.pinned (OpenSpec.ofChange spanFillsWrong)

/-- 'staithlaw04.SpanJoins': WHATEVER THE INPUT: true; the input reads as it did. -/
def spanJoinsSpec : ChangeSpec := { name := "spanJoins", fn := fun _ => fun
  | [d1, d2, d3] => { results := [.lit (.bool true)], args := [d1, d2, d3] }
  | _ => none }
def spanJoinsRow : OpenClaim := { program := "ytbnhnmfmgfoacaa", sum := "6ef80d33caef03e280a71bf0ac3437aeed5d818a37d46b7929bc2ebfe1785ae9", func := "staith/staithlaw04.SpanJoins", spec := "spanJoins", unfollowed := true, recurses := true, apart := false }
def SpanJoinsSaid : Prop := spanJoinsRow.holds Try.pinned (OpenSpec.ofChange spanJoinsSpec)

/-- ITS FALSE NEIGHBOUR: 'it returns false'. Refute it at one input. -/
def spanJoinsWrong : ChangeSpec := { name := "spanJoins", fn := fun _ => fun
  | [d1, d2, d3] => { results := [.lit (.bool false)], args := [d1, d2, d3] }
  | _ => none }
def SpanJoinsWrongFalsely : Prop := spanJoinsRow.holds Try.pinned (OpenSpec.ofChange spanJoinsWrong)

/-- 'staithlaw04.SpanNone': WHATEVER THE INPUT: true; the input reads as it did. -/
def spanNoneSpec : ChangeSpec := { name := "spanNone", fn := fun _ => fun
  | [d] => { results := [.lit (.bool true)], args := [d] }
  | _ => none }
def spanNoneRow : OpenClaim := { program := "ytbnhnmfmgfoacaa", sum := "6ef80d33caef03e280a71bf0ac3437aeed5d818a37d46b7929bc2ebfe1785ae9", func := "staith/staithlaw04.SpanNone", spec := "spanNone", unfollowed := true, recurses := true, apart := false }
def SpanNoneSaid : Prop := spanNoneRow.holds Try.pinned (OpenSpec.ofChange spanNoneSpec)

/-- ITS FALSE NEIGHBOUR: 'it returns false'. Refute it at one input. -/
def spanNoneWrong : ChangeSpec := { name := "spanNone", fn := fun _ => fun
  | [d] => { results := [.lit (.bool false)], args := [d] }
  | _ => none }
def SpanNoneWrongFalsely : Prop := spanNoneRow.holds Try.pinned (OpenSpec.ofChange spanNoneWrong)

/-- 'staithlaw04.SpanFroms': WHATEVER THE INPUT: true; the input reads as it did. -/
def spanFromsSpec : ChangeSpec := { name := "spanFroms", fn := fun _ => fun
  | [d1, d2, d3] => { results := [.lit (.bool true)], args := [d1, d2, d3] }
  | _ => none }
def spanFromsRow : OpenClaim := { program := "ytbnhnmfmgfoacaa", sum := "6ef80d33caef03e280a71bf0ac3437aeed5d818a37d46b7929bc2ebfe1785ae9", func := "staith/staithlaw04.SpanFroms", spec := "spanFroms", unfollowed := true, recurses := true, apart := false }
def SpanFromsSaid : Prop := spanFromsRow.holds Try.pinned (OpenSpec.ofChange spanFromsSpec)

/-- ITS FALSE NEIGHBOUR: 'it returns false'. Refute it at one input. -/
def spanFromsWrong : ChangeSpec := { name := "spanFroms", fn := fun _ => fun
  | [d1, d2, d3] => { results := [.lit (.bool false)], args := [d1, d2, d3] }
  | _ => none }
def SpanFromsWrongFalsely : Prop := spanFromsRow.holds Try.pinned (OpenSpec.ofChange spanFromsWrong)

/- THE SECOND FORM. 'bulk': how many values and letters a reading holds, each counted each time it is reached (what is shared counts as often as it is met; a slice's spare places count too). A statement '..UptoSaid' is the law's where the arguments, and the package variables that the reading takes, are together of bulk at most 1048576: NARROWER than '..Said'. Prove '..Said' where nothing that the law and all that it calls make is longer than what came in: it says more and counts as full. Else prove '..UptoSaid'. A law counts once. -/
mutual
def uptoBulk {H : Type} : DataW H → Nat
  | .lit (.string bytes) => bytes.length + 1
  | .lit _ => 1
  | .nil => 1
  | .ptr d => uptoBulk d + 1
  | .slice elems spare => uptoBulkAll elems + uptoBulkAll spare + 1
  | .agg parts => uptoBulkAll parts + 1
  | .iface _ d => uptoBulk d + 1
  | .map entries => uptoBulkEntries entries + 1
  | .held _ => 1
def uptoBulkAll {H : Type} : List (DataW H) → Nat
  | [] => 0
  | d :: r => uptoBulk d + uptoBulkAll r
def uptoBulkEntries {H : Type} : List (Lit × DataW H) → Nat
  | [] => 0
  | x :: r => uptoBulkEntry x + uptoBulkEntries r
def uptoBulkEntry {H : Type} : Lit × DataW H → Nat
  | (.string bytes, d) => bytes.length + uptoBulk d + 1
  | (_, d) => uptoBulk d + 1
 end
def uptoSmall : (H : Type) → List (DataW H) → Bool := fun _ ds => decide (uptoBulkAll ds ≤ 1048576)
def OpenSpec.upto (s : _root_.Go.ChangeSpec) : _root_.Go.OpenSpec := { _root_.Go.OpenSpec.ofChange s with cond := some uptoSmall }

/-- 'staithlaw04.SpanAdds', WHERE WHAT IT READS IS OF BULK AT MOST 1048576: true; the input reads as it did. -/
def spanAddsUptoRow : OpenClaim := { program := "ytbnhnmfmgfoacaa", sum := "6ef80d33caef03e280a71bf0ac3437aeed5d818a37d46b7929bc2ebfe1785ae9", func := "staith/staithlaw04.SpanAdds", spec := "spanAdds", unfollowed := true, recurses := true, apart := false, narrowed := true }
def SpanAddsUptoSaid : Prop := spanAddsUptoRow.holds Try.pinned (OpenSpec.upto spanAddsSpec)

/-- 'staithlaw04.SpanOrder', WHERE WHAT IT READS IS OF BULK AT MOST 1048576: true; the input reads as it did. -/
def spanOrderUptoRow : OpenClaim := { program := "ytbnhnmfmgfoacaa", sum := "6ef80d33caef03e280a71bf0ac3437aeed5d818a37d46b7929bc2ebfe1785ae9", func := "staith/staithlaw04.SpanOrder", spec := "spanOrder", unfollowed := true, recurses := true, apart := false, narrowed := true }
def SpanOrderUptoSaid : Prop := spanOrderUptoRow.holds Try.pinned (OpenSpec.upto spanOrderSpec)

/-- 'staithlaw04.SpanHoles', WHERE WHAT IT READS IS OF BULK AT MOST 1048576: true; the input reads as it did. -/
def spanHolesUptoRow : OpenClaim := { program := "ytbnhnmfmgfoacaa", sum := "6ef80d33caef03e280a71bf0ac3437aeed5d818a37d46b7929bc2ebfe1785ae9", func := "staith/staithlaw04.SpanHoles", spec := "spanHoles", unfollowed := true, recurses := true, apart := false, narrowed := true }
def SpanHolesUptoSaid : Prop := spanHolesUptoRow.holds Try.pinned (OpenSpec.upto spanHolesSpec)

/-- 'staithlaw04.SpanFills', WHERE WHAT IT READS IS OF BULK AT MOST 1048576: true; the input reads as it did. -/
def spanFillsUptoRow : OpenClaim := { program := "ytbnhnmfmgfoacaa", sum := "6ef80d33caef03e280a71bf0ac3437aeed5d818a37d46b7929bc2ebfe1785ae9", func := "staith/staithlaw04.SpanFills", spec := "spanFills", unfollowed := true, recurses := true, apart := false, narrowed := true }
def SpanFillsUptoSaid : Prop := spanFillsUptoRow.holds Try.pinned (OpenSpec.upto spanFillsSpec)

/-- 'staithlaw04.SpanJoins', WHERE WHAT IT READS IS OF BULK AT MOST 1048576: true; the input reads as it did. -/
def spanJoinsUptoRow : OpenClaim := { program := "ytbnhnmfmgfoacaa", sum := "6ef80d33caef03e280a71bf0ac3437aeed5d818a37d46b7929bc2ebfe1785ae9", func := "staith/staithlaw04.SpanJoins", spec := "spanJoins", unfollowed := true, recurses := true, apart := false, narrowed := true }
def SpanJoinsUptoSaid : Prop := spanJoinsUptoRow.holds Try.pinned (OpenSpec.upto spanJoinsSpec)

/-- 'staithlaw04.SpanNone', WHERE WHAT IT READS IS OF BULK AT MOST 1048576: true; the input reads as it did. -/
def spanNoneUptoRow : OpenClaim := { program := "ytbnhnmfmgfoacaa", sum := "6ef80d33caef03e280a71bf0ac3437aeed5d818a37d46b7929bc2ebfe1785ae9", func := "staith/staithlaw04.SpanNone", spec := "spanNone", unfollowed := true, recurses := true, apart := false, narrowed := true }
def SpanNoneUptoSaid : Prop := spanNoneUptoRow.holds Try.pinned (OpenSpec.upto spanNoneSpec)

/-- 'staithlaw04.SpanFroms', WHERE WHAT IT READS IS OF BULK AT MOST 1048576: true; the input reads as it did. -/
def spanFromsUptoRow : OpenClaim := { program := "ytbnhnmfmgfoacaa", sum := "6ef80d33caef03e280a71bf0ac3437aeed5d818a37d46b7929bc2ebfe1785ae9", func := "staith/staithlaw04.SpanFroms", spec := "spanFroms", unfollowed := true, recurses := true, apart := false, narrowed := true }
def SpanFromsUptoSaid : Prop := spanFromsUptoRow.holds Try.pinned (OpenSpec.upto spanFromsSpec)

end Rows
end Go.Proofs.Ytbnhnmfmgfoacaa
