/-
  No cell of these rows narrows 'for every input' (looked for: loops, veiled, ifaces, maps, wideKeys, modest, calm, conditions, laid).
  DERIVED. THE GIVEN ROWS OF THIS SEAT. 4 by the template 'for every input the law returns true; each argument reads behind the call as it read before'; 0 by the template 'total and deterministic' (their statements: YtkfpooljbpijhaaTotals.lean).
  GIVEN WITH THE SEED: the statements are not yours to turn. If you find one false, say at which input.
  Laid BY PROGRAM, IN A SANDBOX (cutbox-rows.mjs): the forced cells as the released guide's own fill.sh prints them over the translation e92825532dff723e… (all of the seat's roots in one cut). By AI agents, Wed Nov 11 2026. No macro, syntax, notation, axiom, sorry.
-/
import Derived.Test.YtkfpooljbpijhaaChecked
import GoSem.Claim
import GoSem.ClaimJoined
import GoSem.ClaimMapViews
import Derived.JoinedTies
import Derived.KernelRfl
namespace Go.Proofs.Ytkfpooljbpijhaa
/- THE CELL 'sum', in the pinned program and in every row, IS THE sha256 OF THE DUMP (.gsa) THAT YtkfpooljbpijhaaProg.lean LOADS. Nothing in Lean hashes anything: it is a label: what it is worth is what the hold of that sum in a sandbox is worth. -/
noncomputable def Try.pinned : Pinned := { name := "ytkfpooljbpijhaa", sum := "e92825532dff723e001ee4913c99ebfee26af254cb835ce3265b21f1e2903a24", checked := Try.checked }
namespace Rows
def none {H : Type} : Left H := { results := [], args := [] }

/-- 'staithlaw21.InboxOrder': WHATEVER THE INPUT: true; the input reads as it did. -/
def inboxOrderSpec : ChangeSpec := { name := "inboxOrder", fn := fun _ => fun
  | [d1, d2] => { results := [.lit (.bool true)], args := [d1, d2] }
  | _ => none }
def inboxOrderRow : OpenClaim := { program := "ytkfpooljbpijhaa", sum := "e92825532dff723e001ee4913c99ebfee26af254cb835ce3265b21f1e2903a24", func := "staith/staithlaw21.InboxOrder", spec := "inboxOrder", unfollowed := true, recurses := true, apart := false }
def InboxOrderSaid : Prop := inboxOrderRow.holds Try.pinned (OpenSpec.ofChange inboxOrderSpec)

/-- ITS FALSE NEIGHBOUR: 'it returns false'. Refute it at one input. -/
def inboxOrderWrong : ChangeSpec := { name := "inboxOrder", fn := fun _ => fun
  | [d1, d2] => { results := [.lit (.bool false)], args := [d1, d2] }
  | _ => none }
def InboxOrderWrongFalsely : Prop := inboxOrderRow.holds Try.pinned (OpenSpec.ofChange inboxOrderWrong)

/-- 'staithlaw21.InboxAcks': WHATEVER THE INPUT: true; the input reads as it did. -/
def inboxAcksSpec : ChangeSpec := { name := "inboxAcks", fn := fun _ => fun
  | [d1, d2, d3] => { results := [.lit (.bool true)], args := [d1, d2, d3] }
  | _ => none }
def inboxAcksRow : OpenClaim := { program := "ytkfpooljbpijhaa", sum := "e92825532dff723e001ee4913c99ebfee26af254cb835ce3265b21f1e2903a24", func := "staith/staithlaw21.InboxAcks", spec := "inboxAcks", unfollowed := true, recurses := true, apart := false }
def InboxAcksSaid : Prop := inboxAcksRow.holds Try.pinned (OpenSpec.ofChange inboxAcksSpec)

/-- ITS FALSE NEIGHBOUR: 'it returns false'. Refute it at one input. -/
def inboxAcksWrong : ChangeSpec := { name := "inboxAcks", fn := fun _ => fun
  | [d1, d2, d3] => { results := [.lit (.bool false)], args := [d1, d2, d3] }
  | _ => none }
def InboxAcksWrongFalsely : Prop := inboxAcksRow.holds Try.pinned (OpenSpec.ofChange inboxAcksWrong)

/-- 'staithlaw21.InboxActs': WHATEVER THE INPUT: true; the input reads as it did. -/
def inboxActsSpec : ChangeSpec := { name := "inboxActs", fn := fun _ => fun
  | [d1, d2] => { results := [.lit (.bool true)], args := [d1, d2] }
  | _ => none }
def inboxActsRow : OpenClaim := { program := "ytkfpooljbpijhaa", sum := "e92825532dff723e001ee4913c99ebfee26af254cb835ce3265b21f1e2903a24", func := "staith/staithlaw21.InboxActs", spec := "inboxActs", unfollowed := true, recurses := true, apart := false }
def InboxActsSaid : Prop := inboxActsRow.holds Try.pinned (OpenSpec.ofChange inboxActsSpec)

/-- ITS FALSE NEIGHBOUR: 'it returns false'. Refute it at one input. -/
def inboxActsWrong : ChangeSpec := { name := "inboxActs", fn := fun _ => fun
  | [d1, d2] => { results := [.lit (.bool false)], args := [d1, d2] }
  | _ => none }
def InboxActsWrongFalsely : Prop := inboxActsRow.holds Try.pinned (OpenSpec.ofChange inboxActsWrong)

/-- 'staithlaw21.InboxNone': WHATEVER THE INPUT: true; the input reads as it did. -/
def inboxNoneSpec : ChangeSpec := { name := "inboxNone", fn := fun _ => fun
  | [d] => { results := [.lit (.bool true)], args := [d] }
  | _ => none }
def inboxNoneRow : OpenClaim := { program := "ytkfpooljbpijhaa", sum := "e92825532dff723e001ee4913c99ebfee26af254cb835ce3265b21f1e2903a24", func := "staith/staithlaw21.InboxNone", spec := "inboxNone", unfollowed := true, recurses := true, apart := false }
def InboxNoneSaid : Prop := inboxNoneRow.holds Try.pinned (OpenSpec.ofChange inboxNoneSpec)

/-- ITS FALSE NEIGHBOUR: 'it returns false'. Refute it at one input. -/
def inboxNoneWrong : ChangeSpec := { name := "inboxNone", fn := fun _ => fun
  | [d] => { results := [.lit (.bool false)], args := [d] }
  | _ => none }
def InboxNoneWrongFalsely : Prop := inboxNoneRow.holds Try.pinned (OpenSpec.ofChange inboxNoneWrong)

/- THE SECOND FORM. 'bulk': how many values and letters a reading holds, each counted each time it is reached (what is shared counts as often as it is met; a slice's spare places count too). A statement '..UptoSaid' is the law's where the arguments, and the package variables that the reading takes, are together of bulk at most 1048576: NARROWER than '..Said'. Prove '..Said' where nothing that the law and all that it calls make is longer than what came in: it says more and counts as full. Else prove '..UptoSaid'. A law counts once. -/
mutual
def uptoBulk {H : Type} : DataW H → Nat
  | .lit (.string bytes) => bytes.length + 1
  | .lit _ => 1
  | .nil => 1
  | .ptr d => uptoBulk d + 1
  | .slice elems spare => uptoBulkAll elems + uptoBulkAll spare + 1
  | .agg parts => uptoBulkAll parts + 1
  | .iface _ d => uptoBulk d + 1
  | .map entries => uptoBulkEntries entries + 1
  | .held _ => 1
def uptoBulkAll {H : Type} : List (DataW H) → Nat
  | [] => 0
  | d :: r => uptoBulk d + uptoBulkAll r
def uptoBulkEntries {H : Type} : List (Lit × DataW H) → Nat
  | [] => 0
  | x :: r => uptoBulkEntry x + uptoBulkEntries r
def uptoBulkEntry {H : Type} : Lit × DataW H → Nat
  | (.string bytes, d) => bytes.length + uptoBulk d + 1
  | (_, d) => uptoBulk d + 1
 end
def uptoSmall : (H : Type) → List (DataW H) → Bool := fun _ ds => decide (uptoBulkAll ds ≤ 1048576)
def OpenSpec.upto (s : _root_.Go.ChangeSpec) : _root_.Go.OpenSpec := { _root_.Go.OpenSpec.ofChange s with cond := some uptoSmall }

/-- 'staithlaw21.InboxOrder', WHERE WHAT IT READS IS OF BULK AT MOST 1048576: true; the input reads as it did. -/
def inboxOrderUptoRow : OpenClaim := { program := "ytkfpooljbpijhaa", sum := "e92825532dff723e001ee4913c99ebfee26af254cb835ce3265b21f1e2903a24", func := "staith/staithlaw21.InboxOrder", spec := "inboxOrder", unfollowed := true, recurses := true, apart := false, narrowed := true }
def InboxOrderUptoSaid : Prop := inboxOrderUptoRow.holds Try.pinned (OpenSpec.upto inboxOrderSpec)

/-- 'staithlaw21.InboxAcks', WHERE WHAT IT READS IS OF BULK AT MOST 1048576: true; the input reads as it did. -/
def inboxAcksUptoRow : OpenClaim := { program := "ytkfpooljbpijhaa", sum := "e92825532dff723e001ee4913c99ebfee26af254cb835ce3265b21f1e2903a24", func := "staith/staithlaw21.InboxAcks", spec := "inboxAcks", unfollowed := true, recurses := true, apart := false, narrowed := true }
def InboxAcksUptoSaid : Prop := inboxAcksUptoRow.holds Try.pinned (OpenSpec.upto inboxAcksSpec)

/-- 'staithlaw21.InboxActs', WHERE WHAT IT READS IS OF BULK AT MOST 1048576: true; the input reads as it did. -/
def inboxActsUptoRow : OpenClaim := { program := "ytkfpooljbpijhaa", sum := "e92825532dff723e001ee4913c99ebfee26af254cb835ce3265b21f1e2903a24", func := "staith/staithlaw21.InboxActs", spec := "inboxActs", unfollowed := true, recurses := true, apart := false, narrowed := true }
def InboxActsUptoSaid : Prop := inboxActsUptoRow.holds Try.pinned (OpenSpec.upto inboxActsSpec)

/-- 'staithlaw21.InboxNone', WHERE WHAT IT READS IS OF BULK AT MOST 1048576: true; the input reads as it did. -/
def inboxNoneUptoRow : OpenClaim := { program := "ytkfpooljbpijhaa", sum := "e92825532dff723e001ee4913c99ebfee26af254cb835ce3265b21f1e2903a24", func := "staith/staithlaw21.InboxNone", spec := "inboxNone", unfollowed := true, recurses := true, apart := false, narrowed := true }
def InboxNoneUptoSaid : Prop := inboxNoneUptoRow.holds Try.pinned (OpenSpec.upto inboxNoneSpec)

end Rows
end Go.Proofs.Ytkfpooljbpijhaa
