/- '==' of messages. -/
import Derived.Test.YtgnhpjakjoaejaaDoorProg
import Derived.Test.YtgnhpjakjoaejaaDoorWEqStruct
import Derived.WalkKit
import Derived.KernelRfl
set_option linter.unusedVariables false
set_option linter.unusedSimpArgs false
namespace Go.Proofs.YtgnhpjakjoaejaaDoor
open Go.RowKit Go.Proofs.YtgnhpjakjoaejaaDoorW.PrintWords

theorem eqA_Ident (d : Nat) (w : World) (x0 y0 : Int) (x1 y1 : Int) :
    (Op.equalIn (d + 2) 25 (.agg #[.int .i64 x0, .int .u64 x1]) (.agg #[.int .i64 y0, .int .u64 y1])).run Tryd.prog w = .ok (x0 == y0 && (x1 == y1)) w := by
  refine eqA_of Tryd.underlying25 (by kernel_rfl) ?_
  refine eqf_cons (by rfl) (by go_simp; rfl) (by go_simp; rfl) (by go_simp) ?_
  exact eqf_last (by rfl) (by go_simp; rfl) (by go_simp; rfl) (by go_simp)
theorem eqA_Message (d : Nat) (w : World) (x0 y0 : Int) (x1 y1 : Int) (x2 y2 : Int) (x3 y3 : ByteArray) (x4 y4 : ByteArray) (x5 y5 : ByteArray) :
    (Op.equalIn (d + 3) 27 (.agg #[.int .i64 x0, .int .u64 x1, .int .i64 x2, .string x3, .string x4, .string x5]) (.agg #[.int .i64 y0, .int .u64 y1, .int .i64 y2, .string y3, .string y4, .string y5])).run Tryd.prog w = .ok ((x0 == y0 && (x1 == y1)) && (x2 == y2 && (x3.toList == y3.toList && (x4.toList == y4.toList && (x5.toList == y5.toList))))) w := by
  refine eqA_of Tryd.underlying27 (by kernel_rfl) ?_
  refine eqf_cons (by rfl) (by go_simp) (by go_simp) (eqA_Ident (d + 0) w _ _ _ _) ?_
  refine eqf_cons (by rfl) (by go_simp; rfl) (by go_simp; rfl) (by go_simp) ?_
  refine eqf_cons (by rfl) (by go_simp; rfl) (by go_simp; rfl) (by go_simp) ?_
  refine eqf_cons (by rfl) (by go_simp; rfl) (by go_simp; rfl) (by go_simp) ?_
  exact eqf_last (by rfl) (by go_simp; rfl) (by go_simp; rfl) (by go_simp)
/-- A message. -/
structure Msg where
  org : Int
  seq : Int
  hop : Int
  ex : ByteArray
  key : ByteArray
  body : ByteArray
def Msg.cells (m : Msg) : Array Value := #[.int .i64 m.org, .int .u64 m.seq, .int .i64 m.hop, .string m.ex, .string m.key, .string m.body]
def msgV (m : Msg) : Value := .agg m.cells
def Msg.zero : Msg := ⟨0, 0, 0, ByteArray.empty, ByteArray.empty, ByteArray.empty⟩
def hopM (n : Int) : Msg := ⟨0, 0, n, ByteArray.empty, ByteArray.empty, ByteArray.empty⟩
theorem toList_data (x : ByteArray) : x.toList = x.data.toList := by rw [ByteArray.toList_eq]
theorem bytes_eq (a b : ByteArray) : (a.toList == b.toList) = decide (a = b) := by
  rw [Bool.eq_iff_iff]
  simp only [beq_iff_eq, decide_eq_true_eq, toList_data]
  constructor
  · intro e
    have : a.data = b.data := Array.ext' e
    cases a; cases b; simp at this; subst this; rfl
  · intro e; rw [e]
def sameM (a b : Msg) : Bool := (a.org == b.org && (a.seq == b.seq)) && (a.hop == b.hop && (a.ex.toList == b.ex.toList && (a.key.toList == b.key.toList && (a.body.toList == b.body.toList))))
theorem sameM_iff (a b : Msg) : sameM a b = true ↔ a = b := by
  unfold sameM
  rw [bytes_eq, bytes_eq, bytes_eq]
  cases a; cases b
  simp only [Bool.and_eq_true, beq_iff_eq, decide_eq_true_eq, Msg.mk.injEq]
  constructor
  · rintro ⟨⟨h1, h2⟩, h3, h4, h5, h6⟩; exact ⟨h1, h2, h3, h4, h5, h6⟩
  · rintro ⟨h1, h2, h3, h4, h5, h6⟩; exact ⟨⟨h1, h2⟩, h3, h4, h5, h6⟩
theorem run_equalIn_msg (a b : Msg) (d : Nat) (w : World) : (Op.equalIn (d + 3) 27 (msgV a) (msgV b)).run Tryd.prog w = .ok (sameM a b) w :=
  eqA_Message d w a.org b.org a.seq b.seq a.hop b.hop a.ex b.ex a.key b.key a.body b.body
theorem run_eql_msg (a b : Msg) (w : World) : (binOp .eql 27 (msgV a) (msgV b)).run Tryd.prog w = .ok (.bool (sameM a b)) w := by
  have h : (Op.equalIn 10000 27 (.agg a.cells) (.agg b.cells)).run Tryd.prog w = .ok (sameM a b) w := run_equalIn_msg a b 9997 w
  show (binOp .eql 27 (.agg a.cells) (.agg b.cells)).run Tryd.prog w = _
  simp only [binOp]
  simp [Op.equal, Op.maxDepth, h]
theorem run_neq_msg (a b : Msg) (w : World) : (binOp .neq 27 (msgV a) (msgV b)).run Tryd.prog w = .ok (.bool (!sameM a b)) w := by
  have h : (Op.equalIn 10000 27 (.agg a.cells) (.agg b.cells)).run Tryd.prog w = .ok (sameM a b) w := run_equalIn_msg a b 9997 w
  show (binOp .neq 27 (.agg a.cells) (.agg b.cells)).run Tryd.prog w = _
  simp only [binOp]
  simp [Op.equal, Op.maxDepth, h]
end Go.Proofs.YtgnhpjakjoaejaaDoor
