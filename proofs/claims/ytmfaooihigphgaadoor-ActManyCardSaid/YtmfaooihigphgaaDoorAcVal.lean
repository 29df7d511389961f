/- Acts and exchanges as values: a block's whole load and store. -/
import Derived.Test.YtmfaooihigphgaaDoorAcMsg
import Derived.Test.YtmfaooihigphgaaDoorLBlk
set_option linter.unusedVariables false
set_option linter.unusedSimpArgs false
namespace Go.Proofs.YtmfaooihigphgaaDoor
open Go.RowKit
open Go.Proofs.YtmfaooihigphgaaDoor.Ac (ActS)

def ActS.cells (a : ActS) : Array Value := #[.int .i64 a.kind, .string a.name, .int .i64 a.n, .int .u64 a.tag, .int .i64 a.dst, .string a.xn, .int .i64 a.xk, .bool a.xf, .string a.be, .string a.bq, .string a.bp,
  .int .i64 a.m.org, .int .u64 a.m.seq, .int .i64 a.m.hop, .string a.m.ex, .string a.m.key, .string a.m.body]
def actV (a : ActS) : Value := .agg (ActS.cells a)
theorem actC_size (a : ActS) : (ActS.cells a).size = 17 := rfl
theorem actC_one (a : ActS) : (ActS.cells a).all (·.oneCell') = true := by simp [ActS.cells, Value.oneCell']
theorem info_act : (Tryd.prog.info? 32).map (·.size) = some 17 := by kernel_rfl
theorem load_act {w : World} {b : Nat} {a : ActS} (h : Blk w b 32 (ActS.cells a)) : (Instr.loadAt 32 (.pointer (some ⟨b, 0, none⟩))).run Tryd.prog w = .ok (.agg (ActS.cells a)) w :=
  load_blk h Tryd.underlying32 rfl info_act
theorem store_act {w : World} {b : Nat} {a : ActS} {cs : Array Value} (h : Blk w b 32 cs) (hs : cs.size = 17) : ∃ w', (Instr.storeAt 32 (.pointer (some ⟨b, 0, none⟩)) (actV a)).run Tryd.prog w = .ok () w' ∧ Blk w' b 32 (ActS.cells a) ∧ Chg [b] w w' :=
  store_blk h (by rw [hs]; rfl) info_act (actC_one a)
theorem lvar_act {w : World} {b : Nat} {a : ActS} (h : Blk w b 32 (ActS.cells a)) : (loadVar 32 ⟨b, 0, none⟩).run Tryd.prog w = .ok (.agg (ActS.cells a)) w := lvar_blk h Tryd.underlying32 rfl info_act
open Go.Proofs.YtmfaooihigphgaaDoorW.PrintWords
theorem eqA_Exchange (d : Nat) (w : World) (x0 y0 : ByteArray) (x1 y1 : Int) (x2 y2 : Bool) :
    (Op.equalIn (d + 2) 24 (.agg #[.string x0, .int .i64 x1, .bool x2]) (.agg #[.string y0, .int .i64 y1, .bool y2])).run Tryd.prog w = .ok (x0.toList == y0.toList && (x1 == y1 && (x2 == y2))) w := by
  refine eqA_of Tryd.underlying24 (by kernel_rfl) ?_
  refine eqf_cons (by rfl) (by go_simp; rfl) (by go_simp; rfl) (by go_simp) ?_
  refine eqf_cons (by rfl) (by go_simp; rfl) (by go_simp; rfl) (by go_simp) ?_
  exact eqf_last (by rfl) (by go_simp; rfl) (by go_simp; rfl) (by go_simp)
theorem eqA_Binding (d : Nat) (w : World) (x0 y0 x1 y1 x2 y2 : ByteArray) :
    (Op.equalIn (d + 2) 26 (.agg #[.string x0, .string x1, .string x2]) (.agg #[.string y0, .string y1, .string y2])).run Tryd.prog w = .ok (x0.toList == y0.toList && (x1.toList == y1.toList && (x2.toList == y2.toList))) w := by
  refine eqA_of Tryd.underlying26 (by kernel_rfl) ?_
  refine eqf_cons (by rfl) (by go_simp; rfl) (by go_simp; rfl) (by go_simp) ?_
  refine eqf_cons (by rfl) (by go_simp; rfl) (by go_simp; rfl) (by go_simp) ?_
  exact eqf_last (by rfl) (by go_simp; rfl) (by go_simp; rfl) (by go_simp)
theorem eqA_Act (a b : ActS) (d : Nat) (w : World) : (Op.equalIn (d + 4) 32 (.agg (ActS.cells a)) (.agg (ActS.cells b))).run Tryd.prog w = .ok (Ac.sameS a b) w := by
  unfold ActS.cells Ac.sameS
  refine eqA_of Tryd.underlying32 (by kernel_rfl) ?_
  refine eqf_cons (by rfl) (by go_simp; rfl) (by go_simp; rfl) (by go_simp) ?_
  refine eqf_cons (by rfl) (by go_simp; rfl) (by go_simp; rfl) (by go_simp) ?_
  refine eqf_cons (by rfl) (by go_simp; rfl) (by go_simp; rfl) (by go_simp) ?_
  refine eqf_cons (by rfl) (by go_simp; rfl) (by go_simp; rfl) (by go_simp) ?_
  refine eqf_cons (by rfl) (by go_simp; rfl) (by go_simp; rfl) (by go_simp) ?_
  refine eqf_cons (by rfl) (by go_simp) (by go_simp) (eqA_Exchange (d + 1) w _ _ _ _ _ _) ?_
  refine eqf_cons (by rfl) (by go_simp) (by go_simp) (eqA_Binding (d + 1) w _ _ _ _ _ _) ?_
  exact eqf_last (by rfl) (by go_simp; rfl) (by go_simp; rfl) (run_equalIn_msg a.m b.m d w)
theorem run_eql_act (a b : ActS) (w : World) : (binOp .eql 32 (.agg (ActS.cells a)) (.agg (ActS.cells b))).run Tryd.prog w = .ok (.bool (Ac.sameS a b)) w := by
  have h := eqA_Act a b 9996 w
  simp only [binOp]
  simp [Op.equal, Op.maxDepth, h]
theorem run_neq_act (a b : ActS) (w : World) : (binOp .neq 32 (.agg (ActS.cells a)) (.agg (ActS.cells b))).run Tryd.prog w = .ok (.bool (!Ac.sameS a b)) w := by
  have h := eqA_Act a b 9996 w
  simp only [binOp]
  simp [Op.equal, Op.maxDepth, h]
end Go.Proofs.YtmfaooihigphgaaDoor
