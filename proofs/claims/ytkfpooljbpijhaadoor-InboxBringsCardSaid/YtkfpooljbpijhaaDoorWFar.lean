/- word.Far, word.Move: what they come to. -/
import Derived.Test.YtkfpooljbpijhaaDoorProg
import Derived.WalkKit
import Derived.Laws.BitsAllLaws
import Derived.Lib.Hide
set_option linter.unusedVariables false
set_option linter.unusedSimpArgs false
namespace Go.Proofs.YtkfpooljbpijhaaDoor
open Go.RowKit

/-- How far from a up to b, around. -/
def farZ (a b : Int) : Int := (b - a + 32768) % 65536 - 32768
theorem ret_i {k : IntKind} {a b : Int} (h : a = b) : Ending.returned (.int k a) = .returned (.int k b) := by rw [h]
theorem wrap_i16 (n : Int) : IntKind.i16.wrap n = (n + 32768) % 65536 - 32768 := by
  simp [IntKind.wrap, IntKind.bits, IntKind.signed]
  split <;> omega
theorem far_eq (a b : Int) : wrap64 (IntKind.i16.wrap (IntKind.i16.wrap b - IntKind.i16.wrap a)) = farZ a b := by
  rw [wrap_i16, wrap_i16, wrap_i16]
  unfold farZ wrap64
  omega
theorem far_any (a b : Int) (w : World) : Calls Tryd.prog 20 #[.int .u16 a, .int .u16 b] w fun e w' => e = .returned (.int .i64 (farZ a b)) ∧ w = w' := by
  go_enter Tryd.func20, Tryd.ntmps20
  go_wp2
  go_ret
  exact ⟨ret_i (far_eq a b), rfl⟩
/-- A number moved, around. -/
def moveN (a n : Int) : Int := (a + n) % 65536
theorem and_low (n : Int) : bits BinOp.and IntKind.i64 n 65535 = n % 65536 := by
  show IntKind.i64.wrap ((BitVec.ofInt 64 n &&& BitVec.ofInt 64 (65535 : Int)).toNat : Int) = _
  rw [BitVec.toNat_and, show ((BitVec.ofInt 64 (65535 : Int)).toNat) = 2 ^ 16 - 1 from by decide, Nat.and_two_pow_sub_one_eq_mod, BitVec.toNat_ofInt]
  simp only [IntKind.wrap, IntKind.bits, IntKind.signed]
  simp
  omega
theorem move_eq (a n : Int) : IntKind.u16.wrap (wrap64 (a + bits BinOp.and IntKind.i64 n 65535)) = moveN a n := by
  rw [and_low, IntKind.wrap_u16]
  unfold moveN wrap64
  omega
theorem move_any (a n : Int) (w : World) (_ha : 0 ≤ a) (_ha2 : a < 65536) : Calls Tryd.prog 18 #[.int .u16 a, .int .i64 n] w fun e w' => e = .returned (.int .u16 (moveN a n)) ∧ w = w' := by
  go_enter Tryd.func18, Tryd.ntmps18
  go_wp2
  go_ret
  exact ⟨ret_i (move_eq a n), rfl⟩
end Go.Proofs.YtkfpooljbpijhaaDoor
