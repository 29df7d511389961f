/- What the rows' listed variable gives the walks: the table's cells. -/
import Derived.Test.YtkfpooljbpijhaaDoorRows
import Derived.Test.YtkfpooljbpijhaaDoorMkTz
import Derived.Lib.LaidTab
set_option linter.unusedVariables false
set_option linter.unusedSimpArgs false
namespace Go.Proofs.YtkfpooljbpijhaaDoor
open Go.RowKit

/-- math/bits' table lies as its initialiser lays it. -/
def Laid (W : World) : Prop := TabAt 0 Lib.deBruijn64tab W

theorem gTab : Tryd.prog.globalNamed "math/bits.deBruijn64tab" = some 0 := by kernel_rfl
theorem Laid.of_met {W : World} (h : laidMet Tryd.prog [("math/bits.deBruijn64tab", Rows.laid_math_bits_deBruijn64tab)] W) : Laid W := by
  have e : (Rows.laid_math_bits_deBruijn64tab : DataW Unit) = Lib.tabData .u8 (Lib.deBruijn64tab.map fun n : Nat => (n : Int)) := rfl
  rw [e] at h
  have ht := Lib.tabIs_of_head gTab (t := 71) (e := 5) (n := 64) (by kernel_rfl) Tryd.underlying71 Tryd.underlying5 (by kernel_rfl) (by kernel_rfl) h
  intro j hj
  have := ht.cell gTab j (by simpa using hj)
  rw [this]
  simp [List.getD, hj]
theorem Laid.lt {W : World} (h : Laid W) : 0 < W.heap.size := World.block_lt_of_cell? W ⟨0, 0, none⟩ (h 0 (by decide))
theorem Laid.below {B : Nat} {w w' : World} (h : Laid w) (hb : Below B w w') (hg : 0 < B) : Laid w' := TabAt.below h hb hg
end Go.Proofs.YtkfpooljbpijhaaDoor
