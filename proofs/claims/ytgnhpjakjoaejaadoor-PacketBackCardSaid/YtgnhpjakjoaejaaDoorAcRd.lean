/- Package act: Read, ReadMessage. -/
import Derived.Test.YtgnhpjakjoaejaaDoorAcAm
set_option linter.unusedVariables false
set_option linter.unusedSimpArgs false
namespace Go.Proofs.YtgnhpjakjoaejaaDoor
open Go.RowKit
open Go.Proofs.YtgnhpjakjoaejaaDoor.Ac (ActS)

theorem strB_size (l : Bs) : (strB l).size = l.length := by simp [strB, ByteArray.size]
theorem takeR_le (k : Nat) (r : Ac.R) : (Ac.takeR k r).1.length ≤ k := by
  unfold Ac.takeR
  repeat' split
  all_goals (simp; try omega)
theorem txtR_le (r : Ac.R) : (strB (Ac.txtR r).1).size ≤ 65535 := by
  rw [strB_size]
  have h1 := takeR_le (Ac.numR 2 r).1 (Ac.numR 2 r).2
  have h2 := Ac.numR_lt 2 r
  unfold Ac.txtR
  omega
theorem rdMsg_small (r : Ac.R) : (Ac.rdMsg r).1.Small := by
  unfold Ac.rdMsg
  exact ⟨Nat.le_trans (txtR_le _) (by omega), Nat.le_trans (txtR_le _) (by omega), Nat.le_trans (txtR_le _) (by omega)⟩
end Go.Proofs.YtgnhpjakjoaejaaDoor
