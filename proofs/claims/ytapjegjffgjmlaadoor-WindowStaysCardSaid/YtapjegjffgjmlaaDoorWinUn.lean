/- Package window: sending and acks in uniform states; no program. -/
import Derived.Test.YtapjegjffgjmlaaDoorWinSt
set_option linter.unusedVariables false
set_option linter.unusedSimpArgs false
namespace Go.Proofs.YtapjegjffgjmlaaDoor
open Go.RowKit

def wu (n t : Nat) (b : Int) (k v : Nat) : WS := ⟨n, t, b, uni k v⟩
theorem new_wu (n t : Nat) : WS.new n t = wu n t 0 0 0 := by unfold WS.new wu; congr 1
theorem sendK_wu (n t : Nat) (b : Int) (k v h : Nat) : sendK (wu n t b k v) (h : Int) = min h n := by unfold sendK; simp [wu]
theorem nowN_nat (a : Nat) (h : a ≤ 1125899906842624) : nowN (a : Int) = a := by unfold nowN; omega
theorem send_first (n t : Nat) (b : Int) (v h a : Nat) (ha : a ≤ 1125899906842624) : (wu n t b 0 v).sends h a = List.range (min h n) ∧ (wu n t b 0 v).send h a = wu n t b (min h n) (a + 1) := by
  have hd : ∀ i, i < min h n → due (wu n t b 0 v).wait (nowN a) ((wu n t b 0 v).f i) = true := fun i _ => by
    show due t (nowN a) (uni 0 v i) = true
    unfold uni
    rw [if_neg (by omega)]
    exact due_zero _ _
  unfold WS.sends WS.send
  rw [sendK_wu]
  refine ⟨sentL_all _ _ _ hd, ?_⟩
  rw [sentF_uni _ _ _ v 0 rfl (by omega) hd, nowN_nat a ha]
  rfl
theorem send_late (n t : Nat) (b : Int) (v h a : Nat) (ha : a ≤ 1125899906842624) (hl : (a : Int) - ((v : Int) - 1) ≥ t) : (wu n t b (min h n) v).sends h a = List.range (min h n) ∧ (wu n t b (min h n) v).send h a = wu n t b (min h n) (a + 1) := by
  have hd : ∀ i, i < min h n → due (wu n t b (min h n) v).wait (nowN a) ((wu n t b (min h n) v).f i) = true := fun i hi => by
    show due t (nowN a) (uni (min h n) v i) = true
    unfold uni
    rw [if_pos hi, nowN_nat a ha]
    exact due_late _ _ _ hl
  unfold WS.sends WS.send
  rw [sendK_wu]
  refine ⟨sentL_all _ _ _ hd, ?_⟩
  rw [sentF_uni _ _ _ v (min h n) rfl (by omega) hd, nowN_nat a ha]
  rfl
theorem send_early (n t : Nat) (b : Int) (v h a : Nat) (ha : a ≤ 1125899906842624) (hv : 0 < v) (hl : (a : Int) - ((v : Int) - 1) < t) : (wu n t b (min h n) v).sends h a = [] ∧ (wu n t b (min h n) v).send h a = wu n t b (min h n) v := by
  have hd : ∀ i, i < min h n → due (wu n t b (min h n) v).wait (nowN a) ((wu n t b (min h n) v).f i) = false := fun i hi => by
    show due t (nowN a) (uni (min h n) v i) = false
    unfold uni
    rw [if_pos hi, nowN_nat a ha]
    exact due_early _ _ _ hv hl
  unfold WS.sends WS.send
  rw [sendK_wu]
  refine ⟨sentL_none _ _ _ hd, ?_⟩
  rw [sentF_none _ _ _ hd]
theorem far_small (b k : Nat) (h : b + k < 32768) : farZ (b : Int) ((b + k : Nat) : Int) = ((k : Nat) : Int) := by unfold farZ; omega
/-- All that was sent is there. -/
theorem ack_wu (n t : Nat) (b : Int) (k v : Nat) (num : Int) (m : Nat) : (wu n t b k v).ack k num m = wu n t num 0 0 := by
  unfold WS.ack wu
  congr 1
  funext i
  unfold shiftF
  by_cases h : k + i < 32
  · rw [if_pos h]
    unfold markF uni
    simp only [if_neg (show ¬ k + i < k by omega)]
    simp
  · rw [if_neg h]; simp [uni]
theorem sent_wu (n t : Nat) (b : Int) (k v : Nat) (hv : 0 < v) : ∀ i, i < k → 0 < ((wu n t b k v).f i).1 := fun i hi => by
  show 0 < (uni k v i).1
  unfold uni
  rw [if_pos hi]
  exact hv
theorem open_wu (n t : Nat) (b : Int) (k v : Nat) (hv : 0 < v) (hk : k ≤ 32) : openN (wu n t b k v).f 32 = k := by
  show openN (uni k v) 32 = k
  rw [openN_uni k v hv]; omega
theorem open_wu0 (n t : Nat) (b : Int) : openN (wu n t b 0 0).f 32 = 0 := by
  show openN (uni 0 0) 32 = 0
  rw [← uni_zero 1, openN_uni 0 1 (by omega)]; omega
end Go.Proofs.YtapjegjffgjmlaaDoor
