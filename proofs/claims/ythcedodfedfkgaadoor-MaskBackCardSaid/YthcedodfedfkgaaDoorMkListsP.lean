/- MaskLists, plain: what the references (in numbers) come to. -/
import Derived.Test.YthcedodfedfkgaaDoorMkRuns
import Derived.Test.YthcedodfedfkgaaDoorPMaskListsx1
namespace Go.Proofs.YthcedodfedfkgaaDoor.maskLists
open Go.RowKit Go.Proofs.YthcedodfedfkgaaDoorW.PrintWords Go.Proofs.YthcedodfedfkgaaDoorW.PrintLast Go.Proofs.YthcedodfedfkgaaDoorW.PrintMore Go.Proofs.YthcedodfedfkgaaDoor.PMaskLists

theorem shr_bit (m : Nat) (n : Int) (h0 : 0 ≤ n) (h1 : n < 64) (hm : m < 18446744073709551616) : (Go.bits .and .u64 (shr .u64 m (IntKind.u64.wrap n)) 1 == 1) = m.testBit n.toNat := by
  have e : IntKind.u64.wrap n = n := by rw [IntKind.wrap_u64]; omega
  rw [e]
  unfold shr
  rw [show min n.toNat IntKind.u64.bits = n.toNat from Nat.min_eq_left (by show n.toNat ≤ 64; omega)]
  have e2 : (m : Int) / 2 ^ n.toNat = ((m / 2 ^ n.toNat : Nat) : Int) := by simp
  have hlt : m / 2 ^ n.toNat < 18446744073709551616 := Nat.lt_of_le_of_lt (Nat.div_le_self _ _) hm
  rw [e2]
  have h := bits_and_u64_nat (m / 2 ^ n.toNat) 1 hlt (by omega)
  rw [show ((1 : Nat) : Int) = 1 from rfl] at h
  rw [h, Nat.and_one_is_mod, Nat.testBit_eq_decide_div_mod_eq]
  rw [Bool.eq_iff_iff]
  simp
  omega
theorem refHas (m : Nat) (n : Int) (hm : m < 18446744073709551616) : staithref02_Has.f m n = some (hasB m n) := by
  unfold staithref02_Has.f hasB
  by_cases h0 : 0 ≤ n
  · rw [if_pos h0]
    by_cases h1 : n < 64
    · rw [if_pos h1, if_pos (by rw [IntKind.wrap_u64]; omega), shr_bit m n h0 h1 hm]; simp [h0, h1]
    · rw [if_neg h1]; simp [h1]
  · rw [if_neg h0]; simp [h0]
theorem refList_l0 (m : Nat) (hm : m < 18446744073709551616) : ∀ (d i k : Nat), i + d = 64 → d < k →
    staithref02_List.l0 k m (((List.range i).filter fun j => m.testBit j).map fun j : Nat => (j : Int)) i = some ((Bt.bitsL m).map fun j : Nat => (j : Int)) := by
  intro d
  induction d with
  | zero =>
    intro i k hi hk
    obtain ⟨k, rfl⟩ : ∃ q, k = q + 1 := ⟨k - 1, by omega⟩
    have : i = 64 := by omega
    subst this
    simp only [staithref02_List.l0]
    rw [if_neg (by omega)]
    rfl
  | succ d ih =>
    intro i k hi hk
    obtain ⟨k, rfl⟩ : ∃ q, k = q + 1 := ⟨k - 1, by omega⟩
    simp only [staithref02_List.l0]
    rw [if_pos (by omega), refHas m i hm]
    simp only [Option.bind_some]
    have hb : hasB m i = m.testBit i := by
      unfold hasB
      simp [show (i : Int) < 64 from by omega]
    have hw : wrap64 ((i : Int) + 1) = ((i + 1 : Nat) : Int) := by unfold wrap64; omega
    have hlen : (((List.range i).filter fun j => m.testBit j).map fun j : Nat => (j : Int)).length ≤ 64 := by
      rw [List.length_map]
      have := List.length_filter_le (fun j => m.testBit j) (List.range i)
      rw [List.length_range] at this
      omega
    have hnext := ih (i + 1) k (by omega) (by omega)
    rw [List.range_succ, List.filter_append, List.map_append] at hnext
    rw [hb, hw]
    by_cases ht : m.testBit i = true
    · rw [if_pos ht, if_pos (by omega)]
      simpa [ht] using hnext
    · rw [if_neg ht]
      have ht' : m.testBit i = false := by simpa using ht
      simpa [ht'] using hnext
theorem refList (m : Nat) (hm : m < 18446744073709551616) (k : Nat) (hk : 64 < k) : staithref02_List.f k m = some ((Bt.bitsL m).map fun j : Nat => (j : Int)) :=
  refList_l0 m hm 64 0 k rfl hk

theorem refRun_l0 (m : Nat) (hm : m < 18446744073709551616) : ∀ (d i k : Nat), i + d = maskRuns.runN m → d < k → staithref02_Run.l0 k m i = some ((maskRuns.runN m : Nat) : Int) := by
  obtain ⟨h1, h2, h3⟩ := maskRuns.runN_spec m hm
  intro d
  induction d with
  | zero =>
    intro i k hi hk
    obtain ⟨k, rfl⟩ : ∃ q, k = q + 1 := ⟨k - 1, by omega⟩
    simp only [staithref02_Run.l0]
    rw [refHas m i hm, show (i : Int) = ((maskRuns.runN m : Nat) : Int) from by omega, maskRuns.hasB_run m hm]
    rfl
  | succ d ih =>
    intro i k hi hk
    obtain ⟨k, rfl⟩ : ∃ q, k = q + 1 := ⟨k - 1, by omega⟩
    simp only [staithref02_Run.l0]
    have hb : hasB m i = true := by
      unfold hasB
      rw [show ((i : Int)).toNat = i from by omega, h2 i (by omega)]
      simp
      omega
    have hw : wrap64 ((i : Int) + 1) = ((i + 1 : Nat) : Int) := by unfold wrap64; omega
    rw [refHas m i hm, hb, hw]
    exact ih (i + 1) k (by omega) (by omega)
theorem refRun (m : Nat) (hm : m < 18446744073709551616) : staithref02_Run.f 100 m = some ((maskRuns.runN m : Nat) : Int) :=
  refRun_l0 m hm (maskRuns.runN m) 0 100 (by omega) (by have := (maskRuns.runN_spec m hm).1; omega)

theorem refInts_l0 (l : List Int) (hl : l.length ≤ 1000) : ∀ (d i k : Nat), i + d = l.length → d < k → staithref01_Ints.l0 k l l (l.length : Int) i = some true := by
  intro d
  induction d with
  | zero =>
    intro i k hi hk
    obtain ⟨k, rfl⟩ : ∃ q, k = q + 1 := ⟨k - 1, by omega⟩
    simp only [staithref01_Ints.l0]
    rw [if_neg (by omega)]
  | succ d ih =>
    intro i k hi hk
    obtain ⟨k, rfl⟩ : ∃ q, k = q + 1 := ⟨k - 1, by omega⟩
    simp only [staithref01_Ints.l0]
    have hw : wrap64 ((i : Int) + 1) = ((i + 1 : Nat) : Int) := by unfold wrap64; omega
    rw [if_pos (by omega), if_pos (by omega), if_pos (by omega), hw]
    simp only [if_true]
    rw [if_pos (by omega)]
    exact ih (i + 1) k (by omega) (by omega)
theorem refInts (l : List Int) (hl : l.length ≤ 1000) : staithref01_Ints.f 1001 l l = some true := by
  unfold staithref01_Ints.f
  rw [if_pos rfl]
  exact refInts_l0 l hl l.length 0 1001 (by omega) (by omega)
end Go.Proofs.YthcedodfedfkgaaDoor.maskLists
