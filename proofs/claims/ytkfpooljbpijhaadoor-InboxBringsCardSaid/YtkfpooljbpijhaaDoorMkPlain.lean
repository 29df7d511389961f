/- Plain facts on the bits of a number below 2^64: no program in sight. -/
import Derived.Lib.TrailingZeros
set_option linter.unusedVariables false
set_option linter.unusedSimpArgs false
namespace Go.Proofs.YtkfpooljbpijhaaDoor.Bt
open Go

/-- The numbers of a set, rising. -/
def bitsL (m : Nat) : List Nat := (List.range 64).filter fun i => m.testBit i

theorem filter_cons_range (p q : Nat → Bool) (n k : Nat) (hk : k < n) (hlo : ∀ i, i < k → p i = false) (hp : p k = true)
    (hhi : ∀ i, k < i → p i = q i) (hq : ∀ i, i ≤ k → q i = false) : (List.range n).filter p = k :: (List.range n).filter q := by
  obtain ⟨d, rfl⟩ : ∃ d, n = k + (1 + d) := ⟨n - k - 1, by omega⟩
  have e0 : List.range (k + (1 + d)) = List.range k ++ ([k] ++ (List.range d).map (fun i => k + (1 + i))) := by
    rw [List.range_add, Nat.add_comm 1 d, List.range_succ_eq_map]
    simp [Function.comp_def, Nat.add_comm]
  have e : ∀ r : Nat → Bool, (List.range (k + (1 + d))).filter r = (List.range k).filter r ++ ([k].filter r ++ ((List.range d).map (fun i => k + (1 + i))).filter r) := by
    intro r
    rw [e0, List.filter_append, List.filter_append]
  rw [e p, e q]
  have h1 : (List.range k).filter p = [] := List.filter_eq_nil_iff.2 fun i hi => by simp [hlo i (List.mem_range.1 hi)]
  have h2 : (List.range k).filter q = [] := List.filter_eq_nil_iff.2 fun i hi => by simp [hq i (Nat.le_of_lt (List.mem_range.1 hi))]
  rw [h1, h2]
  simp only [List.filter_cons, hp, hq k (Nat.le_refl _), List.filter_nil, List.nil_append, if_true]
  simp only [Bool.false_eq_true, if_false, List.nil_append, List.cons_append]
  congr 1
  apply List.filter_congr
  intro i hi
  obtain ⟨j, _, rfl⟩ := List.mem_map.1 hi
  exact hhi _ (by omega)

theorem testBit_two_pow_mul' (k j i : Nat) : (2 ^ k * j).testBit i = (decide (k ≤ i) && j.testBit (i - k)) := by
  rw [Nat.testBit_two_pow_mul]

theorem drop_low (k j : Nat) : (2 ^ k * (2 * j + 1)) &&& (2 ^ k * (2 * j + 1) - 1) = 2 ^ k * (2 * j) := by
  apply Nat.eq_of_testBit_eq
  intro i
  have hpos : 0 < 2 ^ k := Nat.two_pow_pos k
  have e : 2 ^ k * (2 * j + 1) - 1 = 2 ^ k * (2 * j) + (2 ^ k - 1) := by rw [Nat.mul_add, Nat.mul_one]; omega
  rw [Nat.testBit_and, e, testBit_two_pow_mul', testBit_two_pow_mul']
  rw [Nat.testBit_two_pow_mul_add _ (by omega)]
  by_cases h : i < k
  · rw [if_pos h]; simp [show ¬ k ≤ i from by omega]
  · rw [if_neg h]
    have hk : k ≤ i := by omega
    simp only [hk, decide_true, Bool.true_and]
    rcases Nat.eq_zero_or_pos (i - k) with h0 | h0
    · rw [h0]; simp
    · obtain ⟨t, ht⟩ : ∃ t, i - k = t + 1 := ⟨i - k - 1, by omega⟩
      rw [ht, Nat.testBit_succ, Nat.testBit_succ]
      rw [show (2 * j + 1) / 2 = j from by omega, show 2 * j / 2 = j from by omega, Bool.and_self]

/-- The lowest one goes. -/
theorem bitsL_step (x : Nat) (h0 : x ≠ 0) (h : x < 18446744073709551616) :
    bitsL x = Lib.ctz 64 x :: bitsL (x &&& (x - 1)) ∧ Lib.ctz 64 x < 64 ∧ (x &&& (x - 1)) < x := by
  obtain ⟨j, hj, hk⟩ := Lib.ctzFrom_spec 64 x (by omega) (by simpa using h)
  have hc : Lib.ctz 64 x = Lib.ctzFrom 64 x := by simp [Lib.ctz, h0]
  rw [hc]
  generalize Lib.ctzFrom 64 x = k at hj hk
  subst hj
  rw [drop_low]
  have hpos : 0 < 2 ^ k := Nat.two_pow_pos k
  refine ⟨?_, hk, ?_⟩
  · apply filter_cons_range _ _ _ _ hk
    · intro i hi; rw [testBit_two_pow_mul']; simp [show ¬ k ≤ i from by omega]
    · rw [testBit_two_pow_mul']; simp
    · intro i hi
      rw [testBit_two_pow_mul', testBit_two_pow_mul']
      obtain ⟨t, ht⟩ : ∃ t, i - k = t + 1 := ⟨i - k - 1, by omega⟩
      rw [ht, Nat.testBit_succ, Nat.testBit_succ, show (2 * j + 1) / 2 = j from by omega, show 2 * j / 2 = j from by omega]
    · intro i hi
      rw [testBit_two_pow_mul']
      by_cases h : k ≤ i
      · have : i - k = 0 := by omega
        rw [this]; simp
      · simp [h]
  · rw [Nat.mul_add, Nat.mul_one]; omega

theorem bitsL_zero : bitsL 0 = [] := by decide

theorem mem_bitsL {m i : Nat} : i ∈ bitsL m ↔ i < 64 ∧ m.testBit i = true := by simp [bitsL]
theorem bitsL_length (m : Nat) : (bitsL m).length ≤ 64 := by
  have := List.length_filter_le (fun i => m.testBit i) (List.range 64)
  simpa [bitsL] using this

end Go.Proofs.YtkfpooljbpijhaaDoor.Bt
