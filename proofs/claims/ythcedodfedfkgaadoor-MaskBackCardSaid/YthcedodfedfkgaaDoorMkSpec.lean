/- The functions of package mask on numbers, by their bits; and small facts for the laws' walks. -/
import Derived.Test.YthcedodfedfkgaaDoorMkFns2
import Derived.OpenShut
namespace Go.Proofs.YthcedodfedfkgaaDoor
open Go.RowKit Go.Shelf

theorem nat_of_u64 {a : Int} (h : (Lit.int .u64 a).wf = true) : ∃ m : Nat, a = m ∧ m < 18446744073709551616 := by
  have := bounds_u64 h
  exact ⟨a.toNat, by omega, by omega⟩

def hasB (m : Nat) (n : Int) : Bool := decide (0 ≤ n) && (decide (n < 64) && m.testBit n.toNat)
def withoutN (m : Nat) (n : Int) : Nat := m &&& (18446744073709551615 - oneN n)
def withN (m : Nat) (n : Int) : Nat := m ||| oneN n

theorem testBit_ge {m : Nat} (hm : m < 18446744073709551616) {i : Nat} (hi : 64 ≤ i) : m.testBit i = false :=
  Nat.testBit_lt_two_pow (Nat.lt_of_lt_of_le hm (by have := Nat.pow_le_pow_right (n := 2) (by omega) hi; omega))
theorem oneN_bit (n : Int) (i : Nat) : (oneN n).testBit i = (decide (0 ≤ n) && (decide (n < 64) && decide (i = n.toNat))) := by
  unfold oneN
  by_cases h : n < 0 ∨ 63 < n
  · rw [if_pos h]
    have : (decide (0 ≤ n) && (decide (n < 64) && decide (i = n.toNat))) = false := by
      rcases h with h | h
      · simp [show ¬ 0 ≤ n from by omega]
      · simp [show ¬ n < 64 from by omega]
    rw [this]; simp
  · rw [if_neg h, Nat.testBit_two_pow]
    simp [show 0 ≤ n from by omega, show n < 64 from by omega, eq_comm]
theorem compl_bit (x : Nat) (hx : x < 18446744073709551616) (i : Nat) : (18446744073709551615 - x).testBit i = (decide (i < 64) && !x.testBit i) := by
  have h1 := Nat.testBit_two_pow_sub_succ (x := x) (n := 64) (by simpa using hx) i
  rw [show (2 : Nat) ^ 64 - (x + 1) = 18446744073709551615 - x from by omega] at h1
  exact h1
theorem withN_bit (m : Nat) (n : Int) (i : Nat) : (withN m n).testBit i = (m.testBit i || (oneN n).testBit i) := Nat.testBit_or _ _ _
theorem withoutN_bit (m : Nat) (hm : m < 18446744073709551616) (n : Int) (i : Nat) : (withoutN m n).testBit i = (m.testBit i && !(oneN n).testBit i) := by
  unfold withoutN
  rw [Nat.testBit_and, compl_bit _ (oneN_lt n)]
  by_cases hi : i < 64
  · simp [hi]
  · simp [testBit_ge hm (by omega : 64 ≤ i)]
theorem withN_lt (m : Nat) (n : Int) (hm : m < 18446744073709551616) : withN m n < 18446744073709551616 := or_lt hm (oneN_lt n)
theorem withoutN_lt (m : Nat) (n : Int) (hm : m < 18446744073709551616) : withoutN m n < 18446744073709551616 := Nat.lt_of_le_of_lt Nat.and_le_left hm
theorem bits_ext {a b : Nat} (h : ∀ i, a.testBit i = b.testBit i) : a = b := Nat.eq_of_testBit_eq h

theorem and_one_ne (m : Nat) (n : Int) (hm : m < 18446744073709551616) : (bits BinOp.and .u64 (m : Int) (oneN n) != 0) = hasB m n := by
  rw [bits_and_u64_nat m _ hm (oneN_lt n)]
  unfold hasB
  by_cases h0 : 0 ≤ n
  · by_cases h1 : n < 64
    · have e : m &&& oneN n = if m.testBit n.toNat then 2 ^ n.toNat else 0 := by
        apply bits_ext
        intro i
        rw [Nat.testBit_and, oneN_bit]
        by_cases hi : i = n.toNat
        · subst hi
          by_cases hb : m.testBit n.toNat = true
          · simp [hb, h0, h1]
          · have hb' : m.testBit n.toNat = false := by simpa using hb
            simp [hb']
        · by_cases hb : m.testBit n.toNat = true
          · simp [hb, hi, Ne.symm hi]
          · have hb' : m.testBit n.toNat = false := by simpa using hb
            simp [hb', hi]
      rw [e]
      have hp := Nat.two_pow_pos n.toNat
      by_cases hb : m.testBit n.toNat = true
      · rw [if_pos hb, show (decide (0 ≤ n) && (decide (n < 64) && m.testBit n.toNat)) = true from by simp [hb, h0, h1]]
        generalize 2 ^ n.toNat = q at hp
        exact bne_iff_ne.2 (by omega)
      · have hb' : m.testBit n.toNat = false := by simpa using hb
        simp [hb', h0, h1]
    · have : oneN n = 0 := if_pos (by omega)
      simp [this, h1]
  · have : oneN n = 0 := if_pos (by omega)
    simp [this, h0]

theorem has_nat (m : Nat) (n : Int) (hm : m < 18446744073709551616) (w : World) : Calls Tryd.prog 16 #[.int .u64 m, .int .i64 n] w fun e w' => e = .returned (.bool (hasB m n)) ∧ w = w' := by
  refine (has_any m n w).mono ?_
  rintro e w' ⟨rfl, rfl⟩
  rw [and_one_ne m n hm]
  exact ⟨rfl, rfl⟩
theorem andNot_u64_nat (a b : Nat) (ha : a < 18446744073709551616) (hb : b < 18446744073709551616) : bits .andNot .u64 (a : Int) (b : Int) = ((a &&& (18446744073709551615 - b) : Nat) : Int) := by
  have h : ∀ a : Nat, a < 18446744073709551616 → (BitVec.ofInt 64 (a : Int)).toNat = a := fun a ha => by
    rw [BitVec.ofInt_natCast, BitVec.toNat_ofNat]; exact Nat.mod_eq_of_lt (by omega)
  show IntKind.u64.wrap ((BitVec.ofInt 64 (a : Int) &&& ~~~BitVec.ofInt 64 (b : Int)).toNat : Int) = _
  rw [BitVec.toNat_and, h a ha, BitVec.toNat_not, h b hb]
  exact wrapN (Nat.lt_of_le_of_lt Nat.and_le_left ha)
theorem without_nat (m : Nat) (n : Int) (hm : m < 18446744073709551616) (w : World) : Calls Tryd.prog 15 #[.int .u64 m, .int .i64 n] w fun e w' => e = .returned (.int .u64 (withoutN m n)) ∧ w = w' := by
  refine (without_any m n w).mono ?_
  rintro e w' ⟨rfl, rfl⟩
  rw [andNot_u64_nat m _ hm (oneN_lt n)]
  exact ⟨rfl, rfl⟩
theorem with_natB (m : Nat) (n : Int) (hm : m < 18446744073709551616) (w : World) : Calls Tryd.prog 14 #[.int .u64 m, .int .i64 n] w fun e w' => e = .returned (.int .u64 (withN m n)) ∧ Below w.heap.size w w' := by
  refine (with_nat m n hm w).mono ?_
  rintro e w' ⟨rfl, rfl⟩
  exact ⟨rfl, (Below.refl _ w).alloc (Nat.le_refl _) _⟩
theorem belowN_bit (n : Int) (i : Nat) : (belowN n).testBit i = (decide ((i : Int) < n) && decide (i < 64)) := by
  unfold belowN
  split
  · rename_i h
    have := Nat.testBit_two_pow_sub_one 64 i
    rw [show (2 : Nat) ^ 64 - 1 = 18446744073709551615 from by omega] at this
    rw [this]
    by_cases hi : i < 64
    · simp [hi]; omega
    · simp [hi]
  · rename_i h
    rw [Nat.testBit_two_pow_sub_one]
    by_cases hi : i < n.toNat
    · simp [hi, show (i : Int) < n from by omega, show i < 64 from by omega]
    · simp [hi, show ¬ (i : Int) < n from by omega]
theorem slideN_right_bit (m k i : Nat) : (slideN m (k : Int)).testBit i = m.testBit (k + i) := by
  unfold slideN
  rw [if_neg (by omega), show ((k : Int)).toNat = k from by omega, Nat.testBit_div_two_pow, Nat.add_comm]

end Go.Proofs.YthcedodfedfkgaaDoor
