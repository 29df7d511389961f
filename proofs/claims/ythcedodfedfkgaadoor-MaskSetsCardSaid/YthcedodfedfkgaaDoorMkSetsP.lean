/- MaskSets, plain: what the references (in numbers) come to. -/
import Derived.Test.YthcedodfedfkgaaDoorMkSpec
import Derived.Test.YthcedodfedfkgaaDoorPMaskSetsx1
namespace Go.Proofs.YthcedodfedfkgaaDoor.maskSets
open Go.RowKit Go.Proofs.YthcedodfedfkgaaDoorW.PrintWords Go.Proofs.YthcedodfedfkgaaDoorW.PrintLast Go.Proofs.YthcedodfedfkgaaDoorW.PrintMore Go.Proofs.YthcedodfedfkgaaDoor.PMaskSets

theorem shr_bit (m : Nat) (n : Int) (h0 : 0 ≤ n) (h1 : n < 64) (hm : m < 18446744073709551616) : (Go.bits .and .u64 (shr .u64 m (IntKind.u64.wrap n)) 1 == 1) = m.testBit n.toNat := by
  have e : IntKind.u64.wrap n = n := by rw [IntKind.wrap_u64]; omega
  rw [e]
  unfold shr
  rw [show min n.toNat IntKind.u64.bits = n.toNat from Nat.min_eq_left (by show n.toNat ≤ 64; omega)]
  have e2 : (m : Int) / 2 ^ n.toNat = ((m / 2 ^ n.toNat : Nat) : Int) := by simp
  have hlt : m / 2 ^ n.toNat < 18446744073709551616 := Nat.lt_of_le_of_lt (Nat.div_le_self _ _) hm
  rw [e2]
  have h := bits_and_u64_nat (m / 2 ^ n.toNat) 1 hlt (by omega)
  rw [show ((1 : Nat) : Int) = 1 from rfl] at h
  rw [h, Nat.and_one_is_mod, Nat.testBit_eq_decide_div_mod_eq]
  rw [Bool.eq_iff_iff]
  simp
  omega
theorem refHas (m : Nat) (n : Int) (hm : m < 18446744073709551616) : staithref02_Has.f m n = some (hasB m n) := by
  unfold staithref02_Has.f hasB
  by_cases h0 : 0 ≤ n
  · rw [if_pos h0]
    by_cases h1 : n < 64
    · rw [if_pos h1, if_pos (by rw [IntKind.wrap_u64]; omega), shr_bit m n h0 h1 hm]; simp [h0, h1]
    · rw [if_neg h1]; simp [h1]
  · rw [if_neg h0]; simp [h0]
theorem refWith (m : Nat) (n : Int) (hm : m < 18446744073709551616) : staithref02_With.f m n = some ((withN m n : Nat) : Int) := by
  unfold staithref02_With.f withN oneN
  by_cases h0 : n < 0
  · rw [if_pos h0, if_pos (.inl h0), Nat.or_zero]
  · rw [if_neg h0]
    by_cases h1 : n > 63
    · rw [if_pos h1, if_pos (.inr h1), Nat.or_zero]
    · rw [if_neg h1, if_pos (by rw [IntKind.wrap_u64]; omega), if_neg (by omega)]
      have e : shl .u64 1 (IntKind.u64.wrap n) = ((2 ^ n.toNat : Nat) : Int) := by
        unfold shl
        rw [show IntKind.u64.wrap n = n from by rw [IntKind.wrap_u64]; omega, show min n.toNat IntKind.u64.bits = n.toNat from Nat.min_eq_left (by show n.toNat ≤ 64; omega), Int.one_mul]
        exact wrap_pow n (by omega)
      have hlt : 2 ^ n.toNat < 18446744073709551616 := by
        have : 2 ^ n.toNat ≤ 2 ^ 63 := Nat.pow_le_pow_right (by omega) (by omega)
        omega
      rw [e, bits_or_u64_nat m _ hm hlt]
theorem refList_l0 (m : Nat) (hm : m < 18446744073709551616) : ∀ (d i k : Nat), i + d = 64 → d < k →
    staithref02_List.l0 k m (((List.range i).filter fun j => m.testBit j).map fun j : Nat => (j : Int)) i = some ((Bt.bitsL m).map fun j : Nat => (j : Int)) := by
  intro d
  induction d with
  | zero =>
    intro i k hi hk
    obtain ⟨k, rfl⟩ : ∃ q, k = q + 1 := ⟨k - 1, by omega⟩
    have : i = 64 := by omega
    subst this
    simp only [staithref02_List.l0]
    rw [if_neg (by omega)]
    rfl
  | succ d ih =>
    intro i k hi hk
    obtain ⟨k, rfl⟩ : ∃ q, k = q + 1 := ⟨k - 1, by omega⟩
    simp only [staithref02_List.l0]
    rw [if_pos (by omega), refHas m i hm]
    simp only [Option.bind_some]
    have hb : hasB m i = m.testBit i := by
      unfold hasB
      simp [show (i : Int) < 64 from by omega]
    have hw : wrap64 ((i : Int) + 1) = ((i + 1 : Nat) : Int) := by unfold wrap64; omega
    have hlen : (((List.range i).filter fun j => m.testBit j).map fun j : Nat => (j : Int)).length ≤ 64 := by
      rw [List.length_map]
      have := List.length_filter_le (fun j => m.testBit j) (List.range i)
      rw [List.length_range] at this
      omega
    have hnext := ih (i + 1) k (by omega) (by omega)
    rw [List.range_succ, List.filter_append, List.map_append] at hnext
    rw [hb, hw]
    by_cases ht : m.testBit i = true
    · rw [if_pos ht, if_pos (by omega)]
      simpa [ht] using hnext
    · rw [if_neg ht]
      have ht' : m.testBit i = false := by simpa using ht
      simpa [ht'] using hnext
theorem refList (m : Nat) (hm : m < 18446744073709551616) (k : Nat) (hk : 64 < k) : staithref02_List.f k m = some ((Bt.bitsL m).map fun j : Nat => (j : Int)) :=
  refList_l0 m hm 64 0 k rfl hk

/-- The set of a list of small numbers. -/
def setL (a : Nat) (l : List Nat) : Nat := l.foldl (fun a (j : Nat) => withN a (j : Int)) a
theorem setL_lt (l : List Nat) : ∀ a, a < 18446744073709551616 → setL a l < 18446744073709551616 := by
  induction l with
  | nil => exact fun a h => h
  | cons x l ih => exact fun a h => ih _ (withN_lt a x h)
theorem setL_bit (l : List Nat) : (∀ j ∈ l, j < 64) → ∀ a i, (setL a l).testBit i = (a.testBit i || decide (i ∈ l)) := by
  induction l with
  | nil => intro _ a i; simp [setL]
  | cons x l ih =>
    intro h a i
    have := ih (fun j hj => h j (by simp [hj])) (withN a x) i
    rw [show setL a (x :: l) = setL (withN a x) l from rfl, this, withN_bit, oneN_bit]
    have hx := h x (by simp)
    simp [show (x : Int) < 64 from by omega, Bool.or_assoc]
theorem setL_bitsL (m : Nat) (hm : m < 18446744073709551616) : setL 0 (Bt.bitsL m) = m := by
  apply bits_ext
  intro i
  rw [setL_bit _ (fun j hj => (Bt.mem_bitsL.1 hj).1)]
  by_cases hi : i < 64
  · simp [Bt.mem_bitsL, hi]
  · simp [Bt.mem_bitsL, hi, testBit_ge hm (by omega : 64 ≤ i)]

theorem refWithout_l0 (n : Int) (L : List Nat) (hL : L.length ≤ 64) : ∀ (d i k a : Nat), i + d = L.length → d < k → a < 18446744073709551616 →
    staithref02_Without.l0 k n a (L.map fun j : Nat => (j : Int)) (L.length : Int) i = some ((setL a ((L.drop i).filter fun j => decide ((j : Int) ≠ n)) : Nat) : Int) := by
  intro d
  induction d with
  | zero =>
    intro i k a hi hk ha
    obtain ⟨k, rfl⟩ : ∃ q, k = q + 1 := ⟨k - 1, by omega⟩
    simp only [staithref02_Without.l0]
    rw [if_neg (by omega), List.drop_of_length_le (by omega)]
    rfl
  | succ d ih =>
    intro i k a hi hk ha
    obtain ⟨k, rfl⟩ : ∃ q, k = q + 1 := ⟨k - 1, by omega⟩
    simp only [staithref02_Without.l0]
    have hil : i < L.length := by omega
    have hw : wrap64 ((i : Int) + 1) = ((i + 1 : Nat) : Int) := by unfold wrap64; omega
    have hrd : rd (L.map fun j : Nat => (j : Int)) i = (L[i] : Int) := by simp [rd, hil]
    rw [if_pos (by omega), if_pos (by omega), if_pos (by simp; omega), hrd, hw]
    rw [List.drop_eq_getElem_cons hil, List.filter_cons]
    by_cases he : (L[i] : Int) = n
    · rw [if_pos he, ih (i + 1) k a (by omega) (by omega) ha, if_neg (by simpa using he)]
    · rw [if_neg he, refWith a _ ha]
      simp only [Option.bind_some]
      rw [ih (i + 1) k _ (by omega) (by omega) (withN_lt a _ ha), if_pos (by simpa using he)]
      rfl
theorem refWithout (m : Nat) (n : Int) (hm : m < 18446744073709551616) : staithref02_Without.f 100 m n = some ((withoutN m n : Nat) : Int) := by
  unfold staithref02_Without.f
  rw [refList m hm 100 (by omega)]
  simp only [Option.bind_some, List.length_map]
  have h := refWithout_l0 n (Bt.bitsL m) (Bt.bitsL_length m) (Bt.bitsL m).length 0 100 0 (by omega) (by have := Bt.bitsL_length m; omega) (by omega)
  rw [show ((0 : Nat) : Int) = 0 from rfl] at h
  rw [h]
  congr 2
  apply bits_ext
  intro i
  rw [setL_bit _ (fun j hj => (Bt.mem_bitsL.1 (List.mem_of_mem_drop (List.mem_filter.1 hj).1)).1), withoutN_bit m hm, oneN_bit]
  by_cases hi : i < 64
  · by_cases hb : m.testBit i = true
    · rw [Bool.eq_iff_iff]
      simp [Bt.mem_bitsL, hi, hb]
      omega
    · have hb' : m.testBit i = false := by simpa using hb
      simp [Bt.mem_bitsL, hb']
  · simp [Bt.mem_bitsL, hi, testBit_ge hm (by omega : 64 ≤ i)]

theorem refBelow_l0 (n : Int) : ∀ (d i k a : Nat), i + d = 64 → d < k → a < 18446744073709551616 → (∀ j, a.testBit j = (decide (j < i) && decide ((j : Int) < n))) →
    ∃ b : Nat, staithref02_Below.l0 k n a i = some (b : Int) ∧ ∀ j, b.testBit j = (decide ((j : Int) < n) && decide (j < 64)) := by
  intro d
  induction d with
  | zero =>
    intro i k a hi hk ha hb
    obtain ⟨k, rfl⟩ : ∃ q, k = q + 1 := ⟨k - 1, by omega⟩
    simp only [staithref02_Below.l0]
    rw [if_neg (by omega)]
    have : i = 64 := by omega
    subst this
    exact ⟨a, rfl, fun j => by rw [hb j, Bool.and_comm]⟩
  | succ d ih =>
    intro i k a hi hk ha hb
    obtain ⟨k, rfl⟩ : ∃ q, k = q + 1 := ⟨k - 1, by omega⟩
    simp only [staithref02_Below.l0]
    have hw : wrap64 ((i : Int) + 1) = ((i + 1 : Nat) : Int) := by unfold wrap64; omega
    rw [if_pos (by omega)]
    by_cases h : (i : Int) < n
    · rw [if_pos h, refWith a i ha]
      simp only [Option.bind_some]
      rw [hw]
      refine ih (i + 1) k _ (by omega) (by omega) (withN_lt a i ha) (fun j => ?_)
      rw [withN_bit, oneN_bit, hb j]
      by_cases hj : j = i
      · subst hj; simp [h]; omega
      · rw [Bool.eq_iff_iff]; simp; omega
    · rw [if_neg h]
      refine ⟨a, rfl, fun j => ?_⟩
      rw [hb j, Bool.eq_iff_iff]; simp; omega
theorem refBelow (n : Int) : staithref02_Below.f 100 n = some ((belowN n : Nat) : Int) := by
  obtain ⟨b, h1, h2⟩ := refBelow_l0 n 64 0 100 0 rfl (by omega) (by omega) (fun j => by simp)
  unfold staithref02_Below.f
  rw [show ((0 : Nat) : Int) = 0 from rfl] at h1
  rw [h1]
  congr 2
  apply bits_ext
  intro i
  rw [h2, belowN_bit]
end Go.Proofs.YthcedodfedfkgaaDoor.maskSets
