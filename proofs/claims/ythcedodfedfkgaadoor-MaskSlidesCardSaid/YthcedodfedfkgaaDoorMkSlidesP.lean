/- MaskSlides, plain: what the references (in numbers) come to. -/
import Derived.Test.YthcedodfedfkgaaDoorMkSpec
import Derived.Test.YthcedodfedfkgaaDoorPMaskSlidesx1
namespace Go.Proofs.YthcedodfedfkgaaDoor.maskSlides
open Go.RowKit Go.Proofs.YthcedodfedfkgaaDoorW.PrintWords Go.Proofs.YthcedodfedfkgaaDoorW.PrintLast Go.Proofs.YthcedodfedfkgaaDoorW.PrintMore Go.Proofs.YthcedodfedfkgaaDoor.PMaskSlides

theorem shr_bit (m : Nat) (n : Int) (h0 : 0 ≤ n) (h1 : n < 64) (hm : m < 18446744073709551616) : (Go.bits .and .u64 (shr .u64 m (IntKind.u64.wrap n)) 1 == 1) = m.testBit n.toNat := by
  have e : IntKind.u64.wrap n = n := by rw [IntKind.wrap_u64]; omega
  rw [e]
  unfold shr
  rw [show min n.toNat IntKind.u64.bits = n.toNat from Nat.min_eq_left (by show n.toNat ≤ 64; omega)]
  have e2 : (m : Int) / 2 ^ n.toNat = ((m / 2 ^ n.toNat : Nat) : Int) := by simp
  have hlt : m / 2 ^ n.toNat < 18446744073709551616 := Nat.lt_of_le_of_lt (Nat.div_le_self _ _) hm
  rw [e2]
  have h := bits_and_u64_nat (m / 2 ^ n.toNat) 1 hlt (by omega)
  rw [show ((1 : Nat) : Int) = 1 from rfl] at h
  rw [h, Nat.and_one_is_mod, Nat.testBit_eq_decide_div_mod_eq]
  rw [Bool.eq_iff_iff]
  simp
  omega
theorem refHas (m : Nat) (n : Int) (hm : m < 18446744073709551616) : staithref02_Has.f m n = some (hasB m n) := by
  unfold staithref02_Has.f hasB
  by_cases h0 : 0 ≤ n
  · rw [if_pos h0]
    by_cases h1 : n < 64
    · rw [if_pos h1, if_pos (by rw [IntKind.wrap_u64]; omega), shr_bit m n h0 h1 hm]; simp [h0, h1]
    · rw [if_neg h1]; simp [h1]
  · rw [if_neg h0]; simp [h0]
theorem refWith (m : Nat) (n : Int) (hm : m < 18446744073709551616) : staithref02_With.f m n = some ((withN m n : Nat) : Int) := by
  unfold staithref02_With.f withN oneN
  by_cases h0 : n < 0
  · rw [if_pos h0, if_pos (.inl h0), Nat.or_zero]
  · rw [if_neg h0]
    by_cases h1 : n > 63
    · rw [if_pos h1, if_pos (.inr h1), Nat.or_zero]
    · rw [if_neg h1, if_pos (by rw [IntKind.wrap_u64]; omega), if_neg (by omega)]
      have e : shl .u64 1 (IntKind.u64.wrap n) = ((2 ^ n.toNat : Nat) : Int) := by
        unfold shl
        rw [show IntKind.u64.wrap n = n from by rw [IntKind.wrap_u64]; omega, show min n.toNat IntKind.u64.bits = n.toNat from Nat.min_eq_left (by show n.toNat ≤ 64; omega), Int.one_mul]
        exact wrap_pow n (by omega)
      have hlt : 2 ^ n.toNat < 18446744073709551616 := by
        have : 2 ^ n.toNat ≤ 2 ^ 63 := Nat.pow_le_pow_right (by omega) (by omega)
        omega
      rw [e, bits_or_u64_nat m _ hm hlt]
theorem refList_l0 (m : Nat) (hm : m < 18446744073709551616) : ∀ (d i k : Nat), i + d = 64 → d < k →
    staithref02_List.l0 k m (((List.range i).filter fun j => m.testBit j).map fun j : Nat => (j : Int)) i = some ((Bt.bitsL m).map fun j : Nat => (j : Int)) := by
  intro d
  induction d with
  | zero =>
    intro i k hi hk
    obtain ⟨k, rfl⟩ : ∃ q, k = q + 1 := ⟨k - 1, by omega⟩
    have : i = 64 := by omega
    subst this
    simp only [staithref02_List.l0]
    rw [if_neg (by omega)]
    rfl
  | succ d ih =>
    intro i k hi hk
    obtain ⟨k, rfl⟩ : ∃ q, k = q + 1 := ⟨k - 1, by omega⟩
    simp only [staithref02_List.l0]
    rw [if_pos (by omega), refHas m i hm]
    simp only [Option.bind_some]
    have hb : hasB m i = m.testBit i := by
      unfold hasB
      simp [show (i : Int) < 64 from by omega]
    have hw : wrap64 ((i : Int) + 1) = ((i + 1 : Nat) : Int) := by unfold wrap64; omega
    have hlen : (((List.range i).filter fun j => m.testBit j).map fun j : Nat => (j : Int)).length ≤ 64 := by
      rw [List.length_map]
      have := List.length_filter_le (fun j => m.testBit j) (List.range i)
      rw [List.length_range] at this
      omega
    have hnext := ih (i + 1) k (by omega) (by omega)
    rw [List.range_succ, List.filter_append, List.map_append] at hnext
    rw [hb, hw]
    by_cases ht : m.testBit i = true
    · rw [if_pos ht, if_pos (by omega)]
      simpa [ht] using hnext
    · rw [if_neg ht]
      have ht' : m.testBit i = false := by simpa using ht
      simpa [ht'] using hnext
theorem refList (m : Nat) (hm : m < 18446744073709551616) (k : Nat) (hk : 64 < k) : staithref02_List.f k m = some ((Bt.bitsL m).map fun j : Nat => (j : Int)) :=
  refList_l0 m hm 64 0 k rfl hk

/-- The set of a list of numbers, any of them. -/
def setI (a : Nat) (l : List Int) : Nat := l.foldl (fun a (j : Int) => withN a j) a
theorem setI_lt (l : List Int) : ∀ a, a < 18446744073709551616 → setI a l < 18446744073709551616 := by
  induction l with
  | nil => exact fun a h => h
  | cons x l ih => exact fun a h => ih _ (withN_lt a x h)
theorem setI_bit (l : List Int) : ∀ a i, (setI a l).testBit i = (a.testBit i || l.any fun x => (oneN x).testBit i) := by
  induction l with
  | nil => intro a i; simp [setI]
  | cons x l ih =>
    intro a i
    rw [show setI a (x :: l) = setI (withN a x) l from rfl, ih, withN_bit, List.any_cons, Bool.or_assoc]
theorem ofL_setI (l : List Int) : ofL l = setI 0 l := rfl

theorem refOf_l0 (L : List Int) (hL : L.length ≤ 1000) : ∀ (d i k a : Nat), i + d = L.length → d < k → a < 18446744073709551616 →
    staithref02_Of.l0 k a L (L.length : Int) i = some ((setI a (L.drop i) : Nat) : Int) := by
  intro d
  induction d with
  | zero =>
    intro i k a hi hk ha
    obtain ⟨k, rfl⟩ : ∃ q, k = q + 1 := ⟨k - 1, by omega⟩
    simp only [staithref02_Of.l0]
    rw [if_neg (by omega), List.drop_of_length_le (by omega)]
    rfl
  | succ d ih =>
    intro i k a hi hk ha
    obtain ⟨k, rfl⟩ : ∃ q, k = q + 1 := ⟨k - 1, by omega⟩
    simp only [staithref02_Of.l0]
    have hil : i < L.length := by omega
    have hw : wrap64 ((i : Int) + 1) = ((i + 1 : Nat) : Int) := by unfold wrap64; omega
    have hrd : rd L i = L[i] := by simp [rd, hil]
    rw [if_pos (by omega), if_pos (by omega), if_pos (by omega), hrd, hw, refWith a _ ha]
    simp only [Option.bind_some]
    rw [List.drop_eq_getElem_cons hil, ih (i + 1) k _ (by omega) (by omega) (withN_lt a _ ha)]
    rfl
theorem refOf (L : List Int) (hL : L.length ≤ 1000) : staithref02_Of.f 1001 L = some ((ofL L : Nat) : Int) :=
  refOf_l0 L hL L.length 0 1001 0 (by omega) (by omega) (by omega)

theorem refSlide_l0 (n : Int) (hn1 : -64 ≤ n) (hn2 : n ≤ 64) (L : List Nat) (hL : L.length ≤ 64) (hl : ∀ j ∈ L, j < 64) : ∀ (d i k a : Nat), i + d = L.length → d < k → a < 18446744073709551616 →
    staithref02_Slide.l0 k n a (L.map fun j : Nat => (j : Int)) (L.length : Int) i = some ((setI a ((L.drop i).map fun j : Nat => (j : Int) - n) : Nat) : Int) := by
  intro d
  induction d with
  | zero =>
    intro i k a hi hk ha
    obtain ⟨k, rfl⟩ : ∃ q, k = q + 1 := ⟨k - 1, by omega⟩
    simp only [staithref02_Slide.l0]
    rw [if_neg (by omega), List.drop_of_length_le (by omega)]
    rfl
  | succ d ih =>
    intro i k a hi hk ha
    obtain ⟨k, rfl⟩ : ∃ q, k = q + 1 := ⟨k - 1, by omega⟩
    simp only [staithref02_Slide.l0]
    have hil : i < L.length := by omega
    have hw : wrap64 ((i : Int) + 1) = ((i + 1 : Nat) : Int) := by unfold wrap64; omega
    have hrd : rd (L.map fun j : Nat => (j : Int)) i = (L[i] : Int) := by simp [rd, hil]
    have hlt : L[i] < 64 := hl _ (List.getElem_mem hil)
    have hw2 : wrap64 ((L[i] : Int) - n) = (L[i] : Int) - n := by unfold wrap64; omega
    rw [if_pos (by omega), if_pos (by omega), if_pos (by simp; omega), hrd, hw, hw2, refWith a _ ha]
    simp only [Option.bind_some]
    rw [List.drop_eq_getElem_cons hil, ih (i + 1) k _ (by omega) (by omega) (withN_lt a _ ha)]
    rfl
theorem slideN_bit_right (m : Nat) (n : Int) (hn : 0 ≤ n) (i : Nat) : (slideN m n).testBit i = m.testBit (n.toNat + i) := by
  unfold slideN
  rw [if_neg (by omega), Nat.testBit_div_two_pow, Nat.add_comm]
theorem slideN_bit_left (m : Nat) (n : Int) (hn : n < 0) (i : Nat) : (slideN m n).testBit i = (decide (i < 64) && (decide ((-n).toNat ≤ i) && m.testBit (i - (-n).toNat))) := by
  unfold slideN
  rw [if_pos hn, show (18446744073709551616 : Nat) = 2 ^ 64 from rfl, Nat.testBit_mod_two_pow, Nat.mul_comm, Nat.testBit_two_pow_mul]
theorem set_slide (m : Nat) (n : Int) (hm : m < 18446744073709551616) : setI 0 ((Bt.bitsL m).map fun j : Nat => (j : Int) - n) = slideN m n := by
  apply bits_ext
  intro i
  rw [setI_bit, Nat.zero_testBit, Bool.false_or, Bool.eq_iff_iff, List.any_eq_true]
  constructor
  · rintro ⟨x, hx, hb⟩
    obtain ⟨j, hj, rfl⟩ := List.mem_map.1 hx
    obtain ⟨hj64, hjb⟩ := Bt.mem_bitsL.1 hj
    rw [oneN_bit] at hb
    simp at hb
    obtain ⟨h1, h2, h3⟩ := hb
    by_cases hn : n < 0
    · rw [slideN_bit_left m n hn]
      have e : i - (-n).toNat = j := by omega
      rw [e]
      simp [hjb]
      omega
    · rw [slideN_bit_right m n (by omega)]
      have e : n.toNat + i = j := by omega
      rw [e]; exact hjb
  · intro h
    by_cases hn : n < 0
    · rw [slideN_bit_left m n hn] at h
      simp at h
      obtain ⟨h1, h2, h3⟩ := h
      have h64 : i - (-n).toNat < 64 := by omega
      refine ⟨((i - (-n).toNat : Nat) : Int) - n, List.mem_map.2 ⟨_, Bt.mem_bitsL.2 ⟨h64, h3⟩, rfl⟩, ?_⟩
      rw [oneN_bit]
      simp
      omega
    · rw [slideN_bit_right m n (by omega)] at h
      have h64 : n.toNat + i < 64 := by
        rcases Nat.lt_or_ge (n.toNat + i) 64 with hl | hl
        · exact hl
        · rw [testBit_ge hm hl] at h; cases h
      refine ⟨((n.toNat + i : Nat) : Int) - n, List.mem_map.2 ⟨_, Bt.mem_bitsL.2 ⟨h64, h⟩, rfl⟩, ?_⟩
      rw [oneN_bit]
      simp
      omega
theorem slideN_far (m : Nat) (n : Int) (hm : m < 18446744073709551616) (h : n > 64 ∨ n < -64) : slideN m n = 0 := by
  apply bits_ext
  intro i
  rw [Nat.zero_testBit]
  rcases h with h | h
  · rw [slideN_bit_right m n (by omega)]
    exact testBit_ge hm (by omega)
  · rw [slideN_bit_left m n (by omega)]
    by_cases hi : i < 64
    · simp [show ¬ (-n).toNat ≤ i from by omega]
    · simp [hi]
theorem refSlide (m : Nat) (n : Int) (hm : m < 18446744073709551616) : staithref02_Slide.f 101 m n = some ((slideN m n : Nat) : Int) := by
  unfold staithref02_Slide.f
  by_cases h1 : n > 64
  · rw [if_pos h1]
    simp only [staithref02_Slide.j0]
    rw [slideN_far m n hm (.inl h1)]
    rfl
  · rw [if_neg h1]
    by_cases h2 : n < -64
    · simp only [staithref02_Slide.j0]
      rw [if_pos (by simpa using h2), slideN_far m n hm (.inr h2)]
      rfl
    · simp only [staithref02_Slide.j0]
      rw [if_neg (by simpa using h2), refList m hm 100 (by omega)]
      simp only [Option.bind_some, List.length_map]
      have h := refSlide_l0 n (by omega) (by omega) (Bt.bitsL m) (Bt.bitsL_length m) (fun j hj => (Bt.mem_bitsL.1 hj).1) (Bt.bitsL m).length 0 100 0 (by omega) (by have := Bt.bitsL_length m; omega) (by omega)
      rw [show ((0 : Nat) : Int) = 0 from rfl] at h
      rw [h, List.drop_zero, set_slide m n hm]
end Go.Proofs.YthcedodfedfkgaaDoor.maskSlides
