/- mask.Slide, mask.Below, mask.Size: what they come to, in numbers. -/
import Derived.Test.YthcedodfedfkgaaDoorMkOf
import Derived.Test.YthcedodfedfkgaaDoorMkPop
import Derived.Test.YthcedodfedfkgaaDoorWMore
namespace Go.Proofs.YthcedodfedfkgaaDoor
open Go.RowKit Go.Shelf Go.Proofs.YthcedodfedfkgaaDoorW.PrintWords Go.Proofs.YthcedodfedfkgaaDoorW.PrintMore
attribute [local go_sem] max2_int

/-- The numbers below one, as a set. -/
def belowN (n : Int) : Nat := if 63 < n then 18446744073709551615 else 2 ^ n.toNat - 1
theorem below_yes (n : Int) (w : World) (h : 63 < n) : Calls Tryd.prog 19 #[.int .i64 n] w fun e w' => e = .returned (.int .u64 18446744073709551615) ∧ w = w' := by
  go_enter Tryd.func19, Tryd.ntmps19
  go_wp2
  go_ret
  exact ⟨rfl, rfl⟩
theorem pow_pred (n : Int) (h : n ≤ 63) : IntKind.u64.wrap (IntKind.u64.wrap (2 ^ n.toNat) - 1) = ((2 ^ n.toNat - 1 : Nat) : Int) := by
  rw [wrap_pow n h, IntKind.wrap_u64]
  have h1 : 2 ^ n.toNat ≤ 2 ^ 63 := Nat.pow_le_pow_right (by omega) (by omega)
  have h2 := Nat.two_pow_pos n.toNat
  generalize 2 ^ n.toNat = b at *
  omega
theorem below_no (n : Int) (w : World) (h : n ≤ 63) : Calls Tryd.prog 19 #[.int .i64 n] w fun e w' => e = .returned (.int .u64 ((2 ^ n.toNat - 1 : Nat) : Int)) ∧ w = w' := by
  by_cases h0 : n < 0
  · have e : n.toNat = 0 := by omega
    rw [e]
    clear e
    go_enter Tryd.func19, Tryd.ntmps19
    go_wp2
    go_ret
    exact ⟨rfl, rfl⟩
  · go_enter Tryd.func19, Tryd.ntmps19
    go_wp2
    go_ret
    exact ⟨ret_int (pow_pred n h), rfl⟩
theorem below_any (n : Int) (w : World) : Calls Tryd.prog 19 #[.int .i64 n] w fun e w' => e = .returned (.int .u64 (belowN n)) ∧ w = w' := by
  unfold belowN
  split
  · exact below_yes n w ‹_›
  · exact below_no n w (by omega)
theorem belowN_lt (n : Int) : belowN n < 18446744073709551616 := by
  unfold belowN
  split
  · omega
  · rename_i h
    have h1 : 2 ^ n.toNat ≤ 2 ^ 63 := Nat.pow_le_pow_right (by omega) (by omega)
    omega

/-- Each number less. -/
def slideN (m : Nat) (n : Int) : Nat := if n < 0 then m * 2 ^ (-n).toNat % 18446744073709551616 else m / 2 ^ n.toNat
theorem slideN_lt (m : Nat) (n : Int) (hm : m < 18446744073709551616) : slideN m n < 18446744073709551616 := by
  unfold slideN
  split
  · omega
  · exact Nat.lt_of_le_of_lt (Nat.div_le_self _ _) hm
theorem left_eq (m : Nat) (n : Int) (hn : n < 0) (hn2 : -9223372036854775808 ≤ n) : IntKind.u64.wrap ((m : Int) * 2 ^ min (IntKind.u64.wrap (wrap64 (-n))).toNat 64) = ((m * 2 ^ (-n).toNat % 18446744073709551616 : Nat) : Int) := by
  have e1 : (IntKind.u64.wrap (wrap64 (-n))).toNat = (-n).toNat := by
    rw [IntKind.wrap_u64]; unfold wrap64; omega
  rw [e1, IntKind.wrap_u64]
  have e2 : ((m : Int) * 2 ^ min (-n).toNat 64) = ((m * 2 ^ min (-n).toNat 64 : Nat) : Int) := by simp
  rw [e2, show (18446744073709551616 : Int) = ((18446744073709551616 : Nat) : Int) from rfl, ← Int.natCast_emod]
  congr 1
  rcases Nat.le_total (-n).toNat 64 with h | h
  · rw [Nat.min_eq_left h]
  · rw [Nat.min_eq_right h]
    obtain ⟨d, hd⟩ : ∃ d, (-n).toNat = 64 + d := ⟨(-n).toNat - 64, by omega⟩
    rw [hd, Nat.pow_add, ← Nat.mul_assoc, show (18446744073709551616 : Nat) = 2 ^ 64 from rfl, Nat.mul_mod_left, Nat.mul_right_comm, Nat.mul_mod_left]
theorem right_eq (m : Nat) (n : Int) (hm : m < 18446744073709551616) : (m : Int) / 2 ^ min n.toNat 64 = ((m / 2 ^ n.toNat : Nat) : Int) := by
  have e2 : ((m : Int) / 2 ^ min n.toNat 64) = ((m / 2 ^ min n.toNat 64 : Nat) : Int) := by simp
  rw [e2]
  congr 1
  rcases Nat.le_total n.toNat 64 with h | h
  · rw [Nat.min_eq_left h]
  · rw [Nat.min_eq_right h, Nat.div_eq_of_lt (by simpa using hm), Nat.div_eq_of_lt]
    have := Nat.pow_le_pow_right (n := 2) (by omega) h
    omega
theorem slide_left (m : Nat) (n : Int) (w : World) (hn : n < 0) (hn2 : -9223372036854775808 ≤ n) : Calls Tryd.prog 10 #[.int .u64 m, .int .i64 n] w fun e w' => e = .returned (.int .u64 ((m * 2 ^ (-n).toNat % 18446744073709551616 : Nat) : Int)) ∧ w = w' := by
  have H := Lib.hid (left_eq m n hn hn2)
  clear hn2
  go_enter Tryd.func10, Tryd.ntmps10
  go_wp2
  go_ret
  exact ⟨ret_int H.out, rfl⟩
theorem slide_right (m : Nat) (n : Int) (w : World) (hm : m < 18446744073709551616) (hn : 0 ≤ n) (hn2 : n < 9223372036854775808) : Calls Tryd.prog 10 #[.int .u64 m, .int .i64 n] w fun e w' => e = .returned (.int .u64 ((m / 2 ^ n.toNat : Nat) : Int)) ∧ w = w' := by
  have H := Lib.hid (right_eq m n hm)
  go_enter Tryd.func10, Tryd.ntmps10
  go_wp2
  go_ret
  exact ⟨ret_int H.out, rfl⟩
theorem slide_any (m : Nat) (n : Int) (w : World) (hm : m < 18446744073709551616) (h1 : -9223372036854775808 ≤ n) (h2 : n < 9223372036854775808) : Calls Tryd.prog 10 #[.int .u64 m, .int .i64 n] w fun e w' => e = .returned (.int .u64 (slideN m n)) ∧ w = w' := by
  unfold slideN
  split
  · exact slide_left m n w ‹_› h1
  · exact slide_right m n w hm (by omega) h2

def popE (x0 : Int) : Int :=
  let x1 := IntKind.u64.wrap (bits .and .u64 (x0 / 2) 6148914691236517205 + bits .and .u64 x0 6148914691236517205)
  let x2 := IntKind.u64.wrap (bits .and .u64 (x1 / 4) 3689348814741910323 + bits .and .u64 x1 3689348814741910323)
  let x3 := bits .and .u64 (IntKind.u64.wrap (x2 / 16 + x2)) 1085102592571150095
  let x4 := IntKind.u64.wrap (x3 + x3 / 256)
  let x5 := IntKind.u64.wrap (x4 + x4 / 65536)
  let x6 := IntKind.u64.wrap (x5 + x5 / 4294967296)
  bits .and .i64 (wrap64 x6) 127
set_option maxHeartbeats 400000 in
theorem ones_any (m : Int) (w : World) : Calls Tryd.prog 31 #[.int .u64 m] w fun e w' => e = .returned (.int .i64 (popE m)) ∧ w = w' := by
  go_enter Tryd.func31, Tryd.ntmps31
  go_wp2
  go_ret
  exact ⟨rfl, rfl⟩
theorem and_lt_u64 {a b : Nat} (ha : a < 18446744073709551616) : a &&& b < 18446744073709551616 := Nat.lt_of_le_of_lt Nat.and_le_left ha
theorem wrapN {a : Nat} (ha : a < 18446744073709551616) : IntKind.u64.wrap (a : Int) = (a : Int) := by rw [IntKind.wrap_u64]; omega
theorem i64_and127 (a : Nat) (ha : a < 9223372036854775808) : bits .and .i64 (a : Int) 127 = ((a % 128 : Nat) : Int) := by
  have h : ∀ a : Nat, a < 9223372036854775808 → (BitVec.ofInt 64 (a : Int)).toNat = a := fun a ha => by
    rw [BitVec.ofInt_natCast, BitVec.toNat_ofNat]; exact Nat.mod_eq_of_lt (by omega)
  show IntKind.i64.wrap ((BitVec.ofInt 64 (a : Int) &&& BitVec.ofInt 64 (127 : Int)).toNat : Int) = _
  rw [BitVec.toNat_and, h a ha, show ((BitVec.ofInt 64 (127 : Int)).toNat) = 127 from by decide, show (127 : Nat) = 2 ^ 7 - 1 from rfl, Nat.and_two_pow_sub_one_eq_mod, IntKind.wrap_i64]
  omega
theorem popE_nat (m : Nat) (hm : m < 18446744073709551616) : popE m = ((Bt.bitsL m).length : Int) := by
  obtain ⟨h1, h2, h3, h4⟩ := Bt.halves_spec m hm
  rw [← h4]
  unfold popE Bt.halves
  simp only
  have a1 : bits .and .u64 ((m : Int) / 2) 6148914691236517205 = ((m / 2 &&& 6148914691236517205 : Nat) : Int) := by
    rw [show (m : Int) / 2 = ((m / 2 : Nat) : Int) from by omega]; exact bits_and_u64_nat (m / 2) 6148914691236517205 (by omega) (by omega)
  have a2 : bits .and .u64 (m : Int) 6148914691236517205 = ((m &&& 6148914691236517205 : Nat) : Int) := bits_and_u64_nat m 6148914691236517205 hm (by omega)
  rw [a1, a2, ← Int.natCast_add, wrapN h1]
  generalize (m / 2 &&& 6148914691236517205) + (m &&& 6148914691236517205) = x1 at *
  have a3 : bits .and .u64 ((x1 : Int) / 4) 3689348814741910323 = ((x1 / 4 &&& 3689348814741910323 : Nat) : Int) := by
    rw [show (x1 : Int) / 4 = ((x1 / 4 : Nat) : Int) from by omega]; exact bits_and_u64_nat (x1 / 4) 3689348814741910323 (by omega) (by omega)
  have a4 : bits .and .u64 (x1 : Int) 3689348814741910323 = ((x1 &&& 3689348814741910323 : Nat) : Int) := bits_and_u64_nat x1 3689348814741910323 h1 (by omega)
  rw [a3, a4, ← Int.natCast_add, wrapN (by omega)]
  generalize (x1 / 4 &&& 3689348814741910323) + (x1 &&& 3689348814741910323) = x2 at *
  have a5 : IntKind.u64.wrap ((x2 : Int) / 16 + (x2 : Int)) = ((x2 / 16 + x2 : Nat) : Int) := by rw [IntKind.wrap_u64]; omega
  have a6 : bits .and .u64 ((x2 / 16 + x2 : Nat) : Int) 1085102592571150095 = (((x2 / 16 + x2) &&& 1085102592571150095 : Nat) : Int) := bits_and_u64_nat (x2 / 16 + x2) 1085102592571150095 (by omega) (by omega)
  rw [a5, a6]
  generalize (x2 / 16 + x2) &&& 1085102592571150095 = x3 at *
  have a7 : IntKind.u64.wrap ((x3 : Int) + (x3 : Int) / 256) = ((x3 + x3 / 256 : Nat) : Int) := by rw [IntKind.wrap_u64]; omega
  rw [a7]
  obtain ⟨x4, hx4⟩ : ∃ x4, x3 + x3 / 256 = x4 := ⟨_, rfl⟩
  rw [hx4]
  have b4 : x4 < 590000000000000000 := by omega
  have a8 : IntKind.u64.wrap ((x4 : Int) + (x4 : Int) / 65536) = ((x4 + x4 / 65536 : Nat) : Int) := by rw [IntKind.wrap_u64]; omega
  rw [a8]
  obtain ⟨x5, hx5⟩ : ∃ x5, x4 + x4 / 65536 = x5 := ⟨_, rfl⟩
  rw [hx5]
  have b5 : x5 < 600000000000000000 := by omega
  have a9 : IntKind.u64.wrap ((x5 : Int) + (x5 : Int) / 4294967296) = ((x5 + x5 / 4294967296 : Nat) : Int) := by rw [IntKind.wrap_u64]; omega
  rw [a9]
  have b6 : x5 + x5 / 4294967296 < 610000000000000000 := by omega
  generalize x5 + x5 / 4294967296 = x6 at *
  rw [show wrap64 (x6 : Int) = (x6 : Int) from by unfold wrap64; omega]
  exact i64_and127 x6 (by omega)

theorem size_any (m : Nat) (hm : m < 18446744073709551616) (w : World) : Calls Tryd.prog 17 #[.int .u64 m] w fun e w' => e = .returned (.int .i64 ((Bt.bitsL m).length : Nat)) ∧ w = w' := by
  have H := Lib.hid (popE_nat m hm)
  go_enter Tryd.func17, Tryd.ntmps17
  go_wp2_with (go_at_call 31; refine (ones_any m w).mono ?_; rintro e w' ⟨rfl, rfl⟩; rw [H.out])
  go_ret
  exact ⟨rfl, rfl⟩
end Go.Proofs.YthcedodfedfkgaaDoor
