/- mask.With and what it calls: what they come to, in numbers. -/
import Derived.Test.YtkfpooljbpijhaaDoorProg
import Derived.WalkKit
import Derived.Laws.Bits64b
import Derived.Lib.Hide
import Derived.Deep.RegionWith
set_option linter.unusedVariables false
set_option linter.unusedSimpArgs false
namespace Go.Proofs.YtkfpooljbpijhaaDoor
open Go.RowKit

/-- The set of a number. -/
def oneN (n : Int) : Nat := if n < 0 ∨ 63 < n then 0 else 2 ^ n.toNat
theorem oneN_lt (n : Int) : oneN n < 18446744073709551616 := by
  unfold oneN
  split
  · omega
  · rename_i h
    have : 2 ^ n.toNat ≤ 2 ^ 63 := Nat.pow_le_pow_right (by omega) (by omega)
    omega

theorem one_no (n : Int) (w : World) (h : n < 0 ∨ 63 < n) : Calls Tryd.prog 28 #[.int .i64 n] w fun e w' => e = .returned (.int .u64 0) ∧ w = w' := by
  rcases h with h | h
  · go_enter Tryd.func28, Tryd.ntmps28
    go_wp2
    go_ret
    exact ⟨rfl, rfl⟩
  · have h' : ¬ n < 0 := by omega
    go_enter Tryd.func28, Tryd.ntmps28
    go_wp2
    go_ret
    exact ⟨rfl, rfl⟩

theorem wrap_pow (n : Int) (h : n ≤ 63) : IntKind.u64.wrap (2 ^ n.toNat) = ((2 ^ n.toNat : Nat) : Int) := by
  have : 2 ^ n.toNat ≤ 2 ^ 63 := Nat.pow_le_pow_right (by omega) (by omega)
  have e : (2 ^ n.toNat : Int) = ((2 ^ n.toNat : Nat) : Int) := by simp
  rw [e, IntKind.wrap_u64]
  generalize 2 ^ n.toNat = b at *
  omega
theorem ret_int {k : IntKind} {a b : Int} (h : a = b) : Ending.returned (.int k a) = .returned (.int k b) := by rw [h]

theorem one_yes (n : Int) (w : World) (h0 : 0 ≤ n) (h : n ≤ 63) : Calls Tryd.prog 28 #[.int .i64 n] w fun e w' => e = .returned (.int .u64 ((2 ^ n.toNat : Nat) : Int)) ∧ w = w' := by
  go_enter Tryd.func28, Tryd.ntmps28
  go_wp2
  go_ret
  exact ⟨ret_int (wrap_pow n h), rfl⟩

theorem one_any (n : Int) (w : World) : Calls Tryd.prog 28 #[.int .i64 n] w fun e w' => e = .returned (.int .u64 (oneN n)) ∧ w = w' := by
  by_cases h : n < 0 ∨ 63 < n
  · rw [show oneN n = 0 from if_pos h]; exact one_no n w h
  · rw [show oneN n = 2 ^ n.toNat from if_neg h]; exact one_yes n w (by omega) (by omega)


/-- The sets of a slice, joined. -/
def orL (zs : List Int) : Int := zs.foldl (fun a z => bits BinOp.or .u64 a z) 0
theorem orL_snoc (zs : List Int) (z : Int) : orL (zs ++ [z]) = bits BinOp.or .u64 (orL zs) z := by simp [orL]

/-- An element, read. -/
def rdI (zs : List Int) (j : Nat) : Int := zs[j]?.getD 0
theorem take_snoc_int (zs : List Int) (k : Nat) (h : k < zs.length) : zs.take (k + 1) = zs.take k ++ [rdI zs k] := by
  rw [List.take_succ_eq_append_getElem h]; simp [rdI, h]

theorem both_any (b off cap : Nat) (zs : List Int) (w : World) (hz : zs.length ≤ 1000) (hc : ∀ j, j < zs.length → w.cell? ⟨b, off + j, none⟩ = some (.int .u64 (rdI zs j))) :
    Calls Tryd.prog 27 #[.slice (some ⟨b, off, none⟩) zs.length cap] w fun e w' => e = .returned (.int .u64 (orL zs)) ∧ w = w' := by
  go_enter Tryd.func27, Tryd.ntmps27
  go_wp2
  go_loop [3, 8] (fun m i => ∃ k : Nat, k ≤ zs.length ∧ i = .int .i64 k ∧ m = .int .u64 (orL (zs.take k))) (fun _ i => zs.length - (intOf i).toNat)
  case atStart => exact ⟨0, Nat.zero_le _, rfl, rfl⟩
  case round =>
    obtain ⟨k, hk, rfl, rfl⟩ := hrel
    by_cases hlt : k < zs.length
    · have hck := hc k hlt
      have HT := Lib.hid (take_snoc_int zs k hlt)
      clear hc
      go_wp2
      go_round
      case rel => exact ⟨k + 1, by omega, by go_num, by rw [HT.out, orL_snoc]⟩
      case measure => simp [intOf]; omega
    · obtain rfl : k = zs.length := by omega
      go_wp2
      go_ret
      exact ⟨ret_int (by simp), rfl⟩

theorem with_any (m n : Int) (w : World) : Calls Tryd.prog 23 #[.int .u64 m, .int .i64 n] w fun e w' => e = .returned (.int .u64 (bits BinOp.or .u64 (bits BinOp.or .u64 0 m) (oneN n))) ∧
    w.alloc (.cells #[.int .u64 m, .int .u64 (oneN n)] 35) = w' := by
  have hcells : ∀ j, j < [m, (oneN n : Int)].length → (w.alloc (.cells #[.int .u64 m, .int .u64 (oneN n)] 35)).cell? ⟨w.heap.size, 0 + j, none⟩ = some (.int .u64 (rdI [m, (oneN n : Int)] j)) := by
    intro j hj
    match j, hj with
    | 0, _ => simp [rdI, World.cell?_alloc_new]
    | 1, _ => simp [rdI, World.cell?_alloc_new]
  have HC := Lib.hid hcells
  clear hcells
  go_enter Tryd.func23, Tryd.ntmps23
  go_wp2_with (first
    | (go_at_call 28; refine (one_any n w).mono ?_; rintro e w' ⟨rfl, rfl⟩)
    | (go_at_call 27; refine (both_any w.heap.size 0 2 [m, (oneN n : Int)] _ (by simp) HC.out).mono ?_; rintro e w' ⟨rfl, rfl⟩))
  go_ret
  exact ⟨rfl, rfl⟩

/-- With, in numbers. -/
theorem with_nat (m : Nat) (n : Int) (hm : m < 18446744073709551616) (w : World) : Calls Tryd.prog 23 #[.int .u64 m, .int .i64 n] w fun e w' => e = .returned (.int .u64 ((m ||| oneN n : Nat) : Int)) ∧
    w.alloc (.cells #[.int .u64 m, .int .u64 (oneN n)] 35) = w' := by
  refine (with_any m n w).mono ?_
  rintro e w' ⟨rfl, rfl⟩
  refine ⟨ret_int ?_, rfl⟩
  have h0 : bits BinOp.or .u64 0 (m : Int) = ((m : Nat) : Int) := by
    have := bits_or_u64_nat 0 m (by omega) hm
    simpa using this
  rw [h0, bits_or_u64_nat m _ hm (oneN_lt n)]

theorem or_lt {a b : Nat} (ha : a < 18446744073709551616) (hb : b < 18446744073709551616) : a ||| b < 18446744073709551616 := by
  have := Nat.or_lt_two_pow (n := 64) (x := a) (y := b) (by simpa using ha) (by simpa using hb)
  simpa using this

def withN (m : Nat) (n : Int) : Nat := m ||| oneN n
theorem withN_lt (m : Nat) (n : Int) (hm : m < 18446744073709551616) : withN m n < 18446744073709551616 := or_lt hm (oneN_lt n)
theorem bits_ext {a b : Nat} (h : ∀ i, a.testBit i = b.testBit i) : a = b := Nat.eq_of_testBit_eq h
theorem oneN_bit (n : Int) (i : Nat) : (oneN n).testBit i = (decide (0 ≤ n) && (decide (n < 64) && decide (i = n.toNat))) := by
  unfold oneN
  by_cases h : n < 0 ∨ 63 < n
  · rw [if_pos h]
    have : (decide (0 ≤ n) && (decide (n < 64) && decide (i = n.toNat))) = false := by
      rcases h with h | h
      · simp [show ¬ 0 ≤ n from by omega]
      · simp [show ¬ n < 64 from by omega]
    rw [this]; simp
  · rw [if_neg h, Nat.testBit_two_pow]
    simp [show 0 ≤ n from by omega, show n < 64 from by omega, eq_comm]
theorem withN_bit (m : Nat) (n : Int) (i : Nat) : (withN m n).testBit i = (m.testBit i || (oneN n).testBit i) := Nat.testBit_or _ _ _
end Go.Proofs.YtkfpooljbpijhaaDoor
