/- MaskRuns: its walk: true for every input. -/
import Derived.Test.YthcedodfedfkgaaDoorMkSpec
import Derived.Test.YthcedodfedfkgaaDoorMkLives
import Derived.Test.YthcedodfedfkgaaDoorMkLaid
namespace Go.Proofs.YthcedodfedfkgaaDoor.maskRuns
open Go.RowKit Go.Shelf Go.Proofs.YthcedodfedfkgaaDoorW.PrintWords

/-- How many of a number's lowest bits are all set. -/
def runN (m : Nat) : Nat := Lib.ctz 64 (18446744073709551615 - m)
theorem runN_spec (m : Nat) (hm : m < 18446744073709551616) : runN m ≤ 64 ∧ (∀ i, i < runN m → m.testBit i = true) ∧ (runN m < 64 → m.testBit (runN m) = false) := by
  unfold runN
  by_cases h0 : 18446744073709551615 - m = 0
  · rw [h0]
    have e : m = 18446744073709551615 := by omega
    subst e
    refine ⟨by decide, fun i hi => ?_, fun h => absurd h (by decide)⟩
    have := Nat.testBit_two_pow_sub_one 64 i
    rw [show (2 : Nat) ^ 64 - 1 = 18446744073709551615 from by omega] at this
    rw [this]
    have : i < 64 := hi
    simpa using this
  · have hc : ∀ i, (18446744073709551615 - m).testBit i = (decide (i < 64) && !m.testBit i) := compl_bit m hm
    obtain ⟨j, hj, hk⟩ := Lib.ctzFrom_spec 64 (18446744073709551615 - m) (by omega) (by omega)
    have hcz : Lib.ctz 64 (18446744073709551615 - m) = Lib.ctzFrom 64 (18446744073709551615 - m) := by simp [Lib.ctz, h0]
    rw [hcz]
    generalize Lib.ctzFrom 64 (18446744073709551615 - m) = k at hj hk
    refine ⟨by omega, fun i hi => ?_, fun _ => ?_⟩
    · have := hc i
      rw [hj, Bt.testBit_two_pow_mul', show decide (k ≤ i) = false from by simp; omega] at this
      have h64 : i < 64 := by omega
      simpa [h64] using this
    · have := hc k
      rw [hj, Bt.testBit_two_pow_mul'] at this
      simpa [hk] using this
theorem runN_below (k : Nat) (hk : k ≤ 64) : runN (belowN k) = k := by
  obtain ⟨h1, h2, h3⟩ := runN_spec (belowN k) (belowN_lt _)
  rcases Nat.lt_trichotomy (runN (belowN k)) k with h | h | h
  · have := h3 (by omega)
    rw [belowN_bit] at this
    simp at this
    omega
  · exact h
  · have := h2 k h
    rw [belowN_bit] at this
    simp at this
theorem and_below (m : Nat) (hm : m < 18446744073709551616) : m &&& belowN (runN m) = belowN (runN m) := by
  obtain ⟨h1, h2, h3⟩ := runN_spec m hm
  apply bits_ext
  intro i
  rw [Nat.testBit_and, belowN_bit]
  by_cases hi : i < runN m
  · rw [h2 i hi]; simp
  · simp [show ¬ ((i : Int) < runN m) from by omega]
theorem hasB_run (m : Nat) (hm : m < 18446744073709551616) : hasB m (runN m) = false := by
  obtain ⟨h1, h2, h3⟩ := runN_spec m hm
  unfold hasB
  by_cases h : runN m < 64
  · rw [show ((runN m : Int)).toNat = runN m from by omega, h3 h]; simp
  · simp [show ¬ ((runN m : Int) < 64) from by omega]
theorem hasB_slide (m : Nat) (hm : m < 18446744073709551616) : hasB (slideN m (runN m)) 0 = false := by
  obtain ⟨h1, h2, h3⟩ := runN_spec m hm
  unfold hasB
  rw [show ((0 : Int)).toNat = 0 from rfl, slideN_right_bit]
  by_cases h : runN m < 64
  · rw [Nat.add_zero, h3 h]; simp
  · rw [testBit_ge hm (by omega)]; simp

set_option maxRecDepth 100000 in
set_option maxHeartbeats 1000000 in
theorem core (m k : Nat) (hm : m < 18446744073709551616) (hk : k ≤ 64) (hrun : runN m = k) (W : World) (hL : Laid W) :
    Calls Tryd.prog 5 #[.int .u64 m] W fun e w' => e = .returned (.bool true) ∧ Below W.heap.size W w' := by
  have HL := Lib.hid hL
  have hlt := Lib.hid hL.lt
  have HR := Lib.hid hrun
  have hand : (bits BinOp.and .u64 (m : Int) (belowN k) != (belowN k : Int)) = false := by
    rw [bits_and_u64_nat m _ hm (belowN_lt _), ← hrun, and_below m hm]; simp
  have hh : hasB m k = false := by rw [← hrun]; exact hasB_run m hm
  have hs : hasB (slideN m k) 0 = false := by rw [← hrun]; exact hasB_slide m hm
  have hrb : Hid (runN (belowN k) = k) := runN_below k hk
  clear hL hrun
  go_enter Tryd.func5, Tryd.ntmps5
  go_wp2_with (first
    | (go_at_call_of 18 (Value.int .u64 (m : Int)); refine (run_any m hm _ HL.out).mono ?_; rintro e w1 ⟨rfl, rfl⟩; rw [show Lib.ctz 64 (18446744073709551615 - m) = k from HR.out])
    | (go_at_call_of 18 (Value.int .u64 (belowN k : Int)); refine (run_any (belowN k) (belowN_lt _) _ HL.out).mono ?_; rintro e w1 ⟨rfl, rfl⟩; rw [show Lib.ctz 64 (18446744073709551615 - belowN k) = k from hrb.out])
    | (go_at_call 19; refine (below_any k _).mono ?_; rintro e w1 ⟨rfl, rfl⟩)
    | (go_at_call_of 16 (Value.int .i64 (k : Int)); refine (has_nat m k hm _).mono ?_; rintro e w1 ⟨rfl, rfl⟩)
    | (go_at_call_of 16 (Value.int .i64 0); refine (has_nat (slideN m k) 0 (slideN_lt m k hm) _).mono ?_; rintro e w1 ⟨rfl, rfl⟩)
    | (go_at_call 10; refine (slide_any m k _ hm (by omega) (by omega)).mono ?_; rintro e w1 ⟨rfl, rfl⟩)
    | (go_at_call 9; refine (lives_any W hlt.out HL.out).mono ?_; rintro e w1 ⟨rfl, hb1⟩))
  go_ret
  exact ⟨rfl, hb1⟩

theorem walk (a0 : Int) (w0 : (Lit.int .u64 a0).wf = true) (W : World) (hL : Laid W) :
    Calls Tryd.prog 5 #[.int .u64 a0] W fun e w' => e = .returned (.bool true) ∧ Below W.heap.size W w' := by
  obtain ⟨m, rfl, hm⟩ := nat_of_u64 w0
  exact core m _ hm (runN_spec m hm).1 rfl W hL

end Go.Proofs.YthcedodfedfkgaaDoor.maskRuns
