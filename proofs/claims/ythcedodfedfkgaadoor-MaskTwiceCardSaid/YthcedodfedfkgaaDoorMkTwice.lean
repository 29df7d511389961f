/- MaskTwice: its walk: true for every input. -/
import Derived.Test.YthcedodfedfkgaaDoorMkSpec
import Derived.Test.YthcedodfedfkgaaDoorMkLives
import Derived.Test.YthcedodfedfkgaaDoorMkLaid
namespace Go.Proofs.YthcedodfedfkgaaDoor.maskTwice
open Go.RowKit Go.Shelf Go.Proofs.YthcedodfedfkgaaDoorW.PrintWords

theorem oneN_in {n : Int} (h0 : 0 ≤ n) (h1 : n < 64) (i : Nat) : (oneN n).testBit i = decide (i = n.toNat) := by
  rw [oneN_bit]; simp [h0, h1]
theorem oneN_out {n : Int} (h : n < 0 ∨ 64 ≤ n) : oneN n = 0 := if_pos (by omega)
theorem with_with (m : Nat) (n : Int) : withN (withN m n) n = withN m n := by
  apply bits_ext; intro i; rw [withN_bit, withN_bit, Bool.or_assoc, Bool.or_self]
theorem without_without (m : Nat) (n : Int) (hm : m < 18446744073709551616) : withoutN (withoutN m n) n = withoutN m n := by
  apply bits_ext; intro i; rw [withoutN_bit _ (withoutN_lt m n hm), withoutN_bit m hm, Bool.and_assoc, Bool.and_self]
theorem has_without (m : Nat) (n : Int) (hm : m < 18446744073709551616) : hasB (withoutN m n) n = false := by
  unfold hasB
  by_cases h0 : 0 ≤ n
  · by_cases h1 : n < 64
    · rw [withoutN_bit m hm, oneN_in h0 h1]; simp
    · simp [h1]
  · simp [h0]
theorem has_with (m : Nat) (n : Int) (h0 : 0 ≤ n) (h1 : n < 64) : hasB (withN m n) n = true := by
  unfold hasB; rw [withN_bit, oneN_in h0 h1]; simp [h0, h1]
theorem has_out (m : Nat) (n : Int) (h : n < 0 ∨ 64 ≤ n) : hasB m n = false := by
  unfold hasB
  rcases h with h | h
  · simp [show ¬ 0 ≤ n from by omega]
  · simp [show ¬ n < 64 from by omega]
theorem has_with_other (m : Nat) (n k : Int) (hk : n ≠ k) : hasB (withN m n) k = hasB m k := by
  unfold hasB
  by_cases h0 : 0 ≤ k
  · by_cases h1 : k < 64
    · rw [withN_bit, oneN_bit]
      by_cases hn : 0 ≤ n
      · simp [show ¬ k.toNat = n.toNat from by omega]
      · simp [hn]
    · simp [h1]
  · simp [h0]
theorem has_without_other (m : Nat) (n k : Int) (hk : n ≠ k) (hm : m < 18446744073709551616) : hasB (withoutN m n) k = hasB m k := by
  unfold hasB
  by_cases h0 : 0 ≤ k
  · by_cases h1 : k < 64
    · rw [withoutN_bit m hm, oneN_bit]
      by_cases hn : 0 ≤ n
      · simp [show ¬ k.toNat = n.toNat from by omega]
      · simp [hn]
    · simp [h1]
  · simp [h0]
theorem size_one_more (p : Nat → Bool) (n : Nat) : ∀ N, n < N → ((List.range N).filter fun i => p i || decide (i = n)).length = ((List.range N).filter fun i => p i && !decide (i = n)).length + 1 := by
  intro N hN
  have e : ∀ q : Nat → Bool, (List.range N).filter q = (List.range n).filter q ++ ([n].filter q ++ ((List.range (N - n - 1)).map (fun i => n + (1 + i))).filter q) := by
    intro q
    have h := List.range_add (n := n) (m := 1 + (N - n - 1))
    rw [show n + (1 + (N - n - 1)) = N from by omega] at h
    rw [h, List.filter_append]
    congr 1
    rw [Nat.add_comm 1, List.range_succ_eq_map, ← List.filter_append]
    congr 1
    simp [Function.comp_def, Nat.add_comm]
  rw [e, e]
  have a1 : ((List.range n).filter fun i => p i || decide (i = n)) = ((List.range n).filter fun i => p i && !decide (i = n)) := by
    apply List.filter_congr
    intro i hi
    have : i ≠ n := by have := List.mem_range.1 hi; omega
    simp [this]
  have a2 : (((List.range (N - n - 1)).map (fun i => n + (1 + i))).filter fun i => p i || decide (i = n)) = (((List.range (N - n - 1)).map (fun i => n + (1 + i))).filter fun i => p i && !decide (i = n)) := by
    apply List.filter_congr
    intro i hi
    obtain ⟨j, _, rfl⟩ := List.mem_map.1 hi
    simp
  rw [a1, a2]
  simp
  omega
theorem size_with (m : Nat) (n : Int) (h0 : 0 ≤ n) (h1 : n < 64) (hm : m < 18446744073709551616) : (Bt.bitsL (withN m n)).length = (Bt.bitsL (withoutN m n)).length + 1 := by
  have h := size_one_more (fun i => m.testBit i) n.toNat 64 (by omega)
  unfold Bt.bitsL
  rw [List.filter_congr (q := fun i => m.testBit i || decide (i = n.toNat)) (fun i _ => by rw [withN_bit, oneN_in h0 h1]),
    List.filter_congr (p := fun i => (withoutN m n).testBit i) (q := fun i => m.testBit i && !decide (i = n.toNat)) (fun i _ => by rw [withoutN_bit m hm, oneN_in h0 h1])]
  exact h
theorem with_out (m : Nat) (n : Int) (h : n < 0 ∨ 64 ≤ n) : withN m n = m := by unfold withN; rw [oneN_out h, Nat.or_zero]
theorem without_out (m : Nat) (n : Int) (h : n < 0 ∨ 64 ≤ n) (hm : m < 18446744073709551616) : withoutN m n = m := by
  apply bits_ext; intro i; rw [withoutN_bit m hm, oneN_out h]; simp

set_option maxRecDepth 100000 in
set_option maxHeartbeats 4000000 in
theorem core (m : Nat) (n k : Int) (hm : m < 18446744073709551616) (hn1 : -9223372036854775808 ≤ n) (hn2 : n ≤ 9223372036854775807) (W : World) (hL : Laid W) :
    Calls Tryd.prog 4 #[.int .u64 m, .int .i64 n, .int .i64 k] W fun e w' => e = .returned (.bool true) ∧ Below W.heap.size W w' := by
  have HL := Lib.hid hL
  have hlt := Lib.hid hL.lt
  have hwl := withN_lt m n hm
  have hol := withoutN_lt m n hm
  have e1 : ((withN (withN m n) n : Int) != (withN m n : Int)) = false := by rw [with_with]; simp
  have e2 : ((withoutN (withoutN m n) n : Int) != (withoutN m n : Int)) = false := by rw [without_without m n hm]; simp
  have e3 := has_without m n hm
  have e4 : n ≠ k → hasB (withN m n) k = hasB m k := has_with_other m n k
  have e5 : n ≠ k → hasB (withoutN m n) k = hasB m k := fun h => has_without_other m n k h hm
  clear hL
  rcases (by omega : n < 0 ∨ (0 ≤ n ∧ 64 ≤ n) ∨ (0 ≤ n ∧ n < 64)) with hc | ⟨hc0, hc⟩ | ⟨hc0, hc⟩
  · have f1 := has_out (withN m n) n (.inl hc)
    have f2 : ((withN m n : Int) == (m : Int)) = true := by rw [with_out m n (.inl hc)]; simp
    have f3 : ((withoutN m n : Int) == (m : Int)) = true := by rw [without_out m n (.inl hc) hm]; simp
    have hc' : ¬ 0 ≤ n := by omega
    by_cases hk : n = k
    · have hk' : (n != k) = false := by simp [hk]
      clear hk e4 e5
      go_enter Tryd.func4, Tryd.ntmps4
      go_wp2_with (first
        | (go_at_call_of 14 (Value.int .u64 (m : Int)); refine (with_natB m n hm _).mono ?_; rintro e w1 ⟨rfl, hb1⟩; have hB1 := Lib.hid hb1; clear hb1)
        | (go_at_call_of 14 (Value.int .u64 (withN m n : Int)); refine (with_natB (withN m n) n hwl _).mono ?_; rintro e w2 ⟨rfl, hb2⟩; have hB2 := Lib.hid (hB1.out.trans (hb2.mono hB1.out.size)); clear hb2)
        | (go_at_call_of 15 (Value.int .u64 (m : Int)); refine (without_nat m n hm _).mono ?_; rintro e w3 ⟨rfl, rfl⟩)
        | (go_at_call_of 15 (Value.int .u64 (withoutN m n : Int)); refine (without_nat (withoutN m n) n hol _).mono ?_; rintro e w3 ⟨rfl, rfl⟩)
        | (go_at_call_of 16 (Value.int .u64 (m : Int)); refine (has_nat m _ hm _).mono ?_; rintro e w3 ⟨rfl, rfl⟩)
        | (go_at_call_of 16 (Value.int .u64 (withN m n : Int)); refine (has_nat (withN m n) _ hwl _).mono ?_; rintro e w3 ⟨rfl, rfl⟩)
        | (go_at_call_of 16 (Value.int .u64 (withoutN m n : Int)); refine (has_nat (withoutN m n) _ hol _).mono ?_; rintro e w3 ⟨rfl, rfl⟩)
        | (go_at_call_of 17 (Value.int .u64 (withN m n : Int)); refine (size_any (withN m n) hwl _).mono ?_; rintro e w3 ⟨rfl, rfl⟩)
        | (go_at_call_of 17 (Value.int .u64 (withoutN m n : Int)); refine (size_any (withoutN m n) hol _).mono ?_; rintro e w3 ⟨rfl, rfl⟩)
        | (go_at_call 9; refine (lives_any _ (Nat.lt_of_lt_of_le hlt.out hB2.out.size) (HL.out.below hB2.out hlt.out)).mono ?_; rintro e w4 ⟨rfl, hb4⟩))
      go_ret
      exact ⟨rfl, hB2.out.trans (hb4.mono hB2.out.size)⟩
    · have hk' : (n != k) = true := by simp [hk]
      have e4' := e4 hk
      have e5' := e5 hk
      clear hk e4 e5
      go_enter Tryd.func4, Tryd.ntmps4
      go_wp2_with (first
        | (go_at_call_of 14 (Value.int .u64 (m : Int)); refine (with_natB m n hm _).mono ?_; rintro e w1 ⟨rfl, hb1⟩; have hB1 := Lib.hid hb1; clear hb1)
        | (go_at_call_of 14 (Value.int .u64 (withN m n : Int)); refine (with_natB (withN m n) n hwl _).mono ?_; rintro e w2 ⟨rfl, hb2⟩; have hB2 := Lib.hid (hB1.out.trans (hb2.mono hB1.out.size)); clear hb2)
        | (go_at_call_of 15 (Value.int .u64 (m : Int)); refine (without_nat m n hm _).mono ?_; rintro e w3 ⟨rfl, rfl⟩)
        | (go_at_call_of 15 (Value.int .u64 (withoutN m n : Int)); refine (without_nat (withoutN m n) n hol _).mono ?_; rintro e w3 ⟨rfl, rfl⟩)
        | (go_at_call_of 16 (Value.int .u64 (m : Int)); refine (has_nat m _ hm _).mono ?_; rintro e w3 ⟨rfl, rfl⟩)
        | (go_at_call_of 16 (Value.int .u64 (withN m n : Int)); refine (has_nat (withN m n) _ hwl _).mono ?_; rintro e w3 ⟨rfl, rfl⟩)
        | (go_at_call_of 16 (Value.int .u64 (withoutN m n : Int)); refine (has_nat (withoutN m n) _ hol _).mono ?_; rintro e w3 ⟨rfl, rfl⟩)
        | (go_at_call_of 17 (Value.int .u64 (withN m n : Int)); refine (size_any (withN m n) hwl _).mono ?_; rintro e w3 ⟨rfl, rfl⟩)
        | (go_at_call_of 17 (Value.int .u64 (withoutN m n : Int)); refine (size_any (withoutN m n) hol _).mono ?_; rintro e w3 ⟨rfl, rfl⟩)
        | (go_at_call 9; refine (lives_any _ (Nat.lt_of_lt_of_le hlt.out hB2.out.size) (HL.out.below hB2.out hlt.out)).mono ?_; rintro e w4 ⟨rfl, hb4⟩))
      go_ret
      exact ⟨rfl, hB2.out.trans (hb4.mono hB2.out.size)⟩
  · have f1 := has_out (withN m n) n (.inr hc)
    have f2 : ((withN m n : Int) == (m : Int)) = true := by rw [with_out m n (.inr hc)]; simp
    have f3 : ((withoutN m n : Int) == (m : Int)) = true := by rw [without_out m n (.inr hc) hm]; simp
    have hc' : ¬ n < 64 := by omega
    by_cases hk : n = k
    · have hk' : (n != k) = false := by simp [hk]
      clear hk e4 e5
      go_enter Tryd.func4, Tryd.ntmps4
      go_wp2_with (first
        | (go_at_call_of 14 (Value.int .u64 (m : Int)); refine (with_natB m n hm _).mono ?_; rintro e w1 ⟨rfl, hb1⟩; have hB1 := Lib.hid hb1; clear hb1)
        | (go_at_call_of 14 (Value.int .u64 (withN m n : Int)); refine (with_natB (withN m n) n hwl _).mono ?_; rintro e w2 ⟨rfl, hb2⟩; have hB2 := Lib.hid (hB1.out.trans (hb2.mono hB1.out.size)); clear hb2)
        | (go_at_call_of 15 (Value.int .u64 (m : Int)); refine (without_nat m n hm _).mono ?_; rintro e w3 ⟨rfl, rfl⟩)
        | (go_at_call_of 15 (Value.int .u64 (withoutN m n : Int)); refine (without_nat (withoutN m n) n hol _).mono ?_; rintro e w3 ⟨rfl, rfl⟩)
        | (go_at_call_of 16 (Value.int .u64 (m : Int)); refine (has_nat m _ hm _).mono ?_; rintro e w3 ⟨rfl, rfl⟩)
        | (go_at_call_of 16 (Value.int .u64 (withN m n : Int)); refine (has_nat (withN m n) _ hwl _).mono ?_; rintro e w3 ⟨rfl, rfl⟩)
        | (go_at_call_of 16 (Value.int .u64 (withoutN m n : Int)); refine (has_nat (withoutN m n) _ hol _).mono ?_; rintro e w3 ⟨rfl, rfl⟩)
        | (go_at_call_of 17 (Value.int .u64 (withN m n : Int)); refine (size_any (withN m n) hwl _).mono ?_; rintro e w3 ⟨rfl, rfl⟩)
        | (go_at_call_of 17 (Value.int .u64 (withoutN m n : Int)); refine (size_any (withoutN m n) hol _).mono ?_; rintro e w3 ⟨rfl, rfl⟩)
        | (go_at_call 9; refine (lives_any _ (Nat.lt_of_lt_of_le hlt.out hB2.out.size) (HL.out.below hB2.out hlt.out)).mono ?_; rintro e w4 ⟨rfl, hb4⟩))
      go_ret
      exact ⟨rfl, hB2.out.trans (hb4.mono hB2.out.size)⟩
    · have hk' : (n != k) = true := by simp [hk]
      have e4' := e4 hk
      have e5' := e5 hk
      clear hk e4 e5
      go_enter Tryd.func4, Tryd.ntmps4
      go_wp2_with (first
        | (go_at_call_of 14 (Value.int .u64 (m : Int)); refine (with_natB m n hm _).mono ?_; rintro e w1 ⟨rfl, hb1⟩; have hB1 := Lib.hid hb1; clear hb1)
        | (go_at_call_of 14 (Value.int .u64 (withN m n : Int)); refine (with_natB (withN m n) n hwl _).mono ?_; rintro e w2 ⟨rfl, hb2⟩; have hB2 := Lib.hid (hB1.out.trans (hb2.mono hB1.out.size)); clear hb2)
        | (go_at_call_of 15 (Value.int .u64 (m : Int)); refine (without_nat m n hm _).mono ?_; rintro e w3 ⟨rfl, rfl⟩)
        | (go_at_call_of 15 (Value.int .u64 (withoutN m n : Int)); refine (without_nat (withoutN m n) n hol _).mono ?_; rintro e w3 ⟨rfl, rfl⟩)
        | (go_at_call_of 16 (Value.int .u64 (m : Int)); refine (has_nat m _ hm _).mono ?_; rintro e w3 ⟨rfl, rfl⟩)
        | (go_at_call_of 16 (Value.int .u64 (withN m n : Int)); refine (has_nat (withN m n) _ hwl _).mono ?_; rintro e w3 ⟨rfl, rfl⟩)
        | (go_at_call_of 16 (Value.int .u64 (withoutN m n : Int)); refine (has_nat (withoutN m n) _ hol _).mono ?_; rintro e w3 ⟨rfl, rfl⟩)
        | (go_at_call_of 17 (Value.int .u64 (withN m n : Int)); refine (size_any (withN m n) hwl _).mono ?_; rintro e w3 ⟨rfl, rfl⟩)
        | (go_at_call_of 17 (Value.int .u64 (withoutN m n : Int)); refine (size_any (withoutN m n) hol _).mono ?_; rintro e w3 ⟨rfl, rfl⟩)
        | (go_at_call 9; refine (lives_any _ (Nat.lt_of_lt_of_le hlt.out hB2.out.size) (HL.out.below hB2.out hlt.out)).mono ?_; rintro e w4 ⟨rfl, hb4⟩))
      go_ret
      exact ⟨rfl, hB2.out.trans (hb4.mono hB2.out.size)⟩
  · have f1 := has_with m n hc0 hc
    have hl64 := Bt.bitsL_length (withoutN m n)
    have f2 : (((Bt.bitsL (withN m n)).length : Int) == ((Bt.bitsL (withoutN m n)).length : Int) + 1) = true := by rw [size_with m n hc0 hc hm]; simp
    by_cases hk : n = k
    · have hk' : (n != k) = false := by simp [hk]
      clear hk e4 e5
      go_enter Tryd.func4, Tryd.ntmps4
      go_wp2_with (first
        | (go_at_call_of 14 (Value.int .u64 (m : Int)); refine (with_natB m n hm _).mono ?_; rintro e w1 ⟨rfl, hb1⟩; have hB1 := Lib.hid hb1; clear hb1)
        | (go_at_call_of 14 (Value.int .u64 (withN m n : Int)); refine (with_natB (withN m n) n hwl _).mono ?_; rintro e w2 ⟨rfl, hb2⟩; have hB2 := Lib.hid (hB1.out.trans (hb2.mono hB1.out.size)); clear hb2)
        | (go_at_call_of 15 (Value.int .u64 (m : Int)); refine (without_nat m n hm _).mono ?_; rintro e w3 ⟨rfl, rfl⟩)
        | (go_at_call_of 15 (Value.int .u64 (withoutN m n : Int)); refine (without_nat (withoutN m n) n hol _).mono ?_; rintro e w3 ⟨rfl, rfl⟩)
        | (go_at_call_of 16 (Value.int .u64 (m : Int)); refine (has_nat m _ hm _).mono ?_; rintro e w3 ⟨rfl, rfl⟩)
        | (go_at_call_of 16 (Value.int .u64 (withN m n : Int)); refine (has_nat (withN m n) _ hwl _).mono ?_; rintro e w3 ⟨rfl, rfl⟩)
        | (go_at_call_of 16 (Value.int .u64 (withoutN m n : Int)); refine (has_nat (withoutN m n) _ hol _).mono ?_; rintro e w3 ⟨rfl, rfl⟩)
        | (go_at_call_of 17 (Value.int .u64 (withN m n : Int)); refine (size_any (withN m n) hwl _).mono ?_; rintro e w3 ⟨rfl, rfl⟩)
        | (go_at_call_of 17 (Value.int .u64 (withoutN m n : Int)); refine (size_any (withoutN m n) hol _).mono ?_; rintro e w3 ⟨rfl, rfl⟩)
        | (go_at_call 9; refine (lives_any _ (Nat.lt_of_lt_of_le hlt.out hB2.out.size) (HL.out.below hB2.out hlt.out)).mono ?_; rintro e w4 ⟨rfl, hb4⟩))
      go_ret
      exact ⟨rfl, hB2.out.trans (hb4.mono hB2.out.size)⟩
    · have hk' : (n != k) = true := by simp [hk]
      have e4' := e4 hk
      have e5' := e5 hk
      clear hk e4 e5
      go_enter Tryd.func4, Tryd.ntmps4
      go_wp2_with (first
        | (go_at_call_of 14 (Value.int .u64 (m : Int)); refine (with_natB m n hm _).mono ?_; rintro e w1 ⟨rfl, hb1⟩; have hB1 := Lib.hid hb1; clear hb1)
        | (go_at_call_of 14 (Value.int .u64 (withN m n : Int)); refine (with_natB (withN m n) n hwl _).mono ?_; rintro e w2 ⟨rfl, hb2⟩; have hB2 := Lib.hid (hB1.out.trans (hb2.mono hB1.out.size)); clear hb2)
        | (go_at_call_of 15 (Value.int .u64 (m : Int)); refine (without_nat m n hm _).mono ?_; rintro e w3 ⟨rfl, rfl⟩)
        | (go_at_call_of 15 (Value.int .u64 (withoutN m n : Int)); refine (without_nat (withoutN m n) n hol _).mono ?_; rintro e w3 ⟨rfl, rfl⟩)
        | (go_at_call_of 16 (Value.int .u64 (m : Int)); refine (has_nat m _ hm _).mono ?_; rintro e w3 ⟨rfl, rfl⟩)
        | (go_at_call_of 16 (Value.int .u64 (withN m n : Int)); refine (has_nat (withN m n) _ hwl _).mono ?_; rintro e w3 ⟨rfl, rfl⟩)
        | (go_at_call_of 16 (Value.int .u64 (withoutN m n : Int)); refine (has_nat (withoutN m n) _ hol _).mono ?_; rintro e w3 ⟨rfl, rfl⟩)
        | (go_at_call_of 17 (Value.int .u64 (withN m n : Int)); refine (size_any (withN m n) hwl _).mono ?_; rintro e w3 ⟨rfl, rfl⟩)
        | (go_at_call_of 17 (Value.int .u64 (withoutN m n : Int)); refine (size_any (withoutN m n) hol _).mono ?_; rintro e w3 ⟨rfl, rfl⟩)
        | (go_at_call 9; refine (lives_any _ (Nat.lt_of_lt_of_le hlt.out hB2.out.size) (HL.out.below hB2.out hlt.out)).mono ?_; rintro e w4 ⟨rfl, hb4⟩))
      go_ret
      exact ⟨rfl, hB2.out.trans (hb4.mono hB2.out.size)⟩

theorem walk (a0 : Int) (w0 : (Lit.int .u64 a0).wf = true) (a1 : Int) (w1 : (Lit.int .i64 a1).wf = true) (a2 : Int) (_w2 : (Lit.int .i64 a2).wf = true) (W : World) (hL : Laid W) :
    Calls Tryd.prog 4 #[.int .u64 a0, .int .i64 a1, .int .i64 a2] W fun e w' => e = .returned (.bool true) ∧ Below W.heap.size W w' := by
  obtain ⟨m, rfl, hm⟩ := nat_of_u64 w0
  have := bounds_i64 w1
  exact core m a1 a2 hm this.1 this.2 W hL

end Go.Proofs.YthcedodfedfkgaaDoor.maskTwice
