/- MaskBack: its walk: true for every input. -/
import Derived.Test.YthcedodfedfkgaaDoorMkLists
namespace Go.Proofs.YthcedodfedfkgaaDoor.maskBack
open Go.RowKit Go.Shelf Go.Proofs.YthcedodfedfkgaaDoorW.PrintWords Go.Proofs.YthcedodfedfkgaaDoor.maskLists

theorem ofL_bits (m : Nat) (hm : m < 18446744073709551616) : ofL (bitsI m) = m := by
  have key : ∀ (l : List Nat) (a i : Nat), (∀ j ∈ l, j < 64) → (((l.map fun j : Nat => (j : Int)).foldl (fun a z => a ||| oneN z) a)).testBit i = (a.testBit i || decide (i ∈ l)) := by
    intro l
    induction l with
    | nil => intro a i _; simp
    | cons x l ih =>
      intro a i h
      rw [List.map_cons, List.foldl_cons, ih _ i (fun j hj => h j (by simp [hj])), Nat.testBit_or, oneN_bit]
      have hx := h x (by simp)
      simp [show (x : Int) < 64 from by omega, Bool.or_assoc]
  apply bits_ext
  intro i
  unfold ofL bitsI
  rw [key _ _ _ (fun j hj => (Bt.mem_bitsL.1 hj).1)]
  by_cases hi : i < 64
  · simp [Bt.mem_bitsL, hi]
  · simp [Bt.mem_bitsL, hi, testBit_ge hm (by omega : 64 ≤ i)]

/-- What does not fall off. -/
def keep (m k : Nat) : Nat := 2 ^ k * (m / 2 ^ k)
theorem keep_bit (m k i : Nat) : (keep m k).testBit i = (decide (k ≤ i) && m.testBit i) := by
  unfold keep
  rw [Nat.testBit_two_pow_mul, Nat.testBit_div_two_pow]
  by_cases h : k ≤ i
  · rw [show i - k + k = i from by omega]
  · simp [h]
theorem keep_lt (m k : Nat) (hm : m < 18446744073709551616) : keep m k < 18446744073709551616 :=
  Nat.lt_of_le_of_lt (Nat.mul_div_le m (2 ^ k)) hm
theorem keep_and (m k : Nat) (hm : m < 18446744073709551616) : m &&& (18446744073709551615 - belowN k) = keep m k := by
  apply bits_ext
  intro i
  rw [Nat.testBit_and, compl_bit _ (belowN_lt _), belowN_bit, keep_bit]
  by_cases hi : i < 64
  · by_cases hk : k ≤ i
    · simp [hi, hk]
    · simp [hi, hk]; omega
  · simp [testBit_ge hm (by omega : 64 ≤ i)]
theorem slide_back (m k : Nat) (hm : m < 18446744073709551616) : slideN (slideN m (k : Int)) (-(k : Int)) = keep m k := by
  have e1 : slideN m (k : Int) = m / 2 ^ k := by unfold slideN; rw [if_neg (by omega), show ((k : Int)).toNat = k from by omega]
  rw [e1]
  by_cases h0 : k = 0
  · subst h0
    unfold slideN keep
    simp
  · unfold slideN
    rw [if_pos (by omega), show (-(-(k : Int))).toNat = k from by omega, Nat.mul_comm]
    exact Nat.mod_eq_of_lt (keep_lt m k hm)
theorem pc_zero : ∀ k, Bt.pc k 0 = 0
  | 0 => rfl
  | k + 1 => by simp [Bt.pc, pc_zero k]
theorem size_keep (m k : Nat) (hm : m < 18446744073709551616) (hk : k < 64) : (Bt.bitsL (slideN m (k : Int))).length = (Bt.bitsL (keep m k)).length := by
  have e1 : slideN m (k : Int) = m / 2 ^ k := by unfold slideN; rw [if_neg (by omega), show ((k : Int)).toNat = k from by omega]
  rw [e1, ← Bt.pc_bitsL, ← Bt.pc_bitsL]
  have hlt : m / 2 ^ k < 2 ^ (64 - k) := by
    rw [Nat.div_lt_iff_lt_mul (Nat.two_pow_pos k), ← Nat.pow_add, show 64 - k + k = 64 from by omega]
    exact hm
  have h1 := Bt.pc_split 0 (64 - k) k (m / 2 ^ k) hlt
  rw [show 64 - k + k = 64 from by omega, Nat.mul_zero, Nat.add_zero, pc_zero, Nat.add_zero] at h1
  have h2 := Bt.pc_split (m / 2 ^ k) k (64 - k) 0 (Nat.two_pow_pos k)
  rw [show k + (64 - k) = 64 from by omega, Nat.zero_add, pc_zero, Nat.zero_add] at h2
  rw [h1]
  unfold keep
  rw [h2]
theorem slide_zero (m : Nat) : slideN m 0 = m := by unfold slideN; simp

set_option maxRecDepth 100000 in
set_option maxHeartbeats 4000000 in
theorem core (m n : Nat) (hm : m < 18446744073709551616) (hn : n < 18446744073709551616) (W : World) (hL : Laid W) :
    Calls Tryd.prog 8 #[.int .u64 m, .int .u64 n] W fun e w' => e = .returned (.bool true) ∧ Below W.heap.size W w' := by
  have HL := Lib.hid hL
  have hlt := Lib.hid hL.lt
  clear hL
  obtain ⟨k, hk⟩ : ∃ k : Nat, n % 64 = k := ⟨_, rfl⟩
  have hk64 : k < 64 := by omega
  have hmod : Hid ((n : Int) % 64 = (k : Int)) := by unfold Hid; omega
  clear hk
  have hofe := ofL_bits m hm
  have hsb := Lib.hid (slide_back m k hm)
  have hand : bits BinOp.andNot .u64 (m : Int) (belowN k) = (keep m k : Int) := by rw [andNot_u64_nat m _ hm (belowN_lt _), keep_and m k hm]
  have hsz : (((bitsI m).length : Int) != ((Bt.bitsL m).length : Int)) = false := by simp [bitsI]
  have hsk : (((Bt.bitsL (slideN m k)).length : Int) == ((Bt.bitsL (keep m k)).length : Int)) = true := by rw [size_keep m k hm hk64]; simp
  go_enter Tryd.func8, Tryd.ntmps8
  go_wp2_with (first
    | (go_at_call 26; rw [hmod.out]; refine (list_C m hm (-1) _ HL.out).mono ?_; rintro e w2 ⟨A2, c2, rfl, hc2, hC2, hb2⟩; rw [listI_all m (-1) (.inl (by omega))] at hc2 hC2 ⊢; have HC2 := Lib.hid hC2; have hB2 := Lib.hid hb2; clear hC2 hb2; have hle := bitsI_le m)
    | (go_at_call 12; refine (of_any A2 c2 (bitsI m) _ HC2.out (by omega)).mono ?_; rintro e w3 ⟨rfl, hb3⟩; have hB3 : Hid (Below W.heap.size W w3) := below_then hB2.out hB2.out.size hb3; clear hb3)
    | (go_at_call_of 17 (Value.int .u64 (m : Int)); refine (size_any m hm _).mono ?_; rintro e w4 ⟨rfl, rfl⟩)
    | (go_at_call_of 17 (Value.int .u64 (slideN m k : Int)); refine (size_any (slideN m k) (slideN_lt m k hm) _).mono ?_; rintro e w4 ⟨rfl, rfl⟩)
    | (go_at_call_of 17 (Value.int .u64 (keep m k : Int)); refine (size_any (keep m k) (keep_lt m k hm) _).mono ?_; rintro e w4 ⟨rfl, rfl⟩)
    | (go_at_call_of 10 (Value.int .i64 (k : Int)); refine (slide_any m k _ hm (by omega) (by omega)).mono ?_; rintro e w4 ⟨rfl, rfl⟩)
    | (go_at_call_of 10 (Value.int .i64 (-(k : Int))); refine (slide_any (slideN m k) (-(k : Int)) _ (slideN_lt m k hm) (by omega) (by omega)).mono ?_; rintro e w4 ⟨rfl, rfl⟩; rw [hsb.out])
    | (go_at_call_of 10 (Value.int .i64 0); refine (slide_any m 0 _ hm (by omega) (by omega)).mono ?_; rintro e w4 ⟨rfl, rfl⟩; rw [slide_zero])
    | (go_at_call 19; refine (below_any k _).mono ?_; rintro e w4 ⟨rfl, rfl⟩)
    | (go_at_call 9; refine (lives_any _ ?_ ?_).mono ?_; exact Nat.lt_of_lt_of_le hlt.out hB3.out.size; exact HL.out.below hB3.out hlt.out; rintro e w6 ⟨rfl, hb6⟩))
  go_ret
  exact ⟨rfl, below_then hB3.out hB3.out.size hb6⟩

theorem walk (a0 : Int) (w0 : (Lit.int .u64 a0).wf = true) (a1 : Int) (w1 : (Lit.int .u64 a1).wf = true) (W : World) (hL : Laid W) :
    Calls Tryd.prog 8 #[.int .u64 a0, .int .u64 a1] W fun e w' => e = .returned (.bool true) ∧ Below W.heap.size W w' := by
  obtain ⟨m, rfl, hm⟩ := nat_of_u64 w0
  obtain ⟨n, rfl, hn⟩ := nat_of_u64 w1
  exact core m n hm hn W hL

end Go.Proofs.YthcedodfedfkgaaDoor.maskBack
