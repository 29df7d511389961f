/- A burst of bits changed in a packet's bytes, plainly. -/
import Derived.Test.YtgnhpjakjoaejaaDoorPkPl
set_option linter.unusedVariables false
set_option linter.unusedSimpArgs false
set_option linter.unusedVariables false
namespace Go.Proofs.YtgnhpjakjoaejaaDoor.Pk
open Go.Proofs.YtgnhpjakjoaejaaDoor.Ac Go.Proofs.YtgnhpjakjoaejaaDoor.Crc

/-- What a byte is when a bit of it, from the highest on, is turned. -/
def turnB (x : UInt8) (i : Nat) : UInt8 := UInt8.ofNat (x.toNat ^^^ (128 >>> i))
def turnL (l : Bs) (j : Nat) : Bs := l.set (j / 8) (turnB (l.getD (j / 8) 0) (j % 8))
def burstL (l : Bs) (s u : Nat) : Nat → Bs
  | 0 => l
  | n + 1 => if u.testBit n then turnL (burstL l s u n) (s + n) else burstL l s u n
theorem turnB_nat (x : UInt8) (i : Nat) : (turnB x i).toNat = x.toNat ^^^ (128 >>> i) := by
  unfold turnB
  have h1 : x.toNat < 2 ^ 8 := x.toNat_lt
  have h2 : 128 >>> i < 2 ^ 8 := by
    rw [Nat.shiftRight_eq_div_pow]
    exact Nat.lt_of_le_of_lt (Nat.div_le_self _ _) (by decide)
  have h3 := Nat.xor_lt_two_pow h1 h2
  rw [UInt8.toNat_ofNat']
  exact Nat.mod_eq_of_lt h3
theorem turnB_bit (x : UInt8) {i k : Nat} (hi : i < 8) (hk : k < 8) : (turnB x i).toNat.testBit (7 - k) = (x.toNat.testBit (7 - k) ^^ decide (k = i)) := by
  rw [turnB_nat, Nat.testBit_xor, Nat.testBit_shiftRight]
  congr 1
  rw [show (128 : Nat) = 2 ^ 7 from rfl, Nat.testBit_two_pow]
  rw [decide_eq_decide]
  omega
theorem turnL_len (l : Bs) (j : Nat) : (turnL l j).length = l.length := by
  unfold turnL
  rw [List.length_set]
theorem burstL_len (l : Bs) (s u : Nat) : ∀ n, (burstL l s u n).length = l.length
  | 0 => rfl
  | n + 1 => by
    unfold burstL
    split
    · rw [turnL_len, burstL_len l s u n]
    · exact burstL_len l s u n
theorem bitsL_turn (l : Bs) {j : Nat} (hj : j < 8 * l.length) (i : Nat) : (bitsL (turnL l j))[i]? = ((bitsL l)[i]?).map fun b => b ^^ decide (i = j) := by
  rw [bitsL_at, bitsL_at]
  unfold turnL
  rw [List.getElem?_set]
  by_cases h : j / 8 = i / 8
  · rw [if_pos h, if_pos (by omega), Option.map_some]
    rw [← h, List.getD, List.getElem?_eq_getElem (by omega : j / 8 < l.length), Option.getD_some, Option.map_some, Option.map_some, turnB_bit _ (by omega) (by omega)]
    congr 2
    rw [decide_eq_decide]
    omega
  · rw [if_neg h, Option.map_map]
    congr 1
    funext x
    simp only [Function.comp]
    rw [decide_eq_false (by intro e; subst e; exact h rfl), Bool.xor_false]
theorem burst_at (l : Bs) (s u : Nat) : ∀ n, s + n ≤ 8 * l.length → ∀ i, (bitsL (burstL l s u n))[i]? = ((bitsL l)[i]?).map fun b => b ^^ (decide (s ≤ i) && decide (i < s + n) && u.testBit (i - s))
  | 0, _, i => by
    unfold burstL
    have e : (decide (s ≤ i) && decide (i < s + 0) && u.testBit (i - s)) = false := by
      by_cases h : s ≤ i
      · rw [decide_eq_false (by omega : ¬ i < s + 0)]
        simp
      · rw [decide_eq_false h]
        simp
    rw [e]
    simp
  | n + 1, h, i => by
    unfold burstL
    have ih := burst_at l s u n (by omega) i
    split
    case isTrue hb =>
      rw [bitsL_turn _ (by rw [burstL_len]; omega), ih, Option.map_map]
      congr 1
      funext x
      simp only [Function.comp, Bool.xor_assoc]
      congr 1
      by_cases e : i = s + n
      · subst e
        rw [decide_eq_false (by omega : ¬ s + n < s + n), decide_eq_true (by omega : s ≤ s + n), decide_eq_true (by omega : s + n < s + (n + 1)), show s + n - s = n by omega, hb]
        simp
      · rw [decide_eq_false e, Bool.xor_false, show decide (i < s + n) = decide (i < s + (n + 1)) by rw [decide_eq_decide]; omega]
    case isFalse hb =>
      rw [ih]
      congr 1
      funext x
      congr 1
      by_cases e : i = s + n
      · subst e
        rw [show s + n - s = n by omega, Bool.eq_false_iff.2 hb]
        simp
      · rw [show decide (i < s + n) = decide (i < s + (n + 1)) by rw [decide_eq_decide]; omega]
theorem turnL_take (l : Bs) {j : Nat} (hj : 32 ≤ j) : (turnL l j).take 4 = l.take 4 := by
  unfold turnL
  exact List.take_set_of_le (by omega)
theorem burstL_take (l : Bs) {s : Nat} (u : Nat) (hs : 32 ≤ s) : ∀ n, (burstL l s u n).take 4 = l.take 4
  | 0 => rfl
  | n + 1 => by
    unfold burstL
    split
    · rw [turnL_take _ (by omega), burstL_take l u hs n]
    · exact burstL_take l u hs n
/-- Read behind a burst: nothing. -/
theorem readP_burstL {p : Pkt} (h : goodP p = true) {k u n : Nat} (hn1 : 1 ≤ n) (hn : n ≤ 32) (hk : 32 + k + n ≤ 8 * (bytesP p).length) (hu : u.testBit 0 = true) : readP (burstL (bytesP p) (32 + k) u n) = none := by
  refine readP_burst h (burstL_len _ _ _ _) (burstL_take _ u (by omega) n) (32 + k) (by omega) fun j x y hx hy => ?_
  rw [burst_at _ _ _ n (by omega), hx, Option.map_some] at hy
  have hy := Option.some.inj hy
  subst hy
  refine ⟨fun hj => ?_, fun hj => ?_, fun hj => ?_⟩
  · rw [decide_eq_false (by omega : ¬ 32 + k ≤ j)]
    simp
  · subst hj
    rw [decide_eq_true (by omega : 32 + k ≤ 32 + k), decide_eq_true (by omega : 32 + k < 32 + k + n), Nat.sub_self, hu]
    cases x <;> simp
  · rw [decide_eq_false (by omega : ¬ j < 32 + k + n)]
    simp
end Go.Proofs.YtgnhpjakjoaejaaDoor.Pk
