/- A cyclic sum over bits: it is linear; a burst of up to 32 changed bits is told. No program in sight. -/
import Derived.Test.YtgnhpjakjoaejaaDoorAcBytes
set_option linter.unusedVariables false
set_option linter.unusedSimpArgs false
namespace Go.Proofs.YtgnhpjakjoaejaaDoor.Crc
open Go.Proofs.YtgnhpjakjoaejaaDoor.Ac

def poly : BitVec 32 := 0x741b8cd7#32
def stepC (r : BitVec 32) (b : Bool) : BitVec 32 := (r <<< 1) ^^^ (if r.msb != b then poly else 0#32)
def runC (r : BitVec 32) (l : List Bool) : BitVec 32 := l.foldl stepC r
theorem runC_app (r : BitVec 32) (a b : List Bool) : runC r (a ++ b) = runC (runC r a) b := by simp [runC]
theorem runC_cons (r : BitVec 32) (b : Bool) (l : List Bool) : runC r (b :: l) = runC (stepC r b) l := rfl
theorem ite_xor (p q : Bool) (x : BitVec 32) : (if (p != q) then x else 0#32) = (if p then x else 0#32) ^^^ (if q then x else 0#32) := by
  cases p <;> cases q <;> simp
theorem step_xor (r s : BitVec 32) (b c : Bool) : stepC (r ^^^ s) (b != c) = stepC r b ^^^ stepC s c := by
  unfold stepC
  rw [BitVec.shiftLeft_xor_distrib, BitVec.msb_xor]
  have e : ((r.msb ^^ s.msb) != (b != c)) = ((r.msb != b) != (s.msb != c)) := by
    generalize r.msb = x
    generalize s.msb = y
    cases x <;> cases y <;> cases b <;> cases c <;> rfl
  rw [e, ite_xor]
  ac_rfl
theorem run_xor : ∀ (l m : List Bool) (r s : BitVec 32), l.length = m.length → runC (r ^^^ s) (List.zipWith (· != ·) l m) = runC r l ^^^ runC s m
  | [], [], _, _, _ => rfl
  | a :: l, b :: m, r, s, h => by
    rw [List.zipWith_cons_cons, runC_cons, runC_cons, runC_cons, step_xor]
    exact run_xor l m _ _ (by simpa using h)
theorem step_zero : stepC 0#32 false = 0#32 := by decide
theorem run_zero : ∀ n : Nat, runC 0#32 (List.replicate n false) = 0#32
  | 0 => rfl
  | n + 1 => by rw [List.replicate_succ, runC_cons, step_zero, run_zero n]
theorem step_ne {r : BitVec 32} (h : r ≠ 0#32) : stepC r false ≠ 0#32 := by
  intro e
  unfold stepC at e
  cases hm : r.msb with
  | true =>
    rw [hm] at e
    have := congrArg (fun x : BitVec 32 => x.getLsbD 0) e
    simp [poly] at this
  | false =>
    rw [hm] at e
    simp only [bne_self_eq_false, Bool.false_eq_true, if_false, BitVec.xor_zero] at e
    apply h
    apply BitVec.eq_of_getLsbD_eq
    intro i hi
    by_cases h31 : i = 31
    · subst h31
      rw [BitVec.msb_eq_getLsbD_last] at hm
      simpa using hm
    · have := congrArg (fun x : BitVec 32 => x.getLsbD (i + 1)) e
      simp only [BitVec.getLsbD_shiftLeft, BitVec.getLsbD_zero] at this
      have h1 : i + 1 < 32 := by omega
      simpa [h1] using this
theorem run_ne : ∀ (n : Nat) {r : BitVec 32}, r ≠ 0#32 → runC r (List.replicate n false) ≠ 0#32
  | 0, _, h => h
  | n + 1, _, h => by rw [List.replicate_succ, runC_cons]; exact run_ne n (step_ne h)
/-- Bits as a number's topmost. -/
def word : List Bool → BitVec 32
  | [] => 0#32
  | b :: l => (if b then 0x80000000#32 else 0#32) ^^^ (word l >>> 1)
theorem word_low : ∀ (l : List Bool) (i : Nat), i + l.length < 32 → (word l).getLsbD i = false
  | [], i, _ => by simp [word]
  | b :: l, i, h => by
    rw [List.length_cons] at h
    have h1 := word_low l (i + 1) (by omega)
    have h2 : (if b then 0x80000000#32 else 0#32).getLsbD i = false := by
      cases b
      · simp
      · have : i < 31 := by omega
        simp only [if_true]
        have e : (0x80000000#32 : BitVec 32) = 1#32 <<< 31 := by decide
        rw [e, BitVec.getLsbD_shiftLeft]
        simp [this]
    rw [word, BitVec.getLsbD_xor, h2, BitVec.getLsbD_ushiftRight, show 1 + i = i + 1 from by omega, h1]
    rfl
theorem word_msb (b : Bool) (l : List Bool) : (word (b :: l)).msb = b := by
  rw [word, BitVec.msb_xor]
  have : (word l >>> 1).msb = false := by simp [BitVec.msb_eq_getLsbD_last]
  rw [this]
  cases b <;> decide
theorem word_shl (b : Bool) (l : List Bool) (h : l.length < 32) : word (b :: l) <<< 1 = word l := by
  have h0 := word_low l 0 (by omega)
  apply BitVec.eq_of_getLsbD_eq
  intro i hi
  rw [BitVec.getLsbD_shiftLeft]
  cases i with
  | zero => rw [h0]; simp
  | succ i =>
    rw [word, BitVec.getLsbD_xor, BitVec.getLsbD_ushiftRight]
    have h2 : (if b then 0x80000000#32 else 0#32).getLsbD (i + 1 - 1) = false := by
      cases b
      · simp
      · have : i < 31 := by omega
        simp only [if_true]
        have e : (0x80000000#32 : BitVec 32) = 1#32 <<< 31 := by decide
        rw [e, BitVec.getLsbD_shiftLeft]
        simp [this]
    rw [h2]
    simp [hi, Nat.add_comm]
theorem step_word (b : Bool) (l : List Bool) (h : l.length < 32) : stepC (word (b :: l)) b = word l := by
  unfold stepC
  rw [word_msb, word_shl b l h]
  simp
theorem run_word : ∀ (l : List Bool) (r : BitVec 32), l.length ≤ 32 → runC r l = runC (r ^^^ word l) (List.replicate l.length false)
  | [], r, _ => by simp [word, runC]
  | b :: l, r, h => by
    rw [List.length_cons] at h
    rw [runC_cons, run_word l _ (by omega), List.length_cons, List.replicate_succ, runC_cons]
    congr 1
    have := step_xor r (word (b :: l)) b b
    rw [bne_self_eq_false] at this
    rw [this, step_word b l (by omega)]
theorem word_ne : ∀ (l : List Bool), l.length ≤ 32 → true ∈ l → word l ≠ 0#32
  | b :: l, h, hm, e => by
    rw [List.length_cons] at h
    have h1 := word_msb b l
    have h2 := word_shl b l (by omega)
    rw [e] at h1 h2
    have hb : b = false := by rw [← h1]; decide
    subst hb
    simp at hm
    refine word_ne l (by omega) hm ?_
    rw [← h2]
    decide
/-- A burst: nothing, then up to 32 bits of which one is set, then nothing. -/
theorem burst (D : List Bool) (k : Nat) (h0 : ∀ j, j < k → D[j]? = some false) (h1 : D[k]? = some true) (h2 : ∀ j, k + 32 ≤ j → j < D.length → D[j]? = some false) : runC 0#32 D ≠ 0#32 := by
  have hk := (List.getElem?_eq_some_iff.1 h1).1
  have e1 : D.take k = List.replicate k false := by
    apply List.ext_getElem?
    intro j
    rw [List.getElem?_take, List.getElem?_replicate]
    split
    · rename_i h; exact h0 j h
    · rfl
  have e2 : D.drop (k + 32) = List.replicate (D.length - (k + 32)) false := by
    apply List.ext_getElem?
    intro j
    rw [List.getElem?_drop, List.getElem?_replicate]
    split
    · exact h2 _ (by omega) (by omega)
    · exact List.getElem?_eq_none (by omega)
  have e3 : D = D.take k ++ ((D.drop k).take 32 ++ D.drop (k + 32)) := by
    rw [← List.drop_drop, List.take_append_drop, List.take_append_drop]
  have hl : ((D.drop k).take 32).length ≤ 32 := by rw [List.length_take]; omega
  have hm : true ∈ (D.drop k).take 32 := by
    refine List.mem_of_getElem? (i := 0) ?_
    rw [List.getElem?_take, if_pos (by decide), List.getElem?_drop, Nat.add_zero]
    exact h1
  rw [e3, runC_app, runC_app, e1, run_zero, e2, run_word _ _ hl]
  refine run_ne _ (run_ne _ ?_)
  rw [BitVec.zero_xor]
  exact word_ne _ hl hm

/-! ### Over bytes -/
def bitsB (x : UInt8) : List Bool := [x.toNat.testBit 7, x.toNat.testBit 6, x.toNat.testBit 5, x.toNat.testBit 4, x.toNat.testBit 3, x.toNat.testBit 2, x.toNat.testBit 1, x.toNat.testBit 0]
def bitsL (l : Bs) : List Bool := l.flatMap bitsB
theorem bitsB_len (x : UInt8) : (bitsB x).length = 8 := rfl
theorem bitsL_cons (x : UInt8) (l : Bs) : bitsL (x :: l) = bitsB x ++ bitsL l := rfl
theorem bitsL_app (a b : Bs) : bitsL (a ++ b) = bitsL a ++ bitsL b := by simp [bitsL]
theorem bitsL_len : ∀ l : Bs, (bitsL l).length = 8 * l.length
  | [] => rfl
  | x :: l => by rw [bitsL_cons, List.length_append, bitsL_len l, bitsB_len, List.length_cons]; omega
theorem bitsB_at (x : UInt8) (i : Nat) (h : i < 8) : (bitsB x)[i]? = some (x.toNat.testBit (7 - i)) := by
  unfold bitsB
  match i, h with
  | 0, _ => rfl
  | 1, _ => rfl
  | 2, _ => rfl
  | 3, _ => rfl
  | 4, _ => rfl
  | 5, _ => rfl
  | 6, _ => rfl
  | 7, _ => rfl
theorem bitsL_at : ∀ (l : Bs) (j : Nat), (bitsL l)[j]? = (l[j / 8]?).map fun x => x.toNat.testBit (7 - j % 8)
  | [], j => by simp [bitsL]
  | x :: l, j => by
    rw [bitsL_cons]
    by_cases h : j < 8
    · rw [List.getElem?_append_left (by rw [bitsB_len]; exact h), bitsB_at x j h, show j / 8 = 0 by omega, show j % 8 = j by omega]
      rfl
    · rw [List.getElem?_append_right (by rw [bitsB_len]; omega), bitsB_len, bitsL_at l, show j / 8 = (j - 8) / 8 + 1 by omega, List.getElem?_cons_succ, show j % 8 = (j - 8) % 8 by omega]
def crc (l : Bs) : BitVec 32 := runC (BitVec.allOnes 32) (bitsL l)
/-- A word's bits, out of its bytes. -/
theorem word_at : ∀ (l : List Bool) (i : Nat), i < 32 → l.length ≤ 32 → (word l).getLsbD i = (l[31 - i]?).getD false
  | [], i, _, _ => by simp [word]
  | b :: l, i, h, hl => by
    rw [List.length_cons] at hl
    rw [word, BitVec.getLsbD_xor, BitVec.getLsbD_ushiftRight]
    by_cases h31 : i = 31
    · subst h31
      have : (word l).getLsbD (1 + 31) = false := by simp
      rw [this]
      cases b <;> rfl
    · have h2 : (if b then 0x80000000#32 else 0#32).getLsbD i = false := by
        cases b
        · simp
        · have : i < 31 := by omega
          simp only [if_true]
          have e : (0x80000000#32 : BitVec 32) = 1#32 <<< 31 := by decide
          rw [e, BitVec.getLsbD_shiftLeft]
          simp [this]
      rw [h2, word_at l (1 + i) (by omega) (by omega), show 31 - i = (31 - (1 + i)) + 1 by omega, List.getElem?_cons_succ]
      simp
theorem word_val {l : Bs} (h : l.length = 4) : word (bitsL l) = BitVec.ofNat 32 (val l) := by
  match l, h with
  | [a, b, c, d], _ =>
    apply BitVec.eq_of_getLsbD_eq
    intro i hi
    rw [word_at _ i hi (by rw [bitsL_len]; simp), bitsL_at, BitVec.getLsbD_ofNat]
    have ha := a.toNat_lt
    have hb := b.toNat_lt
    have hc := c.toNat_lt
    have hd := d.toNat_lt
    have hv : val [a, b, c, d] = ((a.toNat * 256 + b.toNat) * 256 + c.toNat) * 256 + d.toNat := by simp [val]
    rw [hv]
    have key : ∀ (x y q i : Nat), y < 2 ^ q → (x * 2 ^ q + y).testBit i = if i < q then y.testBit i else x.testBit (i - q) := by
      intro x y q i hy
      rw [Nat.mul_comm, Nat.testBit_two_pow_mul_add _ hy]
    have k1 := fun x y i (hy : y < 256) => key x y 8 i hy
    simp only [show (2 : Nat) ^ 8 = 256 from rfl] at k1
    rw [k1 _ _ _ hd]
    by_cases h1 : i < 8
    · rw [if_pos h1, show (31 - i) / 8 = 3 by omega, show 7 - (31 - i) % 8 = i by omega]
      simp [hi]
    · rw [if_neg h1, k1 _ _ _ hc]
      by_cases h2 : i - 8 < 8
      · rw [if_pos h2, show (31 - i) / 8 = 2 by omega, show 7 - (31 - i) % 8 = i - 8 by omega]
        simp [hi]
      · rw [if_neg h2, k1 _ _ _ hb]
        by_cases h3 : i - 8 - 8 < 8
        · rw [if_pos h3, show (31 - i) / 8 = 1 by omega, show 7 - (31 - i) % 8 = i - 8 - 8 by omega]
          simp [hi]
        · rw [if_neg h3, show (31 - i) / 8 = 0 by omega, show 7 - (31 - i) % 8 = i - 8 - 8 - 8 by omega]
          simp [hi]
/-- Bytes with their sum behind them: their run ends at nothing. -/
theorem sealed_iff (M S : Bs) (h : S.length = 4) : runC (BitVec.allOnes 32) (bitsL (M ++ S)) = 0#32 ↔ (crc M).toNat = val S := by
  have hl : (bitsL S).length = 32 := by rw [bitsL_len, h]
  have hv : val S < 2 ^ 32 := by
    have := val_lt S
    rw [h] at this
    exact this
  rw [bitsL_app, runC_app, run_word _ _ (by omega), word_val h, hl]
  show runC (crc M ^^^ _) _ = _ ↔ _
  constructor
  · intro e
    have : crc M ^^^ BitVec.ofNat 32 (val S) = 0#32 := by
      by_cases hx : crc M ^^^ BitVec.ofNat 32 (val S) = 0#32
      · exact hx
      · exact absurd e (run_ne 32 hx)
    have h2 : crc M = BitVec.ofNat 32 (val S) := BitVec.xor_eq_zero_iff.1 this
    rw [h2, BitVec.toNat_ofNat, Nat.mod_eq_of_lt hv]
  · intro e
    have : crc M = BitVec.ofNat 32 (val S) := by
      apply BitVec.eq_of_toNat_eq
      rw [e, BitVec.toNat_ofNat, Nat.mod_eq_of_lt hv]
    rw [this, BitVec.xor_self, run_zero]
/-- Sealed bytes of which bits in a burst are changed are not sealed. -/
theorem told {M S M' S' : Bs} (hS : S.length = 4) (hS' : S'.length = 4) (hM : M.length = M'.length) (h : (crc M).toNat = val S) (k : Nat)
    (hd : ∀ j x y, (bitsL (M ++ S))[j]? = some x → (bitsL (M' ++ S'))[j]? = some y → (j < k → x = y) ∧ (j = k → x ≠ y) ∧ (k + 32 ≤ j → x = y)) (hk : k < 8 * (M ++ S).length) : (crc M').toNat ≠ val S' := by
  intro e
  have h1 := (sealed_iff M S hS).2 h
  have h2 := (sealed_iff M' S' hS').2 e
  have hl : (bitsL (M ++ S)).length = (bitsL (M' ++ S')).length := by rw [bitsL_len, bitsL_len, List.length_append, List.length_append, hM, hS, hS']
  have h3 := run_xor (bitsL (M ++ S)) (bitsL (M' ++ S')) (BitVec.allOnes 32) (BitVec.allOnes 32) hl
  rw [BitVec.xor_self, h1, h2, BitVec.xor_self] at h3
  have hz : ∀ j x y, (bitsL (M ++ S))[j]? = some x → (bitsL (M' ++ S'))[j]? = some y → (List.zipWith (· != ·) (bitsL (M ++ S)) (bitsL (M' ++ S')))[j]? = some (x != y) := fun j x y hx hy => by
    rw [List.getElem?_zipWith, hx, hy]
  have hat : ∀ j, j < (bitsL (M ++ S)).length → ∃ x y, (bitsL (M ++ S))[j]? = some x ∧ (bitsL (M' ++ S'))[j]? = some y := fun j hj => ⟨_, _, List.getElem?_eq_getElem hj, List.getElem?_eq_getElem (by omega)⟩
  have hkl : k < (bitsL (M ++ S)).length := by rw [bitsL_len]; exact hk
  refine burst _ k (fun j hj => ?_) ?_ (fun j hj hjl => ?_) h3
  · obtain ⟨x, y, hx, hy⟩ := hat j (by omega)
    rw [hz j x y hx hy, (hd j x y hx hy).1 hj]
    simp
  · obtain ⟨x, y, hx, hy⟩ := hat k hkl
    rw [hz k x y hx hy]
    have := (hd k x y hx hy).2.1 rfl
    cases x <;> cases y <;> simp_all
  · rw [List.length_zipWith] at hjl
    obtain ⟨x, y, hx, hy⟩ := hat j (by omega)
    rw [hz j x y hx hy, (hd j x y hx hy).2.2 hj]
    simp
end Go.Proofs.YtgnhpjakjoaejaaDoor.Crc
