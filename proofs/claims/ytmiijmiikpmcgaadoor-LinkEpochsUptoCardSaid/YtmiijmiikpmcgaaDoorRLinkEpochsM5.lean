/- Texts joined: PkCrc, TpPlain, TpFns, LRangeW. -/
import Derived.Lib.Bytealg
import Derived.Test.YtmiijmiikpmcgaaDoorProg
import Derived.WalkSpells
import Derived.Lib.Hide
import Derived.Lib.Strings
import Derived.Laws.RangeAny
import Derived.Laws.Externs
import Derived.WalkLawsBesides
import Derived.RangeFuncNested
import Derived.RangeFuncBound
import Derived.RangeFuncCalls
import Derived.RangeFuncLeaves
import Derived.Shelf.Abstract
import Derived.Shelf.RegionOpen
import Derived.OwnWalkIn
import Derived.TacticsInMore
import Derived.LoopNIn
import Derived.LoopIn
import Derived.Test.YtmiijmiikpmcgaaDoorRLinkEpochsM1
import Derived.Test.YtmiijmiikpmcgaaDoorRLinkEpochsM4
section
/- A cyclic sum over bits: it is linear; a burst of up to 32 changed bits is told. No program in sight. -/
set_option linter.unusedVariables false
set_option linter.unusedSimpArgs false
namespace Go.Proofs.YtmiijmiikpmcgaaDoor.Crc
open Go.Proofs.YtmiijmiikpmcgaaDoor.Ac

def poly : BitVec 32 := 0x741b8cd7#32
def stepC (r : BitVec 32) (b : Bool) : BitVec 32 := (r <<< 1) ^^^ (if r.msb != b then poly else 0#32)
def runC (r : BitVec 32) (l : List Bool) : BitVec 32 := l.foldl stepC r
theorem runC_app (r : BitVec 32) (a b : List Bool) : runC r (a ++ b) = runC (runC r a) b := by simp [runC]
theorem runC_cons (r : BitVec 32) (b : Bool) (l : List Bool) : runC r (b :: l) = runC (stepC r b) l := rfl
theorem ite_xor (p q : Bool) (x : BitVec 32) : (if (p != q) then x else 0#32) = (if p then x else 0#32) ^^^ (if q then x else 0#32) := by
  cases p <;> cases q <;> simp
theorem step_xor (r s : BitVec 32) (b c : Bool) : stepC (r ^^^ s) (b != c) = stepC r b ^^^ stepC s c := by
  unfold stepC
  rw [BitVec.shiftLeft_xor_distrib, BitVec.msb_xor]
  have e : ((r.msb ^^ s.msb) != (b != c)) = ((r.msb != b) != (s.msb != c)) := by
    generalize r.msb = x
    generalize s.msb = y
    cases x <;> cases y <;> cases b <;> cases c <;> rfl
  rw [e, ite_xor]
  ac_rfl
theorem run_xor : ∀ (l m : List Bool) (r s : BitVec 32), l.length = m.length → runC (r ^^^ s) (List.zipWith (· != ·) l m) = runC r l ^^^ runC s m
  | [], [], _, _, _ => rfl
  | a :: l, b :: m, r, s, h => by
    rw [List.zipWith_cons_cons, runC_cons, runC_cons, runC_cons, step_xor]
    exact run_xor l m _ _ (by simpa using h)
theorem step_zero : stepC 0#32 false = 0#32 := by decide
theorem run_zero : ∀ n : Nat, runC 0#32 (List.replicate n false) = 0#32
  | 0 => rfl
  | n + 1 => by rw [List.replicate_succ, runC_cons, step_zero, run_zero n]
theorem step_ne {r : BitVec 32} (h : r ≠ 0#32) : stepC r false ≠ 0#32 := by
  intro e
  unfold stepC at e
  cases hm : r.msb with
  | true =>
    rw [hm] at e
    have := congrArg (fun x : BitVec 32 => x.getLsbD 0) e
    simp [poly] at this
  | false =>
    rw [hm] at e
    simp only [bne_self_eq_false, Bool.false_eq_true, if_false, BitVec.xor_zero] at e
    apply h
    apply BitVec.eq_of_getLsbD_eq
    intro i hi
    by_cases h31 : i = 31
    · subst h31
      rw [BitVec.msb_eq_getLsbD_last] at hm
      simpa using hm
    · have := congrArg (fun x : BitVec 32 => x.getLsbD (i + 1)) e
      simp only [BitVec.getLsbD_shiftLeft, BitVec.getLsbD_zero] at this
      have h1 : i + 1 < 32 := by omega
      simpa [h1] using this
theorem run_ne : ∀ (n : Nat) {r : BitVec 32}, r ≠ 0#32 → runC r (List.replicate n false) ≠ 0#32
  | 0, _, h => h
  | n + 1, _, h => by rw [List.replicate_succ, runC_cons]; exact run_ne n (step_ne h)
/-- Bits as a number's topmost. -/
def word : List Bool → BitVec 32
  | [] => 0#32
  | b :: l => (if b then 0x80000000#32 else 0#32) ^^^ (word l >>> 1)
theorem word_low : ∀ (l : List Bool) (i : Nat), i + l.length < 32 → (word l).getLsbD i = false
  | [], i, _ => by simp [word]
  | b :: l, i, h => by
    rw [List.length_cons] at h
    have h1 := word_low l (i + 1) (by omega)
    have h2 : (if b then 0x80000000#32 else 0#32).getLsbD i = false := by
      cases b
      · simp
      · have : i < 31 := by omega
        simp only [if_true]
        have e : (0x80000000#32 : BitVec 32) = 1#32 <<< 31 := by decide
        rw [e, BitVec.getLsbD_shiftLeft]
        simp [this]
    rw [word, BitVec.getLsbD_xor, h2, BitVec.getLsbD_ushiftRight, show 1 + i = i + 1 from by omega, h1]
    rfl
theorem word_msb (b : Bool) (l : List Bool) : (word (b :: l)).msb = b := by
  rw [word, BitVec.msb_xor]
  have : (word l >>> 1).msb = false := by simp [BitVec.msb_eq_getLsbD_last]
  rw [this]
  cases b <;> decide
theorem word_shl (b : Bool) (l : List Bool) (h : l.length < 32) : word (b :: l) <<< 1 = word l := by
  have h0 := word_low l 0 (by omega)
  apply BitVec.eq_of_getLsbD_eq
  intro i hi
  rw [BitVec.getLsbD_shiftLeft]
  cases i with
  | zero => rw [h0]; simp
  | succ i =>
    rw [word, BitVec.getLsbD_xor, BitVec.getLsbD_ushiftRight]
    have h2 : (if b then 0x80000000#32 else 0#32).getLsbD (i + 1 - 1) = false := by
      cases b
      · simp
      · have : i < 31 := by omega
        simp only [if_true]
        have e : (0x80000000#32 : BitVec 32) = 1#32 <<< 31 := by decide
        rw [e, BitVec.getLsbD_shiftLeft]
        simp [this]
    rw [h2]
    simp [hi, Nat.add_comm]
theorem step_word (b : Bool) (l : List Bool) (h : l.length < 32) : stepC (word (b :: l)) b = word l := by
  unfold stepC
  rw [word_msb, word_shl b l h]
  simp
theorem run_word : ∀ (l : List Bool) (r : BitVec 32), l.length ≤ 32 → runC r l = runC (r ^^^ word l) (List.replicate l.length false)
  | [], r, _ => by simp [word, runC]
  | b :: l, r, h => by
    rw [List.length_cons] at h
    rw [runC_cons, run_word l _ (by omega), List.length_cons, List.replicate_succ, runC_cons]
    congr 1
    have := step_xor r (word (b :: l)) b b
    rw [bne_self_eq_false] at this
    rw [this, step_word b l (by omega)]
theorem word_ne : ∀ (l : List Bool), l.length ≤ 32 → true ∈ l → word l ≠ 0#32
  | b :: l, h, hm, e => by
    rw [List.length_cons] at h
    have h1 := word_msb b l
    have h2 := word_shl b l (by omega)
    rw [e] at h1 h2
    have hb : b = false := by rw [← h1]; decide
    subst hb
    simp at hm
    refine word_ne l (by omega) hm ?_
    rw [← h2]
    decide
/-- A burst: nothing, then up to 32 bits of which one is set, then nothing. -/
theorem burst (D : List Bool) (k : Nat) (h0 : ∀ j, j < k → D[j]? = some false) (h1 : D[k]? = some true) (h2 : ∀ j, k + 32 ≤ j → j < D.length → D[j]? = some false) : runC 0#32 D ≠ 0#32 := by
  have hk := (List.getElem?_eq_some_iff.1 h1).1
  have e1 : D.take k = List.replicate k false := by
    apply List.ext_getElem?
    intro j
    rw [List.getElem?_take, List.getElem?_replicate]
    split
    · rename_i h; exact h0 j h
    · rfl
  have e2 : D.drop (k + 32) = List.replicate (D.length - (k + 32)) false := by
    apply List.ext_getElem?
    intro j
    rw [List.getElem?_drop, List.getElem?_replicate]
    split
    · exact h2 _ (by omega) (by omega)
    · exact List.getElem?_eq_none (by omega)
  have e3 : D = D.take k ++ ((D.drop k).take 32 ++ D.drop (k + 32)) := by
    rw [← List.drop_drop, List.take_append_drop, List.take_append_drop]
  have hl : ((D.drop k).take 32).length ≤ 32 := by rw [List.length_take]; omega
  have hm : true ∈ (D.drop k).take 32 := by
    refine List.mem_of_getElem? (i := 0) ?_
    rw [List.getElem?_take, if_pos (by decide), List.getElem?_drop, Nat.add_zero]
    exact h1
  rw [e3, runC_app, runC_app, e1, run_zero, e2, run_word _ _ hl]
  refine run_ne _ (run_ne _ ?_)
  rw [BitVec.zero_xor]
  exact word_ne _ hl hm

/-! ### Over bytes -/
def bitsB (x : UInt8) : List Bool := [x.toNat.testBit 7, x.toNat.testBit 6, x.toNat.testBit 5, x.toNat.testBit 4, x.toNat.testBit 3, x.toNat.testBit 2, x.toNat.testBit 1, x.toNat.testBit 0]
def bitsL (l : Bs) : List Bool := l.flatMap bitsB
theorem bitsB_len (x : UInt8) : (bitsB x).length = 8 := rfl
theorem bitsL_cons (x : UInt8) (l : Bs) : bitsL (x :: l) = bitsB x ++ bitsL l := rfl
theorem bitsL_app (a b : Bs) : bitsL (a ++ b) = bitsL a ++ bitsL b := by simp [bitsL]
theorem bitsL_len : ∀ l : Bs, (bitsL l).length = 8 * l.length
  | [] => rfl
  | x :: l => by rw [bitsL_cons, List.length_append, bitsL_len l, bitsB_len, List.length_cons]; omega
theorem bitsB_at (x : UInt8) (i : Nat) (h : i < 8) : (bitsB x)[i]? = some (x.toNat.testBit (7 - i)) := by
  unfold bitsB
  match i, h with
  | 0, _ => rfl
  | 1, _ => rfl
  | 2, _ => rfl
  | 3, _ => rfl
  | 4, _ => rfl
  | 5, _ => rfl
  | 6, _ => rfl
  | 7, _ => rfl
theorem bitsL_at : ∀ (l : Bs) (j : Nat), (bitsL l)[j]? = (l[j / 8]?).map fun x => x.toNat.testBit (7 - j % 8)
  | [], j => by simp [bitsL]
  | x :: l, j => by
    rw [bitsL_cons]
    by_cases h : j < 8
    · rw [List.getElem?_append_left (by rw [bitsB_len]; exact h), bitsB_at x j h, show j / 8 = 0 by omega, show j % 8 = j by omega]
      rfl
    · rw [List.getElem?_append_right (by rw [bitsB_len]; omega), bitsB_len, bitsL_at l, show j / 8 = (j - 8) / 8 + 1 by omega, List.getElem?_cons_succ, show j % 8 = (j - 8) % 8 by omega]
def crc (l : Bs) : BitVec 32 := runC (BitVec.allOnes 32) (bitsL l)
/-- A word's bits, out of its bytes. -/
theorem word_at : ∀ (l : List Bool) (i : Nat), i < 32 → l.length ≤ 32 → (word l).getLsbD i = (l[31 - i]?).getD false
  | [], i, _, _ => by simp [word]
  | b :: l, i, h, hl => by
    rw [List.length_cons] at hl
    rw [word, BitVec.getLsbD_xor, BitVec.getLsbD_ushiftRight]
    by_cases h31 : i = 31
    · subst h31
      have : (word l).getLsbD (1 + 31) = false := by simp
      rw [this]
      cases b <;> rfl
    · have h2 : (if b then 0x80000000#32 else 0#32).getLsbD i = false := by
        cases b
        · simp
        · have : i < 31 := by omega
          simp only [if_true]
          have e : (0x80000000#32 : BitVec 32) = 1#32 <<< 31 := by decide
          rw [e, BitVec.getLsbD_shiftLeft]
          simp [this]
      rw [h2, word_at l (1 + i) (by omega) (by omega), show 31 - i = (31 - (1 + i)) + 1 by omega, List.getElem?_cons_succ]
      simp
theorem word_val {l : Bs} (h : l.length = 4) : word (bitsL l) = BitVec.ofNat 32 (val l) := by
  match l, h with
  | [a, b, c, d], _ =>
    apply BitVec.eq_of_getLsbD_eq
    intro i hi
    rw [word_at _ i hi (by rw [bitsL_len]; simp), bitsL_at, BitVec.getLsbD_ofNat]
    have ha := a.toNat_lt
    have hb := b.toNat_lt
    have hc := c.toNat_lt
    have hd := d.toNat_lt
    have hv : val [a, b, c, d] = ((a.toNat * 256 + b.toNat) * 256 + c.toNat) * 256 + d.toNat := by simp [val]
    rw [hv]
    have key : ∀ (x y q i : Nat), y < 2 ^ q → (x * 2 ^ q + y).testBit i = if i < q then y.testBit i else x.testBit (i - q) := by
      intro x y q i hy
      rw [Nat.mul_comm, Nat.testBit_two_pow_mul_add _ hy]
    have k1 := fun x y i (hy : y < 256) => key x y 8 i hy
    simp only [show (2 : Nat) ^ 8 = 256 from rfl] at k1
    rw [k1 _ _ _ hd]
    by_cases h1 : i < 8
    · rw [if_pos h1, show (31 - i) / 8 = 3 by omega, show 7 - (31 - i) % 8 = i by omega]
      simp [hi]
    · rw [if_neg h1, k1 _ _ _ hc]
      by_cases h2 : i - 8 < 8
      · rw [if_pos h2, show (31 - i) / 8 = 2 by omega, show 7 - (31 - i) % 8 = i - 8 by omega]
        simp [hi]
      · rw [if_neg h2, k1 _ _ _ hb]
        by_cases h3 : i - 8 - 8 < 8
        · rw [if_pos h3, show (31 - i) / 8 = 1 by omega, show 7 - (31 - i) % 8 = i - 8 - 8 by omega]
          simp [hi]
        · rw [if_neg h3, show (31 - i) / 8 = 0 by omega, show 7 - (31 - i) % 8 = i - 8 - 8 - 8 by omega]
          simp [hi]
/-- Bytes with their sum behind them: their run ends at nothing. -/
theorem sealed_iff (M S : Bs) (h : S.length = 4) : runC (BitVec.allOnes 32) (bitsL (M ++ S)) = 0#32 ↔ (crc M).toNat = val S := by
  have hl : (bitsL S).length = 32 := by rw [bitsL_len, h]
  have hv : val S < 2 ^ 32 := by
    have := val_lt S
    rw [h] at this
    exact this
  rw [bitsL_app, runC_app, run_word _ _ (by omega), word_val h, hl]
  show runC (crc M ^^^ _) _ = _ ↔ _
  constructor
  · intro e
    have : crc M ^^^ BitVec.ofNat 32 (val S) = 0#32 := by
      by_cases hx : crc M ^^^ BitVec.ofNat 32 (val S) = 0#32
      · exact hx
      · exact absurd e (run_ne 32 hx)
    have h2 : crc M = BitVec.ofNat 32 (val S) := BitVec.xor_eq_zero_iff.1 this
    rw [h2, BitVec.toNat_ofNat, Nat.mod_eq_of_lt hv]
  · intro e
    have : crc M = BitVec.ofNat 32 (val S) := by
      apply BitVec.eq_of_toNat_eq
      rw [e, BitVec.toNat_ofNat, Nat.mod_eq_of_lt hv]
    rw [this, BitVec.xor_self, run_zero]
/-- Sealed bytes of which bits in a burst are changed are not sealed. -/
theorem told {M S M' S' : Bs} (hS : S.length = 4) (hS' : S'.length = 4) (hM : M.length = M'.length) (h : (crc M).toNat = val S) (k : Nat)
    (hd : ∀ j x y, (bitsL (M ++ S))[j]? = some x → (bitsL (M' ++ S'))[j]? = some y → (j < k → x = y) ∧ (j = k → x ≠ y) ∧ (k + 32 ≤ j → x = y)) (hk : k < 8 * (M ++ S).length) : (crc M').toNat ≠ val S' := by
  intro e
  have h1 := (sealed_iff M S hS).2 h
  have h2 := (sealed_iff M' S' hS').2 e
  have hl : (bitsL (M ++ S)).length = (bitsL (M' ++ S')).length := by rw [bitsL_len, bitsL_len, List.length_append, List.length_append, hM, hS, hS']
  have h3 := run_xor (bitsL (M ++ S)) (bitsL (M' ++ S')) (BitVec.allOnes 32) (BitVec.allOnes 32) hl
  rw [BitVec.xor_self, h1, h2, BitVec.xor_self] at h3
  have hz : ∀ j x y, (bitsL (M ++ S))[j]? = some x → (bitsL (M' ++ S'))[j]? = some y → (List.zipWith (· != ·) (bitsL (M ++ S)) (bitsL (M' ++ S')))[j]? = some (x != y) := fun j x y hx hy => by
    rw [List.getElem?_zipWith, hx, hy]
  have hat : ∀ j, j < (bitsL (M ++ S)).length → ∃ x y, (bitsL (M ++ S))[j]? = some x ∧ (bitsL (M' ++ S'))[j]? = some y := fun j hj => ⟨_, _, List.getElem?_eq_getElem hj, List.getElem?_eq_getElem (by omega)⟩
  have hkl : k < (bitsL (M ++ S)).length := by rw [bitsL_len]; exact hk
  refine burst _ k (fun j hj => ?_) ?_ (fun j hj hjl => ?_) h3
  · obtain ⟨x, y, hx, hy⟩ := hat j (by omega)
    rw [hz j x y hx hy, (hd j x y hx hy).1 hj]
    simp
  · obtain ⟨x, y, hx, hy⟩ := hat k hkl
    rw [hz k x y hx hy]
    have := (hd k x y hx hy).2.1 rfl
    cases x <;> cases y <;> simp_all
  · rw [List.length_zipWith] at hjl
    obtain ⟨x, y, hx, hy⟩ := hat j (by omega)
    rw [hz j x y hx hy, (hd j x y hx hy).2.2 hj]
    simp
end Go.Proofs.YtmiijmiikpmcgaaDoor.Crc
end
section
/- Package topic, in lists: words, plain words, what stands for what. No program in sight. -/
set_option linter.unusedVariables false
set_option linter.unusedSimpArgs false
namespace Go.Proofs.YtmiijmiikpmcgaaDoor.Tp
open Go

abbrev Bs := List UInt8
def okB (c : UInt8) : Bool := (decide (97 ≤ c.toNat) && decide (c.toNat ≤ 122)) || ((decide (48 ≤ c.toNat) && decide (c.toNat ≤ 57)) || (c.toNat == 45 || c.toNat == 95))
def plainL (l : Bs) : Bool := !l.isEmpty && l.all okB
/-- Between dots; one at least. -/
def splitL : Bs → List Bs
  | [] => [[]]
  | b :: l => if b = 46 then [] :: splitL l else match splitL l with
    | x :: xs => (b :: x) :: xs
    | [] => [[b]]
def wordsL (l : Bs) : List Bs := if l.isEmpty then [] else splitL l
theorem splitL_ne (l : Bs) : splitL l ≠ [] := by
  cases l with
  | nil => simp [splitL]
  | cons b l =>
    unfold splitL
    split
    · simp
    · split <;> simp
theorem splitL_cons (b : UInt8) (l : Bs) (hb : b ≠ 46) : ∃ x xs, splitL l = x :: xs ∧ splitL (b :: l) = (b :: x) :: xs := by
  cases h : splitL l with
  | nil => exact absurd h (splitL_ne l)
  | cons x xs => exact ⟨x, xs, rfl, by rw [splitL, if_neg hb, h]⟩
theorem split_none : ∀ (l : Bs), Lib.indexByte l 46 = -1 → splitL l = [l]
  | [], _ => rfl
  | b :: l, h => by
    rw [Lib.indexByte] at h
    by_cases hb : (b == 46) = true
    · rw [if_pos hb] at h; omega
    · rw [if_neg hb] at h
      have h1 : Lib.indexByte l 46 = -1 := by
        by_cases h2 : (Lib.indexByte l 46 == -1) = true
        · simpa using h2
        · rw [if_neg h2] at h
          have := Lib.indexByte_ge l 46
          omega
      have ih := split_none l h1
      rw [splitL, if_neg (by simpa using hb), ih]
theorem split_some : ∀ (l : Bs) (i : Nat), Lib.indexByte l 46 = (i : Int) → i < l.length ∧ splitL l = l.take i :: splitL (l.drop (i + 1))
  | [], i, h => by rw [Lib.indexByte] at h; omega
  | b :: l, i, h => by
    rw [Lib.indexByte] at h
    by_cases hb : (b == 46) = true
    · rw [if_pos hb] at h
      obtain rfl : i = 0 := by omega
      refine ⟨by simp, ?_⟩
      rw [splitL, if_pos (by simpa using hb)]
      rfl
    · rw [if_neg hb] at h
      by_cases h2 : (Lib.indexByte l 46 == -1) = true
      · rw [if_pos h2] at h; omega
      · rw [if_neg h2] at h
        obtain ⟨j, rfl⟩ : ∃ j, i = j + 1 := ⟨i - 1, (by have h4 := Lib.indexByte_ge l 46; have h3 : Lib.indexByte l 46 ≠ -1 := (by simpa using h2); omega)⟩
        obtain ⟨h4, ih⟩ := split_some l j (by omega)
        refine ⟨by simp; omega, ?_⟩
        rw [splitL, if_neg (by simpa using hb), ih]
        rfl
theorem splitL_length : ∀ l : Bs, (splitL l).length ≤ l.length + 1
  | [] => by simp [splitL]
  | b :: l => by
    have ih := splitL_length l
    by_cases hb : b = 46
    · rw [splitL, if_pos hb]; simp; omega
    · obtain ⟨x, xs, h1, h2⟩ := splitL_cons b l hb
      rw [h2]; rw [h1] at ih; simp at ih ⊢; omega
theorem wordsL_length (l : Bs) : (wordsL l).length ≤ l.length + 1 := by
  unfold wordsL
  split
  · simp
  · exact splitL_length l

def star : Bs := [42]
def hash : Bs := [35]
def patW (w : Bs) : Bool := (w == star) || ((w == hash) || plainL w)
def madeL (so : Bs → Bool) (l : Bs) : Bool := decide (l.length ≤ 60) && (decide ((wordsL l).length ≤ 12) && (wordsL l).all so)
def keyL (l : Bs) : Bool := madeL plainL l
def patL (l : Bs) : Bool := madeL patW l
def nameL (l : Bs) : Bool := decide (l.length ≤ 20) && plainL l

/-- Does a pattern's word stand for a key's? -/
def oneM (p w : Bs) : Bool := (p == star) || (p == w)
def oneO (p w : Bs) : Bool := !(w == hash) && ((p == star) || (p == w))
/-- One row of the table: the beginnings that the next word reaches. -/
def stepR (one : Bs → Bs → Bool) (ws : List Bs) (p : Bs) (r : List Bool) : List Bool :=
  if p = hash then (List.range r.length).map fun i => (r.take (i + 1)).any id
  else (List.range r.length).map fun i => decide (0 < i) && (r.getD (i - 1) false && (match ws[i - 1]? with | some w => one p w | none => false))
def rows (one : Bs → Bs → Bool) (ws : List Bs) (ps : List Bs) : List Bool := ps.foldl (fun r p => stepR one ws p r) (true :: List.replicate ws.length false)
def standsL (one : Bs → Bs → Bool) (ps ws : List Bs) : Bool := (rows one ws ps).getD ws.length false
def matchL (p k : Bs) : Bool := patL p && (keyL k && standsL oneM (wordsL p) (wordsL k))
def overL (a b : Bs) : Bool := patL a && (patL b && standsL oneO (wordsL a) (wordsL b))

/-- By definition. -/
def fits (one : Bs → Bs → Bool) : List Bs → List Bs → Bool
  | [], ws => ws.isEmpty
  | p :: ps, ws => if p = hash then (List.range (ws.length + 1)).any fun i => fits one ps (ws.drop i) else match ws with
    | [] => false
    | w :: ws => one p w && fits one ps ws
/-- The whole words that a beginning of the pattern stands for. -/
theorem fits_append (one : Bs → Bs → Bool) : ∀ (ps qs ws : List Bs), fits one (ps ++ qs) ws = true ↔ ∃ i, i ≤ ws.length ∧ fits one ps (ws.take i) = true ∧ fits one qs (ws.drop i) = true
  | [], qs, ws => by
    constructor
    · intro h; exact ⟨0, by omega, rfl, by simpa using h⟩
    · rintro ⟨i, hi, h1, h2⟩
      have : ws.take i = [] := by simpa [fits] using h1
      have h0 : i = 0 ∨ ws = [] := by
        rcases ws with _ | ⟨w, ws⟩
        · exact .inr rfl
        · left
          rcases i with _ | i
          · rfl
          · simp at this
      rcases h0 with rfl | rfl
      · simpa using h2
      · simpa using h2
  | p :: ps, qs, ws => by
    by_cases hp : p = hash
    · rw [List.cons_append]
      simp only [fits, if_pos hp, List.any_eq_true, List.mem_range]
      constructor
      · rintro ⟨j, hj, h⟩
        obtain ⟨i, hi, h1, h2⟩ := (fits_append one ps qs (ws.drop j)).1 h
        rw [List.length_drop] at hi
        refine ⟨j + i, by omega, ⟨j, by rw [List.length_take]; omega, ?_⟩, by rw [List.drop_drop] at h2; exact h2⟩
        rw [List.drop_take, show j + i - j = i from by omega]; exact h1
      · rintro ⟨i, hi, ⟨j, hj, h1⟩, h2⟩
        rw [List.length_take] at hj
        refine ⟨j, by omega, (fits_append one ps qs (ws.drop j)).2 ⟨i - j, by rw [List.length_drop]; omega, ?_, ?_⟩⟩
        · rw [List.drop_take] at h1; exact h1
        · rw [List.drop_drop, show j + (i - j) = i from by omega]; exact h2
    · rw [List.cons_append]
      cases ws with
      | nil =>
        simp only [fits, if_neg hp]
        constructor
        · intro h; cases h
        · rintro ⟨i, _, h1, _⟩; rw [List.take_nil] at h1; simp [hp] at h1
      | cons w ws =>
        simp only [fits, if_neg hp, Bool.and_eq_true]
        constructor
        · rintro ⟨ho, h⟩
          obtain ⟨i, hi, h1, h2⟩ := (fits_append one ps qs ws).1 h
          exact ⟨i + 1, by simp; omega, by rw [List.take_succ_cons]; simp [ho, h1], by simpa using h2⟩
        · rintro ⟨i, hi, h1, h2⟩
          cases i with
          | zero => simp [hp] at h1
          | succ i =>
            rw [List.take_succ_cons] at h1
            simp only [Bool.and_eq_true] at h1
            exact ⟨h1.1, (fits_append one ps qs ws).2 ⟨i, by simp at hi; omega, h1.2, by simpa using h2⟩⟩
theorem rows_length (one : Bs → Bs → Bool) (ws ps : List Bs) : (rows one ws ps).length = ws.length + 1 := by
  have key : ∀ (ps : List Bs) (r : List Bool), r.length = ws.length + 1 → (ps.foldl (fun r p => stepR one ws p r) r).length = ws.length + 1 := by
    intro ps
    induction ps with
    | nil => exact fun r h => h
    | cons p ps ih => exact fun r h => ih _ (by show (stepR one ws p r).length = _; unfold stepR; split <;> simp [h])
  exact key ps _ (by simp)
theorem fits_one (one : Bs → Bs → Bool) (p : Bs) (ws : List Bs) : fits one [p] ws = if p = hash then true else (match ws with | [w] => one p w | _ => false) := by
  by_cases hp : p = hash
  · simp only [fits, if_pos hp]
    rw [List.any_eq_true]
    exact ⟨ws.length, by simp, by simp⟩
  · simp only [fits, if_neg hp]
    match ws with
    | [] => rfl
    | [w] => simp [fits]
    | w :: v :: ws => simp [fits]
theorem snoc_ind {α : Type} {P : List α → Prop} (h0 : P []) (hs : ∀ l a, P l → P (l ++ [a])) (l : List α) : P l := by
  have key : ∀ r : List α, P r.reverse := by
    intro r
    induction r with
    | nil => exact h0
    | cons a r ih => rw [List.reverse_cons]; exact hs _ _ ih
  have := key l.reverse
  rwa [List.reverse_reverse] at this
/-- What the table holds. -/
theorem rows_spec (one : Bs → Bs → Bool) (ws : List Bs) : ∀ (ps : List Bs) (i : Nat), i ≤ ws.length → (rows one ws ps).getD i false = fits one ps (ws.take i) := by
  intro ps
  refine snoc_ind (P := fun ps => ∀ i, i ≤ ws.length → (rows one ws ps).getD i false = fits one ps (ws.take i)) ?_ ?_ ps
  · intro i hi
    show (true :: List.replicate ws.length false).getD i false = _
    cases i with
    | zero => simp [fits]
    | succ i =>
      have : (ws.take (i + 1)).isEmpty = false := by
        cases ws with
        | nil => simp at hi
        | cons w ws => rfl
      rw [fits, this]
      simp [List.getD, List.getElem?_replicate]
      split <;> rfl
  · intro ps p ih i hi
    have hstep : rows one ws (ps ++ [p]) = stepR one ws p (rows one ws ps) := by simp [rows]
    have hlen := rows_length one ws ps
    rw [hstep, Bool.eq_iff_iff, fits_append]
    unfold stepR
    by_cases hp : p = hash
    · rw [if_pos hp]
      rw [List.getD_eq_getElem?_getD, List.getElem?_map, List.getElem?_range (by rw [hlen]; omega), Option.map_some, Option.getD_some, List.any_eq_true]
      constructor
      · rintro ⟨b, hb, hbt⟩
        obtain ⟨j, hj⟩ := List.mem_iff_getElem?.1 hb
        have hj1 : j < i + 1 := by
          have := (List.getElem?_eq_some_iff.1 hj).1
          rw [List.length_take] at this; omega
        rw [List.getElem?_take, if_pos hj1] at hj
        have := ih j (by omega)
        rw [List.getD_eq_getElem?_getD, hj, Option.getD_some] at this
        refine ⟨j, by rw [List.length_take]; omega, ?_, ?_⟩
        · rw [List.take_take, Nat.min_eq_left (by omega), ← this]; exact hbt
        · rw [fits_one, if_pos hp]
      · rintro ⟨j, hj, h1, _⟩
        rw [List.length_take] at hj
        rw [List.take_take, Nat.min_eq_left (by omega), ← ih j (by omega)] at h1
        have hj2 : j < (rows one ws ps).length := by rw [hlen]; omega
        rw [List.getD_eq_getElem?_getD, List.getElem?_eq_getElem hj2, Option.getD_some] at h1
        exact ⟨true, by rw [List.mem_iff_getElem?]; exact ⟨j, by rw [List.getElem?_take, if_pos (by omega), List.getElem?_eq_getElem hj2, h1]⟩, rfl⟩
    · rw [if_neg hp]
      rw [List.getD_eq_getElem?_getD, List.getElem?_map, List.getElem?_range (by rw [hlen]; omega), Option.map_some, Option.getD_some]
      cases i with
      | zero =>
        simp only [Nat.lt_irrefl, decide_false, Bool.false_and, Bool.false_eq_true, false_iff]
        rintro ⟨j, hj, h1, h2⟩
        rw [List.take_zero] at h2
        rw [List.drop_nil, fits_one, if_neg hp] at h2
        cases h2
      | succ i =>
        simp only [Nat.zero_lt_succ, decide_true, Bool.true_and, Nat.add_sub_cancel, Bool.and_eq_true]
        have hw : i < ws.length := by omega
        rw [ih i (by omega), List.getElem?_eq_getElem hw]
        have htk : ws.take (i + 1) = ws.take i ++ [ws[i]] := by rw [List.take_add_one, List.getElem?_eq_getElem hw]; rfl
        constructor
        · rintro ⟨h1, h2⟩
          refine ⟨i, by rw [List.length_take]; omega, ?_, ?_⟩
          · rw [List.take_take, Nat.min_eq_left (by omega)]; exact h1
          · rw [htk, List.drop_left' (by rw [List.length_take]; omega), fits_one, if_neg hp]; exact h2
        · rintro ⟨j, hj, h1, h2⟩
          rw [List.length_take] at hj
          rw [fits_one, if_neg hp] at h2
          have hl : ((ws.take (i + 1)).drop j).length = i + 1 - j := by rw [List.length_drop, List.length_take]; omega
          have hj2 : j = i := by
            match hd : (ws.take (i + 1)).drop j with
            | [] => rw [hd] at h2; cases h2
            | [w] => rw [hd] at hl; simp at hl; omega
            | w :: v :: r => rw [hd] at h2; cases h2
          subst hj2
          rw [List.take_take, Nat.min_eq_left (by omega)] at h1
          rw [htk, List.drop_left' (by rw [List.length_take]; omega)] at h2
          exact ⟨h1, h2⟩
theorem stands_fits (one : Bs → Bs → Bool) (ps ws : List Bs) : standsL one ps ws = fits one ps ws := by
  unfold standsL
  rw [rows_spec one ws ps ws.length (Nat.le_refl _), List.take_length]
end Go.Proofs.YtmiijmiikpmcgaaDoor.Tp
end
section
/- Package topic: plain, Name, and what Words needs of package strings. -/
set_option linter.unusedVariables false
set_option linter.unusedSimpArgs false
namespace Go.Proofs.YtmiijmiikpmcgaaDoor
open Go.RowKit
open Go.Proofs.YtmiijmiikpmcgaaDoor.Tp (okB plainL nameL)

theorem iter_chg (w : World) (s : ByteArray) (pos : Nat) : Chg [] w (w.iter s pos) := (Chg.refl [] w).alloc _
def byt (s : ByteArray) (i : Nat) : UInt8 := s.data.toList.getD i 0
theorem byt_eq (s : ByteArray) (i : Nat) (h : i < s.size) : s[i]'h = byt s i := by
  unfold byt
  have : i < s.data.toList.length := by rw [Array.length_toList]; exact h
  rw [List.getD_eq_getElem?_getD, List.getElem?_eq_getElem this]
  rfl
theorem plainL_of {s : ByteArray} (h0 : 0 < s.size) (h : ∀ i, i < s.size → okB (byt s i) = true) : plainL s.data.toList = true := by
  unfold plainL
  have hl : s.data.toList.length = s.size := Array.length_toList
  have h1 : s.data.toList.isEmpty = false := by
    rw [List.isEmpty_eq_false_iff]
    intro e
    rw [e] at hl
    simp at hl
    omega
  rw [h1, Bool.not_false, Bool.true_and, List.all_eq_true]
  intro c hc
  obtain ⟨i, hi⟩ := List.mem_iff_getElem?.1 hc
  have hlt : i < s.size := by rw [← hl]; exact (List.getElem?_eq_some_iff.1 hi).1
  have := h i hlt
  unfold byt at this
  rw [List.getD_eq_getElem?_getD, hi] at this
  exact this
theorem plainL_not {s : ByteArray} {i : Nat} (hi : i < s.size) (h : okB (byt s i) = false) : plainL s.data.toList = false := by
  unfold plainL
  rw [Bool.and_eq_false_iff]
  right
  rw [List.all_eq_false]
  have hl : i < s.data.toList.length := by rw [Array.length_toList]; exact hi
  refine ⟨byt s i, ?_, by rw [h]; simp⟩
  unfold byt
  rw [List.getD_eq_getElem?_getD, List.getElem?_eq_getElem hl]
  exact List.getElem_mem hl
theorem plainL_nil {s : ByteArray} (h : s.size = 0) : plainL s.data.toList = false := by
  have : s.data.toList = [] := List.eq_nil_of_length_eq_zero (by rw [Array.length_toList]; exact h)
  rw [this]; rfl
/-- A rune at a byte that is no good one. -/
def okR (r : Nat) : Bool := (decide (97 ≤ r) && decide (r ≤ 122)) || ((decide (48 ≤ r) && decide (r ≤ 57)) || (r == 45 || r == 95))
theorem okB_R (c : UInt8) : okB c = okR c.toNat := rfl
theorem okR_high {r : Nat} (h : 128 ≤ r) : okR r = false := by
  unfold okR
  rw [decide_eq_false (by omega : ¬ r ≤ 122), decide_eq_false (by omega : ¬ r ≤ 57)]
  have h1 : (r == 45) = false := by rw [beq_eq_false_iff_ne]; omega
  have h2 : (r == 95) = false := by rw [beq_eq_false_iff_ne]; omega
  rw [h1, h2]
  simp
set_option maxHeartbeats 4000000 in
theorem plain_any (s : ByteArray) (hs : s.size ≤ maxLen) (w : World) : Calls Tryd.prog 64 #[.string s] w fun e w' => e = .returned (.bool (plainL s.data.toList)) ∧ Chg [] w w' := by
  unfold maxLen at hs
  go_enter Tryd.func64, Tryd.ntmps64
  go_wp2
  go_loopw [7] (fun _ wr => ∃ pos : Nat, pos ≤ s.size ∧ wr = w.iter s pos ∧ ∀ i, i < pos → okB (byt s i) = true) (fun _ wr => s.size - wr.iterPos w.heap.size)
  case atStart => exact ⟨0, Nat.zero_le _, rfl, fun i hi => absurd hi (by omega)⟩
  case round =>
    obtain ⟨pos, hpos, rfl, hall⟩ := hrel
    have HAll := Lib.hid hall
    clear hall
    by_cases hp : pos < s.size
    · have hnx : ∀ ty, (Instr.next (.pointer (some ⟨w.heap.size, 0, none⟩)) true ty).run Tryd.prog (w.iter s pos) = _ := fun ty => run_next_any w s pos ty hp
      have hl := decode_le s pos
      obtain ⟨r, hr⟩ : ∃ r, r = (Utf8.decode s pos).1 := ⟨_, rfl⟩
      obtain ⟨d, hd⟩ : ∃ d, d = (Utf8.decode s pos).2 := ⟨_, rfl⟩
      rw [← hr, ← hd] at hnx
      rw [← hr] at hl
      by_cases hb : (byt s pos).toNat < 128
      · have hdec := decode_ascii s pos hp (by rw [byt_eq s pos hp]; exact hb)
        rw [byt_eq s pos hp] at hdec
        have hrb : r = (byt s pos).toNat := by rw [hr, hdec]
        have HD1 : Hid (d = 1) := Lib.hid (by rw [hd, hdec])
        have HOR : Hid (okB (byt s pos) = okR r) := Lib.hid (by rw [okB_R, ← hrb])
        clear hdec hr hd hrb hb
        by_cases a1 : 97 ≤ r ∧ r ≤ 122
        · obtain ⟨b1, b2⟩ := a1
          have HOK : Hid (okB (byt s pos) = true) := Lib.hid (by rw [HOR.out]; unfold okR; simp [b1, b2])
          have c1 : decide ((97 : Int) ≤ (r : Int)) = true := decide_eq_true (by omega)
          have c2 : decide ((r : Int) ≤ 122) = true := decide_eq_true (by omega)
          go_wp2
          go_roundw
          case rel =>
            refine ⟨pos + 1, by omega, by rw [HD1.out], fun i hi => ?_⟩
            by_cases e : i = pos
            · subst e; exact HOK.out
            · exact HAll.out i (by omega)
          case measure => rw [HD1.out]; simp; omega
        · by_cases a2 : 48 ≤ r ∧ r ≤ 57
          · obtain ⟨b1, b2⟩ := a2
            have HOK : Hid (okB (byt s pos) = true) := Lib.hid (by rw [HOR.out]; unfold okR; simp [b1, b2])
            have c1 : decide ((97 : Int) ≤ (r : Int)) = false := decide_eq_false (by omega)
            have c2 : decide ((48 : Int) ≤ (r : Int)) = true := decide_eq_true (by omega)
            have c3 : decide ((r : Int) ≤ 57) = true := decide_eq_true (by omega)
            clear a1
            go_wp2
            go_roundw
            case rel =>
              refine ⟨pos + 1, by omega, by rw [HD1.out], fun i hi => ?_⟩
              by_cases e : i = pos
              · subst e; exact HOK.out
              · exact HAll.out i (by omega)
            case measure => rw [HD1.out]; simp; omega
          · by_cases a3 : r = 45
            · have HOK : Hid (okB (byt s pos) = true) := Lib.hid (by rw [HOR.out, a3]; decide)
              have c1 : ((r : Int) == 45) = true := by rw [beq_iff_eq]; omega
              have c2 : decide ((97 : Int) ≤ (r : Int)) = false := decide_eq_false (by omega)
              have c3 : decide ((48 : Int) ≤ (r : Int)) = false := decide_eq_false (by omega)
              clear a1 a2 a3
              go_wp2
              go_roundw
              case rel =>
                refine ⟨pos + 1, by omega, by rw [HD1.out], fun i hi => ?_⟩
                by_cases e : i = pos
                · subst e; exact HOK.out
                · exact HAll.out i (by omega)
              case measure => rw [HD1.out]; simp; omega
            · by_cases a4 : r = 95
              · have HOK : Hid (okB (byt s pos) = true) := Lib.hid (by rw [HOR.out, a4]; decide)
                have c1 : ((r : Int) == 45) = false := by rw [beq_eq_false_iff_ne]; omega
                have c4 : ((r : Int) == 95) = true := by rw [beq_iff_eq]; omega
                have c2 : decide ((97 : Int) ≤ (r : Int)) = false := decide_eq_false (by omega)
                have c3 : decide ((48 : Int) ≤ (r : Int)) = true := decide_eq_true (by omega)
                have c5 : decide ((r : Int) ≤ 57) = false := decide_eq_false (by omega)
                clear a1 a2 a3 a4
                go_wp2
                go_roundw
                case rel =>
                  refine ⟨pos + 1, by omega, by rw [HD1.out], fun i hi => ?_⟩
                  by_cases e : i = pos
                  · subst e; exact HOK.out
                  · exact HAll.out i (by omega)
                case measure => rw [HD1.out]; simp; omega
              · have hno : okR r = false := by
                  unfold okR
                  have h1 : (r == 45) = false := by rw [beq_eq_false_iff_ne]; exact a3
                  have h2 : (r == 95) = false := by rw [beq_eq_false_iff_ne]; exact a4
                  rw [h1, h2]
                  simp only [Bool.or_false, Bool.or_eq_false_iff, Bool.and_eq_false_iff, decide_eq_false_iff_not]
                  omega
                have HNO : Hid (plainL s.data.toList = false) := Lib.hid (plainL_not hp (by rw [HOR.out]; exact hno))
                have c1 : ((r : Int) == 45) = false := by rw [beq_eq_false_iff_ne]; omega
                have c4 : ((r : Int) == 95) = false := by rw [beq_eq_false_iff_ne]; omega
                clear a3 a4 hno
                by_cases d1 : 97 ≤ r
                · have c2 : decide ((97 : Int) ≤ (r : Int)) = true := decide_eq_true (by omega)
                  have c3 : decide ((r : Int) ≤ 122) = false := decide_eq_false (by omega)
                  have c5 : decide ((48 : Int) ≤ (r : Int)) = true := decide_eq_true (by omega)
                  have c6 : decide ((r : Int) ≤ 57) = false := decide_eq_false (by omega)
                  clear a1 a2
                  go_wp2
                  go_ret
                  rw [HNO.out]
                  exact ⟨rfl, iter_chg _ _ _⟩
                · have c2 : decide ((97 : Int) ≤ (r : Int)) = false := decide_eq_false (by omega)
                  by_cases d2 : 48 ≤ r
                  · have c5 : decide ((48 : Int) ≤ (r : Int)) = true := decide_eq_true (by omega)
                    have c6 : decide ((r : Int) ≤ 57) = false := decide_eq_false (by omega)
                    clear a1 a2
                    go_wp2
                    go_ret
                    rw [HNO.out]
                    exact ⟨rfl, iter_chg _ _ _⟩
                  · have c5 : decide ((48 : Int) ≤ (r : Int)) = false := decide_eq_false (by omega)
                    clear a1 a2
                    go_wp2
                    go_ret
                    rw [HNO.out]
                    exact ⟨rfl, iter_chg _ _ _⟩
      · have hh := decode_high s pos hp (by rw [byt_eq s pos hp]; omega)
        rw [← hr] at hh
        have hr128 := hh.1
        have HNO : Hid (plainL s.data.toList = false) := Lib.hid (plainL_not hp (by rw [okB_R]; exact okR_high (by omega)))
        have c1 : ((r : Int) == 45) = false := by rw [beq_eq_false_iff_ne]; omega
        have c4 : ((r : Int) == 95) = false := by rw [beq_eq_false_iff_ne]; omega
        have c2 : decide ((97 : Int) ≤ (r : Int)) = true := decide_eq_true (by omega)
        have c3 : decide ((r : Int) ≤ 122) = false := decide_eq_false (by omega)
        have c5 : decide ((48 : Int) ≤ (r : Int)) = true := decide_eq_true (by omega)
        have c6 : decide ((r : Int) ≤ 57) = false := decide_eq_false (by omega)
        clear hh hr hd hb
        go_wp2
        go_ret
        rw [HNO.out]
        exact ⟨rfl, iter_chg _ _ _⟩
    · have hnx : ∀ ty, (Instr.next (.pointer (some ⟨w.heap.size, 0, none⟩)) true ty).run Tryd.prog (w.iter s pos) = _ := fun ty => run_next_end w s pos ty hp
      obtain rfl : pos = s.size := by omega
      by_cases h0 : s.size = 0
      · have HE := Lib.hid (plainL_nil h0)
        have e1 : s.toList.isEmpty = true := by rw [Lib.toList_data, List.isEmpty_iff]; exact List.eq_nil_of_length_eq_zero (by rw [Array.length_toList]; exact h0)
        clear h0
        go_wp2
        go_ret
        rw [HE.out]
        exact ⟨rfl, iter_chg _ _ _⟩
      · have HE := Lib.hid (plainL_of (by omega) HAll.out)
        have e1 : s.toList.isEmpty = false := by rw [Lib.toList_data, List.isEmpty_eq_false_iff]; intro e; exact h0 (by have := congrArg List.length e; rwa [Array.length_toList] at this)
        clear h0
        go_wp2
        go_ret
        rw [HE.out]
        exact ⟨rfl, iter_chg _ _ _⟩
theorem name_any (s : ByteArray) (hs : s.size ≤ maxLen) (w : World) : Calls Tryd.prog 60 #[.string s] w fun e w' => e = .returned (.bool (nameL s.data.toList)) ∧ Chg [] w w' := by
  have HP := Lib.hid (plain_any s hs w)
  have hl : s.data.toList.length = s.size := Array.length_toList
  unfold maxLen at hs
  obtain ⟨b, hb⟩ : ∃ b, b = plainL s.data.toList := ⟨_, rfl⟩
  rw [← hb] at HP
  by_cases h : s.size ≤ 20
  · have e : nameL s.data.toList = b := by unfold nameL; rw [hl, decide_eq_true h, Bool.true_and, hb]
    rw [e]
    clear e hb
    have t1 : decide (s.size ≤ 20) = true := decide_eq_true h
    have t2 : decide ((s.size : Int) ≤ 20) = true := decide_eq_true (by omega)
    go_enter Tryd.func60, Tryd.ntmps60
    go_wp2_with fail
    refine HP.out.mono ?_
    rintro e w1 ⟨rfl, hc⟩
    have HC := Lib.hid hc
    clear hc
    go_wp2
    go_ret
    exact ⟨rfl, HC.out⟩
  · have e : nameL s.data.toList = false := by unfold nameL; rw [hl, decide_eq_false h, Bool.false_and]
    rw [e]
    clear e hb
    have t1 : decide (s.size ≤ 20) = false := decide_eq_false h
    have t2 : decide ((s.size : Int) ≤ 20) = false := decide_eq_false (by omega)
    go_enter Tryd.func60, Tryd.ntmps60
    go_wp2
    go_ret
    exact ⟨rfl, Chg.refl _ _⟩

/-! ### strings.Index of a dot; strings.SplitSeq -/
def dotS : ByteArray := ⟨#[46]⟩
theorem slIndexByte_any (s : ByteArray) (w : World) : Calls Tryd.prog 77 #[.string s, .int .u8 46] w fun e w' => e = .returned (.int .i64 (Lib.indexByte s.data.toList 46)) ∧ w = w' := by
  go_enter Tryd.func77, Tryd.ntmps77
  go_wp2
  rw [run_callFunc_extern Tryd.func81 (by kernel_rfl) (by kernel_rfl) (by kernel_rfl) (e := Extern.BytealgIndexByte.indexByte) (by kernel_rfl), Lib.run_indexByteString]
  simp only [Result.andThen]
  rw [Oper.upon_value]
  go_wp2
  go_ret
  exact ⟨rfl, rfl⟩
theorem slIndex_any (s : ByteArray) (w : World) : Calls Tryd.prog 76 #[.string s, .string dotS] w fun e w' => e = .returned (.int .i64 (Lib.indexByte s.data.toList 46)) ∧ w = w' := by
  have HI := Lib.hid (slIndexByte_any s w)
  unfold dotS
  by_cases h : ([46] == s.toList) = true
  · have e : Lib.indexByte s.data.toList 46 = 0 := by rw [← Lib.toList_data, ← eq_of_beq h]; rfl
    rw [e]
    go_enter Tryd.func76, Tryd.ntmps76
    go_wp2
    go_ret
    exact ⟨rfl, rfl⟩
  · have h' : ([46] == s.toList) = false := by simpa using h
    clear h
    go_enter Tryd.func76, Tryd.ntmps76
    go_wp2_with fail
    change Calls _ _ #[.string s, .int .u8 46] _ _
    refine HI.out.mono ?_
    rintro e w1 ⟨rfl, rfl⟩
    go_wp2
    go_ret
    exact ⟨rfl, rfl⟩
theorem index_any (s : ByteArray) (w : World) : Calls Tryd.prog 74 #[.string s, .string dotS] w fun e w' => e = .returned (.int .i64 (Lib.indexByte s.data.toList 46)) ∧ w = w' := by
  have HI := Lib.hid (slIndex_any s w)
  unfold dotS at *
  go_enter Tryd.func74, Tryd.ntmps74
  go_wp2_with fail
  refine HI.out.mono ?_
  rintro e w1 ⟨rfl, rfl⟩
  go_wp2
  go_ret
  exact ⟨rfl, rfl⟩
/-- The iterator of a text's words: its separator, the text and 0 are boxed. -/
def boxesC (w : World) (s : ByteArray) : World := ((w.alloc (.cells #[.string s] 9)).alloc (.cells #[.string dotS] 9)).alloc (.cells #[.int .i64 0] 3)
theorem splitSeq_any (s : ByteArray) (w : World) : Calls Tryd.prog 69 #[.string s, .string dotS] w fun e w' =>
    e = .returned (.func (.func 72) #[] #[.pointer (some ⟨w.heap.size + 1, 0, none⟩), .pointer (some ⟨w.heap.size, 0, none⟩), .pointer (some ⟨w.heap.size + 2, 0, none⟩)]) ∧ boxesC w s = w' := by
  have h1 : Calls Tryd.prog 71 #[.string s, .string dotS, .int .i64 0] w fun e w' =>
    e = .returned (.func (.func 72) #[] #[.pointer (some ⟨w.heap.size + 1, 0, none⟩), .pointer (some ⟨w.heap.size, 0, none⟩), .pointer (some ⟨w.heap.size + 2, 0, none⟩)]) ∧ boxesC w s = w' := by
    go_enter Tryd.func71, Tryd.ntmps71
    go_wp2
    go_ret
    exact ⟨rfl, rfl⟩
  have H1 := Lib.hid h1
  clear h1
  go_enter Tryd.func69, Tryd.ntmps69
  go_wp2_with fail
  refine H1.out.mono ?_
  rintro e w1 ⟨rfl, rfl⟩
  go_wp2
  go_ret
  exact ⟨rfl, rfl⟩
end Go.Proofs.YtmiijmiikpmcgaaDoor
end
section
/- A range over a function whose iterator writes a variable of its own: every word comes; the body never leaves. -/
set_option linter.unusedVariables false
set_option linter.unusedSimpArgs false
namespace Go.Proofs.YtmiijmiikpmcgaaDoor
open Go Go.RowKit

/-- Some blocks lie as they lay. -/
def KeepB (qs : List Nat) (W W' : World) : Prop := ∀ b ∈ qs, W'.heap[b]? = W.heap[b]?
theorem KeepB.trans {qs : List Nat} {A B C : World} (h : KeepB qs A B) (k : KeepB qs B C) : KeepB qs A C := fun b hb => (k b hb).trans (h b hb)
theorem chg_put (W : World) (b : Nat) (o : Obj) : Chg [b] W (W.putObj b o) :=
  ⟨rfl, rfl, rfl, by simp [World.putObj], fun i _ hn => by
    have : b ≠ i := fun e => hn (by simp [e])
    exact World.putObj_heap_other (Ne.symm this)⟩
/-- What an iterator that writes block q does: it yields the words of xs, each once, in order. -/
def SeqW {α : Type} (n : Nat) (P : Program) (g : Nat) (lb : Array Value) (encs : α → Array Value) (q : Nat) (qs : List Nat) (xs : List α) (w : World) : Prop :=
  ∀ (l : Nat) (J : List α → World → Prop) (W : World), Below w.heap.size w W → (∀ s X Y, J s X → Chg [q] X Y → J s Y) →
    (∀ pre x W1, J pre W1 → pre ++ [x] <+: xs → YieldAt Fence.wide (n - 1) P l (encs x) W1 fun e W' => e = .returned (.bool true) ∧ J (pre ++ [x]) W' ∧ KeepB qs W1 W') →
    J [] W → CallsIn Fence.wide n P g (#[.func (.yield l) #[] #[]] ++ lb) W fun e W' => (∃ v, e = .returned v) ∧ J xs W'

theorem wpIn_range_all {P : Program} {n : Nat} {w : World} {α : Type} {g : Operand} {ps : Array Tmp} {assign body : Code} {Q : Exit → Act → World → Prop} {a : Act}
    (h1 : 1 ≤ n) {gf : Nat} {lb : Array Value} (hg : a.eval g = .func (.func gf) #[] lb) (eg : ∀ args w, (callFunc gf args).run P w = .ok (.enter gf args) w)
    {encs : α → Array Value} {q : Nat} {qs : List Nat} {xs : List α} (hseq : SeqW (n - 1) P gf lb encs q qs xs w) (hps : ∀ x, (encs x).size = ps.size) (hq : q < w.heap.size) (hqs : ∀ b ∈ qs, b < w.heap.size)
    (I : List α → World → Prop) (hI : ∀ s X Y b, I s X → Chg [b] X Y → (b = q ∨ (w.heap.size ≤ b ∧ ∃ o, X.heap[b]? = some o ∧ o.isCells = false)) → I s Y) (h0 : I [] w) (a₁ : α → Act)
    (hassign : ∀ (l : Nat) (x : α) (W : World) (K : Act → World → Prop), K (a₁ x) W →
      assign.wpIn (Fence.wide.inRound l) (n - 1 - 1) P (Exit.then K (fun _ _ _ => False)) { tmps := (ps.zip (encs x)).foldl (fun t (p, v) => t.setIfInBounds p v) a.tmps, defers := [] } W)
    (hbody : ∀ (l : Nat) (pre : List α) (x : α) (W : World), I pre W → pre ++ [x] <+: xs →
      body.wpIn (Fence.wide.inRound l) (n - 1 - 1) P (fun e _ W' => e = .normal ∧ KeepsFrom w.heap.size W W' ∧ KeepB qs W W' ∧ I (pre ++ [x]) W') (a₁ x) W)
    (hdone : ∀ (D : Nat) (W : World), w.heap.size ≤ D → I xs W → W.heap[D]? = some (.deferred (some [])) → Q .normal { a with defers := { target := .collected D, args := #[] } :: a.defers } W) :
    (Code.rangeFunc g ps assign body).wpIn Fence.wide n P Q a w := by
  refine wpIn_rangeFunc fun fn hfn => ?_
  -- the loop's own two blocks
  let rec_ : LoopState → Loop := fun st => { state := st, pending := none, fn, tmps := a.tmps, params := ps, assign, body, defers := w.heap.size }
  obtain ⟨V, hV⟩ : ∃ V, V = (w.alloc (.deferred (some []))).alloc (.loop (rec_ .ready)) := ⟨_, rfl⟩
  have hD : V.heap[w.heap.size]? = some (.deferred (some [])) := by
    rw [hV]; exact (Below.heap_alloc _ _ _ (by simp)).trans (heap_alloc_new w _)
  have hLp : V.heap[w.heap.size + 1]? = some (.loop (rec_ .ready)) := by
    rw [hV]; have := heap_alloc_new (w.alloc (.deferred (some []))) (.loop (rec_ .ready)); rwa [World.size_alloc] at this
  have hVc : Chg [] w V := by rw [hV]; exact ((Chg.refl [] w).alloc _).alloc _
  have hVb : Below w.heap.size w V := by rw [hV]; exact ((Below.refl _ w).alloc (Nat.le_refl _) _).alloc (by simp) _
  refine ⟨w.heap.size + 1, [{ target := .collected w.heap.size, args := #[] }], V, { target := .fn (.func gf) lb, args := #[.func (.yield (w.heap.size + 1)) #[] #[]] }, V, gf, #[.func (.yield (w.heap.size + 1)) #[] #[]] ++ lb, V, ?_, ?_, ?_, ?_, fun _ => h1, ?_⟩
  · rw [hV]; exact run_enterLoop_outer _ _ _ _ _
  · simp only [resolve, hg]; simp [go_sem]
  · exact fun _ _ => trivial
  · simp [invoke, go_sem, eg]
  -- between two rounds: I, and the two blocks as they were laid
  have hJ0 : I [] V := hI _ _ _ q h0 (hVc.mono (by simp)) (.inl rfl)
  refine (hseq (w.heap.size + 1) (fun pre W => I pre W ∧ W.heap[w.heap.size + 1]? = some (.loop (rec_ .ready)) ∧ W.heap[w.heap.size]? = some (.deferred (some []))) V hVb ?_ ?_ ⟨hJ0, hLp, hD⟩).mono ?_
  · rintro s X Y ⟨x1, x2, x3⟩ hc
    have lt2 := (Array.getElem?_eq_some_iff.1 x2).1
    exact ⟨hI _ _ _ q x1 hc (.inl rfl), (hc.block _ lt2 (by simp; omega)).trans x2, (hc.block _ (by omega) (by simp; omega)).trans x3⟩
  · rintro pre x W ⟨x1, x2, x3⟩ hpre
    refine ⟨fn, _, assign, body, run_yield x2 (hps x), roundIn_of_wpIn hfn (hassign _ x W _ ?_)⟩
    have lt2 := (Array.getElem?_eq_some_iff.1 x2).1
    refine ⟨_, run_beginRound x2 rfl, ?_⟩
    -- the round, the record busy
    have hc1 : Chg [w.heap.size + 1] W (W.putObj (w.heap.size + 1) (.loop (rec_ .busy))) := chg_put _ _ _
    have y1 : (W.putObj (w.heap.size + 1) (.loop (rec_ .busy))).heap[w.heap.size + 1]? = some (.loop (rec_ .busy)) := World.putObj_heap_same lt2
    have y2 : (W.putObj (w.heap.size + 1) (.loop (rec_ .busy))).heap[w.heap.size]? = some (.deferred (some [])) := (hc1.block _ (by omega) (by simp)).trans x3
    have yI : I pre (W.putObj (w.heap.size + 1) (.loop (rec_ .busy))) := hI _ _ _ _ x1 hc1 (.inr ⟨by omega, _, x2, rfl⟩)
    refine wpIn_mono (hbody (w.heap.size + 1) pre x _ yI hpre) ?_
    rintro e a' W3 ⟨rfl, hk, hkb, hI3⟩
    have z1 := hk.same _ _ (by omega) y1 rfl
    have z2 := hk.same _ _ (Nat.le_refl _) y2 rfl
    have lt3 := (Array.getElem?_eq_some_iff.1 z1).1
    have hc3 : Chg [w.heap.size + 1] W3 (W3.putObj (w.heap.size + 1) (.loop (rec_ .ready))) := chg_put _ _ _
    refine ⟨_, _, run_endRound (P := P) none z1, rfl, ⟨hI _ _ _ _ hI3 hc3 (.inr ⟨by omega, _, z1, rfl⟩), World.putObj_heap_same lt3, (hc3.block _ (by omega) (by simp)).trans z2⟩, ?_⟩
    intro b hb
    have hbl := hqs b hb
    have e1 := World.putObj_heap_other (w := W3) (r := w.heap.size + 1) (o := .loop (rec_ .ready)) (k := b) (by omega)
    have e2 := World.putObj_heap_other (w := W) (r := w.heap.size + 1) (o := .loop (rec_ .busy)) (k := b) (by omega)
    exact (e1.trans (hkb b hb)).trans e2
  · rintro e W2 ⟨⟨v, rfl⟩, x1, x2, x3⟩
    have lt2 := (Array.getElem?_eq_some_iff.1 x2).1
    have hc1 : Chg [w.heap.size + 1] W2 (W2.putObj (w.heap.size + 1) (.loop { rec_ .ready with state := .exhausted })) := chg_put _ _ _
    exact ⟨none, _, run_endLoop (P := P) x2 (by simp [rec_]), hdone _ _ (Nat.le_refl _) (hI _ _ _ _ x1 hc1 (.inr ⟨by omega, _, x2, rfl⟩)) ((hc1.block _ (by omega) (by simp)).trans x3)⟩
end Go.Proofs.YtmiijmiikpmcgaaDoor
end
