/- seal.Sum; staithref03.Sum. -/
import Derived.Test.YtgnhpjakjoaejaaDoorWRg
import Derived.Test.YtgnhpjakjoaejaaDoorPkCrc
import Derived.Laws.BitsAllLaws
import Derived.Lib.Hide
set_option linter.unusedVariables false
set_option linter.unusedSimpArgs false
namespace Go.Proofs.YtgnhpjakjoaejaaDoor
open Go.RowKit

namespace Crc
theorem word_byte : ∀ n : Fin 256, word [n.val.testBit 7, n.val.testBit 6, n.val.testBit 5, n.val.testBit 4, n.val.testBit 3, n.val.testBit 2, n.val.testBit 1, n.val.testBit 0] = BitVec.ofNat 32 (n.val * 16777216) := by decide +kernel
theorem word_bits (x : UInt8) : word (bitsB x) = BitVec.ofNat 32 (x.toNat * 16777216) := word_byte ⟨x.toNat, x.toNat_lt⟩
theorem run_byte (r : BitVec 32) (x : UInt8) : runC r (bitsB x) = runC (r ^^^ BitVec.ofNat 32 (x.toNat * 16777216)) (List.replicate 8 false) := by
  rw [run_word _ _ (by rw [bitsB_len]; omega), word_bits, bitsB_len]
def crcTo (l : Bs) (j : Nat) : BitVec 32 := runC (BitVec.allOnes 32) (bitsL (l.take j))
theorem crcTo_step {l : Bs} {j : Nat} {x : UInt8} (h : l[j]? = some x) : crcTo l (j + 1) = runC (crcTo l j) (bitsB x) := by
  unfold crcTo
  rw [List.take_add_one, h]
  simp only [Option.toList_some]
  rw [bitsL_app, runC_app]
  simp [bitsL]
theorem crcTo_all {l : Bs} {j : Nat} (h : l.length ≤ j) : crcTo l j = crc l := by
  unfold crcTo crc
  rw [List.take_of_length_le h]
def zeros (r : BitVec 32) (i : Nat) : BitVec 32 := runC r (List.replicate i false)
theorem zeros_step (r : BitVec 32) (i : Nat) : zeros r (i + 1) = stepC (zeros r i) false := by
  unfold zeros
  rw [List.replicate_succ', runC_app]
  rfl
theorem stepF_nat (z : BitVec 32) : (stepC z false).toNat = (z.toNat * 2 % 4294967296) ^^^ (if 2147483648 ≤ z.toNat then 1947962583 else 0) := by
  unfold stepC
  rw [BitVec.toNat_xor, BitVec.toNat_shiftLeft, Nat.shiftLeft_eq, BitVec.msb_eq_decide]
  by_cases h : 2147483648 ≤ z.toNat
  · simp [h, poly]
  · simp [h]
theorem bits_byte {v y : Nat} (hv : v < 4294967296) (hy : y < 256) : bits .xor .u32 (v : Int) ((y : Int) * 16777216) = ((BitVec.ofNat 32 v ^^^ BitVec.ofNat 32 (y * 16777216)).toNat : Nat) := by
  rw [show ((y : Int) * 16777216) = ((y * 16777216 : Nat) : Int) from by omega, u32_xor_nat v _ hv (by omega), BitVec.toNat_xor, BitVec.toNat_ofNat, BitVec.toNat_ofNat, Nat.mod_eq_of_lt (by simpa using hv), Nat.mod_eq_of_lt (by simp; omega)]
theorem bits_low {z : BitVec 32} {u : Nat} (hu : u = z.toNat) (h : u < 2147483648) : bits .xor .u32 ((u : Int) * 2) (bits .and .u32 1947962583 ((u : Int) / 2147483648)) = ((stepC z false).toNat : Nat) := by
  have e1 : bits .and .u32 1947962583 ((u : Int) / 2147483648) = ((0 : Nat) : Int) := by
    rw [show ((u : Int) / 2147483648) = ((0 : Nat) : Int) from by omega]
    exact u32_and_nat 1947962583 0 (by omega) (by omega)
  rw [e1, show ((u : Int) * 2) = ((u * 2 : Nat) : Int) from by omega, u32_xor_nat _ _ (by omega) (by omega), stepF_nat, ← hu, if_neg (by omega), Nat.mod_eq_of_lt (by omega)]
theorem bits_high {z : BitVec 32} {u : Nat} (hu : u = z.toNat) (h : ¬ u < 2147483648) : bits .xor .u32 ((u : Int) * 2 % 4294967296) (bits .and .u32 1947962583 (wrap32 (u : Int) / 2147483648 % 4294967296)) = ((stepC z false).toNat : Nat) := by
  have hz : u < 4294967296 := by rw [hu]; exact z.isLt
  have e0 : wrap32 (u : Int) / 2147483648 % 4294967296 = ((4294967295 : Nat) : Int) := by
    unfold wrap32
    omega
  have e1 : bits .and .u32 1947962583 (wrap32 (u : Int) / 2147483648 % 4294967296) = ((1947962583 : Nat) : Int) := by
    rw [e0]
    exact u32_and_nat 1947962583 4294967295 (by omega) (by omega)
  rw [e1, show ((u : Int) * 2 % 4294967296) = ((u * 2 % 4294967296 : Nat) : Int) from by omega, u32_xor_nat _ _ (by omega) (by omega), stepF_nat, ← hu, if_pos (by omega)]
end Crc
set_option maxRecDepth 100000 in
set_option maxHeartbeats 4000000 in
theorem asum_any {w : World} {A : Option Addr} {n c : Nat} {l : Bs} (h : Bt w A n c l) (hn : n ≤ 2000000) :
    Calls Tryd.prog 43 #[.slice A n c] w fun e w' => e = .returned (.int .u32 ((Crc.crc l).toNat : Nat)) ∧ w = w' := by
  have HL := Lib.hid h
  clear h
  have hn2 : (n : Int) ≤ 2000000 := by omega
  go_enter Tryd.func43, Tryd.ntmps43
  go_wp2_with fail
  go_loopw [9, 3, 5, 6, 18] (fun s9 s3 _ _ _ wr => ∃ j : Nat, j ≤ n ∧ s9 = .int .i64 j ∧ s3 = .int .u32 ((Crc.crcTo l j).toNat : Nat) ∧ w = wr) (fun s9 _ _ _ _ _ => n - (intOf s9).toNat)
  case atStart => exact ⟨0, Nat.zero_le _, rfl, by simp [Crc.crcTo, Crc.bitsL, Crc.runC], rfl⟩
  case round =>
    obtain ⟨j, hj, rfl, rfl, rfl⟩ := hrel
    by_cases hlt : j < n
    · obtain ⟨x, hx⟩ : ∃ x, l[j]? = some x := ⟨_, List.getElem?_eq_getElem (by have := HL.out.len; omega)⟩
      obtain ⟨a, rfl, hcell⟩ := HL.out.cell hx
      have HX := Lib.hid hx
      have i1 : (0 : Int) ≤ (j : Int) := by omega
      have i2 : (j : Int) < (n : Int) := by omega
      unfold bv at hcell
      clear hx
      obtain ⟨v, hv⟩ : ∃ v, v = (Crc.crcTo l j).toNat := ⟨_, rfl⟩
      have hv2 : v < 4294967296 := by rw [hv]; exact (Crc.crcTo l j).isLt
      have hxl := x.toNat_lt
      rw [← hv]
      have HV := Lib.hid hv
      clear hv
      generalize hy : x.toNat = y at *
      have HY := Lib.hid hy
      clear hy
      go_wp2_with fail
      go_loopw [18, 3, 6] (fun s18 s3 _ wr => ∃ i : Nat, i ≤ 8 ∧ s18 = .int .i64 i ∧ s3 = .int .u32 ((Crc.zeros (BitVec.ofNat 32 v ^^^ BitVec.ofNat 32 (y * 16777216)) i).toNat : Nat) ∧ w = wr) (fun s18 _ _ _ => 8 - (intOf s18).toNat)
      case atStart =>
        refine ⟨0, by omega, rfl, ?_, rfl⟩
        rw [Crc.bits_byte hv2 (by omega)]
        rfl
      case round =>
        obtain ⟨i, hi, rfl, rfl, rfl⟩ := hrel
        generalize hz : Crc.zeros (BitVec.ofNat 32 v ^^^ BitVec.ofNat 32 (y * 16777216)) i = z at *
        obtain ⟨u, hu⟩ : ∃ u, u = z.toNat := ⟨_, rfl⟩
        have hu2 : u < 4294967296 := by rw [hu]; exact z.isLt
        rw [← hu]
        have HU := Lib.hid (And.intro hz hu)
        clear hz hu
        by_cases hi8 : i < 8
        · have t1 : decide ((i : Int) < 8) = true := decide_eq_true (by omega)
          by_cases hb : u < 2147483648
          · go_wp2_with fail
            refine ⟨⟨i + 1, by omega, by go_num, ?_, trivial⟩, by simp [intOf]; omega⟩
            rw [Crc.bits_low HU.out.2 hb, ← HU.out.1, Crc.zeros_step]
          · go_wp2_with fail
            refine ⟨⟨i + 1, by omega, by go_num, ?_, trivial⟩, by simp [intOf]; omega⟩
            rw [Crc.bits_high HU.out.2 hb, ← HU.out.1, Crc.zeros_step]
        · have t1 : decide ((i : Int) < 8) = false := decide_eq_false (by omega)
          obtain rfl : i = 8 := by omega
          go_wp2_with fail
          refine ⟨⟨j + 1, by omega, by go_num, ?_, trivial⟩, by simp [intOf]; omega⟩
          rw [HU.out.2, ← HU.out.1, Crc.crcTo_step HX.out, Crc.run_byte, HY.out, HV.out, BitVec.ofNat_toNat, BitVec.setWidth_eq]
          rfl
    · have t1 : decide ((j : Int) < (n : Int)) = false := decide_eq_false (by omega)
      obtain rfl : n = j := by omega
      go_wp2
      go_ret
      exact ⟨by rw [← Crc.crcTo_all (j := n) (by rw [← HL.out.len]; exact Nat.le_refl _)]; rfl, rfl⟩
end Go.Proofs.YtgnhpjakjoaejaaDoor
namespace Go.Proofs.YtgnhpjakjoaejaaDoor
open Go.RowKit

namespace Crc
def upto (r : BitVec 32) (x : UInt8) (i : Nat) : BitVec 32 := runC r ((bitsB x).take i)
theorem upto_all (r : BitVec 32) (x : UInt8) : upto r x 8 = runC r (bitsB x) := rfl
theorem upto_step (r : BitVec 32) (x : UInt8) {i : Nat} (h : i < 8) : upto r x (i + 1) = stepC (upto r x i) (x.toNat.testBit (7 - i)) := by
  unfold upto
  rw [List.take_add_one, bitsB_at x i h]
  simp only [Option.toList_some]
  rw [runC_app]
  rfl
theorem stepB_nat (z : BitVec 32) (b : Bool) : (stepC z b).toNat = (z.toNat * 2 % 4294967296) ^^^ (if (decide (2147483648 ≤ z.toNat) != b) then 1947962583 else 0) := by
  unfold stepC
  rw [BitVec.toNat_xor, BitVec.toNat_shiftLeft, Nat.shiftLeft_eq, BitVec.msb_eq_decide]
  by_cases h : 2147483648 ≤ z.toNat
  · cases b <;> simp [h, poly]
  · cases b <;> simp [h, poly]
theorem other_nat {u y k : Nat} {P : Int} (hP : P = ((2 ^ k : Nat) : Int)) (hu : u < 4294967296) (hy : y < 256) : ((u : Int) / 2147483648 != bits .and .u32 ((y : Int) / P) 1) = (decide (2147483648 ≤ u) != y.testBit k) := by
  have hq : y / 2 ^ k < 256 := Nat.lt_of_le_of_lt (Nat.div_le_self _ _) hy
  have e1 : bits .and .u32 ((y : Int) / P) 1 = ((y / 2 ^ k % 2 : Nat) : Int) := by
    rw [hP, show ((y : Int) / ((2 ^ k : Nat) : Int)) = ((y / 2 ^ k : Nat) : Int) from by rw [Int.natCast_ediv]]
    have := u32_and_nat (y / 2 ^ k) 1 (by omega) (by omega)
    rw [Nat.and_one_is_mod] at this
    exact this
  have e2 : ((u : Int) / 2147483648) = ((if 2147483648 ≤ u then 1 else 0 : Nat) : Int) := by
    split <;> omega
  rw [e1, e2, Nat.testBit_eq_decide_div_mod_eq]
  have h2 : y / 2 ^ k % 2 = 0 ∨ y / 2 ^ k % 2 = 1 := by omega
  by_cases h : 2147483648 ≤ u <;> rcases h2 with h2 | h2 <;> simp [h, h2]
theorem other_lo {z : BitVec 32} {u y k : Nat} {P : Int} (hP : P = ((2 ^ k : Nat) : Int)) (hu : u = z.toNat) (hy : y < 256) (h : ((u : Int) / 2147483648 != bits .and .u32 ((y : Int) / P) 1) = false) : ((u : Int) * 2 % 4294967296) = ((stepC z (y.testBit k)).toNat : Nat) := by
  have hz : u < 4294967296 := by rw [hu]; exact z.isLt
  rw [other_nat hP hz hy] at h
  rw [stepB_nat, ← hu, h, if_neg (by simp), Nat.xor_zero]
  omega
theorem other_hi {z : BitVec 32} {u y k : Nat} {P : Int} (hP : P = ((2 ^ k : Nat) : Int)) (hu : u = z.toNat) (hy : y < 256) (h : ((u : Int) / 2147483648 != bits .and .u32 ((y : Int) / P) 1) = true) : bits .xor .u32 ((u : Int) * 2 % 4294967296) 1947962583 = ((stepC z (y.testBit k)).toNat : Nat) := by
  have hz : u < 4294967296 := by rw [hu]; exact z.isLt
  rw [other_nat hP hz hy] at h
  rw [stepB_nat, ← hu, h, if_pos rfl, show ((u : Int) * 2 % 4294967296) = ((u * 2 % 4294967296 : Nat) : Int) from by omega]
  exact u32_xor_nat _ 1947962583 (by omega) (by decide)
end Crc
set_option maxRecDepth 100000 in
set_option maxHeartbeats 4000000 in
theorem rsum_any {w : World} {A : Option Addr} {n c : Nat} {l : Bs} (h : Bt w A n c l) (hn : n ≤ 2000000) :
    Calls Tryd.prog 46 #[.slice A n c] w fun e w' => e = .returned (.int .u32 ((Crc.crc l).toNat : Nat)) ∧ w = w' := by
  have HL := Lib.hid h
  clear h
  have hn2 : (n : Int) ≤ 2000000 := by omega
  go_enter Tryd.func46, Tryd.ntmps46
  go_wp2_with fail
  go_loopw [10, 3, 5, 6, 7] (fun s10 s3 _ _ _ wr => ∃ j : Nat, j ≤ n ∧ s10 = .int .i64 j ∧ s3 = .int .u32 ((Crc.crcTo l j).toNat : Nat) ∧ w = wr) (fun s10 _ _ _ _ _ => n - (intOf s10).toNat)
  case atStart => exact ⟨0, Nat.zero_le _, rfl, by simp [Crc.crcTo, Crc.bitsL, Crc.runC], rfl⟩
  case round =>
    obtain ⟨j, hj, rfl, rfl, rfl⟩ := hrel
    by_cases hlt : j < n
    · obtain ⟨x, hx⟩ : ∃ x, l[j]? = some x := ⟨_, List.getElem?_eq_getElem (by have := HL.out.len; omega)⟩
      obtain ⟨a, rfl, hcell⟩ := HL.out.cell hx
      have HX := Lib.hid hx
      have i1 : (0 : Int) ≤ (j : Int) := by omega
      have i2 : (j : Int) < (n : Int) := by omega
      unfold bv at hcell
      clear hx
      have hxl := x.toNat_lt
      generalize hr0 : Crc.crcTo l j = r0 at *
      have HR := Lib.hid hr0
      clear hr0
      generalize hy : x.toNat = y at *
      have HY := Lib.hid hy
      clear hy
      go_wp2_with fail
      go_loopw [6, 3, 7] (fun s6 s3 _ wr => ∃ i : Nat, i ≤ 8 ∧ s6 = .int .i64 (7 - (i : Int)) ∧ s3 = .int .u32 ((Crc.upto r0 x i).toNat : Nat) ∧ w = wr) (fun s6 _ _ _ => (intOf s6 + 1).toNat)
      case atStart => exact ⟨0, by omega, rfl, rfl, rfl⟩
      case round =>
        obtain ⟨i, hi, rfl, rfl, rfl⟩ := hrel
        generalize hz : Crc.upto r0 x i = z at *
        obtain ⟨u, hu⟩ : ∃ u, u = z.toNat := ⟨_, rfl⟩
        have hu2 : u < 4294967296 := by rw [hu]; exact z.isLt
        rw [← hu]
        have HU := Lib.hid (And.intro hz hu)
        clear hz hu
        by_cases hi8 : i < 8
        · have hc : i = 0 ∨ i = 1 ∨ i = 2 ∨ i = 3 ∨ i = 4 ∨ i = 5 ∨ i = 6 ∨ i = 7 := by omega
          rcases hc with rfl | rfl | rfl | rfl | rfl | rfl | rfl | rfl
          · go_wp2_with fail
            all_goals
              rename_i hq
              refine ⟨⟨0 + 1, by omega, by first | go_num | simp, ?_, trivial⟩, by simp [intOf]⟩
              rw [Crc.upto_step r0 x (i := 0) (by omega), HU.out.1, HY.out]
              first
              | rw [Crc.other_lo (P := 128) (k := 7 - 0) (z := z) (by decide) HU.out.2 hxl (by simpa using hq)]
              | rw [Crc.other_hi (P := 128) (k := 7 - 0) (z := z) (by decide) HU.out.2 hxl (by simpa using hq)]
          · go_wp2_with fail
            all_goals
              rename_i hq
              refine ⟨⟨1 + 1, by omega, by first | go_num | simp, ?_, trivial⟩, by simp [intOf]⟩
              rw [Crc.upto_step r0 x (i := 1) (by omega), HU.out.1, HY.out]
              first
              | rw [Crc.other_lo (P := 64) (k := 7 - 1) (z := z) (by decide) HU.out.2 hxl (by simpa using hq)]
              | rw [Crc.other_hi (P := 64) (k := 7 - 1) (z := z) (by decide) HU.out.2 hxl (by simpa using hq)]
          · go_wp2_with fail
            all_goals
              rename_i hq
              refine ⟨⟨2 + 1, by omega, by first | go_num | simp, ?_, trivial⟩, by simp [intOf]⟩
              rw [Crc.upto_step r0 x (i := 2) (by omega), HU.out.1, HY.out]
              first
              | rw [Crc.other_lo (P := 32) (k := 7 - 2) (z := z) (by decide) HU.out.2 hxl (by simpa using hq)]
              | rw [Crc.other_hi (P := 32) (k := 7 - 2) (z := z) (by decide) HU.out.2 hxl (by simpa using hq)]
          · go_wp2_with fail
            all_goals
              rename_i hq
              refine ⟨⟨3 + 1, by omega, by first | go_num | simp, ?_, trivial⟩, by simp [intOf]⟩
              rw [Crc.upto_step r0 x (i := 3) (by omega), HU.out.1, HY.out]
              first
              | rw [Crc.other_lo (P := 16) (k := 7 - 3) (z := z) (by decide) HU.out.2 hxl (by simpa using hq)]
              | rw [Crc.other_hi (P := 16) (k := 7 - 3) (z := z) (by decide) HU.out.2 hxl (by simpa using hq)]
          · go_wp2_with fail
            all_goals
              rename_i hq
              refine ⟨⟨4 + 1, by omega, by first | go_num | simp, ?_, trivial⟩, by simp [intOf]⟩
              rw [Crc.upto_step r0 x (i := 4) (by omega), HU.out.1, HY.out]
              first
              | rw [Crc.other_lo (P := 8) (k := 7 - 4) (z := z) (by decide) HU.out.2 hxl (by simpa using hq)]
              | rw [Crc.other_hi (P := 8) (k := 7 - 4) (z := z) (by decide) HU.out.2 hxl (by simpa using hq)]
          · go_wp2_with fail
            all_goals
              rename_i hq
              refine ⟨⟨5 + 1, by omega, by first | go_num | simp, ?_, trivial⟩, by simp [intOf]⟩
              rw [Crc.upto_step r0 x (i := 5) (by omega), HU.out.1, HY.out]
              first
              | rw [Crc.other_lo (P := 4) (k := 7 - 5) (z := z) (by decide) HU.out.2 hxl (by simpa using hq)]
              | rw [Crc.other_hi (P := 4) (k := 7 - 5) (z := z) (by decide) HU.out.2 hxl (by simpa using hq)]
          · go_wp2_with fail
            all_goals
              rename_i hq
              refine ⟨⟨6 + 1, by omega, by first | go_num | simp, ?_, trivial⟩, by simp [intOf]⟩
              rw [Crc.upto_step r0 x (i := 6) (by omega), HU.out.1, HY.out]
              first
              | rw [Crc.other_lo (P := 2) (k := 7 - 6) (z := z) (by decide) HU.out.2 hxl (by simpa using hq)]
              | rw [Crc.other_hi (P := 2) (k := 7 - 6) (z := z) (by decide) HU.out.2 hxl (by simpa using hq)]
          · go_wp2_with fail
            all_goals
              rename_i hq
              refine ⟨⟨7 + 1, by omega, by first | go_num | simp, ?_, trivial⟩, by simp [intOf]⟩
              rw [Crc.upto_step r0 x (i := 7) (by omega), HU.out.1, HY.out]
              first
              | rw [Crc.other_lo (P := 1) (k := 7 - 7) (z := z) (by decide) HU.out.2 hxl (by simpa using hq)]
              | rw [Crc.other_hi (P := 1) (k := 7 - 7) (z := z) (by decide) HU.out.2 hxl (by simpa using hq)]
        · have t1 : decide ((0 : Int) ≤ 7 - (i : Int)) = false := decide_eq_false (by omega)
          obtain rfl : i = 8 := by omega
          go_wp2_with fail
          refine ⟨⟨j + 1, by omega, by go_num, ?_, trivial⟩, by simp [intOf]; omega⟩
          rw [HU.out.2, ← HU.out.1, Crc.crcTo_step HX.out, HR.out, Crc.upto_all]
    · have t1 : decide ((j : Int) < (n : Int)) = false := decide_eq_false (by omega)
      obtain rfl : n = j := by omega
      go_wp2
      go_ret
      exact ⟨by rw [← Crc.crcTo_all (j := n) (by rw [← HL.out.len]; exact Nat.le_refl _)]; rfl, rfl⟩
end Go.Proofs.YtgnhpjakjoaejaaDoor
