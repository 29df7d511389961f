/- Plain: the sum by halves counts the bits of a number below 2^64. -/
import Derived.Test.YthcedodfedfkgaaDoorMkPlain
namespace Go.Proofs.YthcedodfedfkgaaDoor.Bt
open Go

/-- A number out of its bytes, the lowest first. -/
def val : List Nat → Nat
  | [] => 0
  | b :: bs => b + 256 * val bs
def Bytes (bs : List Nat) : Prop := ∀ b ∈ bs, b < 256

theorem and_bytes (a h A H : Nat) (ha : a < 256) (hA : A < 256) : (a + 256 * h) &&& (A + 256 * H) = (a &&& A) + 256 * (h &&& H) := by
  have h1 : (a + 256 * h) = 2 ^ 8 * h + a := by omega
  have h2 : (A + 256 * H) = 2 ^ 8 * H + A := by omega
  have h3 : (a &&& A) + 256 * (h &&& H) = 2 ^ 8 * (h &&& H) + (a &&& A) := by omega
  rw [h1, h2, h3]
  apply Nat.eq_of_testBit_eq
  intro i
  have hlt : a &&& A < 2 ^ 8 := Nat.and_lt_two_pow _ (by omega)
  rw [Nat.testBit_and, Nat.testBit_two_pow_mul_add _ (by omega), Nat.testBit_two_pow_mul_add _ (by omega), Nat.testBit_two_pow_mul_add _ hlt]
  by_cases hi : i < 8
  · simp only [hi, if_true, Nat.testBit_and]
  · simp only [hi, if_false, Nat.testBit_and]

def f1 (b : Nat) : Nat := (b / 2 &&& 85) + (b &&& 85)
def f2 (b : Nat) : Nat := (b / 4 &&& 51) + (b &&& 51)
def f3 (b : Nat) : Nat := (b + b / 16) &&& 15

theorem dec1 : ∀ b, b < 256 → ∀ t, t < 2 → ((b / 2 + 128 * t) &&& 85) = (b / 2 &&& 85) := by decide +kernel
theorem dec2 : ∀ b, b < 256 → ∀ t, t < 4 → ((b / 4 + 64 * t) &&& 51) = (b / 4 &&& 51) := by decide +kernel
theorem dec3 : ∀ b, b < 69 → ∀ t, t < 5 → (((b + b / 16) + 16 * t) &&& 15) = f3 b := by decide +kernel
theorem dec4 : ∀ b, b < 256 → f1 b < 256 ∧ f2 (f1 b) < 69 ∧ f2 (f1 b) % 16 < 5 ∧ f3 (f2 (f1 b)) ≤ 8 := by decide +kernel

theorem step1 : ∀ bs : List Nat, Bytes bs → (val bs / 2 &&& val (bs.map fun _ => 85)) + (val bs &&& val (bs.map fun _ => 85)) = val (bs.map f1)
  | [], _ => rfl
  | b :: bs, h => by
    have hb : b < 256 := h b (by simp)
    have ih := step1 bs fun x hx => h x (by simp [hx])
    simp only [List.map_cons, val]
    have e : (b + 256 * val bs) / 2 = (b / 2 + 128 * (val bs % 2)) + 256 * (val bs / 2) := by omega
    rw [e, and_bytes _ _ _ _ (by omega) (by omega), and_bytes _ _ _ _ hb (by omega), dec1 b hb _ (by omega), ← ih]
    unfold f1
    omega

theorem step2 : ∀ bs : List Nat, Bytes bs → (val bs / 4 &&& val (bs.map fun _ => 51)) + (val bs &&& val (bs.map fun _ => 51)) = val (bs.map f2)
  | [], _ => rfl
  | b :: bs, h => by
    have hb : b < 256 := h b (by simp)
    have ih := step2 bs fun x hx => h x (by simp [hx])
    simp only [List.map_cons, val]
    have e : (b + 256 * val bs) / 4 = (b / 4 + 64 * (val bs % 4)) + 256 * (val bs / 4) := by omega
    rw [e, and_bytes _ _ _ _ (by omega) (by omega), and_bytes _ _ _ _ hb (by omega), dec2 b hb _ (by omega), ← ih]
    unfold f2
    omega

theorem step3 : ∀ bs : List Nat, (∀ b ∈ bs, b < 69 ∧ b % 16 < 5) → ((val bs / 16 + val bs) &&& val (bs.map fun _ => 15)) = val (bs.map f3) ∧ val bs % 16 < 5
  | [], _ => ⟨rfl, by simp [val]⟩
  | b :: bs, h => by
    have hb := h b (by simp)
    obtain ⟨ih, ht⟩ := step3 bs fun x hx => h x (by simp [hx])
    simp only [List.map_cons, val]
    refine ⟨?_, by omega⟩
    have e : (b + 256 * val bs) / 16 + (b + 256 * val bs) = ((b + b / 16) + 16 * (val bs % 16)) + 256 * (val bs / 16 + val bs) := by omega
    rw [e, and_bytes _ _ _ _ (by omega) (by omega), dec3 b hb.1 _ ht, ih]

/-- How many of the lowest k bits are set. -/
def pc : Nat → Nat → Nat
  | 0, _ => 0
  | k + 1, m => m % 2 + pc k (m / 2)

theorem pc_split (r : Nat) : ∀ j k b, b < 2 ^ j → pc (j + k) (b + 2 ^ j * r) = pc j b + pc k r
  | 0, k, b, h => by
    have : b = 0 := by simpa using h
    subst this
    simp [pc]
  | j + 1, k, b, h => by
    rw [show j + 1 + k = (j + k) + 1 from by omega]
    simp only [pc]
    have e1 : (b + 2 ^ (j + 1) * r) % 2 = b % 2 := by rw [Nat.pow_succ, Nat.mul_comm (2 ^ j) 2, Nat.mul_assoc]; omega
    have e2 : (b + 2 ^ (j + 1) * r) / 2 = b / 2 + 2 ^ j * r := by rw [Nat.pow_succ, Nat.mul_comm (2 ^ j) 2, Nat.mul_assoc]; omega
    rw [e1, e2, pc_split r j k (b / 2) (by rw [Nat.pow_succ] at h; omega)]
    omega

theorem dec5 : ∀ b, b < 256 → f3 (f2 (f1 b)) = pc 8 b := by decide +kernel

theorem pc_val : ∀ bs : List Nat, Bytes bs → pc (8 * bs.length) (val bs) = (bs.map fun b => f3 (f2 (f1 b))).sum
  | [], _ => rfl
  | b :: bs, h => by
    have hb : b < 256 := h b (by simp)
    have ih := pc_val bs fun x hx => h x (by simp [hx])
    simp only [List.length_cons, val, List.map_cons, List.sum_cons]
    rw [show 8 * (bs.length + 1) = 8 + 8 * bs.length from by omega, show 256 = 2 ^ 8 from rfl, pc_split _ 8 _ b hb, ih, dec5 b hb]

theorem pc_filter : ∀ k m, pc k m = ((List.range k).filter fun i => m.testBit i).length
  | 0, _ => rfl
  | k + 1, m => by
    simp only [pc]
    rw [pc_filter k (m / 2), List.range_succ_eq_map, List.filter_cons]
    have e : ((List.range k).map Nat.succ).filter (fun i => m.testBit i) = ((List.range k).filter fun i => (m / 2).testBit i).map Nat.succ := by
      rw [List.filter_map]
      congr 1
      apply List.filter_congr
      intro i _
      simp [Nat.testBit_succ]
    rw [e]
    have h0 : m.testBit 0 = decide (m % 2 = 1) := Nat.testBit_zero m
    rw [h0]
    by_cases h : m % 2 = 1
    · simp [h]; omega
    · have : m % 2 = 0 := by omega
      simp [this]
theorem pc_bitsL (m : Nat) : pc 64 m = (bitsL m).length := pc_filter 64 m

/-- The bytes of a number below 2^64. -/
theorem has_bytes (m : Nat) (hm : m < 18446744073709551616) : ∃ b0 b1 b2 b3 b4 b5 b6 b7, val [b0, b1, b2, b3, b4, b5, b6, b7] = m ∧ Bytes [b0, b1, b2, b3, b4, b5, b6, b7] := by
  refine ⟨m % 256, m / 256 % 256, m / 65536 % 256, m / 16777216 % 256, m / 4294967296 % 256, m / 1099511627776 % 256, m / 281474976710656 % 256, m / 72057594037927936, ?_, ?_⟩
  · simp only [val]; omega
  · intro b hb
    simp only [List.mem_cons, List.not_mem_nil, or_false] at hb
    rcases hb with rfl | rfl | rfl | rfl | rfl | rfl | rfl | rfl <;> omega

theorem fold8 (q0 q1 q2 q3 q4 q5 q6 q7 : Nat) (h0 : q0 ≤ 8) (h1 : q1 ≤ 8) (h2 : q2 ≤ 8) (h3 : q3 ≤ 8) (h4 : q4 ≤ 8) (h5 : q5 ≤ 8) (h6 : q6 ≤ 8) (h7 : q7 ≤ 8) (x3 x4 x5 x6 : Nat)
    (e3 : x3 = q0 + 256 * (q1 + 256 * (q2 + 256 * (q3 + 256 * (q4 + 256 * (q5 + 256 * (q6 + 256 * q7))))))) (e4 : x4 = x3 + x3 / 256) (e5 : x5 = x4 + x4 / 65536) (e6 : x6 = x5 + x5 / 4294967296) :
    x6 % 128 = q0 + (q1 + (q2 + (q3 + (q4 + (q5 + (q6 + q7)))))) := by
  have d3 : x3 / 256 = q1 + 256 * (q2 + 256 * (q3 + 256 * (q4 + 256 * (q5 + 256 * (q6 + 256 * q7))))) := by clear e4 e5 e6; omega
  have e4' : x4 = (q0 + q1) + 256 * ((q1 + q2) + 256 * ((q2 + q3) + 256 * ((q3 + q4) + 256 * ((q4 + q5) + 256 * ((q5 + q6) + 256 * ((q6 + q7) + 256 * q7)))))) := by rw [e4, d3, e3]; clear e3 e4 e5 e6 d3 h0 h1 h2 h3 h4 h5 h6 h7; omega
  have d4 : x4 / 65536 = (q2 + q3) + 256 * ((q3 + q4) + 256 * ((q4 + q5) + 256 * ((q5 + q6) + 256 * ((q6 + q7) + 256 * q7)))) := by
    clear d3 e4 e3 e5 e6
    rw [show (65536 : Nat) = 256 * 256 from rfl, ← Nat.div_div_eq_div_mul]
    have : x4 / 256 = (q1 + q2) + 256 * ((q2 + q3) + 256 * ((q3 + q4) + 256 * ((q4 + q5) + 256 * ((q5 + q6) + 256 * ((q6 + q7) + 256 * q7))))) := by omega
    omega
  obtain ⟨T5, hT5⟩ : ∃ T, T = (q4 + q5 + q6 + q7) + 256 * ((q5 + q6 + q7) + 256 * ((q6 + q7) + 256 * q7)) := ⟨_, rfl⟩
  have e5' : x5 = (q0 + q1 + q2 + q3) + 256 * ((q1 + q2 + q3 + q4) + 256 * ((q2 + q3 + q4 + q5) + 256 * ((q3 + q4 + q5 + q6) + 256 * T5))) := by rw [e5, d4, e4', hT5]; clear e3 e4 e5 e6 d3 h0 h1 h2 h3 h4 h5 h6 h7 d4 e4' hT5; omega
  have d5 : x5 / 4294967296 = T5 := by
    clear d3 e4 e3 d4 e4' e5 e6
    have hT : T5 < 100000000 * 100000000 := by clear e5'; omega
    clear hT5
    rw [show (4294967296 : Nat) = 256 * 256 * 256 * 256 from rfl, ← Nat.div_div_eq_div_mul, ← Nat.div_div_eq_div_mul, ← Nat.div_div_eq_div_mul]
    have a1 : x5 / 256 = (q1 + q2 + q3 + q4) + 256 * ((q2 + q3 + q4 + q5) + 256 * ((q3 + q4 + q5 + q6) + 256 * T5)) := by omega
    have a2 : x5 / 256 / 256 = (q2 + q3 + q4 + q5) + 256 * ((q3 + q4 + q5 + q6) + 256 * T5) := by omega
    have a3 : x5 / 256 / 256 / 256 = (q3 + q4 + q5 + q6) + 256 * T5 := by omega
    omega
  have m5 : T5 % 256 = q4 + q5 + q6 + q7 := by clear e3 e4 e5 e6 d3 d4 e4' e5' d5; omega
  rw [e6, d5, e5']
  clear e3 e4 e5 e6 d3 d4 e4' e5' d5 hT5
  omega

def halves (m : Nat) : Nat :=
  let x1 := (m / 2 &&& 6148914691236517205) + (m &&& 6148914691236517205)
  let x2 := (x1 / 4 &&& 3689348814741910323) + (x1 &&& 3689348814741910323)
  let x3 := (x2 / 16 + x2) &&& 1085102592571150095
  let x4 := x3 + x3 / 256
  let x5 := x4 + x4 / 65536
  let x6 := x5 + x5 / 4294967296
  x6 % 128

theorem halves_spec (m : Nat) (hm : m < 18446744073709551616) :
    (m / 2 &&& 6148914691236517205) + (m &&& 6148914691236517205) < 18446744073709551616 ∧
    (((m / 2 &&& 6148914691236517205) + (m &&& 6148914691236517205)) / 4 &&& 3689348814741910323) + (((m / 2 &&& 6148914691236517205) + (m &&& 6148914691236517205)) &&& 3689348814741910323) < 4919131752989213765 ∧
    ((((((m / 2 &&& 6148914691236517205) + (m &&& 6148914691236517205)) / 4 &&& 3689348814741910323) + (((m / 2 &&& 6148914691236517205) + (m &&& 6148914691236517205)) &&& 3689348814741910323)) / 16 + ((((m / 2 &&& 6148914691236517205) + (m &&& 6148914691236517205)) / 4 &&& 3689348814741910323) + (((m / 2 &&& 6148914691236517205) + (m &&& 6148914691236517205)) &&& 3689348814741910323))) &&& 1085102592571150095) ≤ 578721382704613384 ∧
    halves m = (bitsL m).length := by
  obtain ⟨b0, b1, b2, b3, b4, b5, b6, b7, rfl, hb⟩ := has_bytes m hm
  have h1 := step1 _ hb
  have hb1 : Bytes ([b0, b1, b2, b3, b4, b5, b6, b7].map f1) := fun x hx => by
    obtain ⟨y, hy, rfl⟩ := List.mem_map.1 hx
    exact (dec4 y (hb y hy)).1
  have h2 := step2 _ hb1
  have hb2 : ∀ b ∈ ([b0, b1, b2, b3, b4, b5, b6, b7].map f1).map f2, b < 69 ∧ b % 16 < 5 := fun x hx => by
    obtain ⟨y, hy, rfl⟩ := List.mem_map.1 hx
    obtain ⟨z, hz, rfl⟩ := List.mem_map.1 hy
    exact ⟨(dec4 z (hb z hz)).2.1, (dec4 z (hb z hz)).2.2.1⟩
  have h3 := (step3 _ hb2).1
  have hp := pc_val _ hb
  have p0 := dec4 b0 (hb b0 (by simp)); have p1 := dec4 b1 (hb b1 (by simp)); have p2 := dec4 b2 (hb b2 (by simp)); have p3 := dec4 b3 (hb b3 (by simp))
  have p4 := dec4 b4 (hb b4 (by simp)); have p5 := dec4 b5 (hb b5 (by simp)); have p6 := dec4 b6 (hb b6 (by simp)); have p7 := dec4 b7 (hb b7 (by simp))
  rw [← pc_bitsL]
  unfold halves
  simp only [List.map_cons, List.map_nil, val, List.length_cons, List.length_nil, List.sum_cons, List.sum_nil, Nat.mul_zero, Nat.add_zero, Nat.reduceMul, Nat.reduceAdd] at h1 h2 h3 hp ⊢
  rw [h1, h2, h3, hp]
  generalize f3 (f2 (f1 b0)) = q0 at *
  generalize f3 (f2 (f1 b1)) = q1 at *
  generalize f3 (f2 (f1 b2)) = q2 at *
  generalize f3 (f2 (f1 b3)) = q3 at *
  generalize f3 (f2 (f1 b4)) = q4 at *
  generalize f3 (f2 (f1 b5)) = q5 at *
  generalize f3 (f2 (f1 b6)) = q6 at *
  generalize f3 (f2 (f1 b7)) = q7 at *
  clear h1 h2 h3 hp hb hb1 hb2 hm
  refine ⟨by omega, by omega, by omega, ?_⟩
  exact fold8 q0 q1 q2 q3 q4 q5 q6 q7 p0.2.2.2 p1.2.2.2 p2.2.2.2 p3.2.2.2 p4.2.2.2 p5.2.2.2 p6.2.2.2 p7.2.2.2 _ _ _ _ rfl rfl rfl rfl
end Go.Proofs.YthcedodfedfkgaaDoor.Bt
