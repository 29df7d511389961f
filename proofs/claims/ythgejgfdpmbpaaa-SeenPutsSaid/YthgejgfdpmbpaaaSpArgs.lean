/- Arguments: lists of whole numbers. -/
import Derived.Test.YthgejgfdpmbpaaaSpSame
set_option linter.unusedVariables false
set_option linter.unusedSimpArgs false
namespace Go.Proofs.Ythgejgfdpmbpaaa
open Go.RowKit Go.Proofs.YthgejgfdpmbpaaaW.PrintWords
theorem u64_at {W : World} {A : Option Addr} {l : List Int} (hC : Kd.C (Kd.int .u64) W A l.length l) (hw : ∀ x ∈ l, (Lit.int .u64 x).wf = true) {a : Nat} (h : a < l.length) :
    ∃ (ad : Addr) (x : Nat), A = some ad ∧ x < M64 ∧ W.cell? (ad.add a) = some (.int .u64 (x : Nat)) ∧ l[a]? = some (x : Int) := by
  obtain ⟨ad, rfl, hcx⟩ := Kd.at_int hC (a : Int) (by omega) (by omega)
  have hm : rd l (a : Int) ∈ l := by simp [rd, List.getD, List.getElem?_eq_getElem h]
  have hx := hw _ hm
  simp only [Lit.wf, Bool.and_eq_true, decide_eq_true_eq] at hx
  have e1 : IntKind.u64.min = 0 := by decide
  have e2 : IntKind.u64.max = 18446744073709551615 := by decide
  rw [e1, e2] at hx
  refine ⟨ad, (rd l (a : Int)).toNat, rfl, by unfold M64; omega, ?_, ?_⟩
  · rw [Int.toNat_natCast] at hcx
    rw [hcx, Int.toNat_of_nonneg (by omega)]
  · rw [Int.toNat_of_nonneg (by omega)]
    simp [rd, List.getD, List.getElem?_eq_getElem h]
theorem nat_u64 {a : Int} (w : (Lit.int .u64 a).wf = true) : ∃ m : Nat, a = m ∧ m < 18446744073709551616 := by
  simp only [Lit.wf, Bool.and_eq_true, decide_eq_true_eq] at w
  have e1 : IntKind.u64.min = 0 := by decide
  have e2 : IntKind.u64.max = 18446744073709551615 := by decide
  rw [e1, e2] at w
  exact ⟨a.toNat, by omega, by omega⟩
/-- A set that holds what is in a list, but 0. -/
structure Holds (R : List Rng) (S : List Int) (n : Nat) : Prop where
  wf : WF 1 R
  mem : ∀ m : Nat, memR R m = (decide (0 < m) && decide ((m : Int) ∈ S))
  len : R.length ≤ n
  size : sizeR R ≤ n
theorem Holds.nil : Holds [] [] 0 := ⟨trivial, fun m => by simp [memR], Nat.le_refl _, Nat.le_refl _⟩
theorem Holds.add {R : List Rng} {S : List Int} {n : Nat} (h : Holds R S n) {x : Nat} (hx : x < M64) {S' : List Int} (hS : ∀ m : Int, m ∈ S' ↔ m ∈ S ∨ m = (x : Int)) : Holds (addR R x) S' (n + 1) ∧
    sizeR (addR R x) = sizeR R + (if (0 < x && !memR R x) = true then 1 else 0) := by
  obtain ⟨a1, a2, a3, a4⟩ := addR_facts h.wf hx
  refine ⟨⟨a1, fun m => ?_, by have := h.len; omega, ?_⟩, a3⟩
  · rw [a2, h.mem]
    by_cases hm : m = x
    · subst hm
      have : ((m : Int) ∈ S') := (hS _).2 (.inr rfl)
      simp only [this, decide_true, Bool.true_and, Bool.and_true]
      cases decide (0 < m) <;> simp
    · have e : ((m : Int) ∈ S') ↔ ((m : Int) ∈ S) := by rw [hS]; constructor; (rintro (h | h); exact h; omega); exact .inl
      simp [hm, e]
  · have := h.size
    rw [a3]
    split <;> omega
theorem Holds.uniq {R R' : List Rng} {S S' : List Int} {n n' : Nat} (h : Holds R S n) (k : Holds R' S' n') (hS : ∀ m : Int, m ∈ S ↔ m ∈ S') : R = R' :=
  h.wf.uniq k.wf fun m => by rw [h.mem, k.mem]; simp [hS]
theorem mem_take_succ {l : List Int} {k : Nat} {x : Int} (h : l[k]? = some x) (m : Int) : m ∈ l.take (k + 1) ↔ m ∈ l.take k ∨ m = x := by
  rw [List.take_add_one, h]; simp
theorem mem_drop_pred {l : List Int} {k : Nat} {x : Int} (hk : k < l.length) (h : l[l.length - 1 - k]? = some x) (m : Int) : m ∈ l.drop (l.length - (k + 1)) ↔ m ∈ l.drop (l.length - k) ∨ m = x := by
  have e : l.drop (l.length - (k + 1)) = x :: l.drop (l.length - k) := by
    have hlt : l.length - (k + 1) < l.length := by omega
    rw [List.drop_eq_getElem_cons hlt]
    have : l[l.length - (k + 1)] = x := by
      have := (List.getElem?_eq_some_iff.1 h).2
      simpa [show l.length - 1 - k = l.length - (k + 1) by omega] using this
    rw [this, show l.length - (k + 1) + 1 = l.length - k by omega]
  rw [e]; simp [or_comm]
end Go.Proofs.Ythgejgfdpmbpaaa
