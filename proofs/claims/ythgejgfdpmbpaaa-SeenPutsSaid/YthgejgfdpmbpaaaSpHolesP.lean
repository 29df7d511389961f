/- Ranges that rise and do not touch: their gaps. No program. -/
import Derived.Test.YthgejgfdpmbpaaaSpArgs
set_option linter.unusedVariables false
set_option linter.unusedSimpArgs false
namespace Go.Proofs.Ythgejgfdpmbpaaa
theorem topR_cons2 (r s : Rng) (R : List Rng) : topR (r :: s :: R) = topR (s :: R) := by simp [topR]
theorem top_ge : ∀ {R : List Rng} {r : Rng} {a : Nat}, WF a (r :: R) → r.1 + sizeR (r :: R) + R.length ≤ topR (r :: R) + 1
  | [], r, a, h => by
    have := h.2.1
    simp [sizeR, topR]; omega
  | s :: S, r, a, h => by
    have ih := top_ge h.2.2.2
    have h1 := h.2.1
    have h2 := h.2.2.2.1
    rw [topR_cons2, sizeR_cons, List.length_cons]
    omega
theorem gaps_top {R : List Rng} (h : WF 1 R) : gapsR R + sizeR R ≤ (topR R : Int) := by
  cases R with
  | nil => simp [gapsR, sizeR, topR, lowR]
  | cons r R =>
    have := top_ge h
    have h1 := h.1
    have h2 := h.2.1
    unfold gapsR
    rw [List.length_cons]
    by_cases he : r.1 = 1
    · have : lowR (r :: R) = r.2 := by simp [lowR, he]
      rw [this, if_pos (by omega)]
      omega
    · have : lowR (r :: R) = 0 := by simp [lowR, he]
      rw [this, if_neg (by omega)]
      omega
theorem gaps_nonneg {R : List Rng} : 0 ≤ gapsR R := by
  unfold gapsR
  cases R with
  | nil => simp [lowR]
  | cons r R => rw [List.length_cons]; split <;> omega
theorem gaps_zero {R : List Rng} (h : WF 1 R) : ((gapsR R == 0) : Bool) = ((lowR R : Int) == (topR R : Int)) := by
  rw [Bool.eq_iff_iff, beq_iff_eq, beq_iff_eq]
  cases R with
  | nil => simp [gapsR, topR, lowR]
  | cons r R =>
    have ht := top_ge h
    have h1 := h.1
    have h2 := h.2.1
    unfold gapsR
    rw [List.length_cons]
    by_cases he : r.1 = 1
    · have e : lowR (r :: R) = r.2 := by simp [lowR, he]
      rw [e, if_pos (by omega)]
      cases R with
      | nil => simp [topR]
      | cons s S =>
        have h3 := h.2.2.2.1
        have h4 := h.2.2.2.2.1
        have := top_ge h.2.2.2
        have hs := sizeR_cons s S
        rw [topR_cons2]
        simp only [List.length_cons] at *
        omega
    · have e : lowR (r :: R) = 0 := by simp [lowR, he]
      rw [e, if_neg (by omega), sizeR_cons] at *
      omega
theorem WF.at_ : ∀ {R : List Rng} {a k : Nat} {r : Rng}, WF a R → R[k]? = some r → a ≤ r.1 ∧ r.1 ≤ r.2 ∧ r.2 < M64 ∧ (∀ s, 0 < k → R[k - 1]? = some s → s.2 + 2 ≤ r.1)
  | [], _, k, _, _, h => by simp at h
  | x :: R, a, 0, r, h, e => by
    simp at e
    subst e
    exact ⟨h.1, h.2.1, h.2.2.1, fun s h0 => absurd h0 (by omega)⟩
  | x :: R, a, k + 1, r, h, e => by
    have e' : R[k]? = some r := by simpa using e
    obtain ⟨h1, h2, h3, h4⟩ := WF.at_ h.2.2.2 e'
    have ha := h.1
    have hb := h.2.1
    refine ⟨by omega, h2, h3, fun s _ hs => ?_⟩
    rcases Nat.eq_zero_or_pos k with rfl | hk
    · simp at hs; subst hs; exact h1
    · refine h4 s hk ?_
      obtain ⟨k, rfl⟩ : ∃ j, k = j + 1 := ⟨k - 1, by omega⟩
      simpa using hs
theorem WF.holds_lo {R : List Rng} {k : Nat} {r : Rng} (h : WF 1 R) (e : R[k]? = some r) : memR R r.1 = true ∧ memR R r.2 = true := by
  have h1 := (WF.at_ h e).2.1
  have hm := List.mem_of_getElem? e
  exact ⟨List.any_eq_true.2 ⟨r, hm, by simp [h1]⟩, List.any_eq_true.2 ⟨r, hm, by simp [h1]⟩⟩
theorem WF.not_ahead : ∀ {R : List Rng} {a k : Nat} {r : Rng}, WF a R → R[k]? = some r → 1 ≤ r.1 → memR R (r.1 - 1) = false
  | [], _, k, _, _, h, _ => by simp at h
  | x :: R, a, 0, r, h, e, h0 => by
    simp at e
    subst e
    rw [memR_cons, memR_low h.2.2.2 (by have := h.2.1; omega)]
    simp; omega
  | x :: R, a, k + 1, r, h, e, h0 => by
    have e' : R[k]? = some r := by simpa using e
    have ih := WF.not_ahead h.2.2.2 e' h0
    have := (WF.at_ h.2.2.2 e').1
    rw [memR_cons, ih]
    simp; omega
theorem size_take {R : List Rng} {k : Nat} {r : Rng} (h : R[k]? = some r) : sizeR (R.take (k + 1)) = sizeR (R.take k) + (r.2 + 1 - r.1) := by
  rw [List.take_add_one, h, sizeR_append]; simp [sizeR]
theorem size_take_le (R : List Rng) (k : Nat) : sizeR (R.take k) ≤ sizeR R := by
  have := sizeR_append (R.take k) (R.drop k)
  rw [List.take_append_drop] at this
  omega
end Go.Proofs.Ythgejgfdpmbpaaa
