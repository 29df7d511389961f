/- Numbers up to one: how many a set of them can hold. No program. -/
import Derived.Test.YtbnhnmfmgfoacaaSpHolesP
set_option linter.unusedVariables false
set_option linter.unusedSimpArgs false
namespace Go.Proofs.Ytbnhnmfmgfoacaa
theorem size_le : ∀ {R : List Rng} {a k : Nat}, WF a R → (∀ r ∈ R, r.2 ≤ k) → a ≤ k + 1 → sizeR R + a ≤ k + 1
  | [], a, k, _, _, h => by simpa [sizeR] using h
  | r :: R, a, k, hw, hk, h => by
    have h1 := hw.1
    have h2 := hw.2.1
    have h3 := hk r (by simp)
    rw [sizeR_cons]
    cases R with
    | nil => simp [sizeR]; omega
    | cons s S =>
      have hs := hk s (by simp)
      have h4 := hw.2.2.2.1
      have h5 := hw.2.2.2.2.1
      have := size_le hw.2.2.2 (fun r hr => hk r (List.mem_cons_of_mem _ hr)) (by omega)
      omega
/-- A set of numbers up to k, of i numbers. -/
structure Up (R : List Rng) (k i : Nat) : Prop where
  wf : WF 1 R
  size : sizeR R = i
  up : ∀ m, memR R m = true → m ≤ k
theorem Up.hi {R : List Rng} {k i : Nat} (h : Up R k i) : ∀ r ∈ R, r.2 ≤ k := fun r hr => h.up r.2 (by
  have := (h.wf.mem r hr).2.1
  exact List.any_eq_true.2 ⟨r, hr, by simp [this]⟩)
theorem Up.le {R : List Rng} {k i : Nat} (h : Up R k i) : i ≤ k := by
  have := size_le h.wf h.hi (by omega)
  have := h.size
  omega
theorem Up.len {R : List Rng} {k i : Nat} (h : Up R k i) : R.length ≤ i := by
  have := sizeR_len h.wf
  have := h.size
  omega
theorem Up.add {R : List Rng} {k i n : Nat} (h : Up R k i) (hk : k < M64) (h1 : 1 ≤ n) (h2 : n ≤ k) (hm : memR R n = false) : Up (addR R n) k (i + 1) := by
  obtain ⟨a1, a2, a3, _⟩ := addR_facts h.wf (n := n) (by omega)
  refine ⟨a1, ?_, fun m hm' => ?_⟩
  · rw [a3, h.size, hm]
    simp; omega
  · rw [a2] at hm'
    simp at hm'
    rcases hm' with hm' | ⟨rfl, _⟩
    · exact h.up m hm'
    · exact h2
theorem Up.nil (k : Nat) : Up [] k 0 := ⟨trivial, rfl, fun m h => by simp [memR] at h⟩
theorem memR_one (k m : Nat) : memR [(1, k)] m = (decide (1 ≤ m) && decide (m ≤ k)) := by simp [memR]
theorem Up.full {R : List Rng} {k : Nat} (h : Up R k k) (hk : k < M64) (h1 : 1 ≤ k) : R = [(1, k)] := by
  refine h.wf.uniq (b := 1) ⟨Nat.le_refl _, h1, hk, trivial⟩ fun n => ?_
  rw [memR_one]
  cases hm : memR R n with
  | true =>
    have h2 := h.up n hm
    have h3 : 1 ≤ n := by
      rcases Nat.lt_or_ge n 1 with h4 | h4
      · rw [memR_low h.wf h4] at hm; cases hm
      · exact h4
    simp [h2, h3]
  | false =>
    by_cases h2 : 1 ≤ n ∧ n ≤ k
    · have := (h.add hk h2.1 h2.2 hm).le
      omega
    · symm
      rw [← Bool.decide_and]
      exact decide_eq_false h2
/-- Some number is not there. -/
theorem Up.free {R : List Rng} {k i : Nat} (h : Up R k i) (hi : i < k) (hk : k < M64) (at_ : Nat) : ∃ d, d < k ∧ memR R ((at_ + d) % k + 1) = false := by
  refine Classical.byContradiction fun hn => ?_
  have hall : ∀ d, d < k → memR R ((at_ + d) % k + 1) = true := fun d hd => by
    cases hm : memR R ((at_ + d) % k + 1) with
    | true => rfl
    | false => exact absurd ⟨d, hd, hm⟩ hn
  have hR : R = [(1, k)] := by
    refine h.wf.uniq (b := 1) ⟨Nat.le_refl _, by omega, hk, trivial⟩ fun n => ?_
    rw [memR_one]
    by_cases h2 : 1 ≤ n ∧ n ≤ k
    · have e : (at_ + ((n - 1) + k - at_ % k) % k) % k + 1 = n := by
        have hk0 : 0 < k := by omega
        have h3 : at_ % k < k := Nat.mod_lt _ hk0
        rw [Nat.add_mod, Nat.mod_mod]
        by_cases hc : at_ % k ≤ n - 1
        · have e1 : (n - 1 + k - at_ % k) % k = n - 1 - at_ % k := by
            rw [show n - 1 + k - at_ % k = (n - 1 - at_ % k) + k by omega, Nat.add_mod_right]
            exact Nat.mod_eq_of_lt (by omega)
          rw [e1, show at_ % k + (n - 1 - at_ % k) = n - 1 by omega, Nat.mod_eq_of_lt (by omega)]
          omega
        · have e1 : (n - 1 + k - at_ % k) % k = n - 1 + k - at_ % k := Nat.mod_eq_of_lt (by omega)
          rw [e1, show at_ % k + (n - 1 + k - at_ % k) = (n - 1) + k by omega, Nat.add_mod_right, Nat.mod_eq_of_lt (by omega)]
          omega
      have := hall (((n - 1) + k - at_ % k) % k) (Nat.mod_lt _ (by omega))
      rw [e] at this
      rw [this]
      simp [h2.1, h2.2]
    · rw [show (decide (1 ≤ n) && decide (n ≤ k)) = false by rw [← Bool.decide_and]; exact decide_eq_false h2]
      cases hm : memR R n with
      | false => rfl
      | true =>
        have h3 := h.up n hm
        rcases Nat.lt_or_ge n 1 with h4 | h4
        · rw [memR_low h.wf h4] at hm; cases hm
        · exact absurd ⟨h4, h3⟩ h2
  have := h.size
  rw [hR] at this
  simp [sizeR] at this
  omega
end Go.Proofs.Ytbnhnmfmgfoacaa
