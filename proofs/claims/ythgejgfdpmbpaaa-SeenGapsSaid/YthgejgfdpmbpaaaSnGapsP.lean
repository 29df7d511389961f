/- Package seen: the plain law behind SeenGaps. -/
import Derived.Test.YthgejgfdpmbpaaaSnAlike
import Derived.Test.YthgejgfdpmbpaaaSnCopy
set_option linter.unusedVariables false
set_option linter.unusedSimpArgs false
namespace Go.Proofs.Ythgejgfdpmbpaaa
open Go.RowKit Go.Shelf

theorem low_pos {R : List Rng} (h : WF 1 R) : (0 < lowR R) ↔ memR R 1 = true := by
  cases R with
  | nil => simp [lowR, memR]
  | cons r R =>
    obtain ⟨h1, h2, h3, h4⟩ := h
    have hno : ∀ (S : List Rng) (a : Nat), WF a S → 2 ≤ a → memR S 1 = false := by
      intro S
      induction S with
      | nil => intro a _ _; rfl
      | cons s S ih =>
        intro a hS ha
        obtain ⟨k1, k2, k3, k4⟩ := hS
        have := ih _ k4 (by omega)
        unfold memR at this ⊢
        rw [List.any_cons, this]
        simp
        omega
    have hT := hno R _ h4 (by omega)
    unfold memR at hT ⊢
    rw [List.any_cons, hT]
    show (0 < if r.1 = 1 then r.2 else 0) ↔ _
    by_cases e : r.1 = 1
    · rw [if_pos e]; simp; omega
    · rw [if_neg e]; simp; omega

/-- What has been told of one origin: fresh of them were new. -/
structure Told (R : Nat → List Rng) (o : Int) (k fr : Nat) : Prop where
  sound : Sound R k
  le : fr ≤ k
  others : ∀ i : Nat, i < 9 → (i : Int) ≠ o → R i = []
  gaps : gapsR (getR R o) ≤ (fr : Int)
  some_ : 0 < fr ↔ getR R o ≠ []
theorem Told.start (o : Int) : Told (fun _ => []) o 0 0 := by
  have e : getR (fun _ => []) o = [] := by unfold getR; split <;> rfl
  refine ⟨Sound.nil, Nat.le_refl _, fun _ _ _ => rfl, ?_, ?_⟩
  · rw [e]; decide
  · rw [e]; simp
theorem addB_out {R : Nat → List Rng} {o : Int} {n : Nat} (h : ¬ (1 ≤ o ∧ o ≤ 8)) : addB R o n = R := by unfold addB; rw [if_neg h]
theorem addR_same {R : List Rng} {n : Nat} (h : (decide (0 < n) && !memR R n) = false) : addR R n = R := by
  unfold addR
  rw [if_neg (by simpa using h)]
theorem Told.add {R : Nat → List Rng} {o : Int} {k fr n : Nat} (h : Told R o k fr) (hn : n < M64) :
    Told (addB R o n) o (k + 1) (if isNew R o n = true then fr + 1 else fr) := by
  have hs := h.sound.add hn o
  by_cases ho : 1 ≤ o ∧ o ≤ 8
  · have e : getR (addB R o n) o = addR (getR R o) n := by rw [getR_add, if_pos ⟨rfl, ho⟩]
    have hw := (h.sound.get o).1
    obtain ⟨f1, f2, f3, f4⟩ := addR_facts hw hn
    have hoth : ∀ i : Nat, i < 9 → (i : Int) ≠ o → addB R o n i = [] := fun i hi hne => by
      unfold addB
      rw [if_pos ho, upd_other _ _ (by omega)]
      exact h.others i hi hne
    by_cases hb : isNew R o n = true
    · rw [if_pos hb]
      have hb' := hb
      unfold isNew at hb'
      simp only [Bool.and_eq_true, decide_eq_true_eq, Bool.not_eq_true'] at hb'
      refine ⟨hs, by have := h.le; omega, hoth, ?_, ?_⟩
      · rw [e]
        have hg := h.gaps
        have l1 := low_pos hw
        have l2 := low_pos f1
        have m1 := f2 1
        unfold gapsR at hg ⊢
        by_cases q : 0 < lowR (getR R o)
        · have q2 : 0 < lowR (addR (getR R o) n) := l2.2 (by rw [m1, l1.1 q]; rfl)
          rw [if_pos q] at hg
          rw [if_pos q2]
          omega
        · rw [if_neg q] at hg
          split <;> omega
      · rw [e]
        refine ⟨fun _ hnil => ?_, fun _ => by omega⟩
        have := f2 n
        rw [hnil] at this
        simp [memR] at this
        omega
    · have hb0 : isNew R o n = false := by simpa using hb
      rw [if_neg hb]
      have hsame : addR (getR R o) n = getR R o := addR_same (by
        unfold isNew at hb0
        simpa [ho] using hb0)
      exact ⟨hs, by have := h.le; omega, hoth, by rw [e, hsame]; exact h.gaps, by rw [e, hsame]; exact h.some_⟩
  · have hb : isNew R o n = false := by unfold isNew; simp [ho]
    rw [hb, addB_out ho]
    rw [if_neg (by simp)]
    exact ⟨h.sound.mono (by omega), by have := h.le; omega, h.others, h.gaps, h.some_⟩
theorem Told.one_ {R : Nat → List Rng} {o : Int} {k fr : Nat} (h : Told R o k fr) : ((orgs R).length = 1) ↔ 0 < fr := by
  have key : ∀ i : Nat, i < 9 → (0 < topR (R i) ↔ (0 < fr ∧ (i : Int) = o ∧ 1 ≤ o ∧ o ≤ 8) ∨ (i = 0 ∧ 0 < topR (R 0))) := by
    intro i hi
    by_cases h0 : i = 0
    · subst h0
      constructor
      · exact fun hx => .inr ⟨rfl, hx⟩
      · rintro (⟨_, h1, h2, _⟩ | ⟨_, hx⟩)
        · omega
        · exact hx
    · by_cases hio : (i : Int) = o
      · have e : getR R o = R i := by
          unfold getR
          rw [if_pos (by omega)]
          congr 1
          omega
        have hw := (h.sound i).1
        rw [top_pos hw (Nat.le_refl _)]
        have := h.some_
        rw [e] at this
        constructor
        · intro hx
          exact .inl ⟨this.2 (by intro hn; rw [hn] at hx; simp at hx), hio, by omega, by omega⟩
        · rintro (⟨hx, _⟩ | ⟨hx, _⟩)
          · exact List.length_pos_iff.2 (this.1 hx)
          · exact absurd hx h0
      · rw [h.others i hi hio]
        constructor
        · intro hx; simp [topR] at hx
        · rintro (⟨_, hx, _⟩ | ⟨hx, _⟩)
          · exact absurd hx hio
          · exact absurd hx h0
  by_cases hf : 0 < fr ∧ 1 ≤ o ∧ o ≤ 8
  · have e : orgs R = [o.toNat] := by
      unfold orgs orgsTo
      have hc : ((List.range 9).filter fun i => decide (1 ≤ i) && decide (0 < topR (R i))) = (List.range 9).filter fun i => decide (i = o.toNat) := by
        refine List.filter_congr fun i hi => ?_
        simp at hi
        have := key i hi
        by_cases h0 : i = o.toNat
        · have hx : 0 < topR (R i) := this.2 (.inl ⟨hf.1, by omega, hf.2⟩)
          simp [h0] at hx ⊢
          omega
        · by_cases h1 : 1 ≤ i
          · have hx : ¬ 0 < topR (R i) := fun hx => by
              rcases this.1 hx with ⟨_, h2, _⟩ | ⟨h2, _⟩ <;> omega
            simp [h0] at hx ⊢
            omega
          · simp [h0, h1]
      rw [hc]
      rcases (by omega : o.toNat = 1 ∨ o.toNat = 2 ∨ o.toNat = 3 ∨ o.toNat = 4 ∨ o.toNat = 5 ∨ o.toNat = 6 ∨ o.toNat = 7 ∨ o.toNat = 8) with e | e | e | e | e | e | e | e <;> rw [e] <;> rfl
    rw [e]
    simp [hf.1]
  · have hfr : fr = 0 := by
      rcases Nat.eq_zero_or_pos fr with h1 | h1
      · exact h1
      · exfalso
        have := h.some_.1 h1
        unfold getR at this
        rw [if_neg (fun ho => hf ⟨h1, ho⟩)] at this
        exact this rfl
    have e : orgs R = [] := by
      unfold orgs orgsTo
      rw [List.filter_eq_nil_iff]
      intro i hi
      simp at hi
      have := key i hi
      simp
      intro h1
      rcases Nat.eq_zero_or_pos (topR (R i)) with h2 | h2
      · exact h2
      · rcases this.1 h2 with ⟨h3, _⟩ | ⟨h3, _⟩ <;> omega
    rw [e, hfr]
    simp
theorem getR_copy (R : Nat → List Rng) {l : Nat} (hs : Sound R l) (x : Int) : getR (copyTo R (orgs R)) x = getR R x := by
  unfold getR
  split
  · unfold copyTo
    split
    · rfl
    · rename_i h hn
      unfold orgs orgsTo at hn
      simp at hn
      have := hn (by omega) (by omega)
      have hp := top_pos (hs x.toNat).1 (Nat.le_refl _)
      rcases List.eq_nil_or_concat (R x.toNat) with e | ⟨L, a, e⟩
      · exact e.symm
      · have h1 := hp.2 (by rw [e]; simp)
        omega
  · rfl
theorem copy_new {R RC : Nat → List Rng} (hg : ∀ y, getR RC y = getR R y) (xo : Int) (xn : Nat) : isNew RC xo xn = isNew R xo xn := by unfold isNew; rw [hg]
theorem copy_same {R RC : Nat → List Rng} (hg : ∀ y, getR RC y = getR R y) (xo : Int) {xn : Nat} (o : Int) (hw : WF 1 (getR R xo)) (hn : xn < M64) :
    decide (getR (addB RC xo xn) o = getR R o) = (!isNew R xo xn || !decide (xo = o)) := by
  rw [getR_add, hg, hg]
  by_cases h : o = xo ∧ (1 ≤ xo ∧ xo ≤ 8)
  · rw [if_pos h]
    obtain ⟨rfl, h1⟩ := h
    by_cases hb : isNew R o xn = true
    · have hb' := hb
      unfold isNew at hb'
      simp only [Bool.and_eq_true, decide_eq_true_eq, Bool.not_eq_true'] at hb'
      have hm := (addR_facts hw hn).2.1 xn
      have : addR (getR R o) xn ≠ getR R o := fun e => by
        rw [e, hb'.2.2] at hm
        simp at hm
        omega
      rw [hb]
      simp [this]
    · have hb0 : isNew R o xn = false := by simpa using hb
      rw [hb0, addR_same (by unfold isNew at hb0; simpa [h1] using hb0)]
      simp
  · rw [if_neg h]
    by_cases hx : xo = o
    · have hb : isNew R xo xn = false := by
        unfold isNew
        rw [decide_eq_false (fun h1 => h ⟨hx.symm, h1⟩)]
        rfl
      rw [hb]
      simp
    · simp [hx]
theorem six (q : Bool) (xn : Nat) (xo o : Int) : (q = true) ∨ (q = false ∧ xn = 0) ∨ (q = false ∧ 0 < xn ∧ xo < 1) ∨ (q = false ∧ 0 < xn ∧ 1 ≤ xo ∧ 8 < xo) ∨ (q = false ∧ 0 < xn ∧ 1 ≤ xo ∧ xo ≤ 8 ∧ xo = o) ∨ (q = false ∧ 0 < xn ∧ 1 ≤ xo ∧ xo ≤ 8 ∧ xo ≠ o) := by
  cases q <;> simp <;> omega
end Go.Proofs.Ythgejgfdpmbpaaa
