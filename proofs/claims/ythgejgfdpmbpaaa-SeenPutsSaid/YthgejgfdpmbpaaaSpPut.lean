/- The document's answer (package staithref04): Put, Add. -/
import Derived.Test.YthgejgfdpmbpaaaSpRef
set_option linter.unusedVariables false
set_option linter.unusedSimpArgs false
namespace Go.Proofs.Ythgejgfdpmbpaaa
open Go.RowKit Go.Shelf Go.Proofs.YthgejgfdpmbpaaaW.PrintWords

/-! ### What Put reckons -/
def stepP (s : List Rng × Bool × Rng) (r : Rng) : List Rng × Bool × Rng :=
  if r.2 + 1 < s.2.2.1 then (s.1 ++ [r], s.2.1, s.2.2)
  else if s.2.2.2 + 1 < r.1 then (if s.2.1 then (s.1 ++ [r], true, s.2.2) else (s.1 ++ [s.2.2] ++ [r], true, s.2.2))
  else (s.1, s.2.1, (if r.1 < s.2.2.1 then r.1 else s.2.2.1, if s.2.2.2 < r.2 then r.2 else s.2.2.2))
def putFin (s : List Rng × Bool × Rng) : List Rng := if s.2.1 then s.1 else s.1 ++ [s.2.2]
def putR (R : List Rng) (x : Rng) : List Rng := putFin (R.foldl stepP ([], false, x))
theorem fold_lo : ∀ (S : List Rng) (o : List Rng) (d : Bool) (x : Rng), (∀ r ∈ S, r.2 + 1 < x.1) → S.foldl stepP (o, d, x) = (o ++ S, d, x)
  | [], o, d, x, _ => by simp
  | r :: S, o, d, x, h => by
    rw [List.foldl_cons, show stepP (o, d, x) r = (o ++ [r], d, x) by simp [stepP, h r (by simp)], fold_lo S _ d x fun r hr => h r (List.mem_cons_of_mem _ hr)]
    simp
theorem fold_hi : ∀ (S : List Rng) (o : List Rng) (x : Rng), (∀ r ∈ S, x.2 + 1 < r.1) → (∀ r ∈ S, r.1 ≤ r.2) → x.1 ≤ x.2 → S.foldl stepP (o, true, x) = (o ++ S, true, x)
  | [], o, x, _, _, _ => by simp
  | r :: S, o, x, h, h2, h3 => by
    have a := h r (by simp)
    have b := h2 r (by simp)
    rw [List.foldl_cons, show stepP (o, true, x) r = (o ++ [r], true, x) by simp [stepP, a, show ¬ r.2 + 1 < x.1 by omega], fold_hi S _ x (fun r hr => h r (List.mem_cons_of_mem _ hr)) (fun r hr => h2 r (List.mem_cons_of_mem _ hr)) h3]
    simp
theorem fold_hi0 (S : List Rng) (o : List Rng) (x : Rng) (h : ∀ r ∈ S, x.2 + 1 < r.1) (h2 : ∀ r ∈ S, r.1 ≤ r.2) (h3 : x.1 ≤ x.2) : putFin (S.foldl stepP (o, false, x)) = o ++ x :: S := by
  cases S with
  | nil => simp [putFin]
  | cons r S =>
    have a := h r (by simp)
    have b := h2 r (by simp)
    rw [List.foldl_cons, show stepP (o, false, x) r = (o ++ [x] ++ [r], true, x) by simp [stepP, a, show ¬ r.2 + 1 < x.1 by omega], fold_hi S _ x (fun r hr => h r (List.mem_cons_of_mem _ hr)) (fun r hr => h2 r (List.mem_cons_of_mem _ hr)) h3]
    simp [putFin]
theorem WF.all_ge : ∀ {R : List Rng} {a : Nat}, WF a R → ∀ r ∈ R, a ≤ r.1 ∧ r.1 ≤ r.2 := fun h r hr => ⟨(h.mem r hr).1, (h.mem r hr).2.1⟩
theorem WF.all_lt : ∀ {L : List Rng} {a : Nat}, WF a L → ∀ r ∈ L, r.2 + 2 ≤ endR a L
  | [], _, _, r, hr => by cases hr
  | x :: L, a, h, r, hr => by
    have hm : ∀ {L : List Rng} {a : Nat}, WF a L → a ≤ endR a L := by
      intro L
      induction L with
      | nil => intro a _; exact Nat.le_refl _
      | cons y L ih => intro a h; have := ih h.2.2.2; have h1 := h.1; have h2 := h.2.1; show a ≤ endR (y.2 + 2) L; omega
    rcases List.mem_cons.1 hr with rfl | hr
    · exact hm h.2.2.2
    · exact WF.all_lt h.2.2.2 r hr
/-- Of a number that is not there: what Put says is what lay lays. -/
theorem putR_lay {L T : List Rng} {n : Nat} (h : WF 1 (L ++ T)) (hL : ∀ r ∈ L, r.2 < n) (hT : ∀ r ∈ T, n < r.1) (hn : n < M64) (hn1 : 1 ≤ n) : putR (L ++ T) (n, n) = layR L T n := by
  obtain ⟨h1, h2⟩ := WF_append.1 h
  obtain ⟨a1, a2, a3, _⟩ := layL_facts h1 hL hn1
  obtain ⟨b1, b2, b3, _⟩ := layT_facts h2 hT hn
  have eL : L.foldl stepP ([], false, (n, n)) = (liL L n, false, (loL L n, n)) := by
    rcases List.eq_nil_or_concat L with rfl | ⟨L', x, rfl⟩
    · simp [liL, loL, jL]
    · rw [List.concat_eq_append] at *
      obtain ⟨c1, c2⟩ := WF_append.1 h1
      have hx := hL x (by simp)
      obtain ⟨c3, c4, c5, _⟩ := c2
      have hlt := WF.all_lt c1
      have e0 : L'.foldl stepP ([], false, (n, n)) = (L', false, (n, n)) := by
        rw [fold_lo L' [] false (n, n) fun r hr => by have := hlt r hr; simp only; omega]; simp
      rw [List.foldl_append, e0, List.foldl_cons, List.foldl_nil]
      by_cases hj : x.2 + 1 = n
      · have ej : jL (L' ++ [x]) n = true := by simp [jL, hj]
        have e1 : liL (L' ++ [x]) n = L' := by unfold liL; rw [ej]; simp
        have e2 : loL (L' ++ [x]) n = x.1 := by simp [loL, hj]
        rw [e1, e2]
        unfold stepP
        simp only
        rw [if_neg (by omega), if_neg (by omega), if_pos (by omega), if_neg (by omega)]
      · have ej : jL (L' ++ [x]) n = false := by simp [jL, hj]
        have e1 : liL (L' ++ [x]) n = L' ++ [x] := by unfold liL; rw [ej]; simp
        have e2 : loL (L' ++ [x]) n = n := by simp [loL, hj]
        rw [e1, e2]
        unfold stepP
        simp only
        rw [if_pos (by omega)]
  unfold putR layR
  rw [List.foldl_append, eL]
  cases T with
  | nil => simp [putFin, tR, jR, hiR]
  | cons t T =>
    have ht := hT t (by simp)
    obtain ⟨d1, d2, d3, d4⟩ := h2
    by_cases hj : t.1 = n + 1
    · have ej : jR (t :: T) n = true := by simp [jR, hj]
      have e1 : tR (t :: T) n = T := by unfold tR; rw [ej]; simp
      have e2 : hiR (t :: T) n = t.2 := by simp [hiR, hj]
      rw [e1, e2, List.foldl_cons]
      have es : stepP (liL L n, false, (loL L n, n)) t = (liL L n, false, (loL L n, t.2)) := by
        unfold stepP
        simp only
        rw [if_neg (by omega), if_neg (by omega), if_neg (by omega), if_pos (by omega)]
      rw [es]
      exact fold_hi0 T _ _ (fun r hr => by have := (WF.all_ge d4 r hr).1; simp only; omega) (fun r hr => (WF.all_ge d4 r hr).2) (by simp only; omega)
    · have ej : jR (t :: T) n = false := by simp [jR, hj]
      have e1 : tR (t :: T) n = t :: T := by unfold tR; rw [ej]; simp
      have e2 : hiR (t :: T) n = n := by simp [hiR, hj]
      rw [e1, e2]
      refine fold_hi0 (t :: T) _ _ (fun r hr => ?_) (fun r hr => ?_) a3
      · simp only
        rcases List.mem_cons.1 hr with rfl | hr
        · omega
        · have := (WF.all_ge d4 r hr).1; omega
      · rcases List.mem_cons.1 hr with rfl | hr
        · exact d2
        · exact (WF.all_ge d4 r hr).2
theorem putR_add {R : List Rng} {n : Nat} (h : WF 1 R) (hn : n < M64) (hn1 : 0 < n) (hm : memR R n = false) : putR R (n, n) = addR R n := by
  have es := split_eq R n
  have hw2 : WF 1 (splitL R n ++ splitT R n) := by rw [es]; exact h
  have := putR_lay hw2 (splitL_lt R n) (not_mem_T hw2 (splitT_ge n h) (by rw [es]; exact hm)) hn hn1
  rw [es] at this
  rw [this]
  unfold addR
  rw [if_pos (by simp [hm]; omega)]
end Go.Proofs.Ythgejgfdpmbpaaa
