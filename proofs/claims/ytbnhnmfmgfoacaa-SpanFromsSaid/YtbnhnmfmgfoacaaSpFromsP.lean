/- Package span: the document's Good and Join; what Put holds. -/
import Derived.Test.YtbnhnmfmgfoacaaSpGenRef
import Derived.Deep.QuietTactic
import Derived.BigQuiet
set_option linter.unusedVariables false
set_option linter.unusedSimpArgs false
namespace Go.Proofs.Ytbnhnmfmgfoacaa
open Go.RowKit Go.Shelf Go.Proofs.YtbnhnmfmgfoacaaW.PrintWords

/-- One range more, by recursion. -/
def mergeR : List Rng → Rng → List Rng
  | [], x => [x]
  | r :: R, x => if r.2 + 1 < x.1 then r :: mergeR R x else if x.2 + 1 < r.1 then x :: r :: R else mergeR R (if r.1 < x.1 then r.1 else x.1, if x.2 < r.2 then r.2 else x.2)
theorem put_merge : ∀ (R : List Rng) (a : Nat) (o : List Rng) (x : Rng), WF a R → x.1 ≤ x.2 → putFin (R.foldl stepP (o, false, x)) = o ++ mergeR R x
  | [], a, o, x, _, _ => by simp [putFin, mergeR]
  | r :: R, a, o, x, h, hx => by
    by_cases h1 : r.2 + 1 < x.1
    · rw [List.foldl_cons, show stepP (o, false, x) r = (o ++ [r], false, x) by simp [stepP, h1], put_merge R _ _ x h.2.2.2 hx, mergeR, if_pos h1]
      simp
    · by_cases h2 : x.2 + 1 < r.1
      · rw [mergeR, if_neg h1, if_pos h2]
        exact fold_hi0 (r :: R) o x (fun y hy => by
          rcases List.mem_cons.1 hy with rfl | hy
          · exact h2
          · have := (h.2.2.2.mem y hy).1; have := h.2.1; omega) (fun y hy => (h.mem y hy).2.1) hx
      · rw [List.foldl_cons, show stepP (o, false, x) r = (o, false, (if r.1 < x.1 then r.1 else x.1, if x.2 < r.2 then r.2 else x.2)) by simp [stepP, h1, h2], put_merge R _ _ _ h.2.2.2 (by have := h.2.1; simp only; split <;> split <;> omega), mergeR, if_neg h1, if_neg h2]
theorem merge_facts : ∀ (R : List Rng) (a : Nat) (x : Rng), WF a R → a ≤ x.1 → x.1 ≤ x.2 → x.2 < M64 → WF a (mergeR R x) ∧ ∀ n, memR (mergeR R x) n = (memR R n || (decide (x.1 ≤ n) && decide (n ≤ x.2)))
  | [], a, x, _, h1, h2, h3 => ⟨⟨h1, h2, h3, trivial⟩, fun n => by simp [mergeR, memR]⟩
  | r :: R, a, x, h, h1, h2, h3 => by
    obtain ⟨r1, r2, r3, r4⟩ := h
    by_cases c1 : r.2 + 1 < x.1
    · obtain ⟨f1, f2⟩ := merge_facts R (r.2 + 2) x r4 (by omega) h2 h3
      rw [mergeR, if_pos c1]
      exact ⟨⟨r1, r2, r3, f1⟩, fun n => by rw [memR_cons, f2, memR_cons, Bool.or_assoc]⟩
    · by_cases c2 : x.2 + 1 < r.1
      · rw [mergeR, if_neg c1, if_pos c2]
        exact ⟨⟨h1, h2, h3, by omega, r2, r3, r4⟩, fun n => by rw [memR_cons, Bool.or_comm]⟩
      · have key : ∀ lo hi : Nat, lo = (if r.1 < x.1 then r.1 else x.1) → hi = (if x.2 < r.2 then r.2 else x.2) → a ≤ lo ∧ lo ≤ hi ∧ hi < M64 ∧ ∀ n, (decide (lo ≤ n) && decide (n ≤ hi)) = ((decide (r.1 ≤ n) && decide (n ≤ r.2)) || (decide (x.1 ≤ n) && decide (n ≤ x.2))) := by
          intro lo hi hlo hhi
          refine ⟨by rw [hlo]; split <;> omega, by rw [hlo, hhi]; split <;> split <;> omega, by rw [hhi]; split <;> omega, fun n => ?_⟩
          rw [Bool.eq_iff_iff]
          simp only [Bool.or_eq_true, Bool.and_eq_true, decide_eq_true_eq]
          rw [hlo, hhi]
          split <;> split <;> omega
        obtain ⟨k1, k2, k3, k4⟩ := key _ _ rfl rfl
        obtain ⟨f1, f2⟩ := merge_facts R a (if r.1 < x.1 then r.1 else x.1, if x.2 < r.2 then r.2 else x.2) (r4.mono (by omega)) k1 k2 k3
        rw [mergeR, if_neg c1, if_neg c2]
        refine ⟨f1, fun n => ?_⟩
        rw [f2, memR_cons]
        simp only
        rw [k4 n]
        cases memR R n <;> cases (decide (r.1 ≤ n) && decide (n ≤ r.2)) <;> cases (decide (x.1 ≤ n) && decide (n ≤ x.2)) <;> rfl
theorem putR_facts {R : List Rng} {x : Rng} (h : WF 1 R) (h1 : 1 ≤ x.1) (h2 : x.1 ≤ x.2) (h3 : x.2 < M64) : WF 1 (putR R x) ∧ ∀ n, memR (putR R x) n = (memR R n || (decide (x.1 ≤ n) && decide (n ≤ x.2))) := by
  have e : putR R x = mergeR R x := by
    have := put_merge R 1 [] x h h2
    simpa [putR] using this
  rw [e]
  exact merge_facts R 1 x h h1 h2 h3
theorem putR_len (R : List Rng) (x : Rng) : (putR R x).length ≤ R.length + 1 := by
  have key : ∀ (R : List Rng) (s : List Rng × Bool × Rng), (putFin (R.foldl stepP s)).length ≤ s.1.length + R.length + (if s.2.1 then 0 else 1) := by
    intro R
    induction R with
    | nil => intro s; obtain ⟨o, d, x⟩ := s; cases d <;> simp [putFin]
    | cons r R ih =>
      intro s
      rw [List.foldl_cons]
      have h := ih (stepP s r)
      obtain ⟨o, d, x⟩ := s
      revert h
      unfold stepP
      simp only
      split
      · simp; omega
      · split
        · split
          · rename_i hd; simp only [hd]; simp; omega
          · rename_i hd; simp; omega
        · simp; omega
  have := key R ([], false, x)
  simpa [putR] using this
/-- All numbers of two: the document's way. -/
def joinP (Ra Rb : List Rng) : List Rng := Rb.foldl putR Ra
theorem joinP_facts : ∀ (Rb Ra : List Rng), WF 1 Ra → (∀ r ∈ Rb, 1 ≤ r.1 ∧ r.1 ≤ r.2 ∧ r.2 < M64) → WF 1 (joinP Ra Rb) ∧ ∀ n, memR (joinP Ra Rb) n = (memR Ra n || memR Rb n)
  | [], Ra, h, _ => ⟨h, fun n => by simp [joinP, memR_nil]⟩
  | r :: Rb, Ra, h, hv => by
    obtain ⟨v1, v2, v3⟩ := hv r (by simp)
    obtain ⟨f1, f2⟩ := putR_facts h v1 v2 v3
    obtain ⟨g1, g2⟩ := joinP_facts Rb (putR Ra r) f1 (fun x hx => hv x (by simp [hx]))
    refine ⟨g1, fun n => ?_⟩
    have := g2 n
    rw [show joinP Ra (r :: Rb) = joinP (putR Ra r) Rb from rfl, this, f2, memR_cons, Bool.or_assoc]
theorem joinP_len : ∀ (Rb Ra : List Rng), (joinP Ra Rb).length ≤ Ra.length + Rb.length
  | [], Ra => Nat.le_refl _
  | r :: Rb, Ra => by
    have := joinP_len Rb (putR Ra r)
    have := putR_len Ra r
    show (joinP (putR Ra r) Rb).length ≤ _
    simp only [List.length_cons]
    omega
end Go.Proofs.Ytbnhnmfmgfoacaa
