/- Ranges of numbers that rise and do not touch: what they hold, and one number more. No program. -/
import Derived.Test.YthgejgfdpmbpaaaSpRow
set_option linter.unusedVariables false
set_option linter.unusedSimpArgs false
namespace Go.Proofs.Ythgejgfdpmbpaaa

def M64 : Nat := 18446744073709551616
/-- Ranges from a on that rise and do not touch. -/
def WF : Nat → List Rng → Prop
  | _, [] => True
  | a, r :: R => a ≤ r.1 ∧ r.1 ≤ r.2 ∧ r.2 < M64 ∧ WF (r.2 + 2) R
def memR (R : List Rng) (n : Nat) : Bool := R.any fun r => decide (r.1 ≤ n) && decide (n ≤ r.2)
def endR : Nat → List Rng → Nat
  | a, [] => a
  | _, r :: R => endR (r.2 + 2) R
def sizeR (R : List Rng) : Nat := (R.map fun r => r.2 + 1 - r.1).sum

theorem WF.mono : ∀ {R : List Rng} {a b : Nat}, WF a R → b ≤ a → WF b R
  | [], _, _, _, _ => trivial
  | r :: R, a, b, h, hb => ⟨Nat.le_trans hb h.1, h.2⟩
theorem WF.mem : ∀ {R : List Rng} {a : Nat}, WF a R → ∀ r ∈ R, a ≤ r.1 ∧ r.1 ≤ r.2 ∧ r.2 < M64
  | [], _, _, r, hr => by cases hr
  | x :: R, a, h, r, hr => by
    rcases List.mem_cons.1 hr with rfl | hr
    · exact ⟨h.1, h.2.1, h.2.2.1⟩
    · have := WF.mem h.2.2.2 r hr
      have h1 := h.1
      have h2 := h.2.1
      exact ⟨by omega, this.2⟩
theorem WF_append : ∀ {L T : List Rng} {a : Nat}, WF a (L ++ T) ↔ WF a L ∧ WF (endR a L) T
  | [], T, a => by simp [WF, endR]
  | r :: L, T, a => by
    have := WF_append (L := L) (T := T) (a := r.2 + 2)
    simp only [List.cons_append, WF, endR, this]
    constructor
    · rintro ⟨h1, h2, h3, h4, h5⟩; exact ⟨⟨h1, h2, h3, h4⟩, h5⟩
    · rintro ⟨⟨h1, h2, h3, h4⟩, h5⟩; exact ⟨h1, h2, h3, h4, h5⟩
theorem endR_append : ∀ {L : List Rng} {x : Rng} {a : Nat}, endR a (L ++ [x]) = x.2 + 2
  | [], x, a => rfl
  | r :: L, x, a => endR_append (L := L)
theorem memR_append (L T : List Rng) (n : Nat) : memR (L ++ T) n = (memR L n || memR T n) := by simp [memR]
theorem memR_cons (r : Rng) (T : List Rng) (n : Nat) : memR (r :: T) n = (decide (r.1 ≤ n) && decide (n ≤ r.2) || memR T n) := by simp [memR]
theorem memR_nil (n : Nat) : memR [] n = false := rfl
theorem sizeR_append (L T : List Rng) : sizeR (L ++ T) = sizeR L + sizeR T := by simp [sizeR]
theorem sizeR_cons (r : Rng) (T : List Rng) : sizeR (r :: T) = (r.2 + 1 - r.1) + sizeR T := by simp [sizeR]
theorem memR_low : ∀ {R : List Rng} {a n : Nat}, WF a R → n < a → memR R n = false
  | [], _, _, _, _ => rfl
  | r :: R, a, n, h, hn => by
    have h1 := h.1
    have h2 := h.2.1
    rw [memR_cons, memR_low h.2.2.2 (by omega)]
    simp; omega
/-- They are told by what they hold. -/
theorem WF.uniq : ∀ {R S : List Rng} {a b : Nat}, WF a R → WF b S → (∀ n, memR R n = memR S n) → R = S
  | [], [], _, _, _, _, _ => rfl
  | [], s :: S, _, _, _, h, e => by
    have := e s.1
    rw [memR_cons] at this
    have h2 := h.2.1
    simp [memR_nil, h2] at this
  | r :: R, [], _, _, h, _, e => by
    have := e r.1
    rw [memR_cons] at this
    have h2 := h.2.1
    simp [memR_nil, h2] at this
  | r :: R, s :: S, a, b, h, k, e => by
    obtain ⟨h1, h2, h3, h4⟩ := h
    obtain ⟨k1, k2, k3, k4⟩ := k
    have key : ∀ n, (decide (r.1 ≤ n) && decide (n ≤ r.2) || memR R n) = (decide (s.1 ≤ n) && decide (n ≤ s.2) || memR S n) := fun n => by
      have := e n
      rwa [memR_cons, memR_cons] at this
    have e1 : r.1 = s.1 := by
      rcases Nat.lt_trichotomy r.1 s.1 with hlt | heq | hgt
      · have := key r.1
        rw [memR_low (n := r.1) k4 (by omega)] at this
        have hd : decide (s.1 ≤ r.1) = false := by simp; omega
        simp [h2, hd] at this
      · exact heq
      · have := key s.1
        rw [memR_low (n := s.1) h4 (by omega)] at this
        have hd : decide (r.1 ≤ s.1) = false := by simp; omega
        simp [k2, hd] at this
    have e2 : r.2 = s.2 := by
      rcases Nat.lt_trichotomy r.2 s.2 with hlt | heq | hgt
      · have := key (r.2 + 1)
        rw [memR_low (n := r.2 + 1) h4 (by omega)] at this
        have hd : decide (r.2 + 1 ≤ r.2) = false := by simp
        have hd2 : decide (s.1 ≤ r.2 + 1) = true := by simp; omega
        have hd3 : decide (r.2 + 1 ≤ s.2) = true := by simp; omega
        rw [hd, hd2, hd3] at this
        simp at this
      · exact heq
      · have := key (s.2 + 1)
        rw [memR_low (n := s.2 + 1) k4 (by omega)] at this
        have hd : decide (s.2 + 1 ≤ s.2) = false := by simp
        have hd2 : decide (r.1 ≤ s.2 + 1) = true := by simp; omega
        have hd3 : decide (s.2 + 1 ≤ r.2) = true := by simp; omega
        rw [hd, hd2, hd3] at this
        simp at this
    have er : r = s := Prod.ext e1 e2
    subst er
    congr 1
    refine WF.uniq h4 k4 fun n => ?_
    by_cases hn : n < r.2 + 2
    · rw [memR_low h4 hn, memR_low k4 hn]
    · have := key n
      have hd : decide (n ≤ r.2) = false := by simp; omega
      simpa [hd] using this
theorem sizeR_len : ∀ {R : List Rng} {a : Nat}, WF a R → R.length ≤ sizeR R
  | [], _, _ => Nat.zero_le _
  | r :: R, a, h => by
    have := sizeR_len h.2.2.2
    have h2 := h.2.1
    rw [sizeR_cons, List.length_cons]
    omega

/-! ### One number more -/
def jL (L : List Rng) (n : Nat) : Bool := match L.getLast? with
  | some a => a.2 + 1 == n
  | none => false
def liL (L : List Rng) (n : Nat) : List Rng := if jL L n then L.dropLast else L
def loL (L : List Rng) (n : Nat) : Nat := match L.getLast? with
  | some a => if a.2 + 1 == n then a.1 else n
  | none => n
def jR (T : List Rng) (n : Nat) : Bool := match T with
  | t :: _ => t.1 == n + 1
  | [] => false
def tR (T : List Rng) (n : Nat) : List Rng := if jR T n then T.tail else T
def hiR (T : List Rng) (n : Nat) : Nat := match T with
  | t :: _ => if t.1 == n + 1 then t.2 else n
  | [] => n
def kR (T : List Rng) (n : Nat) : Nat := if jR T n then 1 else 0
def layR (L T : List Rng) (n : Nat) : List Rng := liL L n ++ (loL L n, hiR T n) :: tR T n

theorem layL_facts {L : List Rng} {a n : Nat} (h : WF a L) (hL : ∀ r ∈ L, r.2 < n) (ha : a ≤ n) :
    WF a (liL L n) ∧ endR a (liL L n) ≤ loL L n ∧ loL L n ≤ n ∧ (∀ m, (memR L m || decide (m = n)) = (memR (liL L n) m || (decide (loL L n ≤ m) && decide (m ≤ n)))) ∧
      sizeR L + 1 = sizeR (liL L n) + (n + 1 - loL L n) ∧ (liL L n).length ≤ L.length := by
  rcases List.eq_nil_or_concat L with rfl | ⟨L', x, rfl⟩
  · refine ⟨trivial, ha, Nat.le_refl _, fun m => ?_, by simp [liL, loL, jL, sizeR], Nat.le_refl _⟩
    show (false || decide (m = n)) = (false || (decide (n ≤ m) && decide (m ≤ n)))
    rw [Bool.false_or, Bool.false_or, ← Bool.decide_and]
    exact decide_eq_decide.2 ⟨fun h => by omega, fun h => by omega⟩
  · rw [List.concat_eq_append] at *
    obtain ⟨h1, h2⟩ := WF_append.1 h
    have hx := hL x (by simp)
    obtain ⟨h3, h4, h5, _⟩ := h2
    by_cases hj : x.2 + 1 = n
    · have ej : jL (L' ++ [x]) n = true := by simp [jL, hj]
      have e1 : liL (L' ++ [x]) n = L' := by unfold liL; rw [ej]; simp
      have e2 : loL (L' ++ [x]) n = x.1 := by simp [loL, hj]
      rw [e1, e2]
      refine ⟨h1, h3, by omega, fun m => ?_, by rw [sizeR_append, sizeR_cons]; simp [sizeR]; omega, by simp⟩
      rw [memR_append, memR_cons, memR_nil]
      cases memR L' m
      · rw [Bool.eq_iff_iff]; simp; omega
      · simp
    · have ej : jL (L' ++ [x]) n = false := by simp [jL, hj]
      have e1 : liL (L' ++ [x]) n = L' ++ [x] := by unfold liL; rw [ej]; simp
      have e2 : loL (L' ++ [x]) n = n := by simp [loL, hj]
      rw [e1, e2]
      refine ⟨h, by rw [endR_append]; omega, Nat.le_refl _, fun m => ?_, by omega, Nat.le_refl _⟩
      cases memR (L' ++ [x]) m
      · rw [Bool.eq_iff_iff]; simp; omega
      · simp
theorem layT_facts {T : List Rng} {b n : Nat} (h : WF b T) (hT : ∀ r ∈ T, n < r.1) (hn : n < M64) :
    WF (hiR T n + 2) (tR T n) ∧ n ≤ hiR T n ∧ hiR T n < M64 ∧ (∀ m, (memR T m || decide (m = n)) = (memR (tR T n) m || (decide (n ≤ m) && decide (m ≤ hiR T n)))) ∧
      sizeR T + 1 = sizeR (tR T n) + (hiR T n + 1 - n) ∧ (tR T n).length ≤ T.length := by
  cases T with
  | nil =>
    refine ⟨trivial, Nat.le_refl _, hn, fun m => ?_, by simp [tR, hiR, jR, sizeR], Nat.le_refl _⟩
    show (false || decide (m = n)) = (false || (decide (n ≤ m) && decide (m ≤ n)))
    rw [Bool.false_or, Bool.false_or, ← Bool.decide_and]
    exact decide_eq_decide.2 ⟨fun h => by omega, fun h => by omega⟩
  | cons x T =>
    obtain ⟨h3, h4, h5, h6⟩ := h
    have hx := hT x (by simp)
    by_cases hj : x.1 = n + 1
    · have ej : jR (x :: T) n = true := by simp [jR, hj]
      have e1 : tR (x :: T) n = T := by unfold tR; rw [ej]; simp
      have e2 : hiR (x :: T) n = x.2 := by simp [hiR, hj]
      rw [e1, e2]
      refine ⟨h6, by omega, h5, fun m => ?_, by rw [sizeR_cons]; omega, by simp⟩
      rw [memR_cons]
      cases memR T m
      · rw [Bool.eq_iff_iff]; simp; omega
      · simp
    · have ej : jR (x :: T) n = false := by simp [jR, hj]
      have e1 : tR (x :: T) n = x :: T := by unfold tR; rw [ej]; simp
      have e2 : hiR (x :: T) n = n := by simp [hiR, hj]
      rw [e1, e2]
      refine ⟨⟨by omega, h4, h5, h6⟩, Nat.le_refl _, hn, fun m => ?_, by omega, Nat.le_refl _⟩
      cases memR (x :: T) m
      · rw [Bool.eq_iff_iff]; simp; omega
      · simp
theorem lay_facts {L T : List Rng} {n : Nat} (h : WF 1 (L ++ T)) (hL : ∀ r ∈ L, r.2 < n) (hT : ∀ r ∈ T, n < r.1) (hn : n < M64) (hn1 : 1 ≤ n) :
    WF 1 (layR L T n) ∧ (∀ m, memR (layR L T n) m = (memR (L ++ T) m || decide (m = n))) ∧ sizeR (layR L T n) = sizeR (L ++ T) + 1 ∧ (layR L T n).length ≤ (L ++ T).length + 1 := by
  obtain ⟨h1, h2⟩ := WF_append.1 h
  obtain ⟨a1, a2, a3, a4, a5, a6⟩ := layL_facts h1 hL hn1
  obtain ⟨b1, b2, b3, b4, b5, b6⟩ := layT_facts h2 hT hn
  unfold layR
  refine ⟨WF_append.2 ⟨a1, a2, by simp only; omega, b3, b1⟩, fun m => ?_, ?_, ?_⟩
  · rw [memR_append, memR_cons, memR_append]
    have x := a4 m
    have y := b4 m
    simp only at x y ⊢
    by_cases hm : m = n
    · subst hm
      have d1 : decide (loL L m ≤ m) = true := by simpa using a3
      have d2 : decide (m ≤ hiR T m) = true := by simpa using b2
      rw [d1, d2]; simp
    · have d0 : decide (m = n) = false := by simpa using hm
      rw [d0, Bool.or_false] at x y ⊢
      rw [x, y]
      cases memR (liL L n) m
      · cases memR (tR T n) m
        · rw [Bool.eq_iff_iff]; simp; omega
        · simp
      · simp
  · rw [sizeR_append, sizeR_cons, sizeR_append]
    simp only
    omega
  · simp only [List.length_append, List.length_cons]
    omega

/-! ### Where a number would lie -/
def splitL (R : List Rng) (n : Nat) : List Rng := R.takeWhile fun r => decide (r.2 < n)
def splitT (R : List Rng) (n : Nat) : List Rng := R.dropWhile fun r => decide (r.2 < n)
theorem split_eq (R : List Rng) (n : Nat) : splitL R n ++ splitT R n = R := List.takeWhile_append_dropWhile
theorem splitL_lt (R : List Rng) (n : Nat) : ∀ r ∈ splitL R n, r.2 < n := fun r hr => by
  have := List.all_takeWhile (p := fun r : Rng => decide (r.2 < n)) (l := R)
  simpa using List.all_eq_true.1 this r hr
theorem splitT_ge : ∀ {R : List Rng} {a : Nat} (n : Nat), WF a R → ∀ r ∈ splitT R n, n ≤ r.2
  | [], _, n, _, r, hr => by simp [splitT] at hr
  | x :: R, a, n, h, r, hr => by
    unfold splitT at hr
    rw [List.dropWhile_cons] at hr
    by_cases hx : x.2 < n
    · rw [if_pos (by simpa using hx)] at hr
      exact splitT_ge n h.2.2.2 r hr
    · rw [if_neg (by simpa using hx)] at hr
      rcases List.mem_cons.1 hr with rfl | hr
      · omega
      · have := (WF.mem h.2.2.2 r hr)
        omega
theorem memL_no {L : List Rng} {n : Nat} (hL : ∀ r ∈ L, r.2 < n) : memR L n = false := by
  simp only [memR, List.any_eq_false]
  intro r hr
  have := hL r hr
  simp; omega
theorem memR_split {L T : List Rng} {n : Nat} (hL : ∀ r ∈ L, r.2 < n) (h : WF 1 (L ++ T)) (hT : ∀ r ∈ T, n ≤ r.2) : memR (L ++ T) n = (match T with | [] => false | t :: _ => decide (0 < n) && decide (t.1 ≤ n)) := by
  rw [memR_append, memL_no hL, Bool.false_or]
  obtain ⟨_, h2⟩ := WF_append.1 h
  cases T with
  | nil => rfl
  | cons t T =>
    have h0 := WF.mem h t (by simp)
    have h1 := hT t (by simp)
    rw [memR_cons]
    simp only
    have d : decide (n ≤ t.2) = true := by simpa using h1
    rw [d, Bool.and_true]
    by_cases hle : t.1 ≤ n
    · have : 0 < n := by omega
      simp [hle, this]
    · rw [memR_low h2.2.2.2 (by have := h2.2.1; omega)]
      simp [hle]
theorem not_mem_T {L T : List Rng} {n : Nat} (h : WF 1 (L ++ T)) (hT : ∀ r ∈ T, n ≤ r.2) (hm : memR (L ++ T) n = false) : ∀ r ∈ T, n < r.1 := fun r hr => by
  have h1 := hT r hr
  simp only [memR, List.any_eq_false] at hm
  have := hm r (List.mem_append_right _ hr)
  simp at this
  omega
end Go.Proofs.Ythgejgfdpmbpaaa
