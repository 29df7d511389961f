/- Package topic: the plain laws. No program in sight. -/
import Derived.Test.YtjpaaadcnlfjhaaDoorTpPlain
set_option linter.unusedVariables false
set_option linter.unusedSimpArgs false
namespace Go.Proofs.YtjpaaadcnlfjhaaDoor.Tp
open Go

theorem splitL_dot (a b : Bs) : splitL (a ++ 46 :: b) = splitL a ++ splitL b := by
  induction a with
  | nil => simp [splitL]
  | cons c a ih =>
    by_cases hc : c = 46
    · rw [List.cons_append, splitL, if_pos hc, ih, splitL, if_pos hc]; rfl
    · obtain ⟨x, xs, h1, h2⟩ := splitL_cons c a hc
      obtain ⟨y, ys, h3, h4⟩ := splitL_cons c (a ++ 46 :: b) hc
      rw [List.cons_append, h4, h2]
      rw [ih, h1] at h3
      simp at h3
      rw [← h3.1, ← h3.2]; rfl
theorem splitL_inj : ∀ (a b : Bs), splitL a = splitL b → a = b
  | [], b, h => by
    cases b with
    | nil => rfl
    | cons c b =>
      by_cases hc : c = 46
      · rw [splitL, splitL, if_pos hc] at h
        simp at h
        exact absurd h (splitL_ne b)
      · obtain ⟨x, xs, h1, h2⟩ := splitL_cons c b hc
        rw [h2, splitL] at h
        simp at h
  | d :: a, [], h => by
    by_cases hc : d = 46
    · rw [splitL, splitL, if_pos hc] at h
      simp at h
      exact absurd h (splitL_ne a)
    · obtain ⟨x, xs, h1, h2⟩ := splitL_cons d a hc
      rw [h2, splitL] at h
      simp at h
  | d :: a, c :: b, h => by
    by_cases hd : d = 46
    · by_cases hc : c = 46
      · rw [splitL, if_pos hd, splitL, if_pos hc] at h
        simp at h
        rw [hd, hc, splitL_inj a b h]
      · obtain ⟨x, xs, h1, h2⟩ := splitL_cons c b hc
        rw [h2, splitL, if_pos hd] at h
        simp at h
    · by_cases hc : c = 46
      · obtain ⟨x, xs, h1, h2⟩ := splitL_cons d a hd
        rw [h2, splitL, if_pos hc] at h
        simp at h
      · obtain ⟨x, xs, h1, h2⟩ := splitL_cons d a hd
        obtain ⟨y, ys, h3, h4⟩ := splitL_cons c b hc
        rw [h2, h4] at h
        simp at h
        rw [h.1.1, splitL_inj a b (by rw [h1, h3, h.1.2, h.2])]
theorem wordsL_inj (a b : Bs) (h : wordsL a = wordsL b) : a = b := by
  unfold wordsL at h
  cases a with
  | nil =>
    cases b with
    | nil => rfl
    | cons c b => simp at h; exact absurd h (splitL_ne _)
  | cons d a =>
    cases b with
    | nil => simp at h; exact absurd h (splitL_ne _)
    | cons c b => simp at h; exact splitL_inj _ _ h
theorem wordsL_dot (a b : Bs) (ha : a ≠ []) (hb : b ≠ []) : wordsL (a ++ 46 :: b) = wordsL a ++ wordsL b := by
  have h1 : ∀ l : Bs, l ≠ [] → wordsL l = splitL l := fun l hl => by
    unfold wordsL; rw [if_neg (by simpa using hl)]
  rw [h1 _ (by simp), h1 a ha, h1 b hb, splitL_dot]

theorem plain_ne {w : Bs} (h : plainL w = true) : w ≠ star ∧ w ≠ hash := by
  constructor <;> (rintro rfl; revert h; decide)
theorem patW_plain {w : Bs} (h : plainL w = true) : patW w = true := by unfold patW; rw [h]; simp
theorem key_pat {a : Bs} (h : keyL a = true) : patL a = true := by
  unfold keyL madeL at h
  unfold patL madeL
  simp only [Bool.and_eq_true, List.all_eq_true] at h ⊢
  exact ⟨h.1, h.2.1, fun x hx => patW_plain (h.2.2 x hx)⟩
theorem key_all {a : Bs} (h : keyL a = true) : ∀ w ∈ wordsL a, plainL w = true := by
  unfold keyL madeL at h
  simp only [Bool.and_eq_true, List.all_eq_true] at h
  exact h.2.2
theorem fits_h (one : Bs → Bs → Bool) {p : Bs} (hp : p = hash) (ps ws : List Bs) : fits one (p :: ps) ws = (List.range (ws.length + 1)).any fun i => fits one ps (ws.drop i) := by simp only [fits, if_pos hp]
theorem fits_n (one : Bs → Bs → Bool) {p : Bs} (hp : p ≠ hash) (ps : List Bs) : fits one (p :: ps) [] = false := by simp only [fits, if_neg hp]
theorem fits_c (one : Bs → Bs → Bool) {p : Bs} (hp : p ≠ hash) (ps : List Bs) (w : Bs) (ws : List Bs) : fits one (p :: ps) (w :: ws) = (one p w && fits one ps ws) := by simp only [fits, if_neg hp]
theorem fits_plain : ∀ (ps ws : List Bs), (∀ p ∈ ps, plainL p = true) → fits oneM ps ws = (ps == ws)
  | [], ws, _ => by cases ws <;> rfl
  | p :: ps, ws, h => by
    have hp := plain_ne (h p (by simp))
    cases ws with
    | nil => rw [fits_n _ hp.2]; rfl
    | cons w ws =>
      rw [fits_c _ hp.2, fits_plain ps ws (fun q hq => h q (by simp [hq]))]
      unfold oneM
      rw [show (p == star) = false from by simpa using hp.1]
      rfl
theorem fits_hash (one : Bs → Bs → Bool) (ws : List Bs) : fits one [hash] ws = true := by rw [fits_one, if_pos rfl]
theorem self_key {a b : Bs} (h : keyL a = true) : matchL a b = (a == b) := by
  unfold matchL
  rw [key_pat h, stands_fits, fits_plain _ _ (key_all h), Bool.true_and]
  rw [Bool.eq_iff_iff, Bool.and_eq_true, beq_iff_eq, beq_iff_eq]
  constructor
  · rintro ⟨_, h2⟩; exact wordsL_inj _ _ h2
  · rintro rfl; exact ⟨h, rfl⟩
theorem wordsL_hash : wordsL hash = [hash] := by decide
theorem match_hash (a : Bs) : matchL hash a = keyL a := by
  unfold matchL
  rw [show patL hash = true from by decide, wordsL_hash, stands_fits, fits_hash, Bool.true_and, Bool.and_true]
theorem over_hash (a : Bs) : overL hash a = patL a := by
  unfold overL
  rw [show patL hash = true from by decide, wordsL_hash, stands_fits, fits_hash, Bool.true_and, Bool.and_true]
theorem fits_self : ∀ ps : List Bs, fits oneO ps ps = true
  | [] => rfl
  | p :: ps => by
    by_cases hp : p = hash
    · rw [fits_h _ hp, List.any_eq_true]
      exact ⟨1, by simp, by simpa using fits_self ps⟩
    · rw [fits_c _ hp, fits_self ps]
      unfold oneO
      rw [show (p == hash) = false from by simpa using hp]
      simp
theorem over_self (a : Bs) : overL a a = patL a := by
  unfold overL
  rw [stands_fits, fits_self, Bool.and_true, Bool.and_self]
/-- Who is over another stands for what that one stands for. -/
theorem fits_trans (one : Bs → Bs → Bool) (hone : ∀ p w s, oneO p w = true → one w s = true → one p s = true) : ∀ (A B S : List Bs), fits oneO A B = true → fits one B S = true → fits one A S = true
  | [], B, S, h1, h2 => by
    have : B = [] := by simpa [fits] using h1
    subst this; exact h2
  | p :: A, B, S, h1, h2 => by
    by_cases hp : p = hash
    · rw [fits_h _ hp, List.any_eq_true] at h1
      obtain ⟨i, hi, h1⟩ := h1
      rw [← List.take_append_drop i B] at h2
      obtain ⟨j, hj, h3, h4⟩ := (fits_append one _ _ S).1 h2
      rw [fits_h _ hp, List.any_eq_true]
      exact ⟨j, by simp; omega, fits_trans one hone A _ _ h1 h4⟩
    · cases B with
      | nil => rw [fits_n _ hp] at h1; cases h1
      | cons w B =>
        rw [fits_c _ hp, Bool.and_eq_true] at h1
        have hw : w ≠ hash := by
          have := h1.1
          unfold oneO at this
          simp only [Bool.and_eq_true, Bool.not_eq_true', beq_eq_false_iff_ne] at this
          exact this.1
        cases S with
        | nil => rw [fits_n _ hw] at h2; cases h2
        | cons s S =>
          rw [fits_c _ hw, Bool.and_eq_true] at h2
          rw [fits_c _ hp, Bool.and_eq_true]
          exact ⟨hone _ _ _ h1.1 h2.1, fits_trans one hone A B S h1.2 h2.2⟩
theorem one_mo (p w s : Bs) (h1 : oneO p w = true) (h2 : oneM w s = true) : oneM p s = true := by
  unfold oneO at h1
  unfold oneM at h2 ⊢
  simp only [Bool.and_eq_true, Bool.or_eq_true, beq_iff_eq] at h1 h2 ⊢
  rcases h1.2 with h | h
  · exact .inl h
  · subst h; exact h2
theorem one_oo (p w s : Bs) (h1 : oneO p w = true) (h2 : oneO w s = true) : oneO p s = true := by
  unfold oneO at h1 h2 ⊢
  simp only [Bool.and_eq_true, Bool.or_eq_true, beq_iff_eq] at h1 h2 ⊢
  refine ⟨h2.1, ?_⟩
  rcases h1.2 with h | h
  · exact .inl h
  · subst h; exact h2.2
theorem over_match {a b s : Bs} (h1 : overL a b = true) (h2 : matchL b s = true) : matchL a s = true := by
  unfold overL at h1
  unfold matchL at h2 ⊢
  simp only [Bool.and_eq_true, stands_fits] at h1 h2 ⊢
  exact ⟨h1.1, h2.2.1, fits_trans oneM one_mo _ _ _ h1.2.2 h2.2.2⟩
theorem over_over {a b s : Bs} (h1 : overL a b = true) (h2 : overL b s = true) : overL a s = true := by
  unfold overL at h1 h2 ⊢
  simp only [Bool.and_eq_true, stands_fits] at h1 h2 ⊢
  exact ⟨h1.1, h2.2.1, fits_trans oneO one_oo _ _ _ h1.2.2 h2.2.2⟩
theorem made_dot {so : Bs → Bool} {a b : Bs} (ha : a ≠ []) (hb : b ≠ []) (h1 : madeL so a = true) (h2 : madeL so b = true) (hl : (a ++ 46 :: b).length ≤ 60) (hw : (wordsL (a ++ 46 :: b)).length ≤ 12) : madeL so (a ++ 46 :: b) = true := by
  unfold madeL at h1 h2 ⊢
  simp only [Bool.and_eq_true, List.all_eq_true, decide_eq_true_eq] at h1 h2 ⊢
  refine ⟨hl, hw, fun x hx => ?_⟩
  rw [wordsL_dot a b ha hb] at hx
  rcases List.mem_append.1 hx with h | h
  · exact h1.2.2 x h
  · exact h2.2.2 x h
theorem joins {p q s : Bs} (hp : p ≠ []) (hq : q ≠ []) (hs : s ≠ []) (lp : p.length ≤ 28) (lq : q.length ≤ 28) (ls : s.length ≤ 28) (h1 : matchL p s = true) (h2 : matchL q s = true)
    (hk : (wordsL (s ++ 46 :: s)).length ≤ 12) (hx : (wordsL (p ++ 46 :: q)).length ≤ 12) : matchL (p ++ 46 :: q) (s ++ 46 :: s) = true := by
  unfold matchL at h1 h2 ⊢
  simp only [Bool.and_eq_true, stands_fits] at h1 h2 ⊢
  refine ⟨made_dot hp hq h1.1 h2.1 (by simp; omega) hx, made_dot hs hs h1.2.1 h1.2.1 (by simp; omega) hk, ?_⟩
  rw [wordsL_dot p q hp hq, wordsL_dot s s hs hs, fits_append]
  exact ⟨(wordsL s).length, by simp, by rw [List.take_left']; exact h1.2.2; rfl, by rw [List.drop_left']; exact h2.2.2; rfl⟩
/-- So many stars between dots. -/
def stars : Nat → Bs
  | 0 => []
  | 1 => star
  | n + 2 => stars (n + 1) ++ [46, 42]
theorem stars_ne (n : Nat) : stars (n + 1) ≠ [] := by cases n <;> simp [stars, star]
theorem words_stars : ∀ n : Nat, wordsL (stars (n + 1)) = List.replicate (n + 1) star
  | 0 => by decide
  | n + 1 => by
    show wordsL (stars (n + 1) ++ 46 :: star) = _
    rw [wordsL_dot _ _ (stars_ne n) (by simp [star]), words_stars n, List.replicate_succ' (n := n + 1)]
    rfl
theorem stars_len : ∀ n : Nat, (stars (n + 1)).length = 2 * n + 1
  | 0 => rfl
  | n + 1 => by
    show (stars (n + 1) ++ [46, 42]).length = _
    rw [List.length_append, stars_len n]; simp; omega
theorem fits_stars : ∀ (n : Nat) (ws : List Bs), fits oneM (List.replicate n star) ws = decide (ws.length = n)
  | 0, ws => by cases ws <;> simp [fits]
  | n + 1, ws => by
    rw [List.replicate_succ]
    cases ws with
    | nil => rw [fits_n _ (by decide)]; simp
    | cons w ws =>
      rw [fits_c _ (by decide), fits_stars n ws]
      simp [oneM]
theorem fits_stars_hash (n : Nat) (ws : List Bs) : fits oneM (List.replicate n star ++ [hash]) ws = decide (n ≤ ws.length) := by
  rw [Bool.eq_iff_iff, fits_append, decide_eq_true_eq]
  constructor
  · rintro ⟨i, hi, h1, _⟩
    rw [fits_stars, decide_eq_true_eq, List.length_take] at h1
    omega
  · intro h
    exact ⟨n, h, by rw [fits_stars, decide_eq_true_eq, List.length_take]; omega, fits_hash _ _⟩
theorem fits_hash_stars (n : Nat) (ws : List Bs) : fits oneM ([hash] ++ List.replicate n star) ws = decide (n ≤ ws.length) := by
  rw [Bool.eq_iff_iff, fits_append, decide_eq_true_eq]
  constructor
  · rintro ⟨i, hi, _, h1⟩
    rw [fits_stars, decide_eq_true_eq, List.length_drop] at h1
    omega
  · intro h
    exact ⟨ws.length - n, by omega, fits_hash _ _, by rw [fits_stars, decide_eq_true_eq, List.length_drop]; omega⟩
theorem pat_stars {l : Bs} {n : Nat} (hl : l.length ≤ 60) (hn : n ≤ 10) (hw : wordsL l = List.replicate n star ∨ wordsL l = List.replicate n star ++ [hash] ∨ wordsL l = [hash] ++ List.replicate n star) : patL l = true := by
  unfold patL madeL
  simp only [Bool.and_eq_true, List.all_eq_true, decide_eq_true_eq]
  rcases hw with h | h | h
  · rw [h]; exact ⟨hl, by simp; omega, fun x hx => by rw [(List.mem_replicate.1 hx).2]; decide⟩
  · rw [h]; exact ⟨hl, by simp; omega, fun x hx => by
      rcases List.mem_append.1 hx with h | h
      · rw [(List.mem_replicate.1 h).2]; decide
      · rw [List.mem_singleton.1 h]; decide⟩
  · rw [h]; exact ⟨hl, by simp; omega, fun x hx => by
      rcases List.mem_append.1 hx with h | h
      · rw [List.mem_singleton.1 h]; decide
      · rw [(List.mem_replicate.1 h).2]; decide⟩
theorem match_stars (n : Nat) (hn : n < 10) (k : Bs) : matchL (stars (n + 1)) k = (keyL k && decide ((wordsL k).length = n + 1)) := by
  unfold matchL
  rw [pat_stars (n := n + 1) (by rw [stars_len]; omega) (by omega) (.inl (words_stars n)), stands_fits, words_stars, fits_stars, Bool.true_and]
theorem match_stars_hash (n : Nat) (hn : n < 10) (k : Bs) : matchL (stars (n + 1) ++ 46 :: hash) k = (keyL k && decide (n + 1 ≤ (wordsL k).length)) := by
  have hw : wordsL (stars (n + 1) ++ 46 :: hash) = List.replicate (n + 1) star ++ [hash] := by rw [wordsL_dot _ _ (stars_ne n) (by simp [hash]), words_stars, wordsL_hash]
  unfold matchL
  rw [pat_stars (n := n + 1) (by rw [List.length_append, stars_len]; simp [hash]; omega) (by omega) (.inr (.inl hw)), stands_fits, hw, fits_stars_hash, Bool.true_and]
theorem match_hash_stars (n : Nat) (hn : n < 10) (k : Bs) : matchL (hash ++ 46 :: stars (n + 1)) k = (keyL k && decide (n + 1 ≤ (wordsL k).length)) := by
  have hw : wordsL (hash ++ 46 :: stars (n + 1)) = [hash] ++ List.replicate (n + 1) star := by rw [wordsL_dot _ _ (by simp [hash]) (stars_ne n), words_stars, wordsL_hash]
  unfold matchL
  rw [pat_stars (n := n + 1) (by rw [List.length_append, List.length_cons, stars_len]; simp [hash]; omega) (by omega) (.inr (.inr hw)), stands_fits, hw, fits_hash_stars, Bool.true_and]
end Go.Proofs.YtjpaaadcnlfjhaaDoor.Tp
