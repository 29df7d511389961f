/- Package topic, in lists: words, plain words, what stands for what. No program in sight. -/
import Derived.Lib.Bytealg
set_option linter.unusedVariables false
set_option linter.unusedSimpArgs false
namespace Go.Proofs.YtgnhpjakjoaejaaDoor.Tp
open Go

abbrev Bs := List UInt8
def okB (c : UInt8) : Bool := (decide (97 ≤ c.toNat) && decide (c.toNat ≤ 122)) || ((decide (48 ≤ c.toNat) && decide (c.toNat ≤ 57)) || (c.toNat == 45 || c.toNat == 95))
def plainL (l : Bs) : Bool := !l.isEmpty && l.all okB
/-- Between dots; one at least. -/
def splitL : Bs → List Bs
  | [] => [[]]
  | b :: l => if b = 46 then [] :: splitL l else match splitL l with
    | x :: xs => (b :: x) :: xs
    | [] => [[b]]
def wordsL (l : Bs) : List Bs := if l.isEmpty then [] else splitL l
theorem splitL_ne (l : Bs) : splitL l ≠ [] := by
  cases l with
  | nil => simp [splitL]
  | cons b l =>
    unfold splitL
    split
    · simp
    · split <;> simp
theorem splitL_cons (b : UInt8) (l : Bs) (hb : b ≠ 46) : ∃ x xs, splitL l = x :: xs ∧ splitL (b :: l) = (b :: x) :: xs := by
  cases h : splitL l with
  | nil => exact absurd h (splitL_ne l)
  | cons x xs => exact ⟨x, xs, rfl, by rw [splitL, if_neg hb, h]⟩
theorem split_none : ∀ (l : Bs), Lib.indexByte l 46 = -1 → splitL l = [l]
  | [], _ => rfl
  | b :: l, h => by
    rw [Lib.indexByte] at h
    by_cases hb : (b == 46) = true
    · rw [if_pos hb] at h; omega
    · rw [if_neg hb] at h
      have h1 : Lib.indexByte l 46 = -1 := by
        by_cases h2 : (Lib.indexByte l 46 == -1) = true
        · simpa using h2
        · rw [if_neg h2] at h
          have := Lib.indexByte_ge l 46
          omega
      have ih := split_none l h1
      rw [splitL, if_neg (by simpa using hb), ih]
theorem split_some : ∀ (l : Bs) (i : Nat), Lib.indexByte l 46 = (i : Int) → i < l.length ∧ splitL l = l.take i :: splitL (l.drop (i + 1))
  | [], i, h => by rw [Lib.indexByte] at h; omega
  | b :: l, i, h => by
    rw [Lib.indexByte] at h
    by_cases hb : (b == 46) = true
    · rw [if_pos hb] at h
      obtain rfl : i = 0 := by omega
      refine ⟨by simp, ?_⟩
      rw [splitL, if_pos (by simpa using hb)]
      rfl
    · rw [if_neg hb] at h
      by_cases h2 : (Lib.indexByte l 46 == -1) = true
      · rw [if_pos h2] at h; omega
      · rw [if_neg h2] at h
        obtain ⟨j, rfl⟩ : ∃ j, i = j + 1 := ⟨i - 1, (by have h4 := Lib.indexByte_ge l 46; have h3 : Lib.indexByte l 46 ≠ -1 := (by simpa using h2); omega)⟩
        obtain ⟨h4, ih⟩ := split_some l j (by omega)
        refine ⟨by simp; omega, ?_⟩
        rw [splitL, if_neg (by simpa using hb), ih]
        rfl
theorem splitL_length : ∀ l : Bs, (splitL l).length ≤ l.length + 1
  | [] => by simp [splitL]
  | b :: l => by
    have ih := splitL_length l
    by_cases hb : b = 46
    · rw [splitL, if_pos hb]; simp; omega
    · obtain ⟨x, xs, h1, h2⟩ := splitL_cons b l hb
      rw [h2]; rw [h1] at ih; simp at ih ⊢; omega
theorem wordsL_length (l : Bs) : (wordsL l).length ≤ l.length + 1 := by
  unfold wordsL
  split
  · simp
  · exact splitL_length l

def star : Bs := [42]
def hash : Bs := [35]
def patW (w : Bs) : Bool := (w == star) || ((w == hash) || plainL w)
def madeL (so : Bs → Bool) (l : Bs) : Bool := decide (l.length ≤ 60) && (decide ((wordsL l).length ≤ 12) && (wordsL l).all so)
def keyL (l : Bs) : Bool := madeL plainL l
def patL (l : Bs) : Bool := madeL patW l
def nameL (l : Bs) : Bool := decide (l.length ≤ 20) && plainL l

/-- Does a pattern's word stand for a key's? -/
def oneM (p w : Bs) : Bool := (p == star) || (p == w)
def oneO (p w : Bs) : Bool := !(w == hash) && ((p == star) || (p == w))
/-- One row of the table: the beginnings that the next word reaches. -/
def stepR (one : Bs → Bs → Bool) (ws : List Bs) (p : Bs) (r : List Bool) : List Bool :=
  if p = hash then (List.range r.length).map fun i => (r.take (i + 1)).any id
  else (List.range r.length).map fun i => decide (0 < i) && (r.getD (i - 1) false && (match ws[i - 1]? with | some w => one p w | none => false))
def rows (one : Bs → Bs → Bool) (ws : List Bs) (ps : List Bs) : List Bool := ps.foldl (fun r p => stepR one ws p r) (true :: List.replicate ws.length false)
def standsL (one : Bs → Bs → Bool) (ps ws : List Bs) : Bool := (rows one ws ps).getD ws.length false
def matchL (p k : Bs) : Bool := patL p && (keyL k && standsL oneM (wordsL p) (wordsL k))
def overL (a b : Bs) : Bool := patL a && (patL b && standsL oneO (wordsL a) (wordsL b))

/-- By definition. -/
def fits (one : Bs → Bs → Bool) : List Bs → List Bs → Bool
  | [], ws => ws.isEmpty
  | p :: ps, ws => if p = hash then (List.range (ws.length + 1)).any fun i => fits one ps (ws.drop i) else match ws with
    | [] => false
    | w :: ws => one p w && fits one ps ws
/-- The whole words that a beginning of the pattern stands for. -/
theorem fits_append (one : Bs → Bs → Bool) : ∀ (ps qs ws : List Bs), fits one (ps ++ qs) ws = true ↔ ∃ i, i ≤ ws.length ∧ fits one ps (ws.take i) = true ∧ fits one qs (ws.drop i) = true
  | [], qs, ws => by
    constructor
    · intro h; exact ⟨0, by omega, rfl, by simpa using h⟩
    · rintro ⟨i, hi, h1, h2⟩
      have : ws.take i = [] := by simpa [fits] using h1
      have h0 : i = 0 ∨ ws = [] := by
        rcases ws with _ | ⟨w, ws⟩
        · exact .inr rfl
        · left
          rcases i with _ | i
          · rfl
          · simp at this
      rcases h0 with rfl | rfl
      · simpa using h2
      · simpa using h2
  | p :: ps, qs, ws => by
    by_cases hp : p = hash
    · rw [List.cons_append]
      simp only [fits, if_pos hp, List.any_eq_true, List.mem_range]
      constructor
      · rintro ⟨j, hj, h⟩
        obtain ⟨i, hi, h1, h2⟩ := (fits_append one ps qs (ws.drop j)).1 h
        rw [List.length_drop] at hi
        refine ⟨j + i, by omega, ⟨j, by rw [List.length_take]; omega, ?_⟩, by rw [List.drop_drop] at h2; exact h2⟩
        rw [List.drop_take, show j + i - j = i from by omega]; exact h1
      · rintro ⟨i, hi, ⟨j, hj, h1⟩, h2⟩
        rw [List.length_take] at hj
        refine ⟨j, by omega, (fits_append one ps qs (ws.drop j)).2 ⟨i - j, by rw [List.length_drop]; omega, ?_, ?_⟩⟩
        · rw [List.drop_take] at h1; exact h1
        · rw [List.drop_drop, show j + (i - j) = i from by omega]; exact h2
    · rw [List.cons_append]
      cases ws with
      | nil =>
        simp only [fits, if_neg hp]
        constructor
        · intro h; cases h
        · rintro ⟨i, _, h1, _⟩; rw [List.take_nil] at h1; simp [hp] at h1
      | cons w ws =>
        simp only [fits, if_neg hp, Bool.and_eq_true]
        constructor
        · rintro ⟨ho, h⟩
          obtain ⟨i, hi, h1, h2⟩ := (fits_append one ps qs ws).1 h
          exact ⟨i + 1, by simp; omega, by rw [List.take_succ_cons]; simp [ho, h1], by simpa using h2⟩
        · rintro ⟨i, hi, h1, h2⟩
          cases i with
          | zero => simp [hp] at h1
          | succ i =>
            rw [List.take_succ_cons] at h1
            simp only [Bool.and_eq_true] at h1
            exact ⟨h1.1, (fits_append one ps qs ws).2 ⟨i, by simp at hi; omega, h1.2, by simpa using h2⟩⟩
theorem rows_length (one : Bs → Bs → Bool) (ws ps : List Bs) : (rows one ws ps).length = ws.length + 1 := by
  have key : ∀ (ps : List Bs) (r : List Bool), r.length = ws.length + 1 → (ps.foldl (fun r p => stepR one ws p r) r).length = ws.length + 1 := by
    intro ps
    induction ps with
    | nil => exact fun r h => h
    | cons p ps ih => exact fun r h => ih _ (by show (stepR one ws p r).length = _; unfold stepR; split <;> simp [h])
  exact key ps _ (by simp)
theorem fits_one (one : Bs → Bs → Bool) (p : Bs) (ws : List Bs) : fits one [p] ws = if p = hash then true else (match ws with | [w] => one p w | _ => false) := by
  by_cases hp : p = hash
  · simp only [fits, if_pos hp]
    rw [List.any_eq_true]
    exact ⟨ws.length, by simp, by simp⟩
  · simp only [fits, if_neg hp]
    match ws with
    | [] => rfl
    | [w] => simp [fits]
    | w :: v :: ws => simp [fits]
theorem snoc_ind {α : Type} {P : List α → Prop} (h0 : P []) (hs : ∀ l a, P l → P (l ++ [a])) (l : List α) : P l := by
  have key : ∀ r : List α, P r.reverse := by
    intro r
    induction r with
    | nil => exact h0
    | cons a r ih => rw [List.reverse_cons]; exact hs _ _ ih
  have := key l.reverse
  rwa [List.reverse_reverse] at this
/-- What the table holds. -/
theorem rows_spec (one : Bs → Bs → Bool) (ws : List Bs) : ∀ (ps : List Bs) (i : Nat), i ≤ ws.length → (rows one ws ps).getD i false = fits one ps (ws.take i) := by
  intro ps
  refine snoc_ind (P := fun ps => ∀ i, i ≤ ws.length → (rows one ws ps).getD i false = fits one ps (ws.take i)) ?_ ?_ ps
  · intro i hi
    show (true :: List.replicate ws.length false).getD i false = _
    cases i with
    | zero => simp [fits]
    | succ i =>
      have : (ws.take (i + 1)).isEmpty = false := by
        cases ws with
        | nil => simp at hi
        | cons w ws => rfl
      rw [fits, this]
      simp [List.getD, List.getElem?_replicate]
      split <;> rfl
  · intro ps p ih i hi
    have hstep : rows one ws (ps ++ [p]) = stepR one ws p (rows one ws ps) := by simp [rows]
    have hlen := rows_length one ws ps
    rw [hstep, Bool.eq_iff_iff, fits_append]
    unfold stepR
    by_cases hp : p = hash
    · rw [if_pos hp]
      rw [List.getD_eq_getElem?_getD, List.getElem?_map, List.getElem?_range (by rw [hlen]; omega), Option.map_some, Option.getD_some, List.any_eq_true]
      constructor
      · rintro ⟨b, hb, hbt⟩
        obtain ⟨j, hj⟩ := List.mem_iff_getElem?.1 hb
        have hj1 : j < i + 1 := by
          have := (List.getElem?_eq_some_iff.1 hj).1
          rw [List.length_take] at this; omega
        rw [List.getElem?_take, if_pos hj1] at hj
        have := ih j (by omega)
        rw [List.getD_eq_getElem?_getD, hj, Option.getD_some] at this
        refine ⟨j, by rw [List.length_take]; omega, ?_, ?_⟩
        · rw [List.take_take, Nat.min_eq_left (by omega), ← this]; exact hbt
        · rw [fits_one, if_pos hp]
      · rintro ⟨j, hj, h1, _⟩
        rw [List.length_take] at hj
        rw [List.take_take, Nat.min_eq_left (by omega), ← ih j (by omega)] at h1
        have hj2 : j < (rows one ws ps).length := by rw [hlen]; omega
        rw [List.getD_eq_getElem?_getD, List.getElem?_eq_getElem hj2, Option.getD_some] at h1
        exact ⟨true, by rw [List.mem_iff_getElem?]; exact ⟨j, by rw [List.getElem?_take, if_pos (by omega), List.getElem?_eq_getElem hj2, h1]⟩, rfl⟩
    · rw [if_neg hp]
      rw [List.getD_eq_getElem?_getD, List.getElem?_map, List.getElem?_range (by rw [hlen]; omega), Option.map_some, Option.getD_some]
      cases i with
      | zero =>
        simp only [Nat.lt_irrefl, decide_false, Bool.false_and, Bool.false_eq_true, false_iff]
        rintro ⟨j, hj, h1, h2⟩
        rw [List.take_zero] at h2
        rw [List.drop_nil, fits_one, if_neg hp] at h2
        cases h2
      | succ i =>
        simp only [Nat.zero_lt_succ, decide_true, Bool.true_and, Nat.add_sub_cancel, Bool.and_eq_true]
        have hw : i < ws.length := by omega
        rw [ih i (by omega), List.getElem?_eq_getElem hw]
        have htk : ws.take (i + 1) = ws.take i ++ [ws[i]] := by rw [List.take_add_one, List.getElem?_eq_getElem hw]; rfl
        constructor
        · rintro ⟨h1, h2⟩
          refine ⟨i, by rw [List.length_take]; omega, ?_, ?_⟩
          · rw [List.take_take, Nat.min_eq_left (by omega)]; exact h1
          · rw [htk, List.drop_left' (by rw [List.length_take]; omega), fits_one, if_neg hp]; exact h2
        · rintro ⟨j, hj, h1, h2⟩
          rw [List.length_take] at hj
          rw [fits_one, if_neg hp] at h2
          have hl : ((ws.take (i + 1)).drop j).length = i + 1 - j := by rw [List.length_drop, List.length_take]; omega
          have hj2 : j = i := by
            match hd : (ws.take (i + 1)).drop j with
            | [] => rw [hd] at h2; cases h2
            | [w] => rw [hd] at hl; simp at hl; omega
            | w :: v :: r => rw [hd] at h2; cases h2
          subst hj2
          rw [List.take_take, Nat.min_eq_left (by omega)] at h1
          rw [htk, List.drop_left' (by rw [List.length_take]; omega)] at h2
          exact ⟨h1, h2⟩
theorem stands_fits (one : Bs → Bs → Bool) (ps ws : List Bs) : standsL one ps ws = fits one ps ws := by
  unfold standsL
  rw [rows_spec one ws ps ws.length (Nat.le_refl _), List.take_length]
end Go.Proofs.YtgnhpjakjoaejaaDoor.Tp
