/- Numbers and texts in bytes, and out of them: plain lists. No program in sight. -/
namespace Go.Proofs.YtgnhpjakjoaejaaDoor.Ac

abbrev Bs := List UInt8
/-- A number in so many bytes. -/
def be : Nat → Nat → Bs
  | 0, _ => []
  | k + 1, v => UInt8.ofNat (v / 256 ^ k) :: be k v
theorem be_len : ∀ (k v : Nat), (be k v).length = k
  | 0, _ => rfl
  | k + 1, v => by simp [be, be_len k v]
theorem be_snoc : ∀ (k v : Nat), be (k + 1) v = be k (v / 256) ++ [UInt8.ofNat v]
  | 0, v => by simp [be]
  | k + 1, v => by
    rw [be, be_snoc k v, be, List.cons_append]
    congr 2
    rw [Nat.div_div_eq_div_mul, Nat.pow_succ, Nat.mul_comm]
/-- The number that bytes are. -/
def val (l : Bs) : Nat := l.foldl (fun v b => v * 256 + b.toNat) 0
theorem val_snoc (l : Bs) (b : UInt8) : val (l ++ [b]) = val l * 256 + b.toNat := by simp [val]
theorem val_nil : val [] = 0 := rfl
theorem snoc_ind {α : Type} {P : List α → Prop} (h0 : P []) (hs : ∀ l a, P l → P (l ++ [a])) (l : List α) : P l := by
  have : ∀ n (l : List α), l.length = n → P l := by
    intro n
    induction n with
    | zero => intro l hl; rw [List.eq_nil_of_length_eq_zero hl]; exact h0
    | succ n ih =>
      intro l hl
      have hne : l ≠ [] := by intro e; subst e; simp at hl
      rw [← List.dropLast_concat_getLast hne]
      exact hs _ _ (ih _ (by rw [List.length_dropLast]; omega))
  exact this _ l rfl
theorem toNat_ofNat (v : Nat) : (UInt8.ofNat v).toNat = v % 256 := by simp
theorem val_be : ∀ (k v : Nat), v < 256 ^ k → val (be k v) = v
  | 0, v, h => by simp at h; simp [be, val, h]
  | k + 1, v, h => by
    rw [be_snoc, val_snoc, val_be k (v / 256) (by rw [Nat.pow_succ] at h; omega), toNat_ofNat]
    omega
theorem val_lt (l : Bs) : val l < 256 ^ l.length := by
  induction l using snoc_ind with
  | h0 => simp [val]
  | hs l a ih =>
    rw [val_snoc, List.length_append, List.length_singleton, Nat.pow_succ]
    have := a.toNat_lt
    have : val l + 1 ≤ 256 ^ l.length := ih
    omega
theorem be_val (l : Bs) : be l.length (val l) = l := by
  induction l using snoc_ind with
  | h0 => rfl
  | hs l a ih =>
    have ha := a.toNat_lt
    rw [List.length_append, List.length_singleton, be_snoc, val_snoc]
    rw [show (val l * 256 + a.toNat) / 256 = val l by omega, ih]
    congr 2
    apply UInt8.toNat_inj.1
    rw [toNat_ofNat]
    omega
/-- A text in bytes. -/
def txt (s : Bs) : Bs := be 2 (min s.length 65535) ++ s.take 65535
theorem txt_len {s : Bs} (h : s.length ≤ 65535) : (txt s).length = s.length + 2 := by
  unfold txt
  rw [List.length_append, be_len, List.take_of_length_le h]
  omega
def yesB (b : Bool) : Bs := be 1 (if b then 1 else 0)

/-! ### Reading: what is left; none: there was something else -/
abbrev R := Option Bs
def numR (k : Nat) : R → Nat × R
  | none => (0, none)
  | some l => if k ≤ l.length then (val (l.take k), some (l.drop k)) else (0, none)
def takeR (n : Nat) : R → Bs × R
  | none => ([], none)
  | some l => if n ≤ l.length then (l.take n, some (l.drop n)) else ([], none)
def txtR (r : R) : Bs × R := takeR (numR 2 r).1 (numR 2 r).2
def yesR (r : R) : Bool × R := ((numR 1 r).1 == 1, if 1 < (numR 1 r).1 then none else (numR 1 r).2)
theorem numR_be (k v : Nat) (h : v < 256 ^ k) (x : Bs) : numR k (some (be k v ++ x)) = (v, some x) := by
  have hl := be_len k v
  unfold numR
  simp only
  rw [if_pos (by rw [List.length_append]; omega), List.take_left' hl, List.drop_left' hl, val_be k v h]
theorem takeR_app (s x : Bs) : takeR s.length (some (s ++ x)) = (s, some x) := by
  unfold takeR
  simp only
  rw [if_pos (by rw [List.length_append]; omega), List.take_left' rfl, List.drop_left' rfl]
theorem txtR_txt (s x : Bs) (h : s.length ≤ 65535) : txtR (some (txt s ++ x)) = (s, some x) := by
  unfold txtR txt
  rw [Nat.min_eq_left h, List.take_of_length_le h, List.append_assoc, numR_be 2 _ (by omega)]
  exact takeR_app s x
theorem yesR_yes (b : Bool) (x : Bs) : yesR (some (yesB b ++ x)) = (b, some x) := by
  unfold yesR yesB
  cases b <;> rw [numR_be 1 _ (by decide)] <;> rfl
theorem numR_none (k : Nat) : numR k none = (0, none) := rfl
theorem takeR_none (k : Nat) : takeR k none = ([], none) := rfl
theorem txtR_none : txtR none = ([], none) := rfl
theorem yesR_none : yesR none = (false, none) := rfl
/-- What is read does not hang on what comes behind it. -/
def Fwd {α : Type} (f : R → α × R) : Prop := (f none).2 = none ∧ ∀ l a r, f (some l) = (a, some r) → ∀ x, f (some (l ++ x)) = (a, some (r ++ x))
theorem Fwd.num (k : Nat) : Fwd (numR k) := by
  refine ⟨rfl, fun l a r h x => ?_⟩
  unfold numR at h ⊢
  simp only at h ⊢
  split at h
  · rename_i hk
    cases h
    rw [if_pos (by rw [List.length_append]; omega), List.take_append_of_le_length hk, List.drop_append_of_le_length hk]
  · cases h
theorem Fwd.take (k : Nat) : Fwd (takeR k) := by
  refine ⟨rfl, fun l a r h x => ?_⟩
  unfold takeR at h ⊢
  simp only at h ⊢
  split at h
  · rename_i hk
    cases h
    rw [if_pos (by rw [List.length_append]; omega), List.take_append_of_le_length hk, List.drop_append_of_le_length hk]
  · cases h
/-- One behind the other. -/
theorem Fwd.bind {α β : Type} {f : R → α × R} {g : α → R → β × R} (hf : Fwd f) (hg : ∀ a, Fwd (g a)) : Fwd fun r => g (f r).1 (f r).2 := by
  refine ⟨?_, fun l b r h x => ?_⟩
  · show (g (f none).1 (f none).2).2 = none
    rw [hf.1]
    exact (hg _).1
  · dsimp only at h ⊢
    cases hr : (f (some l)).2 with
    | none =>
      rw [hr] at h
      have := (hg (f (some l)).1).1
      rw [h] at this
      cases this
    | some l1 =>
      have h1 : f (some l) = ((f (some l)).1, some l1) := by rw [← hr]
      have h2 := hf.2 l _ l1 h1 x
      rw [hr] at h
      have h3 := (hg _).2 l1 b r h x
      rw [h2]
      exact h3
theorem Fwd.pure {α : Type} (a : α) : Fwd fun r => (a, r) := ⟨rfl, fun l b r h x => by cases h; rfl⟩
theorem Fwd.map {α β : Type} {f : R → α × R} (hf : Fwd f) (g : α → β) : Fwd fun r => (g (f r).1, (f r).2) := hf.bind (g := fun a r => (g a, r)) fun a => Fwd.pure (g a)
theorem Fwd.txt : Fwd txtR := (Fwd.num 2).bind fun n => Fwd.take n
theorem Fwd.yes : Fwd yesR := (Fwd.num 1).bind (g := fun v r => (v == 1, if 1 < v then none else r)) fun v => by
  refine ⟨by simp, fun l a r h x => ?_⟩
  dsimp only at h ⊢
  split at h
  · cases h
  · rename_i hv
    cases h
    rw [if_neg hv]
theorem numR_lt (k : Nat) (r : R) : (numR k r).1 < 256 ^ k := by
  unfold numR
  split
  · exact Nat.pow_pos (by decide)
  · split
    · rename_i l h
      have := val_lt (l.take k)
      rwa [List.length_take, Nat.min_eq_left h] at this
    · exact Nat.pow_pos (by decide)
/-- What is left is an end of what was there. -/
theorem numR_left {k : Nat} {l r : Bs} {v : Nat} (h : numR k (some l) = (v, some r)) : l = be k v ++ r ∧ k ≤ l.length := by
  unfold numR at h
  simp only at h
  split at h
  · rename_i hk
    cases h
    refine ⟨?_, hk⟩
    have := be_val (l.take k)
    rw [List.length_take, Nat.min_eq_left hk] at this
    rw [this, List.take_append_drop]
  · cases h
end Go.Proofs.YtgnhpjakjoaejaaDoor.Ac
