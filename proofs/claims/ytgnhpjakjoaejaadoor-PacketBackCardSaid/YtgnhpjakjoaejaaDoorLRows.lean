/- A slice of structs among a law's arguments, opened to its cells. -/
import Derived.Test.YtgnhpjakjoaejaaDoorProg
import Derived.WalkKit
import Derived.ChangeArms
import Derived.WideShapes
import Derived.Deep.Slices
set_option linter.unusedVariables false
set_option linter.unusedSimpArgs false
namespace Go.Proofs.YtgnhpjakjoaejaaDoor
open Go.RowKit Go.ChangeShapes Go.WideShapes Go.Deep

/-- The elements of a row, sz cells each. -/
def RowsAt {α : Type} (w : World) (A : Option Addr) (sz : Nat) (cells : α → List Value) (ys : List α) : Prop :=
  (A = none ∧ ys = []) ∨ ∃ a, A = some a ∧ ∀ i y, ys[i]? = some y → ∀ j u, (cells y)[j]? = some u → w.cell? (a.add (i * sz + j)) = some u
theorem RowsAt.get {α : Type} {w : World} {A : Option Addr} {sz : Nat} {cells : α → List Value} {ys : List α} (h : RowsAt w A sz cells ys) {i : Nat} (hi : i < ys.length) :
    ∃ a, A = some a ∧ ∀ j u, (cells ys[i])[j]? = some u → w.cell? (a.add (i * sz + j)) = some u := by
  rcases h with ⟨_, rfl⟩ | ⟨a, rfl, hx⟩
  · simp at hi
  · exact ⟨a, rfl, hx i ys[i] (List.getElem?_eq_getElem hi)⟩
/-- A field's address as the walk writes it. -/
theorem add_fld (a : Addr) (i j : Nat) (hj : 0 < j) : a.add (i + j) = ⟨(a.add i).block, (a.add i).off + j, none⟩ := by
  unfold Addr.add
  rw [if_neg (by omega)]
  split
  · rename_i h; simp [h]
  · simp; omega
theorem list_of {α : Type} (p : Nat → α → Prop) : ∀ (n : Nat), (∀ i, i < n → ∃ y, p i y) → ∃ ys : List α, ys.length = n ∧ ∀ i y, ys[i]? = some y → p i y
  | 0, _ => ⟨[], rfl, fun i y h => by simp at h⟩
  | n + 1, h => by
    obtain ⟨ys, hl, hy⟩ := list_of p n fun i hi => h i (by omega)
    obtain ⟨y, hyn⟩ := h n (by omega)
    refine ⟨ys ++ [y], by simp [hl], fun i z hz => ?_⟩
    rcases Nat.lt_or_ge i n with hi | hi
    · rw [List.getElem?_append_left (by omega)] at hz
      exact hy i z hz
    · rw [List.getElem?_append_right (by omega)] at hz
      have : i - ys.length = 0 := by
        rcases Nat.eq_zero_or_pos (i - ys.length) with h0 | h0
        · exact h0
        · rw [List.getElem?_eq_none (by simp; omega)] at hz; cases hz
      rw [this] at hz
      simp at hz
      subst hz
      have : i = n := by omega
      subst this
      exact hyn
section
variable {H : Type} {enc : TypeId × Value → H} {P : Program} {w : World} {base : Nat} {spare : Nat → Bool} {held : Bool}
theorem open_structs {α : Type} {r : Reach} {b0 : Nat} {t e : TypeId} {sz : Nat} (cells : α → List Value) (ok : α → Prop) (ht : P.underlying t = some (.slice e)) (ce : P.cellsOf e = sz)
    (elem : ∀ (fuel : Nat) (cs : List Value) (x : DataW H × List MemPlace), DataW.trod enc P w base spare held fuel e cs = some x → ∃ y, cs = cells y ∧ ok y)
    {v : Value} {d : DataW H} {p : List MemPlace} (hv : Value.okWide P w r b0 t v) (h : DataW.Trod enc P w base spare held t v d p) :
    ∃ (A : Option Addr) (c : Nat) (ys : List α), v = .slice A ys.length c ∧ ys.length ≤ c ∧ c ≤ maxLen ∧ RowsAt w A sz cells ys ∧ (∀ y ∈ ys, ok y) := by
  obtain ⟨a, len, cap, rfl⟩ := okWide_slice ht hv
  obtain ⟨fuel, hf⟩ := h
  rcases open_slice ht hf with ⟨hcs, _⟩ | ⟨a', len', cap', m, n, D, Pl, hcs, _, hl, hm, hmm, _, hel⟩
  · simp [Value.cells] at hcs
    obtain ⟨rfl, rfl, rfl⟩ := hcs
    exact ⟨none, 0, [], rfl, Nat.le_refl _, by decide, .inl ⟨rfl, rfl⟩, fun y hy => by cases hy⟩
  · simp [Value.cells] at hcs
    obtain ⟨rfl, rfl, rfl⟩ := hcs
    have hlm : len ≤ m := by rw [hmm]; split <;> omega
    obtain ⟨ys, hyl, hy⟩ := list_of (fun i y => ok y ∧ ∀ j u, (cells y)[j]? = some u → w.cell? (a'.add (i * sz + j)) = some u) len fun i hi => by
      obtain ⟨cs', h1, h2⟩ := hel i (by omega)
      obtain ⟨y, hyc, hok⟩ := elem _ _ _ h2
      refine ⟨y, hok, fun j u hu => ?_⟩
      obtain ⟨_, hlen, hcell⟩ := World.cells?_some h1
      rw [← hyc] at hu
      have hj : j < P.cellsOf e := by rw [← hlen]; exact (List.getElem?_eq_some_iff.1 hu).1
      have e0 := hcell j (by omega)
      rw [Go.Deep.add_add, ce] at e0
      exact e0.trans hu
    refine ⟨some a', cap, ys, by rw [hyl], by omega, hm, .inr ⟨a', rfl, fun i y hi => (hy i y hi).2⟩, fun y hm' => ?_⟩
    obtain ⟨i, hi⟩ := List.mem_iff_getElem?.1 hm'
    exact (hy i y hi).1
end
end Go.Proofs.YtgnhpjakjoaejaaDoor
