/- Rows of the call's own: plain lemmas. -/
import Derived.Test.YtgnhpjakjoaejaaDoorLChg
import Derived.OwnWalk
import Derived.Laws.OwnMore
import Derived.Maps.AppendAt
import Derived.Lib.Hide
set_option linter.unusedVariables false
set_option linter.unusedSimpArgs false
namespace Go.Proofs.YtgnhpjakjoaejaaDoor
open Go Go.RowKit

section
variable {w w' : World} {base : Nat} {e : TypeId} {size n : Nat} {v : Value} {xs : List Value}
theorem o_eq (h : w.ownsRow base e size v n xs) (hb : ∀ g, v.ownBlock = some g → w'.heap[g]? = w.heap[g]?) : w'.ownsRow base e size v n xs := by
  refine ⟨h.1, ?_⟩
  rcases h.2 with h | ⟨g, cap, cur, hv, hb', hh, r⟩
  · exact .inl h
  · exact .inr ⟨g, cap, cur, hv, hb', (hb g (by rw [hv]; rfl)).trans hh, r⟩
theorem o_ge (h : w.ownsRow base e size v n xs) : ∀ g, v.ownBlock = some g → base ≤ g := fun g hg => (h.lt g hg).1
theorem o_lt (h : w.ownsRow base e size v n xs) : ∀ g, v.ownBlock = some g → g < w.heap.size := fun g hg => (h.lt g hg).2
theorem o_chg {L : List Nat} (h : w.ownsRow base e size v n xs) (hc : Chg L w w') (hn : ∀ g, v.ownBlock = some g → g ∉ L) : w'.ownsRow base e size v n xs :=
  o_eq h fun g hg => hc.block g (o_lt h g hg) (hn g hg)
theorem o_chg0 (h : w.ownsRow base e size v n xs) (hc : Chg [] w w') : w'.ownsRow base e size v n xs := o_chg h hc fun _ _ => by simp
/-- Blocks below the row's have changed. -/
theorem o_below {L : List Nat} (h : w.ownsRow base e size v n xs) (hc : Chg L w w') (hn : ∀ b ∈ L, b < base) : w'.ownsRow base e size v n xs :=
  o_chg h hc fun g hg hm => by have := hn g hm; have := o_ge h g hg; omega
theorem o_lower {B : Nat} (hB : B ≤ base) (h : w.ownsRow base e size v n xs) : w.ownsRow B e size v n xs := by
  refine ⟨h.1, ?_⟩
  rcases h.2 with h | ⟨g, cap, cur, hv, hb, r⟩
  · exact .inl h
  · exact .inr ⟨g, cap, cur, hv, by omega, r⟩
theorem o_form (h : w.ownsRow base e size v n xs) : ∃ A c, v = .slice A n c := by
  rcases h.2 with ⟨rfl, rfl⟩ | ⟨g, cap, cur, rfl, _⟩
  · exact ⟨none, 0, rfl⟩
  · exact ⟨_, _, rfl⟩
theorem o_grown {L : List Nat} {w0 : World} (hg : w.grownBy w' v.ownBlock) (h : w.ownsRow base e size v n xs) (hc : Chg L w0 w) (hb : w0.heap.size ≤ base) : Chg L w0 w' :=
  hc.grown hg fun k hk => .inr (by have := o_ge h k hk.symm.symm; omega)
end

/-- A slice whose cells can be read: of one-cell elements. -/
def SlAt (w : World) (A : Option Addr) (l : List Value) (c : Nat) : Prop := l.length ≤ c ∧ ∀ i u, l[i]? = some u → ∃ a, A = some a ∧ w.cell? (a.add i) = some u
theorem SlAt.chg {L : List Nat} {w w' : World} {A : Option Addr} {l : List Value} {c : Nat} (h : SlAt w A l c) (hc : Chg L w w') (hn : ∀ a, A = some a → a.block ∉ L) : SlAt w' A l c := by
  refine ⟨h.1, fun i u hu => ?_⟩
  obtain ⟨a, ha, hcell⟩ := h.2 i u hu
  refine ⟨a, ha, hc.cell_some hcell ?_⟩
  have := hn a ha
  simpa [Addr.add] using (by unfold Addr.add; split <;> exact this : (a.add i).block ∉ L)
theorem SlAt.chg0 {w w' : World} {A : Option Addr} {l : List Value} {c : Nat} (h : SlAt w A l c) (hc : Chg [] w w') : SlAt w' A l c := h.chg hc fun _ _ => by simp
theorem SlAt.nil (w : World) : SlAt w none [] 0 := ⟨Nat.le_refl _, fun i u h => by simp at h⟩
theorem SlAt.of_owns {w : World} {base : Nat} {e : TypeId} {A : Option Addr} {c n : Nat} {xs : List Value} (h : w.ownsRow base e 1 (.slice A n c) n xs) : SlAt w A xs c ∧ xs.length = n := by
  have hl : xs.length = n := by have := h.1; omega
  refine ⟨⟨?_, fun i u hu => ?_⟩, hl⟩
  · rcases h.2 with ⟨h1, h2⟩ | ⟨g, cap, cur, h1, _, _, h4, _⟩
    · cases h1; omega
    · cases h1; omega
  · rcases h.2 with ⟨h1, h2⟩ | ⟨g, cap, cur, h1, _⟩
    · cases h1
      have : xs = [] := List.eq_nil_of_length_eq_zero (by omega)
      subst this
      simp at hu
    · cases h1
      exact ⟨⟨g, 0, none⟩, rfl, h.cells rfl i u hu⟩
theorem SlAt.of_owns_le {w : World} {base : Nat} {e : TypeId} {A : Option Addr} {c n : Nat} {xs : List Value} (h : w.ownsRow base e 1 (.slice A n c) n xs) : ∀ a, A = some a → base ≤ a.block := fun a ha => by
  subst ha
  exact o_ge h a.block rfl
end Go.Proofs.YtgnhpjakjoaejaaDoor
