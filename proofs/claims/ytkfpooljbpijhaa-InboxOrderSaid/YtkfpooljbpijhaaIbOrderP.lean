/- InboxOrder, plain: what is held, and what came. -/
import Derived.Test.YtkfpooljbpijhaaIbAck
namespace Go.Proofs.Ytkfpooljbpijhaa.inboxOrder
open Go.RowKit

structure Inv (s : IB) (nx : Nat) (io : Nat → Bool) : Prop where
  next : s.next = nx
  le : nx ≤ 300
  s1 : 1 ≤ s.size
  s2 : s.size ≤ 32
  held : ∀ x ∈ s.held, ∃ j : Nat, nx ≤ j ∧ j < 300 ∧ x = ((j : Int), hopM j)
  came : ∀ i : Nat, i < 300 → (io i = true ↔ i < nx ∨ s.at_ i ≠ none)

theorem at_mem {s : IB} {k : Int} {m : Msg} (h : s.at_ k = some m) : (k, m) ∈ s.held := by
  unfold IB.at_ at h
  cases hf : s.held.find? fun x => x.1 == k with
  | none => rw [hf] at h; cases h
  | some x =>
    rw [hf] at h
    have h1 := List.mem_of_find?_eq_some hf
    have h2 := List.find?_some hf
    simp at h h2
    rw [← h2, ← h]
    exact h1
theorem at_snoc (s : IB) (k : Int) (m : Msg) (h : s.at_ k = none) (i : Int) : (⟨s.size, s.next, s.held ++ [(k, m)]⟩ : IB).at_ i = if i = k then some m else s.at_ i := by
  unfold IB.at_ at h ⊢
  simp only [List.find?_append]
  by_cases e : i = k
  · subst e
    simp only [Option.map_eq_none_iff] at h
    rw [h]
    simp
  · rw [if_neg e]
    have : ([(k, m)] : List (Int × Msg)).find? (fun x => x.1 == i) = none := by simp [Ne.symm e]
    rw [this]
    simp
theorem find_congr {α : Type} {p q : α → Bool} : ∀ (l : List α), (∀ x ∈ l, p x = q x) → l.find? p = l.find? q
  | [], _ => rfl
  | x :: l, h => by
    rw [List.find?_cons, List.find?_cons, h x (by simp), find_congr l fun y hy => h y (by simp [hy])]
theorem at_pop (s : IB) (i : Int) : s.pop.at_ i = if i = s.next then none else s.at_ i := by
  unfold IB.at_ IB.pop
  simp only [List.find?_filter]
  by_cases e : i = s.next
  · subst e
    rw [if_pos rfl]
    simp only [Option.map_eq_none_iff, List.find?_eq_none]
    intro x _
    simp
  · rw [if_neg e]
    congr 1
    apply find_congr
    intro x _
    by_cases h : x.1 = i
    · simp [h, e]
    · simp [h]
theorem far_small (a b : Nat) (ha : a ≤ 300) (hb : b ≤ 300) : farZ a b = (b : Int) - a := by unfold farZ; omega

theorem start (n : Int) (h1 : 1 ≤ n) (h2 : n ≤ 32) : Inv ⟨n, 0, []⟩ 0 (fun _ => false) :=
  ⟨rfl, by omega, h1, h2, by simp, fun i _ => by simp [IB.at_]⟩
theorem Inv.take {s : IB} {nx : Nat} {io : Nat → Bool} (h : Inv s nx io) {n : Nat} (hn : n < 300) (ha : s.at_ n = none) (h0 : 0 ≤ farZ s.next n) :
    nx ≤ n ∧ io n = false ∧ Inv ⟨s.size, s.next, s.held ++ [((n : Int), hopM n)]⟩ nx (fun i => if i = n then true else io i) := by
  rw [h.next, far_small nx n h.le (by omega)] at h0
  have hle : nx ≤ n := by omega
  refine ⟨hle, ?_, h.next, h.le, h.s1, h.s2, ?_, ?_⟩
  · cases hb : io n with
    | false => rfl
    | true =>
      rcases (h.came n hn).1 hb with h' | h'
      · omega
      · exact absurd ha h'
  · intro x hx
    rcases List.mem_append.1 hx with hx | hx
    · exact h.held x hx
    · simp at hx
      exact ⟨n, hle, hn, hx⟩
  · intro i hi
    rw [at_snoc _ _ _ ha]
    by_cases e : i = n
    · subst e; simp
    · rw [if_neg e, if_neg (by omega)]
      exact h.came i hi
theorem Inv.head {s : IB} {nx : Nat} {io : Nat → Bool} (h : Inv s nx io) {m : Msg} (hm : s.at_ s.next = some m) : m = hopM nx ∧ nx < 300 ∧ io nx = true ∧ Inv s.pop (nx + 1) io := by
  obtain ⟨j, h1, h2, h3⟩ := h.held _ (at_mem hm)
  simp only [Prod.mk.injEq] at h3
  rw [h.next] at h3
  have hj : j = nx := by omega
  subst hj
  have hx : s.at_ j ≠ none := by rw [← h.next, hm]; simp
  refine ⟨h3.2, h2, (h.came j h2).2 (.inr hx), ?_, by omega, h.s1, h.s2, ?_, ?_⟩
  · show moveN s.next 1 = _
    rw [h.next]; unfold moveN; omega
  · intro x hx'
    have hx2 := List.mem_filter.1 hx'
    obtain ⟨i, i1, i2, rfl⟩ := h.held x hx2.1
    have : (i : Int) ≠ s.next := by simpa using hx2.2
    rw [h.next] at this
    exact ⟨i, by omega, i2, rfl⟩
  · intro i hi
    rw [at_pop, h.came i hi, h.next]
    by_cases e : i = j
    · subst e; simp; exact hx
    · rw [if_neg (by omega)]
      constructor
      · rintro (h' | h')
        · exact .inl (by omega)
        · exact .inr h'
      · rintro (h' | h')
        · exact .inl (by omega)
        · exact .inr h'
theorem Inv.last {s : IB} {nx : Nat} {io : Nat → Bool} (h : Inv s nx io) (hm : s.at_ s.next = none) (hlt : nx < 300) : io nx = false := by
  cases hb : io nx with
  | false => rfl
  | true =>
    rcases (h.came nx hlt).1 hb with h' | h'
    · omega
    · rw [← h.next] at h'; exact absurd hm h'
end Go.Proofs.Ytkfpooljbpijhaa.inboxOrder
