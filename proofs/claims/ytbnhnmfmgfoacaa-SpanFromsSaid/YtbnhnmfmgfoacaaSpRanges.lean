/- A slice of ranges among a law's arguments. -/
import Derived.Test.YtbnhnmfmgfoacaaSpGen
import Derived.Test.YtbnhnmfmgfoacaaSpArgs
set_option linter.unusedVariables false
set_option linter.unusedSimpArgs false
namespace Go.Proofs.Ytbnhnmfmgfoacaa
open Go.RowKit Go.ChangeShapes Go.WideShapes Go.Deep Go.Proofs.YtbnhnmfmgfoacaaW.PrintWords

def okR (r : Rng) : Prop := r.1 < M64 ∧ r.2 < M64
section
variable {H : Type} {enc : TypeId × Value → H} {w : World} {base : Nat} {spare : Nat → Bool} {held : Bool}
theorem some_at {α : Type} {xs : List α} {n : Nat} (h : xs.length = n) (i : Nat) (hi : i < n) : ∃ y, xs[i]? = some y := ⟨xs[i]'(by omega), List.getElem?_eq_getElem (by omega)⟩
theorem cellsRange : Try.prog.cellsOf 36 = 2 := by kernel_rfl
theorem cellsU64' : Try.prog.cellsOf 23 = 1 := by kernel_rfl
theorem trod_range (fuel : Nat) (cs : List Value) (x : DataW H × List MemPlace) (h : DataW.trod enc Try.prog w base spare held fuel 36 cs = some x) : ∃ y : Rng, cs = rngV y ∧ okR y := by
  obtain ⟨xs, n, rfl, _, hlen, hxl, hg⟩ := DataW.trod_struct Try.underlying36 h
  rw [cellsRange] at hlen
  match cs, hlen with
  | [c0, c1], _ =>
    obtain ⟨y0, e0⟩ := some_at hxl 0 (by decide)
    obtain ⟨y1, e1⟩ := some_at hxl 1 (by decide)
    have h0 : DataW.trod enc Try.prog w base spare held n 23 (([c0, c1].drop 0).take (Try.prog.cellsOf 23)) = some y0 := (hg 0 _ rfl).trans e0
    have h1 : DataW.trod enc Try.prog w base spare held n 23 (([c0, c1].drop 1).take (Try.prog.cellsOf 23)) = some y1 := (hg 1 _ rfl).trans e1
    rw [cellsU64'] at h0 h1
    obtain ⟨a, ha, _, wa⟩ := DataW.trod_int Try.underlying23 h0
    obtain ⟨b, hb, _, wb⟩ := DataW.trod_int Try.underlying23 h1
    simp at ha hb
    subst ha hb
    obtain ⟨a', rfl, ha'⟩ := nat_u64 wa
    obtain ⟨b', rfl, hb'⟩ := nat_u64 wb
    exact ⟨(a', b'), rfl, ha', hb'⟩
theorem rowG_of {A : Option Addr} {c : Nat} {R : List Rng} (h : RowsAt w A 2 rngV R) (hc : A = none → c = 0) (hl : R.length ≤ c) : RowG w A c R := by
  rcases h with ⟨h1, h2⟩ | ⟨a, rfl, hx⟩
  · exact .inl ⟨h1, h2, hc h1⟩
  · refine .inr ⟨a, rfl, hl, fun j u hu => ?_⟩
    have hj : j < R.length * 2 := by rw [← cellsR_len]; exact (List.getElem?_eq_some_iff.1 hu).1
    have hi : j / 2 < R.length := by omega
    obtain ⟨l1, l2⟩ := cellsR_lo R (j / 2) R[j / 2] (List.getElem?_eq_getElem hi)
    have hy := hx (j / 2) R[j / 2] (List.getElem?_eq_getElem hi)
    rcases Nat.mod_two_eq_zero_or_one j with h | h
    · have e : j = j / 2 * 2 := by omega
      have := hy 0 _ rfl
      rw [← e] at l1
      rw [hu] at l1
      rw [Nat.add_zero, ← e] at this
      rw [this]; exact l1.symm
    · have e : j = j / 2 * 2 + 1 := by omega
      have := hy 1 _ rfl
      rw [← e] at l2
      rw [hu] at l2
      rw [← e] at this
      rw [this]; exact l2.symm
theorem open_ranges {r : Reach} {b0 : Nat} {v : Value} {d : DataW H} {p : List MemPlace} (hv : Value.okWide Try.prog w r b0 27 v) (h : DataW.Trod enc Try.prog w base spare held 27 v d p) :
    ∃ (A : Option Addr) (c : Nat) (ys : List Rng), v = .slice A ys.length c ∧ RowG w A c ys ∧ (∀ y ∈ ys, okR y) := by
  obtain ⟨a, len, cap, rfl⟩ := okWide_slice Try.underlying27 hv
  obtain ⟨fuel, hf⟩ := h
  rcases open_slice Try.underlying27 hf with ⟨hcs, _⟩ | ⟨a', len', cap', m, n, D, Pl, hcs, _, hl, hm, hmm, _, hel⟩
  · simp [Value.cells] at hcs
    obtain ⟨rfl, rfl, rfl⟩ := hcs
    exact ⟨none, 0, [], rfl, .inl ⟨rfl, rfl, rfl⟩, fun y hy => by cases hy⟩
  · simp [Value.cells] at hcs
    obtain ⟨rfl, rfl, rfl⟩ := hcs
    have hlm : len ≤ m := by rw [hmm]; split <;> omega
    obtain ⟨ys, hyl, hy⟩ := list_of (fun i y => okR y ∧ ∀ j u, (rngV y)[j]? = some u → w.cell? (a'.add (i * 2 + j)) = some u) len fun i hi => by
      obtain ⟨cs', h1, h2⟩ := hel i (by omega)
      obtain ⟨y, hyc, hok⟩ := trod_range _ _ _ h2
      refine ⟨y, hok, fun j u hu => ?_⟩
      obtain ⟨_, hlen, hcell⟩ := World.cells?_some h1
      rw [← hyc] at hu
      have hj : j < Try.prog.cellsOf 36 := by rw [← hlen]; exact (List.getElem?_eq_some_iff.1 hu).1
      have e0 := hcell j (by omega)
      rw [Go.Deep.add_add, cellsRange] at e0
      exact e0.trans hu
    refine ⟨some a', cap, ys, by rw [hyl], rowG_of (.inr ⟨a', rfl, fun i y hi => (hy i y hi).2⟩) (fun h => by cases h) (by omega), fun y hm' => ?_⟩
    obtain ⟨i, hi⟩ := List.mem_iff_getElem?.1 hm'
    exact (hy i y hi).1
end
end Go.Proofs.Ytbnhnmfmgfoacaa
