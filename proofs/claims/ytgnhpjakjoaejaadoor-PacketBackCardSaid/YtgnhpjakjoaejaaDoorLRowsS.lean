/- Structs and slices of structs among a law's arguments, with what their sizes are at most. -/
import Derived.Test.YtgnhpjakjoaejaaDoorLRows
import Derived.SizedLaws
set_option linter.unusedVariables false
set_option linter.unusedSimpArgs false
namespace Go.Proofs.YtgnhpjakjoaejaaDoor
open Go.RowKit Go.ChangeShapes Go.WideShapes Go.Deep

/-- No part is larger than any machine's memory. -/
def Small {H : Type} (P : Program) (t : TypeId) (d : DataW H) : Prop := ∀ n ∈ d.weights P t, n ≤ reachBytes
section
variable {H : Type} {P : Program}
theorem weightsAll_mem {e : TypeId} : ∀ {ds : List (DataW H)} {d : DataW H} {n : Nat}, d ∈ ds → n ∈ d.weights P e → n ∈ DataW.weightsAll P e ds
  | d0 :: ds, d, n, hd, hn => by
    simp only [DataW.weightsAll, List.mem_append]
    rcases List.mem_cons.1 hd with rfl | h
    · exact .inl hn
    · exact .inr (weightsAll_mem h hn)
theorem Small.of {ts : List TypeId} {ds : List (DataW H)} (h : (DataW.weightsEach P ts ds).all (· ≤ reachBytes) = true) {j : Nat} {t : TypeId} {d : DataW H} (ht : ts[j]? = some t) (hd : ds[j]? = some d) : Small P t d :=
  fun n hn => by simpa using List.all_eq_true.1 h n (DataW.weights_mem_each ht hd n hn)
theorem Small.slice {t e : TypeId} {elems spare : List (DataW H)} (h : Small P t (.slice elems spare)) (hu : P.underlying t = some (.slice e)) :
    (elems.length + spare.length) * P.bytesOf e ≤ reachBytes ∧ ∀ d ∈ elems, Small P e d := by
  refine ⟨h _ (by simp [DataW.weights, hu]), fun d hd n hn => h n ?_⟩
  simp only [DataW.weights, hu, List.mem_cons, List.mem_append]
  exact .inr (.inl (weightsAll_mem hd hn))
theorem Small.struct {t : TypeId} {fs : Array Field} {parts : List (DataW H)} (h : Small P t (.agg parts)) (hu : P.underlying t = some (.struct fs)) {i : Nat} {f : Field} {d : DataW H} (hf : fs[i]? = some f) (hd : parts[i]? = some d) : Small P f.type d := by
  intro n hn
  refine h n ?_
  simp only [DataW.weights, hu]
  refine DataW.weights_mem_each (j := i) ?_ hd n hn
  rw [List.getElem?_map, Array.getElem?_toList, hf]
  rfl
theorem Small.string {t : TypeId} {bytes : List UInt8} (h : Small P t (.lit (.string bytes) : DataW H)) : bytes.length ≤ reachBytes := h _ (by simp [DataW.weights])
end
section
variable {H : Type} {enc : TypeId × Value → H} {P : Program} {w : World} {base : Nat} {spare : Nat → Bool} {held : Bool}
theorem trod_structs_s {α : Type} {fuel : Nat} {cs : List Value} {x : DataW H × List MemPlace} {t e : TypeId} {sz : Nat} (cells : α → List Value) (ok : α → Prop) (ht : P.underlying t = some (.slice e)) (ce : P.cellsOf e = sz)
    (elem : ∀ (fuel : Nat) (cs : List Value) (x : DataW H × List MemPlace), DataW.trod enc P w base spare held fuel e cs = some x → Small P e x.1 → ∃ y, cs = cells y ∧ ok y)
    (hf : DataW.trod enc P w base spare held fuel t cs = some x) (hs : Small P t x.1) :
    ∃ (A : Option Addr) (c : Nat) (ys : List α), cs = [.slice A ys.length c] ∧ ys.length ≤ c ∧ c ≤ maxLen ∧ ys.length * P.bytesOf e ≤ reachBytes ∧ RowsAt w A sz cells ys ∧ (∀ y ∈ ys, ok y) ∧ (A = none → c = 0) := by
  rcases open_slice ht hf with ⟨rfl, _⟩ | ⟨a', len, cap, m, n, D, Pl, rfl, _, hl, hm, hmm, rfl, hel⟩
  · exact ⟨none, 0, [], rfl, Nat.le_refl _, by decide, by simp, .inl ⟨rfl, rfl⟩, fun y hy => (by cases hy), fun _ => rfl⟩
  · have hlm : len ≤ m := by rw [hmm]; split <;> omega
    obtain ⟨s1, s2⟩ := hs.slice ht
    simp only [List.length_map, List.length_range] at s1
    obtain ⟨ys, hyl, hy⟩ := list_of (fun i y => ok y ∧ ∀ j u, (cells y)[j]? = some u → w.cell? (a'.add (i * sz + j)) = some u) len fun i hi => by
      obtain ⟨cs', h1, h2⟩ := hel i (by omega)
      obtain ⟨y, hyc, hok⟩ := elem _ _ _ h2 (s2 _ (List.mem_map.2 ⟨i, by simpa using hi, rfl⟩))
      refine ⟨y, hok, fun j u hu => ?_⟩
      obtain ⟨_, hlen, hcell⟩ := World.cells?_some h1
      rw [← hyc] at hu
      have hj : j < P.cellsOf e := by rw [← hlen]; exact (List.getElem?_eq_some_iff.1 hu).1
      have e0 := hcell j (by omega)
      rw [Go.Deep.add_add, ce] at e0
      exact e0.trans hu
    refine ⟨some a', cap, ys, by rw [hyl], by omega, hm, ?_, .inr ⟨a', rfl, fun i y hi => (hy i y hi).2⟩, fun y hm' => ?_, fun h => by cases h⟩
    · rw [hyl]; exact Nat.le_trans (Nat.mul_le_mul_right _ (Nat.le_add_right _ _)) s1
    · obtain ⟨i, hi⟩ := List.mem_iff_getElem?.1 hm'
      exact (hy i y hi).1
theorem open_structs_s {α : Type} {r : Reach} {b0 : Nat} {t e : TypeId} {sz : Nat} (cells : α → List Value) (ok : α → Prop) (ht : P.underlying t = some (.slice e)) (ce : P.cellsOf e = sz)
    (elem : ∀ (fuel : Nat) (cs : List Value) (x : DataW H × List MemPlace), DataW.trod enc P w base spare held fuel e cs = some x → Small P e x.1 → ∃ y, cs = cells y ∧ ok y)
    {v : Value} {d : DataW H} {p : List MemPlace} (hv : Value.okWide P w r b0 t v) (h : DataW.Trod enc P w base spare held t v d p) (hs : Small P t d) :
    ∃ (A : Option Addr) (c : Nat) (ys : List α), v = .slice A ys.length c ∧ ys.length ≤ c ∧ c ≤ maxLen ∧ ys.length * P.bytesOf e ≤ reachBytes ∧ RowsAt w A sz cells ys ∧ (∀ y ∈ ys, ok y) ∧ (A = none → c = 0) := by
  obtain ⟨a, len, cap, rfl⟩ := okWide_slice ht hv
  obtain ⟨fuel, hf⟩ := h
  obtain ⟨A, c, ys, hcs, r⟩ := trod_structs_s cells ok ht ce elem hf hs
  simp [Value.cells] at hcs
  obtain ⟨rfl, rfl, rfl⟩ := hcs
  exact ⟨_, _, ys, rfl, r⟩
end
end Go.Proofs.YtgnhpjakjoaejaaDoor
