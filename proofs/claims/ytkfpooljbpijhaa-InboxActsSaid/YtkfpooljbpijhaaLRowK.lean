/- Rows of elements of k cells each, as lists of cells. Plain lemmas; and single writes. -/
import Derived.Test.YtkfpooljbpijhaaLOwnS
set_option linter.unusedVariables false
set_option linter.unusedSimpArgs false
namespace Go.Proofs.Ytkfpooljbpijhaa
open Go Go.RowKit

def rowK (k : Nat) (c : Nat → List Value) (n : Nat) : List Value := (List.range (n * k)).map fun j => ((c (j / k))[j % k]?).getD undef
section
variable {k : Nat} {c : Nat → List Value} {n : Nat}
theorem rowK_len : (rowK k c n).length = n * k := by simp [rowK]
theorem divmod {i t : Nat} (ht : t < k) : (i * k + t) / k = i ∧ (i * k + t) % k = t := by
  have hk : 0 < k := by omega
  constructor
  · rw [Nat.mul_comm, Nat.mul_add_div hk, Nat.div_eq_of_lt ht, Nat.add_zero]
  · rw [Nat.mul_comm, Nat.mul_add_mod, Nat.mod_eq_of_lt ht]
theorem lt_mul {i t : Nat} (hi : i < n) (ht : t < k) : i * k + t < n * k := by
  have : (i + 1) * k ≤ n * k := Nat.mul_le_mul_right _ hi
  rw [Nat.add_mul, Nat.one_mul] at this
  omega
theorem rowK_at (hc : ∀ i, (c i).length = k) {i t : Nat} (hi : i < n) (ht : t < k) : (rowK k c n)[i * k + t]? = (c i)[t]? := by
  unfold rowK
  rw [List.getElem?_map, List.getElem?_range (lt_mul hi ht)]
  obtain ⟨h1, h2⟩ := divmod (i := i) ht
  simp only [Option.map_some, h1, h2]
  rw [List.getElem?_eq_getElem (by rw [hc]; exact ht)]
  rfl
theorem rowK_ext (hc : ∀ i, (c i).length = k) {l : List Value} (hl : l.length = n * k) (h : ∀ i t, i < n → t < k → l[i * k + t]? = (c i)[t]?) : l = rowK k c n := by
  apply List.ext_getElem?
  intro j
  by_cases hj : j < n * k
  · have hk : 0 < k := by
      rcases Nat.eq_zero_or_pos k with h0 | h0
      · subst h0; simp at hj
      · exact h0
    have hd : j / k < n := Nat.div_lt_of_lt_mul (by rw [Nat.mul_comm]; exact hj)
    have hm : j % k < k := Nat.mod_lt _ hk
    have e : j / k * k + j % k = j := by rw [Nat.mul_comm]; exact Nat.div_add_mod j k
    have h1 := h (j / k) (j % k) hd hm
    have h2 := rowK_at hc (n := n) hd hm
    rw [e] at h1 h2
    rw [h1, h2]
  · rw [List.getElem?_eq_none (by omega), List.getElem?_eq_none (by rw [rowK_len]; omega)]
theorem rowK_congr {d : Nat → List Value} (h : ∀ i, i < n → c i = d i) : rowK k c n = rowK k d n := by
  unfold rowK
  refine List.map_congr_left fun j hj => ?_
  have hj' := List.mem_range.1 hj
  rw [h (j / k) (Nat.div_lt_of_lt_mul (by rw [Nat.mul_comm]; exact hj'))]
theorem rowK_succ (hc : ∀ i, (c i).length = k) : rowK k c (n + 1) = rowK k c n ++ c n := by
  symm
  refine rowK_ext hc (by rw [List.length_append, rowK_len, hc, Nat.add_mul, Nat.one_mul]) fun i t hi ht => ?_
  by_cases h : i < n
  · rw [List.getElem?_append_left (by rw [rowK_len]; exact lt_mul h ht), rowK_at hc h ht]
  · obtain rfl : i = n := by omega
    rw [List.getElem?_append_right (by rw [rowK_len]; omega), rowK_len, Nat.add_sub_cancel_left]
theorem rowK_drop (hc : ∀ i, (c i).length = k) {m : Nat} (hm : m ≤ n) : (rowK k c n).drop (m * k) = rowK k (fun i => c (m + i)) (n - m) := by
  refine rowK_ext (fun i => hc _) (by rw [List.length_drop, rowK_len, Nat.sub_mul]) fun i t hi ht => ?_
  rw [List.getElem?_drop, show m * k + (i * k + t) = (m + i) * k + t by rw [Nat.add_mul]; omega]
  exact rowK_at hc (by omega) ht
theorem rowK_take (hc : ∀ i, (c i).length = k) {m : Nat} (hm : m ≤ n) : (rowK k c n).take (m * k) = rowK k c m := by
  refine rowK_ext hc (by rw [List.length_take, rowK_len]; exact Nat.min_eq_left (Nat.mul_le_mul_right _ hm)) fun i t hi ht => ?_
  rw [List.getElem?_take, if_pos (lt_mul hi ht)]
  exact rowK_at hc (by omega) ht
/-- Cells written one behind the other. -/
def setL : List Value → Nat → List Value → List Value
  | l, _, [] => l
  | l, o, v :: vs => setL (l.set o v) (o + 1) vs
theorem setL_len : ∀ (vs l : List Value) (o : Nat), (setL l o vs).length = l.length
  | [], _, _ => rfl
  | v :: vs, l, o => by rw [setL, setL_len vs]; simp
theorem setL_at : ∀ (vs l : List Value) (o j : Nat), o + vs.length ≤ l.length → (setL l o vs)[j]? = if o ≤ j ∧ j < o + vs.length then vs[j - o]? else l[j]?
  | [], l, o, j, _ => by rw [setL, if_neg (by simp)]
  | v :: vs, l, o, j, h => by
    simp only [List.length_cons] at h
    rw [setL, setL_at vs (l.set o v) (o + 1) j (by simp; omega)]
    simp only [List.length_cons]
    by_cases h1 : o + 1 ≤ j ∧ j < o + 1 + vs.length
    · rw [if_pos h1, if_pos (by omega), show j - o = (j - (o + 1)) + 1 by omega, List.getElem?_cons_succ]
    · rw [if_neg h1]
      by_cases h2 : j = o
      · subst h2
        rw [if_pos (by omega), Nat.sub_self, List.getElem?_set_self (by omega)]
        rfl
      · rw [if_neg (by omega), List.getElem?_set_ne (by omega)]
def updC (c : Nat → List Value) (i : Nat) (v : List Value) : Nat → List Value := fun j => if j = i then v else c j
theorem updC_len (hc : ∀ i, (c i).length = k) {i : Nat} {v : List Value} (hv : v.length = k) : ∀ j, (updC c i v j).length = k := by
  intro j
  unfold updC
  split
  · exact hv
  · exact hc j
theorem rowK_set (hc : ∀ i, (c i).length = k) {i : Nat} (hi : i < n) {v : List Value} (hv : v.length = k) : setL (rowK k c n) (i * k) v = rowK k (updC c i v) n := by
  refine rowK_ext (updC_len hc hv) (by rw [setL_len, rowK_len]) fun j t hj ht => ?_
  have hle : i * k + k ≤ n * k := by
    have : (i + 1) * k ≤ n * k := Nat.mul_le_mul_right _ hi
    rwa [Nat.add_mul, Nat.one_mul] at this
  rw [setL_at _ _ _ _ (by rw [rowK_len, hv]; exact hle), hv, rowK_at hc hj ht]
  unfold updC
  by_cases e : j = i
  · subst e
    rw [if_pos (by omega), if_pos rfl, Nat.add_sub_cancel_left]
  · rw [if_neg e, if_neg]
    rintro ⟨h1, h2⟩
    rcases Nat.lt_or_ge j i with h | h
    · have : (j + 1) * k ≤ i * k := Nat.mul_le_mul_right _ h
      rw [Nat.add_mul, Nat.one_mul] at this
      omega
    · have : (i + 1) * k ≤ j * k := Nat.mul_le_mul_right _ (by omega)
      rw [Nat.add_mul, Nat.one_mul] at this
      omega
theorem rowK_one (h1 : ∀ i, ∀ v ∈ c i, v.oneCell' = true) (hc : ∀ i, (c i).length = k) : ∀ v ∈ rowK k c n, v.oneCell' = true := by
  intro v hv
  obtain ⟨j, hj⟩ := List.mem_iff_getElem?.1 hv
  have hl := (List.getElem?_eq_some_iff.1 hj).1
  rw [rowK_len] at hl
  have hk : 0 < k := by
    rcases Nat.eq_zero_or_pos k with h0 | h0
    · subst h0; simp at hl
    · exact h0
  have hd : j / k < n := Nat.div_lt_of_lt_mul (by rw [Nat.mul_comm]; exact hl)
  have hm : j % k < k := Nat.mod_lt _ hk
  have e : j / k * k + j % k = j := by rw [Nat.mul_comm]; exact Nat.div_add_mod j k
  have h2 := rowK_at hc (n := n) hd hm
  rw [e, hj] at h2
  exact h1 _ v (List.mem_of_getElem? h2.symm)
end
/-- So many zero values. -/
theorem zeros_rowK (z : Value) (n : Nat) : (Builtin.zeroCells z.cells n).toList = rowK z.cells.size (fun _ => z.cells.toList) n := by
  apply List.ext_getElem?
  intro j
  by_cases hj : j < n * z.cells.size
  · have hk : 0 < z.cells.size := by
      rcases Nat.eq_zero_or_pos z.cells.size with h0 | h0
      · rw [h0] at hj; simp at hj
      · exact h0
    have hm : j % z.cells.size < z.cells.size := Nat.mod_lt _ hk
    unfold rowK Builtin.zeroCells
    rw [Array.getElem?_toList, Array.getElem?_map, Array.getElem?_range, if_pos hj, List.getElem?_map, List.getElem?_range hj]
    simp only [Option.map_some]
    rw [getElem!_pos z.cells _ hm, Array.getElem?_toList, Array.getElem?_eq_getElem hm]
    rfl
  · rw [List.getElem?_eq_none (by simp [Builtin.zeroCells]; omega), List.getElem?_eq_none (by rw [rowK_len]; omega)]
theorem made_rowK (z : Value) (n : Nat) : madeCells z.cells (n * z.cells.size) = (rowK z.cells.size (fun _ => z.cells.toList) n).toArray := by
  rw [← zeros_rowK]
  rfl
end Go.Proofs.Ytkfpooljbpijhaa
