/- SeenPuts: plain facts. -/
import Derived.Test.YthgejgfdpmbpaaaSnPutW
import Derived.Test.YthgejgfdpmbpaaaSnAlike
import Derived.Test.YthgejgfdpmbpaaaSnCopy2
set_option linter.unusedVariables false
set_option linter.unusedSimpArgs false
namespace Go.Proofs.Ythgejgfdpmbpaaa.seenPuts
open Go.RowKit Go.Shelf Go.Proofs.Ythgejgfdpmbpaaa

def tot (l : List Pg) : Nat := (l.map fun p => 1 + p.R.length).sum
theorem tot_succ {l : List Pg} {k : Nat} (h : k < l.length) : tot (l.take (k + 1)) = tot (l.take k) + (1 + l[k].R.length) := by
  unfold tot
  rw [List.take_add_one, List.getElem?_eq_getElem h, List.map_append, List.sum_append]
  simp
theorem tot_le {l : List Pg} {k : Nat} (h : k < l.length) : l[k].R.length ≤ tot l := by
  have h1 := tot_succ h
  have h2 : tot l = tot (l.take (k + 1)) + tot (l.drop (k + 1)) := by
    unfold tot
    rw [← List.sum_append, ← List.map_append, List.take_append_drop]
  omega
theorem tot_ge (l : List Pg) : l.length ≤ tot l := by
  induction l with
  | nil => simp
  | cons x l ih => simp [tot] at ih ⊢; omega
theorem Blk.ne_ {w : World} {g g' : Nat} {t t' : TypeId} {cs cs' : Array Value} (h : Blk w g t cs) (h' : Blk w g' t' cs') (hne : t ≠ t') : g ≠ g' := by
  rintro rfl
  unfold Blk at h h'
  rw [h] at h'
  injection h' with h'
  injection h' with _ ht
  exact hne ht
theorem book_far {w W W' : World} {bp rb : Nat} {f : Nat → Nat} {R R' : Nat → List Rng} (h : BookSt w W bp f R) (k : RefSt w W rb R') (hc : Chg [rb] W W') : BookSt w W' bp f R := by
  obtain ⟨A, c, hq, _⟩ := k.blk
  have hch : Chg [] w W' := h.chg.then_ hc (fun b hb => by simp at hb; subst hb; exact .inr k.own)
  refine ⟨h.blk.chg hc (by simpa using Blk.ne_ h.blk hq (by decide)), fun o ho => ⟨?_, hch, (h.sets o ho).own⟩, h.inj, h.ne, h.own, hch⟩
  obtain ⟨B, cap, h1, h2, h3⟩ := (h.sets o ho).set_
  exact ⟨B, cap, h1.chg hc (by simpa using Blk.ne_ h1 hq (by decide)), h2.far hq (by decide) hc, h3⟩
theorem ref_far {w W W' : World} {bp rb : Nat} {f : Nat → Nat} {R R' : Nat → List Rng} (h : RefSt w W rb R) (k : BookSt w W bp f R') (hc : Chg [bp] W W') : RefSt w W' rb R := by
  obtain ⟨A, c, hq, hr⟩ := h.blk
  exact ⟨⟨A, c, hq.chg hc (by simpa using Blk.ne_ hq k.blk (by decide)), fun o ho => (hr o ho).far k.blk (by decide) hc⟩, h.own, h.chg.then_ hc (fun b hb => by simp at hb; subst hb; exact .inr k.own)⟩
theorem weaken {w w1 W : World} {bp : Nat} {f : Nat → Nat} {R : Nat → List Rng} (h : BookSt w1 W bp f R) (hc : Chg [] w w1) : BookSt w W bp f R :=
  ⟨h.blk, fun o ho => ⟨(h.sets o ho).set_, hc.trans (h.sets o ho).chg, Nat.le_trans hc.size (h.sets o ho).own⟩, h.inj, h.ne, Nat.le_trans hc.size h.own, hc.trans h.chg⟩
theorem copy_tidy {R : Nat → List Rng} {l : Nat} (hs : Sound R l) (ht : Tidy R) : copyTo R (orgs R) = R := by
  funext o
  unfold copyTo
  split
  · rfl
  · rename_i h
    by_cases ho : 1 ≤ o ∧ o ≤ 8
    · have : ¬ 0 < topR (R o) := fun hh => h (by unfold orgs orgsTo; simp; omega)
      rw [top_pos (hs o).1 (by omega)] at this
      exact (List.eq_nil_of_length_eq_zero (by omega)).symm
    · exact (ht o ho).symm
/-- All that is in the one is in the other. -/
def Sub (R R' : Nat → List Rng) : Prop := ∀ o n, memR (getR R o) n = true → memR (getR R' o) n = true
theorem Sub.refl (R : Nat → List Rng) : Sub R R := fun _ _ h => h
theorem Sub.add {R R' : Nat → List Rng} {l n : Nat} (h : Sub R R') (hs : Sound R' l) (hn : n < M64) (o : Int) : Sub R (addB R' o n) := fun o' m hm => mem_mono (hs.get o).1 hn (h o' m hm)
theorem three {R R' : Nat → List Rng} (h : Sub R R') (o : Int) (n : Nat) :
    (memR (getR R' o) n = true ∧ memR (getR R o) n = true) ∨ (memR (getR R' o) n = true ∧ memR (getR R o) n = false) ∨ (memR (getR R' o) n = false ∧ memR (getR R o) n = false) := by
  cases h1 : memR (getR R' o) n <;> cases h2 : memR (getR R o) n
  · exact .inr (.inr ⟨rfl, rfl⟩)
  · rw [h o n h2] at h1; cases h1
  · exact .inr (.inl ⟨rfl, rfl⟩)
  · exact .inl ⟨rfl, rfl⟩
theorem zip3 (o : Int) (n : Nat) : (n = 0) ∨ (0 < n ∧ decide (1 ≤ o ∧ o ≤ 8) = true) ∨ (0 < n ∧ decide (1 ≤ o ∧ o ≤ 8) = false) := by
  rcases Nat.eq_zero_or_pos n with h | h
  · exact .inl h
  · cases hh : decide (1 ≤ o ∧ o ≤ 8)
    · exact .inr (.inr ⟨h, rfl⟩)
    · exact .inr (.inl ⟨h, rfl⟩)
theorem rowG_len {w : World} {A : Option Addr} {c : Nat} {R : List Rng} (h : RowG w A c R) : R.length ≤ c := by
  rcases h with ⟨_, rfl, _⟩ | ⟨_, _, hl, _⟩
  · simp
  · exact hl
end Go.Proofs.Ythgejgfdpmbpaaa.seenPuts
