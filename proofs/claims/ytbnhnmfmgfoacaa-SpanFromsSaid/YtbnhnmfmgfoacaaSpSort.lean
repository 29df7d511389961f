/- Package span: slices.SortFunc over a row of ranges, as Join calls it. -/
import Derived.Test.YtbnhnmfmgfoacaaSpJoinNil
set_option linter.unusedVariables false
set_option linter.unusedSimpArgs false
namespace Go.Proofs.Ytbnhnmfmgfoacaa
open Go.RowKit Go.Shelf Go.Sort

/-- Join's order: by the lower end. -/
def cfR (x y : Rng) : Int := if x.1 < y.1 then -1 else if y.1 < x.1 then 1 else 0
theorem ltR (x y : Rng) : ltOf cfR x y = decide (x.1 < y.1) := by
  unfold ltOf cfR
  by_cases h1 : x.1 < y.1
  · simp [h1]
  · by_cases h2 : y.1 < x.1 <;> simp [h1, h2]
theorem swoR : SWO (ltOf cfR) where
  irrefl x := by rw [ltR]; simp
  trans x y z h1 h2 := by rw [ltR] at *; simp at *; omega
  ntrans x y z h1 h2 := by rw [ltR] at *; simp at *; omega
theorem cmp_any (x y : Rng) (W : World) : Calls Try.prog 36 #[.agg #[.int .u64 (x.1 : Nat), .int .u64 (x.2 : Nat)], .agg #[.int .u64 (y.1 : Nat), .int .u64 (y.2 : Nat)]] W fun e w' => e = .returned (.int .i64 (cfR x y)) ∧ ∃ q os', w' = grow (W.drewN q) os' := by
  unfold cfR
  by_cases h1 : x.1 < y.1
  · rw [if_pos h1]
    have t1 : decide (x.1 < y.1) = true := decide_eq_true h1
    clear h1
    go_enter Try.func36, Try.ntmps36
    go_wp2
    go_ret
    exact ⟨rfl, 0, _, by rw [alloc_eq_grow, alloc_eq_grow, grow_grow]; rfl⟩
  · rw [if_neg h1]
    have t1 : decide (x.1 < y.1) = false := decide_eq_false h1
    clear h1
    by_cases h2 : y.1 < x.1
    · rw [if_pos h2]
      have t2 : decide (y.1 < x.1) = true := decide_eq_true h2
      clear h2
      go_enter Try.func36, Try.ntmps36
      go_wp2
      go_ret
      exact ⟨rfl, 0, _, by rw [alloc_eq_grow, alloc_eq_grow, grow_grow]; rfl⟩
    · rw [if_neg h2]
      have t2 : decide (y.1 < x.1) = false := decide_eq_false h2
      clear h2
      go_enter Try.func36, Try.ntmps36
      go_wp2
      go_ret
      exact ⟨rfl, 0, _, by rw [alloc_eq_grow, alloc_eq_grow, grow_grow]; rfl⟩
theorem flat_eq (d : Array Rng) : flatK rngV 2 d = (cellsR d.toList).toArray := by
  refine ext_get! (by simp [cellsR_len]) fun t ht => ?_
  have ht' : t < d.size * 2 := by simpa using ht
  rw [get_flatK _ _ _ _ ht']
  have hi : t / 2 < d.size := by omega
  have hx : d.toList[t / 2]? = some d[t / 2]! := by
    rw [getElem!_pos d _ hi, ← Array.getElem?_toList.symm, Array.getElem?_eq_getElem hi]
  obtain ⟨h1, h2⟩ := cellsR_lo d.toList (t / 2) _ hx
  generalize d[t / 2]! = r at h1 h2 ⊢
  have hl : t < (cellsR d.toList).toArray.size := by simpa [cellsR_len] using ht'
  rw [getElem!_pos (cellsR d.toList).toArray t hl]
  rcases Nat.mod_two_eq_zero_or_one t with h | h
  · have e : t / 2 * 2 = t := by omega
    rw [e] at h1
    rw [h]
    obtain ⟨_, h3⟩ := List.getElem?_eq_some_iff.1 h1
    simp only [List.getElem_toArray]
    rw [h3]
    rfl
  · have e : t / 2 * 2 + 1 = t := by omega
    rw [e] at h2
    rw [h]
    obtain ⟨_, h3⟩ := List.getElem?_eq_some_iff.1 h2
    simp only [List.getElem_toArray]
    rw [h3]
    rfl
theorem holds_row {w : World} {blk cap : Nat} {R : List Rng} (h : RowAt w (some ⟨blk, 0, none⟩) cap R) : HoldsK rngV 2 w blk 0 R.toArray := by
  rcases h with ⟨h, _⟩ | ⟨b, hb, hlt, hl, hx, cs, hty⟩
  · cases h
  · cases hb
    intro j hj
    rw [flat_eq] at hj ⊢
    have hj' : j < (cellsR R).length := by simpa using hj
    rw [Nat.zero_add]
    refine ⟨?_, by simp [World.frozen?, hty]⟩
    rw [hx j (cellsR R)[j] (List.getElem?_eq_getElem hj'), getElem!_pos (cellsR R).toArray j (by simpa using hj')]
    rfl
theorem row_holds {w : World} {blk cap : Nat} {d : Array Rng} (h : HoldsK rngV 2 w blk 0 d) (hl : d.size ≤ cap) (hb : blk < w.heap.size) (hty : ∃ cs, w.heap[blk]? = some (.cells cs 36 (0, 0))) : RowAt w (some ⟨blk, 0, none⟩) cap d.toList := by
  refine .inr ⟨blk, rfl, hb, by simpa using hl, fun j u hu => ?_, hty⟩
  obtain ⟨hj, hu⟩ := List.getElem?_eq_some_iff.1 hu
  have hj2 : j < (flatK rngV 2 d).size := by rw [flat_eq]; simpa using hj
  have := (h j hj2).1
  rw [Nat.zero_add] at this
  rw [this, getElem!_pos (flatK rngV 2 d) j hj2]
  congr 1
  rw [← hu]
  simp only [flat_eq, List.getElem_toArray]
  rfl
theorem chg_sorted {w : World} {blk n : Nat} {os : Array Obj} (d : Array Rng) : Chg [blk] w (grow (putRowK rngV 2 (Sort.ahead w n) blk 0 d) os) := by
  refine ⟨rfl, rfl, rfl, by simp [putRowK], fun k hk hne => ?_⟩
  rw [heap_grow_old _ _ (by simpa [putRowK] using hk)]
  have : blk ≠ k := fun e => hne (by rw [e]; simp)
  simp [putRowK, putRow, mapBlock, Sort.ahead, Array.getElem?_modify, this]
theorem typed_sorted {w : World} {blk n : Nat} {os : Array Obj} (d : Array Rng) {cs : Array Value} (hb : w.heap[blk]? = some (.cells cs 36 (0, 0))) : ∃ cs, (grow (putRowK rngV 2 (Sort.ahead w n) blk 0 d) os).heap[blk]? = some (.cells cs 36 (0, 0)) := by
  have hg : blk < w.heap.size := (Array.getElem?_eq_some_iff.1 hb).1
  rw [heap_grow_old _ _ (by simpa [putRowK] using hg)]
  simp [putRowK, putRow, mapBlock, Sort.ahead, Array.getElem?_modify, hb, onCells]
theorem sort_any (w : World) (blk cap : Nat) (R : List Rng) (h : RowAt w (some ⟨blk, 0, none⟩) cap R) (hl : R.length ≤ 1000000) :
    Calls Try.prog 35 #[.slice (some ⟨blk, 0, none⟩) R.length cap, .func (.func 36) #[] #[]] w fun e w' =>
      e = .returned (.tuple #[]) ∧ ∃ R' : List Rng, R'.Perm R ∧ R'.Pairwise (fun x y => x.1 ≤ y.1) ∧ RowAt w' (some ⟨blk, 0, none⟩) cap R' ∧ Chg [blk] w w' := by
  have hH := holds_row h
  rcases h with ⟨h, _⟩ | ⟨b, hb, hlt, hlc, hx, cs, hty⟩
  · cases h
  cases hb
  have eg : ∀ args w, (callFunc 36 args).run Try.prog w = .ok (.enter 36 args) w := enters_of Try.func36 (by kernel_rfl) rfl
  have hcmp : CmpLays Try.prog 36 #[] rngV 2 cfR blk 0 R.toArray.size w := fun _ _ _ _ x y => cmp_any x y _
  have hcon := AnyQ.slices_SortFunc Try.sortRng 2 Try.isAgg36 Try.sizeOf36 rngV (fun _ => rfl) (fun x v hv => by simp [rngV] at hv; rcases hv with rfl | rfl <;> rfl) cfR swoR 36 #[] blk 0 cap R.toArray w eg hcmp hH hlt (by simp; omega)
  simp only [List.size_toArray] at hcon
  refine hcon.mono ?_
  rintro e w' ⟨he, d', n, os, hp, hs, rfl⟩
  obtain ⟨hsz, _, hperm⟩ := hp
  simp only [List.size_toArray] at hsz
  refine ⟨he, d'.toList, ?_, ?_, ?_, chg_sorted d'⟩
  · have e : d'.toList.take R.length = d'.toList := List.take_of_length_le (by rw [Array.length_toList]; omega)
    have : (d'.toList.take R.length).Perm R := by simpa using hperm
    rwa [e] at this
  · rw [List.pairwise_iff_getElem]
    intro i j hi hj hij
    have := hs i j (Nat.zero_le _) hij (by simpa [hsz] using hj)
    rw [ltR, decide_eq_false_iff_not] at this
    simp only [Array.length_toList] at hi hj
    rw [getElem!_pos d' i hi, getElem!_pos d' j hj] at this
    simp only [Array.getElem_toList]
    omega
  · refine row_holds (holdsK_grow rngV 2 _ os blk 0 d' (by simpa [putRowK] using hlt) (holdsK_putRowK rngV 2 _ blk 0 R.toArray d' (holdsK_ahead rngV 2 w n blk 0 R.toArray hH) (by simpa using hsz))) (by omega) (Nat.lt_of_lt_of_le hlt (chg_sorted (n := n) (os := os) d').size) (typed_sorted d' hty)
end Go.Proofs.Ytbnhnmfmgfoacaa
