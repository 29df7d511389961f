/- Package window: Open, Reset. -/
import Derived.Test.YtkfpooljbpijhaaDoorWin
import Derived.StillTailTactics
set_option linter.unusedVariables false
set_option linter.unusedSimpArgs false
namespace Go.Proofs.YtkfpooljbpijhaaDoor
open Go.RowKit

def plL (f : Nat → Nat × Bool) : List Value := (List.range 64).map (plG f)
theorem plL_len (f : Nat → Nat × Bool) : (plL f).length = 64 := by simp [plL]
theorem plL_at (f : Nat → Nat × Bool) {j : Nat} (h : j < 64) : (plL f)[j]? = some (plG f j) := by simp [plL, h]
theorem plG_sent (f : Nat → Nat × Bool) (i : Nat) : plG f (i * 2) = .int .i64 ((f i).1 : Nat) := by unfold plG; rw [if_pos (by omega), show i * 2 / 2 = i from by omega]
theorem plG_there (f : Nat → Nat × Bool) (i : Nat) : plG f (i * 2 + 1) = .bool (f i).2 := by unfold plG; rw [if_neg (by omega), show (i * 2 + 1) / 2 = i from by omega]
def plV (x : Nat × Bool) : Value := .agg #[.int .i64 (x.1 : Nat), .bool x.2]
theorem WinAt.range {w : World} {p : Nat} {s : WS} (h : WinAt w p s) : w.rangeAt p 3 (plL s.f) := by
  intro j v hv
  have hj : j < 64 := by have := (List.getElem?_eq_some_iff.1 hv).1; rwa [plL_len] at this
  rw [plL_at _ hj] at hv
  rw [Blk.cell h, cellsF_at _ (by omega), Nat.add_comm]
  exact hv
theorem run_index_pl (f : Nat → Nat × Bool) {k : Nat} (hk : k < 32) (w : World) :
    (Instr.index 49 (.agg (plL f).toArray) (.int .i64 (k : Nat))).run Tryd.prog w = .ok (.agg #[.int .i64 ((f k).1 : Nat), .bool (f k).2]) w := by
  have h1 : ∀ w, (isAgg 48).run Tryd.prog w = .ok true w := fun w => by kernel_rfl
  have h2 : ∀ w, (sizeOf 48).run Tryd.prog w = .ok 2 w := fun w => by kernel_rfl
  have h3 : (plL f).toArray.extract (k * 2) (k * 2 + 2) = #[.int .i64 ((f k).1 : Nat), .bool (f k).2] := by
    apply Array.ext_getElem?
    intro j
    rw [Array.getElem?_extract]
    simp only [List.size_toArray, plL_len]
    match j with
    | 0 => rw [if_pos (by omega), List.getElem?_toArray, plL_at _ (by omega), Nat.add_zero, plG_sent]; rfl
    | 1 => rw [if_pos (by omega), List.getElem?_toArray, plL_at _ (by omega), plG_there]; rfl
    | j + 2 => rw [if_neg (by omega)]; simp
  simp only [Instr.index, asIntOf, Sem.run_bind, Sem.run_pure, Result.andThen_ok, run_underlying Tryd.underlying49, h2, part, h1]
  rw [if_pos (by omega)]
  simp only [Int.toNat_natCast, Sem.run_bind, Sem.run_pure, Result.andThen_ok, h2, h1, part, if_true, h3]

/-- How many are under way. -/
def openB (x : Nat × Bool) : Bool := decide (0 < x.1) && !x.2
def openN (f : Nat → Nat × Bool) (k : Nat) : Nat := ((List.range k).filter fun i => openB (f i)).length
theorem openN_succ (f : Nat → Nat × Bool) (k : Nat) : openN f (k + 1) = openN f k + if openB (f k) = true then 1 else 0 := by
  unfold openN
  rw [List.range_succ, List.filter_append, List.length_append]
  congr 1
  by_cases h : openB (f k) = true
  · simp [h]
  · simp [h]
theorem openN_le (f : Nat → Nat × Bool) (k : Nat) : openN f k ≤ k := by
  unfold openN
  have := List.length_filter_le (fun i => openB (f i)) (List.range k)
  simpa using this


theorem winSize : (Tryd.prog.info? 51).map (·.size) = some 67 := by kernel_rfl
/-- A row of cells stored over a whole block. -/
theorem blk_setCells {w : World} {g : Nat} {t : TypeId} (vs : List Value) : ∀ (o : Nat) (cs : Array Value), Blk w g t cs → Blk (w.setCells g o vs) g t (vs.foldl (fun (a : Nat × Array Value) v => (a.1 + 1, a.2.setIfInBounds a.1 v)) (o, cs)).2 := by
  induction vs generalizing w with
  | nil => exact fun o cs h => h
  | cons v vs ih => exact fun o cs h => ih (o + 1) _ (h.set_ o v)
theorem chg_setCells {L : List Nat} {w w' : World} {g : Nat} (hg : g ∈ L ∨ w.heap.size ≤ g) (vs : List Value) : ∀ (o : Nat), Chg L w w' → Chg L w (w'.setCells g o vs) := by
  induction vs generalizing w' with
  | nil => exact fun o h => h
  | cons v vs ih => exact fun o h => ih (o + 1) (h.setCell hg v)
theorem foldl_updF (vs : List Value) : ∀ (o n : Nat) (g : Nat → Value), (vs.foldl (fun (a : Nat × Array Value) v => (a.1 + 1, a.2.setIfInBounds a.1 v)) (o, cellsF n g)).2 = cellsF n fun i => if o ≤ i ∧ i < o + vs.length then vs.getD (i - o) undef else g i := by
  induction vs with
  | nil =>
    intro o n g
    simp only [List.foldl_nil, List.length_nil]
    congr 1
    funext i
    rw [if_neg (by omega)]
  | cons v vs ih =>
    intro o n g
    rw [List.foldl_cons]
    simp only [cellsF_set]
    rw [ih]
    congr 1
    funext i
    simp only [updF, List.length_cons]
    by_cases h1 : i = o
    · subst h1
      rw [if_neg (by omega), if_pos rfl, if_pos (by omega), Nat.sub_self]; rfl
    · by_cases h2 : o + 1 ≤ i ∧ i < o + 1 + vs.length
      · rw [if_pos h2, if_pos (by omega), show i - o = (i - (o + 1)) + 1 from by omega]; rfl
      · rw [if_neg h2, if_neg h1, if_neg (by omega)]
theorem winL_one (s : WS) : ∀ v ∈ (cellsF 67 (winG s)).toList, v.oneCell' = true := by
  intro v hv
  simp only [cellsF, List.mem_map, List.mem_range] at hv
  obtain ⟨j, _, rfl⟩ := hv
  match j with
  | 0 => rfl
  | 1 => rfl
  | 2 => rfl
  | j + 3 => simp only [winG, plG]; split <;> rfl
theorem WinAt.there_ {w : World} {p : Nat} {s : WS} (h : WinAt w p s) (o n : Nat) (hn : o + n ≤ 67) : w.there p o n := by
  intro j hj
  rw [Blk.cell h, cellsF_at _ (by omega)]
  exact ⟨rfl, Blk.frozen h _⟩
theorem WinAt.whole {w : World} {p : Nat} {s : WS} (h : WinAt w p s) (s' : WS) : WinAt (w.setCells p 0 (cellsF 67 (winG s')).toList) p s' := by
  have := blk_setCells (cellsF 67 (winG s')).toList 0 _ h
  rw [foldl_updF] at this
  have e : (cellsF 67 fun i => if 0 ≤ i ∧ i < 0 + (cellsF 67 (winG s')).toList.length then (cellsF 67 (winG s')).toList.getD (i - 0) undef else winG s i) = cellsF 67 (winG s') := by
    apply Array.ext_getElem?
    intro i
    by_cases hi : i < 67
    · rw [cellsF_at _ hi, cellsF_at _ hi, if_pos (by simp [cellsF]; omega)]
      simp [cellsF, hi]
    · rw [Array.getElem?_eq_none (by simp [cellsF]; omega), Array.getElem?_eq_none (by simp [cellsF]; omega)]
  rw [e] at this
  exact this

theorem winNew_e (a b : Nat) : ((cellsF 67 (winG ⟨0, 0, 0, fun _ => (0, false)⟩)).setIfInBounds 0 (Value.int .i64 (a : Nat))).setIfInBounds 1 (Value.int .i64 (b : Nat)) = cellsF 67 (winG (WS.new a b)) := by
  rw [cellsF_set, cellsF_set]
  congr 1
  funext j
  match j with
  | 0 => rfl
  | 1 => rfl
  | 2 => rfl
  | j + 3 => rfl
end Go.Proofs.YtkfpooljbpijhaaDoor
