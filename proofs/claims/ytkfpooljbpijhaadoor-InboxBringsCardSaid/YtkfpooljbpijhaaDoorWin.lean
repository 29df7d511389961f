/- Package window: a window in memory; New, made, Num, Base, Reset. -/
import Derived.Test.YtkfpooljbpijhaaDoorLChg
import Derived.Test.YtkfpooljbpijhaaDoorWFar
import Derived.WalkSpells
import Derived.RegionTactic
import Derived.ChangeAlike
import Derived.Laws.Rows
import Derived.Deep.QuietTactic
import Derived.BigQuiet
import Derived.Deep.MidRow
set_option linter.unusedVariables false
set_option linter.unusedSimpArgs false
namespace Go.Proofs.YtkfpooljbpijhaaDoor
open Go.RowKit

/-- Cells out of a function. -/
def cellsF (n : Nat) (g : Nat → Value) : Array Value := ((List.range n).map g).toArray
def updF (g : Nat → Value) (k : Nat) (v : Value) : Nat → Value := fun i => if i = k then v else g i
theorem cellsF_at {n : Nat} (g : Nat → Value) {i : Nat} (h : i < n) : (cellsF n g)[i]? = some (g i) := by
  unfold cellsF
  rw [List.getElem?_toArray]
  simp [h]
theorem cellsF_set {n : Nat} (g : Nat → Value) {k : Nat} (v : Value) : (cellsF n g).setIfInBounds k v = cellsF n (updF g k v) := by
  unfold cellsF
  rw [List.setIfInBounds_toArray]
  congr 1
  apply List.ext_getElem?
  intro i
  by_cases hi : i < n
  · by_cases hk : k = i
    · subst hk
      simp [hi, updF]
    · rw [List.getElem?_set_ne hk]
      simp [hi, updF, Ne.symm hk]
  · rw [List.getElem?_eq_none (by simp; omega), List.getElem?_eq_none (by simp; omega)]

/-- What a window is: the places' times (0: never; else the time and one), and whether they are there. -/
structure WS where
  size : Nat
  wait : Nat
  base : Int
  f : Nat → Nat × Bool
def plG (f : Nat → Nat × Bool) (j : Nat) : Value := if j % 2 = 0 then .int .i64 ((f (j / 2)).1 : Nat) else .bool (f (j / 2)).2
def winG (s : WS) : Nat → Value
  | 0 => .int .i64 (s.size : Nat)
  | 1 => .int .i64 (s.wait : Nat)
  | 2 => .int .u16 s.base
  | j + 3 => plG s.f j
def WinAt (w : World) (p : Nat) (s : WS) : Prop := Blk w p 51 (cellsF 67 (winG s))
structure WS.Ok (s : WS) : Prop where
  size1 : 1 ≤ s.size
  size2 : s.size ≤ 32
  wait1 : 1 ≤ s.wait
  wait2 : s.wait ≤ 1000
  base0 : 0 ≤ s.base
  base1 : s.base < 65536
  sent : ∀ i, (s.f i).1 ≤ 1125899906842625
  far : ∀ i, s.size ≤ i → s.f i = (0, false)
theorem winG_sent (s : WS) (i : Nat) : winG s (3 + i * 2) = .int .i64 ((s.f i).1 : Nat) := by
  rw [Nat.add_comm]
  simp only [winG, plG]
  rw [if_pos (by omega), show i * 2 / 2 = i from by omega]
theorem winG_there (s : WS) (i : Nat) : winG s (3 + i * 2 + 1) = .bool (s.f i).2 := by
  rw [show 3 + i * 2 + 1 = (i * 2 + 1) + 3 from by omega]
  simp only [winG, plG]
  rw [if_neg (by omega), show (i * 2 + 1) / 2 = i from by omega]
def updP (f : Nat → Nat × Bool) (k : Nat) (x : Nat × Bool) : Nat → Nat × Bool := fun i => if i = k then x else f i
theorem winG_setSent (s : WS) (i v : Nat) : updF (winG s) (3 + i * 2) (.int .i64 (v : Nat)) = winG { s with f := updP s.f i (v, (s.f i).2) } := by
  funext j
  match j with
  | 0 => unfold updF; rw [if_neg (by omega)]; rfl
  | 1 => unfold updF; rw [if_neg (by omega)]; rfl
  | 2 => unfold updF; rw [if_neg (by omega)]; rfl
  | j + 3 =>
    unfold updF
    simp only [winG, plG, updP]
    by_cases h : j + 3 = 3 + i * 2
    · rw [if_pos h, if_pos (by omega), if_pos (by omega)]
    · rw [if_neg h]
      by_cases h2 : j % 2 = 0
      · rw [if_pos h2, if_pos h2, if_neg (by omega)]
      · rw [if_neg h2, if_neg h2]
        by_cases h3 : j / 2 = i
        · rw [if_pos h3, h3]
        · rw [if_neg h3]
theorem winG_setThere (s : WS) (i : Nat) (b : Bool) : updF (winG s) (3 + i * 2 + 1) (.bool b) = winG { s with f := updP s.f i ((s.f i).1, b) } := by
  funext j
  match j with
  | 0 => unfold updF; rw [if_neg (by omega)]; rfl
  | 1 => unfold updF; rw [if_neg (by omega)]; rfl
  | 2 => unfold updF; rw [if_neg (by omega)]; rfl
  | j + 3 =>
    unfold updF
    simp only [winG, plG, updP]
    by_cases h : j + 3 = 3 + i * 2 + 1
    · rw [if_pos h, if_neg (by omega), if_pos (by omega)]
    · rw [if_neg h]
      by_cases h2 : j % 2 = 0
      · rw [if_pos h2, if_pos h2]
        by_cases h3 : j / 2 = i
        · rw [if_pos h3, h3]
        · rw [if_neg h3]
      · rw [if_neg h2, if_neg h2, if_neg (by omega)]

section
variable {w w' : World} {p : Nat} {s : WS}
theorem WinAt.chg {L : List Nat} (h : WinAt w p s) (hc : Chg L w w') (hn : p ∉ L) : WinAt w' p s := Blk.chg h hc hn
theorem WinAt.lt (h : WinAt w p s) : p < w.heap.size := Blk.lt h
theorem WinAt.c0 (h : WinAt w p s) : w.cell? ⟨p, 0, none⟩ = some (.int .i64 (s.size : Nat)) := by rw [Blk.cell h, cellsF_at _ (by omega)]; rfl
theorem WinAt.c1 (h : WinAt w p s) : w.cell? ⟨p, 1, none⟩ = some (.int .i64 (s.wait : Nat)) := by rw [Blk.cell h, cellsF_at _ (by omega)]; rfl
theorem WinAt.c2 (h : WinAt w p s) : w.cell? ⟨p, 2, none⟩ = some (.int .u16 s.base) := by rw [Blk.cell h, cellsF_at _ (by omega)]; rfl
theorem WinAt.sent (h : WinAt w p s) {i : Nat} (hi : i < 32) : w.cell? ⟨p, 3 + i * 2, none⟩ = some (.int .i64 ((s.f i).1 : Nat)) := by rw [Blk.cell h, cellsF_at _ (by omega), winG_sent]
theorem WinAt.there (h : WinAt w p s) {i : Nat} (hi : i < 32) : w.cell? ⟨p, 3 + i * 2 + 1, none⟩ = some (.bool (s.f i).2) := by rw [Blk.cell h, cellsF_at _ (by omega), winG_there]
theorem WinAt.fr (h : WinAt w p s) (i : Nat) : w.frozen? ⟨p, i, none⟩ = false := Blk.frozen h i
theorem WinAt.setSent (h : WinAt w p s) (i v : Nat) : WinAt (w.setCell ⟨p, 3 + i * 2, none⟩ (.int .i64 (v : Nat))) p { s with f := updP s.f i (v, (s.f i).2) } := by
  have := Blk.set_ h (3 + i * 2) (.int .i64 (v : Nat))
  rw [cellsF_set, winG_setSent] at this
  exact this
theorem WinAt.setThere (h : WinAt w p s) (i : Nat) (b : Bool) : WinAt (w.setCell ⟨p, 3 + i * 2 + 1, none⟩ (.bool b)) p { s with f := updP s.f i ((s.f i).1, b) } := by
  have := Blk.set_ h (3 + i * 2 + 1) (.bool b)
  rw [cellsF_set, winG_setThere] at this
  exact this
end

def WS.new (size wait : Nat) : WS := ⟨size, wait, 0, fun _ => (0, false)⟩
theorem WS.new_ok {size wait : Nat} (h1 : 1 ≤ size) (h2 : size ≤ 32) (h3 : 1 ≤ wait) (h4 : wait ≤ 1000) : (WS.new size wait).Ok := ⟨h1, h2, h3, h4, Int.le_refl _, (by decide : (0 : Int) < 65536), fun _ => Nat.zero_le _, fun _ _ => rfl⟩

theorem cellsF_size {n : Nat} {g : Nat → Value} : (cellsF n g).size = n := by simp [cellsF]
theorem cellsF_ne {n : Nat} {g : Nat → Value} : (cellsF (n + 1) g = #[]) = False := by
  rw [eq_iff_iff, iff_false]
  intro h
  have := congrArg Array.size h
  rw [cellsF_size] at this
  simp at this
theorem zeroWin : ∀ w : World, (zeroValue 51).run Tryd.prog w = .ok (.agg (cellsF 67 (winG ⟨0, 0, 0, fun _ => (0, false)⟩))) w := fun w => by kernel_rfl
theorem wnew_no (n t : Int) (w : World) (h : n < 1 ∨ 32 < n ∨ t < 1 ∨ 1000 < t) : Calls Tryd.prog 4 #[.int .i64 n, .int .i64 t] w fun e w' => e = .returned (.pointer none) ∧ w = w' := by
  by_cases a1 : n < 1
  · go_enter Tryd.func4, Tryd.ntmps4
    go_wp2
    go_ret
    exact ⟨rfl, rfl⟩
  · by_cases a2 : 32 < n
    · go_enter Tryd.func4, Tryd.ntmps4
      go_wp2
      go_ret
      exact ⟨rfl, rfl⟩
    · by_cases a3 : t < 1
      · go_enter Tryd.func4, Tryd.ntmps4
        go_wp2
        go_ret
        exact ⟨rfl, rfl⟩
      · have a4 : 1000 < t := by omega
        go_enter Tryd.func4, Tryd.ntmps4
        go_wp2
        go_ret
        exact ⟨rfl, rfl⟩
theorem wnew_yes (n t : Nat) (w : World) (h1 : 1 ≤ n) (h2 : n ≤ 32) (h3 : 1 ≤ t) (h4 : t ≤ 1000) : Calls Tryd.prog 4 #[.int .i64 (n : Nat), .int .i64 (t : Nat)] w fun e w' =>
    e = .returned (.pointer (some ⟨w.heap.size, 0, none⟩)) ∧ WinAt w' w.heap.size (WS.new n t) ∧ Chg [] w w' := by
  have t1 : decide ((n : Int) < 1) = false := decide_eq_false (by omega)
  have t2 : decide ((32 : Int) < (n : Int)) = false := decide_eq_false (by omega)
  have t3 : decide ((t : Int) < 1) = false := decide_eq_false (by omega)
  have t4 : decide ((1000 : Int) < (t : Int)) = false := decide_eq_false (by omega)
  have t5 : decide (n = 0) = false := decide_eq_false (by omega)
  have t6 : decide (32 < n) = false := decide_eq_false (by omega)
  have t7 : decide (t = 0) = false := decide_eq_false (by omega)
  have t8 : decide (1000 < t) = false := decide_eq_false (by omega)
  have hz := zeroWin
  have hs := fun g => cellsF_size (n := 67) (g := g)
  have hne := fun g => cellsF_ne (n := 66) (g := g)
  clear h1 h2 h3 h4
  go_enter Tryd.func4, Tryd.ntmps4
  go_wp2
  go_ret
  refine ⟨rfl, ?_, (Chg.refl _ _).alloc _⟩
  rw [cellsF_set, cellsF_set]
  have e : updF (updF (winG ⟨0, 0, 0, fun _ => (0, false)⟩) 0 (.int .i64 (n : Nat))) 1 (.int .i64 (t : Nat)) = winG (WS.new n t) := by
    funext j
    match j with
    | 0 => rfl
    | 1 => rfl
    | 2 => rfl
    | j + 3 => rfl
  rw [e]
  exact Blk.new _ _ _

section
variable {w : World} {p : Nat} {s : WS}
theorem made_win (h : WinAt w p s) (h1 : 1 ≤ s.size) : Calls Tryd.prog 17 #[.pointer (some ⟨p, 0, none⟩)] w fun e w' => e = .returned (.bool true) ∧ w = w' := by
  have c0 := h.c0
  have h2 : decide (0 < s.size) = true := decide_eq_true (by omega)
  have h3 : decide ((0 : Int) < (s.size : Int)) = true := decide_eq_true (by omega)
  clear h
  go_enter Tryd.func17, Tryd.ntmps17
  go_wp2
  go_ret
  exact ⟨rfl, rfl⟩
theorem num_win (h : WinAt w p s) (hok : s.Ok) (i : Int) : Calls Tryd.prog 8 #[.pointer (some ⟨p, 0, none⟩), .int .i64 i] w fun e w' => e = .returned (.int .u16 (moveN s.base i)) ∧ w = w' := by
  have c2 := h.c2
  have HM := Lib.hid (made_win h hok.size1)
  have HV := Lib.hid (move_any s.base i w hok.base0 hok.base1)
  clear h hok
  go_enter Tryd.func8, Tryd.ntmps8
  go_wp2_with fail
  refine HM.out.mono ?_
  rintro e w1 ⟨rfl, rfl⟩
  go_wp2_with fail
  refine HV.out.mono ?_
  rintro e w1 ⟨rfl, rfl⟩
  go_wp2
  go_ret
  exact ⟨rfl, rfl⟩
end
end Go.Proofs.YtkfpooljbpijhaaDoor
