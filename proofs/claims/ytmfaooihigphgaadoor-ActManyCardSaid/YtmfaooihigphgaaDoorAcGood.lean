/- Package act: shape, most, part, Good; bind.Good. -/
import Derived.Test.YtmfaooihigphgaaDoorAcVal
import Derived.Deep.RegionHeld3
set_option linter.unusedVariables false
set_option linter.unusedSimpArgs false
namespace Go.Proofs.YtmfaooihigphgaaDoor
open Go.RowKit
open Go.Proofs.YtmfaooihigphgaaDoor.Ac (ActS)

/-- act's table of shapes. -/
def shS (k : Int) : ByteArray := strB ((Ac.shapeL k).map UInt8.ofNat)
def ShpAt (w : World) : Prop := ∀ j : Nat, 1 ≤ j → j ≤ 12 → w.cell? ⟨0, j, none⟩ = some (.string (shS j))
theorem ShpAt.chg {L : List Nat} {w w' : World} (h : ShpAt w) (hc : Chg L w w') (hL : 0 ∉ L) : ShpAt w' := fun j h1 h2 => hc.cell_some (h j h1 h2) hL
theorem ShpAt.chg0 {w w' : World} (h : ShpAt w) (hc : Chg [] w w') : ShpAt w' := h.chg hc (by simp)
theorem ShpAt.lt {w : World} (h : ShpAt w) : 0 < w.heap.size := World.block_lt_of_cell? w ⟨0, 1, none⟩ (h 1 (by decide) (by decide))
theorem shape_any (k : Int) (w : World) (hT : ShpAt w) : Calls Tryd.prog 27 #[.int .i64 k] w fun e w' => e = .returned (.tuple #[.string (shS k), .bool (decide (1 ≤ k) && decide (k ≤ 12))]) ∧ w = w' := by
  by_cases h : 1 ≤ k ∧ k ≤ 12
  · obtain ⟨j, rfl⟩ : ∃ j : Nat, k = j := ⟨k.toNat, by omega⟩
    have hc := hT j (by omega) (by omega)
    have t1 : decide ((j : Int) < 1) = false := decide_eq_false (by omega)
    have t2 : decide ((13 : Int) ≤ (j : Int)) = false := decide_eq_false (by omega)
    have t3 : decide (j = 0) = false := decide_eq_false (by omega)
    have t4 : decide (13 ≤ j) = false := decide_eq_false (by omega)
    have i1 : (0 : Int) ≤ (j : Int) := by omega
    have i2 : (j : Int) < 13 := by omega
    rw [decide_eq_true h.1, decide_eq_true h.2]
    clear hT h
    go_enter Tryd.func27, Tryd.ntmps27
    go_wp2
    go_ret2
    exact ⟨rfl, rfl⟩
  · have e : (decide (1 ≤ k) && decide (k ≤ 12)) = false := by simpa using h
    have e2 : shS k = ⟨#[]⟩ := by
      have : Ac.shapeL k = [] := by
        unfold Ac.shapeL
        repeat rw [if_neg (by omega)]
      unfold shS
      rw [this]
      rfl
    rw [e, e2]
    clear e e2
    have h5 : ¬ 1 ≤ k ∨ (1 ≤ k ∧ 13 ≤ k) := by omega
    clear h hT
    rcases h5 with h | ⟨h, h'⟩
    · have t1 : decide (k < 1) = true := decide_eq_true (by omega)
      go_enter Tryd.func27, Tryd.ntmps27
      go_wp2
      go_ret2
      exact ⟨rfl, rfl⟩
    · have t1 : decide (k < 1) = false := decide_eq_false (by omega)
      have t2 : decide ((13 : Int) ≤ k) = true := decide_eq_true h'
      go_enter Tryd.func27, Tryd.ntmps27
      go_wp2
      go_ret2
      exact ⟨rfl, rfl⟩
theorem most_any (k : Int) (w : World) : Calls Tryd.prog 53 #[.int .i64 k] w fun e w' => e = .returned (.int .i64 (Ac.mostK k)) ∧ w = w' := by
  unfold Ac.mostK
  by_cases h : k = 1
  · subst h
    go_enter Tryd.func53, Tryd.ntmps53
    go_wp2
    go_ret
    exact ⟨rfl, rfl⟩
  · rw [if_neg h]
    have t1 : (k == 1) = false := by simpa using h
    clear h
    go_enter Tryd.func53, Tryd.ntmps53
    go_wp2
    go_ret
    exact ⟨rfl, rfl⟩
def exC (a : ActS) : Array Value := #[.string a.xn, .int .i64 a.xk, .bool a.xf]
def bdC (a : ActS) : Array Value := #[.string a.be, .string a.bq, .string a.bp]
theorem goodx_any (a : ActS) (hs : a.xn.size ≤ 100000) (w : World) : Calls Tryd.prog 54 #[.agg (exC a)] w fun e w' => e = .returned (.bool (Ac.goodX a)) ∧ Chg [] w w' := by
  unfold Ac.goodX exC
  have HN := Lib.hid (fun W => name_any a.xn (by unfold maxLen; omega) W)
  obtain ⟨bn, hbn⟩ : ∃ b, b = Tp.nameL (Ac.sB a.xn) := ⟨_, rfl⟩
  rw [show a.xn.data.toList = Ac.sB a.xn from rfl, ← hbn] at HN
  rw [← hbn]
  clear hbn
  generalize a.xn = xn at *
  generalize a.xk = xk at *
  generalize a.xf = xf at *
  have h5 : xk = 1 ∨ xk = 2 ∨ xk = 3 ∨ ¬ (1 ≤ xk ∧ xk ≤ 3) := by omega
  rcases h5 with rfl | rfl | rfl | h
  rotate_left 3
  · have e : (decide (1 ≤ xk) && decide (xk ≤ 3)) = false := by simpa using h
    have t1 : (xk == 1) = false := by simp; omega
    have t2 : (xk == 2) = false := by simp; omega
    have t3 : (xk == 3) = false := by simp; omega
    rw [e]
    clear h e
    go_enter Tryd.func54, Tryd.ntmps54
    go_wp2_with fail
    refine (HN.out _).mono ?_
    rintro e w1 ⟨rfl, hc⟩
    have H1 := Lib.hid (And.intro (((Chg.refl [] w).alloc (.cells #[.string xn, .int .i64 xk, .bool xf] 24)).trans hc) ((Blk.new w 24 #[.string xn, .int .i64 xk, .bool xf]).chg hc (by simp)))
    have c1 := H1.out.2.cell 1
    simp only [List.getElem?_toArray, List.getElem?_cons_succ, List.getElem?_cons_zero] at c1
    clear hc
    cases bn
    all_goals
      go_wp2
      go_ret
      exact ⟨rfl, H1.out.1⟩
  all_goals
    go_enter Tryd.func54, Tryd.ntmps54
    go_wp2_with fail
    refine (HN.out _).mono ?_
    rintro e w1 ⟨rfl, hc⟩
    have H1 := Lib.hid (And.intro (((Chg.refl [] w).alloc _).trans hc) ((Blk.new w 24 _).chg hc (by simp)))
    have c1 := H1.out.2.cell 1
    simp only [List.getElem?_toArray, List.getElem?_cons_succ, List.getElem?_cons_zero] at c1
    clear hc
    cases bn
    all_goals
      go_wp2
      go_ret
      exact ⟨rfl, H1.out.1⟩
theorem rgoodx_any (a : ActS) (hs : a.xn.size ≤ 100000) (w : World) : Calls Tryd.prog 30 #[.agg (exC a)] w fun e w' => e = .returned (.bool (Ac.goodX a)) ∧ Chg [] w w' := by
  unfold Ac.goodX exC
  have HN := Lib.hid (fun W => rname_anyc a.xn (by unfold maxLen; omega) W)
  obtain ⟨bn, hbn⟩ : ∃ b, b = Tp.nameL (Ac.sB a.xn) := ⟨_, rfl⟩
  rw [show a.xn.data.toList = Ac.sB a.xn from rfl, ← hbn] at HN
  rw [← hbn]
  clear hbn
  generalize a.xn = xn at *
  generalize a.xk = xk at *
  generalize a.xf = xf at *
  obtain ⟨b1, hb1⟩ : ∃ b, b = decide (1 ≤ xk) := ⟨_, rfl⟩
  obtain ⟨b2, hb2⟩ : ∃ b, b = decide (xk ≤ 3) := ⟨_, rfl⟩
  rw [← hb1, ← hb2]
  have t1 := hb1.symm
  have t2 := hb2.symm
  clear hb1 hb2
  go_enter Tryd.func30, Tryd.ntmps30
  go_wp2_with fail
  refine (HN.out _).mono ?_
  rintro e w1 ⟨rfl, hc⟩
  have H1 := Lib.hid (And.intro (((Chg.refl [] w).alloc (.cells #[.string xn, .int .i64 xk, .bool xf] 24)).trans hc) ((Blk.new w 24 #[.string xn, .int .i64 xk, .bool xf]).chg hc (by simp)))
  have c1 := H1.out.2.cell 1
  simp only [List.getElem?_toArray, List.getElem?_cons_succ, List.getElem?_cons_zero] at c1
  clear hc
  cases bn
  · go_wp2
    go_ret
    exact ⟨rfl, H1.out.1⟩
  · cases b1
    all_goals
      go_wp2
      go_ret
      exact ⟨rfl, H1.out.1⟩
end Go.Proofs.YtmfaooihigphgaaDoor
