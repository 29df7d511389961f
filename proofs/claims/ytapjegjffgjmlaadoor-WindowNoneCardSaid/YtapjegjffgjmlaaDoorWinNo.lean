/- WindowNone: a window that no call made does nothing. -/
import Derived.Test.YtapjegjffgjmlaaDoorWinAr
set_option linter.unusedVariables false
set_option linter.unusedSimpArgs false
namespace Go.Proofs.YtapjegjffgjmlaaDoor
open Go.RowKit

def noneW : WS := ⟨0, 0, 0, fun _ => (0, false)⟩
def Unmade (w : World) (a : Option Addr) : Prop := a = none ∨ ∃ p, a = some ⟨p, 0, none⟩ ∧ WinAt w p noneW
theorem Unmade.chg {w w' : World} {a : Option Addr} (h : Unmade w a) (hc : Chg [] w w') : Unmade w' a := by
  rcases h with h | ⟨p, h1, h2⟩
  · exact .inl h
  · exact .inr ⟨p, h1, h2.chg hc (by simp)⟩
section
variable (w : World) (a : Option Addr)
theorem made_no (h : Unmade w a) : Calls Tryd.prog 25 #[.pointer a] w fun e w' => e = .returned (.bool false) ∧ w = w' := by
  rcases h with rfl | ⟨p, rfl, h⟩
  · go_enter Tryd.func25, Tryd.ntmps25
    go_wp2
    go_ret
    exact ⟨rfl, rfl⟩
  · have c0 : w.cell? ⟨p, 0, none⟩ = some (.int .i64 0) := h.c0
    clear h
    go_enter Tryd.func25, Tryd.ntmps25
    go_wp2
    go_ret
    exact ⟨rfl, rfl⟩
theorem num_no (i : Int) (h : Unmade w a) : Calls Tryd.prog 22 #[.pointer a, .int .i64 i] w fun e w' => e = .returned (.int .u16 0) ∧ w = w' := by
  have HM := Lib.hid (made_no w a h)
  clear h
  go_enter Tryd.func22, Tryd.ntmps22
  go_wp2_with fail
  refine HM.out.mono ?_
  rintro e w1 ⟨rfl, rfl⟩
  go_wp2
  go_ret
  exact ⟨rfl, rfl⟩
theorem base_no (h : Unmade w a) : Calls Tryd.prog 12 #[.pointer a] w fun e w' => e = .returned (.int .u16 0) ∧ w = w' := by
  have HM := Lib.hid (num_no w a 0 h)
  clear h
  go_enter Tryd.func12, Tryd.ntmps12
  go_wp2_with fail
  refine HM.out.mono ?_
  rintro e w1 ⟨rfl, rfl⟩
  go_wp2
  go_ret
  exact ⟨rfl, rfl⟩
theorem send_no (x y : Int) (h : Unmade w a) : Calls Tryd.prog 9 #[.pointer a, .int .i64 x, .int .i64 y] w fun e w' => e = .returned (.slice none 0 0) ∧ w = w' := by
  have HM := Lib.hid (made_no w a h)
  clear h
  go_enter Tryd.func9, Tryd.ntmps9
  go_wp2
  go_step3
  go_wp2_with fail
  refine HM.out.mono ?_
  rintro e w1 ⟨rfl, rfl⟩
  go_wp2
  try rw [Exit.noGoto_ret]
  go_ret
  exact ⟨rfl, rfl⟩
theorem ack_no (x m : Int) (h : Unmade w a) : Calls Tryd.prog 11 #[.pointer a, .int .u16 x, .int .u64 m] w fun e w' => e = .returned (.int .i64 0) ∧ Chg [] w w' := by
  have HM := Lib.hid (made_no _ a (h.chg ((Chg.refl [] w).alloc (.cells #[.pointer a] 25))))
  clear h
  go_enter Tryd.func11, Tryd.ntmps11
  go_wp2_with fail
  refine HM.out.mono ?_
  rintro e w1 ⟨rfl, rfl⟩
  go_wp2
  go_ret
  exact ⟨rfl, (Chg.refl [] w).alloc _⟩
theorem open_no (h : Unmade w a) : Calls Tryd.prog 10 #[.pointer a] w fun e w' => e = .returned (.int .i64 0) ∧ w = w' := by
  have HM := Lib.hid (made_no w a h)
  clear h
  go_enter Tryd.func10, Tryd.ntmps10
  go_wp2_with fail
  refine HM.out.mono ?_
  rintro e w1 ⟨rfl, rfl⟩
  go_wp2
  go_ret
  exact ⟨rfl, rfl⟩
theorem reset_no (h : Unmade w a) : Calls Tryd.prog 19 #[.pointer a] w fun e w' => (∃ v, e = .returned v) ∧ w = w' := by
  have HM := Lib.hid (made_no w a h)
  clear h
  go_enter Tryd.func19, Tryd.ntmps19
  go_wp2_with fail
  refine HM.out.mono ?_
  rintro e w1 ⟨rfl, rfl⟩
  go_wp2
  go_end0
  exact ⟨⟨_, rfl⟩, rfl⟩
end
namespace windowNone
set_option maxRecDepth 100000 in
set_option maxHeartbeats 8000000 in
theorem core (y : WAct) (W : World) (hL : Laid W) :
    Calls Tryd.prog 6 #[.agg #[.int .i64 y.kind, .int .i64 y.hv, .int .i64 y.now, .int .u16 y.num, .int .u64 (y.mask : Nat)]] W fun e w' => e = .returned (.bool true) ∧ Chg [] W w' := by
  have HL := Lib.hid hL
  have hz := zeroWin
  clear hL
  go_enter Tryd.func6, Tryd.ntmps6
  go_wp2_with fail
  have hZ : Blk ((W.alloc (.cells y.cells.toArray 40)).alloc (.cells (cellsF 67 (winG noneW)) 55)) (W.heap.size + 1) 55 (cellsF 67 (winG noneW)) := by
    have := Blk.new (W.alloc (.cells y.cells.toArray 40)) 55 (cellsF 67 (winG noneW))
    rwa [World.size_alloc] at this
  have hA0 : Blk ((W.alloc (.cells y.cells.toArray 40)).alloc (.cells (cellsF 67 (winG noneW)) 55)) W.heap.size 40 y.cells.toArray := (Blk.new W _ _).alloc _
  have hc0 := ((Chg.refl [] W).alloc (.cells y.cells.toArray 40)).alloc (.cells (cellsF 67 (winG noneW)) 55)
  have H0 := Lib.hid (And.intro hZ (And.intro hA0 hc0))
  clear hZ hA0 hc0
  change Code.wp _ _ _ _ ((W.alloc (.cells y.cells.toArray 40)).alloc (.cells (cellsF 67 (winG noneW)) 55))
  generalize (W.alloc (.cells y.cells.toArray 40)).alloc (.cells (cellsF 67 (winG noneW)) 55) = w0 at *
  clear hz
  go_loopw [7] (fun i wr => ∃ j : Nat, j ≤ 2 ∧ i = .int .i64 j ∧ Chg [] w0 wr) (fun i _ => 2 - (intOf i).toNat)
  case atStart => exact ⟨0, by omega, rfl, Chg.refl _ _⟩
  case round =>
    obtain ⟨j, hj, rfl, hcg⟩ := hrel
    have hA := H0.out.2.1.chg hcg (by simp)
    rcases (by omega : j = 0 ∨ j = 1 ∨ j = 2) with rfl | rfl | rfl
    · have hU : Unmade wr none := .inl rfl
      have hidx : ∀ w : World, (Instr.index 56 (.agg #[.pointer none, .pointer (some ⟨W.heap.size + 1, 0, none⟩)]) (.int .i64 0)).run Tryd.prog w = .ok (.pointer none) w := fun w => by kernel_rfl
      have h0 := hA.cell 0
      have h1 := hA.cell 1
      have h2 := hA.cell 2
      have h3 := hA.cell 3
      have h4 := hA.cell 4
      simp only [WAct.cells, List.getElem?_toArray, List.getElem?_cons_succ, List.getElem?_cons_zero] at h0 h1 h2 h3 h4
      have HU := Lib.hid hU
      have HCG := Lib.hid (And.intro hcg hA)
      clear hA hU hcg
      go_wp2_with fail
      refine (reset_no _ _ HU.out).mono ?_
      rintro e w2 ⟨⟨v, rfl⟩, rfl⟩
      go_wp2_with fail
      refine (base_no _ _ HU.out).mono ?_
      rintro e w2 ⟨rfl, rfl⟩
      go_wp2_with fail
      refine (num_no _ _ _ HU.out).mono ?_
      rintro e w2 ⟨rfl, rfl⟩
      go_wp2_with fail
      refine (send_no _ _ _ _ HU.out).mono ?_
      rintro e w2 ⟨rfl, rfl⟩
      go_wp2_with fail
      refine (ack_no _ _ _ _ HU.out).mono ?_
      rintro e w2 ⟨rfl, hc⟩
      have HC2 := Lib.hid hc
      clear hc
      go_wp2_with fail
      refine (open_no _ _ (HU.out.chg HC2.out)).mono ?_
      rintro e w3 ⟨rfl, rfl⟩
      go_wp2
      go_roundw
      case rel => first | exact ⟨1, by omega, rfl, HCG.out.1.trans HC2.out⟩ | exact ⟨2, by omega, rfl, HCG.out.1.trans HC2.out⟩
      case measure => simp [intOf]
    · have hU : Unmade wr (some ⟨W.heap.size + 1, 0, none⟩) := .inr ⟨_, rfl, H0.out.1.chg hcg (by simp)⟩
      have hidx : ∀ w : World, (Instr.index 56 (.agg #[.pointer none, .pointer (some ⟨W.heap.size + 1, 0, none⟩)]) (.int .i64 1)).run Tryd.prog w = .ok (.pointer (some ⟨W.heap.size + 1, 0, none⟩)) w := fun w => by kernel_rfl
      have h0 := hA.cell 0
      have h1 := hA.cell 1
      have h2 := hA.cell 2
      have h3 := hA.cell 3
      have h4 := hA.cell 4
      simp only [WAct.cells, List.getElem?_toArray, List.getElem?_cons_succ, List.getElem?_cons_zero] at h0 h1 h2 h3 h4
      have HU := Lib.hid hU
      have HCG := Lib.hid (And.intro hcg hA)
      clear hA hU hcg
      go_wp2_with fail
      refine (reset_no _ _ HU.out).mono ?_
      rintro e w2 ⟨⟨v, rfl⟩, rfl⟩
      go_wp2_with fail
      refine (base_no _ _ HU.out).mono ?_
      rintro e w2 ⟨rfl, rfl⟩
      go_wp2_with fail
      refine (num_no _ _ _ HU.out).mono ?_
      rintro e w2 ⟨rfl, rfl⟩
      go_wp2_with fail
      refine (send_no _ _ _ _ HU.out).mono ?_
      rintro e w2 ⟨rfl, rfl⟩
      go_wp2_with fail
      refine (ack_no _ _ _ _ HU.out).mono ?_
      rintro e w2 ⟨rfl, hc⟩
      have HC2 := Lib.hid hc
      clear hc
      go_wp2_with fail
      refine (open_no _ _ (HU.out.chg HC2.out)).mono ?_
      rintro e w3 ⟨rfl, rfl⟩
      go_wp2
      go_roundw
      case rel => first | exact ⟨1, by omega, rfl, HCG.out.1.trans HC2.out⟩ | exact ⟨2, by omega, rfl, HCG.out.1.trans HC2.out⟩
      case measure => simp [intOf]
    · have HC := Lib.hid (H0.out.2.2.trans hcg)
      clear hcg hA
      go_wp2_with fail
      refine (lives_any _ (HL.out.to HC.out)).mono ?_
      rintro e w2 ⟨rfl, hc⟩
      have HE := Lib.hid (HC.out.trans hc)
      clear hc
      go_wp2
      go_ret
      exact ⟨rfl, HE.out⟩
theorem walk (y : WAct) (_hy : y.Wf) (W : World) (hL : Laid W) :
    Calls Tryd.prog 6 #[.agg #[.int .i64 y.kind, .int .i64 y.hv, .int .i64 y.now, .int .u16 y.num, .int .u64 (y.mask : Nat)]] W fun e w' => e = .returned (.bool true) ∧ Below W.heap.size W w' :=
  (core y W hL).mono fun _ _ ⟨he, hc⟩ => ⟨he, hc.below (Nat.le_refl _) (by simp)⟩
end windowNone
end Go.Proofs.YtapjegjffgjmlaaDoor
