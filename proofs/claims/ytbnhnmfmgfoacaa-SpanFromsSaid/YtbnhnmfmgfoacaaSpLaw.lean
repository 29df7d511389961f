/- The law package of span: lives. -/
import Derived.Test.YtbnhnmfmgfoacaaSpSt
set_option linter.unusedVariables false
set_option linter.unusedSimpArgs false
namespace Go.Proofs.Ytbnhnmfmgfoacaa
open Go.RowKit Go.Shelf

set_option maxRecDepth 100000 in
set_option maxHeartbeats 4000000 in
theorem lives_any (w : World) : Calls Try.prog 10 #[] w fun e w' => e = .returned (.bool true) ∧ Chg [] w w' := by
  have l2 : lowR [(1, 2), (5, 5)] = 2 := by decide
  have t5 : topR [(1, 2), (5, 5)] = 5 := by decide
  have g1 : gapsR [(1, 2), (5, 5)] = 1 := by decide
  have l5 : lowR [(1, 5)] = 5 := by decide
  go_enter Try.func10, Try.ntmps10
  go_wp2_with fail
  refine (St.new w w (Chg.refl _ _)).mono ?_
  rintro e w1 ⟨rfl, hs, hc, hlt⟩
  have HS1 := Lib.hid hs
  clear hs hc
  go_wp2_with fail
  refine (St.add HS1.out 1 [(1, 1)] true (by simp [WF, M64]) (by decide) (by decide) (by decide) (by decide)).mono ?_
  rintro e w2 ⟨rfl, hs, hc⟩
  have HS2 := Lib.hid hs
  clear hs hc
  go_wp2_with fail
  refine (St.add HS2.out 2 [(1, 2)] true (by simp [WF, M64]) (by decide) (by decide) (by decide) (by decide)).mono ?_
  rintro e w3 ⟨rfl, hs, hc⟩
  have HS3 := Lib.hid hs
  clear hs hc
  go_wp2_with fail
  refine (St.add HS3.out 5 [(1, 2), (5, 5)] true (by simp [WF, M64]) (by decide) (by decide) (by decide) (by decide)).mono ?_
  rintro e w4 ⟨rfl, hs, hc⟩
  have HS4 := Lib.hid hs
  clear hs hc
  go_wp2_with fail
  refine (low_any _ _ _ HS4.out.set_).mono ?_
  rintro e w' ⟨rfl, rfl⟩
  rw [l2]
  go_wp2_with fail
  refine (top_any _ _ _ HS4.out.set_ (by decide)).mono ?_
  rintro e w' ⟨rfl, rfl⟩
  rw [t5]
  go_wp2_with fail
  refine (gaps_any _ _ _ HS4.out.set_ (by decide)).mono ?_
  rintro e w' ⟨rfl, rfl⟩
  rw [g1]
  go_wp2_with fail
  refine (St.add HS4.out 3 [(1, 3), (5, 5)] true (by simp [WF, M64]) (by decide) (by decide) (by decide) (by decide)).mono ?_
  rintro e w5 ⟨rfl, hs, hc⟩
  have HS5 := Lib.hid hs
  clear hs hc
  go_wp2_with fail
  refine (St.add HS5.out 4 [(1, 5)] true (by simp [WF, M64]) (by decide) (by decide) (by decide) (by decide)).mono ?_
  rintro e w6 ⟨rfl, hs, hc⟩
  have HS6 := Lib.hid hs
  clear hs hc
  go_wp2_with fail
  refine (St.add HS6.out 3 [(1, 5)] false (by simp [WF, M64]) (by decide) (by decide) (by decide) (by decide)).mono ?_
  rintro e w7 ⟨rfl, hs, hc⟩
  have HS7 := Lib.hid hs
  clear hs hc
  go_wp2_with fail
  refine (St.ranges HS7.out (by decide)).mono ?_
  rintro e w8 ⟨A, cap, rfl, hr, hc, hs⟩
  have HS8 := Lib.hid hs
  clear hr hs hc
  go_wp2_with fail
  refine (low_any _ _ _ HS8.out.set_).mono ?_
  rintro e w' ⟨rfl, rfl⟩
  rw [l5]
  go_wp2_with fail
  refine (St.has HS8.out 4 true (by simp [WF, M64]) (by decide) (by decide)).mono ?_
  rintro e w9 ⟨rfl, hc, hs⟩
  have HS9 := Lib.hid hs
  clear hs hc
  go_wp2_with fail
  refine (St.has HS9.out 6 false (by simp [WF, M64]) (by decide) (by decide)).mono ?_
  rintro e w10 ⟨rfl, hc, hs⟩
  have HS10 := Lib.hid hs
  clear hs hc
  go_wp2
  go_ret
  exact ⟨rfl, HS10.out.chg⟩
end Go.Proofs.Ytbnhnmfmgfoacaa
