/- ActTells: the law walked. -/
import Derived.Test.YtmfaooihigphgaaDoorAcTl
import Derived.Test.YtmfaooihigphgaaDoorAcAm
set_option linter.unusedVariables false
set_option linter.unusedSimpArgs false
namespace Go.Proofs.YtmfaooihigphgaaDoor
open Go.RowKit
open Go.Proofs.YtmfaooihigphgaaDoor.Ac (ActS)
theorem Chg.end_ {w w' : World} (h : Chg [] w w') : Below w.heap.size w w' := h.below (Nat.le_refl _) (by simp)
theorem beq_self_b (b : Bool) : (b == b) = true := by cases b <;> rfl
end Go.Proofs.YtmfaooihigphgaaDoor
namespace Go.Proofs.YtmfaooihigphgaaDoor.actTells
open Go.RowKit Go.Proofs.YtmfaooihigphgaaDoor
open Go.Proofs.YtmfaooihigphgaaDoor.Ac (ActS)
set_option maxRecDepth 100000 in
set_option maxHeartbeats 16000000 in
theorem walk (a : ActS) (ha : a.Wf) (m : Msg) (hm : m.WfS) (W : World) (hL : Laid W) : Calls Tryd.prog 3 #[actV a, msgV m] W fun e w' => e = .returned (.bool true) ∧ Below W.heap.size W w' := by
  have HL := Lib.hid hL
  have HA := Lib.hid (And.intro ha hm)
  have H0 : Hid (Blk ((W.alloc (.cells (ActS.cells a) 32)).alloc (.cells m.cells 30)) W.heap.size 32 (ActS.cells a) ∧ Blk ((W.alloc (.cells (ActS.cells a) 32)).alloc (.cells m.cells 30)) (W.heap.size + 1) 30 m.cells ∧ Chg [] W ((W.alloc (.cells (ActS.cells a) 32)).alloc (.cells m.cells 30))) :=
    Lib.hid ⟨(Blk.new W _ _).alloc _, by have := Blk.new (W.alloc (.cells (ActS.cells a) 32)) 30 m.cells; rwa [World.size_alloc] at this, ((Chg.refl [] W).alloc _).alloc _⟩
  have s1 := hm.ex
  have s2 := hm.key
  have s3 := hm.body
  clear hL ha hm
  unfold actV msgV
  go_enter Tryd.func3, Tryd.ntmps3
  go_upto_region 1 with fail
  generalize (W.alloc (.cells (ActS.cells a) 32)).alloc (.cells m.cells 30) = w0 at *
  have hl1 := load_act H0.out.1
  go_wp2_with (refine wpList_loadW _ _ (by rfl) _ _ (by rfl) hl1 (by rfl) ?_)
  refine (great_any a HA.out.1.size w0).mono ?_
  rintro e w1 ⟨rfl, hc⟩
  have H1 := Lib.hid (And.intro (H0.out.1.chg hc (by simp)) (And.intro (H0.out.2.1.chg hc (by simp)) (H0.out.2.2.trans hc)))
  clear hc
  clear hl1
  by_cases hg : 3000 < sumA a
  · rw [decide_eq_true hg]
    clear hg
    go_wp2_with fail
    refine (lives_any _ (HL.out.chg0 H1.out.2.2)).mono ?_
    rintro e wF ⟨rfl, hc⟩
    have HF := Lib.hid (And.intro (H1.out.1.chg hc (by simp)) (And.intro (H1.out.2.1.chg hc (by simp)) (H1.out.2.2.trans hc)))
    clear hc
    go_wp2
    go_ret
    exact ⟨rfl, HF.out.2.2.end_⟩
  · rw [decide_eq_false hg]
    have HS := Lib.hid (HA.out.1.fitA (by omega))
    clear hg
    have c2 : w1.cell? ⟨W.heap.size + 1, 3, none⟩ = some (.string m.ex) := H1.out.2.1.cell 3
    have c3 : w1.cell? ⟨W.heap.size + 1, 4, none⟩ = some (.string m.key) := H1.out.2.1.cell 4
    have c4 : w1.cell? ⟨W.heap.size + 1, 5, none⟩ = some (.string m.body) := H1.out.2.1.cell 5
    by_cases hg : (3000 : Int) < (m.ex.size : Int) + (m.key.size : Int) + (m.body.size : Int)
    · skip
      go_wp2_with fail
      refine (lives_any _ (HL.out.chg0 H1.out.2.2)).mono ?_
      rintro e wF ⟨rfl, hc⟩
      have HF := Lib.hid (And.intro (H1.out.1.chg hc (by simp)) (And.intro (H1.out.2.1.chg hc (by simp)) (H1.out.2.2.trans hc)))
      clear hc
      go_wp2
      go_ret
      exact ⟨rfl, HF.out.2.2.end_⟩
    · have hms : m.Small := ⟨by omega, by omega, by omega⟩
      have HM := Lib.hid (And.intro hms HA.out.2.fit)
      clear hms
      go_upto_region 3 with fail
      clear hg c2 c3 c4 s1 s2 s3
      refine wp_region_noPanic ?_
      refine wp_region_held_drew (S := fun w' => (Instr.loadAt 32 (.pointer (some ⟨W.heap.size, 0, none⟩))).run Tryd.prog w' = .ok (.agg (ActS.cells a)) w' ∧ (Instr.loadAt 30 (.pointer (some ⟨W.heap.size + 1, 0, none⟩))).run Tryd.prog w' = .ok (.agg m.cells) w') (by kernel_rfl) ⟨load_act (w := w1.drew) H1.out.1, load_msg (w := w1.drew) H1.out.2.1⟩ (fun hHeld => ?_)
      have HD := Lib.hid (And.intro (H1.out.1.drewN 1) (And.intro (H1.out.2.1.drewN 1) (H1.out.2.2.drew)))
      refine wpAnyH_take (i := 0) (oi := _) (v := _) rfl (by kernel_rfl) (by kernel_rfl) (by kernel_rfl) (fun _ _ _ h => h) (yields_load (by rfl) _ _ (by rfl) _ (by rfl) _ (fun w h => h.1)) (by assumption) ?_
      try simp only [List.getElem_toArray, List.getElem_cons_zero, List.getElem_cons_succ, Act.put, List.setIfInBounds_toArray, List.set_cons_zero, List.set_cons_succ]
      refine wpAnyH_take (i := 2) (oi := _) (v := _) rfl (by kernel_rfl) (by kernel_rfl) (by kernel_rfl) (fun _ _ _ h => h) (yields_load (by rfl) _ _ (by rfl) _ (by rfl) _ (fun w h => h.1)) (by assumption) ?_
      try simp only [List.getElem_toArray, List.getElem_cons_zero, List.getElem_cons_succ, Act.put, List.setIfInBounds_toArray, List.set_cons_zero, List.set_cons_succ]
      refine wpAnyH_ready (rs := [1]) (by kernel_rfl) (by simp) (AllReadyH.cons rfl (fun K hK => ?_) AllReadyH.nil)
      go_simp
      refine (good_any a HS.out.small _ (HL.out.2.chg0 HD.out.2.2)).mono ?_
      rintro e w2 ⟨rfl, hc⟩
      have H2 := Lib.hid (And.intro (HD.out.1.chg hc (by simp)) (And.intro (HD.out.2.1.chg hc (by simp)) (HD.out.2.2.trans hc)))
      clear hc
      go_wp2_with fail
      refine hK.out _ _ ⟨load_act H2.out.1, load_msg H2.out.2.1⟩ (fun hHeld => ?_)
      clear hK K
      try simp only [List.getElem_toArray, List.getElem_cons_zero, List.getElem_cons_succ, Act.put, List.setIfInBounds_toArray, List.set_cons_zero, List.set_cons_succ]
      refine wpAnyH_ready (rs := [3]) (by kernel_rfl) (by simp) (AllReadyH.cons rfl (fun K hK => ?_) AllReadyH.nil)
      go_simp
      refine (rgood_act a HS.out.small w2).mono ?_
      rintro e w3 ⟨rfl, hc⟩
      have H3 := Lib.hid (And.intro (H2.out.1.chg hc (by simp)) (And.intro (H2.out.2.1.chg hc (by simp)) (H2.out.2.2.trans hc)))
      clear hc
      go_wp2_with fail
      refine hK.out _ _ ⟨load_act H3.out.1, load_msg H3.out.2.1⟩ (fun hHeld => ?_)
      clear hK K
      try simp only [List.getElem_toArray, List.getElem_cons_zero, List.getElem_cons_succ, Act.put, List.setIfInBounds_toArray, List.set_cons_zero, List.set_cons_succ]
      generalize Ac.goodA a = ga
      refine wpAnyH_take (i := 4) (oi := _) (v := ?_) rfl (by kernel_rfl) (by kernel_rfl) (by kernel_rfl) (fun _ _ _ h => h) (Or.inl ⟨by rfl, ?_⟩) (by assumption) ?_
      rotate_left 1
      · intro w hSw
        try dsimp only at hSw
        go_simp
        try with_reducible rfl
      try simp only [List.getElem_toArray, List.getElem_cons_zero, List.getElem_cons_succ, Act.put, List.setIfInBounds_toArray, List.set_cons_zero, List.set_cons_succ]
      refine wpAnyH_take (i := 5) (oi := _) (v := ?_) rfl (by kernel_rfl) (by kernel_rfl) (by kernel_rfl) (fun _ _ _ h => h) (Or.inl ⟨by rfl, ?_⟩) (by assumption) ?_
      rotate_left 1
      · intro w hSw
        try dsimp only at hSw
        go_simp
        try with_reducible rfl
      try simp only [List.getElem_toArray, List.getElem_cons_zero, List.getElem_cons_succ, Act.put, List.setIfInBounds_toArray, List.set_cons_zero, List.set_cons_succ]
      refine wpAnyH_take (i := 6) (oi := _) (v := _) rfl (by kernel_rfl) (by kernel_rfl) (by kernel_rfl) (fun _ _ _ h => h) (yields_load (by rfl) _ _ (by rfl) _ (by rfl) _ (fun w h => h.2)) (by assumption) ?_
      try simp only [List.getElem_toArray, List.getElem_cons_zero, List.getElem_cons_succ, Act.put, List.setIfInBounds_toArray, List.set_cons_zero, List.set_cons_succ]
      refine wpAnyH_take (i := 8) (oi := _) (v := _) rfl (by kernel_rfl) (by kernel_rfl) (by kernel_rfl) (fun _ _ _ h => h) (yields_load (by rfl) _ _ (by rfl) _ (by rfl) _ (fun w h => h.2)) (by assumption) ?_
      try simp only [List.getElem_toArray, List.getElem_cons_zero, List.getElem_cons_succ, Act.put, List.setIfInBounds_toArray, List.set_cons_zero, List.set_cons_succ]
      refine wpAnyH_ready (rs := [7]) (by kernel_rfl) (by simp) (AllReadyH.cons rfl (fun K hK => ?_) AllReadyH.nil)
      go_simp
      refine (goodm_any m HM.out.1 w3).mono ?_
      rintro e w4 ⟨rfl, hc⟩
      have H4 := Lib.hid (And.intro (H3.out.1.chg hc (by simp)) (And.intro (H3.out.2.1.chg hc (by simp)) (H3.out.2.2.trans hc)))
      clear hc
      go_wp2_with fail
      refine hK.out _ _ ⟨load_act H4.out.1, load_msg H4.out.2.1⟩ (fun hHeld => ?_)
      clear hK K
      try simp only [List.getElem_toArray, List.getElem_cons_zero, List.getElem_cons_succ, Act.put, List.setIfInBounds_toArray, List.set_cons_zero, List.set_cons_succ]
      refine wpAnyH_ready (rs := [9]) (by kernel_rfl) (by simp) (AllReadyH.cons rfl (fun K hK => ?_) AllReadyH.nil)
      go_simp
      refine (rgoodm_any m HM.out.1 w4).mono ?_
      rintro e w5 ⟨rfl, hc⟩
      have H5 := Lib.hid (And.intro (H4.out.1.chg hc (by simp)) (And.intro (H4.out.2.1.chg hc (by simp)) (H4.out.2.2.trans hc)))
      clear hc
      go_wp2_with fail
      refine hK.out _ _ ⟨load_act H5.out.1, load_msg H5.out.2.1⟩ (fun hHeld => ?_)
      clear hK K
      try simp only [List.getElem_toArray, List.getElem_cons_zero, List.getElem_cons_succ, Act.put, List.setIfInBounds_toArray, List.set_cons_zero, List.set_cons_succ]
      generalize Ac.goodM m = gm
      refine wpAnyH_take (i := 10) (oi := _) (v := ?_) rfl (by kernel_rfl) (by kernel_rfl) (by kernel_rfl) (fun _ _ _ h => h) (Or.inl ⟨by rfl, ?_⟩) (by assumption) ?_
      rotate_left 1
      · intro w hSw
        try dsimp only at hSw
        go_simp
        try with_reducible rfl
      try simp only [List.getElem_toArray, List.getElem_cons_zero, List.getElem_cons_succ, Act.put, List.setIfInBounds_toArray, List.set_cons_zero, List.set_cons_succ]
      refine wpAnyH_take (i := 11) (oi := _) (v := ?_) rfl (by kernel_rfl) (by kernel_rfl) (by kernel_rfl) (fun _ _ _ h => h) (Or.inl ⟨by rfl, ?_⟩) (by assumption) ?_
      rotate_left 1
      · intro w hSw
        try dsimp only at hSw
        go_simp
        try with_reducible rfl
      try simp only [List.getElem_toArray, List.getElem_cons_zero, List.getElem_cons_succ, Act.put, List.setIfInBounds_toArray, List.set_cons_zero, List.set_cons_succ]
      refine wpAnyH_take (i := 12) (oi := _) (v := ?_) rfl (by kernel_rfl) (by kernel_rfl) (by kernel_rfl) (fun _ _ _ h => h) (Or.inl ⟨by rfl, ?_⟩) (by assumption) ?_
      rotate_left 1
      · intro w hSw
        try dsimp only at hSw
        go_simp
        try with_reducible rfl
      try simp only [List.getElem_toArray, List.getElem_cons_zero, List.getElem_cons_succ, Act.put, List.setIfInBounds_toArray, List.set_cons_zero, List.set_cons_succ]
      refine wpAnyH_take (i := 13) (oi := _) (v := _) rfl (by kernel_rfl) (by kernel_rfl) (by kernel_rfl) (fun _ _ _ h => h) (yields_load (by rfl) _ _ (by rfl) _ (by rfl) _ (fun w h => h.1)) (by assumption) ?_
      try simp only [List.getElem_toArray, List.getElem_cons_zero, List.getElem_cons_succ, Act.put, List.setIfInBounds_toArray, List.set_cons_zero, List.set_cons_succ]
      refine wpAnyH_take (i := 15) (oi := _) (v := _) rfl (by kernel_rfl) (by kernel_rfl) (by kernel_rfl) (fun _ _ _ h => h) (yields_load (by rfl) _ _ (by rfl) _ (by rfl) _ (fun w h => h.1)) (by assumption) ?_
      try simp only [List.getElem_toArray, List.getElem_cons_zero, List.getElem_cons_succ, Act.put, List.setIfInBounds_toArray, List.set_cons_zero, List.set_cons_succ]
      refine wpAnyH_ready (rs := [14]) (by kernel_rfl) (by simp) (AllReadyH.cons rfl (fun K hK => ?_) AllReadyH.nil)
      go_simp
      refine (bytes_any a HS.out w5 (HL.out.1.chg0 H5.out.2.2) (HL.out.2.chg0 H5.out.2.2)).mono ?_
      rintro e w6 ⟨A6, n6, c6, rfl, ho6, hc⟩
      have H6 := Lib.hid (And.intro (H5.out.1.chg hc (by simp)) (And.intro (H5.out.2.1.chg hc (by simp)) (H5.out.2.2.trans hc)))
      clear hc
      go_wp2_with fail
      refine hK.out _ _ ⟨load_act H6.out.1, load_msg H6.out.2.1⟩ (fun hHeld => ?_)
      clear hK K
      try simp only [List.getElem_toArray, List.getElem_cons_zero, List.getElem_cons_succ, Act.put, List.setIfInBounds_toArray, List.set_cons_zero, List.set_cons_succ]
      refine wpAnyH_ready (rs := [16]) (by kernel_rfl) (by simp) (AllReadyH.cons rfl (fun K hK => ?_) AllReadyH.nil)
      go_simp
      refine (rbytes_any a HS.out w6).mono ?_
      rintro e w7 ⟨A7, n7, c7, rfl, ho7, hc⟩
      have HO := Lib.hid (And.intro (ho6.chg0 hc).bt ho7.bt)
      clear ho6 ho7
      have H7 := Lib.hid (And.intro (H6.out.1.chg hc (by simp)) (And.intro (H6.out.2.1.chg hc (by simp)) (H6.out.2.2.trans hc)))
      clear hc
      go_wp2_with fail
      refine hK.out _ _ ⟨load_act H7.out.1, load_msg H7.out.2.1⟩ (fun hHeld => ?_)
      clear hK K
      try simp only [List.getElem_toArray, List.getElem_cons_zero, List.getElem_cons_succ, Act.put, List.setIfInBounds_toArray, List.set_cons_zero, List.set_cons_succ]
      refine wpAnyH_ready (rs := [17]) (by kernel_rfl) (by simp) (AllReadyH.cons rfl (fun K hK => ?_) AllReadyH.nil)
      go_simp
      refine (same_any w7 _ _ _ _ _ _ _ _ HO.out.1 HO.out.2).mono ?_
      rintro e w8 ⟨rfl, rfl⟩
      rw [beq_self_eq_true]
      go_wp2_with fail
      refine hK.out _ _ ⟨load_act H7.out.1, load_msg H7.out.2.1⟩ (fun hHeld => ?_)
      clear hK K
      try simp only [List.getElem_toArray, List.getElem_cons_zero, List.getElem_cons_succ, Act.put, List.setIfInBounds_toArray, List.set_cons_zero, List.set_cons_succ]
      refine wpAnyH_take (i := 18) (oi := _) (v := ?_) rfl (by kernel_rfl) (by kernel_rfl) (by kernel_rfl) (fun _ _ _ h => h) (Or.inl ⟨by rfl, ?_⟩) (by assumption) ?_
      rotate_left 1
      · intro w hSw
        try dsimp only at hSw
        go_simp
        try with_reducible rfl
      try simp only [List.getElem_toArray, List.getElem_cons_zero, List.getElem_cons_succ, Act.put, List.setIfInBounds_toArray, List.set_cons_zero, List.set_cons_succ]
      refine wpAnyH_take (i := 19) (oi := _) (v := ?_) rfl (by kernel_rfl) (by kernel_rfl) (by kernel_rfl) (fun _ _ _ h => h) (Or.inl ⟨by rfl, ?_⟩) (by assumption) ?_
      rotate_left 1
      · intro w hSw
        try dsimp only at hSw
        go_simp
        try with_reducible rfl
      try simp only [List.getElem_toArray, List.getElem_cons_zero, List.getElem_cons_succ, Act.put, List.setIfInBounds_toArray, List.set_cons_zero, List.set_cons_succ]
      refine wpAnyH_take (i := 20) (oi := _) (v := _) rfl (by kernel_rfl) (by kernel_rfl) (by kernel_rfl) (fun _ _ _ h => h) (yields_load (by rfl) _ _ (by rfl) _ (by rfl) _ (fun w h => h.2)) (by assumption) ?_
      try simp only [List.getElem_toArray, List.getElem_cons_zero, List.getElem_cons_succ, Act.put, List.setIfInBounds_toArray, List.set_cons_zero, List.set_cons_succ]
      refine wpAnyH_take (i := 22) (oi := _) (v := _) rfl (by kernel_rfl) (by kernel_rfl) (by kernel_rfl) (fun _ _ _ h => h) (yields_load (by rfl) _ _ (by rfl) _ (by rfl) _ (fun w h => h.2)) (by assumption) ?_
      try simp only [List.getElem_toArray, List.getElem_cons_zero, List.getElem_cons_succ, Act.put, List.setIfInBounds_toArray, List.set_cons_zero, List.set_cons_succ]
      refine wpAnyH_ready (rs := [21]) (by kernel_rfl) (by simp) (AllReadyH.cons rfl (fun K hK => ?_) AllReadyH.nil)
      go_simp
      refine (mbytes_any m HM.out.2 w7 (HL.out.1.chg0 H7.out.2.2)).mono ?_
      rintro e w8 ⟨A8, n8, c8, rfl, ho6, hc⟩
      have H8 := Lib.hid (And.intro (H7.out.1.chg hc (by simp)) (And.intro (H7.out.2.1.chg hc (by simp)) (H7.out.2.2.trans hc)))
      clear hc
      go_wp2_with fail
      refine hK.out _ _ ⟨load_act H8.out.1, load_msg H8.out.2.1⟩ (fun hHeld => ?_)
      clear hK K
      try simp only [List.getElem_toArray, List.getElem_cons_zero, List.getElem_cons_succ, Act.put, List.setIfInBounds_toArray, List.set_cons_zero, List.set_cons_succ]
      refine wpAnyH_ready (rs := [23]) (by kernel_rfl) (by simp) (AllReadyH.cons rfl (fun K hK => ?_) AllReadyH.nil)
      go_simp
      refine (rmessage_any w8 _ _ _ _ (Bt.nil _) m HM.out.2 (by omega)).mono ?_
      rintro e w9 ⟨A9, n9, c9, rfl, ho7, hc⟩
      have HO2 := Lib.hid (And.intro (ho6.chg0 hc).bt ho7.bt)
      clear ho6 ho7
      have H9 := Lib.hid (And.intro (H8.out.1.chg hc (by simp)) (And.intro (H8.out.2.1.chg hc (by simp)) (H8.out.2.2.trans hc)))
      clear hc
      go_wp2_with fail
      refine hK.out _ _ ⟨load_act H9.out.1, load_msg H9.out.2.1⟩ (fun hHeld => ?_)
      clear hK K
      try simp only [List.getElem_toArray, List.getElem_cons_zero, List.getElem_cons_succ, Act.put, List.setIfInBounds_toArray, List.set_cons_zero, List.set_cons_succ]
      refine wpAnyH_ready (rs := [24]) (by kernel_rfl) (by simp) (AllReadyH.cons rfl (fun K hK => ?_) AllReadyH.nil)
      go_simp
      refine (same_any w9 _ _ _ _ _ _ _ _ HO2.out.1 HO2.out.2).mono ?_
      rintro e w10 ⟨rfl, rfl⟩
      rw [List.nil_append, beq_self_eq_true]
      go_wp2_with fail
      refine hK.out _ _ ⟨load_act H9.out.1, load_msg H9.out.2.1⟩ (fun hHeld => ?_)
      clear hK K
      try simp only [List.getElem_toArray, List.getElem_cons_zero, List.getElem_cons_succ, Act.put, List.setIfInBounds_toArray, List.set_cons_zero, List.set_cons_succ]
      refine wpAnyH_take (i := 25) (oi := _) (v := ?_) rfl (by kernel_rfl) (by kernel_rfl) (by kernel_rfl) (fun _ _ _ h => h) (Or.inl ⟨by rfl, ?_⟩) (by assumption) ?_
      rotate_left 1
      · intro w hSw
        try dsimp only at hSw
        go_simp
        try with_reducible rfl
      try simp only [List.getElem_toArray, List.getElem_cons_zero, List.getElem_cons_succ, Act.put, List.setIfInBounds_toArray, List.set_cons_zero, List.set_cons_succ]
      refine wpAnyH_take (i := 26) (oi := _) (v := ?_) rfl (by kernel_rfl) (by kernel_rfl) (by kernel_rfl) (fun _ _ _ h => h) (Or.inl ⟨by rfl, ?_⟩) (by assumption) ?_
      rotate_left 1
      · intro w hSw
        try dsimp only at hSw
        go_simp
        try with_reducible rfl
      try simp only [List.getElem_toArray, List.getElem_cons_zero, List.getElem_cons_succ, Act.put, List.setIfInBounds_toArray, List.set_cons_zero, List.set_cons_succ]
      refine wpAnyH_ready (rs := [27]) (by kernel_rfl) (by simp) (AllReadyH.cons rfl (fun K hK => ?_) AllReadyH.nil)
      go_simp
      refine (lives_any w9 (HL.out.chg0 H9.out.2.2)).mono ?_
      rintro e w11 ⟨rfl, hc⟩
      have H10 := Lib.hid (And.intro (H9.out.1.chg hc (by simp)) (And.intro (H9.out.2.1.chg hc (by simp)) (H9.out.2.2.trans hc)))
      clear hc
      go_wp2_with fail
      refine hK.out _ _ ⟨load_act H10.out.1, load_msg H10.out.2.1⟩ (fun hHeld => ?_)
      clear hK K
      try simp only [List.getElem_toArray, List.getElem_cons_zero, List.getElem_cons_succ, Act.put, List.setIfInBounds_toArray, List.set_cons_zero, List.set_cons_succ]
      refine wpAnyH_take (i := 28) (oi := _) (v := ?_) rfl (by kernel_rfl) (by kernel_rfl) (by kernel_rfl) (fun _ _ _ h => h) (Or.inl ⟨by rfl, ?_⟩) (by assumption) ?_
      rotate_left 1
      · intro w hSw
        try dsimp only at hSw
        go_simp
        try with_reducible rfl
      try simp only [List.getElem_toArray, List.getElem_cons_zero, List.getElem_cons_succ, Act.put, List.setIfInBounds_toArray, List.set_cons_zero, List.set_cons_succ]
      refine wpAnyH_take (i := 29) (oi := _) (v := ?_) rfl (by kernel_rfl) (by kernel_rfl) (by kernel_rfl) (fun _ _ _ h => h) (Or.inl ⟨by rfl, ?_⟩) (by assumption) ?_
      rotate_left 1
      · intro w hSw
        try dsimp only at hSw
        go_simp
        try with_reducible rfl
      try simp only [List.getElem_toArray, List.getElem_cons_zero, List.getElem_cons_succ, Act.put, List.setIfInBounds_toArray, List.set_cons_zero, List.set_cons_succ]
      refine wpAnyH_done (by kernel_rfl) ?_ _
      refine NoPanic.normal ?_
      go_wp2
      go_ret
      exact ⟨rfl, H10.out.2.2.end_⟩
end Go.Proofs.YtmfaooihigphgaaDoor.actTells
