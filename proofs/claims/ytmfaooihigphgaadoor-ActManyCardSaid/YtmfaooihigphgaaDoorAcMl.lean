/- ActMany: the law walked. -/
import Derived.Test.YtmfaooihigphgaaDoorAcMx
import Derived.Test.YtmfaooihigphgaaDoorAcMy
set_option linter.unusedVariables false
set_option linter.unusedSimpArgs false
namespace Go.Proofs.YtmfaooihigphgaaDoor
open Go.RowKit Go.ChangeShapes Go.WideShapes
open Go.Proofs.YtmfaooihigphgaaDoor.Ac (ActS)
theorem Chg.end_ {w w' : World} (h : Chg [] w w') : Below w.heap.size w w' := h.below (Nat.le_refl _) (by simp)
section
variable {H : Type} {enc : TypeId × Value → H} {w : World} {base : Nat} {spare : Nat → Bool} {held : Bool}
set_option maxRecDepth 100000 in
/-- Acts among a law's arguments. -/
theorem open_acts {r : Reach} {b0 : Nat} {v : Value} {d : DataW H} {p : List MemPlace} (hv : Value.okWide Tryd.prog w r b0 54 v) (h : DataW.Trod enc Tryd.prog w base spare held 54 v d p) (hs : Small Tryd.prog 54 d) :
    ∃ (A : Option Addr) (c : Nat) (ys : List ActS), v = .slice A ys.length c ∧ LdA w A ys ∧ (∀ y ∈ ys, y.Wf) := by
  obtain ⟨A, c, ys, h1, _, _, _, h4, h5, _⟩ := open_structs_s (fun a => (ActS.cells a).toList) Ac.ActS.Wf Tryd.underlying54 cellsActA (fun fuel cs x h hs => trod_actA h hs) hv h hs
  exact ⟨A, c, ys, h1, h4.lda, h5⟩
end
theorem manyB_len (l : List ActS) : (Ac.manyB l).length ≤ 2 + 803 * l.length := by
  cases h : l.all Ac.goodA with
  | true => rw [many_good h]; exact manyF_len _ _ _
  | false =>
    unfold Ac.manyB
    rw [if_neg (by rw [h]; simp)]
    simp
end Go.Proofs.YtmfaooihigphgaaDoor
namespace Go.Proofs.YtmfaooihigphgaaDoor.actMany
open Go.RowKit Go.Proofs.YtmfaooihigphgaaDoor
open Go.Proofs.YtmfaooihigphgaaDoor.Ac (ActS)
set_option maxRecDepth 100000 in
set_option maxHeartbeats 16000000 in
theorem walk (A : Option Addr) (c : Nat) (ys : List ActS) (W : World) (hB : LdA W A ys ∧ (∀ y ∈ ys, y.Wf)) (hL : Laid W) : Calls Tryd.prog 7 #[.slice A ys.length c] W fun e w' => e = .returned (.bool true) ∧ Below W.heap.size W w' := by
  have HL := Lib.hid hL
  have HW := Lib.hid hB
  have H0 := Lib.hid (Chg.refl [] W)
  clear hL hB
  obtain ⟨n, hn⟩ : ∃ n, n = ys.length := ⟨_, rfl⟩
  rw [← hn]
  have HN := Lib.hid hn
  clear hn
  go_enter Tryd.func7, Tryd.ntmps7
  by_cases hn : (100 : Int) < (n : Int)
  · skip
    go_wp2_with fail
    refine (lives_any _ (HL.out.chg0 H0.out)).mono ?_
    rintro e wF ⟨rfl, hc⟩
    have HF := Lib.hid (H0.out.trans hc)
    clear hc
    go_wp2
    try rw [Exit.noGoto_ret]
    go_ret
    exact ⟨rfl, HF.out.end_⟩
  go_wp2_with fail
  go_loopw [16, 3, 5] (fun s16 s3 _ wr => ∃ j : Nat, j ≤ n ∧ s16 = .int .i64 j ∧ s3 = .bool ((ys.take j).all Ac.goodA) ∧ Hid (Chg [] W wr) ∧ Hid (∀ a ∈ ys.take j, a.FitA)) (fun s16 _ _ _ => n - (intOf s16).toNat)
  case atStart => exact ⟨0, Nat.zero_le _, rfl, by simp, H0, Lib.hid (by simp)⟩
  case round =>
    obtain ⟨j, hj, rfl, rfl, HC, HF⟩ := hrel
    obtain ⟨gs, hgs⟩ : ∃ gs, gs = (ys.take j).all Ac.goodA := ⟨_, rfl⟩
    rw [← hgs]
    have HGS := Lib.hid hgs
    clear hgs
    by_cases hlt : j < n
    · obtain ⟨a, hx⟩ : ∃ a, ys[j]? = some a := ⟨_, List.getElem?_eq_getElem (by rw [← HN.out]; exact hlt)⟩
      have haw := HW.out.2 a (List.mem_of_getElem? hx)
      obtain ⟨g, off, hA, hld⟩ := HW.out.1.load hx
      subst hA
      have hl1 := hld wr HC.out
      have i0 : (0 : Int) ≤ (j : Int) := by omega
      have i1 : (j : Int) < (n : Int) := by omega
      obtain ⟨w4, hst, hbn, hc⟩ := new_act wr a
      have HX := Lib.hid (And.intro hx haw)
      have HB := Lib.hid hbn
      have C4 := Lib.hid (HC.out.trans hc)
      clear hx haw hld hbn hc
      go_upto_region 7 with (first | (refine wpList_loadW _ _ (by rfl) _ _ (by rfl) hl1 (by rfl) ?_) | (refine wpList_storeR (by rfl) _ _ _ (by rfl) _ _ (by rfl) (by rfl) _ hst ?_))
      clear hl1 hst i0 i1
      have hl2 := load_act HB.out
      go_wp2_with (refine wpList_loadW _ _ (by rfl) _ _ (by rfl) hl2 (by rfl) ?_)
      clear hl2
      refine (great_any a HX.out.2.size w4).mono ?_
      rintro e w5 ⟨rfl, hc⟩
      have C5 := Lib.hid (C4.out.trans hc)
      have HB5 := Lib.hid (HB.out.chg hc (by simp))
      clear hc
      by_cases hg : 3000 < sumA a
      · rw [decide_eq_true hg]
        clear hg
        go_wp2_with fail
        refine (lives_any _ (HL.out.chg0 C5.out)).mono ?_
        rintro e wF ⟨rfl, hc⟩
        have HF := Lib.hid (C5.out.trans hc)
        clear hc
        go_wp2
        try rw [Exit.noGoto_ret]
        go_ret
        exact ⟨rfl, HF.out.end_⟩
      · rw [decide_eq_false hg]
        have HS := Lib.hid (HX.out.2.fitA (by omega))
        clear hg
        have HF2 := Lib.hid (show ∀ b ∈ ys.take (j + 1), b.FitA by
          intro b hb
          rw [List.take_add_one, HX.out.1] at hb
          simp only [Option.toList_some, List.mem_append, List.mem_singleton] at hb
          rcases hb with hb | rfl
          · exact HF.out b hb
          · exact HS.out)
        cases gs with
        | false =>
          have HG2 := Lib.hid (show (ys.take (j + 1)).all Ac.goodA = false by rw [all_take HX.out.1, ← HGS.out]; rfl)
          go_wp2_with fail
          go_roundw
          case rel => exact ⟨j + 1, by omega, by go_num, by rw [HG2.out], C5, HF2⟩
          case measure => simp [intOf]; omega
        | true =>
          have hl2 := load_act HB5.out
          go_wp2_with (refine wpList_loadW _ _ (by rfl) _ _ (by rfl) hl2 (by rfl) ?_)
          clear hl2
          refine (good_any a HS.out.small w5 (HL.out.2.chg0 C5.out)).mono ?_
          rintro e w6 ⟨rfl, hc⟩
          have C6 := Lib.hid (C5.out.trans hc)
          clear hc
          have HG2 := Lib.hid (show (ys.take (j + 1)).all Ac.goodA = Ac.goodA a by rw [all_take HX.out.1, ← HGS.out, Bool.true_and])
          generalize Ac.goodA a = ga at *
          go_wp2_with fail
          go_roundw
          case rel => exact ⟨j + 1, by omega, by go_num, by rw [HG2.out], C6, HF2⟩
          case measure => simp [intOf]; omega
    · obtain rfl : n = j := by omega
      have HFA := Lib.hid (show ∀ a ∈ ys, a.FitA by
        have h1 := HF.out
        rwa [List.take_of_length_le (by rw [← HN.out]; exact Nat.le_refl _)] at h1)
      have HGA := Lib.hid (show gs = ys.all Ac.goodA by
        have h1 := HGS.out
        rwa [List.take_of_length_le (by rw [← HN.out]; exact Nat.le_refl _)] at h1)
      clear HF HGS
      have hn100 : n ≤ 100 := by omega
      go_wp2_with fail
      refine (wmany_any (HW.out.1.chg0 HC.out) HN.out hn100 HFA.out (HL.out.1.chg0 HC.out) (HL.out.2.chg0 HC.out)).mono ?_
      rintro e wb ⟨B, m, d, rfl, hb, hc⟩
      have hm : m ≤ 1000000 := by
        have h1 := hb.len
        have h2 := manyB_len ys
        have h3 := HN.out
        omega
      have HB := Lib.hid hb
      have Cb := Lib.hid (HC.out.trans hc)
      clear hb hc
      go_wp2_with fail
      refine (amany_any HB.out hm (HL.out.1.chg0 Cb.out) (HL.out.2.chg0 Cb.out)).mono ?_
      rintro e wc ⟨B1, m1, d1, rfl, hm1, ho1, hc⟩
      have hrl := Ac.readL_many ys (by rw [← HN.out]; omega) (fun a ha => (HFA.out a ha).fit)
      rw [← HGA.out] at hrl
      have hel : errL (Ac.manyB ys) = if gs = true then 0 else 7 := by
        unfold errL
        rw [hrl]
        cases gs <;> rfl
      have hgl : (Ac.readL (Ac.manyB ys)).getD [] = if gs = true then ys else [] := by
        rw [hrl]
        cases gs <;> rfl
      rw [hgl] at hm1 ho1
      rw [hel]
      have HB2 := Lib.hid (HB.out.chg0 hc)
      have Cc := Lib.hid (Cb.out.trans hc)
      have HO1 := Lib.hid (And.intro hm1 ho1)
      clear hrl hel hgl hm1 ho1 hc
      cases gs with
      | true =>
        have e1 : (if true = true then ys else []) = ys := rfl
        rw [e1] at HO1
        clear e1
        simp only [if_true]
        obtain rfl : n = m1 := HN.out.trans HO1.out.1.symm
        go_wp2_with fail
        refine (rwmany_any (HW.out.1.chg0 Cc.out) HN.out hn100 HFA.out).mono ?_
        rintro e wd ⟨B2, m2, d2, rfl, hb2, hc⟩
        have HB3 := Lib.hid (And.intro (HB2.out.chg0 hc) hb2)
        have Cd := Lib.hid (Cc.out.trans hc)
        clear hb2
        go_wp2_with fail
        refine (same_any wd _ _ _ _ _ _ _ _ HB3.out.1 HB3.out.2).mono ?_
        rintro e we ⟨rfl, rfl⟩
        rw [beq_self_eq_true]
        have HO := Lib.hid (HO1.out.2.chg0 hc).lda
        clear hc
        have n1 : ((n : Int) == (n : Int)) = true := by simp
        go_upto_region 15 with fail
        clear n1
        go_wp2_with fail
        go_loopw [59, 9] (fun s59 _ wr => ∃ j : Nat, j ≤ n ∧ s59 = .int .i64 j ∧ Hid (Chg [] wd wr)) (fun s59 _ _ => n - (intOf s59).toNat)
        case atStart => exact ⟨0, Nat.zero_le _, rfl, Lib.hid (Chg.refl _ _)⟩
        case round =>
          obtain ⟨j, hj, rfl, HC⟩ := hrel
          by_cases hlt : j < n
          · have t1 : decide ((j : Int) < ((n : Nat) : Int)) = true := decide_eq_true (by omega)
            obtain ⟨x, hx⟩ : ∃ x, ys[j]? = some x := ⟨_, List.getElem?_eq_getElem (by rw [← HN.out]; exact hlt)⟩
            obtain ⟨g1, o1, hB1, k1⟩ := HO.out.load hx
            obtain ⟨g2, o2, hB2, k2⟩ := HW.out.1.load hx
            subst hB1 hB2
            have HK := Lib.hid (And.intro (k1 _ (HC.out.drewN 1)) (k2 _ ((Cd.out.trans HC.out).drewN 1)))
            clear k1 k2 hx
            have i0 : (0 : Int) ≤ (j : Int) := by omega
            have i1 : (j : Int) < ((n : Nat) : Int) := by omega
            go_upto_region 18 with fail
            refine wp_region_noPanic ?_
            refine wp_region_held_drew (S := fun w' => (Instr.loadAt 32 (.pointer (some ⟨g1, o1 + j * 17, none⟩))).run Tryd.prog w' = .ok (.agg (ActS.cells x)) w' ∧ (Instr.loadAt 32 (.pointer (some ⟨g2, o2 + j * 17, none⟩))).run Tryd.prog w' = .ok (.agg (ActS.cells x)) w') (by kernel_rfl) HK.out (fun hHeld => ?_)
            refine wpAnyH_take (i := 0) (oi := _) (v := ?_) rfl (by kernel_rfl) (by kernel_rfl) (by kernel_rfl) (fun _ _ _ h => h) (Or.inl ⟨by rfl, ?_⟩) (by assumption) ?_
            rotate_left 1
            · intro w hSw
              try dsimp only at hSw
              go_simp
              try with_reducible rfl
            try simp only [List.getElem_toArray, List.getElem_cons_zero, List.getElem_cons_succ, Act.put, List.setIfInBounds_toArray, List.set_cons_zero, List.set_cons_succ]
            refine wpAnyH_take (i := 1) (oi := _) (v := ?_) rfl (by kernel_rfl) (by kernel_rfl) (by kernel_rfl) (fun _ _ _ h => h) (Or.inl ⟨by rfl, ?_⟩) (by assumption) ?_
            rotate_left 1
            · intro w hSw
              try dsimp only at hSw
              go_simp
              try with_reducible rfl
            try simp only [List.getElem_toArray, List.getElem_cons_zero, List.getElem_cons_succ, Act.put, List.setIfInBounds_toArray, List.set_cons_zero, List.set_cons_succ]
            refine wpAnyH_take (i := 2) (oi := _) (v := ?_) rfl (by kernel_rfl) (by kernel_rfl) (by kernel_rfl) (fun _ _ _ h => h) (Or.inl ⟨by rfl, ?_⟩) (by assumption) ?_
            rotate_left 1
            · intro w hSw
              try dsimp only at hSw
              go_simp
              try with_reducible rfl
            try simp only [List.getElem_toArray, List.getElem_cons_zero, List.getElem_cons_succ, Act.put, List.setIfInBounds_toArray, List.set_cons_zero, List.set_cons_succ]
            refine wpAnyH_take (i := 3) (oi := _) (v := _) rfl (by kernel_rfl) (by kernel_rfl) (by kernel_rfl) (fun _ _ _ h => h) (yields_load (by rfl) _ _ (by rfl) _ (by rfl) _ (fun w h => h.1)) (by assumption) ?_
            try simp only [List.getElem_toArray, List.getElem_cons_zero, List.getElem_cons_succ, Act.put, List.setIfInBounds_toArray, List.set_cons_zero, List.set_cons_succ]
            refine wpAnyH_take (i := 4) (oi := _) (v := ?_) rfl (by kernel_rfl) (by kernel_rfl) (by kernel_rfl) (fun _ _ _ h => h) (Or.inl ⟨by rfl, ?_⟩) (by assumption) ?_
            rotate_left 1
            · intro w hSw
              try dsimp only at hSw
              go_simp
              try with_reducible rfl
            try simp only [List.getElem_toArray, List.getElem_cons_zero, List.getElem_cons_succ, Act.put, List.setIfInBounds_toArray, List.set_cons_zero, List.set_cons_succ]
            refine wpAnyH_take (i := 5) (oi := _) (v := ?_) rfl (by kernel_rfl) (by kernel_rfl) (by kernel_rfl) (fun _ _ _ h => h) (Or.inl ⟨by rfl, ?_⟩) (by assumption) ?_
            rotate_left 1
            · intro w hSw
              try dsimp only at hSw
              go_simp
              try with_reducible rfl
            try simp only [List.getElem_toArray, List.getElem_cons_zero, List.getElem_cons_succ, Act.put, List.setIfInBounds_toArray, List.set_cons_zero, List.set_cons_succ]
            refine wpAnyH_take (i := 6) (oi := _) (v := ?_) rfl (by kernel_rfl) (by kernel_rfl) (by kernel_rfl) (fun _ _ _ h => h) (Or.inl ⟨by rfl, ?_⟩) (by assumption) ?_
            rotate_left 1
            · intro w hSw
              try dsimp only at hSw
              go_simp
              try with_reducible rfl
            try simp only [List.getElem_toArray, List.getElem_cons_zero, List.getElem_cons_succ, Act.put, List.setIfInBounds_toArray, List.set_cons_zero, List.set_cons_succ]
            refine wpAnyH_take (i := 7) (oi := _) (v := _) rfl (by kernel_rfl) (by kernel_rfl) (by kernel_rfl) (fun _ _ _ h => h) (yields_load (by rfl) _ _ (by rfl) _ (by rfl) _ (fun w h => h.2)) (by assumption) ?_
            try simp only [List.getElem_toArray, List.getElem_cons_zero, List.getElem_cons_succ, Act.put, List.setIfInBounds_toArray, List.set_cons_zero, List.set_cons_succ]
            refine wpAnyH_take (i := 8) (oi := _) (v := _) rfl (by kernel_rfl) (by kernel_rfl) (by kernel_rfl) (fun _ _ _ h => h) (yields_eq (by rfl) _ _ _ _ _ (by rfl) _ _ _ (by rfl) (by rfl) (fun _ _ _ => eqGuard_agg (by kernel_rfl) _ _ _ _ _) (fun w => run_neq_act x x w)) (by assumption) ?_
            try simp only [List.getElem_toArray, List.getElem_cons_zero, List.getElem_cons_succ, Act.put, List.setIfInBounds_toArray, List.set_cons_zero, List.set_cons_succ]
            refine wpAnyH_done (by kernel_rfl) ?_ _
            refine NoPanic.normal ?_
            rw [(Ac.sameS_iff x x).2 rfl]
            generalize Value.agg (ActS.cells x) = v8
            have HD := Lib.hid (HC.out.drew)
            clear i0 i1
            go_wp2_with fail
            go_roundw
            case rel => exact ⟨j + 1, by omega, by go_num, HD⟩
            case measure => simp [intOf]; omega
          · have t1 : decide ((j : Int) < ((n : Nat) : Int)) = false := decide_eq_false (by omega)
            have HG := Lib.hid (Cd.out.trans HC.out)
            go_wp2_with fail
            refine (lives_any _ (HL.out.chg0 HG.out)).mono ?_
            rintro e wF ⟨rfl, hc⟩
            have HF := Lib.hid (HG.out.trans hc)
            clear hc
            go_wp2
            try rw [Exit.noGoto_ret]
            go_ret
            exact ⟨rfl, HF.out.end_⟩
      | false =>
        have e1 : (if false = true then ys else []) = [] := rfl
        rw [e1] at HO1
        clear e1
        simp only [Bool.false_eq_true, if_false]
        obtain rfl : m1 = 0 := HO1.out.1
        go_wp2_with fail
        refine (rwmany_any (HW.out.1.chg0 Cc.out) HN.out hn100 HFA.out).mono ?_
        rintro e wd ⟨B2, m2, d2, rfl, hb2, hc⟩
        have HB3 := Lib.hid (And.intro (HB2.out.chg0 hc) hb2)
        have Cd := Lib.hid (Cc.out.trans hc)
        clear hb2
        go_wp2_with fail
        refine (same_any wd _ _ _ _ _ _ _ _ HB3.out.1 HB3.out.2).mono ?_
        rintro e we ⟨rfl, rfl⟩
        rw [beq_self_eq_true]
        clear hc
        go_upto_region 15 with fail
        go_wp2_with fail
        go_loopw [59, 9] (fun s59 _ wr => s59 = .int .i64 0 ∧ Hid (Chg [] wd wr)) (fun _ _ _ => 0)
        case atStart => exact ⟨rfl, Lib.hid (Chg.refl _ _)⟩
        case round =>
          obtain ⟨rfl, HC⟩ := hrel
          have HG := Lib.hid (Cd.out.trans HC.out)
          go_wp2_with fail
          refine (lives_any _ (HL.out.chg0 HG.out)).mono ?_
          rintro e wF ⟨rfl, hc⟩
          have HF := Lib.hid (HG.out.trans hc)
          clear hc
          go_wp2
          try rw [Exit.noGoto_ret]
          go_ret
          exact ⟨rfl, HF.out.end_⟩
end Go.Proofs.YtmfaooihigphgaaDoor.actMany
