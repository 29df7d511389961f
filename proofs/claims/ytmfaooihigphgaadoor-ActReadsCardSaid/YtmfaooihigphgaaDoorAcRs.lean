/- ActReads: the law walked. -/
import Derived.Test.YtmfaooihigphgaaDoorAcMr
import Derived.Test.YtmfaooihigphgaaDoorAcTl
import Derived.ChangeSlices
set_option linter.unusedVariables false
set_option linter.unusedSimpArgs false
namespace Go.Proofs.YtmfaooihigphgaaDoor
open Go.RowKit Go.ChangeShapes Go.WideShapes
open Go.Proofs.YtmfaooihigphgaaDoor.Ac (ActS)

theorem Chg.end_ {w w' : World} (h : Chg [] w w') : Below w.heap.size w w' := h.below (Nat.le_refl _) (by simp)
set_option maxRecDepth 100000 in
/-- One of a slice's acts is read whole. -/
theorem load_own {w : World} {base : Nat} {A : Option Addr} {n c : Nat} {l : List ActS} (h : OwnS w base 32 17 A n c (flatA l)) {i : Nat} {x : ActS} (hi : l[i]? = some x) :
    ∃ g off, A = some ⟨g, off, none⟩ ∧ (Instr.loadAt 32 (.pointer (some ⟨g, off + i * 17, none⟩))).run Tryd.prog w = .ok (.agg (ActS.cells x)) w := by
  rcases h.at_ with ⟨rfl, h0⟩ | ⟨g, off, cur, rfl, _, hg, _, hx⟩
  · obtain ⟨a, ha, _⟩ := own_act h hi
    cases ha
  · refine ⟨g, off, rfl, ?_⟩
    have := run_loadAt_mid (P := Tryd.prog) w g (off + i * 17) 32 (ActS.cells x).toList _ (fun j v hv => by
      rw [Nat.add_assoc, cell_of_row w g _ cur 32 (0, 0) hg]
      exact hx _ _ (flatA_at hi (by rw [← Array.getElem?_toList]; exact hv))) Tryd.underlying32 rfl (by rw [Array.length_toList]; exact info_act)
    rwa [Array.toArray_toList] at this
theorem loopR_len : ∀ (n : Nat) (r : Ac.R) (acc acc' : List ActS) (r' : Ac.R), Ac.loopR n r acc = some (acc', r') → acc'.length ≤ acc.length + n
  | 0, r, acc, acc', r', h => by
    cases h
    omega
  | n + 1, none, acc, acc', r', h => by
    cases h
    omega
  | n + 1, some l, acc, acc', r', h => by
    rw [loopR_some] at h
    cases hr : Ac.readA (Ac.txtR (some l)).1 with
    | none => rw [hr] at h; cases h
    | some a =>
      rw [hr] at h
      have := loopR_len n _ _ _ _ h
      rw [List.length_append, List.length_singleton] at this
      omega
theorem readL_len (l : Bs) : ((Ac.readL l).getD []).length ≤ 65535 := by
  have hv := Ac.numR_lt 2 (some l)
  cases hr : Ac.loopR (Ac.numR 2 (some l)).1 (Ac.numR 2 (some l)).2 [] with
  | none => rw [readL_of l none hr]; simp
  | some x =>
    obtain ⟨acc, r⟩ := x
    have h1 := loopR_len _ _ _ _ _ hr
    rw [readL_of l (some (acc, r)) hr]
    simp only
    rw [List.length_nil] at h1
    split
    · simp only [Option.getD_some]
      omega
    · simp
set_option maxRecDepth 100000 in
theorem cellsU8 : Tryd.prog.cellsOf 5 = 1 := by kernel_rfl
section
variable {H : Type} {enc : TypeId × Value → H} {w : World} {base : Nat} {spare : Nat → Bool} {held : Bool}
set_option maxRecDepth 100000 in
/-- Bytes among a law's arguments. -/
theorem open_bytes {r : Reach} {b0 : Nat} {v : Value} {d : DataW H} {p : List MemPlace} (hv : Value.okWide Tryd.prog w r b0 37 v) (h : DataW.Trod enc Tryd.prog w base spare held 37 v d p) :
    ∃ (A : Option Addr) (n c : Nat) (l : Bs), v = .slice A n c ∧ Bt w A n c l := by
  obtain ⟨a, len, cap, rfl⟩ := okWide_slice Tryd.underlying37 hv
  obtain ⟨fuel, hf⟩ := h
  rcases open_ints Tryd.underlying37 Tryd.underlying5 cellsU8 hf with ⟨hcs, _⟩ | ⟨x, l, c, zs, hcs, _, hl, hm, hz, _, hcell, hwz⟩
  · simp [Value.cells] at hcs
    obtain ⟨rfl, rfl, rfl⟩ := hcs
    exact ⟨none, 0, 0, [], rfl, Bt.nil _⟩
  · simp [Value.cells] at hcs
    obtain ⟨rfl, rfl, rfl⟩ := hcs
    have hlz : len ≤ zs.length := by rw [hz]; split <;> omega
    refine ⟨some x, len, cap, (zs.take len).map fun z => UInt8.ofNat z.toNat, rfl, ⟨by simp; omega, ⟨by rw [bvs_len]; simp; omega, fun i u hu => ⟨x, rfl, ?_⟩⟩, fun y hy => ?_⟩⟩
    · unfold bvs at hu
      rw [List.map_map, List.getElem?_map, List.getElem?_take] at hu
      split at hu
      case isTrue hi =>
        rw [hcell i (by omega), List.getD, ← hu, List.getElem?_eq_getElem (by omega : i < zs.length)]
        have hw := hwz zs[i] (List.getElem_mem _)
        simp only [Lit.wf, Bool.and_eq_true, decide_eq_true_eq] at hw
        have e1 : IntKind.u8.min = 0 := by decide
        have e2 : IntKind.u8.max = 255 := by decide
        rw [e1, e2] at hw
        simp only [Option.map_some, Option.getD_some, Function.comp, bv]
        congr 2
        simp
        omega
      case isFalse hi => cases hu
    · cases hy
      simp only [Value.okWide, Tryd.underlying37, Cell.okWide, Cell.ok, World.has] at hv
      exact hv.2.2.2.1
end
end Go.Proofs.YtmfaooihigphgaaDoor
namespace Go.Proofs.YtmfaooihigphgaaDoor.actReads
open Go.RowKit Go.Proofs.YtmfaooihigphgaaDoor
open Go.Proofs.YtmfaooihigphgaaDoor.Ac (ActS)
set_option maxRecDepth 100000 in
set_option maxHeartbeats 16000000 in
theorem walk (A : Option Addr) (n c : Nat) (l : Bs) (W : World) (hB : Bt W A n c l) (hL : Laid W) : Calls Tryd.prog 6 #[.slice A n c] W fun e w' => e = .returned (.bool true) ∧ Below W.heap.size W w' := by
  have HL := Lib.hid hL
  have HB := Lib.hid hB
  have H0 := Lib.hid (Chg.refl [] W)
  clear hL hB
  go_enter Tryd.func6, Tryd.ntmps6
  by_cases hn : (5000 : Int) < (n : Int)
  · skip
    go_wp2_with fail
    refine (lives_any _ (HL.out.chg0 H0.out)).mono ?_
    rintro e wF ⟨rfl, hc⟩
    have HF := Lib.hid (H0.out.trans hc)
    clear hc
    go_wp2
    go_ret
    exact ⟨rfl, HF.out.end_⟩
  have hn' : n ≤ 1000000 := by omega
  go_wp2_with fail
  refine (aread_any HB.out hn' HL.out.1 HL.out.2).mono ?_
  rintro e w1 ⟨rfl, hc⟩
  obtain ⟨a, ha⟩ : ∃ a, a = (Ac.readA l).getD Ac.ActS.zero := ⟨_, rfl⟩
  obtain ⟨ea, hea⟩ : ∃ a, a = errA l := ⟨_, rfl⟩
  rw [← ha, ← hea]
  have HA := Lib.hid (And.intro ha hea)
  have C1 := Lib.hid (H0.out.trans hc)
  clear hc ha hea hn
  obtain ⟨w2, hst, hbn, hc⟩ := new_act w1 a
  have HX := Lib.hid hbn
  have C2 := Lib.hid (C1.out.trans hc)
  clear hbn hc
  go_upto_region 4 with (refine wpList_storeR (by rfl) _ _ _ (by rfl) _ _ (by rfl) (by rfl) _ hst ?_)
  clear hst
  generalize w1.heap.size = p1 at *
  go_wp2_with fail
  refine (rread_any (HB.out.chg0 C2.out) hn').mono ?_
  rintro e w3 ⟨rfl, hc⟩
  rw [← HA.out.1, ← HA.out.2]
  have C3 := Lib.hid (C2.out.trans hc)
  have HX3 := Lib.hid (HX.out.chg hc (by simp))
  clear hc
  obtain ⟨w4, hst, hbn, hc⟩ := new_act w3 a
  have HY := Lib.hid hbn
  have C4 := Lib.hid (C3.out.trans hc)
  have HX4 := Lib.hid (HX3.out.chg hc (by simp))
  clear hbn hc
  go_upto_region 5 with (refine wpList_storeR (by rfl) _ _ _ (by rfl) _ _ (by rfl) (by rfl) _ hst ?_)
  clear hst
  generalize w3.heap.size = p2 at *
  go_wp2_with fail
  refine (areadm_any (HB.out.chg0 C4.out) hn' (HL.out.1.chg0 C4.out)).mono ?_
  rintro e w5 ⟨rfl, hc⟩
  obtain ⟨mg, hmg⟩ : ∃ a, a = (Ac.readM l).1 := ⟨_, rfl⟩
  obtain ⟨km, hkm⟩ : ∃ a, a = (Ac.readM l).2 := ⟨_, rfl⟩
  rw [← hmg, ← hkm]
  have HM := Lib.hid (And.intro hmg hkm)
  have C5 := Lib.hid (C4.out.trans hc)
  have HX5 := Lib.hid (HX4.out.chg hc (by simp))
  have HY5 := Lib.hid (HY.out.chg hc (by simp))
  clear hc hmg hkm
  obtain ⟨w6, hst, hbn, hc⟩ := new_msg w5 mg
  have HP := Lib.hid hbn
  have C6 := Lib.hid (C5.out.trans hc)
  have HX6 := Lib.hid (HX5.out.chg hc (by simp))
  have HY6 := Lib.hid (HY5.out.chg hc (by simp))
  clear hbn hc
  unfold msgV
  go_upto_region 6 with (refine wpList_storeR (by rfl) _ _ _ (by rfl) _ _ (by rfl) (by rfl) _ hst ?_)
  clear hst
  generalize w5.heap.size = p3 at *
  go_wp2_with fail
  refine (rreadm_any (HB.out.chg0 C6.out) hn').mono ?_
  rintro e w7 ⟨rfl, hc⟩
  rw [← HM.out.1, ← HM.out.2]
  have C7 := Lib.hid (C6.out.trans hc)
  have HX7 := Lib.hid (HX6.out.chg hc (by simp))
  have HY7 := Lib.hid (HY6.out.chg hc (by simp))
  have HP7 := Lib.hid (HP.out.chg hc (by simp))
  clear hc
  obtain ⟨w8, hst, hbn, hc⟩ := new_msg w7 mg
  have HQ := Lib.hid hbn
  have C8 := Lib.hid (C7.out.trans hc)
  have HX8 := Lib.hid (HX7.out.chg hc (by simp))
  have HY8 := Lib.hid (HY7.out.chg hc (by simp))
  have HP8 := Lib.hid (HP7.out.chg hc (by simp))
  clear hbn hc
  unfold msgV
  go_upto_region 7 with (refine wpList_storeR (by rfl) _ _ _ (by rfl) _ _ (by rfl) (by rfl) _ hst ?_)
  clear hst
  generalize w7.heap.size = p4 at *
  go_wp2_with fail
  refine (amany_any (HB.out.chg0 C8.out) hn' (HL.out.1.chg0 C8.out) (HL.out.2.chg0 C8.out)).mono ?_
  rintro e w9 ⟨B1, m1, d1, rfl, hm1, ho1, hc9⟩
  obtain ⟨L, hLL⟩ : ∃ L, L = (Ac.readL l).getD [] := ⟨_, rfl⟩
  obtain ⟨el, hel⟩ : ∃ a, a = errL l := ⟨_, rfl⟩
  rw [← hLL] at hm1 ho1
  rw [← hel]
  have HLL := Lib.hid (And.intro hLL (And.intro hel hm1))
  have HO1 := Lib.hid ho1
  have C9 := Lib.hid (C8.out.trans hc9)
  have HX9 := Lib.hid (HX8.out.chg hc9 (by simp))
  have HY9 := Lib.hid (HY8.out.chg hc9 (by simp))
  have HP9 := Lib.hid (HP8.out.chg hc9 (by simp))
  have HQ9 := Lib.hid (HQ.out.chg hc9 (by simp))
  clear hLL hel hm1 ho1 hc9
  go_wp2_with fail
  refine (rmany_any (HB.out.chg0 C9.out) hn').mono ?_
  rintro e wa ⟨B2, m2, d2, rfl, hm2, ho2, hca⟩
  rw [← HLL.out.1] at hm2 ho2
  rw [← HLL.out.2.1]
  obtain rfl : m2 = m1 := hm2.trans HLL.out.2.2.symm
  have HO2 := Lib.hid (And.intro (HO1.out.chg0 hca) ho2)
  have Ca := Lib.hid (C9.out.trans hca)
  have hl1 := load_act (HX9.out.chg hca (by simp))
  have hl2 := load_act (HY9.out.chg hca (by simp))
  have hl3 := load_msg (HP9.out.chg hca (by simp))
  have hl4 := load_msg (HQ9.out.chg hca (by simp))
  clear hm2 ho2 hca
  have q1 := run_neq_act a a wa
  have q2 := run_neq_msg mg mg wa
  rw [(Ac.sameS_iff a a).2 rfl] at q1
  rw [(sameM_iff mg mg).2 rfl] at q2
  go_upto_region 9 with fail
  generalize Value.tuple #[actV a, Value.int IntKind.i64 ea] = v1
  generalize Value.tuple #[Value.agg mg.cells, Value.int IntKind.i64 (km : Int)] = v2
  generalize Value.tuple #[Value.slice B1 m2 d1, Value.int IntKind.i64 el] = v3
  generalize Value.tuple #[Value.slice B2 m2 d2, Value.int IntKind.i64 el] = v4
  generalize actV a = v5
  have n1 : (ea == ea) = true := by simp
  have n2 : ((km : Int) == (km : Int)) = true := by simp
  have n3 : (el == el) = true := by simp
  have n4 : ((m2 : Int) == (m2 : Int)) = true := by simp
  go_upto_region 11 with (first | (refine wpList_loadW _ _ (by rfl) _ _ (by rfl) hl1 (by rfl) ?_) | (refine wpList_loadW _ _ (by rfl) _ _ (by rfl) hl2 (by rfl) ?_) | (refine wpList_loadW _ _ (by rfl) _ _ (by rfl) hl3 (by rfl) ?_) | (refine wpList_loadW _ _ (by rfl) _ _ (by rfl) hl4 (by rfl) ?_) | (refine wpList_eqW _ _ _ _ _ (by rfl) _ _ _ (by rfl) (by rfl) (fun _ _ => eqGuard_agg (by kernel_rfl) _ _ _ _ _) q1 (by rfl) ?_) | (refine wpList_eqW _ _ _ _ _ (by rfl) _ _ _ (by rfl) (by rfl) (fun _ _ => eqGuard_agg (by kernel_rfl) _ _ _ _ _) q2 (by rfl) ?_))
  clear hl1 hl2 hl3 hl4 q1 q2 n1 n2 n3 n4
  generalize Value.agg (ActS.cells a) = v6
  generalize Value.agg mg.cells = v7
  have hm6 : (m2 : Int) ≤ 65535 := by
    have h1 := readL_len l
    rw [← HLL.out.1, ← HLL.out.2.2] at h1
    omega
  go_wp2_with fail
  go_loopw [82, 15] (fun s82 _ wr => ∃ j : Nat, j ≤ m2 ∧ s82 = .int .i64 j ∧ Hid (Chg [] wa wr)) (fun s82 _ _ => m2 - (intOf s82).toNat)
  case atStart => exact ⟨0, Nat.zero_le _, rfl, Lib.hid (Chg.refl _ _)⟩
  case round =>
    obtain ⟨j, hj, rfl, HC⟩ := hrel
    by_cases hlt : j < m2
    · have t1 : decide ((j : Int) < (m2 : Int)) = true := decide_eq_true (by omega)
      obtain ⟨x, hx⟩ : ∃ x, L[j]? = some x := ⟨_, List.getElem?_eq_getElem (by rw [← HLL.out.2.2]; exact hlt)⟩
      obtain ⟨g1, o1, hB1, k1⟩ := load_own (HO2.out.1.chg0 (HC.out.drewN 1)) hx
      obtain ⟨g2, o2, hB2, k2⟩ := load_own (HO2.out.2.chg0 (HC.out.drewN 1)) hx
      subst hB1 hB2
      have HK := Lib.hid (And.intro k1 k2)
      clear k1 k2 hx
      have i0 : (0 : Int) ≤ (j : Int) := by omega
      have i1 : (j : Int) < (m2 : Int) := by omega
      go_upto_region 14 with fail
      refine wp_region_noPanic ?_
      refine wp_region_held_drew (S := fun w' => (Instr.loadAt 32 (.pointer (some ⟨g1, o1 + j * 17, none⟩))).run Tryd.prog w' = .ok (.agg (ActS.cells x)) w' ∧ (Instr.loadAt 32 (.pointer (some ⟨g2, o2 + j * 17, none⟩))).run Tryd.prog w' = .ok (.agg (ActS.cells x)) w') (by kernel_rfl) HK.out (fun hHeld => ?_)
      refine wpAnyH_take (i := 0) (oi := _) (v := ?_) rfl (by kernel_rfl) (by kernel_rfl) (by kernel_rfl) (fun _ _ _ h => h) (Or.inl ⟨by rfl, ?_⟩) (by assumption) ?_
      rotate_left 1
      · intro w hSw
        try dsimp only at hSw
        go_simp
        try with_reducible rfl
      try simp only [List.getElem_toArray, List.getElem_cons_zero, List.getElem_cons_succ, Act.put, List.setIfInBounds_toArray, List.set_cons_zero, List.set_cons_succ]
      refine wpAnyH_take (i := 1) (oi := _) (v := ?_) rfl (by kernel_rfl) (by kernel_rfl) (by kernel_rfl) (fun _ _ _ h => h) (Or.inl ⟨by rfl, ?_⟩) (by assumption) ?_
      rotate_left 1
      · intro w hSw
        try dsimp only at hSw
        go_simp
        try with_reducible rfl
      try simp only [List.getElem_toArray, List.getElem_cons_zero, List.getElem_cons_succ, Act.put, List.setIfInBounds_toArray, List.set_cons_zero, List.set_cons_succ]
      refine wpAnyH_take (i := 2) (oi := _) (v := ?_) rfl (by kernel_rfl) (by kernel_rfl) (by kernel_rfl) (fun _ _ _ h => h) (Or.inl ⟨by rfl, ?_⟩) (by assumption) ?_
      rotate_left 1
      · intro w hSw
        try dsimp only at hSw
        go_simp
        try with_reducible rfl
      try simp only [List.getElem_toArray, List.getElem_cons_zero, List.getElem_cons_succ, Act.put, List.setIfInBounds_toArray, List.set_cons_zero, List.set_cons_succ]
      refine wpAnyH_take (i := 3) (oi := _) (v := _) rfl (by kernel_rfl) (by kernel_rfl) (by kernel_rfl) (fun _ _ _ h => h) (yields_load (by rfl) _ _ (by rfl) _ (by rfl) _ (fun w h => h.1)) (by assumption) ?_
      try simp only [List.getElem_toArray, List.getElem_cons_zero, List.getElem_cons_succ, Act.put, List.setIfInBounds_toArray, List.set_cons_zero, List.set_cons_succ]
      refine wpAnyH_take (i := 4) (oi := _) (v := ?_) rfl (by kernel_rfl) (by kernel_rfl) (by kernel_rfl) (fun _ _ _ h => h) (Or.inl ⟨by rfl, ?_⟩) (by assumption) ?_
      rotate_left 1
      · intro w hSw
        try dsimp only at hSw
        go_simp
        try with_reducible rfl
      try simp only [List.getElem_toArray, List.getElem_cons_zero, List.getElem_cons_succ, Act.put, List.setIfInBounds_toArray, List.set_cons_zero, List.set_cons_succ]
      refine wpAnyH_take (i := 5) (oi := _) (v := ?_) rfl (by kernel_rfl) (by kernel_rfl) (by kernel_rfl) (fun _ _ _ h => h) (Or.inl ⟨by rfl, ?_⟩) (by assumption) ?_
      rotate_left 1
      · intro w hSw
        try dsimp only at hSw
        go_simp
        try with_reducible rfl
      try simp only [List.getElem_toArray, List.getElem_cons_zero, List.getElem_cons_succ, Act.put, List.setIfInBounds_toArray, List.set_cons_zero, List.set_cons_succ]
      refine wpAnyH_take (i := 6) (oi := _) (v := ?_) rfl (by kernel_rfl) (by kernel_rfl) (by kernel_rfl) (fun _ _ _ h => h) (Or.inl ⟨by rfl, ?_⟩) (by assumption) ?_
      rotate_left 1
      · intro w hSw
        try dsimp only at hSw
        go_simp
        try with_reducible rfl
      try simp only [List.getElem_toArray, List.getElem_cons_zero, List.getElem_cons_succ, Act.put, List.setIfInBounds_toArray, List.set_cons_zero, List.set_cons_succ]
      refine wpAnyH_take (i := 7) (oi := _) (v := _) rfl (by kernel_rfl) (by kernel_rfl) (by kernel_rfl) (fun _ _ _ h => h) (yields_load (by rfl) _ _ (by rfl) _ (by rfl) _ (fun w h => h.2)) (by assumption) ?_
      try simp only [List.getElem_toArray, List.getElem_cons_zero, List.getElem_cons_succ, Act.put, List.setIfInBounds_toArray, List.set_cons_zero, List.set_cons_succ]
      refine wpAnyH_take (i := 8) (oi := _) (v := _) rfl (by kernel_rfl) (by kernel_rfl) (by kernel_rfl) (fun _ _ _ h => h) (yields_eq (by rfl) _ _ _ _ _ (by rfl) _ _ _ (by rfl) (by rfl) (fun _ _ _ => eqGuard_agg (by kernel_rfl) _ _ _ _ _) (fun w => run_neq_act x x w)) (by assumption) ?_
      try simp only [List.getElem_toArray, List.getElem_cons_zero, List.getElem_cons_succ, Act.put, List.setIfInBounds_toArray, List.set_cons_zero, List.set_cons_succ]
      refine wpAnyH_done (by kernel_rfl) ?_ _
      refine NoPanic.normal ?_
      rw [(Ac.sameS_iff x x).2 rfl]
      generalize Value.agg (ActS.cells x) = v8
      have HD := Lib.hid (HC.out.drew)
      clear i0 i1
      go_wp2_with fail
      go_roundw
      case rel => exact ⟨j + 1, by omega, by go_num, HD⟩
      case measure => simp [intOf]; omega
    · have t1 : decide ((j : Int) < (m2 : Int)) = false := decide_eq_false (by omega)
      have HG := Lib.hid (Ca.out.trans HC.out)
      go_wp2_with fail
      refine (lives_any _ (HL.out.chg0 HG.out)).mono ?_
      rintro e wF ⟨rfl, hc⟩
      have HF := Lib.hid (HG.out.trans hc)
      clear hc
      go_wp2
      go_ret
      exact ⟨rfl, HF.out.end_⟩
end Go.Proofs.YtmfaooihigphgaaDoor.actReads
