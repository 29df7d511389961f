/- Package act: Good. -/
import Derived.Test.YtmfaooihigphgaaDoorAcPart
set_option linter.unusedVariables false
set_option linter.unusedSimpArgs false
namespace Go.Proofs.YtmfaooihigphgaaDoor
open Go.RowKit
open Go.Proofs.YtmfaooihigphgaaDoor.Ac (ActS)

/-- Its texts are not longer than are looked at. -/
structure Ac.ActS.Small (a : ActS) : Prop where
  name : a.name.size ≤ 100000
  xn : a.xn.size ≤ 100000
  be : a.be.size ≤ 100000
  bq : a.bq.size ≤ 100000
  bp : a.bp.size ≤ 100000
  m : a.m.Small
/-- A part's letter. -/
def Let (c : Nat) : Prop := c = 110 ∨ c = 99 ∨ c = 116 ∨ c = 111 ∨ c = 120 ∨ c = 98 ∨ c = 109
theorem part_any (a z : ActS) (hs : a.Small) (c : Nat) (hc : Let c) (w : World) : Calls Tryd.prog 28 #[actV a, actV z, .int .u8 (c : Nat)] w fun e w' => e = .returned (.tuple #[actV (Ac.partZ a z c), .bool (Ac.partB a c)]) ∧ Chg [] w w' := by
  rcases hc with rfl | rfl | rfl | rfl | rfl | rfl | rfl
  · exact part_n a z hs.name w
  · exact part_c a z w
  · exact part_t a z w
  · exact part_o a z w
  · exact part_x a z hs.xn w
  · exact part_b a z hs.be hs.bq hs.bp w
  · exact part_m a z hs.m w
theorem shape_let (k : Int) : ∀ c ∈ Ac.shapeL k, Let c := by
  intro c hc
  unfold Ac.shapeL at hc
  unfold Let
  repeat' split at hc
  all_goals (simp at hc; try omega)
theorem shS_size (k : Int) : (shS k).size = (Ac.shapeL k).length := by simp [shS, strB, ByteArray.size]
theorem shS_at (k : Int) (i : Nat) (h : i < (shS k).size) : ∃ c, (Ac.shapeL k)[i]? = some c ∧ Let c ∧ (((shS k)[i]'h).toNat : Nat) = c := by
  have hl : i < (Ac.shapeL k).length := by rw [← shS_size]; exact h
  refine ⟨(Ac.shapeL k)[i], List.getElem?_eq_getElem hl, shape_let k _ (List.getElem_mem hl), ?_⟩
  have hlet := shape_let k _ (List.getElem_mem hl)
  have e : ((shS k)[i]'h) = UInt8.ofNat ((Ac.shapeL k)[i]) := by
    have : (shS k)[i]'h = byt (shS k) i := byt_eq _ _ h
    rw [this]
    unfold byt shS
    rw [strB_data, List.getD_eq_getElem?_getD, List.getElem?_map, List.getElem?_eq_getElem hl]
    rfl
  rw [e, UInt8.toNat_ofNat']
  unfold Let at hlet
  omega
theorem foldl_take {α β : Type} (f : β → α → β) (b : β) (l : List α) (i : Nat) (x : α) (h : l[i]? = some x) : (l.take (i + 1)).foldl f b = f ((l.take i).foldl f b) x := by
  rw [List.take_add_one, h]
  simp
set_option maxRecDepth 100000 in
set_option maxHeartbeats 4000000 in
theorem good_any (a : ActS) (hs : a.Small) (w : World) (hT : ShpAt w) : Calls Tryd.prog 10 #[actV a] w fun e w' => e = .returned (.bool (Ac.goodA a)) ∧ Chg [] w w' := by
  have HT := Lib.hid hT
  have HS := Lib.hid hs
  clear hT hs
  unfold actV
  go_enter Tryd.func10, Tryd.ntmps10
  go_upto_region 1 with fail
  have H0 := Lib.hid (And.intro (Blk.new w 32 (ActS.cells a)) ((Chg.refl [] w).alloc (.cells (ActS.cells a) 32)))
  generalize w.alloc (.cells (ActS.cells a) 32) = W at *
  have c0 : W.cell? ⟨w.heap.size, 0, none⟩ = some (.int .i64 a.kind) := H0.out.1.cell 0
  go_wp2_with fail
  refine (shape_any a.kind W (HT.out.chg0 H0.out.2)).mono ?_
  rintro e w1 ⟨rfl, rfl⟩
  go_upto_region 3 with fail
  have H1 : Hid (Blk (W.alloc (.cells (ActS.cells (Ac.ActS.bare a.kind)) 32)) w.heap.size 32 (ActS.cells a) ∧ Blk (W.alloc (.cells (ActS.cells (Ac.ActS.bare a.kind)) 32)) W.heap.size 32 (ActS.cells (Ac.ActS.bare a.kind)) ∧ Chg [] w (W.alloc (.cells (ActS.cells (Ac.ActS.bare a.kind)) 32))) :=
    Lib.hid ⟨H0.out.1.alloc _, Blk.new W _ _, H0.out.2.alloc _⟩
  have hzb : w.heap.size < W.heap.size := H0.out.1.lt
  change Code.wp _ _ _ _ (W.alloc (.cells (ActS.cells (Ac.ActS.bare a.kind)) 32))
  generalize W.alloc (.cells (ActS.cells (Ac.ActS.bare a.kind)) 32) = W2 at *
  clear c0
  generalize W.heap.size = zb at *
  clear H0
  obtain ⟨s, hs⟩ : ∃ s, s = shS a.kind := ⟨_, rfl⟩
  have hat := shS_at a.kind
  have hsz := shS_size a.kind
  rw [← hs] at hat hsz ⊢
  have hs2 : s.size ≤ 2 := by rw [hsz]; exact Ac.shape_len _
  have HA := Lib.hid (And.intro hat hsz)
  obtain ⟨kb, hkb⟩ : ∃ b, b = (decide (1 ≤ a.kind) && decide (a.kind ≤ 12)) := ⟨_, rfl⟩
  rw [← hkb]
  have HKB := Lib.hid hkb
  clear hat hsz hs hkb
  obtain ⟨n, hn⟩ : ∃ n, n = s.size := ⟨_, rfl⟩
  have HN := Lib.hid hn
  go_wp2_with fail
  go_loopw [4, 19] (fun ok i wr => ∃ j : Nat, j ≤ s.size ∧ i = .int .i64 j ∧ ok = .bool (kb && ((Ac.shapeL a.kind).take j).all (Ac.partB a)) ∧ Blk wr w.heap.size 32 (ActS.cells a) ∧ Blk wr zb 32 (ActS.cells (((Ac.shapeL a.kind).take j).foldl (Ac.partZ a) (Ac.ActS.bare a.kind))) ∧ Chg [] w wr) (fun _ i _ => s.size - (intOf i).toNat)
  case atStart => exact ⟨0, by omega, rfl, by simp, H1.out.1, H1.out.2.1, H1.out.2.2⟩
  case round =>
    obtain ⟨j, hj, rfl, rfl, ha, hz, hc⟩ := hrel
    have HR := Lib.hid (And.intro ha (And.intro hz hc))
    clear ha hz hc
    generalize hZ : ((Ac.shapeL a.kind).take j).foldl (Ac.partZ a) (Ac.ActS.bare a.kind) = Z at *
    generalize hB : (kb && ((Ac.shapeL a.kind).take j).all (Ac.partB a)) = B at *
    have HZ := Lib.hid (And.intro hZ hB)
    clear hZ hB
    by_cases hlt : j < s.size
    · obtain ⟨c, hc1, hc2, hc3⟩ := HA.out.1 j hlt
      have HC := Lib.hid (And.intro hc1 hc2)
      clear hc1 hc2
      have i1 : (j : Int) < (s.size : Int) := by omega
      go_upto_region 7 with fail
      refine wp_region_noPanic ?_
      refine wp_region_held_drew (S := fun _ => True) (by kernel_rfl) trivial (fun hHeld => ?_)
      refine wpAnyH_take (i := 2) (oi := _) (v := ?_) rfl (by kernel_rfl) (by kernel_rfl) (by kernel_rfl) (fun _ _ _ h => h) (Or.inl ⟨by rfl, ?_⟩) (by assumption) ?_
      rotate_left 1
      · intro w hSw
        try dsimp only at hSw
        go_simp
        try with_reducible rfl
      try simp only [List.getElem_toArray, List.getElem_cons_zero, List.getElem_cons_succ, Act.put, List.setIfInBounds_toArray, List.set_cons_zero, List.set_cons_succ]
      refine wpAnyH_take (i := 3) (oi := _) (v := ?_) rfl (by kernel_rfl) (by kernel_rfl) (by kernel_rfl) (fun _ _ _ h => h) (Or.inl ⟨by rfl, ?_⟩) (by assumption) ?_
      rotate_left 1
      · intro w hSw
        try dsimp only at hSw
        go_simp
        try with_reducible rfl
      try simp only [List.getElem_toArray, List.getElem_cons_zero, List.getElem_cons_succ, Act.put, List.setIfInBounds_toArray, List.set_cons_zero, List.set_cons_succ]
      refine wpAnyH_take (i := 4) (oi := _) (v := ?_) rfl (by kernel_rfl) (by kernel_rfl) (by kernel_rfl) (fun _ _ _ h => h) (Or.inl ⟨by rfl, ?_⟩) (by assumption) ?_
      rotate_left 1
      · intro w hSw
        try dsimp only at hSw
        go_simp
        try with_reducible rfl
      try simp only [List.getElem_toArray, List.getElem_cons_zero, List.getElem_cons_succ, Act.put, List.setIfInBounds_toArray, List.set_cons_zero, List.set_cons_succ]
      have hl1 := load_act (w := wr.drew) HR.out.1
      have hl2 := load_act (w := wr.drew) HR.out.2.1
      refine wpAnyH_ready (rs := [0, 1]) (by kernel_rfl) (by simp) (AllReadyH.cons rfl (fun K hK => ?_) (AllReadyH.cons rfl (fun K hK => ?_) AllReadyH.nil))
      · refine step_load rfl _ _ (by rfl) _ _ (by rfl) hl1 ?_
        refine hK.out _ _ trivial (fun hHeld => ?_)
        clear hK K
        try simp only [List.getElem_toArray, List.getElem_cons_zero, List.getElem_cons_succ, Act.put, List.setIfInBounds_toArray, List.set_cons_zero, List.set_cons_succ]
        refine wpAnyH_ready (rs := [1]) (by kernel_rfl) (by simp) (AllReadyH.cons rfl (fun K hK => ?_) AllReadyH.nil)
        refine step_load rfl _ _ (by rfl) _ _ (by rfl) hl2 ?_
        refine hK.out _ _ trivial (fun hHeld => ?_)
        clear hK K
        try simp only [List.getElem_toArray, List.getElem_cons_zero, List.getElem_cons_succ, Act.put, List.setIfInBounds_toArray, List.set_cons_zero, List.set_cons_succ]
        clear hl1 hl2
        refine wpAnyH_ready (rs := [5]) (by kernel_rfl) (by simp) (AllReadyH.cons rfl (fun K hK => ?_) AllReadyH.nil)
        go_simp
        refine (part_any a Z HS.out c HC.out.2 _).mono ?_
        rintro e w3 ⟨rfl, hc⟩
        have HR2 := Lib.hid (And.intro (HR.out.1.chg ((Chg.refl [] wr).drew.trans hc) (by simp)) (And.intro (HR.out.2.1.chg ((Chg.refl [] wr).drew.trans hc) (by simp)) (HR.out.2.2.trans ((Chg.refl [] wr).drew.trans hc))))
        clear hc
        go_wp2_with fail
        refine hK.out _ _ trivial (fun hHeld => ?_)
        clear hK K
        try simp only [List.getElem_toArray, List.getElem_cons_zero, List.getElem_cons_succ, Act.put, List.setIfInBounds_toArray, List.set_cons_zero, List.set_cons_succ]
        refine wpAnyH_take (i := 6) (oi := _) (v := ?_) rfl (by kernel_rfl) (by kernel_rfl) (by kernel_rfl) (fun _ _ _ h => h) (Or.inl ⟨by rfl, ?_⟩) (by assumption) ?_
        rotate_left 1
        · intro w hSw
          try dsimp only at hSw
          go_simp
          try with_reducible rfl
        try simp only [List.getElem_toArray, List.getElem_cons_zero, List.getElem_cons_succ, Act.put, List.setIfInBounds_toArray, List.set_cons_zero, List.set_cons_succ]
        refine wpAnyH_take (i := 7) (oi := _) (v := ?_) rfl (by kernel_rfl) (by kernel_rfl) (by kernel_rfl) (fun _ _ _ h => h) (Or.inl ⟨by rfl, ?_⟩) (by assumption) ?_
        rotate_left 1
        · intro w hSw
          try dsimp only at hSw
          go_simp
          try with_reducible rfl
        try simp only [List.getElem_toArray, List.getElem_cons_zero, List.getElem_cons_succ, Act.put, List.setIfInBounds_toArray, List.set_cons_zero, List.set_cons_succ]
        refine wpAnyH_take (i := 8) (oi := _) (v := ?_) rfl (by kernel_rfl) (by kernel_rfl) (by kernel_rfl) (fun _ _ _ h => h) (Or.inl ⟨by rfl, ?_⟩) (by assumption) ?_
        rotate_left 1
        · intro w hSw
          try dsimp only at hSw
          go_simp
          try with_reducible rfl
        try simp only [List.getElem_toArray, List.getElem_cons_zero, List.getElem_cons_succ, Act.put, List.setIfInBounds_toArray, List.set_cons_zero, List.set_cons_succ]
        obtain ⟨W3, hst, hb3, hc3⟩ := store_act (a := Ac.partZ a Z c) HR2.out.2.1 rfl
        have H3 := Lib.hid (And.intro (HR2.out.1.chg hc3 (by simp; omega)) (And.intro hb3 (HR2.out.2.2.then_ hc3 (fun b hb => by simp at hb; subst hb; exact .inr (by omega)))))
        clear hb3 hc3
        refine wpAnyH_ready (rs := [9]) (by kernel_rfl) (by simp) (AllReadyH.cons rfl (fun K hK => ?_) AllReadyH.nil)
        refine step_store rfl _ _ _ (by rfl) _ _ (by rfl) (by rfl) _ hst ?_
        refine hK.out _ _ trivial (fun hHeld => ?_)
        clear hK K
        try simp only [List.getElem_toArray, List.getElem_cons_zero, List.getElem_cons_succ, Act.put, List.setIfInBounds_toArray, List.set_cons_zero, List.set_cons_succ]
        refine wpAnyH_ready (rs := [10]) (by kernel_rfl) (by simp) (AllReadyH.cons rfl (fun K hK => ?_) AllReadyH.nil)
        go_simp
        refine hK.out _ _ trivial (fun hHeld => ?_)
        clear hK K
        try simp only [List.getElem_toArray, List.getElem_cons_zero, List.getElem_cons_succ, Act.put, List.setIfInBounds_toArray, List.set_cons_zero, List.set_cons_succ]
        refine wpAnyH_done (by kernel_rfl) ?_ _
        refine NoPanic.normal ?_
        clear hst
        cases B
        all_goals
          go_wp2_with fail
          go_roundw
          case rel =>
            refine ⟨j + 1, by omega, by go_num, ?_, H3.out.1, ?_, H3.out.2.2⟩
            · rw [all_take_succ _ _ _ _ HC.out.1, ← Bool.and_assoc, HZ.out.2]
              rfl
            · rw [foldl_take _ _ _ _ _ HC.out.1, HZ.out.1]
              exact H3.out.2.1
          case measure => simp [intOf]; omega
      · refine step_load rfl _ _ (by rfl) _ _ (by rfl) hl2 ?_
        refine hK.out _ _ trivial (fun hHeld => ?_)
        clear hK K
        try simp only [List.getElem_toArray, List.getElem_cons_zero, List.getElem_cons_succ, Act.put, List.setIfInBounds_toArray, List.set_cons_zero, List.set_cons_succ]
        refine wpAnyH_ready (rs := [0]) (by kernel_rfl) (by simp) (AllReadyH.cons rfl (fun K hK => ?_) AllReadyH.nil)
        refine step_load rfl _ _ (by rfl) _ _ (by rfl) hl1 ?_
        refine hK.out _ _ trivial (fun hHeld => ?_)
        clear hK K
        try simp only [List.getElem_toArray, List.getElem_cons_zero, List.getElem_cons_succ, Act.put, List.setIfInBounds_toArray, List.set_cons_zero, List.set_cons_succ]
        clear hl1 hl2
        refine wpAnyH_ready (rs := [5]) (by kernel_rfl) (by simp) (AllReadyH.cons rfl (fun K hK => ?_) AllReadyH.nil)
        go_simp
        refine (part_any a Z HS.out c HC.out.2 _).mono ?_
        rintro e w3 ⟨rfl, hc⟩
        have HR2 := Lib.hid (And.intro (HR.out.1.chg ((Chg.refl [] wr).drew.trans hc) (by simp)) (And.intro (HR.out.2.1.chg ((Chg.refl [] wr).drew.trans hc) (by simp)) (HR.out.2.2.trans ((Chg.refl [] wr).drew.trans hc))))
        clear hc
        go_wp2_with fail
        refine hK.out _ _ trivial (fun hHeld => ?_)
        clear hK K
        try simp only [List.getElem_toArray, List.getElem_cons_zero, List.getElem_cons_succ, Act.put, List.setIfInBounds_toArray, List.set_cons_zero, List.set_cons_succ]
        refine wpAnyH_take (i := 6) (oi := _) (v := ?_) rfl (by kernel_rfl) (by kernel_rfl) (by kernel_rfl) (fun _ _ _ h => h) (Or.inl ⟨by rfl, ?_⟩) (by assumption) ?_
        rotate_left 1
        · intro w hSw
          try dsimp only at hSw
          go_simp
          try with_reducible rfl
        try simp only [List.getElem_toArray, List.getElem_cons_zero, List.getElem_cons_succ, Act.put, List.setIfInBounds_toArray, List.set_cons_zero, List.set_cons_succ]
        refine wpAnyH_take (i := 7) (oi := _) (v := ?_) rfl (by kernel_rfl) (by kernel_rfl) (by kernel_rfl) (fun _ _ _ h => h) (Or.inl ⟨by rfl, ?_⟩) (by assumption) ?_
        rotate_left 1
        · intro w hSw
          try dsimp only at hSw
          go_simp
          try with_reducible rfl
        try simp only [List.getElem_toArray, List.getElem_cons_zero, List.getElem_cons_succ, Act.put, List.setIfInBounds_toArray, List.set_cons_zero, List.set_cons_succ]
        refine wpAnyH_take (i := 8) (oi := _) (v := ?_) rfl (by kernel_rfl) (by kernel_rfl) (by kernel_rfl) (fun _ _ _ h => h) (Or.inl ⟨by rfl, ?_⟩) (by assumption) ?_
        rotate_left 1
        · intro w hSw
          try dsimp only at hSw
          go_simp
          try with_reducible rfl
        try simp only [List.getElem_toArray, List.getElem_cons_zero, List.getElem_cons_succ, Act.put, List.setIfInBounds_toArray, List.set_cons_zero, List.set_cons_succ]
        obtain ⟨W3, hst, hb3, hc3⟩ := store_act (a := Ac.partZ a Z c) HR2.out.2.1 rfl
        have H3 := Lib.hid (And.intro (HR2.out.1.chg hc3 (by simp; omega)) (And.intro hb3 (HR2.out.2.2.then_ hc3 (fun b hb => by simp at hb; subst hb; exact .inr (by omega)))))
        clear hb3 hc3
        refine wpAnyH_ready (rs := [9]) (by kernel_rfl) (by simp) (AllReadyH.cons rfl (fun K hK => ?_) AllReadyH.nil)
        refine step_store rfl _ _ _ (by rfl) _ _ (by rfl) (by rfl) _ hst ?_
        refine hK.out _ _ trivial (fun hHeld => ?_)
        clear hK K
        try simp only [List.getElem_toArray, List.getElem_cons_zero, List.getElem_cons_succ, Act.put, List.setIfInBounds_toArray, List.set_cons_zero, List.set_cons_succ]
        refine wpAnyH_ready (rs := [10]) (by kernel_rfl) (by simp) (AllReadyH.cons rfl (fun K hK => ?_) AllReadyH.nil)
        go_simp
        refine hK.out _ _ trivial (fun hHeld => ?_)
        clear hK K
        try simp only [List.getElem_toArray, List.getElem_cons_zero, List.getElem_cons_succ, Act.put, List.setIfInBounds_toArray, List.set_cons_zero, List.set_cons_succ]
        refine wpAnyH_done (by kernel_rfl) ?_ _
        refine NoPanic.normal ?_
        clear hst
        cases B
        all_goals
          go_wp2_with fail
          go_roundw
          case rel =>
            refine ⟨j + 1, by omega, by go_num, ?_, H3.out.1, ?_, H3.out.2.2⟩
            · rw [all_take_succ _ _ _ _ HC.out.1, ← Bool.and_assoc, HZ.out.2]
              rfl
            · rw [foldl_take _ _ _ _ _ HC.out.1, HZ.out.1]
              exact H3.out.2.1
          case measure => simp [intOf]; omega
    · obtain rfl : s.size = j := by omega
      have hl1 := load_act HR.out.1
      have hl2 := load_act HR.out.2.1
      have heq := run_eql_act a Z wr
      have e1 : Ac.goodA a = (B && Ac.sameS a Z) := by
        have h1 := HZ.out.1
        have h2 := HZ.out.2
        rw [List.take_of_length_le (by rw [← HA.out.2]; exact Nat.le_refl _)] at h1 h2
        unfold Ac.goodA
        rw [← HKB.out, show Ac.mays a (Ac.shapeL a.kind) = (Ac.shapeL a.kind).all (Ac.partB a) from rfl, ← Bool.and_assoc, h2, show Ac.parts a (Ac.shapeL a.kind) = _ from h1]
      have HE := Lib.hid e1
      clear e1
      obtain ⟨sm, hsm⟩ : ∃ b, b = Ac.sameS a Z := ⟨_, rfl⟩
      rw [← hsm] at heq HE
      clear hsm
      cases B
      · go_wp2
        go_ret
        exact ⟨by rw [HE.out]; rfl, HR.out.2.2⟩
      · go_wp2_with (first | (refine wpList_loadW _ _ (by rfl) _ _ (by rfl) hl1 (by rfl) ?_) | (refine wpList_loadW _ _ (by rfl) _ _ (by rfl) hl2 (by rfl) ?_) | (refine wpList_eqW _ _ _ _ _ (by rfl) _ _ _ (by rfl) (by rfl) (fun _ _ => eqGuard_agg (by kernel_rfl) _ _ _ _ _) heq (by rfl) ?_))
        go_ret
        exact ⟨by rw [HE.out]; rfl, HR.out.2.2⟩
end Go.Proofs.YtmfaooihigphgaaDoor
