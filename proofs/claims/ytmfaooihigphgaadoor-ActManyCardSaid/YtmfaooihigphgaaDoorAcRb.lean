/- staithref13.Bytes. (Written by refbytes.py.) -/
import Derived.Test.YtmfaooihigphgaaDoorAcRw
import Derived.Test.YtmfaooihigphgaaDoorAcRg
set_option linter.unusedVariables false
set_option linter.unusedSimpArgs false
namespace Go.Proofs.YtmfaooihigphgaaDoor
open Go.RowKit
open Go.Proofs.YtmfaooihigphgaaDoor.Ac (ActS)

theorem bytesA_k {a : ActS} (l : List Nat) (k : Int) (hk : a.kind = k) (hl : Ac.shapeL k = l) (hg : Ac.goodA a = true) : Ac.bytesA a = l.foldl (fun o c => o ++ Ac.partS a c) ([] ++ Ac.be 1 (Ac.u64 a.kind)) := by
  unfold Ac.bytesA Ac.bodyA
  rw [if_pos hg, hk, hl]
  rfl
set_option maxRecDepth 100000 in
set_option maxHeartbeats 8000000 in
theorem rbytes_any (a : ActS) (hf : a.FitA) (w : World) : Calls Tryd.prog 16 #[actV a] w (Made w (Ac.bytesA a)) := by
  have hc0 := (Chg.refl [] w).alloc (.cells (ActS.cells a) 32)
  have H := Lib.hid (And.intro (Blk.new w 32 (ActS.cells a)) hc0)
  have HF := Lib.hid hf
  have hs1 : a.name.size ≤ maxLen := by have := hf.small.name; unfold maxLen; omega
  have hs2 : a.xn.size ≤ maxLen := by have := hf.small.xn; unfold maxLen; omega
  have hs3 : a.be.size ≤ maxLen := by have := hf.small.be; unfold maxLen; omega
  have hs4 : a.bq.size ≤ maxLen := by have := hf.small.bq; unfold maxLen; omega
  have hs5 : a.bp.size ≤ maxLen := by have := hf.small.bp; unfold maxLen; omega
  have HZ := Lib.hid (And.intro hs1 (And.intro hs2 (And.intro hs3 (And.intro hs4 hs5))))
  clear hc0 hf hs1 hs2 hs3 hs4 hs5
  unfold actV
  go_enter Tryd.func16, Tryd.ntmps16
  go_upto_region 1 with fail
  generalize w.alloc (.cells (ActS.cells a) 32) = W at *
  have hl1 := load_act H.out.1
  go_wp2_with (refine wpList_loadW _ _ (by rfl) _ _ (by rfl) hl1 (by rfl) ?_)
  refine (rgood_act a HF.out.small W).mono ?_
  rintro e W1 ⟨rfl, hc⟩
  have H1 := Lib.hid (And.intro (H.out.1.chg hc (by simp)) (H.out.2.trans hc))
  clear hc hl1
  cases hgood : Ac.goodA a with
  | false =>
    have HG := Lib.hid hgood
    clear hgood
    go_wp2
    go_ret
    refine ⟨none, 0, 0, rfl, ?_, H1.out.2⟩
    unfold Ac.bytesA
    rw [if_neg (by rw [HG.out]; simp)]
    exact Ob.nil _ _
  | true =>
    have HG := Lib.hid hgood
    clear hgood
    have c0 : W1.cell? ⟨w.heap.size, 0, none⟩ = some (.int .i64 a.kind) := H1.out.1.cell 0
    go_wp2_with fail
    rw [wrap_u]
    refine (rput_any 1 (by unfold WidK; omega) (Ac.u64 a.kind) (u64_lt' _) _ _ _ _ _ (Bt.nil _) (by omega)).mono ?_
    rintro e W2 ⟨A, n, c, rfl, ho, hc⟩
    have H2 := Lib.hid (And.intro (H1.out.1.chg hc (by simp)) (And.intro (ho.lower H1.out.2.size) (H1.out.2.trans hc)))
    have hn : n ≤ 1 := by have h1 := ho.len; simp [Ac.be_len] at h1; omega
    clear ho hc c0
    have c0 : W2.cell? ⟨w.heap.size, 0, none⟩ = some (.int .i64 a.kind) := H2.out.1.cell 0
    have hkk : a.kind = 1 ∨ a.kind = 2 ∨ a.kind = 3 ∨ a.kind = 4 ∨ a.kind = 5 ∨ a.kind = 6 ∨ a.kind = 7 ∨ a.kind = 8 ∨ a.kind = 9 ∨ a.kind = 10 ∨ a.kind = 11 ∨ a.kind = 12 := by
      have h := HG.out
      unfold Ac.goodA at h
      simp only [Bool.and_eq_true, decide_eq_true_eq] at h
      omega
    rcases hkk with hk | hk | hk | hk | hk | hk | hk | hk | hk | hk | hk | hk
    · have e1 : (a.kind == 1) = true := by rw [hk]; rfl
      have e2 : (a.kind == 2) = false := by rw [hk]; rfl
      have e3 : (a.kind == 3) = false := by rw [hk]; rfl
      have e4 : (a.kind == 4) = false := by rw [hk]; rfl
      have e5 : (a.kind == 5) = false := by rw [hk]; rfl
      have e6 : (a.kind == 6) = false := by rw [hk]; rfl
      have e7 : (a.kind == 7) = false := by rw [hk]; rfl
      have e8 : (a.kind == 8) = false := by rw [hk]; rfl
      have e9 : (a.kind == 9) = false := by rw [hk]; rfl
      have e10 : (a.kind == 10) = false := by rw [hk]; rfl
      have e11 : (a.kind == 11) = false := by rw [hk]; rfl
      have e12 : (a.kind == 12) = false := by rw [hk]; rfl
      have HE := Lib.hid (bytesA_k [110, 99] 1 hk rfl HG.out)
      simp only [List.foldl_cons, List.foldl_nil] at HE
      clear hk
      go_upto_region 6 with fail
      refine wp_region_noPanic ?_
      refine wp_region_held_drew (S := fun w' => w'.cell? ⟨w.heap.size, 1, none⟩ = some (.string a.name) ∧ w'.cell? ⟨w.heap.size, 2, none⟩ = some (.int .i64 a.n)) (by kernel_rfl) ⟨H2.out.1.cell 1, H2.out.1.cell 2⟩ (fun hHeld => ?_)
      refine wpAnyH_take (i := 0) (oi := _) (v := ?_) rfl (by kernel_rfl) (by kernel_rfl) (by kernel_rfl) (fun _ _ _ h => h) (Or.inl ⟨by rfl, ?_⟩) (by assumption) ?_
      rotate_left 1
      · intro w hSw
        try dsimp only at hSw
        go_simp
        try with_reducible rfl
      try simp only [List.getElem_toArray, List.getElem_cons_zero, List.getElem_cons_succ, Act.put, List.setIfInBounds_toArray, List.set_cons_zero, List.set_cons_succ]
      refine wpAnyH_take (i := 1) (oi := _) (v := ?_) rfl (by kernel_rfl) (by kernel_rfl) (by kernel_rfl) (fun _ _ _ h => h) (Or.inl ⟨by rfl, ?_⟩) (by assumption) ?_
      rotate_left 1
      · intro w hSw
        try dsimp only at hSw
        go_simp
        try with_reducible rfl
      try simp only [List.getElem_toArray, List.getElem_cons_zero, List.getElem_cons_succ, Act.put, List.setIfInBounds_toArray, List.set_cons_zero, List.set_cons_succ]
      refine wpAnyH_take (i := 2) (oi := _) (v := ?_) rfl (by kernel_rfl) (by kernel_rfl) (by kernel_rfl) (fun _ _ _ h => h) (Or.inl ⟨by rfl, ?_⟩) (by assumption) ?_
      rotate_left 1
      · intro w hSw
        try dsimp only at hSw
        go_simp
        try with_reducible rfl
      try simp only [List.getElem_toArray, List.getElem_cons_zero, List.getElem_cons_succ, Act.put, List.setIfInBounds_toArray, List.set_cons_zero, List.set_cons_succ]
      refine wpAnyH_take (i := 4) (oi := _) (v := ?_) rfl (by kernel_rfl) (by kernel_rfl) (by kernel_rfl) (fun _ _ _ h => h) (Or.inl ⟨by rfl, ?_⟩) (by assumption) ?_
      rotate_left 1
      · intro w hSw
        try dsimp only at hSw
        go_simp
        try with_reducible rfl
      try simp only [List.getElem_toArray, List.getElem_cons_zero, List.getElem_cons_succ, Act.put, List.setIfInBounds_toArray, List.set_cons_zero, List.set_cons_succ]
      refine wpAnyH_take (i := 5) (oi := _) (v := ?_) rfl (by kernel_rfl) (by kernel_rfl) (by kernel_rfl) (fun _ _ _ h => h) (Or.inl ⟨by rfl, ?_⟩) (by assumption) ?_
      rotate_left 1
      · intro w hSw
        try dsimp only at hSw
        go_simp
        try with_reducible rfl
      try simp only [List.getElem_toArray, List.getElem_cons_zero, List.getElem_cons_succ, Act.put, List.setIfInBounds_toArray, List.set_cons_zero, List.set_cons_succ]
      refine wpAnyH_take (i := 6) (oi := _) (v := ?_) rfl (by kernel_rfl) (by kernel_rfl) (by kernel_rfl) (fun _ _ _ h => h) (Or.inl ⟨by rfl, ?_⟩) (by assumption) ?_
      rotate_left 1
      · intro w hSw
        try dsimp only at hSw
        go_simp
        try with_reducible rfl
      try simp only [List.getElem_toArray, List.getElem_cons_zero, List.getElem_cons_succ, Act.put, List.setIfInBounds_toArray, List.set_cons_zero, List.set_cons_succ]
      have HD := Lib.hid (And.intro (H2.out.1.drewN 1) (And.intro (H2.out.2.1.chg0 ((Chg.refl [] W2).drew)) (H2.out.2.2.drew)))
      refine wpAnyH_ready (rs := [3]) (by kernel_rfl) (by simp) (AllReadyH.cons rfl (fun K hK => ?_) AllReadyH.nil)
      go_simp
      refine (rtext_any _ _ _ _ _ HD.out.2.1.bt a.name HZ.out.1 (by omega)).mono ?_
      rintro e w3 ⟨A3, n3, c3, rfl, ho, hc⟩
      have H3 := Lib.hid (And.intro (HD.out.1.chg hc (by simp)) (And.intro (ho.lower (B := w.heap.size) HD.out.2.2.size) (HD.out.2.2.trans hc)))
      have hn3 : n3 ≤ 70000 := by
        have h1 := ho.len
        have h2 := HD.out.2.1.len
        have h3 := txt_le a.name
        simp only [List.length_append, Ac.be_len] at h1 h2
        omega
      clear ho hc
      go_wp2_with fail
      refine hK.out _ _ ⟨H3.out.1.cell 1, H3.out.1.cell 2⟩ (fun hHeld => ?_)
      clear hK K
      try simp only [List.getElem_toArray, List.getElem_cons_zero, List.getElem_cons_succ, Act.put, List.setIfInBounds_toArray, List.set_cons_zero, List.set_cons_succ]
      refine wpAnyH_ready (rs := [7]) (by kernel_rfl) (by simp) (AllReadyH.cons rfl (fun K hK => ?_) AllReadyH.nil)
      go_simp
      rw [wrap_u]
      refine (rput_any 2 (by unfold WidK; omega) (Ac.u64 a.n) (u64_lt' _) _ _ _ _ _ H3.out.2.1.bt (by omega)).mono ?_
      rintro e w4 ⟨A4, n4, c4, rfl, ho, hc⟩
      have H4 := Lib.hid (And.intro (H3.out.1.chg hc (by simp)) (And.intro (ho.lower (B := w.heap.size) H3.out.2.2.size) (H3.out.2.2.trans hc)))
      clear ho hc
      go_wp2_with fail
      refine hK.out _ _ ⟨H4.out.1.cell 1, H4.out.1.cell 2⟩ (fun hHeld => ?_)
      clear hK K
      try simp only [List.getElem_toArray, List.getElem_cons_zero, List.getElem_cons_succ, Act.put, List.setIfInBounds_toArray, List.set_cons_zero, List.set_cons_succ]
      refine wpAnyH_take (i := 8) (oi := _) (v := ?_) rfl (by kernel_rfl) (by kernel_rfl) (by kernel_rfl) (fun _ _ _ h => h) (Or.inl ⟨by rfl, ?_⟩) (by assumption) ?_
      rotate_left 1
      · intro w hSw
        try dsimp only at hSw
        go_simp
        try with_reducible rfl
      try simp only [List.getElem_toArray, List.getElem_cons_zero, List.getElem_cons_succ, Act.put, List.setIfInBounds_toArray, List.set_cons_zero, List.set_cons_succ]
      refine wpAnyH_done (by kernel_rfl) ?_ _
      refine NoPanic.normal ?_
      go_wp2
      go_ret
      exact ⟨A4, n4, c4, rfl, by rw [HE.out]; exact H4.out.2.1, H4.out.2.2⟩
    · have e1 : (a.kind == 1) = false := by rw [hk]; rfl
      have e2 : (a.kind == 2) = true := by rw [hk]; rfl
      have e3 : (a.kind == 3) = false := by rw [hk]; rfl
      have e4 : (a.kind == 4) = false := by rw [hk]; rfl
      have e5 : (a.kind == 5) = false := by rw [hk]; rfl
      have e6 : (a.kind == 6) = false := by rw [hk]; rfl
      have e7 : (a.kind == 7) = false := by rw [hk]; rfl
      have e8 : (a.kind == 8) = false := by rw [hk]; rfl
      have e9 : (a.kind == 9) = false := by rw [hk]; rfl
      have e10 : (a.kind == 10) = false := by rw [hk]; rfl
      have e11 : (a.kind == 11) = false := by rw [hk]; rfl
      have e12 : (a.kind == 12) = false := by rw [hk]; rfl
      have HE := Lib.hid (bytesA_k [110] 2 hk rfl HG.out)
      simp only [List.foldl_cons, List.foldl_nil] at HE
      clear hk
      have c1 : W2.cell? ⟨w.heap.size, 1, none⟩ = some (.string a.name) := H2.out.1.cell 1
      go_wp2_with fail
      refine (rtext_any _ _ _ _ _ H2.out.2.1.bt a.name HZ.out.1 (by omega)).mono ?_
      rintro e w3 ⟨A3, n3, c3, rfl, ho, hc⟩
      have H3 := Lib.hid (And.intro (ho.lower (B := w.heap.size) H2.out.2.2.size) (H2.out.2.2.trans hc))
      clear ho hc
      go_wp2
      go_ret
      exact ⟨A3, n3, c3, rfl, by rw [HE.out]; exact H3.out.1, H3.out.2⟩
    · have e1 : (a.kind == 1) = false := by rw [hk]; rfl
      have e2 : (a.kind == 2) = false := by rw [hk]; rfl
      have e3 : (a.kind == 3) = true := by rw [hk]; rfl
      have e4 : (a.kind == 4) = false := by rw [hk]; rfl
      have e5 : (a.kind == 5) = false := by rw [hk]; rfl
      have e6 : (a.kind == 6) = false := by rw [hk]; rfl
      have e7 : (a.kind == 7) = false := by rw [hk]; rfl
      have e8 : (a.kind == 8) = false := by rw [hk]; rfl
      have e9 : (a.kind == 9) = false := by rw [hk]; rfl
      have e10 : (a.kind == 10) = false := by rw [hk]; rfl
      have e11 : (a.kind == 11) = false := by rw [hk]; rfl
      have e12 : (a.kind == 12) = false := by rw [hk]; rfl
      have HE := Lib.hid (bytesA_k [120] 3 hk rfl HG.out)
      simp only [List.foldl_cons, List.foldl_nil] at HE
      clear hk
      have c5 : W2.cell? ⟨w.heap.size, 5, none⟩ = some (.string a.xn) := H2.out.1.cell 5
      have c6 : W2.cell? ⟨w.heap.size, 6, none⟩ = some (.int .i64 a.xk) := H2.out.1.cell 6
      have c7 : W2.cell? ⟨w.heap.size, 7, none⟩ = some (.bool a.xf) := H2.out.1.cell 7
      go_wp2_with fail
      refine (rexch_any _ _ _ _ _ H2.out.2.1.bt a HZ.out.2.1 (by omega)).mono ?_
      rintro e w3 ⟨A3, n3, c3, rfl, ho, hc⟩
      have H3 := Lib.hid (And.intro (ho.lower (B := w.heap.size) H2.out.2.2.size) (H2.out.2.2.trans hc))
      clear ho hc
      go_wp2
      go_ret
      exact ⟨A3, n3, c3, rfl, by rw [HE.out]; exact H3.out.1, H3.out.2⟩
    · have e1 : (a.kind == 1) = false := by rw [hk]; rfl
      have e2 : (a.kind == 2) = false := by rw [hk]; rfl
      have e3 : (a.kind == 3) = false := by rw [hk]; rfl
      have e4 : (a.kind == 4) = true := by rw [hk]; rfl
      have e5 : (a.kind == 5) = false := by rw [hk]; rfl
      have e6 : (a.kind == 6) = false := by rw [hk]; rfl
      have e7 : (a.kind == 7) = false := by rw [hk]; rfl
      have e8 : (a.kind == 8) = false := by rw [hk]; rfl
      have e9 : (a.kind == 9) = false := by rw [hk]; rfl
      have e10 : (a.kind == 10) = false := by rw [hk]; rfl
      have e11 : (a.kind == 11) = false := by rw [hk]; rfl
      have e12 : (a.kind == 12) = false := by rw [hk]; rfl
      have HE := Lib.hid (bytesA_k [110] 4 hk rfl HG.out)
      simp only [List.foldl_cons, List.foldl_nil] at HE
      clear hk
      have c1 : W2.cell? ⟨w.heap.size, 1, none⟩ = some (.string a.name) := H2.out.1.cell 1
      go_wp2_with fail
      refine (rtext_any _ _ _ _ _ H2.out.2.1.bt a.name HZ.out.1 (by omega)).mono ?_
      rintro e w3 ⟨A3, n3, c3, rfl, ho, hc⟩
      have H3 := Lib.hid (And.intro (ho.lower (B := w.heap.size) H2.out.2.2.size) (H2.out.2.2.trans hc))
      clear ho hc
      go_wp2
      go_ret
      exact ⟨A3, n3, c3, rfl, by rw [HE.out]; exact H3.out.1, H3.out.2⟩
    · have e1 : (a.kind == 1) = false := by rw [hk]; rfl
      have e2 : (a.kind == 2) = false := by rw [hk]; rfl
      have e3 : (a.kind == 3) = false := by rw [hk]; rfl
      have e4 : (a.kind == 4) = false := by rw [hk]; rfl
      have e5 : (a.kind == 5) = true := by rw [hk]; rfl
      have e6 : (a.kind == 6) = false := by rw [hk]; rfl
      have e7 : (a.kind == 7) = false := by rw [hk]; rfl
      have e8 : (a.kind == 8) = false := by rw [hk]; rfl
      have e9 : (a.kind == 9) = false := by rw [hk]; rfl
      have e10 : (a.kind == 10) = false := by rw [hk]; rfl
      have e11 : (a.kind == 11) = false := by rw [hk]; rfl
      have e12 : (a.kind == 12) = false := by rw [hk]; rfl
      have HE := Lib.hid (bytesA_k [98] 5 hk rfl HG.out)
      simp only [List.foldl_cons, List.foldl_nil] at HE
      clear hk
      have c8 : W2.cell? ⟨w.heap.size, 8, none⟩ = some (.string a.be) := H2.out.1.cell 8
      have c9 : W2.cell? ⟨w.heap.size, 9, none⟩ = some (.string a.bq) := H2.out.1.cell 9
      have c10 : W2.cell? ⟨w.heap.size, 10, none⟩ = some (.string a.bp) := H2.out.1.cell 10
      go_wp2_with fail
      refine (rbind_any _ _ _ _ _ H2.out.2.1.bt a HZ.out.2.2.1 HZ.out.2.2.2.1 HZ.out.2.2.2.2 (by omega)).mono ?_
      rintro e w3 ⟨A3, n3, c3, rfl, ho, hc⟩
      have H3 := Lib.hid (And.intro (ho.lower (B := w.heap.size) H2.out.2.2.size) (H2.out.2.2.trans hc))
      clear ho hc
      go_wp2
      go_ret
      exact ⟨A3, n3, c3, rfl, by rw [HE.out]; exact H3.out.1, H3.out.2⟩
    · have e1 : (a.kind == 1) = false := by rw [hk]; rfl
      have e2 : (a.kind == 2) = false := by rw [hk]; rfl
      have e3 : (a.kind == 3) = false := by rw [hk]; rfl
      have e4 : (a.kind == 4) = false := by rw [hk]; rfl
      have e5 : (a.kind == 5) = false := by rw [hk]; rfl
      have e6 : (a.kind == 6) = true := by rw [hk]; rfl
      have e7 : (a.kind == 7) = false := by rw [hk]; rfl
      have e8 : (a.kind == 8) = false := by rw [hk]; rfl
      have e9 : (a.kind == 9) = false := by rw [hk]; rfl
      have e10 : (a.kind == 10) = false := by rw [hk]; rfl
      have e11 : (a.kind == 11) = false := by rw [hk]; rfl
      have e12 : (a.kind == 12) = false := by rw [hk]; rfl
      have HE := Lib.hid (bytesA_k [98] 6 hk rfl HG.out)
      simp only [List.foldl_cons, List.foldl_nil] at HE
      clear hk
      have c8 : W2.cell? ⟨w.heap.size, 8, none⟩ = some (.string a.be) := H2.out.1.cell 8
      have c9 : W2.cell? ⟨w.heap.size, 9, none⟩ = some (.string a.bq) := H2.out.1.cell 9
      have c10 : W2.cell? ⟨w.heap.size, 10, none⟩ = some (.string a.bp) := H2.out.1.cell 10
      go_wp2_with fail
      refine (rbind_any _ _ _ _ _ H2.out.2.1.bt a HZ.out.2.2.1 HZ.out.2.2.2.1 HZ.out.2.2.2.2 (by omega)).mono ?_
      rintro e w3 ⟨A3, n3, c3, rfl, ho, hc⟩
      have H3 := Lib.hid (And.intro (ho.lower (B := w.heap.size) H2.out.2.2.size) (H2.out.2.2.trans hc))
      clear ho hc
      go_wp2
      go_ret
      exact ⟨A3, n3, c3, rfl, by rw [HE.out]; exact H3.out.1, H3.out.2⟩
    · have e1 : (a.kind == 1) = false := by rw [hk]; rfl
      have e2 : (a.kind == 2) = false := by rw [hk]; rfl
      have e3 : (a.kind == 3) = false := by rw [hk]; rfl
      have e4 : (a.kind == 4) = false := by rw [hk]; rfl
      have e5 : (a.kind == 5) = false := by rw [hk]; rfl
      have e6 : (a.kind == 6) = false := by rw [hk]; rfl
      have e7 : (a.kind == 7) = true := by rw [hk]; rfl
      have e8 : (a.kind == 8) = false := by rw [hk]; rfl
      have e9 : (a.kind == 9) = false := by rw [hk]; rfl
      have e10 : (a.kind == 10) = false := by rw [hk]; rfl
      have e11 : (a.kind == 11) = false := by rw [hk]; rfl
      have e12 : (a.kind == 12) = false := by rw [hk]; rfl
      have HE := Lib.hid (bytesA_k [109] 7 hk rfl HG.out)
      simp only [List.foldl_cons, List.foldl_nil] at HE
      clear hk
      have c11 : W2.cell? ⟨w.heap.size, 11, none⟩ = some (.int .i64 a.m.org) := H2.out.1.cell 11
      have c12 : W2.cell? ⟨w.heap.size, 12, none⟩ = some (.int .u64 a.m.seq) := H2.out.1.cell 12
      have c13 : W2.cell? ⟨w.heap.size, 13, none⟩ = some (.int .i64 a.m.hop) := H2.out.1.cell 13
      have c14 : W2.cell? ⟨w.heap.size, 14, none⟩ = some (.string a.m.ex) := H2.out.1.cell 14
      have c15 : W2.cell? ⟨w.heap.size, 15, none⟩ = some (.string a.m.key) := H2.out.1.cell 15
      have c16 : W2.cell? ⟨w.heap.size, 16, none⟩ = some (.string a.m.body) := H2.out.1.cell 16
      go_wp2_with fail
      refine (rmessage_any _ _ _ _ _ H2.out.2.1.bt a.m HF.out.msg (by omega)).mono ?_
      rintro e w3 ⟨A3, n3, c3, rfl, ho, hc⟩
      have H3 := Lib.hid (And.intro (ho.lower (B := w.heap.size) H2.out.2.2.size) (H2.out.2.2.trans hc))
      clear ho hc
      go_wp2
      go_ret
      exact ⟨A3, n3, c3, rfl, by rw [HE.out]; exact H3.out.1, H3.out.2⟩
    · have e1 : (a.kind == 1) = false := by rw [hk]; rfl
      have e2 : (a.kind == 2) = false := by rw [hk]; rfl
      have e3 : (a.kind == 3) = false := by rw [hk]; rfl
      have e4 : (a.kind == 4) = false := by rw [hk]; rfl
      have e5 : (a.kind == 5) = false := by rw [hk]; rfl
      have e6 : (a.kind == 6) = false := by rw [hk]; rfl
      have e7 : (a.kind == 7) = false := by rw [hk]; rfl
      have e8 : (a.kind == 8) = true := by rw [hk]; rfl
      have e9 : (a.kind == 9) = false := by rw [hk]; rfl
      have e10 : (a.kind == 10) = false := by rw [hk]; rfl
      have e11 : (a.kind == 11) = false := by rw [hk]; rfl
      have e12 : (a.kind == 12) = false := by rw [hk]; rfl
      have HE := Lib.hid (bytesA_k [110] 8 hk rfl HG.out)
      simp only [List.foldl_cons, List.foldl_nil] at HE
      clear hk
      have c1 : W2.cell? ⟨w.heap.size, 1, none⟩ = some (.string a.name) := H2.out.1.cell 1
      go_wp2_with fail
      refine (rtext_any _ _ _ _ _ H2.out.2.1.bt a.name HZ.out.1 (by omega)).mono ?_
      rintro e w3 ⟨A3, n3, c3, rfl, ho, hc⟩
      have H3 := Lib.hid (And.intro (ho.lower (B := w.heap.size) H2.out.2.2.size) (H2.out.2.2.trans hc))
      clear ho hc
      go_wp2
      go_ret
      exact ⟨A3, n3, c3, rfl, by rw [HE.out]; exact H3.out.1, H3.out.2⟩
    · have e1 : (a.kind == 1) = false := by rw [hk]; rfl
      have e2 : (a.kind == 2) = false := by rw [hk]; rfl
      have e3 : (a.kind == 3) = false := by rw [hk]; rfl
      have e4 : (a.kind == 4) = false := by rw [hk]; rfl
      have e5 : (a.kind == 5) = false := by rw [hk]; rfl
      have e6 : (a.kind == 6) = false := by rw [hk]; rfl
      have e7 : (a.kind == 7) = false := by rw [hk]; rfl
      have e8 : (a.kind == 8) = false := by rw [hk]; rfl
      have e9 : (a.kind == 9) = true := by rw [hk]; rfl
      have e10 : (a.kind == 10) = false := by rw [hk]; rfl
      have e11 : (a.kind == 11) = false := by rw [hk]; rfl
      have e12 : (a.kind == 12) = false := by rw [hk]; rfl
      have HE := Lib.hid (bytesA_k [110, 116] 9 hk rfl HG.out)
      simp only [List.foldl_cons, List.foldl_nil] at HE
      clear hk
      go_upto_region 20 with fail
      refine wp_region_noPanic ?_
      refine wp_region_held_drew (S := fun w' => w'.cell? ⟨w.heap.size, 1, none⟩ = some (.string a.name) ∧ w'.cell? ⟨w.heap.size, 3, none⟩ = some (.int .u64 a.tag)) (by kernel_rfl) ⟨H2.out.1.cell 1, H2.out.1.cell 3⟩ (fun hHeld => ?_)
      refine wpAnyH_take (i := 0) (oi := _) (v := ?_) rfl (by kernel_rfl) (by kernel_rfl) (by kernel_rfl) (fun _ _ _ h => h) (Or.inl ⟨by rfl, ?_⟩) (by assumption) ?_
      rotate_left 1
      · intro w hSw
        try dsimp only at hSw
        go_simp
        try with_reducible rfl
      try simp only [List.getElem_toArray, List.getElem_cons_zero, List.getElem_cons_succ, Act.put, List.setIfInBounds_toArray, List.set_cons_zero, List.set_cons_succ]
      refine wpAnyH_take (i := 1) (oi := _) (v := ?_) rfl (by kernel_rfl) (by kernel_rfl) (by kernel_rfl) (fun _ _ _ h => h) (Or.inl ⟨by rfl, ?_⟩) (by assumption) ?_
      rotate_left 1
      · intro w hSw
        try dsimp only at hSw
        go_simp
        try with_reducible rfl
      try simp only [List.getElem_toArray, List.getElem_cons_zero, List.getElem_cons_succ, Act.put, List.setIfInBounds_toArray, List.set_cons_zero, List.set_cons_succ]
      refine wpAnyH_take (i := 2) (oi := _) (v := ?_) rfl (by kernel_rfl) (by kernel_rfl) (by kernel_rfl) (fun _ _ _ h => h) (Or.inl ⟨by rfl, ?_⟩) (by assumption) ?_
      rotate_left 1
      · intro w hSw
        try dsimp only at hSw
        go_simp
        try with_reducible rfl
      try simp only [List.getElem_toArray, List.getElem_cons_zero, List.getElem_cons_succ, Act.put, List.setIfInBounds_toArray, List.set_cons_zero, List.set_cons_succ]
      refine wpAnyH_take (i := 4) (oi := _) (v := ?_) rfl (by kernel_rfl) (by kernel_rfl) (by kernel_rfl) (fun _ _ _ h => h) (Or.inl ⟨by rfl, ?_⟩) (by assumption) ?_
      rotate_left 1
      · intro w hSw
        try dsimp only at hSw
        go_simp
        try with_reducible rfl
      try simp only [List.getElem_toArray, List.getElem_cons_zero, List.getElem_cons_succ, Act.put, List.setIfInBounds_toArray, List.set_cons_zero, List.set_cons_succ]
      refine wpAnyH_take (i := 5) (oi := _) (v := ?_) rfl (by kernel_rfl) (by kernel_rfl) (by kernel_rfl) (fun _ _ _ h => h) (Or.inl ⟨by rfl, ?_⟩) (by assumption) ?_
      rotate_left 1
      · intro w hSw
        try dsimp only at hSw
        go_simp
        try with_reducible rfl
      try simp only [List.getElem_toArray, List.getElem_cons_zero, List.getElem_cons_succ, Act.put, List.setIfInBounds_toArray, List.set_cons_zero, List.set_cons_succ]
      have HD := Lib.hid (And.intro (H2.out.1.drewN 1) (And.intro (H2.out.2.1.chg0 ((Chg.refl [] W2).drew)) (H2.out.2.2.drew)))
      refine wpAnyH_ready (rs := [3]) (by kernel_rfl) (by simp) (AllReadyH.cons rfl (fun K hK => ?_) AllReadyH.nil)
      go_simp
      refine (rtext_any _ _ _ _ _ HD.out.2.1.bt a.name HZ.out.1 (by omega)).mono ?_
      rintro e w3 ⟨A3, n3, c3, rfl, ho, hc⟩
      have H3 := Lib.hid (And.intro (HD.out.1.chg hc (by simp)) (And.intro (ho.lower (B := w.heap.size) HD.out.2.2.size) (HD.out.2.2.trans hc)))
      have hn3 : n3 ≤ 70000 := by
        have h1 := ho.len
        have h2 := HD.out.2.1.len
        have h3 := txt_le a.name
        simp only [List.length_append, Ac.be_len] at h1 h2
        omega
      clear ho hc
      go_wp2_with fail
      refine hK.out _ _ ⟨H3.out.1.cell 1, H3.out.1.cell 3⟩ (fun hHeld => ?_)
      clear hK K
      try simp only [List.getElem_toArray, List.getElem_cons_zero, List.getElem_cons_succ, Act.put, List.setIfInBounds_toArray, List.set_cons_zero, List.set_cons_succ]
      refine wpAnyH_ready (rs := [6]) (by kernel_rfl) (by simp) (AllReadyH.cons rfl (fun K hK => ?_) AllReadyH.nil)
      go_simp
      rw [← HF.out.tag.eq]
      refine (rput_any 8 (by unfold WidK; omega) (Ac.u64 a.tag) (u64_lt' _) _ _ _ _ _ H3.out.2.1.bt (by omega)).mono ?_
      rintro e w4 ⟨A4, n4, c4, rfl, ho, hc⟩
      have H4 := Lib.hid (And.intro (H3.out.1.chg hc (by simp)) (And.intro (ho.lower (B := w.heap.size) H3.out.2.2.size) (H3.out.2.2.trans hc)))
      clear ho hc
      go_wp2_with fail
      refine hK.out _ _ ⟨H4.out.1.cell 1, H4.out.1.cell 3⟩ (fun hHeld => ?_)
      clear hK K
      try simp only [List.getElem_toArray, List.getElem_cons_zero, List.getElem_cons_succ, Act.put, List.setIfInBounds_toArray, List.set_cons_zero, List.set_cons_succ]
      refine wpAnyH_take (i := 7) (oi := _) (v := ?_) rfl (by kernel_rfl) (by kernel_rfl) (by kernel_rfl) (fun _ _ _ h => h) (Or.inl ⟨by rfl, ?_⟩) (by assumption) ?_
      rotate_left 1
      · intro w hSw
        try dsimp only at hSw
        go_simp
        try with_reducible rfl
      try simp only [List.getElem_toArray, List.getElem_cons_zero, List.getElem_cons_succ, Act.put, List.setIfInBounds_toArray, List.set_cons_zero, List.set_cons_succ]
      refine wpAnyH_done (by kernel_rfl) ?_ _
      refine NoPanic.normal ?_
      go_wp2
      go_ret
      exact ⟨A4, n4, c4, rfl, by rw [HE.out]; exact H4.out.2.1, H4.out.2.2⟩
    · have e1 : (a.kind == 1) = false := by rw [hk]; rfl
      have e2 : (a.kind == 2) = false := by rw [hk]; rfl
      have e3 : (a.kind == 3) = false := by rw [hk]; rfl
      have e4 : (a.kind == 4) = false := by rw [hk]; rfl
      have e5 : (a.kind == 5) = false := by rw [hk]; rfl
      have e6 : (a.kind == 6) = false := by rw [hk]; rfl
      have e7 : (a.kind == 7) = false := by rw [hk]; rfl
      have e8 : (a.kind == 8) = false := by rw [hk]; rfl
      have e9 : (a.kind == 9) = false := by rw [hk]; rfl
      have e10 : (a.kind == 10) = true := by rw [hk]; rfl
      have e11 : (a.kind == 11) = false := by rw [hk]; rfl
      have e12 : (a.kind == 12) = false := by rw [hk]; rfl
      have HE := Lib.hid (bytesA_k [110, 116] 10 hk rfl HG.out)
      simp only [List.foldl_cons, List.foldl_nil] at HE
      clear hk
      go_upto_region 20 with fail
      refine wp_region_noPanic ?_
      refine wp_region_held_drew (S := fun w' => w'.cell? ⟨w.heap.size, 1, none⟩ = some (.string a.name) ∧ w'.cell? ⟨w.heap.size, 3, none⟩ = some (.int .u64 a.tag)) (by kernel_rfl) ⟨H2.out.1.cell 1, H2.out.1.cell 3⟩ (fun hHeld => ?_)
      refine wpAnyH_take (i := 0) (oi := _) (v := ?_) rfl (by kernel_rfl) (by kernel_rfl) (by kernel_rfl) (fun _ _ _ h => h) (Or.inl ⟨by rfl, ?_⟩) (by assumption) ?_
      rotate_left 1
      · intro w hSw
        try dsimp only at hSw
        go_simp
        try with_reducible rfl
      try simp only [List.getElem_toArray, List.getElem_cons_zero, List.getElem_cons_succ, Act.put, List.setIfInBounds_toArray, List.set_cons_zero, List.set_cons_succ]
      refine wpAnyH_take (i := 1) (oi := _) (v := ?_) rfl (by kernel_rfl) (by kernel_rfl) (by kernel_rfl) (fun _ _ _ h => h) (Or.inl ⟨by rfl, ?_⟩) (by assumption) ?_
      rotate_left 1
      · intro w hSw
        try dsimp only at hSw
        go_simp
        try with_reducible rfl
      try simp only [List.getElem_toArray, List.getElem_cons_zero, List.getElem_cons_succ, Act.put, List.setIfInBounds_toArray, List.set_cons_zero, List.set_cons_succ]
      refine wpAnyH_take (i := 2) (oi := _) (v := ?_) rfl (by kernel_rfl) (by kernel_rfl) (by kernel_rfl) (fun _ _ _ h => h) (Or.inl ⟨by rfl, ?_⟩) (by assumption) ?_
      rotate_left 1
      · intro w hSw
        try dsimp only at hSw
        go_simp
        try with_reducible rfl
      try simp only [List.getElem_toArray, List.getElem_cons_zero, List.getElem_cons_succ, Act.put, List.setIfInBounds_toArray, List.set_cons_zero, List.set_cons_succ]
      refine wpAnyH_take (i := 4) (oi := _) (v := ?_) rfl (by kernel_rfl) (by kernel_rfl) (by kernel_rfl) (fun _ _ _ h => h) (Or.inl ⟨by rfl, ?_⟩) (by assumption) ?_
      rotate_left 1
      · intro w hSw
        try dsimp only at hSw
        go_simp
        try with_reducible rfl
      try simp only [List.getElem_toArray, List.getElem_cons_zero, List.getElem_cons_succ, Act.put, List.setIfInBounds_toArray, List.set_cons_zero, List.set_cons_succ]
      refine wpAnyH_take (i := 5) (oi := _) (v := ?_) rfl (by kernel_rfl) (by kernel_rfl) (by kernel_rfl) (fun _ _ _ h => h) (Or.inl ⟨by rfl, ?_⟩) (by assumption) ?_
      rotate_left 1
      · intro w hSw
        try dsimp only at hSw
        go_simp
        try with_reducible rfl
      try simp only [List.getElem_toArray, List.getElem_cons_zero, List.getElem_cons_succ, Act.put, List.setIfInBounds_toArray, List.set_cons_zero, List.set_cons_succ]
      have HD := Lib.hid (And.intro (H2.out.1.drewN 1) (And.intro (H2.out.2.1.chg0 ((Chg.refl [] W2).drew)) (H2.out.2.2.drew)))
      refine wpAnyH_ready (rs := [3]) (by kernel_rfl) (by simp) (AllReadyH.cons rfl (fun K hK => ?_) AllReadyH.nil)
      go_simp
      refine (rtext_any _ _ _ _ _ HD.out.2.1.bt a.name HZ.out.1 (by omega)).mono ?_
      rintro e w3 ⟨A3, n3, c3, rfl, ho, hc⟩
      have H3 := Lib.hid (And.intro (HD.out.1.chg hc (by simp)) (And.intro (ho.lower (B := w.heap.size) HD.out.2.2.size) (HD.out.2.2.trans hc)))
      have hn3 : n3 ≤ 70000 := by
        have h1 := ho.len
        have h2 := HD.out.2.1.len
        have h3 := txt_le a.name
        simp only [List.length_append, Ac.be_len] at h1 h2
        omega
      clear ho hc
      go_wp2_with fail
      refine hK.out _ _ ⟨H3.out.1.cell 1, H3.out.1.cell 3⟩ (fun hHeld => ?_)
      clear hK K
      try simp only [List.getElem_toArray, List.getElem_cons_zero, List.getElem_cons_succ, Act.put, List.setIfInBounds_toArray, List.set_cons_zero, List.set_cons_succ]
      refine wpAnyH_ready (rs := [6]) (by kernel_rfl) (by simp) (AllReadyH.cons rfl (fun K hK => ?_) AllReadyH.nil)
      go_simp
      rw [← HF.out.tag.eq]
      refine (rput_any 8 (by unfold WidK; omega) (Ac.u64 a.tag) (u64_lt' _) _ _ _ _ _ H3.out.2.1.bt (by omega)).mono ?_
      rintro e w4 ⟨A4, n4, c4, rfl, ho, hc⟩
      have H4 := Lib.hid (And.intro (H3.out.1.chg hc (by simp)) (And.intro (ho.lower (B := w.heap.size) H3.out.2.2.size) (H3.out.2.2.trans hc)))
      clear ho hc
      go_wp2_with fail
      refine hK.out _ _ ⟨H4.out.1.cell 1, H4.out.1.cell 3⟩ (fun hHeld => ?_)
      clear hK K
      try simp only [List.getElem_toArray, List.getElem_cons_zero, List.getElem_cons_succ, Act.put, List.setIfInBounds_toArray, List.set_cons_zero, List.set_cons_succ]
      refine wpAnyH_take (i := 7) (oi := _) (v := ?_) rfl (by kernel_rfl) (by kernel_rfl) (by kernel_rfl) (fun _ _ _ h => h) (Or.inl ⟨by rfl, ?_⟩) (by assumption) ?_
      rotate_left 1
      · intro w hSw
        try dsimp only at hSw
        go_simp
        try with_reducible rfl
      try simp only [List.getElem_toArray, List.getElem_cons_zero, List.getElem_cons_succ, Act.put, List.setIfInBounds_toArray, List.set_cons_zero, List.set_cons_succ]
      refine wpAnyH_done (by kernel_rfl) ?_ _
      refine NoPanic.normal ?_
      go_wp2
      go_ret
      exact ⟨A4, n4, c4, rfl, by rw [HE.out]; exact H4.out.2.1, H4.out.2.2⟩
    · have e1 : (a.kind == 1) = false := by rw [hk]; rfl
      have e2 : (a.kind == 2) = false := by rw [hk]; rfl
      have e3 : (a.kind == 3) = false := by rw [hk]; rfl
      have e4 : (a.kind == 4) = false := by rw [hk]; rfl
      have e5 : (a.kind == 5) = false := by rw [hk]; rfl
      have e6 : (a.kind == 6) = false := by rw [hk]; rfl
      have e7 : (a.kind == 7) = false := by rw [hk]; rfl
      have e8 : (a.kind == 8) = false := by rw [hk]; rfl
      have e9 : (a.kind == 9) = false := by rw [hk]; rfl
      have e10 : (a.kind == 10) = false := by rw [hk]; rfl
      have e11 : (a.kind == 11) = true := by rw [hk]; rfl
      have e12 : (a.kind == 12) = false := by rw [hk]; rfl
      have HE := Lib.hid (bytesA_k [111, 99] 11 hk rfl HG.out)
      simp only [List.foldl_cons, List.foldl_nil] at HE
      clear hk
      go_upto_region 22 with fail
      refine wp_region_noPanic ?_
      refine wp_region_held_drew (S := fun w' => w'.cell? ⟨w.heap.size, 4, none⟩ = some (.int .i64 a.dst) ∧ w'.cell? ⟨w.heap.size, 2, none⟩ = some (.int .i64 a.n)) (by kernel_rfl) ⟨H2.out.1.cell 4, H2.out.1.cell 2⟩ (fun hHeld => ?_)
      refine wpAnyH_take (i := 0) (oi := _) (v := ?_) rfl (by kernel_rfl) (by kernel_rfl) (by kernel_rfl) (fun _ _ _ h => h) (Or.inl ⟨by rfl, ?_⟩) (by assumption) ?_
      rotate_left 1
      · intro w hSw
        try dsimp only at hSw
        go_simp
        try with_reducible rfl
      try simp only [List.getElem_toArray, List.getElem_cons_zero, List.getElem_cons_succ, Act.put, List.setIfInBounds_toArray, List.set_cons_zero, List.set_cons_succ]
      refine wpAnyH_take (i := 1) (oi := _) (v := ?_) rfl (by kernel_rfl) (by kernel_rfl) (by kernel_rfl) (fun _ _ _ h => h) (Or.inl ⟨by rfl, ?_⟩) (by assumption) ?_
      rotate_left 1
      · intro w hSw
        try dsimp only at hSw
        go_simp
        try with_reducible rfl
      try simp only [List.getElem_toArray, List.getElem_cons_zero, List.getElem_cons_succ, Act.put, List.setIfInBounds_toArray, List.set_cons_zero, List.set_cons_succ]
      refine wpAnyH_take (i := 2) (oi := _) (v := ?_) rfl (by kernel_rfl) (by kernel_rfl) (by kernel_rfl) (fun _ _ _ h => h) (Or.inl ⟨by rfl, ?_⟩) (by assumption) ?_
      rotate_left 1
      · intro w hSw
        try dsimp only at hSw
        go_simp
        try with_reducible rfl
      try simp only [List.getElem_toArray, List.getElem_cons_zero, List.getElem_cons_succ, Act.put, List.setIfInBounds_toArray, List.set_cons_zero, List.set_cons_succ]
      refine wpAnyH_take (i := 3) (oi := _) (v := ?_) rfl (by kernel_rfl) (by kernel_rfl) (by kernel_rfl) (fun _ _ _ h => h) (Or.inl ⟨by rfl, ?_⟩) (by assumption) ?_
      rotate_left 1
      · intro w hSw
        try dsimp only at hSw
        go_simp
        try with_reducible rfl
      try simp only [List.getElem_toArray, List.getElem_cons_zero, List.getElem_cons_succ, Act.put, List.setIfInBounds_toArray, List.set_cons_zero, List.set_cons_succ]
      refine wpAnyH_take (i := 5) (oi := _) (v := ?_) rfl (by kernel_rfl) (by kernel_rfl) (by kernel_rfl) (fun _ _ _ h => h) (Or.inl ⟨by rfl, ?_⟩) (by assumption) ?_
      rotate_left 1
      · intro w hSw
        try dsimp only at hSw
        go_simp
        try with_reducible rfl
      try simp only [List.getElem_toArray, List.getElem_cons_zero, List.getElem_cons_succ, Act.put, List.setIfInBounds_toArray, List.set_cons_zero, List.set_cons_succ]
      refine wpAnyH_take (i := 6) (oi := _) (v := ?_) rfl (by kernel_rfl) (by kernel_rfl) (by kernel_rfl) (fun _ _ _ h => h) (Or.inl ⟨by rfl, ?_⟩) (by assumption) ?_
      rotate_left 1
      · intro w hSw
        try dsimp only at hSw
        go_simp
        try with_reducible rfl
      try simp only [List.getElem_toArray, List.getElem_cons_zero, List.getElem_cons_succ, Act.put, List.setIfInBounds_toArray, List.set_cons_zero, List.set_cons_succ]
      refine wpAnyH_take (i := 7) (oi := _) (v := ?_) rfl (by kernel_rfl) (by kernel_rfl) (by kernel_rfl) (fun _ _ _ h => h) (Or.inl ⟨by rfl, ?_⟩) (by assumption) ?_
      rotate_left 1
      · intro w hSw
        try dsimp only at hSw
        go_simp
        try with_reducible rfl
      try simp only [List.getElem_toArray, List.getElem_cons_zero, List.getElem_cons_succ, Act.put, List.setIfInBounds_toArray, List.set_cons_zero, List.set_cons_succ]
      have HD := Lib.hid (And.intro (H2.out.1.drewN 1) (And.intro (H2.out.2.1.chg0 ((Chg.refl [] W2).drew)) (H2.out.2.2.drew)))
      refine wpAnyH_ready (rs := [4]) (by kernel_rfl) (by simp) (AllReadyH.cons rfl (fun K hK => ?_) AllReadyH.nil)
      go_simp
      rw [wrap_u]
      refine (rput_any 1 (by unfold WidK; omega) (Ac.u64 a.dst) (u64_lt' _) _ _ _ _ _ HD.out.2.1.bt (by omega)).mono ?_
      rintro e w3 ⟨A3, n3, c3, rfl, ho, hc⟩
      have H3 := Lib.hid (And.intro (HD.out.1.chg hc (by simp)) (And.intro (ho.lower (B := w.heap.size) HD.out.2.2.size) (HD.out.2.2.trans hc)))
      have hn3 : n3 ≤ 70000 := by
        have h1 := ho.len
        have h2 := HD.out.2.1.len
        have h3 := txt_le a.name
        simp only [List.length_append, Ac.be_len] at h1 h2
        omega
      clear ho hc
      go_wp2_with fail
      refine hK.out _ _ ⟨H3.out.1.cell 4, H3.out.1.cell 2⟩ (fun hHeld => ?_)
      clear hK K
      try simp only [List.getElem_toArray, List.getElem_cons_zero, List.getElem_cons_succ, Act.put, List.setIfInBounds_toArray, List.set_cons_zero, List.set_cons_succ]
      refine wpAnyH_ready (rs := [8]) (by kernel_rfl) (by simp) (AllReadyH.cons rfl (fun K hK => ?_) AllReadyH.nil)
      go_simp
      rw [wrap_u]
      refine (rput_any 2 (by unfold WidK; omega) (Ac.u64 a.n) (u64_lt' _) _ _ _ _ _ H3.out.2.1.bt (by omega)).mono ?_
      rintro e w4 ⟨A4, n4, c4, rfl, ho, hc⟩
      have H4 := Lib.hid (And.intro (H3.out.1.chg hc (by simp)) (And.intro (ho.lower (B := w.heap.size) H3.out.2.2.size) (H3.out.2.2.trans hc)))
      clear ho hc
      go_wp2_with fail
      refine hK.out _ _ ⟨H4.out.1.cell 4, H4.out.1.cell 2⟩ (fun hHeld => ?_)
      clear hK K
      try simp only [List.getElem_toArray, List.getElem_cons_zero, List.getElem_cons_succ, Act.put, List.setIfInBounds_toArray, List.set_cons_zero, List.set_cons_succ]
      refine wpAnyH_take (i := 9) (oi := _) (v := ?_) rfl (by kernel_rfl) (by kernel_rfl) (by kernel_rfl) (fun _ _ _ h => h) (Or.inl ⟨by rfl, ?_⟩) (by assumption) ?_
      rotate_left 1
      · intro w hSw
        try dsimp only at hSw
        go_simp
        try with_reducible rfl
      try simp only [List.getElem_toArray, List.getElem_cons_zero, List.getElem_cons_succ, Act.put, List.setIfInBounds_toArray, List.set_cons_zero, List.set_cons_succ]
      refine wpAnyH_done (by kernel_rfl) ?_ _
      refine NoPanic.normal ?_
      go_wp2
      go_ret
      exact ⟨A4, n4, c4, rfl, by rw [HE.out]; exact H4.out.2.1, H4.out.2.2⟩
    · have e1 : (a.kind == 1) = false := by rw [hk]; rfl
      have e2 : (a.kind == 2) = false := by rw [hk]; rfl
      have e3 : (a.kind == 3) = false := by rw [hk]; rfl
      have e4 : (a.kind == 4) = false := by rw [hk]; rfl
      have e5 : (a.kind == 5) = false := by rw [hk]; rfl
      have e6 : (a.kind == 6) = false := by rw [hk]; rfl
      have e7 : (a.kind == 7) = false := by rw [hk]; rfl
      have e8 : (a.kind == 8) = false := by rw [hk]; rfl
      have e9 : (a.kind == 9) = false := by rw [hk]; rfl
      have e10 : (a.kind == 10) = false := by rw [hk]; rfl
      have e11 : (a.kind == 11) = false := by rw [hk]; rfl
      have e12 : (a.kind == 12) = true := by rw [hk]; rfl
      have HE := Lib.hid (bytesA_k [] 12 hk rfl HG.out)
      simp only [List.foldl_cons, List.foldl_nil] at HE
      clear hk
      go_wp2
      go_ret
      exact ⟨A, n, c, rfl, by rw [HE.out]; exact H2.out.2.1, H2.out.2.2⟩
end Go.Proofs.YtmfaooihigphgaaDoor
