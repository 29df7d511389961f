/- ActBack: the law walked. -/
import Derived.Test.YtmfaooihigphgaaDoorAcTw
import Derived.Test.YtmfaooihigphgaaDoorAcRm
set_option linter.unusedVariables false
set_option linter.unusedSimpArgs false
namespace Go.Proofs.YtmfaooihigphgaaDoor
open Go.RowKit
open Go.Proofs.YtmfaooihigphgaaDoor.Ac (ActS)

/-- An act newly stored. -/
theorem new_act (w : World) (a : ActS) : ∃ w', (Instr.storeAt 32 (.pointer (some ⟨w.heap.size, 0, none⟩)) (actV a)).run Tryd.prog (w.alloc (.cells (ActS.cells Ac.ActS.zero) 32)) = .ok () w' ∧ Blk w' w.heap.size 32 (ActS.cells a) ∧ Chg [] w w' := by
  obtain ⟨w', h1, h2, h3⟩ := store_act (a := a) (Blk.new w 32 (ActS.cells Ac.ActS.zero)) rfl
  exact ⟨w', h1, h2, ((Chg.refl [] w).alloc _).then_ h3 (fun b hb => by simp at hb; subst hb; exact .inr (Nat.le_refl _))⟩
theorem new_msg (w : World) (m : Msg) : ∃ w', (Instr.storeAt 30 (.pointer (some ⟨w.heap.size, 0, none⟩)) (.agg m.cells)).run Tryd.prog (w.alloc (.cells Msg.zero.cells 30)) = .ok () w' ∧ Blk w' w.heap.size 30 m.cells ∧ Chg [] w w' := by
  obtain ⟨w', h1, h2, h3⟩ := store_msg (m := m) (Blk.new w 30 Msg.zero.cells) rfl
  exact ⟨w', h1, h2, ((Chg.refl [] w).alloc _).then_ h3 (fun b hb => by simp at hb; subst hb; exact .inr (Nat.le_refl _))⟩
/-- A copy of bytes, and more behind it. -/
theorem app2_bytes {w : World} {A : Option Addr} {n c : Nat} {l : Bs} (hl : Bt w A n c l) (hn : n ≤ 2000000) (k : Nat) (m : Bs) (hk : k = m.length) (hk2 : k ≤ 10) :
    ∃ A1 c1 w1 A2 c2 w2, AppR Tryd.prog 37 37 37 (.slice (some ⟨w.heap.size, 0, none⟩) 0 0) (.slice A n c) (w.alloc (.cells #[] 5)) (.slice A1 n c1) w1
      ∧ AppR Tryd.prog 37 37 37 (.slice A1 n c1) (.slice (some ⟨w1.heap.size, 0, none⟩) k k) (w1.alloc (.cells (bvs m).toArray 5)) (.slice A2 (n + k) c2) w2 ∧ Bt w2 A2 (n + k) c2 (l ++ m) ∧ Chg [] w w2 := by
  obtain ⟨A1, c1, w1, hap1, ho1, hc1⟩ := app_lit w 37 (.slice A n c) n l hl.len ((hl.chg0 ((Chg.refl [] w).alloc _)).src) (by omega)
  have hca := (Chg.refl [] w1).alloc (.cells (bvs m).toArray 5)
  obtain ⟨A2, c2, w2, hap2, ho2, hc2, _⟩ := (ho1.chg0 hca).app 37 (.slice (some ⟨w1.heap.size, 0, none⟩) k k) k m hk (Bt.lit w1 m k hk).src (by omega) (by have := (hc1.trans hca).size; omega)
  exact ⟨A1, c1, w1, A2, c2, w2, hap1, hap2, ho2.bt, (hc1.trans hca).then_ hc2 (fun b hb => .inr (ho1.own.ge b hb))⟩
theorem nat_u64 {b : Int} (wb : (Lit.int .u64 b).wf = true) : ∃ n : Nat, b = (n : Int) ∧ n < 18446744073709551616 := by
  simp only [Lit.wf, Bool.and_eq_true, decide_eq_true_eq] at wb
  have e1 : IntKind.u64.min = 0 := by decide
  have e2 : IntKind.u64.max = 18446744073709551615 := by decide
  rw [e1, e2] at wb
  exact ⟨b.toNat, by omega, by omega⟩
end Go.Proofs.YtmfaooihigphgaaDoor
namespace Go.Proofs.YtmfaooihigphgaaDoor.actBack
open Go.RowKit Go.Proofs.YtmfaooihigphgaaDoor
open Go.Proofs.YtmfaooihigphgaaDoor.Ac (ActS)
set_option maxRecDepth 100000 in
set_option maxHeartbeats 16000000 in
theorem walk (a : ActS) (ha : a.Wf) (m : Msg) (hm : m.WfS) (cut : Int) (wc : (Lit.int .u64 cut).wf = true) (W : World) (hL : Laid W) : Calls Tryd.prog 5 #[actV a, msgV m, .int .u64 cut] W fun e w' => e = .returned (.bool true) ∧ Below W.heap.size W w' := by
  obtain ⟨q, rfl, hq⟩ := nat_u64 wc
  clear wc
  have HL := Lib.hid hL
  have HA := Lib.hid (And.intro ha hm)
  have H0 : Hid (Blk ((W.alloc (.cells (ActS.cells a) 32)).alloc (.cells m.cells 30)) W.heap.size 32 (ActS.cells a) ∧ Blk ((W.alloc (.cells (ActS.cells a) 32)).alloc (.cells m.cells 30)) (W.heap.size + 1) 30 m.cells ∧ Chg [] W ((W.alloc (.cells (ActS.cells a) 32)).alloc (.cells m.cells 30))) :=
    Lib.hid ⟨(Blk.new W _ _).alloc _, by have := Blk.new (W.alloc (.cells (ActS.cells a) 32)) 30 m.cells; rwa [World.size_alloc] at this, ((Chg.refl [] W).alloc _).alloc _⟩
  have s1 := hm.ex
  have s2 := hm.key
  have s3 := hm.body
  clear hL ha hm
  unfold actV msgV
  go_enter Tryd.func5, Tryd.ntmps5
  go_upto_region 1 with fail
  generalize (W.alloc (.cells (ActS.cells a) 32)).alloc (.cells m.cells 30) = w0 at *
  have hl1 := load_act H0.out.1
  go_wp2_with (refine wpList_loadW _ _ (by rfl) _ _ (by rfl) hl1 (by rfl) ?_)
  refine (great_any a HA.out.1.size w0).mono ?_
  rintro e w1 ⟨rfl, hc⟩
  have H1 := Lib.hid (And.intro (H0.out.1.chg hc (by simp)) (And.intro (H0.out.2.1.chg hc (by simp)) (H0.out.2.2.trans hc)))
  clear hc
  clear hl1
  by_cases hg : 3000 < sumA a
  · rw [decide_eq_true hg]
    clear hg
    go_wp2_with fail
    refine (lives_any _ (HL.out.chg0 H1.out.2.2)).mono ?_
    rintro e wF ⟨rfl, hc⟩
    have HF := Lib.hid (And.intro (H1.out.1.chg hc (by simp)) (And.intro (H1.out.2.1.chg hc (by simp)) (H1.out.2.2.trans hc)))
    clear hc
    go_wp2
    go_ret
    exact ⟨rfl, HF.out.2.2.end_⟩
  rw [decide_eq_false hg]
  have HS := Lib.hid (HA.out.1.fitA (by omega))
  clear hg
  have c2 : w1.cell? ⟨W.heap.size + 1, 3, none⟩ = some (.string m.ex) := H1.out.2.1.cell 3
  have c3 : w1.cell? ⟨W.heap.size + 1, 4, none⟩ = some (.string m.key) := H1.out.2.1.cell 4
  have c4 : w1.cell? ⟨W.heap.size + 1, 5, none⟩ = some (.string m.body) := H1.out.2.1.cell 5
  by_cases hg : (3000 : Int) < (m.ex.size : Int) + (m.key.size : Int) + (m.body.size : Int)
  · skip
    go_wp2_with fail
    refine (lives_any _ (HL.out.chg0 H1.out.2.2)).mono ?_
    rintro e wF ⟨rfl, hc⟩
    have HF := Lib.hid (And.intro (H1.out.1.chg hc (by simp)) (And.intro (H1.out.2.1.chg hc (by simp)) (H1.out.2.2.trans hc)))
    clear hc
    go_wp2
    go_ret
    exact ⟨rfl, HF.out.2.2.end_⟩
  have hms : m.Small := ⟨by omega, by omega, by omega⟩
  have HM := Lib.hid (And.intro hms HA.out.2.fit)
  clear hms
  go_upto_region 3 with fail
  clear hg c2 c3 c4 s1 s2 s3
  have hl1 := load_msg H1.out.2.1
  go_wp2_with (refine wpList_loadW _ _ (by rfl) _ _ (by rfl) hl1 (by rfl) ?_)
  refine (goodm_any m HM.out.1 w1).mono ?_
  rintro e w2 ⟨rfl, hc⟩
  have H2 := Lib.hid (And.intro (H1.out.1.chg hc (by simp)) (And.intro (H1.out.2.1.chg hc (by simp)) (H1.out.2.2.trans hc)))
  clear hc
  clear hl1
  obtain ⟨gm, hgm⟩ : ∃ b, b = Ac.goodM m := ⟨_, rfl⟩
  rw [← hgm]
  have HG := Lib.hid hgm
  clear hgm
  cases gm with
  | false =>
    go_upto_region 9 with fail
    have hl1 := load_act H2.out.1
    go_wp2_with (refine wpList_loadW _ _ (by rfl) _ _ (by rfl) hl1 (by rfl) ?_)
    refine (bytes_any a HS.out w2 (HL.out.1.chg0 H2.out.2.2) (HL.out.2.chg0 H2.out.2.2)).mono ?_
    rintro e x1 ⟨B, k, d, rfl, ho, hc⟩
    have R1 := Lib.hid (And.intro (H2.out.1.chg hc (by simp)) (And.intro (H2.out.2.1.chg hc (by simp)) (H2.out.2.2.trans hc)))
    clear hc
    clear hl1
    have hl1 := load_act R1.out.1
    go_wp2_with (refine wpList_loadW _ _ (by rfl) _ _ (by rfl) hl1 (by rfl) ?_)
    refine (good_any a HS.out.small x1 (HL.out.2.chg0 R1.out.2.2)).mono ?_
    rintro e x2 ⟨rfl, hc⟩
    have hob := Lib.hid (ho.chg0 hc)
    clear ho hl1
    have R2 := Lib.hid (And.intro (R1.out.1.chg hc (by simp)) (And.intro (R1.out.2.1.chg hc (by simp)) (R1.out.2.2.trans hc)))
    clear hc
    obtain ⟨ga, hga⟩ : ∃ b, b = Ac.goodA a := ⟨_, rfl⟩
    rw [← hga]
    have HGA := Lib.hid hga
    clear hga
    cases ga with
    | false =>
      obtain rfl : k = 0 := by
        have h1 := hob.out.len
        unfold Ac.bytesA at h1
        rw [if_neg (by rw [← HGA.out]; simp)] at h1
        exact h1
      go_wp2_with fail
      refine (lives_any _ (HL.out.chg0 R2.out.2.2)).mono ?_
      rintro e wF ⟨rfl, hc⟩
      have HF := Lib.hid (And.intro (R2.out.1.chg hc (by simp)) (And.intro (R2.out.2.1.chg hc (by simp)) (R2.out.2.2.trans hc)))
      clear hc
      go_wp2
      go_ret
      exact ⟨rfl, HF.out.2.2.end_⟩
    | true =>
      have hk : k ≤ 801 ∧ 1 ≤ k := by
        have h1 := hob.out.len
        have h2 := Ac.bytesA_len (a := a)
        have h3 := List.length_pos_iff.2 (Ac.bytesA_ne HGA.out.symm)
        omega
      have k0 : ¬ ((k : Int) = 0) := by omega
      go_wp2_with fail
      refine (aread_any hob.out.bt (by omega) (HL.out.1.chg0 R2.out.2.2) (HL.out.2.chg0 R2.out.2.2)).mono ?_
      rintro e x3 ⟨rfl, hc⟩
      have er : Ac.readA (Ac.bytesA a) = some a := Ac.readA_bytes HGA.out.symm HS.out.fit
      have ee : errA (Ac.bytesA a) = 0 := by
        unfold errA
        rw [er]
        rfl
      rw [er, ee, Option.getD_some]
      clear er ee
      have hob := Lib.hid (hob.out.chg0 hc)
      have R3 := Lib.hid (And.intro (R2.out.1.chg hc (by simp)) (And.intro (R2.out.2.1.chg hc (by simp)) (R2.out.2.2.trans hc)))
      clear hc
      obtain ⟨x3n, hst, hbn, hc⟩ := new_act x3 a
      have HBN := Lib.hid hbn
      clear hbn
      go_upto_region 15 with (refine wpList_storeR (by rfl) _ _ _ (by rfl) _ _ (by rfl) (by rfl) _ hst ?_)
      clear hst
      have HX1 := HBN
      have hob := Lib.hid (hob.out.chg0 hc)
      have R4 := Lib.hid (And.intro (R3.out.1.chg hc (by simp)) (And.intro (R3.out.2.1.chg hc (by simp)) (R3.out.2.2.trans hc)))
      clear hc
      have hkd := hob.out.bt.le
      have hqk : q % k < k := Nat.mod_lt _ (by omega)
      go_wp2_with fail
      refine (aread_any (hob.out.bt.take (q % k) (by omega)) (by omega) (HL.out.1.chg0 R4.out.2.2) (HL.out.2.chg0 R4.out.2.2)).mono ?_
      rintro e x5 ⟨rfl, hc⟩
      have er : Ac.readA ((Ac.bytesA a).take (q % k)) = none := Ac.readA_cut HGA.out.symm HS.out.fit _ (by rw [← hob.out.len]; exact hqk)
      have ee : errA ((Ac.bytesA a).take (q % k)) = 7 := by
        unfold errA
        rw [er]
        rfl
      rw [er, ee, Option.getD_none]
      clear er ee
      have hob := Lib.hid (hob.out.chg0 hc)
      have HX2 := Lib.hid (HX1.out.chg hc (by simp))
      have R5 := Lib.hid (And.intro (R4.out.1.chg hc (by simp)) (And.intro (R4.out.2.1.chg hc (by simp)) (R4.out.2.2.trans hc)))
      clear hc
      obtain ⟨x5n, hst, hbn, hc⟩ := new_act x5 Ac.ActS.zero
      have HBN := Lib.hid hbn
      clear hbn
      go_upto_region 16 with (refine wpList_storeR (by rfl) _ _ _ (by rfl) _ _ (by rfl) (by rfl) _ hst ?_)
      clear hst
      have hob := Lib.hid (hob.out.chg0 hc)
      have HX3 := Lib.hid (HX2.out.chg hc (by simp))
      have R6 := Lib.hid (And.intro (R5.out.1.chg hc (by simp)) (And.intro (R5.out.2.1.chg hc (by simp)) (R5.out.2.2.trans hc)))
      clear hc
      obtain ⟨A1, c1, v1, A2, c2, v2, hap1, hap2, hb2, hc⟩ := app2_bytes hob.out.bt (by omega) 1 [0] rfl (by omega)
      have HX4 := Lib.hid (HX3.out.chg hc (by simp))
      have HB2 := Lib.hid hb2
      clear hb2
      have R7 := Lib.hid (And.intro (R6.out.1.chg hc (by simp)) (And.intro (R6.out.2.1.chg hc (by simp)) (R6.out.2.2.trans hc)))
      clear hc
      go_wp2_with (at_builtin; first | refine wpList_appR (by rfl) _ _ _ _ (by rfl) _ _ _ _ (by rfl) (by rfl) hap1 ?_ | refine wpList_appR (by rfl) _ _ _ _ (by rfl) _ _ _ _ (by rfl) (by rfl) hap2 ?_)
      clear hap1 hap2
      refine (aread_any HB2.out (by omega) (HL.out.1.chg0 R7.out.2.2) (HL.out.2.chg0 R7.out.2.2)).mono ?_
      rintro e x8 ⟨rfl, hc⟩
      have er : Ac.readA (Ac.bytesA a ++ [0]) = none := Ac.readA_more HGA.out.symm HS.out.fit 0
      have ee : errA (Ac.bytesA a ++ [0]) = 7 := by
        unfold errA
        rw [er]
        rfl
      rw [er, ee, Option.getD_none]
      clear er ee
      have HX5 := Lib.hid (HX4.out.chg hc (by simp))
      have R8 := Lib.hid (And.intro (R7.out.1.chg hc (by simp)) (And.intro (R7.out.2.1.chg hc (by simp)) (R7.out.2.2.trans hc)))
      clear hc
      obtain ⟨x8n, hst, hbn, hc⟩ := new_act x8 Ac.ActS.zero
      have HBN := Lib.hid hbn
      clear hbn
      go_upto_region 17 with (refine wpList_storeR (by rfl) _ _ _ (by rfl) _ _ (by rfl) (by rfl) _ hst ?_)
      clear hst
      have HX6 := Lib.hid (HX5.out.chg hc (by simp))
      have R9 := Lib.hid (And.intro (R8.out.1.chg hc (by simp)) (And.intro (R8.out.2.1.chg hc (by simp)) (R8.out.2.2.trans hc)))
      clear hc
      have hl1 := load_act HX6.out
      have hl2 := load_act R9.out.1
      have heq := run_eql_act a a x8n
      rw [(Ac.sameS_iff a a).2 rfl] at heq
      go_wp2_with (first | (refine wpList_loadW _ _ (by rfl) _ _ (by rfl) hl1 (by rfl) ?_) | (refine wpList_loadW _ _ (by rfl) _ _ (by rfl) hl2 (by rfl) ?_) | (refine wpList_eqW _ _ _ _ _ (by rfl) _ _ _ (by rfl) (by rfl) (fun _ _ => eqGuard_agg (by kernel_rfl) _ _ _ _ _) heq (by rfl) ?_))
      clear hl1 hl2 heq
      refine (lives_any _ (HL.out.chg0 R9.out.2.2)).mono ?_
      rintro e wF ⟨rfl, hc⟩
      have HF := Lib.hid (And.intro (R9.out.1.chg hc (by simp)) (And.intro (R9.out.2.1.chg hc (by simp)) (R9.out.2.2.trans hc)))
      clear hc
      go_wp2
      go_ret
      exact ⟨rfl, HF.out.2.2.end_⟩
  | true =>
    have hl1 := load_msg H2.out.2.1
    go_wp2_with (refine wpList_loadW _ _ (by rfl) _ _ (by rfl) hl1 (by rfl) ?_)
    refine (mbytes_any m HM.out.2 w2 (HL.out.1.chg0 H2.out.2.2)).mono ?_
    rintro e w3 ⟨A, n, c, rfl, ho, hc⟩
    have H3 := Lib.hid (And.intro (H2.out.1.chg hc (by simp)) (And.intro (H2.out.2.1.chg hc (by simp)) (H2.out.2.2.trans hc)))
    clear hc
    clear hl1
    have hn : n ≤ 400 ∧ 1 ≤ n := by
      have h1 := ho.len
      have h2 := Ac.goodM_facts HG.out.symm
      rw [Ac.msgB_len m (by omega)] at h1
      omega
    go_upto_region 5 with fail
    obtain ⟨A1, c1, v1, A2, c2, v2, hap1, hap2, hb2, hc⟩ := app2_bytes ho.bt (by omega) 2 [7, 7] rfl (by omega)
    have hob := Lib.hid (ho.chg0 hc)
    have HX := Lib.hid hb2
    clear ho hb2
    have H4 := Lib.hid (And.intro (H3.out.1.chg hc (by simp)) (And.intro (H3.out.2.1.chg hc (by simp)) (H3.out.2.2.trans hc)))
    clear hc
    go_wp2_with (at_builtin; first | refine wpList_appR (by rfl) _ _ _ _ (by rfl) _ _ _ _ (by rfl) (by rfl) hap1 ?_ | refine wpList_appR (by rfl) _ _ _ _ (by rfl) _ _ _ _ (by rfl) (by rfl) hap2 ?_)
    clear hap1 hap2
    refine (areadm_any HX.out (by omega) (HL.out.1.chg0 H4.out.2.2)).mono ?_
    rintro e w5 ⟨rfl, hc⟩
    rw [Ac.readM_msg HG.out.symm HM.out.2.seq.2]
    have hob := Lib.hid (hob.out.chg0 hc)
    have H5 := Lib.hid (And.intro (H4.out.1.chg hc (by simp)) (And.intro (H4.out.2.1.chg hc (by simp)) (H4.out.2.2.trans hc)))
    clear hc
    have hnl : ((Ac.msgB m).length : Nat) = n := hob.out.len.symm
    rw [hnl]
    unfold msgV Msg.cells
    go_upto_region 6 with fail
    have hca := (Chg.refl [] w5).alloc (.cells m.cells 30)
    have HXB := Lib.hid (And.intro (Blk.new w5 30 m.cells) (hob.out.chg0 hca))
    have hc := hca
    have H6 := Lib.hid (And.intro (H5.out.1.chg hc (by simp)) (And.intro (H5.out.2.1.chg hc (by simp)) (H5.out.2.2.trans hc)))
    clear hc
    clear hca
    change Code.wp _ _ _ _ (w5.alloc (.cells m.cells 30))
    generalize w5.alloc (.cells m.cells 30) = w6 at *
    clear hnl
    have hcn := HXB.out.2.bt.le
    have n0 : ¬ ((n : Int) = 0) := by omega
    have hql : q % n < n := Nat.mod_lt _ (by omega)
    go_wp2_with fail
    refine (areadm_any (HXB.out.2.bt.take (q % n) (by omega)) (by omega) (HL.out.1.chg0 H6.out.2.2)).mono ?_
    rintro e w7 ⟨rfl, hc⟩
    rw [Ac.readM_cut HG.out.symm HM.out.2.seq.2 _ (by rw [← HXB.out.2.len]; exact hql)]
    have HY := Lib.hid (HXB.out.1.chg hc (by simp))
    have H7 := Lib.hid (And.intro (H6.out.1.chg hc (by simp)) (And.intro (H6.out.2.1.chg hc (by simp)) (H6.out.2.2.trans hc)))
    clear hc
    unfold msgV Msg.cells Msg.zero
    go_upto_region 7 with fail
    have hc := (Chg.refl [] w7).alloc (.cells Msg.zero.cells 30)
    have HZ := Lib.hid (HY.out.chg hc (by simp))
    have H8 := Lib.hid (And.intro (H7.out.1.chg hc (by simp)) (And.intro (H7.out.2.1.chg hc (by simp)) (H7.out.2.2.trans hc)))
    clear hc
    change Code.wp _ _ _ _ (w7.alloc (.cells Msg.zero.cells 30))
    generalize w7.alloc (.cells Msg.zero.cells 30) = w8 at *
    have hl1 := load_msg HZ.out
    have hl2 := load_msg H8.out.2.1
    have heq := run_neq_msg m m w8
    rw [(sameM_iff m m).2 rfl] at heq
    have hnn : ((n : Int) == (n : Int)) = true := by simp
    go_upto_region 9 with (first | (refine wpList_loadW _ _ (by rfl) _ _ (by rfl) hl1 (by rfl) ?_) | (refine wpList_loadW _ _ (by rfl) _ _ (by rfl) hl2 (by rfl) ?_) | (refine wpList_eqW _ _ _ _ _ (by rfl) _ _ _ (by rfl) (by rfl) (fun _ _ => eqGuard_agg (by kernel_rfl) _ _ _ _ _) heq (by rfl) ?_))
    clear hl1 hl2 heq hnn n0 hcn hql hn
    have hl1 := load_act H8.out.1
    go_wp2_with (refine wpList_loadW _ _ (by rfl) _ _ (by rfl) hl1 (by rfl) ?_)
    refine (bytes_any a HS.out w8 (HL.out.1.chg0 H8.out.2.2) (HL.out.2.chg0 H8.out.2.2)).mono ?_
    rintro e x1 ⟨B, k, d, rfl, ho, hc⟩
    have R1 := Lib.hid (And.intro (H8.out.1.chg hc (by simp)) (And.intro (H8.out.2.1.chg hc (by simp)) (H8.out.2.2.trans hc)))
    clear hc
    clear hl1
    have hl1 := load_act R1.out.1
    go_wp2_with (refine wpList_loadW _ _ (by rfl) _ _ (by rfl) hl1 (by rfl) ?_)
    refine (good_any a HS.out.small x1 (HL.out.2.chg0 R1.out.2.2)).mono ?_
    rintro e x2 ⟨rfl, hc⟩
    have hob := Lib.hid (ho.chg0 hc)
    clear ho hl1
    have R2 := Lib.hid (And.intro (R1.out.1.chg hc (by simp)) (And.intro (R1.out.2.1.chg hc (by simp)) (R1.out.2.2.trans hc)))
    clear hc
    obtain ⟨ga, hga⟩ : ∃ b, b = Ac.goodA a := ⟨_, rfl⟩
    rw [← hga]
    have HGA := Lib.hid hga
    clear hga
    cases ga with
    | false =>
      obtain rfl : k = 0 := by
        have h1 := hob.out.len
        unfold Ac.bytesA at h1
        rw [if_neg (by rw [← HGA.out]; simp)] at h1
        exact h1
      go_wp2_with fail
      refine (lives_any _ (HL.out.chg0 R2.out.2.2)).mono ?_
      rintro e wF ⟨rfl, hc⟩
      have HF := Lib.hid (And.intro (R2.out.1.chg hc (by simp)) (And.intro (R2.out.2.1.chg hc (by simp)) (R2.out.2.2.trans hc)))
      clear hc
      go_wp2
      go_ret
      exact ⟨rfl, HF.out.2.2.end_⟩
    | true =>
      have hk : k ≤ 801 ∧ 1 ≤ k := by
        have h1 := hob.out.len
        have h2 := Ac.bytesA_len (a := a)
        have h3 := List.length_pos_iff.2 (Ac.bytesA_ne HGA.out.symm)
        omega
      have k0 : ¬ ((k : Int) = 0) := by omega
      go_wp2_with fail
      refine (aread_any hob.out.bt (by omega) (HL.out.1.chg0 R2.out.2.2) (HL.out.2.chg0 R2.out.2.2)).mono ?_
      rintro e x3 ⟨rfl, hc⟩
      have er : Ac.readA (Ac.bytesA a) = some a := Ac.readA_bytes HGA.out.symm HS.out.fit
      have ee : errA (Ac.bytesA a) = 0 := by
        unfold errA
        rw [er]
        rfl
      rw [er, ee, Option.getD_some]
      clear er ee
      have hob := Lib.hid (hob.out.chg0 hc)
      have R3 := Lib.hid (And.intro (R2.out.1.chg hc (by simp)) (And.intro (R2.out.2.1.chg hc (by simp)) (R2.out.2.2.trans hc)))
      clear hc
      obtain ⟨x3n, hst, hbn, hc⟩ := new_act x3 a
      have HBN := Lib.hid hbn
      clear hbn
      go_upto_region 15 with (refine wpList_storeR (by rfl) _ _ _ (by rfl) _ _ (by rfl) (by rfl) _ hst ?_)
      clear hst
      have HX1 := HBN
      have hob := Lib.hid (hob.out.chg0 hc)
      have R4 := Lib.hid (And.intro (R3.out.1.chg hc (by simp)) (And.intro (R3.out.2.1.chg hc (by simp)) (R3.out.2.2.trans hc)))
      clear hc
      have hkd := hob.out.bt.le
      have hqk : q % k < k := Nat.mod_lt _ (by omega)
      go_wp2_with fail
      refine (aread_any (hob.out.bt.take (q % k) (by omega)) (by omega) (HL.out.1.chg0 R4.out.2.2) (HL.out.2.chg0 R4.out.2.2)).mono ?_
      rintro e x5 ⟨rfl, hc⟩
      have er : Ac.readA ((Ac.bytesA a).take (q % k)) = none := Ac.readA_cut HGA.out.symm HS.out.fit _ (by rw [← hob.out.len]; exact hqk)
      have ee : errA ((Ac.bytesA a).take (q % k)) = 7 := by
        unfold errA
        rw [er]
        rfl
      rw [er, ee, Option.getD_none]
      clear er ee
      have hob := Lib.hid (hob.out.chg0 hc)
      have HX2 := Lib.hid (HX1.out.chg hc (by simp))
      have R5 := Lib.hid (And.intro (R4.out.1.chg hc (by simp)) (And.intro (R4.out.2.1.chg hc (by simp)) (R4.out.2.2.trans hc)))
      clear hc
      obtain ⟨x5n, hst, hbn, hc⟩ := new_act x5 Ac.ActS.zero
      have HBN := Lib.hid hbn
      clear hbn
      go_upto_region 16 with (refine wpList_storeR (by rfl) _ _ _ (by rfl) _ _ (by rfl) (by rfl) _ hst ?_)
      clear hst
      have hob := Lib.hid (hob.out.chg0 hc)
      have HX3 := Lib.hid (HX2.out.chg hc (by simp))
      have R6 := Lib.hid (And.intro (R5.out.1.chg hc (by simp)) (And.intro (R5.out.2.1.chg hc (by simp)) (R5.out.2.2.trans hc)))
      clear hc
      obtain ⟨A1, c1, v1, A2, c2, v2, hap1, hap2, hb2, hc⟩ := app2_bytes hob.out.bt (by omega) 1 [0] rfl (by omega)
      have HX4 := Lib.hid (HX3.out.chg hc (by simp))
      have HB2 := Lib.hid hb2
      clear hb2
      have R7 := Lib.hid (And.intro (R6.out.1.chg hc (by simp)) (And.intro (R6.out.2.1.chg hc (by simp)) (R6.out.2.2.trans hc)))
      clear hc
      go_wp2_with (at_builtin; first | refine wpList_appR (by rfl) _ _ _ _ (by rfl) _ _ _ _ (by rfl) (by rfl) hap1 ?_ | refine wpList_appR (by rfl) _ _ _ _ (by rfl) _ _ _ _ (by rfl) (by rfl) hap2 ?_)
      clear hap1 hap2
      refine (aread_any HB2.out (by omega) (HL.out.1.chg0 R7.out.2.2) (HL.out.2.chg0 R7.out.2.2)).mono ?_
      rintro e x8 ⟨rfl, hc⟩
      have er : Ac.readA (Ac.bytesA a ++ [0]) = none := Ac.readA_more HGA.out.symm HS.out.fit 0
      have ee : errA (Ac.bytesA a ++ [0]) = 7 := by
        unfold errA
        rw [er]
        rfl
      rw [er, ee, Option.getD_none]
      clear er ee
      have HX5 := Lib.hid (HX4.out.chg hc (by simp))
      have R8 := Lib.hid (And.intro (R7.out.1.chg hc (by simp)) (And.intro (R7.out.2.1.chg hc (by simp)) (R7.out.2.2.trans hc)))
      clear hc
      obtain ⟨x8n, hst, hbn, hc⟩ := new_act x8 Ac.ActS.zero
      have HBN := Lib.hid hbn
      clear hbn
      go_upto_region 17 with (refine wpList_storeR (by rfl) _ _ _ (by rfl) _ _ (by rfl) (by rfl) _ hst ?_)
      clear hst
      have HX6 := Lib.hid (HX5.out.chg hc (by simp))
      have R9 := Lib.hid (And.intro (R8.out.1.chg hc (by simp)) (And.intro (R8.out.2.1.chg hc (by simp)) (R8.out.2.2.trans hc)))
      clear hc
      have hl1 := load_act HX6.out
      have hl2 := load_act R9.out.1
      have heq := run_eql_act a a x8n
      rw [(Ac.sameS_iff a a).2 rfl] at heq
      go_wp2_with (first | (refine wpList_loadW _ _ (by rfl) _ _ (by rfl) hl1 (by rfl) ?_) | (refine wpList_loadW _ _ (by rfl) _ _ (by rfl) hl2 (by rfl) ?_) | (refine wpList_eqW _ _ _ _ _ (by rfl) _ _ _ (by rfl) (by rfl) (fun _ _ => eqGuard_agg (by kernel_rfl) _ _ _ _ _) heq (by rfl) ?_))
      clear hl1 hl2 heq
      refine (lives_any _ (HL.out.chg0 R9.out.2.2)).mono ?_
      rintro e wF ⟨rfl, hc⟩
      have HF := Lib.hid (And.intro (R9.out.1.chg hc (by simp)) (And.intro (R9.out.2.1.chg hc (by simp)) (R9.out.2.2.trans hc)))
      clear hc
      go_wp2
      go_ret
      exact ⟨rfl, HF.out.2.2.end_⟩
end Go.Proofs.YtmfaooihigphgaaDoor.actBack
