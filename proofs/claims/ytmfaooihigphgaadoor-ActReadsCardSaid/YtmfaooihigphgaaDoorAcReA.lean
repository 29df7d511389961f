/- staithref13.Read (written by refread.py). -/
import Derived.Test.YtmfaooihigphgaaDoorAcRx
import Derived.Test.YtmfaooihigphgaaDoorAcRg
set_option linter.unusedVariables false
set_option linter.unusedSimpArgs false
namespace Go.Proofs.YtmfaooihigphgaaDoor
open Go.RowKit
open Go.Proofs.YtmfaooihigphgaaDoor.Ac (ActS)

set_option maxRecDepth 100000 in
set_option maxHeartbeats 32000000 in
theorem rread_A {w : World} {n c : Nat} {A : Option Addr} {l : Bs} (h : Bt w A n c l) (hn : n ≤ 1000000) (hsel : (Ac.numR 1 (some l)).1 = 1 ∨ (Ac.numR 1 (some l)).1 = 2 ∨ (Ac.numR 1 (some l)).1 = 3 ∨ (Ac.numR 1 (some l)).1 = 4) :
    Calls Tryd.prog 21 #[.slice A n c] w fun e w' => e = .returned (.tuple #[actV ((Ac.readA l).getD Ac.ActS.zero), .int .i64 (errA l)]) ∧ Chg [] w w' := by
  have hc0 := (Chg.refl [] w).alloc (.cells (ActS.cells Ac.ActS.zero) 32)
  have H0 := Lib.hid (And.intro (h.chg0 hc0) (And.intro (Blk.new w 32 (ActS.cells Ac.ActS.zero)) hc0))
  clear h hc0
  unfold actV
  go_enter Tryd.func21, Tryd.ntmps21
  go_upto_region 1 with fail
  change Code.wp _ _ _ _ (w.alloc (.cells (ActS.cells Ac.ActS.zero) 32))
  have HZ := Lib.hid (show (w.alloc (.cells (ActS.cells Ac.ActS.zero) 32)).heap.size = w.heap.size + 1 by simp)
  generalize w.alloc (.cells (ActS.cells Ac.ActS.zero) 32) = W at *
  go_upto_region 2 with fail
  have hca := (Chg.refl [] W).alloc (.cells #[.slice A n c, .bool false] 88)
  have hps : w.heap.size < W.heap.size := by rw [HZ.out]; omega
  have H1 := Lib.hid (And.intro (Rl.new W H0.out.1 hn) (And.intro (H0.out.2.1.chg hca (by simp)) (H0.out.2.2.trans hca)))
  have HS2 := Lib.hid (show (W.alloc (.cells #[.slice A n c, .bool false] 88)).heap.size = W.heap.size + 1 by simp)
  clear hca
  generalize W.alloc (.cells #[.slice A n c, .bool false] 88) = W1 at *
  generalize W.heap.size = p at *
  go_wp2_with fail
  refine (rnum_any H1.out.1 1 (by unfold WidK; omega)).mono ?_
  rintro e w2 ⟨rfl, ha, hc⟩
  have hv : ((Ac.numR 1 (some l)).1 : Int) ≤ 255 := by have := Ac.numR_lt 1 (some l); omega
  generalize hk : (Ac.numR 1 (some l)).1 = k at *
  generalize hr1 : (Ac.numR 1 (some l)).2 = r1 at *
  have HK := Lib.hid (And.intro hk hr1)
  have H2 := Lib.hid (And.intro ha hc)
  have HSEL := Lib.hid hsel
  clear ha hc hk hr1 hsel
  go_upto_region 3 with fail
  have hch := (Chg.refl [] w2).alloc (.cells (ActS.cells (Ac.ActS.bare k)) 32)
  have hsz3 : p + 1 ≤ w2.heap.size := by have := H2.out.2.size; have := HS2.out; omega
  have HM := Lib.hid (show Rx w (w2.alloc (.cells (ActS.cells (Ac.ActS.bare k)) 32)) p r1 32 w.heap.size w2.heap.size (ActS.cells Ac.ActS.zero) (ActS.cells (Ac.ActS.bare k)) from
    ⟨H2.out.1.to hch, (H1.out.2.1.chg H2.out.2 (by simp; omega)).chg hch (by simp), Blk.new _ _ _, ((H1.out.2.2.mono (by simp)).trans H2.out.2).trans (hch.mono (by simp)), by omega, by omega, by omega, Nat.le_refl _, by omega⟩)
  clear hch
  change Code.wp _ _ _ _ (w2.alloc (.cells (ActS.cells (Ac.ActS.bare k)) 32))
  generalize w2.alloc (.cells (ActS.cells (Ac.ActS.bare k)) 32) = W3 at *
  generalize w2.heap.size = ab at *
  have ck : W3.cell? ⟨ab, 0, none⟩ = some (.int .i64 (k : Nat)) := HM.out.xB.cell 0
  go_upto_region 4 with fail
  clear ck
  have HA : Hid (Ac.rdAct (some l) = Ac.rdParts (Ac.shapeL (k : Nat)) (Ac.ActS.bare (k : Nat)) r1) := Lib.hid (by unfold Ac.rdAct; rw [HK.out.1, HK.out.2])
  obtain rfl | hk1 := Classical.em (k = 1)
  · as_aux_lemma =>
      go_wp2_with fail
      refine (rtextR_any HM.out.al ).mono ?_
      rintro e w4 ⟨rfl, ha, hc⟩
      have HS := Lib.hid (HM.out.rd ha hc)
      clear ha hc
      generalize hg1 : strB (Ac.txtR r1).1 = x1 at *
      generalize hg2 : (Ac.txtR r1).2 = r2 at *
      have d1 : w4.cell? ⟨ab, 1, none⟩ = some (.string .empty) := HS.out.xB.cell 1
      have f1 := HS.out.xB.frozen 1
      go_upto_region 6 with fail
      have H5 := Lib.hid (HS.out.set (cs' := ActS.cells { Ac.ActS.bare (1 : Nat) with name := x1 }) 1 (.string x1) (act_nobyte _) rfl)
      have E1 := Lib.hid (And.intro hg1 hg2)
      clear d1 f1 HS hg1 hg2
      generalize w4.setCell ⟨ab, 1, none⟩ (.string x1) = w5 at *
      have hb : ((Ac.numR 2 r2).1 : Int) ≤ 65535 := by have := Ac.numR_lt 2 r2; omega
      go_wp2_with fail
      refine (rnum_any H5.out.al 2 (by unfold WidK; omega)).mono ?_
      rintro e w6 ⟨rfl, ha, hc⟩
      have HS := Lib.hid (H5.out.rd ha hc)
      clear ha hc
      generalize hg1 : (Ac.numR 2 r2).1 = n2 at *
      generalize hg2 : (Ac.numR 2 r2).2 = r3 at *
      have d1 : w6.cell? ⟨ab, 2, none⟩ = some (.int .i64 0) := HS.out.xB.cell 2
      have f1 := HS.out.xB.frozen 2
      go_upto_region 25 with fail
      have H7 := Lib.hid (HS.out.set (cs' := ActS.cells { Ac.ActS.bare (1 : Nat) with name := x1, n := n2 }) 2 (.int .i64 n2) (act_nobyte _) rfl)
      have E2 := Lib.hid (And.intro hg1 hg2)
      clear d1 f1 HS hg1 hg2
      generalize w6.setCell ⟨ab, 2, none⟩ (.int .i64 n2) = w7 at *
      clear hb
      have HE := Lib.hid (show Ac.rdAct (some l) = ({ Ac.ActS.bare (1 : Nat) with name := x1, n := n2 }, r3) from by rw [HA.out]; rw [← E2.out.2, ← E2.out.1]; rw [← E1.out.2, ← E1.out.1]; rfl)
      generalize ({ Ac.ActS.bare (1 : Nat) with name := x1, n := n2 } : ActS) = av at *
      have HSm := Lib.hid (show (av : ActS).Small from by have h1 := rdAct_small l; rw [HE.out] at h1; exact h1)
      obtain ⟨B, m, d, lr, bad, hb, ht, hn, hr⟩ := H7.out.al.at_
      have c0 : w7.cell? ⟨p, 0, none⟩ = some (.slice B m d) := hb.cell 0
      have c1 : w7.cell? ⟨p, 1, none⟩ = some (.bool bad) := hb.cell 1
      have hml := ht.len
      clear hb ht hn
      rcases hr with ⟨rfl, hr⟩ | ⟨rfl, hr⟩
      · have e1 : Ac.readA l = none := by
          unfold Ac.readA
          rw [HE.out]
          simp only
          rw [hr, if_neg (by simp)]
        clear hr hml
        have HE1 := Lib.hid e1
        clear e1
        obtain ⟨w10, hst, hb10, hc10⟩ := store_act (a := Ac.ActS.zero) H7.out.rB rfl
        have HF := Lib.hid (And.intro hb10 hc10)
        clear hb10 hc10
        go_wp2_with (refine wpList_storeR (by rfl) _ _ _ (by rfl) _ _ (by rfl) (by rfl) _ hst ?_)
        have hlv := lvar_act HF.out.1
        refine bodyPost_ret (results_cell_tmp Tryd.results21 _ _ _ _ _ (by rfl) hlv) rfl ⟨?_, ?_⟩
        · unfold errA
          rw [HE1.out]
          rfl
        · exact (H7.out.chg.mono (by simp; omega)).then_ HF.out.2 (fun b hb => by simp at hb; subst hb; exact .inr (Nat.le_refl _))
      by_cases hm0 : 0 < m
      · have e1 : Ac.readA l = none := by
          unfold Ac.readA
          rw [HE.out]
          simp only
          rw [hr, if_neg (by intro h; have := h.1; simp only [Option.some.injEq] at this; subst this; simp at hml; omega)]
        have i1 : (0 : Int) < (m : Int) := by omega
        clear hr hml
        have HE1 := Lib.hid e1
        clear e1
        obtain ⟨w10, hst, hb10, hc10⟩ := store_act (a := Ac.ActS.zero) H7.out.rB rfl
        have HF := Lib.hid (And.intro hb10 hc10)
        clear hb10 hc10
        go_wp2_with (refine wpList_storeR (by rfl) _ _ _ (by rfl) _ _ (by rfl) (by rfl) _ hst ?_)
        have hlv := lvar_act HF.out.1
        refine bodyPost_ret (results_cell_tmp Tryd.results21 _ _ _ _ _ (by rfl) hlv) rfl ⟨?_, ?_⟩
        · unfold errA
          rw [HE1.out]
          rfl
        · exact (H7.out.chg.mono (by simp; omega)).then_ HF.out.2 (fun b hb => by simp at hb; subst hb; exact .inr (Nat.le_refl _))
      obtain rfl : m = 0 := by omega
      obtain rfl : lr = [] := List.length_eq_zero_iff.1 hml.symm
      have HRR := Lib.hid hr
      clear hr hml hm0
      have hl := load_act H7.out.xB
      go_wp2_with (refine wpList_loadW _ _ (by rfl) _ _ (by rfl) hl (by rfl) ?_)
      refine (rgood_act av HSm.out w7).mono ?_
      rintro e wg ⟨rfl, hc⟩
      have HG1 := Lib.hid (H7.out.rd (H7.out.al.to hc) (hc.mono (by simp)))
      clear hc hl c0 c1
      obtain ⟨gd, hgd⟩ : ∃ b, b = Ac.goodA av := ⟨_, rfl⟩
      rw [← hgd]
      have HG := Lib.hid hgd
      clear hgd
      cases gd with
      | false =>
        have e1 : Ac.readA l = none := by
          have h1 := HG.out
          unfold Ac.readA
          rw [HE.out, if_neg (fun h => Bool.noConfusion (h1.trans h.2))]
        have HE1 := Lib.hid e1
        clear e1
        obtain ⟨w10, hst, hb10, hc10⟩ := store_act (a := Ac.ActS.zero) HG1.out.rB rfl
        have HF := Lib.hid (And.intro hb10 hc10)
        clear hb10 hc10
        go_wp2_with (refine wpList_storeR (by rfl) _ _ _ (by rfl) _ _ (by rfl) (by rfl) _ hst ?_)
        have hlv := lvar_act HF.out.1
        refine bodyPost_ret (results_cell_tmp Tryd.results21 _ _ _ _ _ (by rfl) hlv) rfl ⟨?_, ?_⟩
        · unfold errA
          rw [HE1.out]
          rfl
        · exact (HG1.out.chg.mono (by simp; omega)).then_ HF.out.2 (fun b hb => by simp at hb; subst hb; exact .inr (Nat.le_refl _))
      | true =>
        have e1 : Ac.readA l = some av := by
          have h1 := HG.out
          unfold Ac.readA
          rw [HE.out]
          exact if_pos ⟨HRR.out, h1.symm⟩
        have HE1 := Lib.hid e1
        clear e1
        have hl := load_act HG1.out.xB
        obtain ⟨w10, hst, hb10, hc10⟩ := store_act (a := av) HG1.out.rB rfl
        have HF := Lib.hid (And.intro hb10 hc10)
        clear hb10 hc10
        go_wp2_with (first | (refine wpList_loadW _ _ (by rfl) _ _ (by rfl) hl (by rfl) ?_) | (refine wpList_storeR (by rfl) _ _ _ (by rfl) _ _ (by rfl) (by rfl) _ hst ?_))
        have hlv := lvar_act HF.out.1
        refine bodyPost_ret (results_cell_tmp Tryd.results21 _ _ _ _ _ (by rfl) hlv) rfl ⟨?_, ?_⟩
        · unfold errA
          rw [HE1.out]
          rfl
        · exact (HG1.out.chg.mono (by simp; omega)).then_ HF.out.2 (fun b hb => by simp at hb; subst hb; exact .inr (Nat.le_refl _))
  have nk1 : ((k : Int) == 1) = false := by simp; omega
  obtain rfl | hk2 := Classical.em (k = 2)
  · as_aux_lemma =>
      go_wp2_with fail
      refine (rtextR_any HM.out.al ).mono ?_
      rintro e w4 ⟨rfl, ha, hc⟩
      have HS := Lib.hid (HM.out.rd ha hc)
      clear ha hc
      generalize hg1 : strB (Ac.txtR r1).1 = x1 at *
      generalize hg2 : (Ac.txtR r1).2 = r2 at *
      have d1 : w4.cell? ⟨ab, 1, none⟩ = some (.string .empty) := HS.out.xB.cell 1
      have f1 := HS.out.xB.frozen 1
      go_upto_region 25 with fail
      have H5 := Lib.hid (HS.out.set (cs' := ActS.cells { Ac.ActS.bare (2 : Nat) with name := x1 }) 1 (.string x1) (act_nobyte _) rfl)
      have E1 := Lib.hid (And.intro hg1 hg2)
      clear d1 f1 HS hg1 hg2
      generalize w4.setCell ⟨ab, 1, none⟩ (.string x1) = w5 at *
      have HE := Lib.hid (show Ac.rdAct (some l) = ({ Ac.ActS.bare (2 : Nat) with name := x1 }, r2) from by rw [HA.out]; rw [← E1.out.2, ← E1.out.1]; rfl)
      generalize ({ Ac.ActS.bare (2 : Nat) with name := x1 } : ActS) = av at *
      have HSm := Lib.hid (show (av : ActS).Small from by have h1 := rdAct_small l; rw [HE.out] at h1; exact h1)
      obtain ⟨B, m, d, lr, bad, hb, ht, hn, hr⟩ := H5.out.al.at_
      have c0 : w5.cell? ⟨p, 0, none⟩ = some (.slice B m d) := hb.cell 0
      have c1 : w5.cell? ⟨p, 1, none⟩ = some (.bool bad) := hb.cell 1
      have hml := ht.len
      clear hb ht hn
      rcases hr with ⟨rfl, hr⟩ | ⟨rfl, hr⟩
      · have e1 : Ac.readA l = none := by
          unfold Ac.readA
          rw [HE.out]
          simp only
          rw [hr, if_neg (by simp)]
        clear hr hml
        have HE1 := Lib.hid e1
        clear e1
        obtain ⟨w10, hst, hb10, hc10⟩ := store_act (a := Ac.ActS.zero) H5.out.rB rfl
        have HF := Lib.hid (And.intro hb10 hc10)
        clear hb10 hc10
        go_wp2_with (refine wpList_storeR (by rfl) _ _ _ (by rfl) _ _ (by rfl) (by rfl) _ hst ?_)
        have hlv := lvar_act HF.out.1
        refine bodyPost_ret (results_cell_tmp Tryd.results21 _ _ _ _ _ (by rfl) hlv) rfl ⟨?_, ?_⟩
        · unfold errA
          rw [HE1.out]
          rfl
        · exact (H5.out.chg.mono (by simp; omega)).then_ HF.out.2 (fun b hb => by simp at hb; subst hb; exact .inr (Nat.le_refl _))
      by_cases hm0 : 0 < m
      · have e1 : Ac.readA l = none := by
          unfold Ac.readA
          rw [HE.out]
          simp only
          rw [hr, if_neg (by intro h; have := h.1; simp only [Option.some.injEq] at this; subst this; simp at hml; omega)]
        have i1 : (0 : Int) < (m : Int) := by omega
        clear hr hml
        have HE1 := Lib.hid e1
        clear e1
        obtain ⟨w10, hst, hb10, hc10⟩ := store_act (a := Ac.ActS.zero) H5.out.rB rfl
        have HF := Lib.hid (And.intro hb10 hc10)
        clear hb10 hc10
        go_wp2_with (refine wpList_storeR (by rfl) _ _ _ (by rfl) _ _ (by rfl) (by rfl) _ hst ?_)
        have hlv := lvar_act HF.out.1
        refine bodyPost_ret (results_cell_tmp Tryd.results21 _ _ _ _ _ (by rfl) hlv) rfl ⟨?_, ?_⟩
        · unfold errA
          rw [HE1.out]
          rfl
        · exact (H5.out.chg.mono (by simp; omega)).then_ HF.out.2 (fun b hb => by simp at hb; subst hb; exact .inr (Nat.le_refl _))
      obtain rfl : m = 0 := by omega
      obtain rfl : lr = [] := List.length_eq_zero_iff.1 hml.symm
      have HRR := Lib.hid hr
      clear hr hml hm0
      have hl := load_act H5.out.xB
      go_wp2_with (refine wpList_loadW _ _ (by rfl) _ _ (by rfl) hl (by rfl) ?_)
      refine (rgood_act av HSm.out w5).mono ?_
      rintro e wg ⟨rfl, hc⟩
      have HG1 := Lib.hid (H5.out.rd (H5.out.al.to hc) (hc.mono (by simp)))
      clear hc hl c0 c1
      obtain ⟨gd, hgd⟩ : ∃ b, b = Ac.goodA av := ⟨_, rfl⟩
      rw [← hgd]
      have HG := Lib.hid hgd
      clear hgd
      cases gd with
      | false =>
        have e1 : Ac.readA l = none := by
          have h1 := HG.out
          unfold Ac.readA
          rw [HE.out, if_neg (fun h => Bool.noConfusion (h1.trans h.2))]
        have HE1 := Lib.hid e1
        clear e1
        obtain ⟨w10, hst, hb10, hc10⟩ := store_act (a := Ac.ActS.zero) HG1.out.rB rfl
        have HF := Lib.hid (And.intro hb10 hc10)
        clear hb10 hc10
        go_wp2_with (refine wpList_storeR (by rfl) _ _ _ (by rfl) _ _ (by rfl) (by rfl) _ hst ?_)
        have hlv := lvar_act HF.out.1
        refine bodyPost_ret (results_cell_tmp Tryd.results21 _ _ _ _ _ (by rfl) hlv) rfl ⟨?_, ?_⟩
        · unfold errA
          rw [HE1.out]
          rfl
        · exact (HG1.out.chg.mono (by simp; omega)).then_ HF.out.2 (fun b hb => by simp at hb; subst hb; exact .inr (Nat.le_refl _))
      | true =>
        have e1 : Ac.readA l = some av := by
          have h1 := HG.out
          unfold Ac.readA
          rw [HE.out]
          exact if_pos ⟨HRR.out, h1.symm⟩
        have HE1 := Lib.hid e1
        clear e1
        have hl := load_act HG1.out.xB
        obtain ⟨w10, hst, hb10, hc10⟩ := store_act (a := av) HG1.out.rB rfl
        have HF := Lib.hid (And.intro hb10 hc10)
        clear hb10 hc10
        go_wp2_with (first | (refine wpList_loadW _ _ (by rfl) _ _ (by rfl) hl (by rfl) ?_) | (refine wpList_storeR (by rfl) _ _ _ (by rfl) _ _ (by rfl) (by rfl) _ hst ?_))
        have hlv := lvar_act HF.out.1
        refine bodyPost_ret (results_cell_tmp Tryd.results21 _ _ _ _ _ (by rfl) hlv) rfl ⟨?_, ?_⟩
        · unfold errA
          rw [HE1.out]
          rfl
        · exact (HG1.out.chg.mono (by simp; omega)).then_ HF.out.2 (fun b hb => by simp at hb; subst hb; exact .inr (Nat.le_refl _))
  have nk2 : ((k : Int) == 2) = false := by simp; omega
  obtain rfl | hk3 := Classical.em (k = 3)
  · as_aux_lemma =>
      have hb : ((Ac.numR 1 (Ac.txtR r1).2).1 : Int) ≤ 255 := by have := Ac.numR_lt 1 (Ac.txtR r1).2; omega
      go_wp2_with fail
      refine (rexR_any HM.out.al).mono ?_
      rintro e w4 ⟨rfl, ha, hc⟩
      have HS := Lib.hid (HM.out.rd ha hc)
      clear ha hc
      generalize hg0 : strB (Ac.txtR r1).1 = x1 at *
      generalize hg1 : (Ac.numR 1 (Ac.txtR r1).2).1 = n1 at *
      generalize hg2 : (Ac.yesR (Ac.numR 1 (Ac.txtR r1).2).2).1 = b1 at *
      generalize hg3 : (Ac.yesR (Ac.numR 1 (Ac.txtR r1).2).2).2 = r2 at *
      have d0 : w4.cell? ⟨ab, 5, none⟩ = some (.string .empty) := HS.out.xB.cell 5
      have f0 := HS.out.xB.frozen 5
      have d1 : w4.cell? ⟨ab, 6, none⟩ = some (.int .i64 0) := HS.out.xB.cell 6
      have f1 := HS.out.xB.frozen 6
      have d2 : w4.cell? ⟨ab, 7, none⟩ = some (.bool false) := HS.out.xB.cell 7
      have f2 := HS.out.xB.frozen 7
      unfold exA3
      go_upto_region 25 with fail
      have H5 := Lib.hid (((HS.out.set (cs' := ActS.cells { Ac.ActS.bare (3 : Nat) with xn := x1 }) 5 (.string x1) (act_nobyte _) rfl).set (cs' := ActS.cells { Ac.ActS.bare (3 : Nat) with xn := x1, xk := n1 }) 6 (.int .i64 n1) (act_nobyte _) rfl).set (cs' := ActS.cells { Ac.ActS.bare (3 : Nat) with xn := x1, xk := n1, xf := b1 }) 7 (.bool b1) (act_nobyte _) rfl)
      have E1 := Lib.hid (And.intro hg0 ( And.intro hg1 ( And.intro hg2 (hg3))))
      clear HS d0 f0 d1 f1 d2 f2 hg0 hg1 hg2 hg3
      generalize ((w4.setCell ⟨ab, 5, none⟩ (.string x1)).setCell ⟨ab, 6, none⟩ (.int .i64 n1)).setCell ⟨ab, 7, none⟩ (.bool b1) = w5 at *
      clear hb
      have HE := Lib.hid (show Ac.rdAct (some l) = ({ Ac.ActS.bare (3 : Nat) with xn := x1, xk := n1, xf := b1 }, r2) from by rw [HA.out]; rw [← E1.out.2.2.2]; rw [← E1.out.2.2.1]; rw [← E1.out.2.1]; rw [← E1.out.1]; rfl)
      generalize ({ Ac.ActS.bare (3 : Nat) with xn := x1, xk := n1, xf := b1 } : ActS) = av at *
      have HSm := Lib.hid (show (av : ActS).Small from by have h1 := rdAct_small l; rw [HE.out] at h1; exact h1)
      obtain ⟨B, m, d, lr, bad, hb, ht, hn, hr⟩ := H5.out.al.at_
      have c0 : w5.cell? ⟨p, 0, none⟩ = some (.slice B m d) := hb.cell 0
      have c1 : w5.cell? ⟨p, 1, none⟩ = some (.bool bad) := hb.cell 1
      have hml := ht.len
      clear hb ht hn
      rcases hr with ⟨rfl, hr⟩ | ⟨rfl, hr⟩
      · have e1 : Ac.readA l = none := by
          unfold Ac.readA
          rw [HE.out]
          simp only
          rw [hr, if_neg (by simp)]
        clear hr hml
        have HE1 := Lib.hid e1
        clear e1
        obtain ⟨w10, hst, hb10, hc10⟩ := store_act (a := Ac.ActS.zero) H5.out.rB rfl
        have HF := Lib.hid (And.intro hb10 hc10)
        clear hb10 hc10
        go_wp2_with (refine wpList_storeR (by rfl) _ _ _ (by rfl) _ _ (by rfl) (by rfl) _ hst ?_)
        have hlv := lvar_act HF.out.1
        refine bodyPost_ret (results_cell_tmp Tryd.results21 _ _ _ _ _ (by rfl) hlv) rfl ⟨?_, ?_⟩
        · unfold errA
          rw [HE1.out]
          rfl
        · exact (H5.out.chg.mono (by simp; omega)).then_ HF.out.2 (fun b hb => by simp at hb; subst hb; exact .inr (Nat.le_refl _))
      by_cases hm0 : 0 < m
      · have e1 : Ac.readA l = none := by
          unfold Ac.readA
          rw [HE.out]
          simp only
          rw [hr, if_neg (by intro h; have := h.1; simp only [Option.some.injEq] at this; subst this; simp at hml; omega)]
        have i1 : (0 : Int) < (m : Int) := by omega
        clear hr hml
        have HE1 := Lib.hid e1
        clear e1
        obtain ⟨w10, hst, hb10, hc10⟩ := store_act (a := Ac.ActS.zero) H5.out.rB rfl
        have HF := Lib.hid (And.intro hb10 hc10)
        clear hb10 hc10
        go_wp2_with (refine wpList_storeR (by rfl) _ _ _ (by rfl) _ _ (by rfl) (by rfl) _ hst ?_)
        have hlv := lvar_act HF.out.1
        refine bodyPost_ret (results_cell_tmp Tryd.results21 _ _ _ _ _ (by rfl) hlv) rfl ⟨?_, ?_⟩
        · unfold errA
          rw [HE1.out]
          rfl
        · exact (H5.out.chg.mono (by simp; omega)).then_ HF.out.2 (fun b hb => by simp at hb; subst hb; exact .inr (Nat.le_refl _))
      obtain rfl : m = 0 := by omega
      obtain rfl : lr = [] := List.length_eq_zero_iff.1 hml.symm
      have HRR := Lib.hid hr
      clear hr hml hm0
      have hl := load_act H5.out.xB
      go_wp2_with (refine wpList_loadW _ _ (by rfl) _ _ (by rfl) hl (by rfl) ?_)
      refine (rgood_act av HSm.out w5).mono ?_
      rintro e wg ⟨rfl, hc⟩
      have HG1 := Lib.hid (H5.out.rd (H5.out.al.to hc) (hc.mono (by simp)))
      clear hc hl c0 c1
      obtain ⟨gd, hgd⟩ : ∃ b, b = Ac.goodA av := ⟨_, rfl⟩
      rw [← hgd]
      have HG := Lib.hid hgd
      clear hgd
      cases gd with
      | false =>
        have e1 : Ac.readA l = none := by
          have h1 := HG.out
          unfold Ac.readA
          rw [HE.out, if_neg (fun h => Bool.noConfusion (h1.trans h.2))]
        have HE1 := Lib.hid e1
        clear e1
        obtain ⟨w10, hst, hb10, hc10⟩ := store_act (a := Ac.ActS.zero) HG1.out.rB rfl
        have HF := Lib.hid (And.intro hb10 hc10)
        clear hb10 hc10
        go_wp2_with (refine wpList_storeR (by rfl) _ _ _ (by rfl) _ _ (by rfl) (by rfl) _ hst ?_)
        have hlv := lvar_act HF.out.1
        refine bodyPost_ret (results_cell_tmp Tryd.results21 _ _ _ _ _ (by rfl) hlv) rfl ⟨?_, ?_⟩
        · unfold errA
          rw [HE1.out]
          rfl
        · exact (HG1.out.chg.mono (by simp; omega)).then_ HF.out.2 (fun b hb => by simp at hb; subst hb; exact .inr (Nat.le_refl _))
      | true =>
        have e1 : Ac.readA l = some av := by
          have h1 := HG.out
          unfold Ac.readA
          rw [HE.out]
          exact if_pos ⟨HRR.out, h1.symm⟩
        have HE1 := Lib.hid e1
        clear e1
        have hl := load_act HG1.out.xB
        obtain ⟨w10, hst, hb10, hc10⟩ := store_act (a := av) HG1.out.rB rfl
        have HF := Lib.hid (And.intro hb10 hc10)
        clear hb10 hc10
        go_wp2_with (first | (refine wpList_loadW _ _ (by rfl) _ _ (by rfl) hl (by rfl) ?_) | (refine wpList_storeR (by rfl) _ _ _ (by rfl) _ _ (by rfl) (by rfl) _ hst ?_))
        have hlv := lvar_act HF.out.1
        refine bodyPost_ret (results_cell_tmp Tryd.results21 _ _ _ _ _ (by rfl) hlv) rfl ⟨?_, ?_⟩
        · unfold errA
          rw [HE1.out]
          rfl
        · exact (HG1.out.chg.mono (by simp; omega)).then_ HF.out.2 (fun b hb => by simp at hb; subst hb; exact .inr (Nat.le_refl _))
  have nk3 : ((k : Int) == 3) = false := by simp; omega
  obtain rfl | hk4 := Classical.em (k = 4)
  · as_aux_lemma =>
      go_wp2_with fail
      refine (rtextR_any HM.out.al ).mono ?_
      rintro e w4 ⟨rfl, ha, hc⟩
      have HS := Lib.hid (HM.out.rd ha hc)
      clear ha hc
      generalize hg1 : strB (Ac.txtR r1).1 = x1 at *
      generalize hg2 : (Ac.txtR r1).2 = r2 at *
      have d1 : w4.cell? ⟨ab, 1, none⟩ = some (.string .empty) := HS.out.xB.cell 1
      have f1 := HS.out.xB.frozen 1
      go_upto_region 25 with fail
      have H5 := Lib.hid (HS.out.set (cs' := ActS.cells { Ac.ActS.bare (4 : Nat) with name := x1 }) 1 (.string x1) (act_nobyte _) rfl)
      have E1 := Lib.hid (And.intro hg1 hg2)
      clear d1 f1 HS hg1 hg2
      generalize w4.setCell ⟨ab, 1, none⟩ (.string x1) = w5 at *
      have HE := Lib.hid (show Ac.rdAct (some l) = ({ Ac.ActS.bare (4 : Nat) with name := x1 }, r2) from by rw [HA.out]; rw [← E1.out.2, ← E1.out.1]; rfl)
      generalize ({ Ac.ActS.bare (4 : Nat) with name := x1 } : ActS) = av at *
      have HSm := Lib.hid (show (av : ActS).Small from by have h1 := rdAct_small l; rw [HE.out] at h1; exact h1)
      obtain ⟨B, m, d, lr, bad, hb, ht, hn, hr⟩ := H5.out.al.at_
      have c0 : w5.cell? ⟨p, 0, none⟩ = some (.slice B m d) := hb.cell 0
      have c1 : w5.cell? ⟨p, 1, none⟩ = some (.bool bad) := hb.cell 1
      have hml := ht.len
      clear hb ht hn
      rcases hr with ⟨rfl, hr⟩ | ⟨rfl, hr⟩
      · have e1 : Ac.readA l = none := by
          unfold Ac.readA
          rw [HE.out]
          simp only
          rw [hr, if_neg (by simp)]
        clear hr hml
        have HE1 := Lib.hid e1
        clear e1
        obtain ⟨w10, hst, hb10, hc10⟩ := store_act (a := Ac.ActS.zero) H5.out.rB rfl
        have HF := Lib.hid (And.intro hb10 hc10)
        clear hb10 hc10
        go_wp2_with (refine wpList_storeR (by rfl) _ _ _ (by rfl) _ _ (by rfl) (by rfl) _ hst ?_)
        have hlv := lvar_act HF.out.1
        refine bodyPost_ret (results_cell_tmp Tryd.results21 _ _ _ _ _ (by rfl) hlv) rfl ⟨?_, ?_⟩
        · unfold errA
          rw [HE1.out]
          rfl
        · exact (H5.out.chg.mono (by simp; omega)).then_ HF.out.2 (fun b hb => by simp at hb; subst hb; exact .inr (Nat.le_refl _))
      by_cases hm0 : 0 < m
      · have e1 : Ac.readA l = none := by
          unfold Ac.readA
          rw [HE.out]
          simp only
          rw [hr, if_neg (by intro h; have := h.1; simp only [Option.some.injEq] at this; subst this; simp at hml; omega)]
        have i1 : (0 : Int) < (m : Int) := by omega
        clear hr hml
        have HE1 := Lib.hid e1
        clear e1
        obtain ⟨w10, hst, hb10, hc10⟩ := store_act (a := Ac.ActS.zero) H5.out.rB rfl
        have HF := Lib.hid (And.intro hb10 hc10)
        clear hb10 hc10
        go_wp2_with (refine wpList_storeR (by rfl) _ _ _ (by rfl) _ _ (by rfl) (by rfl) _ hst ?_)
        have hlv := lvar_act HF.out.1
        refine bodyPost_ret (results_cell_tmp Tryd.results21 _ _ _ _ _ (by rfl) hlv) rfl ⟨?_, ?_⟩
        · unfold errA
          rw [HE1.out]
          rfl
        · exact (H5.out.chg.mono (by simp; omega)).then_ HF.out.2 (fun b hb => by simp at hb; subst hb; exact .inr (Nat.le_refl _))
      obtain rfl : m = 0 := by omega
      obtain rfl : lr = [] := List.length_eq_zero_iff.1 hml.symm
      have HRR := Lib.hid hr
      clear hr hml hm0
      have hl := load_act H5.out.xB
      go_wp2_with (refine wpList_loadW _ _ (by rfl) _ _ (by rfl) hl (by rfl) ?_)
      refine (rgood_act av HSm.out w5).mono ?_
      rintro e wg ⟨rfl, hc⟩
      have HG1 := Lib.hid (H5.out.rd (H5.out.al.to hc) (hc.mono (by simp)))
      clear hc hl c0 c1
      obtain ⟨gd, hgd⟩ : ∃ b, b = Ac.goodA av := ⟨_, rfl⟩
      rw [← hgd]
      have HG := Lib.hid hgd
      clear hgd
      cases gd with
      | false =>
        have e1 : Ac.readA l = none := by
          have h1 := HG.out
          unfold Ac.readA
          rw [HE.out, if_neg (fun h => Bool.noConfusion (h1.trans h.2))]
        have HE1 := Lib.hid e1
        clear e1
        obtain ⟨w10, hst, hb10, hc10⟩ := store_act (a := Ac.ActS.zero) HG1.out.rB rfl
        have HF := Lib.hid (And.intro hb10 hc10)
        clear hb10 hc10
        go_wp2_with (refine wpList_storeR (by rfl) _ _ _ (by rfl) _ _ (by rfl) (by rfl) _ hst ?_)
        have hlv := lvar_act HF.out.1
        refine bodyPost_ret (results_cell_tmp Tryd.results21 _ _ _ _ _ (by rfl) hlv) rfl ⟨?_, ?_⟩
        · unfold errA
          rw [HE1.out]
          rfl
        · exact (HG1.out.chg.mono (by simp; omega)).then_ HF.out.2 (fun b hb => by simp at hb; subst hb; exact .inr (Nat.le_refl _))
      | true =>
        have e1 : Ac.readA l = some av := by
          have h1 := HG.out
          unfold Ac.readA
          rw [HE.out]
          exact if_pos ⟨HRR.out, h1.symm⟩
        have HE1 := Lib.hid e1
        clear e1
        have hl := load_act HG1.out.xB
        obtain ⟨w10, hst, hb10, hc10⟩ := store_act (a := av) HG1.out.rB rfl
        have HF := Lib.hid (And.intro hb10 hc10)
        clear hb10 hc10
        go_wp2_with (first | (refine wpList_loadW _ _ (by rfl) _ _ (by rfl) hl (by rfl) ?_) | (refine wpList_storeR (by rfl) _ _ _ (by rfl) _ _ (by rfl) (by rfl) _ hst ?_))
        have hlv := lvar_act HF.out.1
        refine bodyPost_ret (results_cell_tmp Tryd.results21 _ _ _ _ _ (by rfl) hlv) rfl ⟨?_, ?_⟩
        · unfold errA
          rw [HE1.out]
          rfl
        · exact (HG1.out.chg.mono (by simp; omega)).then_ HF.out.2 (fun b hb => by simp at hb; subst hb; exact .inr (Nat.le_refl _))
  have nk4 : ((k : Int) == 4) = false := by simp; omega
  have := HSEL.out
  exfalso
  omega
end Go.Proofs.YtmfaooihigphgaaDoor
