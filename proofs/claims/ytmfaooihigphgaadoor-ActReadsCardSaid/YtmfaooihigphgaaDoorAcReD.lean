/- staithref13.Read (written by refread.py). -/
import Derived.Test.YtmfaooihigphgaaDoorAcReA
import Derived.Test.YtmfaooihigphgaaDoorAcReB
import Derived.Test.YtmfaooihigphgaaDoorAcReC
set_option linter.unusedVariables false
set_option linter.unusedSimpArgs false
namespace Go.Proofs.YtmfaooihigphgaaDoor
open Go.RowKit
open Go.Proofs.YtmfaooihigphgaaDoor.Ac (ActS)

set_option maxRecDepth 100000 in
set_option maxHeartbeats 32000000 in
theorem rread_D {w : World} {n c : Nat} {A : Option Addr} {l : Bs} (h : Bt w A n c l) (hn : n ≤ 1000000) (hsel : (Ac.numR 1 (some l)).1 = 7) :
    Calls Tryd.prog 21 #[.slice A n c] w fun e w' => e = .returned (.tuple #[actV ((Ac.readA l).getD Ac.ActS.zero), .int .i64 (errA l)]) ∧ Chg [] w w' := by
  have hc0 := (Chg.refl [] w).alloc (.cells (ActS.cells Ac.ActS.zero) 32)
  have H0 := Lib.hid (And.intro (h.chg0 hc0) (And.intro (Blk.new w 32 (ActS.cells Ac.ActS.zero)) hc0))
  clear h hc0
  unfold actV
  go_enter Tryd.func21, Tryd.ntmps21
  go_upto_region 1 with fail
  change Code.wp _ _ _ _ (w.alloc (.cells (ActS.cells Ac.ActS.zero) 32))
  have HZ := Lib.hid (show (w.alloc (.cells (ActS.cells Ac.ActS.zero) 32)).heap.size = w.heap.size + 1 by simp)
  generalize w.alloc (.cells (ActS.cells Ac.ActS.zero) 32) = W at *
  go_upto_region 2 with fail
  have hca := (Chg.refl [] W).alloc (.cells #[.slice A n c, .bool false] 88)
  have hps : w.heap.size < W.heap.size := by rw [HZ.out]; omega
  have H1 := Lib.hid (And.intro (Rl.new W H0.out.1 hn) (And.intro (H0.out.2.1.chg hca (by simp)) (H0.out.2.2.trans hca)))
  have HS2 := Lib.hid (show (W.alloc (.cells #[.slice A n c, .bool false] 88)).heap.size = W.heap.size + 1 by simp)
  clear hca
  generalize W.alloc (.cells #[.slice A n c, .bool false] 88) = W1 at *
  generalize W.heap.size = p at *
  go_wp2_with fail
  refine (rnum_any H1.out.1 1 (by unfold WidK; omega)).mono ?_
  rintro e w2 ⟨rfl, ha, hc⟩
  have hv : ((Ac.numR 1 (some l)).1 : Int) ≤ 255 := by have := Ac.numR_lt 1 (some l); omega
  generalize hk : (Ac.numR 1 (some l)).1 = k at *
  generalize hr1 : (Ac.numR 1 (some l)).2 = r1 at *
  have HK := Lib.hid (And.intro hk hr1)
  have H2 := Lib.hid (And.intro ha hc)
  have HSEL := Lib.hid hsel
  clear ha hc hk hr1 hsel
  go_upto_region 3 with fail
  have hch := (Chg.refl [] w2).alloc (.cells (ActS.cells (Ac.ActS.bare k)) 32)
  have hsz3 : p + 1 ≤ w2.heap.size := by have := H2.out.2.size; have := HS2.out; omega
  have HM := Lib.hid (show Rx w (w2.alloc (.cells (ActS.cells (Ac.ActS.bare k)) 32)) p r1 32 w.heap.size w2.heap.size (ActS.cells Ac.ActS.zero) (ActS.cells (Ac.ActS.bare k)) from
    ⟨H2.out.1.to hch, (H1.out.2.1.chg H2.out.2 (by simp; omega)).chg hch (by simp), Blk.new _ _ _, ((H1.out.2.2.mono (by simp)).trans H2.out.2).trans (hch.mono (by simp)), by omega, by omega, by omega, Nat.le_refl _, by omega⟩)
  clear hch
  change Code.wp _ _ _ _ (w2.alloc (.cells (ActS.cells (Ac.ActS.bare k)) 32))
  generalize w2.alloc (.cells (ActS.cells (Ac.ActS.bare k)) 32) = W3 at *
  generalize w2.heap.size = ab at *
  have ck : W3.cell? ⟨ab, 0, none⟩ = some (.int .i64 (k : Nat)) := HM.out.xB.cell 0
  go_upto_region 4 with fail
  clear ck
  have HA : Hid (Ac.rdAct (some l) = Ac.rdParts (Ac.shapeL (k : Nat)) (Ac.ActS.bare (k : Nat)) r1) := Lib.hid (by unfold Ac.rdAct; rw [HK.out.1, HK.out.2])
  obtain rfl | hk7 := Classical.em (k = 7)
  · skip
    go_wp2_with fail
    refine (rmsgR_any HM.out.al).mono ?_
    rintro e w4 ⟨rfl, ha, hc⟩
    have HS := Lib.hid (HM.out.rd ha hc)
    clear ha hc
    generalize hg0 : (Ac.rdMsg r1).1 = mg at *
    generalize hg1 : (Ac.rdMsg r1).2 = r2 at *
    have d0 : w4.cell? ⟨ab, 11, none⟩ = some (.int .i64 0) := HS.out.xB.cell 11
    have f0 := HS.out.xB.frozen 11
    have d1 : w4.cell? ⟨ab, 12, none⟩ = some (.int .u64 0) := HS.out.xB.cell 12
    have f1 := HS.out.xB.frozen 12
    have d2 : w4.cell? ⟨ab, 13, none⟩ = some (.int .i64 0) := HS.out.xB.cell 13
    have f2 := HS.out.xB.frozen 13
    have d3 : w4.cell? ⟨ab, 14, none⟩ = some (.string .empty) := HS.out.xB.cell 14
    have f3 := HS.out.xB.frozen 14
    have d4 : w4.cell? ⟨ab, 15, none⟩ = some (.string .empty) := HS.out.xB.cell 15
    have f4 := HS.out.xB.frozen 15
    have d5 : w4.cell? ⟨ab, 16, none⟩ = some (.string .empty) := HS.out.xB.cell 16
    have f5 := HS.out.xB.frozen 16
    unfold msgV Msg.cells
    go_upto_region 25 with fail
    have H5 := Lib.hid ((((((HS.out.set (cs' := ActS.cells { Ac.ActS.bare (7 : Nat) with m := { Msg.zero with org := mg.org } }) 11 (.int .i64 mg.org) (act_nobyte _) rfl).set (cs' := ActS.cells { Ac.ActS.bare (7 : Nat) with m := { Msg.zero with org := mg.org, seq := mg.seq } }) 12 (.int .u64 mg.seq) (act_nobyte _) rfl).set (cs' := ActS.cells { Ac.ActS.bare (7 : Nat) with m := { Msg.zero with org := mg.org, seq := mg.seq, hop := mg.hop } }) 13 (.int .i64 mg.hop) (act_nobyte _) rfl).set (cs' := ActS.cells { Ac.ActS.bare (7 : Nat) with m := { Msg.zero with org := mg.org, seq := mg.seq, hop := mg.hop, ex := mg.ex } }) 14 (.string mg.ex) (act_nobyte _) rfl).set (cs' := ActS.cells { Ac.ActS.bare (7 : Nat) with m := { Msg.zero with org := mg.org, seq := mg.seq, hop := mg.hop, ex := mg.ex, key := mg.key } }) 15 (.string mg.key) (act_nobyte _) rfl).set (cs' := ActS.cells { Ac.ActS.bare (7 : Nat) with m := mg }) 16 (.string mg.body) (act_nobyte _) rfl)
    have E1 := Lib.hid (And.intro hg0 (hg1))
    clear HS d0 f0 d1 f1 d2 f2 d3 f3 d4 f4 d5 f5 hg0 hg1
    generalize (((((w4.setCell ⟨ab, 11, none⟩ (.int .i64 mg.org)).setCell ⟨ab, 12, none⟩ (.int .u64 mg.seq)).setCell ⟨ab, 13, none⟩ (.int .i64 mg.hop)).setCell ⟨ab, 14, none⟩ (.string mg.ex)).setCell ⟨ab, 15, none⟩ (.string mg.key)).setCell ⟨ab, 16, none⟩ (.string mg.body) = w5 at *
    have HE := Lib.hid (show Ac.rdAct (some l) = ({ Ac.ActS.bare (7 : Nat) with m := mg }, r2) from by rw [HA.out, rdParts7, E1.out.1, E1.out.2])
    generalize ({ Ac.ActS.bare (7 : Nat) with m := mg } : ActS) = av at *
    have HSm := Lib.hid (show (av : ActS).Small from by have h1 := rdAct_small l; rw [HE.out] at h1; exact h1)
    obtain ⟨B, m, d, lr, bad, hb, ht, hn, hr⟩ := H5.out.al.at_
    have c0 : w5.cell? ⟨p, 0, none⟩ = some (.slice B m d) := hb.cell 0
    have c1 : w5.cell? ⟨p, 1, none⟩ = some (.bool bad) := hb.cell 1
    have hml := ht.len
    clear hb ht hn
    rcases hr with ⟨rfl, hr⟩ | ⟨rfl, hr⟩
    · have e1 : Ac.readA l = none := by
        unfold Ac.readA
        rw [HE.out]
        simp only
        rw [hr, if_neg (by simp)]
      clear hr hml
      have HE1 := Lib.hid e1
      clear e1
      obtain ⟨w10, hst, hb10, hc10⟩ := store_act (a := Ac.ActS.zero) H5.out.rB rfl
      have HF := Lib.hid (And.intro hb10 hc10)
      clear hb10 hc10
      go_wp2_with (refine wpList_storeR (by rfl) _ _ _ (by rfl) _ _ (by rfl) (by rfl) _ hst ?_)
      have hlv := lvar_act HF.out.1
      refine bodyPost_ret (results_cell_tmp Tryd.results21 _ _ _ _ _ (by rfl) hlv) rfl ⟨?_, ?_⟩
      · unfold errA
        rw [HE1.out]
        rfl
      · exact (H5.out.chg.mono (by simp; omega)).then_ HF.out.2 (fun b hb => by simp at hb; subst hb; exact .inr (Nat.le_refl _))
    by_cases hm0 : 0 < m
    · have e1 : Ac.readA l = none := by
        unfold Ac.readA
        rw [HE.out]
        simp only
        rw [hr, if_neg (by intro h; have := h.1; simp only [Option.some.injEq] at this; subst this; simp at hml; omega)]
      have i1 : (0 : Int) < (m : Int) := by omega
      clear hr hml
      have HE1 := Lib.hid e1
      clear e1
      obtain ⟨w10, hst, hb10, hc10⟩ := store_act (a := Ac.ActS.zero) H5.out.rB rfl
      have HF := Lib.hid (And.intro hb10 hc10)
      clear hb10 hc10
      go_wp2_with (refine wpList_storeR (by rfl) _ _ _ (by rfl) _ _ (by rfl) (by rfl) _ hst ?_)
      have hlv := lvar_act HF.out.1
      refine bodyPost_ret (results_cell_tmp Tryd.results21 _ _ _ _ _ (by rfl) hlv) rfl ⟨?_, ?_⟩
      · unfold errA
        rw [HE1.out]
        rfl
      · exact (H5.out.chg.mono (by simp; omega)).then_ HF.out.2 (fun b hb => by simp at hb; subst hb; exact .inr (Nat.le_refl _))
    obtain rfl : m = 0 := by omega
    obtain rfl : lr = [] := List.length_eq_zero_iff.1 hml.symm
    have HRR := Lib.hid hr
    clear hr hml hm0
    have hl := load_act H5.out.xB
    go_wp2_with (refine wpList_loadW _ _ (by rfl) _ _ (by rfl) hl (by rfl) ?_)
    refine (rgood_act av HSm.out w5).mono ?_
    rintro e wg ⟨rfl, hc⟩
    have HG1 := Lib.hid (H5.out.rd (H5.out.al.to hc) (hc.mono (by simp)))
    clear hc hl c0 c1
    obtain ⟨gd, hgd⟩ : ∃ b, b = Ac.goodA av := ⟨_, rfl⟩
    rw [← hgd]
    have HG := Lib.hid hgd
    clear hgd
    cases gd with
    | false =>
      have e1 : Ac.readA l = none := by
        have h1 := HG.out
        unfold Ac.readA
        rw [HE.out, if_neg (fun h => Bool.noConfusion (h1.trans h.2))]
      have HE1 := Lib.hid e1
      clear e1
      obtain ⟨w10, hst, hb10, hc10⟩ := store_act (a := Ac.ActS.zero) HG1.out.rB rfl
      have HF := Lib.hid (And.intro hb10 hc10)
      clear hb10 hc10
      go_wp2_with (refine wpList_storeR (by rfl) _ _ _ (by rfl) _ _ (by rfl) (by rfl) _ hst ?_)
      have hlv := lvar_act HF.out.1
      refine bodyPost_ret (results_cell_tmp Tryd.results21 _ _ _ _ _ (by rfl) hlv) rfl ⟨?_, ?_⟩
      · unfold errA
        rw [HE1.out]
        rfl
      · exact (HG1.out.chg.mono (by simp; omega)).then_ HF.out.2 (fun b hb => by simp at hb; subst hb; exact .inr (Nat.le_refl _))
    | true =>
      have e1 : Ac.readA l = some av := by
        have h1 := HG.out
        unfold Ac.readA
        rw [HE.out]
        exact if_pos ⟨HRR.out, h1.symm⟩
      have HE1 := Lib.hid e1
      clear e1
      have hl := load_act HG1.out.xB
      obtain ⟨w10, hst, hb10, hc10⟩ := store_act (a := av) HG1.out.rB rfl
      have HF := Lib.hid (And.intro hb10 hc10)
      clear hb10 hc10
      go_wp2_with (first | (refine wpList_loadW _ _ (by rfl) _ _ (by rfl) hl (by rfl) ?_) | (refine wpList_storeR (by rfl) _ _ _ (by rfl) _ _ (by rfl) (by rfl) _ hst ?_))
      have hlv := lvar_act HF.out.1
      refine bodyPost_ret (results_cell_tmp Tryd.results21 _ _ _ _ _ (by rfl) hlv) rfl ⟨?_, ?_⟩
      · unfold errA
        rw [HE1.out]
        rfl
      · exact (HG1.out.chg.mono (by simp; omega)).then_ HF.out.2 (fun b hb => by simp at hb; subst hb; exact .inr (Nat.le_refl _))
  have nk7 : ((k : Int) == 7) = false := by simp; omega
  have := HSEL.out
  exfalso
  omega
theorem rread_any {w : World} {n c : Nat} {A : Option Addr} {l : Bs} (h : Bt w A n c l) (hn : n ≤ 1000000) :
    Calls Tryd.prog 21 #[.slice A n c] w fun e w' => e = .returned (.tuple #[actV ((Ac.readA l).getD Ac.ActS.zero), .int .i64 (errA l)]) ∧ Chg [] w w' := by
  by_cases h1 : (Ac.numR 1 (some l)).1 = 1 ∨ (Ac.numR 1 (some l)).1 = 2 ∨ (Ac.numR 1 (some l)).1 = 3 ∨ (Ac.numR 1 (some l)).1 = 4
  · exact rread_A h hn h1
  by_cases h2 : (Ac.numR 1 (some l)).1 = 5 ∨ (Ac.numR 1 (some l)).1 = 6
  · exact rread_B h hn h2
  by_cases h3 : (Ac.numR 1 (some l)).1 = 7
  · exact rread_D h hn h3
  exact rread_C h hn (by omega)
end Go.Proofs.YtmfaooihigphgaaDoor
