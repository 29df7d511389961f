/- Package act: ReadMessage. -/
import Derived.Test.YtgnhpjakjoaejaaDoorAcRd
import Derived.StillTailTactics
set_option linter.unusedVariables false
set_option linter.unusedSimpArgs false
namespace Go.Proofs.YtgnhpjakjoaejaaDoor
open Go.RowKit

theorem Al.at_some {w : World} {p n c : Nat} {A : Option Addr} {l r' : Bs} (h : Al w p A n c l (some r')) : ∃ k : Nat, Blk w p 77 #[.slice A n c, .int .i64 k] ∧ k = l.length - r'.length := by
  obtain ⟨z, hb, hr⟩ := h.blk
  rcases hr with ⟨h1, _⟩ | ⟨k, hk, rfl, h1⟩
  · cases h1
  · refine ⟨k, hb, ?_⟩
    have := h.bt.len
    cases h1
    simp only [List.length_drop]
    omega
theorem Al.at_none {w : World} {p n c : Nat} {A : Option Addr} {l : Bs} (h : Al w p A n c l none) : Blk w p 77 #[.slice A n c, .int .i64 (-1)] := by
  obtain ⟨z, hb, hr⟩ := h.blk
  rcases hr with ⟨_, rfl⟩ | ⟨k, hk, rfl, h1⟩
  · exact hb
  · cases h1
set_option maxRecDepth 100000 in
set_option maxHeartbeats 8000000 in
theorem areadm_any {w : World} {n c : Nat} {A : Option Addr} {l : Bs} (h : Bt w A n c l) (hn : n ≤ 1000000) (hT : WidAt w) :
    Calls Tryd.prog 33 #[.slice A n c] w fun e w' => e = .returned (.tuple #[msgV (Ac.readM l).1, .int .i64 ((Ac.readM l).2 : Nat)]) ∧ Chg [] w w' := by
  have hwl := hT.lt
  have hc0 := (Chg.refl [] w).alloc (.cells Msg.zero.cells 27)
  have H0 := Lib.hid (And.intro (h.chg0 hc0) (And.intro (Blk.new w 27 Msg.zero.cells) (And.intro hc0 (hT.chg0 hc0))))
  clear h hT hc0
  unfold msgV
  go_enter Tryd.func33, Tryd.ntmps33
  go_upto_region 1 with fail
  change Code.wp _ _ _ _ (w.alloc (.cells Msg.zero.cells 27))
  have HZ := Lib.hid (show (w.alloc (.cells Msg.zero.cells 27)).heap.size = w.heap.size + 1 by simp)
  generalize w.alloc (.cells Msg.zero.cells 27) = W at *
  go_upto_region 2 with fail
  have hca := (Chg.refl [] W).alloc (.cells #[.slice A n c, .int .i64 0] 77)
  have hps : w.heap.size < W.heap.size := by rw [HZ.out]; omega
  have H1 := Lib.hid (And.intro (Al.new W H0.out.1 hn) (And.intro (H0.out.2.1.chg hca (by simp)) (And.intro (H0.out.2.2.1.trans hca) (H0.out.2.2.2.chg0 hca))))
  have HS2 := Lib.hid (show (W.alloc (.cells #[.slice A n c, .int .i64 0] 77)).heap.size = W.heap.size + 1 by simp)
  clear hca
  generalize W.alloc (.cells #[.slice A n c, .int .i64 0] 77) = W1 at *
  generalize W.heap.size = p at *
  have hp : p ≠ 1 := by omega
  go_wp2_with fail
  refine (amessage_any H1.out.1 H1.out.2.2.2 hp).mono ?_
  rintro e w2 ⟨rfl, ha, hc⟩
  have hms := rdMsg_small (some l)
  generalize hm : (Ac.rdMsg (some l)).1 = m at *
  generalize hr : (Ac.rdMsg (some l)).2 = r at *
  have HK := Lib.hid (And.intro hm (And.intro hr hms))
  have H2 := Lib.hid (And.intro ha hc)
  clear ha hc hm hr hms
  unfold msgV Msg.cells
  go_upto_region 3 with fail
  have hch := (Chg.refl [] w2).alloc (.cells m.cells 27)
  have hsz3 : p + 1 ≤ w2.heap.size := by have := H2.out.2.size; have := HS2.out; omega
  have HM := Lib.hid (show Am w (w2.alloc (.cells m.cells 27)) p n c A l r w.heap.size w2.heap.size m from
    ⟨H2.out.1.to hch, (H1.out.2.1.chg H2.out.2 (by simp; omega)).chg hch (by simp), Blk.new _ _ _, ((H1.out.2.2.1.mono (by simp)).trans H2.out.2).trans (hch.mono (by simp)), (H1.out.2.2.2.chg H2.out.2 (by simp; omega)).chg0 hch, by omega, by omega, by omega, Nat.le_refl _, by omega⟩)
  clear hch
  change Code.wp _ _ _ _ (w2.alloc (.cells m.cells 27))
  generalize w2.alloc (.cells m.cells 27) = W3 at *
  generalize w2.heap.size = mb at *
  change Code.wp _ _ _ _ _
  cases r with
  | none =>
    have hb := HM.out.al.at_none
    have e1 : Ac.readM l = (Msg.zero, 0) := by
      unfold Ac.readM
      rw [HK.out.2.1]
    have c1 : W3.cell? ⟨p, 1, none⟩ = some (.int .i64 (-1)) := hb.cell 1
    have HE1 := Lib.hid e1
    clear e1
    obtain ⟨w10, hst, hb10, hc10⟩ := store_msg (m := Msg.zero) HM.out.rB rfl
    have HF := Lib.hid (And.intro hb10 hc10)
    clear hb10 hc10
    go_wp2_with (refine wpList_storeR (by rfl) _ _ _ (by rfl) _ _ (by rfl) (by rfl) _ hst ?_)
    have hlv := lvar_blk HF.out.1 Tryd.underlying27 rfl info_msg
    refine bodyPost_ret (results_cell_tmp Tryd.results33 _ _ _ _ _ (by rfl) hlv) rfl ⟨?_, ?_⟩
    · rw [HE1.out]
      rfl
    · exact (HM.out.chg.mono (by simp; omega)).then_ HF.out.2 (fun b hb => by simp at hb; subst hb; exact .inr (Nat.le_refl _))
  | some r =>
    obtain ⟨k, hb, hk⟩ := HM.out.al.at_some
    have c1 : W3.cell? ⟨p, 1, none⟩ = some (.int .i64 k) := hb.cell 1
    have hl := load_msg HM.out.mB
    have hk0 : decide ((k : Int) < 0) = false := decide_eq_false (by omega)
    have HKK := Lib.hid hk
    clear hk hb
    go_wp2_with (refine wpList_loadW _ _ (by rfl) _ _ (by rfl) hl (by rfl) ?_)
    refine (goodm_any m HK.out.2.2 W3).mono ?_
    rintro e w6 ⟨rfl, hc⟩
    have H6 := Lib.hid (HM.out.rd (HM.out.al.to hc) (hc.mono (by simp)) hp)
    clear hc hl c1
    obtain ⟨gd, hgd⟩ : ∃ b, b = Ac.goodM m := ⟨_, rfl⟩
    rw [← hgd]
    have HG := Lib.hid hgd
    clear hgd
    cases gd with
    | false =>
      have e1 : Ac.readM l = (Msg.zero, 0) := by
        unfold Ac.readM
        rw [HK.out.2.1]
        simp only [HK.out.1, ← HG.out]
        rfl
      have HE1 := Lib.hid e1
      clear e1
      obtain ⟨w10, hst, hb10, hc10⟩ := store_msg (m := Msg.zero) H6.out.rB rfl
      have HF := Lib.hid (And.intro hb10 hc10)
      clear hb10 hc10
      go_wp2_with (refine wpList_storeR (by rfl) _ _ _ (by rfl) _ _ (by rfl) (by rfl) _ hst ?_)
      have hlv := lvar_blk HF.out.1 Tryd.underlying27 rfl info_msg
      refine bodyPost_ret (results_cell_tmp Tryd.results33 _ _ _ _ _ (by rfl) hlv) rfl ⟨?_, ?_⟩
      · rw [HE1.out]
        rfl
      · exact (H6.out.chg.mono (by simp; omega)).then_ HF.out.2 (fun b hb => by simp at hb; subst hb; exact .inr (Nat.le_refl _))
    | true =>
      have e1 : Ac.readM l = (m, k) := by
        unfold Ac.readM
        rw [HK.out.2.1]
        simp only [HK.out.1, ← HG.out, HKK.out]
        rfl
      have HE1 := Lib.hid e1
      clear e1
      obtain ⟨k, hb, hk⟩ := H6.out.al.at_some
      obtain rfl := hk.trans HKK.out.symm
      have HB := Lib.hid hb
      clear hb hk
      go_upto_region 5 with fail
      refine wp_region_noPanic ?_
      refine wp_region_held_drew (S := fun w' => (Instr.loadAt 27 (.pointer (some ⟨mb, 0, none⟩))).run Tryd.prog w' = .ok (.agg m.cells) w' ∧ w'.cell? ⟨p, 1, none⟩ = some (.int .i64 k)) (by kernel_rfl) ⟨load_msg (w := w6.drew) H6.out.mB, HB.out.cell 1⟩ (fun hHeld => ?_)
      refine wpAnyH_take (i := 0) (oi := _) (v := _) rfl (by kernel_rfl) (by kernel_rfl) (by kernel_rfl) (fun _ _ _ h => h) (yields_load (by rfl) _ _ (by rfl) _ (by rfl) _ (fun w h => h.1)) (by assumption) ?_
      try simp only [List.getElem_toArray, List.getElem_cons_zero, List.getElem_cons_succ, Act.put, List.setIfInBounds_toArray, List.set_cons_zero, List.set_cons_succ]
      refine wpAnyH_take (i := 1) (oi := _) (v := ?_) rfl (by kernel_rfl) (by kernel_rfl) (by kernel_rfl) (fun _ _ _ h => h) (Or.inl ⟨by rfl, ?_⟩) (by assumption) ?_
      rotate_left 1
      · intro w hSw
        try dsimp only at hSw
        go_simp
        try with_reducible rfl
      try simp only [List.getElem_toArray, List.getElem_cons_zero, List.getElem_cons_succ, Act.put, List.setIfInBounds_toArray, List.set_cons_zero, List.set_cons_succ]
      refine wpAnyH_take (i := 2) (oi := _) (v := ?_) rfl (by kernel_rfl) (by kernel_rfl) (by kernel_rfl) (fun _ _ _ h => h) (Or.inl ⟨by rfl, ?_⟩) (by assumption) ?_
      rotate_left 1
      · intro w hSw
        try dsimp only at hSw
        go_simp
        try with_reducible rfl
      try simp only [List.getElem_toArray, List.getElem_cons_zero, List.getElem_cons_succ, Act.put, List.setIfInBounds_toArray, List.set_cons_zero, List.set_cons_succ]
      refine wpAnyH_take (i := 3) (oi := _) (v := ?_) rfl (by kernel_rfl) (by kernel_rfl) (by kernel_rfl) (fun _ _ _ h => h) (Or.inl ⟨by rfl, ?_⟩) (by assumption) ?_
      rotate_left 1
      · intro w hSw
        try dsimp only at hSw
        go_simp
        try with_reducible rfl
      try simp only [List.getElem_toArray, List.getElem_cons_zero, List.getElem_cons_succ, Act.put, List.setIfInBounds_toArray, List.set_cons_zero, List.set_cons_succ]
      refine wpAnyH_take (i := 4) (oi := _) (v := .int .i64 k) rfl (by kernel_rfl) (by kernel_rfl) (by kernel_rfl) (fun _ _ _ h => h) (Or.inl ⟨by rfl, fun w h => ?_⟩) (by assumption) ?_
      · obtain ⟨_, h2⟩ := h
        go_simp
      try simp only [List.getElem_toArray, List.getElem_cons_zero, List.getElem_cons_succ, Act.put, List.setIfInBounds_toArray, List.set_cons_zero, List.set_cons_succ]
      obtain ⟨w10, hst, hb10, hc10⟩ := store_msg (m := m) (H6.out.rB.drewN 1) rfl
      have HF := Lib.hid (And.intro hb10 (And.intro hc10 (show _ ∧ _ from ⟨load_msg ((H6.out.mB.drewN 1).chg hc10 (by simp; exact Ne.symm H6.out.ne3)), ((HB.out.drewN 1).chg hc10 (by simp; exact H6.out.ne1)).cell 1⟩)))
      clear hb10 hc10
      refine wpAnyH_ready (rs := [5]) (by kernel_rfl) (by simp) (AllReadyH.cons rfl (fun K hK => ?_) AllReadyH.nil)
      refine step_store rfl _ _ _ (by rfl) _ _ (by rfl) (by rfl) _ hst ?_
      refine hK.out _ _ HF.out.2.2 (fun hHeld => ?_)
      clear hK K
      try simp only [List.getElem_toArray, List.getElem_cons_zero, List.getElem_cons_succ, Act.put, List.setIfInBounds_toArray, List.set_cons_zero, List.set_cons_succ]
      refine wpAnyH_ready (rs := [6]) (by kernel_rfl) (by simp) (AllReadyH.cons rfl (fun K hK => ?_) AllReadyH.nil)
      go_simp
      refine hK.out _ _ HF.out.2.2 (fun hHeld => ?_)
      clear hK K
      try simp only [List.getElem_toArray, List.getElem_cons_zero, List.getElem_cons_succ, Act.put, List.setIfInBounds_toArray, List.set_cons_zero, List.set_cons_succ]
      refine wpAnyH_done (by kernel_rfl) ?_ _
      refine NoPanic.normal ?_
      clear hst
      have hlv := lvar_blk HF.out.1 Tryd.underlying27 rfl info_msg
      go_wp2
      refine bodyPost_ret (results_cell_tmp Tryd.results33 _ _ _ _ _ (by rfl) hlv) rfl ⟨?_, ?_⟩
      · rw [HE1.out]
        rfl
      · exact ((H6.out.chg.mono (by simp; omega)).drew).then_ HF.out.2.1 (fun b hb => by simp at hb; subst hb; exact .inr (Nat.le_refl _))
end Go.Proofs.YtgnhpjakjoaejaaDoor
