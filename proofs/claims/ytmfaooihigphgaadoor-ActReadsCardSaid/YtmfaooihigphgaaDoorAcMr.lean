/- staithref13.ReadMessage, ReadMany. -/
import Derived.Test.YtmfaooihigphgaaDoorAcMy
import Derived.Test.YtmfaooihigphgaaDoorAcReD
set_option linter.unusedVariables false
set_option linter.unusedSimpArgs false
namespace Go.Proofs.YtmfaooihigphgaaDoor
open Go.RowKit
open Go.Proofs.YtmfaooihigphgaaDoor.Ac (ActS)

namespace Ac
/-- How many bytes are left. -/
def leftR (r : R) : Nat := (r.getD []).length
theorem leftR_num (k : Nat) (r : R) : leftR (numR k r).2 ≤ leftR r := by
  unfold numR leftR
  cases r with
  | none => simp
  | some l =>
    simp only
    split <;> simp
theorem leftR_take (k : Nat) (r : R) : leftR (takeR k r).2 ≤ leftR r := by
  unfold takeR leftR
  cases r with
  | none => simp
  | some l =>
    simp only
    split <;> simp
theorem leftR_txt (r : R) : leftR (txtR r).2 ≤ leftR r := by
  unfold txtR
  exact Nat.le_trans (leftR_take _ _) (leftR_num _ _)
theorem leftR_msg (r : R) : leftR (rdMsg r).2 ≤ leftR r := by
  exact Nat.le_trans (leftR_txt _) (Nat.le_trans (leftR_txt _) (Nat.le_trans (leftR_txt _) (Nat.le_trans (leftR_num _ _) (Nat.le_trans (leftR_num _ _) (leftR_num _ _)))))
end Ac
set_option maxRecDepth 100000 in
set_option maxHeartbeats 8000000 in
theorem rreadm_any {w : World} {n c : Nat} {A : Option Addr} {l : Bs} (h : Bt w A n c l) (hn : n ≤ 1000000) :
    Calls Tryd.prog 22 #[.slice A n c] w fun e w' => e = .returned (.tuple #[msgV (Ac.readM l).1, .int .i64 ((Ac.readM l).2 : Nat)]) ∧ Chg [] w w' := by
  have hc0 := (Chg.refl [] w).alloc (.cells Msg.zero.cells 30)
  have HLN := Lib.hid h.len
  have H0 := Lib.hid (And.intro (h.chg0 hc0) (And.intro (Blk.new w 30 Msg.zero.cells) hc0))
  clear h hc0
  unfold msgV
  go_enter Tryd.func22, Tryd.ntmps22
  go_upto_region 1 with fail
  change Code.wp _ _ _ _ (w.alloc (.cells Msg.zero.cells 30))
  have HZ := Lib.hid (show (w.alloc (.cells Msg.zero.cells 30)).heap.size = w.heap.size + 1 by simp)
  generalize w.alloc (.cells Msg.zero.cells 30) = W at *
  go_upto_region 2 with fail
  have hca := (Chg.refl [] W).alloc (.cells #[.slice A n c, .bool false] 88)
  have hps : w.heap.size < W.heap.size := by rw [HZ.out]; omega
  have H1 := Lib.hid (And.intro (Rl.new W H0.out.1 hn) (And.intro (H0.out.2.1.chg hca (by simp)) (H0.out.2.2.trans hca)))
  have HS2 := Lib.hid (show (W.alloc (.cells #[.slice A n c, .bool false] 88)).heap.size = W.heap.size + 1 by simp)
  clear hca
  generalize W.alloc (.cells #[.slice A n c, .bool false] 88) = W1 at *
  generalize W.heap.size = p at *
  go_wp2_with fail
  refine (rmsgR_any H1.out.1).mono ?_
  rintro e w2 ⟨rfl, ha, hc⟩
  have hms := rdMsg_small (some l)
  have hlf := Ac.leftR_msg (some l)
  generalize hm : (Ac.rdMsg (some l)).1 = m at *
  generalize hr : (Ac.rdMsg (some l)).2 = r at *
  have HK := Lib.hid (And.intro hm (And.intro hr (And.intro hms hlf)))
  have H2 := Lib.hid (And.intro ha hc)
  clear ha hc hm hr hms hlf
  unfold msgV Msg.cells
  go_upto_region 3 with fail
  have hch := (Chg.refl [] w2).alloc (.cells m.cells 30)
  have hsz3 : p + 1 ≤ w2.heap.size := by have := H2.out.2.size; have := HS2.out; omega
  have HM := Lib.hid (show Rx w (w2.alloc (.cells m.cells 30)) p r 30 w.heap.size w2.heap.size Msg.zero.cells m.cells from
    ⟨H2.out.1.to hch, (H1.out.2.1.chg H2.out.2 (by simp; omega)).chg hch (by simp), Blk.new _ _ _, ((H1.out.2.2.mono (by simp)).trans H2.out.2).trans (hch.mono (by simp)), by omega, by omega, by omega, Nat.le_refl _, by omega⟩)
  clear hch
  change Code.wp _ _ _ _ (w2.alloc (.cells m.cells 30))
  generalize w2.alloc (.cells m.cells 30) = W3 at *
  generalize w2.heap.size = mb at *
  change Code.wp _ _ _ _ _
  obtain ⟨B, mm, d, lr, bad, hb, ht, hmn, hr⟩ := HM.out.al.at_
  have c0 : W3.cell? ⟨p, 0, none⟩ = some (.slice B mm d) := hb.cell 0
  have c1 : W3.cell? ⟨p, 1, none⟩ = some (.bool bad) := hb.cell 1
  have hml := ht.len
  have HB := Lib.hid hb
  clear hb ht hmn
  rcases hr with ⟨rfl, rfl⟩ | ⟨rfl, rfl⟩
  · have e1 : Ac.readM l = (Msg.zero, 0) := by
      unfold Ac.readM
      rw [HK.out.2.1]
    clear hml
    have HE1 := Lib.hid e1
    clear e1
    obtain ⟨w10, hst, hb10, hc10⟩ := store_msg (m := Msg.zero) HM.out.rB rfl
    have HF := Lib.hid (And.intro hb10 hc10)
    clear hb10 hc10
    go_wp2_with (refine wpList_storeR (by rfl) _ _ _ (by rfl) _ _ (by rfl) (by rfl) _ hst ?_)
    have hlv := lvar_blk HF.out.1 Tryd.underlying30 rfl info_msg
    refine bodyPost_ret (results_cell_tmp Tryd.results22 _ _ _ _ _ (by rfl) hlv) rfl ⟨?_, ?_⟩
    · rw [HE1.out]
      rfl
    · exact (HM.out.chg.mono (by simp; omega)).then_ HF.out.2 (fun b hb => by simp at hb; subst hb; exact .inr (Nat.le_refl _))
  · have hl := load_msg HM.out.xB
    have hle : mm ≤ n := by
      have := HK.out.2.2.2
      unfold Ac.leftR at this
      simp only [Option.getD_some] at this
      have := HLN.out
      omega
    have HLL := Lib.hid (And.intro hml HLN.out)
    clear hml
    go_wp2_with (refine wpList_loadW _ _ (by rfl) _ _ (by rfl) hl (by rfl) ?_)
    refine (rgoodm_any m HK.out.2.2.1 W3).mono ?_
    rintro e w6 ⟨rfl, hc⟩
    have H6 := Lib.hid (HM.out.rd (HM.out.al.to hc) (hc.mono (by simp)))
    have HB6 := Lib.hid (HB.out.chg hc (by simp))
    clear hc hl c0 c1
    obtain ⟨gd, hgd⟩ : ∃ b, b = Ac.goodM m := ⟨_, rfl⟩
    rw [← hgd]
    have HG := Lib.hid hgd
    clear hgd
    cases gd with
    | false =>
      have e1 : Ac.readM l = (Msg.zero, 0) := by
        unfold Ac.readM
        rw [HK.out.2.1]
        simp only [HK.out.1, ← HG.out]
        rfl
      have HE1 := Lib.hid e1
      clear e1
      obtain ⟨w10, hst, hb10, hc10⟩ := store_msg (m := Msg.zero) H6.out.rB rfl
      have HF := Lib.hid (And.intro hb10 hc10)
      clear hb10 hc10
      go_wp2_with (refine wpList_storeR (by rfl) _ _ _ (by rfl) _ _ (by rfl) (by rfl) _ hst ?_)
      have hlv := lvar_blk HF.out.1 Tryd.underlying30 rfl info_msg
      refine bodyPost_ret (results_cell_tmp Tryd.results22 _ _ _ _ _ (by rfl) hlv) rfl ⟨?_, ?_⟩
      · rw [HE1.out]
        rfl
      · exact (H6.out.chg.mono (by simp; omega)).then_ HF.out.2 (fun b hb => by simp at hb; subst hb; exact .inr (Nat.le_refl _))
    | true =>
      have e1 : Ac.readM l = (m, n - mm) := by
        unfold Ac.readM
        rw [HK.out.2.1]
        simp only [HK.out.1, ← HG.out, HLL.out.1, HLL.out.2]
        rfl
      have HE1 := Lib.hid e1
      clear e1
      have hnm : ((n : Nat) : Int) - ((mm : Nat) : Int) = ((n - mm : Nat) : Int) := by omega
      go_upto_region 5 with fail
      refine wp_region_noPanic ?_
      refine wp_region_held_drew (S := fun w' => (Instr.loadAt 30 (.pointer (some ⟨mb, 0, none⟩))).run Tryd.prog w' = .ok (.agg m.cells) w' ∧ w'.cell? ⟨p, 0, none⟩ = some (.slice B mm d)) (by kernel_rfl) ⟨load_msg (w := w6.drew) H6.out.xB, HB6.out.cell 0⟩ (fun hHeld => ?_)
      refine wpAnyH_take (i := 0) (oi := _) (v := _) rfl (by kernel_rfl) (by kernel_rfl) (by kernel_rfl) (fun _ _ _ h => h) (yields_load (by rfl) _ _ (by rfl) _ (by rfl) _ (fun w h => h.1)) (by assumption) ?_
      try simp only [List.getElem_toArray, List.getElem_cons_zero, List.getElem_cons_succ, Act.put, List.setIfInBounds_toArray, List.set_cons_zero, List.set_cons_succ]
      refine wpAnyH_take (i := 1) (oi := _) (v := ?_) rfl (by kernel_rfl) (by kernel_rfl) (by kernel_rfl) (fun _ _ _ h => h) (Or.inl ⟨by rfl, ?_⟩) (by assumption) ?_
      rotate_left 1
      · intro w hSw
        try dsimp only at hSw
        go_simp
        try with_reducible rfl
      try simp only [List.getElem_toArray, List.getElem_cons_zero, List.getElem_cons_succ, Act.put, List.setIfInBounds_toArray, List.set_cons_zero, List.set_cons_succ]
      refine wpAnyH_take (i := 2) (oi := _) (v := ?_) rfl (by kernel_rfl) (by kernel_rfl) (by kernel_rfl) (fun _ _ _ h => h) (Or.inl ⟨by rfl, ?_⟩) (by assumption) ?_
      rotate_left 1
      · intro w hSw
        try dsimp only at hSw
        go_simp
        try with_reducible rfl
      try simp only [List.getElem_toArray, List.getElem_cons_zero, List.getElem_cons_succ, Act.put, List.setIfInBounds_toArray, List.set_cons_zero, List.set_cons_succ]
      refine wpAnyH_take (i := 3) (oi := _) (v := ?_) rfl (by kernel_rfl) (by kernel_rfl) (by kernel_rfl) (fun _ _ _ h => h) (Or.inl ⟨by rfl, ?_⟩) (by assumption) ?_
      rotate_left 1
      · intro w hSw
        try dsimp only at hSw
        go_simp
        try with_reducible rfl
      try simp only [List.getElem_toArray, List.getElem_cons_zero, List.getElem_cons_succ, Act.put, List.setIfInBounds_toArray, List.set_cons_zero, List.set_cons_succ]
      refine wpAnyH_take (i := 4) (oi := _) (v := ?_) rfl (by kernel_rfl) (by kernel_rfl) (by kernel_rfl) (fun _ _ _ h => h) (Or.inl ⟨by rfl, ?_⟩) (by assumption) ?_
      rotate_left 1
      · intro w hSw
        try dsimp only at hSw
        go_simp
        try with_reducible rfl
      try simp only [List.getElem_toArray, List.getElem_cons_zero, List.getElem_cons_succ, Act.put, List.setIfInBounds_toArray, List.set_cons_zero, List.set_cons_succ]
      refine wpAnyH_take (i := 5) (oi := _) (v := ?_) rfl (by kernel_rfl) (by kernel_rfl) (by kernel_rfl) (fun _ _ _ h => h) (Or.inl ⟨by rfl, ?_⟩) (by assumption) ?_
      rotate_left 1
      · intro w hSw
        try dsimp only at hSw
        go_simp
        try with_reducible rfl
      try simp only [List.getElem_toArray, List.getElem_cons_zero, List.getElem_cons_succ, Act.put, List.setIfInBounds_toArray, List.set_cons_zero, List.set_cons_succ]
      refine wpAnyH_take (i := 6) (oi := _) (v := .slice B mm d) rfl (by kernel_rfl) (by kernel_rfl) (by kernel_rfl) (fun _ _ _ h => h) (Or.inl ⟨by rfl, fun w h => ?_⟩) (by assumption) ?_
      · obtain ⟨_, h2⟩ := h
        go_simp
      try simp only [List.getElem_toArray, List.getElem_cons_zero, List.getElem_cons_succ, Act.put, List.setIfInBounds_toArray, List.set_cons_zero, List.set_cons_succ]
      refine wpAnyH_take (i := 7) (oi := _) (v := ?_) rfl (by kernel_rfl) (by kernel_rfl) (by kernel_rfl) (fun _ _ _ h => h) (Or.inl ⟨by rfl, ?_⟩) (by assumption) ?_
      rotate_left 1
      · intro w hSw
        try dsimp only at hSw
        go_simp
        try with_reducible rfl
      try simp only [List.getElem_toArray, List.getElem_cons_zero, List.getElem_cons_succ, Act.put, List.setIfInBounds_toArray, List.set_cons_zero, List.set_cons_succ]
      refine wpAnyH_take (i := 8) (oi := _) (v := .int .i64 ((n - mm : Nat) : Int)) rfl (by kernel_rfl) (by kernel_rfl) (by kernel_rfl) (fun _ _ _ h => h) (Or.inl ⟨by rfl, fun w h => ?_⟩) (by assumption) ?_
      · rw [← hnm]
        obtain ⟨_, h2⟩ := h
        go_simp
        rw [IntKind.wrap_i64]
        omega
      try simp only [List.getElem_toArray, List.getElem_cons_zero, List.getElem_cons_succ, Act.put, List.setIfInBounds_toArray, List.set_cons_zero, List.set_cons_succ]
      obtain ⟨w10, hst, hb10, hc10⟩ := store_msg (m := m) (H6.out.rB.drewN 1) rfl
      have HF := Lib.hid (And.intro hb10 (And.intro hc10 (show _ ∧ _ from ⟨load_msg ((H6.out.xB.drewN 1).chg hc10 (by simp; exact Ne.symm H6.out.ne3)), ((HB6.out.drewN 1).chg hc10 (by simp; exact H6.out.ne1)).cell 0⟩)))
      clear hb10 hc10
      refine wpAnyH_ready (rs := [9]) (by kernel_rfl) (by simp) (AllReadyH.cons rfl (fun K hK => ?_) AllReadyH.nil)
      refine step_store rfl _ _ _ (by rfl) _ _ (by rfl) (by rfl) _ hst ?_
      refine hK.out _ _ HF.out.2.2 (fun hHeld => ?_)
      clear hK K
      try simp only [List.getElem_toArray, List.getElem_cons_zero, List.getElem_cons_succ, Act.put, List.setIfInBounds_toArray, List.set_cons_zero, List.set_cons_succ]
      refine wpAnyH_ready (rs := [10]) (by kernel_rfl) (by simp) (AllReadyH.cons rfl (fun K hK => ?_) AllReadyH.nil)
      go_simp
      refine hK.out _ _ HF.out.2.2 (fun hHeld => ?_)
      clear hK K
      try simp only [List.getElem_toArray, List.getElem_cons_zero, List.getElem_cons_succ, Act.put, List.setIfInBounds_toArray, List.set_cons_zero, List.set_cons_succ]
      refine wpAnyH_done (by kernel_rfl) ?_ _
      refine NoPanic.normal ?_
      clear hst
      have hlv := lvar_blk HF.out.1 Tryd.underlying30 rfl info_msg
      go_wp2
      refine bodyPost_ret (results_cell_tmp Tryd.results22 _ _ _ _ _ (by rfl) hlv) rfl ⟨?_, ?_⟩
      · rw [HE1.out]
        rfl
      · exact ((H6.out.chg.mono (by simp; omega)).drew).then_ HF.out.2.1 (fun b hb => by simp at hb; subst hb; exact .inr (Nat.le_refl _))
/-- While the reference reads acts. -/
structure Amr (w0 w : World) (p : Nat) (r : Ac.R) (B : Option Addr) (m d : Nat) (acc : List ActS) : Prop where
  al : Rl w p r
  own : OwnS w (p + 1) 32 17 B m d (flatA acc)
  len : m = acc.length
  chg : Chg [] w0 w
section
variable {w0 w w' : World} {p : Nat} {r r' : Ac.R} {B B' : Option Addr} {m d d' : Nat} {acc acc' : List ActS}
theorem Amr.to (h : Amr w0 w p r B m d acc) (hc : Chg [] w w') : Amr w0 w' p r B m d acc := ⟨h.al.to hc, h.own.chg0 hc, h.len, h.chg.trans hc⟩
theorem Amr.rd (h : Amr w0 w p r B m d acc) (hp : w0.heap.size ≤ p) (ha : Rl w' p r') (hc : Chg [p] w w') : Amr w0 w' p r' B m d acc :=
  ⟨ha, h.own.chg hc (fun b hb => by have := h.own.ge b hb; simp; omega), h.len, h.chg.then_ hc (fun b hb => by simp at hb; subst hb; exact .inr hp)⟩
theorem Amr.app (h : Amr w0 w p r B m d acc) (hp : w0.heap.size ≤ p) (hc : Chg (sB B) w w') (ho : OwnS w' (p + 1) 32 17 B' (m + 1) d' (flatA acc')) (hl : acc'.length = acc.length + 1) : Amr w0 w' p r B' (m + 1) d' acc' :=
  ⟨h.al.young hc (fun b hb => by have := h.own.ge b hb; omega), ho, by rw [hl, h.len], h.chg.then_ hc (fun b hb => by have := h.own.ge b hb; exact .inr (by omega))⟩
end
set_option maxRecDepth 100000 in
set_option maxHeartbeats 16000000 in
theorem rmany_any {w : World} {n c : Nat} {A : Option Addr} {l : Bs} (h : Bt w A n c l) (hn : n ≤ 1000000) :
    Calls Tryd.prog 24 #[.slice A n c] w fun e w' => ∃ B m d, e = .returned (.tuple #[.slice B m d, .int .i64 (errL l)]) ∧ m = ((Ac.readL l).getD []).length ∧ OwnS w' w.heap.size 32 17 B m d (flatA ((Ac.readL l).getD [])) ∧ Chg [] w w' := by
  have H0 := Lib.hid h
  clear h
  go_enter Tryd.func24, Tryd.ntmps24
  go_upto_region 2 with fail
  have hca := (Chg.refl [] w).alloc (.cells #[.slice A n c, .bool false] 88)
  have H1 := Lib.hid (show Amr w (w.alloc (.cells #[.slice A n c, .bool false] 88)) w.heap.size (some l) none 0 0 [] from
    ⟨Rl.new w H0.out hn, OwnS.nil _ _ _ _, rfl, hca⟩)
  clear hca
  generalize w.alloc (.cells #[.slice A n c, .bool false] 88) = W1 at *
  obtain ⟨p, hp⟩ : ∃ p, p = w.heap.size := ⟨_, rfl⟩
  have hp1 : w.heap.size ≤ p := by omega
  rw [← hp] at H1 ⊢
  clear hp
  go_wp2_with fail
  refine (rnum_any H1.out.al 2 (by unfold WidK; omega)).mono ?_
  rintro e w2 ⟨rfl, ha, hc⟩
  have HM := Lib.hid (H1.out.rd hp1 ha hc)
  clear ha hc
  have hv : ((Ac.numR 2 (some l)).1 : Int) ≤ 65535 := by have := Ac.numR_lt 2 (some l); omega
  generalize hk : (Ac.numR 2 (some l)).1 = k at *
  generalize hr1 : (Ac.numR 2 (some l)).2 = r1 at *
  have HK := Lib.hid (And.intro hk hr1)
  clear hk hr1
  go_wp2_with fail
  go_loopw [6, 7, 8, 9] (fun s6 s7 _ _ wr => ∃ (j m d : Nat) (B : Option Addr) (acc : List ActS) (r : Ac.R), j ≤ k ∧ s7 = .int .i64 j ∧ s6 = .slice B m d ∧ m ≤ j ∧ Hid (Ac.loopR (k - j) r acc = Ac.loopR k r1 []) ∧ Hid (Amr w wr p r B m d acc)) (fun _ s7 _ _ _ => k - (intOf s7).toNat)
  case atStart => exact ⟨0, 0, 0, none, [], r1, Nat.zero_le _, rfl, rfl, Nat.le_refl _, Lib.hid rfl, HM⟩
  case round =>
    obtain ⟨j, m, d, B, acc, r, hj, rfl, rfl, hmj, HL, HR⟩ := hrel
    obtain ⟨X, xn, xc, xl, bad, hb, ht, hxn, hr⟩ := HR.out.al.at_
    have c0 : wr.cell? ⟨p, 0, none⟩ = some (.slice X xn xc) := hb.cell 0
    have c1 : wr.cell? ⟨p, 1, none⟩ = some (.bool bad) := hb.cell 1
    have HXL := Lib.hid ht.len
    clear hb ht
    by_cases hlt : j < k
    · have t1 : decide ((j : Int) < (k : Int)) = true := decide_eq_true (by omega)
      rcases hr with ⟨rfl, rfl⟩ | ⟨rfl, rfl⟩
      · skip
        have HE := Lib.hid (show Ac.readL l = if (none : Ac.R) = some [] ∧ k ≤ 60000 then some acc else none from by
          have h1 := readL_of l (some (acc, (none : Ac.R))) (by rw [HK.out.1, HK.out.2, ← HL.out]; exact loopR_none _ _)
          rw [HK.out.1] at h1
          exact h1)
        have e1 : Ac.readL l = none := by
          rw [HE.out, if_neg (by simp)]
        have e2 : ∃ B' m' d', (Value.tuple #[.slice none 0 0, .int .i64 7]) = Value.tuple #[.slice B' m' d', .int .i64 (errL l)] ∧ m' = ((Ac.readL l).getD []).length ∧ OwnS wr w.heap.size 32 17 B' m' d' (flatA ((Ac.readL l).getD [])) ∧ Chg [] w wr := by
          unfold errL
          rw [e1]
          exact ⟨none, 0, 0, rfl, rfl, OwnS.nil _ _ _ _, HR.out.chg⟩
        have E2 := Lib.hid e2
        clear e1 e2
        go_wp2
        try rw [Exit.noGoto_ret]
        go_ret2
        obtain ⟨B', m', d', h1, h2⟩ := E2.out
        exact ⟨B', m', d', congrArg Ending.returned h1, h2⟩
      · clear c0
        go_wp2_with fail
        refine (rtextR_any HR.out.al).mono ?_
        rintro e w5 ⟨rfl, ha, hc⟩
        have H5 := Lib.hid (HR.out.rd hp1 ha hc)
        clear ha hc c1
        obtain ⟨cc, w6, hcv, hbt, hc⟩ := conv_bytes w5 (strB (Ac.txtR (some xl)).1)
        have HBT := Lib.hid hbt
        have H6 := Lib.hid (H5.out.to hc)
        clear hbt hc
        go_wp2_with fail
        generalize hx : (Ac.txtR (some xl)).1 = x at *
        generalize hr2 : (Ac.txtR (some xl)).2 = r2 at *
        have hbt : Bt w6 (some ⟨w5.heap.size, 0, none⟩) (strB x).size cc x := by
          have h1 := HBT.out
          rwa [strB_data] at h1
        have hsz : (strB x).size ≤ 1000000 := by
          have := txtR_le (some xl)
          rw [hx] at this
          omega
        have HX := Lib.hid (And.intro hx hr2)
        clear hcv HBT hx hr2
        refine (rread_any hbt hsz).mono ?_
        rintro e w7 ⟨rfl, hc⟩
        have H7 := Lib.hid (H6.out.to hc)
        clear hbt hsz hc
        obtain ⟨ra, hra⟩ : ∃ ra, ra = Ac.readA x := ⟨_, rfl⟩
        have he : errA x = if ra.isSome then 0 else 7 := by unfold errA; rw [hra]
        rw [← hra, he]
        have HRA := Lib.hid hra
        clear hra he
        obtain ⟨w8, hst, hbn, hc⟩ := new_act w7 (ra.getD Ac.ActS.zero)
        go_upto_region 8 with (refine wpList_storeR (by rfl) _ _ _ (by rfl) _ _ (by rfl) (by rfl) _ hst ?_)
        have HBN := Lib.hid hbn
        have H8 := Lib.hid (H7.out.to hc)
        clear hst hbn hc
        cases ra with
        | none =>
          simp only [Option.isSome_none, Bool.false_eq_true, if_false]
          have e1 : Ac.readL l = none := by
            refine readL_of l none ?_
            rw [HK.out.1, HK.out.2, ← HL.out, show k - j = (k - (j + 1)) + 1 from by omega, loopR_some, HX.out.1, ← HRA.out]
            rfl
          have e2 : ∃ B' m' d', (Value.tuple #[.slice none 0 0, .int .i64 7]) = Value.tuple #[.slice B' m' d', .int .i64 (errL l)] ∧ m' = ((Ac.readL l).getD []).length ∧ OwnS w8 w.heap.size 32 17 B' m' d' (flatA ((Ac.readL l).getD [])) ∧ Chg [] w w8 := by
            unfold errL
            rw [e1]
            exact ⟨none, 0, 0, rfl, rfl, OwnS.nil _ _ _ _, H8.out.chg⟩
          have E2 := Lib.hid e2
          clear e1 e2
          go_wp2
          try rw [Exit.noGoto_ret]
          go_ret2
          obtain ⟨B', m', d', h1, h2⟩ := E2.out
          exact ⟨B', m', d', congrArg Ending.returned h1, h2⟩
        | some a =>
          simp only [Option.isSome_some, if_true, Option.getD_some] at HBN ⊢
          have hl := load_act HBN.out
          go_upto_region 10 with fail
          obtain ⟨B', d', w9, hap, ho9, hc9, hB⟩ := app_act (w := w8.alloc (.cells (ActS.cells a) 32)) (H8.out.own.chg0 ((Chg.refl [] w8).alloc _)) (by have := H8.out.al.lt; simp; omega) (by omega) w8.heap.size a (Blk.new w8 32 (ActS.cells a))
          go_wp2_with (first | (refine wpList_loadW _ _ (by rfl) _ _ (by rfl) hl (by rfl) ?_) | (refine wpList_bsAct (by rfl) _ (by rfl) a (by rfl) ?_) | (at_builtin; refine wpList_appR (by rfl) _ _ _ _ (by rfl) _ _ _ _ (by rfl) (by rfl) hap ?_))
          have H9 := Lib.hid ((H8.out.to ((Chg.refl [] w8).alloc (.cells (ActS.cells a) 32))).app (acc' := acc ++ [a]) hp1 hc9 ho9 (by simp))
          refine ⟨⟨j + 1, m + 1, d', B', acc ++ [a], r2, by omega, by go_num, rfl, by omega, Lib.hid ?_, H9⟩, by simp [intOf]; omega⟩
          rw [← HL.out, show k - j = (k - (j + 1)) + 1 from by omega, loopR_some, HX.out.1, ← HRA.out, HX.out.2]
          rfl
    · have t1 : decide ((j : Int) < (k : Int)) = false := decide_eq_false (by omega)
      rcases hr with ⟨rfl, rfl⟩ | ⟨rfl, rfl⟩
      · skip
        have HE := Lib.hid (show Ac.readL l = if (none : Ac.R) = some [] ∧ k ≤ 60000 then some acc else none from by
          have h1 := readL_of l (some (acc, (none : Ac.R))) (by rw [HK.out.1, HK.out.2, ← HL.out]; rw [show k - j = 0 from by omega]; rfl)
          rw [HK.out.1] at h1
          exact h1)
        have e1 : Ac.readL l = none := by
          rw [HE.out, if_neg (by simp)]
        have e2 : ∃ B' m' d', (Value.tuple #[.slice none 0 0, .int .i64 7]) = Value.tuple #[.slice B' m' d', .int .i64 (errL l)] ∧ m' = ((Ac.readL l).getD []).length ∧ OwnS wr w.heap.size 32 17 B' m' d' (flatA ((Ac.readL l).getD [])) ∧ Chg [] w wr := by
          unfold errL
          rw [e1]
          exact ⟨none, 0, 0, rfl, rfl, OwnS.nil _ _ _ _, HR.out.chg⟩
        have E2 := Lib.hid e2
        clear e1 e2
        go_wp2
        try rw [Exit.noGoto_ret]
        go_ret2
        obtain ⟨B', m', d', h1, h2⟩ := E2.out
        exact ⟨B', m', d', congrArg Ending.returned h1, h2⟩
      · skip
        have HE := Lib.hid (show Ac.readL l = if (some xl) = some [] ∧ k ≤ 60000 then some acc else none from by
          have h1 := readL_of l (some (acc, (some xl))) (by rw [HK.out.1, HK.out.2, ← HL.out]; rw [show k - j = 0 from by omega]; rfl)
          rw [HK.out.1] at h1
          exact h1)
        by_cases h0 : xn = 0
        · subst h0
          obtain rfl : xl = [] := List.length_eq_zero_iff.1 HXL.out.symm
          by_cases hk6 : k ≤ 60000
          · have e1 : Ac.readL l = some acc := by
              rw [HE.out, if_pos ⟨rfl, hk6⟩]
            have E1 := Lib.hid e1
            have t3 : decide ((60000 : Int) < (k : Int)) = false := decide_eq_false (by omega)
            clear e1
            go_wp2
            go_ret2
            refine ⟨B, m, d, ?_, ?_, ?_, HR.out.chg⟩
            · unfold errL
              rw [E1.out]
              rfl
            · rw [E1.out]
              exact HR.out.len
            · rw [E1.out]
              exact HR.out.own.lower (by omega)
          · have e1 : Ac.readL l = none := by
              rw [HE.out, if_neg (fun h => hk6 h.2)]
            have t3 : decide ((60000 : Int) < (k : Int)) = true := decide_eq_true (by omega)
            have e2 : ∃ B' m' d', (Value.tuple #[.slice none 0 0, .int .i64 7]) = Value.tuple #[.slice B' m' d', .int .i64 (errL l)] ∧ m' = ((Ac.readL l).getD []).length ∧ OwnS wr w.heap.size 32 17 B' m' d' (flatA ((Ac.readL l).getD [])) ∧ Chg [] w wr := by
              unfold errL
              rw [e1]
              exact ⟨none, 0, 0, rfl, rfl, OwnS.nil _ _ _ _, HR.out.chg⟩
            have E2 := Lib.hid e2
            clear e1 e2
            go_wp2
            try rw [Exit.noGoto_ret]
            go_ret2
            obtain ⟨B', m', d', h1, h2⟩ := E2.out
            exact ⟨B', m', d', congrArg Ending.returned h1, h2⟩
        · have e1 : Ac.readL l = none := by
            rw [HE.out, if_neg (fun h => h0 (by rw [HXL.out]; cases h.1; rfl))]
          have t3 : decide ((0 : Int) < (xn : Int)) = true := decide_eq_true (by omega)
          have e2 : ∃ B' m' d', (Value.tuple #[.slice none 0 0, .int .i64 7]) = Value.tuple #[.slice B' m' d', .int .i64 (errL l)] ∧ m' = ((Ac.readL l).getD []).length ∧ OwnS wr w.heap.size 32 17 B' m' d' (flatA ((Ac.readL l).getD [])) ∧ Chg [] w wr := by
            unfold errL
            rw [e1]
            exact ⟨none, 0, 0, rfl, rfl, OwnS.nil _ _ _ _, HR.out.chg⟩
          have E2 := Lib.hid e2
          clear e1 e2
          go_wp2
          try rw [Exit.noGoto_ret]
          go_ret2
          obtain ⟨B', m', d', h1, h2⟩ := E2.out
          exact ⟨B', m', d', congrArg Ending.returned h1, h2⟩
end Go.Proofs.YtmfaooihigphgaaDoor
