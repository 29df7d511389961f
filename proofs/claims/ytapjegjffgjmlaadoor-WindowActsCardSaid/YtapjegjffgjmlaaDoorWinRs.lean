/- The document's window: Send. -/
import Derived.Test.YtapjegjffgjmlaaDoorWinRf
import Derived.Deep.QuietTactic
import Derived.BigQuiet
import Derived.Deep.DeepCutAuto
set_option linter.unusedVariables false
set_option linter.unusedSimpArgs false
namespace Go.Proofs.YtapjegjffgjmlaaDoor
open Go.RowKit Go.Shelf

theorem OwnS.some_ {w : World} {base : Nat} {e : TypeId} {size n c : Nat} {A : Option Addr} {xs : List Value} (h : OwnS w base e size A n c xs) (hn : 0 < n) : ∃ a, A = some a := by
  rcases h.at_ with ⟨_, h0⟩ | ⟨g, off, cur, rfl, _⟩
  · have := h.le; omega
  · exact ⟨_, rfl⟩
theorem OwnS.not_type {w : World} {base base' : Nat} {e e' : TypeId} {size size' n n' c c' : Nat} {A A' : Option Addr} {xs xs' : List Value} (h : OwnS w base e size A n c xs) (h' : OwnS w base' e' size' A' n' c' xs') (ht : e ≠ e') : ∀ b ∈ sB A, b ∉ sB A' := by
  intro b hb hb'
  rcases h'.at_ with ⟨rfl, _⟩ | ⟨g, off, cur, rfl, _, hg, _⟩
  · simp [sB] at hb'
  · simp [sB] at hb'
    subst hb'
    exact h.not_in (show Blk w b e' cur from hg) ht b hb rfl
theorem sentF_at' (s : WS) (nw k : Nat) : sentF s nw k k = s.f k := sentF_at s nw k

set_option maxRecDepth 100000 in
set_option maxHeartbeats 8000000 in
theorem rsend_any {w0 w : World} {rp : Nat} {s : WS} (h : RSt w0 w rp s) (hv now : Int) : Calls Tryd.prog 16 #[.pointer (some ⟨rp, 0, none⟩), .int .i64 hv, .int .i64 now] w fun e w' =>
    ∃ A c, e = .returned (.slice A (s.sends hv now).length c) ∧ OwnS w' w.heap.size 3 1 A (s.sends hv now).length c ((s.sends hv now).map encN) ∧ RSt w0 w' rp (s.send hv now) ∧ Chg [rp] w w' := by
  obtain ⟨i0, hi, hz0, hz1, hz2⟩ := info_parts infoInt
  have HI := Lib.hid (And.intro hi (And.intro hz0 (And.intro hz1 hz2)))
  clear hi hz0 hz1 hz2
  obtain ⟨i1, hi, hz0, hz1, hz2⟩ := info_parts infoPlace
  have HP := Lib.hid (And.intro hi (And.intro hz0 (And.intro hz1 hz2)))
  clear hi hz0 hz1 hz2
  have HR := Lib.hid h
  obtain ⟨A, c, hb, hrow⟩ := h.at_
  obtain ⟨a, rfl⟩ := hrow.some_ (by have := h.ok.size1; omega)
  have cc0 := hb.cell 0
  have cc1 := hb.cell 1
  have cc3 := hb.cell 3
  simp only [List.getElem?_toArray, List.getElem?_cons_succ, List.getElem?_cons_zero] at cc0 cc1 cc3
  obtain ⟨n, hn⟩ : ∃ n, n = s.size := ⟨_, rfl⟩
  have hn1 : 1 ≤ n := by rw [hn]; exact h.ok.size1
  have hn2 : n ≤ 32 := by rw [hn]; exact h.ok.size2
  rw [← hn] at cc0 cc3 hrow
  have HN := Lib.hid hn
  obtain ⟨wt, hwt⟩ : ∃ wt, wt = s.wait := ⟨_, rfl⟩
  rw [← hwt] at cc1
  have HWT := Lib.hid hwt
  obtain ⟨nw, hnw⟩ : ∃ nw, nw = nowN now := ⟨_, rfl⟩
  have hnwl : nw ≤ 1125899906842624 := by rw [hnw]; exact nowN_le now
  have HNOW := Lib.hid (rnow_any now w)
  rw [← hnw] at HNOW
  have HNW := Lib.hid hnw
  have hrl := h.lt
  have HF := Lib.hid (hb.frozen 3)
  -- the copy of the row
  obtain ⟨A1, c1', w1, hrun, hown, hch, hat⟩ := (OwnS.lit w w.heap.size (Nat.le_refl _) 66 3 0 [] rfl (by decide)).append (P := Tryd.prog) 43 43 43 i1 _ 24 Tryd.underlying43 HP.out.1 HP.out.2.1 HP.out.2.2.1 HP.out.2.2.2 rfl
    (.slice (some a) n c) n (plR s.f n) (Src.ofSlice _ Tryd.underlying43 a n c _ (plR_len _ _) (fun j u hu => ((Chg.refl [] w).alloc _).cell_some (hrow.reads j u (by rw [hn] at hu ⊢; exact hu)) (by simp)) (plR_one _ _)) (by simp only [maxLen]; omega) (by omega) (by simp)
  rw [List.nil_append, Nat.zero_add] at hown
  rw [Nat.zero_add] at hrun
  obtain ⟨g1, rfl⟩ : ∃ g1, A1 = some ⟨g1, 0, none⟩ := by
    rcases hat with h | h <;> exact ⟨_, h⟩
  have hcw : Chg [] w w1 := ((Chg.refl [] w).alloc (.cells #[] 66)).then_ hch (fun b hb => by simp [sB] at hb; subst hb; exact .inr (Nat.le_refl _))
  have HW1 := Lib.hid (And.intro hown hcw)
  obtain ⟨c1, hc1⟩ : ∃ c1, c1 = c1' := ⟨_, rfl⟩
  rw [← hc1] at HW1 hrun
  clear hown hcw hch hat hb hrow hn hwt hnw h hc1
  go_enter Tryd.func16, Tryd.ntmps16
  go_wp2_with fail
  refine HNOW.out.mono ?_
  rintro e w' ⟨rfl, rfl⟩
  go_wp2_with (at_builtin; refine wpList_appR (by rfl) _ _ _ _ (by rfl) _ _ _ _ (by rfl) (by rfl) hrun ?_)
  clear hrun
  go_loopw [9, 7] (fun i s7 wr => ∃ (k : Nat) (B : Option Addr) (bc bn : Nat), k ≤ n ∧ k ≤ hv.toNat ∧ i = .int .i64 k ∧ s7 = .slice B bn bc ∧ bn ≤ k ∧ Hid (bn = (sentL s nw k).length ∧ OwnS wr w.heap.size 3 1 B bn bc ((sentL s nw k).map encN) ∧ OwnS wr w.heap.size 66 3 (some ⟨g1, 0, none⟩) n c1 (plR (sentF s nw k) n) ∧ Chg [] w wr)) (fun i _ _ => n - (intOf i).toNat)
  case atStart => exact ⟨0, none, 0, 0, Nat.zero_le _, Nat.zero_le _, rfl, rfl, Nat.le_refl _, Lib.hid ⟨rfl, OwnS.nil _ _ _ _, by rw [sentF_zero]; exact HW1.out.1, HW1.out.2⟩⟩
  case round =>
    obtain ⟨k, B, bc, bn, hk, hk2, rfl, rfl, hbk, H⟩ := hrel
    have z0 := H.out.2.2.2.cell_some cc0 (by simp)
    have z1 := H.out.2.2.2.cell_some cc1 (by simp)
    have z3 := H.out.2.2.2.cell_some cc3 (by simp)
    have zf := (Chg.frozen (p := ⟨rp, 3, none⟩) H.out.2.2.2 hrl (by simp)).trans (HF.out)
    by_cases hge : hv ≤ (k : Int)
    · have t1 : decide ((k : Int) < hv) = false := decide_eq_false (by omega)
      have hK0 : k = n ∨ hv ≤ (k : Int) := .inr hge
      go_wp2
      have hK : sendK s hv = k := by unfold sendK; rw [← HN.out]; omega
      go_ret
      obtain ⟨h1, h2, h3, h4⟩ := H.out
      have e1 : s.sends hv now = sentL s nw k := by unfold WS.sends; rw [hK, HNW.out]
      have e2 : s.send hv now = { s with f := sentF s nw k } := by unfold WS.send; rw [hK, HNW.out]
      rw [e1, ← h1]
      have hp := HR.out.put (s' := s.send hv now) rfl rfl (WS.send_ok HR.out.ok hv now) h4 (A' := some ⟨g1, 0, none⟩) (c' := c1) (by rw [e2, ← HN.out]; exact h3.lower HR.out.chg.size) rfl
      rw [← HN.out] at hp
      refine ⟨B, bc, rfl, ?_, hp.1, hp.2⟩
      rw [e1, h1] at *
      exact h2.chg ((Chg.refl [rp] wr).setCell (.inl (by simp)) _) (fun b hb => by have := h2.ge b hb; have := HR.out.lt; simp; omega)
    · have t1 : decide ((k : Int) < hv) = true := decide_eq_true (by omega)
      by_cases hlt : k < n
      · have t2 : decide ((k : Int) < (n : Int)) = true := decide_eq_true (by omega)
        have x0 := H.out.2.2.1.reads0 _ _ (plR_0 (sentF s nw k) (i := k) hlt)
        have x1 := H.out.2.2.1.reads0 _ _ (plR_1 (sentF s nw k) (i := k) hlt)
        have x2 := H.out.2.2.1.reads0 _ _ (plR_2 (sentF s nw k) (i := k) hlt)
        rw [sentF_at] at x0 x1 x2
        obtain ⟨a, ha⟩ : ∃ a, a = (s.f k).1 := ⟨_, rfl⟩
        obtain ⟨b, hb⟩ : ∃ b, b = (s.f k).2 := ⟨_, rfl⟩
        rw [← ha] at x0 x1
        rw [← hb] at x2
        have hal : a ≤ 1125899906842625 := by rw [ha]; exact HR.out.ok.sent k
        have hdue : due s.wait nw (s.f k) = (!b && !(decide (0 < a) && decide ((nw : Int) - ((a : Int) - 1) < wt))) := by rw [hb, ha, HWT.out]; rfl
        have HD := Lib.hid hdue
        have i1 : (0 : Int) ≤ (k : Int) := by omega
        have i2 : (k : Int) < (n : Int) := by omega
        clear ha hb hdue
        cases b with
        | true =>
          have HNO : Hid (due s.wait nw (s.f k) = false) := Lib.hid (by rw [HD.out]; rfl)
          go_wp2_with fail
          go_quiet (fail)
          go_wp2
          go_roundw
          case rel =>
            refine ⟨k + 1, B, bc, bn, by omega, by omega, by go_num, rfl, by omega, Lib.hid ⟨?_, ?_, ?_, ?_⟩⟩
            · rw [sentL_succ, HNO.out]; simpa using H.out.1
            · rw [sentL_succ, HNO.out]; simpa using H.out.2.1.chg0 ((Chg.refl [] wr).drewN nq)
            · rw [sentF_no _ _ _ HNO.out]; exact H.out.2.2.1.chg0 ((Chg.refl [] wr).drewN nq)
            · exact H.out.2.2.2.drewN nq
          case measure => simp [intOf]; omega
        | false =>
          by_cases h0 : 0 < a
          · have t3 : decide (0 < a) = true := decide_eq_true h0
            rw [t3] at x0
            obtain ⟨X, hX⟩ : ∃ X : Nat, X = a - 1 := ⟨_, rfl⟩
            rw [← hX] at x1
            obtain ⟨D, hD⟩ : ∃ D : Int, D = (nw : Int) - (X : Int) := ⟨_, rfl⟩
            have v2 : ∀ q : IntKind, q = .i64 → q.wrap ((nw : Int) - (X : Int)) = D := fun q hq => by rw [hq, hD]; exact IntWalk.i64_in _ (by omega)
            have hDD : decide ((nw : Int) - ((a : Int) - 1) < wt) = decide (D < wt) := by rw [hD, hX]; congr 2; omega
            rw [hDD] at HD
            clear hX hD hDD
            by_cases hd : D < wt
            · have t4 : decide (D < wt) = true := decide_eq_true hd
              have HNO : Hid (due s.wait nw (s.f k) = false) := Lib.hid (by rw [HD.out, t4, t3]; rfl)
              go_wp2_with fail
              go_quiet (fail)
              go_wp2
              go_roundw
              case rel =>
                refine ⟨k + 1, B, bc, bn, by omega, by omega, by go_num, rfl, by omega, Lib.hid ⟨?_, ?_, ?_, ?_⟩⟩
                · rw [sentL_succ, HNO.out]; simpa using H.out.1
                · rw [sentL_succ, HNO.out]; simpa using H.out.2.1.chg0 ((Chg.refl [] wr).drewN nq)
                · rw [sentF_no _ _ _ HNO.out]; exact H.out.2.2.1.chg0 ((Chg.refl [] wr).drewN nq)
                · exact H.out.2.2.2.drewN nq
              case measure => simp [intOf]; omega
            · have t4 : decide (D < wt) = false := decide_eq_false hd
              have HYES : Hid (due s.wait nw (s.f k) = true) := Lib.hid (by rw [HD.out, t4]; simp)
              go_wp2_with fail
              go_quiet (fail)
              have y3 := H.out.2.2.1.frozen0 (k * 3)
              have y4 := H.out.2.2.1.frozen0 (k * 3 + 1)
              go_upto_region 9 with fail
              have hl1 := ((H.out.2.2.1.chg0 ((Chg.refl [] wr).drewN nq)).set0 (k * 3) (.bool true)).set0 (k * 3 + 1) (.int .i64 (nw : Nat))
              rw [plR_sent _ hlt] at hl1
              have hyy : updP (sentF s nw k) k (nw + 1, (sentF s nw k k).2) = sentF s nw (k + 1) := (sentF_yes s nw k HYES.out).symm
              rw [hyy] at hl1
              have hch : Chg [g1] (wr.drewN nq) (((wr.drewN nq).setCell ⟨g1, k * 3, none⟩ (.bool true)).setCell ⟨g1, k * 3 + 1, none⟩ (.int .i64 (nw : Nat))) :=
                ((Chg.refl _ _).setCell (.inl (by simp)) _).setCell (.inl (by simp)) _
              generalize ((wr.drewN nq).setCell ⟨g1, k * 3, none⟩ (.bool true)).setCell ⟨g1, k * 3 + 1, none⟩ (.int .i64 (nw : Nat)) = ws at *
              have ho1 : OwnS ws w.heap.size 3 1 B bn bc ((sentL s nw k).map encN) := (H.out.2.1.chg0 ((Chg.refl [] wr).drewN nq)).chg hch (fun b hb => by
                intro hm
                simp at hm
                subst hm
                exact H.out.2.2.1.not_type H.out.2.1 (by decide) _ mem_sB hb)
              have hcw : Chg [] w ws := (H.out.2.2.2.drewN nq).then_ hch (fun b hb => by simp at hb; subst hb; exact .inr (H.out.2.2.1.ge _ mem_sB))
              obtain ⟨B2, bc2, w2, hrun, hown, hch2, _⟩ := (ho1.chg0 ((Chg.refl [] ws).alloc (.cells #[.int .i64 (k : Nat)] 3))).append (P := Tryd.prog) 27 27 27 i0 (.int .i64 0) 8 Tryd.underlying27 HI.out.1 HI.out.2.1 HI.out.2.2.1 HI.out.2.2.2 rfl
                (.slice (some ⟨ws.heap.size, 0, none⟩) 1 1) 1 [.int .i64 (k : Nat)] (Src.ofSlice _ Tryd.underlying27 _ 1 1 _ rfl (cell_one_new _ _ _) (by simp [Value.oneCell'])) (by simp only [maxLen]; omega) (by omega) (by have := hcw.size; simp; omega)
              have hl2 := (hl1.chg0 ((Chg.refl [] ws).alloc (.cells #[.int .i64 (k : Nat)] 3))).chg hch2 (fun b hb hm => hl1.not_type ho1 (by decide) b hb hm)
              have H2 := Lib.hid (And.intro hown (And.intro hl2 ((hcw.alloc (.cells #[.int .i64 (k : Nat)] 3)).then_ hch2 (fun b hb => .inr (ho1.ge b hb)))))
              have HRUN := Lib.hid hrun
              clear hl1 hyy hch ho1 hcw hown hch2 hl2 y3 y4 hrun
              have hrun := HRUN.out
              go_wp2_with (at_builtin; refine wpList_appR (by rfl) _ _ _ _ (by rfl) _ _ _ _ (by rfl) (by rfl) hrun ?_)
              go_roundw
              case rel =>
                refine ⟨k + 1, B2, bc2, bn + 1, by omega, by omega, by go_num, rfl, by omega, Lib.hid ⟨?_, ?_, H2.out.2.1, H2.out.2.2⟩⟩
                · rw [sentL_succ, HYES.out, H.out.1]; simp
                · rw [sentL_succ, HYES.out]; simpa [encN] using H2.out.1
              case measure => simp [intOf]; omega
          · have t3 : decide (0 < a) = false := decide_eq_false h0
            rw [t3] at x0
            have HYES : Hid (due s.wait nw (s.f k) = true) := Lib.hid (by rw [HD.out, t3]; rfl)
            go_wp2_with fail
            go_quiet (fail)
            have y3 := H.out.2.2.1.frozen0 (k * 3)
            have y4 := H.out.2.2.1.frozen0 (k * 3 + 1)
            go_upto_region 9 with fail
            have hl1 := ((H.out.2.2.1.chg0 ((Chg.refl [] wr).drewN nq)).set0 (k * 3) (.bool true)).set0 (k * 3 + 1) (.int .i64 (nw : Nat))
            rw [plR_sent _ hlt] at hl1
            have hyy : updP (sentF s nw k) k (nw + 1, (sentF s nw k k).2) = sentF s nw (k + 1) := (sentF_yes s nw k HYES.out).symm
            rw [hyy] at hl1
            have hch : Chg [g1] (wr.drewN nq) (((wr.drewN nq).setCell ⟨g1, k * 3, none⟩ (.bool true)).setCell ⟨g1, k * 3 + 1, none⟩ (.int .i64 (nw : Nat))) :=
              ((Chg.refl _ _).setCell (.inl (by simp)) _).setCell (.inl (by simp)) _
            generalize ((wr.drewN nq).setCell ⟨g1, k * 3, none⟩ (.bool true)).setCell ⟨g1, k * 3 + 1, none⟩ (.int .i64 (nw : Nat)) = ws at *
            have ho1 : OwnS ws w.heap.size 3 1 B bn bc ((sentL s nw k).map encN) := (H.out.2.1.chg0 ((Chg.refl [] wr).drewN nq)).chg hch (fun b hb => by
              intro hm
              simp at hm
              subst hm
              exact H.out.2.2.1.not_type H.out.2.1 (by decide) _ mem_sB hb)
            have hcw : Chg [] w ws := (H.out.2.2.2.drewN nq).then_ hch (fun b hb => by simp at hb; subst hb; exact .inr (H.out.2.2.1.ge _ mem_sB))
            obtain ⟨B2, bc2, w2, hrun, hown, hch2, _⟩ := (ho1.chg0 ((Chg.refl [] ws).alloc (.cells #[.int .i64 (k : Nat)] 3))).append (P := Tryd.prog) 27 27 27 i0 (.int .i64 0) 8 Tryd.underlying27 HI.out.1 HI.out.2.1 HI.out.2.2.1 HI.out.2.2.2 rfl
              (.slice (some ⟨ws.heap.size, 0, none⟩) 1 1) 1 [.int .i64 (k : Nat)] (Src.ofSlice _ Tryd.underlying27 _ 1 1 _ rfl (cell_one_new _ _ _) (by simp [Value.oneCell'])) (by simp only [maxLen]; omega) (by omega) (by have := hcw.size; simp; omega)
            have hl2 := (hl1.chg0 ((Chg.refl [] ws).alloc (.cells #[.int .i64 (k : Nat)] 3))).chg hch2 (fun b hb hm => hl1.not_type ho1 (by decide) b hb hm)
            have H2 := Lib.hid (And.intro hown (And.intro hl2 ((hcw.alloc (.cells #[.int .i64 (k : Nat)] 3)).then_ hch2 (fun b hb => .inr (ho1.ge b hb)))))
            have HRUN := Lib.hid hrun
            clear hl1 hyy hch ho1 hcw hown hch2 hl2 y3 y4 hrun
            have hrun := HRUN.out
            go_wp2_with (at_builtin; refine wpList_appR (by rfl) _ _ _ _ (by rfl) _ _ _ _ (by rfl) (by rfl) hrun ?_)
            go_roundw
            case rel =>
              refine ⟨k + 1, B2, bc2, bn + 1, by omega, by omega, by go_num, rfl, by omega, Lib.hid ⟨?_, ?_, H2.out.2.1, H2.out.2.2⟩⟩
              · rw [sentL_succ, HYES.out, H.out.1]; simp
              · rw [sentL_succ, HYES.out]; simpa [encN] using H2.out.1
            case measure => simp [intOf]; omega
      · have t2 : decide ((k : Int) < (n : Int)) = false := decide_eq_false (by omega)
        have hK0 : k = n ∨ hv ≤ (k : Int) := .inl (by omega)
        go_wp2
        have hK : sendK s hv = k := by unfold sendK; rw [← HN.out]; omega
        go_ret
        obtain ⟨h1, h2, h3, h4⟩ := H.out
        have e1 : s.sends hv now = sentL s nw k := by unfold WS.sends; rw [hK, HNW.out]
        have e2 : s.send hv now = { s with f := sentF s nw k } := by unfold WS.send; rw [hK, HNW.out]
        rw [e1, ← h1]
        have hp := HR.out.put (s' := s.send hv now) rfl rfl (WS.send_ok HR.out.ok hv now) h4 (A' := some ⟨g1, 0, none⟩) (c' := c1) (by rw [e2, ← HN.out]; exact h3.lower HR.out.chg.size) rfl
        rw [← HN.out] at hp
        refine ⟨B, bc, rfl, ?_, hp.1, hp.2⟩
        rw [e1, h1] at *
        exact h2.chg ((Chg.refl [rp] wr).setCell (.inl (by simp)) _) (fun b hb => by have := h2.ge b hb; have := HR.out.lt; simp; omega)
end Go.Proofs.YtapjegjffgjmlaaDoor
