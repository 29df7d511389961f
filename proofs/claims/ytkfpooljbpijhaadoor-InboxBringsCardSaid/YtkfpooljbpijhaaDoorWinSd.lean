/- Package window: Send. -/
import Derived.Test.YtkfpooljbpijhaaDoorWinOp
import Derived.Test.YtkfpooljbpijhaaDoorLOwn
import Derived.WalkMore
import Derived.IntWalk
import Derived.Deep.DeepCutAuto
import Derived.Deep.LoopGhost
set_option linter.unusedVariables false
set_option linter.unusedSimpArgs false
namespace Go.Proofs.YtkfpooljbpijhaaDoor
open Go.RowKit

theorem infoInt : (Tryd.prog.info? 3).map (fun i => (i.zero, i.size, i.bytes)) = some (some (.int .i64 0), 1, 8) := by kernel_rfl
def nowN (t : Int) : Nat := (min (max t 0) 1125899906842624).toNat
theorem nowN_le (t : Int) : nowN t ≤ 1125899906842624 := by unfold nowN; omega
/-- Is a place to be sent? -/
def due (wait now : Nat) (x : Nat × Bool) : Bool := !x.2 && !(decide (0 < x.1) && decide ((now : Int) - ((x.1 : Int) - 1) < wait))
def sentL (s : WS) (now k : Nat) : List Nat := (List.range k).filter fun i => due s.wait now (s.f i)
def sentF (s : WS) (now k : Nat) : Nat → Nat × Bool := fun i => if i < k ∧ due s.wait now (s.f i) = true then (now + 1, (s.f i).2) else s.f i
theorem sentL_succ (s : WS) (now k : Nat) : sentL s now (k + 1) = sentL s now k ++ if due s.wait now (s.f k) = true then [k] else [] := by
  unfold sentL
  rw [List.range_succ, List.filter_append]
  congr 1
  by_cases h : due s.wait now (s.f k) = true
  · simp [h]
  · simp [h]
theorem sentL_le (s : WS) (now k : Nat) : (sentL s now k).length ≤ k := by
  unfold sentL
  have := List.length_filter_le (fun i => due s.wait now (s.f i)) (List.range k)
  simpa using this
theorem sentF_zero (s : WS) (now : Nat) : sentF s now 0 = s.f := by funext i; unfold sentF; rw [if_neg (by omega)]
theorem sentF_at (s : WS) (now k : Nat) : sentF s now k k = s.f k := by unfold sentF; rw [if_neg (by omega)]
theorem sentF_yes (s : WS) (now k : Nat) (h : due s.wait now (s.f k) = true) : sentF s now (k + 1) = updP (sentF s now k) k (now + 1, (sentF s now k k).2) := by
  funext i
  unfold updP
  rw [sentF_at]
  by_cases e : i = k
  · subst e; rw [if_pos rfl]; unfold sentF; rw [if_pos ⟨by omega, h⟩]
  · rw [if_neg e]; unfold sentF
    by_cases h2 : i < k ∧ due s.wait now (s.f i) = true
    · rw [if_pos h2, if_pos ⟨by omega, h2.2⟩]
    · rw [if_neg h2, if_neg (fun h3 => h2 ⟨by omega, h3.2⟩)]
theorem sentF_no (s : WS) (now k : Nat) (h : due s.wait now (s.f k) = false) : sentF s now (k + 1) = sentF s now k := by
  funext i
  unfold sentF
  by_cases h2 : i < k ∧ due s.wait now (s.f i) = true
  · rw [if_pos h2, if_pos ⟨by omega, h2.2⟩]
  · rw [if_neg h2, if_neg]
    rintro ⟨h3, h4⟩
    by_cases e : i = k
    · subst e; rw [h] at h4; cases h4
    · exact h2 ⟨by omega, h4⟩
def sendK (s : WS) (have_ : Int) : Nat := (min have_.toNat s.size)
def WS.send (s : WS) (have_ now : Int) : WS := { s with f := sentF s (nowN now) (sendK s have_) }
def WS.sends (s : WS) (have_ now : Int) : List Nat := sentL s (nowN now) (sendK s have_)
theorem WS.send_ok {s : WS} (h : s.Ok) (have_ now : Int) : (s.send have_ now).Ok where
  size1 := h.size1
  size2 := h.size2
  wait1 := h.wait1
  wait2 := h.wait2
  base0 := h.base0
  base1 := h.base1
  sent := fun i => by
    show (sentF s (nowN now) (sendK s have_) i).1 ≤ _
    have := nowN_le now
    unfold sentF
    split
    · simp only; omega
    · exact h.sent i
  far := fun i hi => by
    show sentF s (nowN now) (sendK s have_) i = _
    unfold sentF sendK
    rw [if_neg (by have : s.size ≤ i := hi; omega)]
    exact h.far i hi
def encN (k : Nat) : Value := .int .i64 (k : Int)
theorem news_set (w : World) (q : Addr) (v x : Value) (t : TypeId) : ∀ j u, [x][j]? = some u → ((w.setCell q v).alloc (.cells #[x] t)).cell? ((⟨w.heap.size, 0, none⟩ : Addr).add j) = some u := by
  have := cell_one_new (w.setCell q v) x t
  rwa [World.size_setCell] at this
theorem min_max_now (t : Int) : min (max t 0) 1125899906842624 = ((nowN t : Nat) : Int) := by unfold nowN; omega

set_option maxRecDepth 100000 in
set_option maxHeartbeats 8000000 in
theorem send_win {w : World} {p : Nat} {s : WS} (h : WinAt w p s) (hok : s.Ok) (hv now : Int) : Calls Tryd.prog 7 #[.pointer (some ⟨p, 0, none⟩), .int .i64 hv, .int .i64 now] w fun e w' =>
    ∃ A c, e = .returned (.slice A (s.sends hv now).length c) ∧ w'.ownsRow w.heap.size 3 1 (.slice A (s.sends hv now).length c) (s.sends hv now).length ((s.sends hv now).map encN) ∧ WinAt w' p (s.send hv now) ∧ Chg [p] w w' := by
  obtain ⟨i0, hi, hz0, hz1, hz2⟩ := info_parts infoInt
  have HI := Lib.hid (And.intro hi (And.intro hz0 (And.intro hz1 hz2)))
  clear hi hz0 hz1 hz2
  have HM := Lib.hid (made_win h hok.size1)
  have H := Lib.hid h
  have HOK := Lib.hid hok
  have c0 := h.c0
  obtain ⟨n, hn⟩ : ∃ n, n = s.size := ⟨_, rfl⟩
  rw [← hn] at c0
  have hn2 : n ≤ 32 := by rw [hn]; exact hok.size2
  have hn1 : (0 : Int) ≤ (n : Int) := by omega
  have hn3 : (n : Int) ≤ 32 := by omega
  have HN := Lib.hid hn
  obtain ⟨nw, hnw⟩ : ∃ nw, nw = nowN now := ⟨_, rfl⟩
  have hnwl : nw ≤ 1125899906842624 := by rw [hnw]; exact nowN_le now
  have hmm := min_max_now now
  rw [← hnw] at hmm
  have HMM := Lib.hid hmm
  clear hmm
  have HNW := Lib.hid hnw
  have hplt := h.lt
  clear h hok hn hnw
  go_enter Tryd.func7, Tryd.ntmps7
  go_wp2
  go_step3
  go_wp2_with fail
  refine HM.out.mono ?_
  rintro e w1 ⟨rfl, rfl⟩
  go_upto_region 3 with fail
  go_cut [2] (fun s2 wx => s2 = .int .i64 nw ∧ w = wx)
  case first =>
    go_wp2_with fail
    all_goals
      go_meet
      exact ⟨by congr 1; have := HMM.out; omega, rfl⟩
  case rest =>
  obtain ⟨rfl, rfl⟩ := hcut
  go_wp2_with fail
  go_step3
  go_wp2_with fail
  go_quiet (fail)
  go_wp2_with fail
  go_loopw [25, 7] (fun i v wr => ∃ (k : Nat) (A : Option Addr) (C sl : Nat), k ≤ n ∧ k ≤ hv.toNat ∧ i = .int .i64 k ∧ v = .slice A sl C ∧ sl = (sentL s nw k).length ∧ wr.ownsRow w.heap.size 3 1 (.slice A sl C) sl ((sentL s nw k).map encN) ∧ WinAt wr p { s with f := sentF s nw k } ∧ Chg [p] w wr) (fun i _ _ => n - (intOf i).toNat)
  case atStart =>
    have HB : WinAt w p { s with f := sentF s nw 0 } := by rw [sentF_zero]; exact H.out
    exact ⟨0, none, 0, 0, Nat.zero_le _, Nat.zero_le _, rfl, rfl, rfl, World.ownsRow_nil _ _ _ _, HB.chg ((Chg.refl [] w).drewN _) (by simp), (Chg.refl [p] w).drewN _⟩
  case round =>
    obtain ⟨k, A, C, sl, hk, hk2, rfl, rfl, hsl, hrow, hwin, hcg⟩ := hrel
    have hsl2 : sl ≤ 32 := by rw [hsl]; have := sentL_le s nw k; omega
    have HSL := Lib.hid hsl
    have HROW := Lib.hid hrow
    have HWIN := Lib.hid hwin
    have HCG := Lib.hid hcg
    by_cases hlt : k < n
    · by_cases hge : hv ≤ (k : Int)
      · have hK : sendK s hv = k := by unfold sendK; rw [← HN.out]; omega
        have HK := Lib.hid hK
        have t1 : decide (hv ≤ (k : Int)) = true := decide_eq_true hge
        clear hrow hwin hcg hsl hK
        go_wp2
        try rw [Exit.noGoto_ret]
        go_ret
        have e1 : s.sends hv now = sentL s nw k := by unfold WS.sends; rw [HK.out, HNW.out]
        have e2 : s.send hv now = { s with f := sentF s nw k } := by unfold WS.send; rw [HK.out, HNW.out]
        rw [e1, e2, ← HSL.out]
        exact ⟨A, C, rfl, HROW.out, HWIN.out, HCG.out⟩
      · have t1 : decide (hv ≤ (k : Int)) = false := decide_eq_false hge
        have x0 := hwin.sent (i := k) (by omega)
        have x1 := hwin.there (i := k) (by omega)
        have x2 := hwin.c1
        have x3 := hwin.fr (3 + k * 2)
        simp only [sentF_at] at x0 x1
        obtain ⟨a, ha⟩ : ∃ a, a = (s.f k).1 := ⟨_, rfl⟩
        obtain ⟨b, hb⟩ : ∃ b, b = (s.f k).2 := ⟨_, rfl⟩
        obtain ⟨wt, hwt⟩ : ∃ wt, wt = s.wait := ⟨_, rfl⟩
        rw [← ha] at x0
        rw [← hb] at x1
        rw [← hwt] at x2
        have hal : a ≤ 1125899906842625 := by rw [ha]; exact HOK.out.sent k
        have hdue : due s.wait nw (s.f k) = (!b && !(decide (0 < a) && decide ((nw : Int) - ((a : Int) - 1) < wt))) := by rw [hb, ha, hwt]; rfl
        have HD := Lib.hid hdue
        have i1 : (0 : Int) ≤ (k : Int) := by omega
        have i2 : (k : Int) < 32 := by omega
        clear hrow hwin hcg hsl ha hb hwt hdue
        cases b with
        | true =>
          have HNO : Hid (due s.wait nw (s.f k) = false) := Lib.hid (by rw [HD.out]; rfl)
          go_wp2
          go_roundw
          case rel =>
            refine ⟨k + 1, A, C, sl, by omega, by omega, by go_num, rfl, ?_, ?_, ?_, ?_⟩
            · rw [HSL.out, sentL_succ, HNO.out]; simp
            · rw [sentL_succ, HNO.out]; simpa using HROW.out
            · rw [sentF_no _ _ _ HNO.out]; exact HWIN.out
            · exact HCG.out
          case measure => simp [intOf]; omega
        | false =>
          by_cases h0 : 0 < a
          · have t2 : decide (0 < a) = true := decide_eq_true h0
            have t3 : decide ((0 : Int) < (a : Int)) = true := decide_eq_true (by omega)
            obtain ⟨X, hX⟩ : ∃ X : Int, X = (a : Int) - 1 := ⟨_, rfl⟩
            obtain ⟨D, hD⟩ : ∃ D : Int, D = (nw : Int) - X := ⟨_, rfl⟩
            have v1 : ∀ q : IntKind, q = .i64 → q.wrap ((a : Int) - 1) = X := fun q hq => by rw [hq, hX]; exact IntWalk.i64_in _ (by omega)
            have v2 : ∀ q : IntKind, q = .i64 → q.wrap ((nw : Int) - X) = D := fun q hq => by rw [hq, hD]; exact IntWalk.i64_in _ (by omega)
            have hDD : decide ((nw : Int) - ((a : Int) - 1) < wt) = decide (D < wt) := by rw [hD, hX]
            rw [hDD] at HD
            clear hX hD hDD
            by_cases hd : D < wt
            · have t4 : decide (D < wt) = true := decide_eq_true hd
              have HNO : Hid (due s.wait nw (s.f k) = false) := Lib.hid (by rw [HD.out, t4, t2]; rfl)
              go_wp2_with fail
              go_quiet (fail)
              have HROW2 := Lib.hid (o_chg0 HROW.out ((Chg.refl [] wr).drewN nq))
              have HWIN2 := Lib.hid (HWIN.out.chg ((Chg.refl [] wr).drewN nq) (by simp))
              have HCG2 := Lib.hid (HCG.out.drewN nq)
              clear HROW HWIN HCG
              generalize wr.drewN nq = wq at *
              have HROW := HROW2
              have HWIN := HWIN2
              have HCG := HCG2
              clear HROW2 HWIN2 HCG2
              have hsz : w.heap.size ≤ wq.heap.size := HCG.out.size
              go_wp2
              go_roundw
              case rel =>
                refine ⟨k + 1, A, C, sl, by omega, by omega, by go_num, rfl, ?_, ?_, ?_, ?_⟩
                · rw [HSL.out, sentL_succ, HNO.out]; simp
                · rw [sentL_succ, HNO.out]; simpa using HROW.out
                · rw [sentF_no _ _ _ HNO.out]; exact HWIN.out
                · exact HCG.out
              case measure => simp [intOf]; omega
            · have t4 : decide (D < wt) = false := decide_eq_false hd
              have HYES : Hid (due s.wait nw (s.f k) = true) := Lib.hid (by rw [HD.out, t4]; simp)
              go_wp2_with fail
              go_quiet (fail)
              have HROW2 := Lib.hid (o_chg0 HROW.out ((Chg.refl [] wr).drewN nq))
              have HWIN2 := Lib.hid (HWIN.out.chg ((Chg.refl [] wr).drewN nq) (by simp))
              have HCG2 := Lib.hid (HCG.out.drewN nq)
              clear HROW HWIN HCG
              generalize wr.drewN nq = wq at *
              have HROW := HROW2
              have HWIN := HWIN2
              have HCG := HCG2
              clear HROW2 HWIN2 HCG2
              have hsz : w.heap.size ≤ wq.heap.size := HCG.out.size
              have y0 := HWIN.out.sent (i := k) (by omega)
              have y3 := HWIN.out.fr (3 + k * 2)
              simp only [sentF_at] at y0
              go_wp2_with (at_builtin; refine wpList_append_own _ (by rfl) _ _ 30 (by rfl) w.heap.size 3 i0 (.int .i64 0) 1 8 Tryd.underlying30 HI.out.1 HI.out.2.1 HI.out.2.2.1 HI.out.2.2.2 rfl (by decide) (.slice A sl C) sl ((sentL s nw k).map encN) (by rfl) ((o_below HROW.out ((Chg.refl [p] wq).setCell (p := ⟨p, 3 + k * 2, none⟩) (.inl (by simp)) _) (by simp; omega)).alloc _) ⟨wq.heap.size, 0, none⟩ 1 1 [.int .i64 (k : Nat)] (by rfl) (by rfl) (news_set _ _ _ _ _) (by simp [Value.oneCell']) (by simp only [maxLen]; omega) (by omega) (by simp; omega) ?_; intro v1 w2 hown hgrow _)
              have hw3 : WinAt (wq.setCell ⟨p, 3 + k * 2, none⟩ (.int .i64 ((nw : Int) + 1))) p { s with f := sentF s nw (k + 1) } := by
                rw [sentF_yes _ _ _ HYES.out, show ((nw : Int) + 1) = ((nw + 1 : Nat) : Int) from by omega]
                exact HWIN.out.setSent k (nw + 1)
              have hpo : some p ≠ (Value.slice A sl C).ownBlock := fun e => by have := o_ge HROW.out p e.symm; omega
              have hw4 : WinAt w2 p { s with f := sentF s nw (k + 1) } := Blk.eq_of (Blk.alloc hw3 _) (hgrow.block p (by simp; omega) hpo)
              have hc4 : Chg [p] w w2 := ((HCG.out.setCell (p := ⟨p, 3 + k * 2, none⟩) (.inl (by simp)) _).alloc _).grown hgrow (fun g hg => .inr (o_ge HROW.out g hg))
              obtain ⟨A2, C2, rfl⟩ := o_form hown
              have H4 := Lib.hid (And.intro hown (And.intro hw4 hc4))
              clear hown hgrow hw3 hpo hw4 hc4
              go_wp2
              go_roundw
              case rel =>
                refine ⟨k + 1, A2, C2, sl + 1, by omega, by omega, by go_num, rfl, ?_, ?_, H4.out.2.1, H4.out.2.2⟩
                · rw [HSL.out, sentL_succ, HYES.out]; simp
                · rw [sentL_succ, HYES.out]; simpa [encN] using H4.out.1
              case measure => simp [intOf]; omega
          · have t2 : decide (0 < a) = false := decide_eq_false h0
            have t3 : decide ((0 : Int) < (a : Int)) = false := decide_eq_false (by omega)
            have HYES : Hid (due s.wait nw (s.f k) = true) := Lib.hid (by rw [HD.out, t2]; rfl)
            go_wp2_with fail
            go_quiet (fail)
            have HROW2 := Lib.hid (o_chg0 HROW.out ((Chg.refl [] wr).drewN nq))
            have HWIN2 := Lib.hid (HWIN.out.chg ((Chg.refl [] wr).drewN nq) (by simp))
            have HCG2 := Lib.hid (HCG.out.drewN nq)
            clear HROW HWIN HCG
            generalize wr.drewN nq = wq at *
            have HROW := HROW2
            have HWIN := HWIN2
            have HCG := HCG2
            clear HROW2 HWIN2 HCG2
            have hsz : w.heap.size ≤ wq.heap.size := HCG.out.size
            have y0 := HWIN.out.sent (i := k) (by omega)
            have y3 := HWIN.out.fr (3 + k * 2)
            simp only [sentF_at] at y0
            go_wp2_with (at_builtin; refine wpList_append_own _ (by rfl) _ _ 30 (by rfl) w.heap.size 3 i0 (.int .i64 0) 1 8 Tryd.underlying30 HI.out.1 HI.out.2.1 HI.out.2.2.1 HI.out.2.2.2 rfl (by decide) (.slice A sl C) sl ((sentL s nw k).map encN) (by rfl) ((o_below HROW.out ((Chg.refl [p] wq).setCell (p := ⟨p, 3 + k * 2, none⟩) (.inl (by simp)) _) (by simp; omega)).alloc _) ⟨wq.heap.size, 0, none⟩ 1 1 [.int .i64 (k : Nat)] (by rfl) (by rfl) (news_set _ _ _ _ _) (by simp [Value.oneCell']) (by simp only [maxLen]; omega) (by omega) (by simp; omega) ?_; intro v1 w2 hown hgrow _)
            have hw3 : WinAt (wq.setCell ⟨p, 3 + k * 2, none⟩ (.int .i64 ((nw : Int) + 1))) p { s with f := sentF s nw (k + 1) } := by
              rw [sentF_yes _ _ _ HYES.out, show ((nw : Int) + 1) = ((nw + 1 : Nat) : Int) from by omega]
              exact HWIN.out.setSent k (nw + 1)
            have hpo : some p ≠ (Value.slice A sl C).ownBlock := fun e => by have := o_ge HROW.out p e.symm; omega
            have hw4 : WinAt w2 p { s with f := sentF s nw (k + 1) } := Blk.eq_of (Blk.alloc hw3 _) (hgrow.block p (by simp; omega) hpo)
            have hc4 : Chg [p] w w2 := ((HCG.out.setCell (p := ⟨p, 3 + k * 2, none⟩) (.inl (by simp)) _).alloc _).grown hgrow (fun g hg => .inr (o_ge HROW.out g hg))
            obtain ⟨A2, C2, rfl⟩ := o_form hown
            have H4 := Lib.hid (And.intro hown (And.intro hw4 hc4))
            clear hown hgrow hw3 hpo hw4 hc4
            go_wp2
            go_roundw
            case rel =>
              refine ⟨k + 1, A2, C2, sl + 1, by omega, by omega, by go_num, rfl, ?_, ?_, H4.out.2.1, H4.out.2.2⟩
              · rw [HSL.out, sentL_succ, HYES.out]; simp
              · rw [sentL_succ, HYES.out]; simpa [encN] using H4.out.1
            case measure => simp [intOf]; omega
    · obtain rfl : k = n := by omega
      have hK : sendK s hv = k := by unfold sendK; rw [← HN.out]; omega
      have HK := Lib.hid hK
      clear hrow hwin hcg hsl hK
      go_wp2
      try rw [Exit.noGoto_ret]
      go_ret
      have e1 : s.sends hv now = sentL s nw k := by unfold WS.sends; rw [HK.out, HNW.out]
      have e2 : s.send hv now = { s with f := sentF s nw k } := by unfold WS.send; rw [HK.out, HNW.out]
      rw [e1, e2, ← HSL.out]
      exact ⟨A, C, rfl, HROW.out, HWIN.out, HCG.out⟩
end Go.Proofs.YtkfpooljbpijhaaDoor
