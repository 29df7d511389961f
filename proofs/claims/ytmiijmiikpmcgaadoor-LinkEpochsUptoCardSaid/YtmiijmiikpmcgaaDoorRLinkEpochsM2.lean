/- Texts joined: WinSd, WinAn, MkPlain, MkTz, MkTzB, LCopyW. -/
import Derived.WalkMore
import Derived.IntWalk
import Derived.Deep.DeepCutAuto
import Derived.Deep.LoopGhost
import Derived.Lib.TrailingZeros
import Derived.Test.YtmiijmiikpmcgaaDoorProg
import Derived.RangeFuncNested
import Derived.RangeFuncBound
import Derived.RangeFuncCalls
import Derived.RangeFuncLeaves
import Derived.Shelf.Abstract
import Derived.Shelf.RegionOpen
import Derived.WalkKit
import Derived.OwnWalkIn
import Derived.TacticsInMore
import Derived.LoopNIn
import Derived.LoopIn
import Derived.Laws.Bits64b
import Derived.Lib.Hide
import Derived.Laws.IdiomCopy
import Derived.Laws.CopyOwn
import Derived.Test.YtmiijmiikpmcgaaDoorRLinkEpochsM1
section
/- Package window: Send. -/
set_option linter.unusedVariables false
set_option linter.unusedSimpArgs false
namespace Go.Proofs.YtmiijmiikpmcgaaDoor
open Go.RowKit

theorem infoInt : (Tryd.prog.info? 3).map (fun i => (i.zero, i.size, i.bytes)) = some (some (.int .i64 0), 1, 8) := by kernel_rfl
def nowN (t : Int) : Nat := (min (max t 0) 1125899906842624).toNat
theorem nowN_le (t : Int) : nowN t ≤ 1125899906842624 := by unfold nowN; omega
/-- Is a place to be sent? -/
def due (wait now : Nat) (x : Nat × Bool) : Bool := !x.2 && !(decide (0 < x.1) && decide ((now : Int) - ((x.1 : Int) - 1) < wait))
def sentL (s : WS) (now k : Nat) : List Nat := (List.range k).filter fun i => due s.wait now (s.f i)
def sentF (s : WS) (now k : Nat) : Nat → Nat × Bool := fun i => if i < k ∧ due s.wait now (s.f i) = true then (now + 1, (s.f i).2) else s.f i
theorem sentL_succ (s : WS) (now k : Nat) : sentL s now (k + 1) = sentL s now k ++ if due s.wait now (s.f k) = true then [k] else [] := by
  unfold sentL
  rw [List.range_succ, List.filter_append]
  congr 1
  by_cases h : due s.wait now (s.f k) = true
  · simp [h]
  · simp [h]
theorem sentL_le (s : WS) (now k : Nat) : (sentL s now k).length ≤ k := by
  unfold sentL
  have := List.length_filter_le (fun i => due s.wait now (s.f i)) (List.range k)
  simpa using this
theorem sentF_zero (s : WS) (now : Nat) : sentF s now 0 = s.f := by funext i; unfold sentF; rw [if_neg (by omega)]
theorem sentF_at (s : WS) (now k : Nat) : sentF s now k k = s.f k := by unfold sentF; rw [if_neg (by omega)]
theorem sentF_yes (s : WS) (now k : Nat) (h : due s.wait now (s.f k) = true) : sentF s now (k + 1) = updP (sentF s now k) k (now + 1, (sentF s now k k).2) := by
  funext i
  unfold updP
  rw [sentF_at]
  by_cases e : i = k
  · subst e; rw [if_pos rfl]; unfold sentF; rw [if_pos ⟨by omega, h⟩]
  · rw [if_neg e]; unfold sentF
    by_cases h2 : i < k ∧ due s.wait now (s.f i) = true
    · rw [if_pos h2, if_pos ⟨by omega, h2.2⟩]
    · rw [if_neg h2, if_neg (fun h3 => h2 ⟨by omega, h3.2⟩)]
theorem sentF_no (s : WS) (now k : Nat) (h : due s.wait now (s.f k) = false) : sentF s now (k + 1) = sentF s now k := by
  funext i
  unfold sentF
  by_cases h2 : i < k ∧ due s.wait now (s.f i) = true
  · rw [if_pos h2, if_pos ⟨by omega, h2.2⟩]
  · rw [if_neg h2, if_neg]
    rintro ⟨h3, h4⟩
    by_cases e : i = k
    · subst e; rw [h] at h4; cases h4
    · exact h2 ⟨by omega, h4⟩
def sendK (s : WS) (have_ : Int) : Nat := (min have_.toNat s.size)
def WS.send (s : WS) (have_ now : Int) : WS := { s with f := sentF s (nowN now) (sendK s have_) }
def WS.sends (s : WS) (have_ now : Int) : List Nat := sentL s (nowN now) (sendK s have_)
theorem WS.send_ok {s : WS} (h : s.Ok) (have_ now : Int) : (s.send have_ now).Ok where
  size1 := h.size1
  size2 := h.size2
  wait1 := h.wait1
  wait2 := h.wait2
  base0 := h.base0
  base1 := h.base1
  sent := fun i => by
    show (sentF s (nowN now) (sendK s have_) i).1 ≤ _
    have := nowN_le now
    unfold sentF
    split
    · simp only; omega
    · exact h.sent i
  far := fun i hi => by
    show sentF s (nowN now) (sendK s have_) i = _
    unfold sentF sendK
    rw [if_neg (by have : s.size ≤ i := hi; omega)]
    exact h.far i hi
def encN (k : Nat) : Value := .int .i64 (k : Int)
theorem news_set (w : World) (q : Addr) (v x : Value) (t : TypeId) : ∀ j u, [x][j]? = some u → ((w.setCell q v).alloc (.cells #[x] t)).cell? ((⟨w.heap.size, 0, none⟩ : Addr).add j) = some u := by
  have := cell_one_new (w.setCell q v) x t
  rwa [World.size_setCell] at this
theorem min_max_now (t : Int) : min (max t 0) 1125899906842624 = ((nowN t : Nat) : Int) := by unfold nowN; omega

set_option maxRecDepth 100000 in
set_option maxHeartbeats 8000000 in
theorem send_win {w : World} {p : Nat} {s : WS} (h : WinAt w p s) (hok : s.Ok) (hv now : Int) : Calls Tryd.prog 22 #[.pointer (some ⟨p, 0, none⟩), .int .i64 hv, .int .i64 now] w fun e w' =>
    ∃ A c, e = .returned (.slice A (s.sends hv now).length c) ∧ w'.ownsRow w.heap.size 3 1 (.slice A (s.sends hv now).length c) (s.sends hv now).length ((s.sends hv now).map encN) ∧ WinAt w' p (s.send hv now) ∧ Chg [p] w w' := by
  obtain ⟨i0, hi, hz0, hz1, hz2⟩ := info_parts infoInt
  have HI := Lib.hid (And.intro hi (And.intro hz0 (And.intro hz1 hz2)))
  clear hi hz0 hz1 hz2
  have HM := Lib.hid (made_win h hok.size1)
  have H := Lib.hid h
  have HOK := Lib.hid hok
  have c0 := h.c0
  obtain ⟨n, hn⟩ : ∃ n, n = s.size := ⟨_, rfl⟩
  rw [← hn] at c0
  have hn2 : n ≤ 32 := by rw [hn]; exact hok.size2
  have hn1 : (0 : Int) ≤ (n : Int) := by omega
  have hn3 : (n : Int) ≤ 32 := by omega
  have HN := Lib.hid hn
  obtain ⟨nw, hnw⟩ : ∃ nw, nw = nowN now := ⟨_, rfl⟩
  have hnwl : nw ≤ 1125899906842624 := by rw [hnw]; exact nowN_le now
  have hmm := min_max_now now
  rw [← hnw] at hmm
  have HMM := Lib.hid hmm
  clear hmm
  have HNW := Lib.hid hnw
  have hplt := h.lt
  clear h hok hn hnw
  go_enter Tryd.func22, Tryd.ntmps22
  go_wp2
  go_step3
  go_wp2_with fail
  refine HM.out.mono ?_
  rintro e w1 ⟨rfl, rfl⟩
  go_upto_region 3 with fail
  go_cut [2] (fun s2 wx => s2 = .int .i64 nw ∧ w = wx)
  case first =>
    go_wp2_with fail
    all_goals
      go_meet
      exact ⟨by congr 1; have := HMM.out; omega, rfl⟩
  case rest =>
  obtain ⟨rfl, rfl⟩ := hcut
  go_wp2_with fail
  go_step3
  go_wp2_with fail
  go_quiet (fail)
  go_wp2_with fail
  go_loopw [25, 7] (fun i v wr => ∃ (k : Nat) (A : Option Addr) (C sl : Nat), k ≤ n ∧ k ≤ hv.toNat ∧ i = .int .i64 k ∧ v = .slice A sl C ∧ sl = (sentL s nw k).length ∧ wr.ownsRow w.heap.size 3 1 (.slice A sl C) sl ((sentL s nw k).map encN) ∧ WinAt wr p { s with f := sentF s nw k } ∧ Chg [p] w wr) (fun i _ _ => n - (intOf i).toNat)
  case atStart =>
    have HB : WinAt w p { s with f := sentF s nw 0 } := by rw [sentF_zero]; exact H.out
    exact ⟨0, none, 0, 0, Nat.zero_le _, Nat.zero_le _, rfl, rfl, rfl, World.ownsRow_nil _ _ _ _, HB.chg ((Chg.refl [] w).drewN _) (by simp), (Chg.refl [p] w).drewN _⟩
  case round =>
    obtain ⟨k, A, C, sl, hk, hk2, rfl, rfl, hsl, hrow, hwin, hcg⟩ := hrel
    have hsl2 : sl ≤ 32 := by rw [hsl]; have := sentL_le s nw k; omega
    have HSL := Lib.hid hsl
    have HROW := Lib.hid hrow
    have HWIN := Lib.hid hwin
    have HCG := Lib.hid hcg
    by_cases hlt : k < n
    · by_cases hge : hv ≤ (k : Int)
      · have hK : sendK s hv = k := by unfold sendK; rw [← HN.out]; omega
        have HK := Lib.hid hK
        have t1 : decide (hv ≤ (k : Int)) = true := decide_eq_true hge
        clear hrow hwin hcg hsl hK
        go_wp2
        try rw [Exit.noGoto_ret]
        go_ret
        have e1 : s.sends hv now = sentL s nw k := by unfold WS.sends; rw [HK.out, HNW.out]
        have e2 : s.send hv now = { s with f := sentF s nw k } := by unfold WS.send; rw [HK.out, HNW.out]
        rw [e1, e2, ← HSL.out]
        exact ⟨A, C, rfl, HROW.out, HWIN.out, HCG.out⟩
      · have t1 : decide (hv ≤ (k : Int)) = false := decide_eq_false hge
        have x0 := hwin.sent (i := k) (by omega)
        have x1 := hwin.there (i := k) (by omega)
        have x2 := hwin.c1
        have x3 := hwin.fr (3 + k * 2)
        simp only [sentF_at] at x0 x1
        obtain ⟨a, ha⟩ : ∃ a, a = (s.f k).1 := ⟨_, rfl⟩
        obtain ⟨b, hb⟩ : ∃ b, b = (s.f k).2 := ⟨_, rfl⟩
        obtain ⟨wt, hwt⟩ : ∃ wt, wt = s.wait := ⟨_, rfl⟩
        rw [← ha] at x0
        rw [← hb] at x1
        rw [← hwt] at x2
        have hal : a ≤ 1125899906842625 := by rw [ha]; exact HOK.out.sent k
        have hdue : due s.wait nw (s.f k) = (!b && !(decide (0 < a) && decide ((nw : Int) - ((a : Int) - 1) < wt))) := by rw [hb, ha, hwt]; rfl
        have HD := Lib.hid hdue
        have i1 : (0 : Int) ≤ (k : Int) := by omega
        have i2 : (k : Int) < 32 := by omega
        clear hrow hwin hcg hsl ha hb hwt hdue
        cases b with
        | true =>
          have HNO : Hid (due s.wait nw (s.f k) = false) := Lib.hid (by rw [HD.out]; rfl)
          go_wp2
          go_roundw
          case rel =>
            refine ⟨k + 1, A, C, sl, by omega, by omega, by go_num, rfl, ?_, ?_, ?_, ?_⟩
            · rw [HSL.out, sentL_succ, HNO.out]; simp
            · rw [sentL_succ, HNO.out]; simpa using HROW.out
            · rw [sentF_no _ _ _ HNO.out]; exact HWIN.out
            · exact HCG.out
          case measure => simp [intOf]; omega
        | false =>
          by_cases h0 : 0 < a
          · have t2 : decide (0 < a) = true := decide_eq_true h0
            have t3 : decide ((0 : Int) < (a : Int)) = true := decide_eq_true (by omega)
            obtain ⟨X, hX⟩ : ∃ X : Int, X = (a : Int) - 1 := ⟨_, rfl⟩
            obtain ⟨D, hD⟩ : ∃ D : Int, D = (nw : Int) - X := ⟨_, rfl⟩
            have v1 : ∀ q : IntKind, q = .i64 → q.wrap ((a : Int) - 1) = X := fun q hq => by rw [hq, hX]; exact IntWalk.i64_in _ (by omega)
            have v2 : ∀ q : IntKind, q = .i64 → q.wrap ((nw : Int) - X) = D := fun q hq => by rw [hq, hD]; exact IntWalk.i64_in _ (by omega)
            have hDD : decide ((nw : Int) - ((a : Int) - 1) < wt) = decide (D < wt) := by rw [hD, hX]
            rw [hDD] at HD
            clear hX hD hDD
            by_cases hd : D < wt
            · have t4 : decide (D < wt) = true := decide_eq_true hd
              have HNO : Hid (due s.wait nw (s.f k) = false) := Lib.hid (by rw [HD.out, t4, t2]; rfl)
              go_wp2_with fail
              go_quiet (fail)
              have HROW2 := Lib.hid (o_chg0 HROW.out ((Chg.refl [] wr).drewN nq))
              have HWIN2 := Lib.hid (HWIN.out.chg ((Chg.refl [] wr).drewN nq) (by simp))
              have HCG2 := Lib.hid (HCG.out.drewN nq)
              clear HROW HWIN HCG
              generalize wr.drewN nq = wq at *
              have HROW := HROW2
              have HWIN := HWIN2
              have HCG := HCG2
              clear HROW2 HWIN2 HCG2
              have hsz : w.heap.size ≤ wq.heap.size := HCG.out.size
              go_wp2
              go_roundw
              case rel =>
                refine ⟨k + 1, A, C, sl, by omega, by omega, by go_num, rfl, ?_, ?_, ?_, ?_⟩
                · rw [HSL.out, sentL_succ, HNO.out]; simp
                · rw [sentL_succ, HNO.out]; simpa using HROW.out
                · rw [sentF_no _ _ _ HNO.out]; exact HWIN.out
                · exact HCG.out
              case measure => simp [intOf]; omega
            · have t4 : decide (D < wt) = false := decide_eq_false hd
              have HYES : Hid (due s.wait nw (s.f k) = true) := Lib.hid (by rw [HD.out, t4]; simp)
              go_wp2_with fail
              go_quiet (fail)
              have HROW2 := Lib.hid (o_chg0 HROW.out ((Chg.refl [] wr).drewN nq))
              have HWIN2 := Lib.hid (HWIN.out.chg ((Chg.refl [] wr).drewN nq) (by simp))
              have HCG2 := Lib.hid (HCG.out.drewN nq)
              clear HROW HWIN HCG
              generalize wr.drewN nq = wq at *
              have HROW := HROW2
              have HWIN := HWIN2
              have HCG := HCG2
              clear HROW2 HWIN2 HCG2
              have hsz : w.heap.size ≤ wq.heap.size := HCG.out.size
              have y0 := HWIN.out.sent (i := k) (by omega)
              have y3 := HWIN.out.fr (3 + k * 2)
              simp only [sentF_at] at y0
              go_wp2_with (at_builtin; refine wpList_append_own _ (by rfl) _ _ 69 (by rfl) w.heap.size 3 i0 (.int .i64 0) 1 8 Tryd.underlying69 HI.out.1 HI.out.2.1 HI.out.2.2.1 HI.out.2.2.2 rfl (by decide) (.slice A sl C) sl ((sentL s nw k).map encN) (by rfl) ((o_below HROW.out ((Chg.refl [p] wq).setCell (p := ⟨p, 3 + k * 2, none⟩) (.inl (by simp)) _) (by simp; omega)).alloc _) ⟨wq.heap.size, 0, none⟩ 1 1 [.int .i64 (k : Nat)] (by rfl) (by rfl) (news_set _ _ _ _ _) (by simp [Value.oneCell']) (by simp only [maxLen]; omega) (by omega) (by simp; omega) ?_; intro v1 w2 hown hgrow _)
              have hw3 : WinAt (wq.setCell ⟨p, 3 + k * 2, none⟩ (.int .i64 ((nw : Int) + 1))) p { s with f := sentF s nw (k + 1) } := by
                rw [sentF_yes _ _ _ HYES.out, show ((nw : Int) + 1) = ((nw + 1 : Nat) : Int) from by omega]
                exact HWIN.out.setSent k (nw + 1)
              have hpo : some p ≠ (Value.slice A sl C).ownBlock := fun e => by have := o_ge HROW.out p e.symm; omega
              have hw4 : WinAt w2 p { s with f := sentF s nw (k + 1) } := Blk.eq_of (Blk.alloc hw3 _) (hgrow.block p (by simp; omega) hpo)
              have hc4 : Chg [p] w w2 := ((HCG.out.setCell (p := ⟨p, 3 + k * 2, none⟩) (.inl (by simp)) _).alloc _).grown hgrow (fun g hg => .inr (o_ge HROW.out g hg))
              obtain ⟨A2, C2, rfl⟩ := o_form hown
              have H4 := Lib.hid (And.intro hown (And.intro hw4 hc4))
              clear hown hgrow hw3 hpo hw4 hc4
              go_wp2
              go_roundw
              case rel =>
                refine ⟨k + 1, A2, C2, sl + 1, by omega, by omega, by go_num, rfl, ?_, ?_, H4.out.2.1, H4.out.2.2⟩
                · rw [HSL.out, sentL_succ, HYES.out]; simp
                · rw [sentL_succ, HYES.out]; simpa [encN] using H4.out.1
              case measure => simp [intOf]; omega
          · have t2 : decide (0 < a) = false := decide_eq_false h0
            have t3 : decide ((0 : Int) < (a : Int)) = false := decide_eq_false (by omega)
            have HYES : Hid (due s.wait nw (s.f k) = true) := Lib.hid (by rw [HD.out, t2]; rfl)
            go_wp2_with fail
            go_quiet (fail)
            have HROW2 := Lib.hid (o_chg0 HROW.out ((Chg.refl [] wr).drewN nq))
            have HWIN2 := Lib.hid (HWIN.out.chg ((Chg.refl [] wr).drewN nq) (by simp))
            have HCG2 := Lib.hid (HCG.out.drewN nq)
            clear HROW HWIN HCG
            generalize wr.drewN nq = wq at *
            have HROW := HROW2
            have HWIN := HWIN2
            have HCG := HCG2
            clear HROW2 HWIN2 HCG2
            have hsz : w.heap.size ≤ wq.heap.size := HCG.out.size
            have y0 := HWIN.out.sent (i := k) (by omega)
            have y3 := HWIN.out.fr (3 + k * 2)
            simp only [sentF_at] at y0
            go_wp2_with (at_builtin; refine wpList_append_own _ (by rfl) _ _ 69 (by rfl) w.heap.size 3 i0 (.int .i64 0) 1 8 Tryd.underlying69 HI.out.1 HI.out.2.1 HI.out.2.2.1 HI.out.2.2.2 rfl (by decide) (.slice A sl C) sl ((sentL s nw k).map encN) (by rfl) ((o_below HROW.out ((Chg.refl [p] wq).setCell (p := ⟨p, 3 + k * 2, none⟩) (.inl (by simp)) _) (by simp; omega)).alloc _) ⟨wq.heap.size, 0, none⟩ 1 1 [.int .i64 (k : Nat)] (by rfl) (by rfl) (news_set _ _ _ _ _) (by simp [Value.oneCell']) (by simp only [maxLen]; omega) (by omega) (by simp; omega) ?_; intro v1 w2 hown hgrow _)
            have hw3 : WinAt (wq.setCell ⟨p, 3 + k * 2, none⟩ (.int .i64 ((nw : Int) + 1))) p { s with f := sentF s nw (k + 1) } := by
              rw [sentF_yes _ _ _ HYES.out, show ((nw : Int) + 1) = ((nw + 1 : Nat) : Int) from by omega]
              exact HWIN.out.setSent k (nw + 1)
            have hpo : some p ≠ (Value.slice A sl C).ownBlock := fun e => by have := o_ge HROW.out p e.symm; omega
            have hw4 : WinAt w2 p { s with f := sentF s nw (k + 1) } := Blk.eq_of (Blk.alloc hw3 _) (hgrow.block p (by simp; omega) hpo)
            have hc4 : Chg [p] w w2 := ((HCG.out.setCell (p := ⟨p, 3 + k * 2, none⟩) (.inl (by simp)) _).alloc _).grown hgrow (fun g hg => .inr (o_ge HROW.out g hg))
            obtain ⟨A2, C2, rfl⟩ := o_form hown
            have H4 := Lib.hid (And.intro hown (And.intro hw4 hc4))
            clear hown hgrow hw3 hpo hw4 hc4
            go_wp2
            go_roundw
            case rel =>
              refine ⟨k + 1, A2, C2, sl + 1, by omega, by omega, by go_num, rfl, ?_, ?_, H4.out.2.1, H4.out.2.2⟩
              · rw [HSL.out, sentL_succ, HYES.out]; simp
              · rw [sentL_succ, HYES.out]; simpa [encN] using H4.out.1
            case measure => simp [intOf]; omega
    · obtain rfl : k = n := by omega
      have hK : sendK s hv = k := by unfold sendK; rw [← HN.out]; omega
      have HK := Lib.hid hK
      clear hrow hwin hcg hsl hK
      go_wp2
      try rw [Exit.noGoto_ret]
      go_ret
      have e1 : s.sends hv now = sentL s nw k := by unfold WS.sends; rw [HK.out, HNW.out]
      have e2 : s.send hv now = { s with f := sentF s nw k } := by unfold WS.send; rw [HK.out, HNW.out]
      rw [e1, e2, ← HSL.out]
      exact ⟨A, C, rfl, HROW.out, HWIN.out, HCG.out⟩
end Go.Proofs.YtmiijmiikpmcgaaDoor
end
section
/- Package window: Ack, where nothing is done. -/
set_option linter.unusedVariables false
set_option linter.unusedSimpArgs false
namespace Go.Proofs.YtmiijmiikpmcgaaDoor
open Go.RowKit

theorem far_le (a b : Int) : -32768 ≤ farZ a b ∧ farZ a b < 32768 := by unfold farZ; omega
set_option maxRecDepth 100000 in
set_option maxHeartbeats 8000000 in
theorem ack_out {w : World} {p : Nat} {s : WS} (h : WinAt w p s) (hok : s.Ok) (num : Int) (m : Nat) (hno : farZ s.base num < 0 ∨ (s.size : Int) < farZ s.base num) :
    Calls Tryd.prog 46 #[.pointer (some ⟨p, 0, none⟩), .int .u16 num, .int .u64 (m : Nat)] w fun e w' => e = .returned (.int .i64 0) ∧ Chg [] w w' := by
  have HM := Lib.hid (fun o => made_win (h.chg ((Chg.refl [] w).alloc o) (by simp)) hok.size1)
  have c0 := h.c0
  have c2 := h.c2
  have hplt := h.lt
  obtain ⟨n, hn⟩ : ∃ n, n = s.size := ⟨_, rfl⟩
  rw [← hn] at c0 hno
  obtain ⟨b, hb⟩ : ∃ b, b = s.base := ⟨_, rfl⟩
  rw [← hb] at c2 hno
  have hfl := far_le b num
  have HF := Lib.hid (fun w => far_any b num w)
  obtain ⟨z, hz⟩ : ∃ z, z = farZ b num := ⟨_, rfl⟩
  rw [← hz] at hno hfl HF
  clear h hok hn hb hz
  by_cases h0 : z < 0
  · have t1 : decide (z < 0) = true := decide_eq_true h0
    clear hno
    go_enter Tryd.func46, Tryd.ntmps46
    go_wp2_with fail
    refine (HM.out _).mono ?_
    rintro e w1 ⟨rfl, rfl⟩
    go_wp2_with fail
    refine (HF.out _).mono ?_
    rintro e w1 ⟨rfl, rfl⟩
    go_wp2_with fail
    go_quiet (fail)
    go_wp2
    go_ret
    exact ⟨rfl, (((Chg.refl [] w).alloc _).alloc _).drewN _⟩
  · have t1 : decide (z < 0) = false := decide_eq_false h0
    have t2 : decide ((n : Int) < z) = true := decide_eq_true (by omega)
    clear hno
    go_enter Tryd.func46, Tryd.ntmps46
    go_wp2_with fail
    refine (HM.out _).mono ?_
    rintro e w1 ⟨rfl, rfl⟩
    go_wp2_with fail
    refine (HF.out _).mono ?_
    rintro e w1 ⟨rfl, rfl⟩
    go_wp2_with fail
    go_quiet (fail)
    go_wp2
    go_ret
    exact ⟨rfl, (((Chg.refl [] w).alloc _).alloc _).drewN _⟩

def ptrW (p : Nat) : Value := .pointer (some ⟨p, 0, none⟩)
set_option maxRecDepth 100000 in
set_option maxHeartbeats 8000000 in
theorem ack_unsent {w : World} {p : Nat} {s : WS} (h : WinAt w p s) (hok : s.Ok) (num : Int) (m n i0 : Nat) (hn : farZ s.base num = (n : Int)) (hns : n ≤ s.size) (hi : i0 < n) (hz : (s.f i0).1 = 0) :
    Calls Tryd.prog 46 #[.pointer (some ⟨p, 0, none⟩), .int .u16 num, .int .u64 (m : Nat)] w fun e w' => e = .returned (.int .i64 0) ∧ Chg [] w w' := by
  have HZ := Lib.hid hz
  clear hz
  have HM := Lib.hid (fun o => made_win (h.chg ((Chg.refl [] w).alloc o) (by simp)) hok.size1)
  have H := Lib.hid h
  have HOK := Lib.hid hok
  have c0 := h.c0
  have c2 := h.c2
  have hplt := h.lt
  have hsz := hok.size2
  obtain ⟨sz, hs⟩ : ∃ sz, sz = s.size := ⟨_, rfl⟩
  rw [← hs] at c0 hns hsz
  obtain ⟨b, hb⟩ : ∃ b, b = s.base := ⟨_, rfl⟩
  rw [← hb] at c2 hn
  have HF := Lib.hid (fun w => far_any b num w)
  rw [hn] at HF
  have HB := Lib.hid (And.intro hs (And.intro hb hn))
  have t1 : decide ((n : Int) < 0) = false := decide_eq_false (by omega)
  have t2 : decide ((sz : Int) < (n : Int)) = false := decide_eq_false (by omega)
  have t3 : decide (sz < n) = false := decide_eq_false (by omega)
  have i1 : (0 : Int) ≤ (n : Int) := by omega
  have i2 : (n : Int) ≤ 32 := by omega
  clear h hok hs hb hn
  go_enter Tryd.func46, Tryd.ntmps46
  go_wp2_with fail
  refine (HM.out _).mono ?_
  rintro e w1 ⟨rfl, rfl⟩
  go_wp2_with fail
  refine (HF.out _).mono ?_
  rintro e w1 ⟨rfl, rfl⟩
  go_wp2_with fail
  go_quiet (fail)
  have hb1 : Blk ((w.alloc (.cells #[.pointer (some ⟨p, 0, none⟩)] 35)).alloc (.cells #[.int .i64 (n : Nat)] 3)) w.heap.size 35 #[ptrW p] := (Blk.new w _ _).alloc _
  have hb2 : Blk ((w.alloc (.cells #[.pointer (some ⟨p, 0, none⟩)] 35)).alloc (.cells #[.int .i64 (n : Nat)] 3)) (w.heap.size + 1) 3 #[.int .i64 (n : Nat)] := by
    have := Blk.new (w.alloc (.cells #[.pointer (some ⟨p, 0, none⟩)] 35)) 3 #[.int .i64 (n : Nat)]
    rwa [World.size_alloc] at this
  have hc1 := ((((Chg.refl [] w).alloc (.cells #[.pointer (some ⟨p, 0, none⟩)] 35)).alloc (.cells #[.int .i64 (n : Nat)] 3)))
  have HA := Lib.hid (And.intro (hb1.drewN nq) (And.intro (hb2.drewN nq) (hc1.drewN nq)))
  clear hb1 hb2 hc1
  generalize (((w.alloc (.cells #[.pointer (some ⟨p, 0, none⟩)] 35)).alloc (.cells #[.int .i64 (n : Nat)] 3))).drewN nq = wa at *
  have a1 := HA.out.1.cell 0
  have a2 := HA.out.2.1.cell 0
  simp only [List.getElem?_toArray, List.getElem?_cons_zero, ptrW] at a1 a2
  go_wp2_with fail
  go_quiet (fail)
  have HA2 := Lib.hid (And.intro (HA.out.1.drewN nq) (And.intro (HA.out.2.1.drewN nq) (HA.out.2.2.drewN nq)))
  clear a1 a2 HA
  generalize wa.drewN nq = wb at *
  have HA := HA2
  clear HA2
  go_wp2_with fail
  go_loopw [39] (fun i wr => ∃ k : Nat, k ≤ i0 ∧ i = .int .i64 k ∧ Chg [] wb wr) (fun i _ => n - (intOf i).toNat)
  case atStart => exact ⟨0, by omega, rfl, Chg.refl _ _⟩
  case round =>
    obtain ⟨k, hk, rfl, hc⟩ := hrel
    have HC := Lib.hid (HA.out.2.2.trans hc)
    have HW := Lib.hid (H.out.chg HC.out (by simp))
    have x0 := HW.out.sent (i := k) (by omega)
    have x1 := HW.out.there (i := k) (by omega)
    obtain ⟨a, ha⟩ : ∃ a, a = (s.f k).1 := ⟨_, rfl⟩
    obtain ⟨bb, hbb⟩ : ∃ bb, bb = (s.f k).2 := ⟨_, rfl⟩
    rw [← ha] at x0
    rw [← hbb] at x1
    have j1 : (0 : Int) ≤ (k : Int) := by omega
    have j2 : (k : Int) < (n : Int) := by omega
    have hlt : k < n := by omega
    by_cases h0 : a = 0
    · have t4 : ((a : Int) == 0) = true := by simpa using h0
      clear ha hbb hc h0
      go_wp2
      go_ret
      exact ⟨rfl, HC.out.alloc _⟩
    · have t4 : ((a : Int) == 0) = false := by simpa using h0
      have hki : k < i0 := by
        rcases Nat.lt_or_ge k i0 with h | h
        · exact h
        · obtain rfl : k = i0 := by omega
          have := HZ.out
          omega
      have HCW := Lib.hid hc
      clear ha hbb hc h0
      go_wp2
      go_roundw
      case rel => exact ⟨k + 1, by omega, by go_num, HCW.out.alloc _⟩
      case measure => simp [intOf]; omega
end Go.Proofs.YtmiijmiikpmcgaaDoor
end
section
/- Plain facts on the bits of a number below 2^64: no program in sight. -/
set_option linter.unusedVariables false
set_option linter.unusedSimpArgs false
namespace Go.Proofs.YtmiijmiikpmcgaaDoor.Bt
open Go

/-- The numbers of a set, rising. -/
def bitsL (m : Nat) : List Nat := (List.range 64).filter fun i => m.testBit i

theorem filter_cons_range (p q : Nat → Bool) (n k : Nat) (hk : k < n) (hlo : ∀ i, i < k → p i = false) (hp : p k = true)
    (hhi : ∀ i, k < i → p i = q i) (hq : ∀ i, i ≤ k → q i = false) : (List.range n).filter p = k :: (List.range n).filter q := by
  obtain ⟨d, rfl⟩ : ∃ d, n = k + (1 + d) := ⟨n - k - 1, by omega⟩
  have e0 : List.range (k + (1 + d)) = List.range k ++ ([k] ++ (List.range d).map (fun i => k + (1 + i))) := by
    rw [List.range_add, Nat.add_comm 1 d, List.range_succ_eq_map]
    simp [Function.comp_def, Nat.add_comm]
  have e : ∀ r : Nat → Bool, (List.range (k + (1 + d))).filter r = (List.range k).filter r ++ ([k].filter r ++ ((List.range d).map (fun i => k + (1 + i))).filter r) := by
    intro r
    rw [e0, List.filter_append, List.filter_append]
  rw [e p, e q]
  have h1 : (List.range k).filter p = [] := List.filter_eq_nil_iff.2 fun i hi => by simp [hlo i (List.mem_range.1 hi)]
  have h2 : (List.range k).filter q = [] := List.filter_eq_nil_iff.2 fun i hi => by simp [hq i (Nat.le_of_lt (List.mem_range.1 hi))]
  rw [h1, h2]
  simp only [List.filter_cons, hp, hq k (Nat.le_refl _), List.filter_nil, List.nil_append, if_true]
  simp only [Bool.false_eq_true, if_false, List.nil_append, List.cons_append]
  congr 1
  apply List.filter_congr
  intro i hi
  obtain ⟨j, _, rfl⟩ := List.mem_map.1 hi
  exact hhi _ (by omega)

theorem testBit_two_pow_mul' (k j i : Nat) : (2 ^ k * j).testBit i = (decide (k ≤ i) && j.testBit (i - k)) := by
  rw [Nat.testBit_two_pow_mul]

theorem drop_low (k j : Nat) : (2 ^ k * (2 * j + 1)) &&& (2 ^ k * (2 * j + 1) - 1) = 2 ^ k * (2 * j) := by
  apply Nat.eq_of_testBit_eq
  intro i
  have hpos : 0 < 2 ^ k := Nat.two_pow_pos k
  have e : 2 ^ k * (2 * j + 1) - 1 = 2 ^ k * (2 * j) + (2 ^ k - 1) := by rw [Nat.mul_add, Nat.mul_one]; omega
  rw [Nat.testBit_and, e, testBit_two_pow_mul', testBit_two_pow_mul']
  rw [Nat.testBit_two_pow_mul_add _ (by omega)]
  by_cases h : i < k
  · rw [if_pos h]; simp [show ¬ k ≤ i from by omega]
  · rw [if_neg h]
    have hk : k ≤ i := by omega
    simp only [hk, decide_true, Bool.true_and]
    rcases Nat.eq_zero_or_pos (i - k) with h0 | h0
    · rw [h0]; simp
    · obtain ⟨t, ht⟩ : ∃ t, i - k = t + 1 := ⟨i - k - 1, by omega⟩
      rw [ht, Nat.testBit_succ, Nat.testBit_succ]
      rw [show (2 * j + 1) / 2 = j from by omega, show 2 * j / 2 = j from by omega, Bool.and_self]

/-- The lowest one goes. -/
theorem bitsL_step (x : Nat) (h0 : x ≠ 0) (h : x < 18446744073709551616) :
    bitsL x = Lib.ctz 64 x :: bitsL (x &&& (x - 1)) ∧ Lib.ctz 64 x < 64 ∧ (x &&& (x - 1)) < x := by
  obtain ⟨j, hj, hk⟩ := Lib.ctzFrom_spec 64 x (by omega) (by simpa using h)
  have hc : Lib.ctz 64 x = Lib.ctzFrom 64 x := by simp [Lib.ctz, h0]
  rw [hc]
  generalize Lib.ctzFrom 64 x = k at hj hk
  subst hj
  rw [drop_low]
  have hpos : 0 < 2 ^ k := Nat.two_pow_pos k
  refine ⟨?_, hk, ?_⟩
  · apply filter_cons_range _ _ _ _ hk
    · intro i hi; rw [testBit_two_pow_mul']; simp [show ¬ k ≤ i from by omega]
    · rw [testBit_two_pow_mul']; simp
    · intro i hi
      rw [testBit_two_pow_mul', testBit_two_pow_mul']
      obtain ⟨t, ht⟩ : ∃ t, i - k = t + 1 := ⟨i - k - 1, by omega⟩
      rw [ht, Nat.testBit_succ, Nat.testBit_succ, show (2 * j + 1) / 2 = j from by omega, show 2 * j / 2 = j from by omega]
    · intro i hi
      rw [testBit_two_pow_mul']
      by_cases h : k ≤ i
      · have : i - k = 0 := by omega
        rw [this]; simp
      · simp [h]
  · rw [Nat.mul_add, Nat.mul_one]; omega

theorem bitsL_zero : bitsL 0 = [] := by decide

theorem mem_bitsL {m i : Nat} : i ∈ bitsL m ↔ i < 64 ∧ m.testBit i = true := by simp [bitsL]
theorem bitsL_length (m : Nat) : (bitsL m).length ≤ 64 := by
  have := List.length_filter_le (fun i => m.testBit i) (List.range 64)
  simpa [bitsL] using this

end Go.Proofs.YtmiijmiikpmcgaaDoor.Bt
end
section
/- math/bits.TrailingZeros64 and mask.All: what they come to. -/
set_option linter.unusedVariables false
set_option linter.unusedSimpArgs false
namespace Go.Proofs.YtmiijmiikpmcgaaDoor
open Go.RowKit Go.Shelf
attribute [local go_sem] Oper.semAt_some

/-- A table in its variable. -/
def TabAt (g : Nat) (tab : List Nat) (w : World) : Prop := ∀ j, j < tab.length → w.cell? ⟨g, j, none⟩ = some (.int .u8 (tab.getD j 0))
theorem TabAt.below {g : Nat} {tab : List Nat} {B : Nat} {w w' : World} (h : TabAt g tab w) (hb : Below B w w') (hg : g < B) : TabAt g tab w' :=
  fun j hj => (hb.cell (p := ⟨g, j, none⟩) hg).trans (h j hj)
theorem TabAt.of_cell {g : Nat} {tab : List Nat} {w w' : World} (h : TabAt g tab w) (hc : ∀ j, w'.cell? ⟨g, j, none⟩ = w.cell? ⟨g, j, none⟩) : TabAt g tab w' :=
  fun j hj => (hc j).trans (h j hj)

set_option maxHeartbeats 1000000 in
theorem tz64_core (x k idx : Nat) (w : World) (hx0 : ((x : Int) == 0) = false)
    (key : IntKind.u64.wrap (bits BinOp.and IntKind.u64 (x : Int) (IntKind.u64.wrap (-(x : Int))) * 285870213051353865) / 288230376151711744 = (idx : Int))
    (hi : idx < 64) (hk : k < 64) (hcell : w.cell? ⟨1, idx, none⟩ = some (.int .u8 k)) :
    Calls Tryd.prog 63 #[.int .u64 x] w fun e w' => e = .returned (.int .i64 k) ∧ w = w' := by
  go_enter Tryd.func63, Tryd.ntmps63
  go_wp2_with (simp only [key])
  go_ret
  exact ⟨rfl, rfl⟩

theorem tz64_zero (w : World) :
    Calls Tryd.prog 63 #[.int .u64 0] w fun e w' => e = .returned (.int .i64 64) ∧ w = w' := by
  go_enter Tryd.func63, Tryd.ntmps63
  go_wp2
  go_ret
  exact ⟨rfl, rfl⟩

theorem tz64_key (x a : Nat) (hx : x < 18446744073709551616) (hx0 : x ≠ 0) (hlow : x &&& (18446744073709551616 - x) = a) :
    IntKind.u64.wrap (bits BinOp.and IntKind.u64 (x : Int) (IntKind.u64.wrap (-(x : Int))) * 285870213051353865) / 288230376151711744 = ((a * 285870213051353865 % 18446744073709551616 / 288230376151711744 : Nat) : Int) := by
  have e1 : IntKind.u64.wrap (-(x : Int)) = ((18446744073709551616 - x : Nat) : Int) := by rw [IntKind.wrap_u64]; omega
  rw [e1, bits_and_u64_nat x _ hx (by omega), hlow, IntKind.wrap_u64]
  omega

/-- **math/bits.TrailingZeros64, every x.** -/
theorem tz64 (x : Nat) (hx : x < 18446744073709551616) (w : World) (hT : TabAt 1 Lib.deBruijn64tab w) :
    Calls Tryd.prog 63 #[.int .u64 x] w fun e w' => e = .returned (.int .i64 (Lib.ctz 64 x)) ∧ w = w' := by
  by_cases hx0 : x = 0
  · subst hx0
    exact tz64_zero w
  · obtain ⟨hlow, hk⟩ := Lib.lowest_bit 64 x hx0 hx
    obtain ⟨hi, htab⟩ := Lib.deBruijn64_at _ hk
    have hcell := hT _ hi
    rw [htab] at hcell
    exact tz64_core x _ _ w (by simp; omega) (tz64_key x _ hx hx0 hlow) hi hk hcell

theorem all_any (x : Int) (w : World) :
    Calls Tryd.prog 55 #[.int .u64 x] w fun e w' => e = .returned (.func (.func 62) #[] #[.pointer (some ⟨w.heap.size, 0, none⟩)]) ∧ w.alloc (.cells #[.int .u64 x] 23) = w' := by
  go_enter Tryd.func55, Tryd.ntmps55
  go_wp2
  go_ret
  exact ⟨rfl, rfl⟩

theorem and_pred (x : Nat) (hx : x < 18446744073709551616) (h0 : x ≠ 0) : bits BinOp.and IntKind.u64 (x : Int) ((x : Int) - 1) = ((x &&& (x - 1) : Nat) : Int) := by
  have e1 : (x : Int) - 1 = ((x - 1 : Nat) : Int) := by omega
  rw [e1, bits_and_u64_nat x _ hx (by omega)]

set_option maxRecDepth 100000 in
set_option maxHeartbeats 2000000 in
/-- **mask.All's closure.** -/
theorem all1_in (n : Nat) (hn : 1 ≤ n) (l Bs n₀ x : Nat) (hx : x < 18446744073709551616) (hg : 1 < n₀) (J Jx : List Nat → World → Prop)
    (hY : ∀ pre k W, J pre W → pre.length < (Bt.bitsL x).length → YieldAt Fence.wide (n - 1) Tryd.prog l #[.int .i64 (k : Nat)] W fun e W' =>
      (e = .returned (.bool true) ∧ J (pre ++ [k]) W' ∧ Below n₀ W W') ∨ (e = .returned (.bool false) ∧ Jx (pre ++ [k]) W'))
    (W : World) (hBs : W.cell? ⟨Bs, 0, none⟩ = some (.int .u64 x)) (hT : TabAt 1 Lib.deBruijn64tab W) (h0 : J [] W) :
    CallsIn Fence.wide n Tryd.prog 62 #[.func (.yield l) #[] #[], .pointer (some ⟨Bs, 0, none⟩)] W fun e W' => (∃ v, e = .returned v) ∧
      ((∃ ys, ys = Bt.bitsL x ∧ J ys W') ∨ (∃ pre, pre <+: Bt.bitsL x ∧ Jx pre W')) := by
  refine callsIn_of_wp Tryd.func62 rfl trivial ?_ rfl
  simp only [Tryd.ntmps62, List.size_toArray, List.length_cons, List.length_nil, Nat.reduceAdd, Nat.reduceSub, Array.replicate_succ, Array.replicate_zero, List.push_toArray, List.append_toArray, List.nil_append, List.cons_append]
  gi_wp2
  gi_loopw [3] (fun p wr => ∃ (pre : List Nat) (y : Nat), p = .int .u64 y ∧ y < 18446744073709551616 ∧ Hid (Bt.bitsL x = pre ++ Bt.bitsL y) ∧ Below n₀ W wr ∧ J pre wr)
    (fun p _ => (intOf p).toNat)
  case atStart =>
    exact ⟨[], x, rfl, hx, rfl, Below.refl _ _, h0⟩
  case round =>
    obtain ⟨pre, y, rfl, hy, hpre, hB, hJs⟩ := hrel
    by_cases hy0 : y = 0
    · subst hy0
      gi_wp2
      go_end0
      exact ⟨⟨_, rfl⟩, .inl ⟨pre, by have := hpre.out; rw [Bt.bitsL_zero, List.append_nil] at this; exact this.symm, hJs⟩⟩
    · obtain ⟨hst, hk64, hlt⟩ := Bt.bitsL_step y hy0 hy
      have hlen : pre.length < (Bt.bitsL x).length := by rw [hpre.out, hst]; simp
      obtain ⟨fn, tmps, assign, body, hyl, hR⟩ := hY pre (Lib.ctz 64 y) wr hJs hlen
      have hne : ((y : Int) != 0) = true := by simp; omega
      have hTr := hT.below hB hg
      have HA := Lib.hid (and_pred y hy hy0)
      have HS := Lib.hid hst
      clear hst
      gi_wp2_with (refine ⟨trivial, ?_⟩; gi_at_call 63; refine (callsIn_wide.2 (tz64 y hy wr hTr)).mono ?_; rintro e w' ⟨rfl, rfl⟩)
      refine hR.mono ?_
      rintro e W3 (⟨rfl, hJ3, hk3⟩ | ⟨rfl, hJx3⟩)
      · gi_wp2
        go_roundw
        case rel => exact ⟨pre ++ [Lib.ctz 64 y], y &&& (y - 1), by rw [HA.out], by omega, by unfold Hid; rw [hpre.out, HS.out]; simp, hB.trans hk3, hJ3⟩
        case measure => rw [HA.out]; simp [intOf]; omega
      · gi_wp2
        refine bodyPost_ret (results_none rfl _ _ _) rfl ?_
        exact ⟨⟨_, rfl⟩, .inr ⟨pre ++ [Lib.ctz 64 y], by rw [hpre.out, HS.out]; exact ⟨Bt.bitsL (y &&& (y - 1)), by simp⟩, hJx3⟩⟩

/-- **mask.All(x) hands back a value that yields x's numbers, rising.** -/
theorem all_stops (n : Nat) (hn : 1 ≤ n) (Bs n₀ x : Nat) (hx : x < 18446744073709551616) (w : World) (hBs : Bs < w.heap.size) (_hn₀ : n₀ ≤ w.heap.size) (hg : 1 < n₀)
    (hc : w.cell? ⟨Bs, 0, none⟩ = some (.int .u64 x)) (hT : TabAt 1 Lib.deBruijn64tab w) :
    SeqStopsK Fence.wide n Tryd.prog 62 #[.pointer (some ⟨Bs, 0, none⟩)] (fun k : Nat => #[Value.int .i64 k]) (Below n₀) (fun ys => ys = Bt.bitsL x) (fun pre => pre <+: Bt.bitsL x) (Bt.bitsL x).length w := fun l J Jx W hW _ _ hY h0 =>
  all1_in n hn l Bs n₀ x hx hg J Jx hY W ((hW.cell (p := ⟨Bs, 0, none⟩) hBs).trans hc) (hT.below hW (by omega)) h0

end Go.Proofs.YtmiijmiikpmcgaaDoor
end
section
/- mask.All's closure, where its caller knows that numbers are below 64. -/
set_option linter.unusedVariables false
set_option linter.unusedSimpArgs false
namespace Go.Proofs.YtmiijmiikpmcgaaDoor
open Go.RowKit Go.Shelf
attribute [local go_sem] Oper.semAt_some

set_option maxRecDepth 100000 in
set_option maxHeartbeats 2000000 in
/-- **mask.All's closure.** -/
theorem all1_b (n : Nat) (hn : 1 ≤ n) (l Bs n₀ x : Nat) (hx : x < 18446744073709551616) (hg : 1 < n₀) (J Jx : List Nat → World → Prop)
    (hY : ∀ pre k W, k < 64 → J pre W → pre.length < (Bt.bitsL x).length → YieldAt Fence.wide (n - 1) Tryd.prog l #[.int .i64 (k : Nat)] W fun e W' =>
      (e = .returned (.bool true) ∧ J (pre ++ [k]) W' ∧ Below n₀ W W') ∨ (e = .returned (.bool false) ∧ Jx (pre ++ [k]) W'))
    (W : World) (hBs : W.cell? ⟨Bs, 0, none⟩ = some (.int .u64 x)) (hT : TabAt 1 Lib.deBruijn64tab W) (h0 : J [] W) :
    CallsIn Fence.wide n Tryd.prog 62 #[.func (.yield l) #[] #[], .pointer (some ⟨Bs, 0, none⟩)] W fun e W' => (∃ v, e = .returned v) ∧
      ((∃ ys, ys = Bt.bitsL x ∧ J ys W') ∨ (∃ pre, pre <+: Bt.bitsL x ∧ Jx pre W')) := by
  refine callsIn_of_wp Tryd.func62 rfl trivial ?_ rfl
  simp only [Tryd.ntmps62, List.size_toArray, List.length_cons, List.length_nil, Nat.reduceAdd, Nat.reduceSub, Array.replicate_succ, Array.replicate_zero, List.push_toArray, List.append_toArray, List.nil_append, List.cons_append]
  gi_wp2
  gi_loopw [3] (fun p wr => ∃ (pre : List Nat) (y : Nat), p = .int .u64 y ∧ y < 18446744073709551616 ∧ Hid (Bt.bitsL x = pre ++ Bt.bitsL y) ∧ Below n₀ W wr ∧ J pre wr)
    (fun p _ => (intOf p).toNat)
  case atStart =>
    exact ⟨[], x, rfl, hx, rfl, Below.refl _ _, h0⟩
  case round =>
    obtain ⟨pre, y, rfl, hy, hpre, hB, hJs⟩ := hrel
    by_cases hy0 : y = 0
    · subst hy0
      gi_wp2
      go_end0
      exact ⟨⟨_, rfl⟩, .inl ⟨pre, by have := hpre.out; rw [Bt.bitsL_zero, List.append_nil] at this; exact this.symm, hJs⟩⟩
    · obtain ⟨hst, hk64, hlt⟩ := Bt.bitsL_step y hy0 hy
      have hlen : pre.length < (Bt.bitsL x).length := by rw [hpre.out, hst]; simp
      obtain ⟨fn, tmps, assign, body, hyl, hR⟩ := hY pre (Lib.ctz 64 y) wr hk64 hJs hlen
      have hne : ((y : Int) != 0) = true := by simp; omega
      have hTr := hT.below hB hg
      have HA := Lib.hid (and_pred y hy hy0)
      have HS := Lib.hid hst
      clear hst
      gi_wp2_with (refine ⟨trivial, ?_⟩; gi_at_call 63; refine (callsIn_wide.2 (tz64 y hy wr hTr)).mono ?_; rintro e w' ⟨rfl, rfl⟩)
      refine hR.mono ?_
      rintro e W3 (⟨rfl, hJ3, hk3⟩ | ⟨rfl, hJx3⟩)
      · gi_wp2
        go_roundw
        case rel => exact ⟨pre ++ [Lib.ctz 64 y], y &&& (y - 1), by rw [HA.out], by omega, by unfold Hid; rw [hpre.out, HS.out]; simp, hB.trans hk3, hJ3⟩
        case measure => rw [HA.out]; simp [intOf]; omega
      · gi_wp2
        refine bodyPost_ret (results_none rfl _ _ _) rfl ?_
        exact ⟨⟨_, rfl⟩, .inr ⟨pre ++ [Lib.ctz 64 y], by rw [hpre.out, HS.out]; exact ⟨Bt.bitsL (y &&& (y - 1)), by simp⟩, hJx3⟩⟩

theorem map_val_of {pre : List Nat} (h : ∀ k ∈ pre, k < 64) : ∃ pf : List (Fin 64), pf.map (·.val) = pre := by
  induction pre with
  | nil => exact ⟨[], rfl⟩
  | cons a l ih =>
    obtain ⟨pf, hpf⟩ := ih fun k hk => h k (by simp [hk])
    exact ⟨⟨a, h a (by simp)⟩ :: pf, by simp [hpf]⟩
theorem all_stopsB (n : Nat) (hn : 1 ≤ n) (Bs n₀ x : Nat) (hx : x < 18446744073709551616) (w : World) (hBs : Bs < w.heap.size) (_hn₀ : n₀ ≤ w.heap.size) (hg : 1 < n₀)
    (hc : w.cell? ⟨Bs, 0, none⟩ = some (.int .u64 x)) (hT : TabAt 1 Lib.deBruijn64tab w) :
    SeqStopsK Fence.wide n Tryd.prog 62 #[.pointer (some ⟨Bs, 0, none⟩)] (fun k : Fin 64 => #[Value.int .i64 (k.val : Nat)]) (Below n₀) (fun ys => ys.map (·.val) = Bt.bitsL x) (fun pre => pre.map (·.val) <+: Bt.bitsL x) (Bt.bitsL x).length w := fun l J Jx W hW _ _ hY h0 => by
  refine (all1_b n hn l Bs n₀ x hx hg (fun pre W => ∃ pf : List (Fin 64), pf.map (·.val) = pre ∧ J pf W) (fun pre W => ∃ pf : List (Fin 64), pf.map (·.val) = pre ∧ Jx pf W) ?_ W ((hW.cell (p := ⟨Bs, 0, none⟩) hBs).trans hc) (hT.below hW (by omega)) ⟨[], rfl, h0⟩).mono ?_
  · rintro pre k W hk ⟨pf, rfl, hJ⟩ hlen
    obtain ⟨fn, tmps, assign, body, hyl, hR⟩ := hY pf ⟨k, hk⟩ W hJ (by simpa using hlen)
    refine ⟨fn, tmps, assign, body, hyl, hR.mono ?_⟩
    rintro e W' (⟨rfl, h1, h2⟩ | ⟨rfl, h1⟩)
    · exact .inl ⟨rfl, ⟨pf ++ [⟨k, hk⟩], by simp, h1⟩, h2⟩
    · exact .inr ⟨rfl, ⟨pf ++ [⟨k, hk⟩], by simp, h1⟩⟩
  · rintro e W' ⟨hv, h⟩
    refine ⟨hv, ?_⟩
    rcases h with ⟨ys, rfl, pf, hpf, hJ⟩ | ⟨pre, hp, pf, rfl, hJ⟩
    · exact .inl ⟨pf, hpf, hJ⟩
    · exact .inr ⟨pf, hp, hJ⟩
end Go.Proofs.YtmiijmiikpmcgaaDoor
end
section
/- The builtin copy between slices whose elements take several cells. -/
set_option linter.unusedVariables false
set_option linter.unusedSimpArgs false
namespace Go.Proofs.YtmiijmiikpmcgaaDoor
open Go Go.RowKit

theorem run_copy_wide {P : Program} (w : World) (dT sT ty elem : TypeId) (b o dLen dCap sz n : Nat) (a : Addr) (sLen sCap : Nat) (cs : List Value)
    (hu : P.underlying dT = some (.slice elem)) (hs : (P.info? elem).map (·.size) = some sz) (hm : Nat.min sLen dLen = n) (hn : cs.length = n * sz)
    (hsrc : ∀ j v, cs[j]? = some v → w.cell? (a.add j) = some v) (hc : ∀ j, j < cs.length → (w.cell? ⟨b, o + j, none⟩).isSome = true) (hf : ∀ j, j < cs.length → w.frozen? ⟨b, o + j, none⟩ = false) (h1 : ∀ v ∈ cs, v.oneCell' = true) :
    (Builtin.copy_ #[dT, sT] ty #[.slice (some ⟨b, o, none⟩) dLen dCap, .slice (some a) sLen sCap]).run P w = .ok (goInt n) (w.setCells b o cs) := by
  have hl := run_loadCells_list (P := P) w a cs hsrc
  have hst := run_storeCells_cells (P := P) b o cs 0 w (by simpa using hc) (by simpa using hf) h1
  cases hq : P.info? elem with
  | none => simp [hq] at hs
  | some i =>
    have hi : i.size = sz := by simpa [hq] using hs
    simp [Builtin.copy_, run_underlying hu, Builtin.lenOf, Builtin.firstCells, sizeOf, typeInfo, hq, hi, hm, ← hn, hl, hst]
theorem wpList_copy_wide {P : Program} {w : World} {ops : Array Oper} {rest : List Oper} {op : Oper} {a : Act} {Q : Exit → Act → World → Prop} (hgd : op.guard = none) (d s : Operand) (dT sT : TypeId)
    (ho : op.op = .call { callee := .builtin .copy, args := #[d, s], argTypes := #[dT, sT] }) (elem : TypeId) (hu : P.underlying dT = some (.slice elem)) (sz : Nat) (hs : (P.info? elem).map (·.size) = some sz)
    (b o dLen dCap n : Nat) (ad : Addr) (sLen sCap : Nat) (hd : a.eval d = .slice (some ⟨b, o, none⟩) dLen dCap) (hsv : a.eval s = .slice (some ad) sLen sCap) (cs : List Value)
    (hm : Nat.min sLen dLen = n) (hn : cs.length = n * sz) (hsrc : ∀ j v, cs[j]? = some v → w.cell? (ad.add j) = some v) (hc : ∀ j, j < cs.length → (w.cell? ⟨b, o + j, none⟩).isSome = true) (hf : ∀ j, j < cs.length → w.frozen? ⟨b, o + j, none⟩ = false) (h1 : ∀ v ∈ cs, v.oneCell' = true)
    (h : wpList P ops Q rest (a.put op.dst (goInt n)) (w.setCells b o cs)) : wpList P ops Q (op :: rest) a w := by
  refine wpList_plain hgd fun K hK => ?_
  have hrun := run_copy_wide (P := P) w dT sT op.type elem b o dLen dCap sz n ad sLen sCap cs hu hs hm hn hsrc hc hf h1
  unfold Oper.wp
  simp [execOp, ho, resolve, invoke, builtin, hd, hsv, hrun, Result.andThen]
  exact hK _ _ h
end Go.Proofs.YtmiijmiikpmcgaaDoor
end
