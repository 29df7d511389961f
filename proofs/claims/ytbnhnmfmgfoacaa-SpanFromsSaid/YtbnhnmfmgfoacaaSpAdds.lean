/- SpanAdds: whatever numbers are added: which were not there, and the ranges. -/
import Derived.Test.YtbnhnmfmgfoacaaSpLaw
import Derived.Test.YtbnhnmfmgfoacaaSpRAdd
import Derived.Test.YtbnhnmfmgfoacaaSpRTop
set_option linter.unusedVariables false
set_option linter.unusedSimpArgs false
namespace Go.Proofs.Ytbnhnmfmgfoacaa
open Go.RowKit Go.Shelf Go.Proofs.YtbnhnmfmgfoacaaW.PrintWords

theorem RowAt.other {w w' : World} {q c : Nat} {A : Option Addr} {R S : List Rng} (h2 : RowAt w A c R) (k : SetAt w q S) (hc : Chg [q] w w') : RowAt w' A c R := by
  obtain ⟨B, cap', k1, _⟩ := k
  refine h2.chg hc ?_
  intro b hb hm
  rcases h2 with ⟨h0, _⟩ | ⟨b', hb', _, _, _, cs, hty⟩
  · rw [h0] at hb; cases hb
  · rw [hb'] at hb
    cases hb
    simp at hm
    subst hm
    unfold Blk at k1
    rw [hty] at k1
    injection k1 with k1
    injection k1 with _ k2
    cases k2
set_option maxHeartbeats 4000000 in
theorem alike_any (w W : World) (p : Nat) (A : Option Addr) (c : Nat) (R : List Rng) (h : St w W p R) (hr : RowAt W A c R) (hsz : R.length ≤ 1000000) (hw : WF 1 R) :
    Calls Try.prog 14 #[.pointer (some ⟨p, 0, none⟩), .slice A R.length c] W fun e w' => e = .returned (.bool true) ∧ Chg [] W w' := by
  obtain ⟨n, hn⟩ : ∃ n, n = R.length := ⟨_, rfl⟩
  have HN := Lib.hid hn
  have HR := Lib.hid hr
  have HS := Lib.hid h
  have HW := Lib.hid hw
  have HZ := Lib.hid hsz
  have hz2 : R.length < 4611686018427387904 := by omega
  have HZ2 := Lib.hid hz2
  obtain ⟨tp, htp⟩ : ∃ tp, tp = topR R := ⟨_, rfl⟩
  obtain ⟨gp, hgp⟩ : ∃ gp, gp = gapsR R := ⟨_, rfl⟩
  obtain ⟨lw, hlw⟩ : ∃ lw, lw = lowR R := ⟨_, rfl⟩
  have HV := Lib.hid (And.intro htp (And.intro hgp hlw))
  rw [← hn]
  clear hn hr h hw hsz hz2 htp hgp hlw
  go_enter Try.func14, Try.ntmps14
  go_wp2_with fail
  refine (St.ranges HS.out HZ.out).mono ?_
  rintro e w1 ⟨A1, c1, rfl, hr1, hc1, hs1⟩
  have H1 := Lib.hid (And.intro hr1 (And.intro (HR.out.chg0 hc1) (And.intro hs1 hc1)))
  clear hr1 hc1 hs1
  go_wp2_with fail
  rw [HN.out]
  refine (same_any _ _ _ _ _ R R H1.out.1 H1.out.2.1 HZ.out HZ.out).mono ?_
  rintro e w2 ⟨rfl, hc2⟩
  rw [decide_eq_true (rfl : R = R), ← HN.out]
  have H2 := Lib.hid (And.intro (H1.out.2.1.chg0 hc2) (And.intro (H1.out.2.2.1.to hc2) (H1.out.2.2.2.trans hc2)))
  clear hc2
  go_wp2_with fail
  refine (low_any _ _ _ H2.out.2.1.set_).mono ?_
  rintro e w' ⟨rfl, rfl⟩
  rw [← HV.out.2.2]
  go_wp2_with fail
  rw [HN.out]
  refine (rlow_any _ _ _ R H2.out.1 HZ.out).mono ?_
  rintro e w3 ⟨rfl, hc3⟩
  rw [← HV.out.2.2, ← HN.out]
  have H3 := Lib.hid (And.intro (H2.out.1.chg0 hc3) (And.intro (H2.out.2.1.to hc3) (H2.out.2.2.trans hc3)))
  clear hc3
  go_wp2_with fail
  refine (top_any _ _ _ H3.out.2.1.set_ HZ2.out).mono ?_
  rintro e w' ⟨rfl, rfl⟩
  rw [← HV.out.1]
  go_wp2_with fail
  rw [HN.out]
  refine (rtop_any _ _ _ R H3.out.1 HZ.out).mono ?_
  rintro e w4 ⟨rfl, hc4⟩
  rw [← HV.out.1, ← HN.out]
  have H4 := Lib.hid (And.intro (H3.out.1.chg0 hc4) (And.intro (H3.out.2.1.to hc4) (H3.out.2.2.trans hc4)))
  clear hc4
  go_wp2_with fail
  refine (gaps_any _ _ _ H4.out.2.1.set_ HZ2.out).mono ?_
  rintro e w' ⟨rfl, rfl⟩
  rw [← HV.out.2.1]
  go_wp2_with fail
  rw [HN.out]
  refine (rgaps_any _ _ _ R H4.out.1 HZ.out).mono ?_
  rintro e w5 ⟨rfl, hc5⟩
  rw [cnt1_gaps HW.out, ← HV.out.2.1, ← HN.out]
  have H5 := Lib.hid (H4.out.2.2.trans hc5)
  clear hc5
  go_wp2
  go_ret
  exact ⟨rfl, H5.out⟩
namespace spanAdds
set_option maxRecDepth 100000 in
set_option maxHeartbeats 8000000 in
theorem core (A : Option Addr) (c : Nat) (l : List Int) (ask : Nat) (hw : ∀ x ∈ l, (Lit.int .u64 x).wf = true) (W : World) (hC : Kd.C (Kd.int .u64) W A l.length l) (hr : l.length * 8 ≤ 140737488351232) :
    Calls Try.prog 3 #[.slice A l.length c, .int .u64 (ask : Nat)] W fun e w' => e = .returned (.bool true) ∧ Chg [] W w' := by
  have HC := Lib.hid hC
  have HW := Lib.hid hw
  clear hC hw
  by_cases hlen : 200 < l.length
  · go_enter Try.func3, Try.ntmps3
    go_wp2_with fail
    refine (lives_any _).mono ?_
    rintro e w' ⟨rfl, hc⟩
    have HH := Lib.hid hc
    clear hc
    go_wp2
    go_ret
    exact ⟨rfl, HH.out⟩
  obtain ⟨n, hn⟩ : ∃ n, n = l.length := ⟨_, rfl⟩
  have HN := Lib.hid hn
  rw [← hn] at hlen hr
  rw [← hn]
  clear hn
  go_enter Try.func3, Try.ntmps3
  go_wp2_with fail
  refine (St.new W W (Chg.refl _ _)).mono ?_
  rintro e w1 ⟨rfl, hs, hc, hlt⟩
  have HS1 := Lib.hid hs
  clear hs hc hlt
  obtain ⟨p, hp⟩ : ∃ p, p = W.heap.size := ⟨_, rfl⟩
  rw [← hp] at HS1
  rw [← hp]
  clear hp
  go_wp2
  go_loopw [21, 6] (fun i s6 wr => ∃ (k : Nat) (R : List Rng) (B : Option Addr) (d : Nat), k ≤ n ∧ i = .int .i64 k ∧ s6 = .slice B R.length d ∧ RowAt wr B d R ∧ St W wr p R ∧ Holds R (l.take k) k) (fun i _ _ => n - (intOf i).toNat)
  case atStart => exact ⟨0, [], none, 0, Nat.zero_le _, rfl, rfl, .inl ⟨rfl, rfl, rfl⟩, HS1.out, Holds.nil⟩
  case round =>
    obtain ⟨k, R, B, d, hk, rfl, rfl, hrow, hs, hh⟩ := hrel
    have HS := Lib.hid hs
    have HH := Lib.hid hh
    have HROW := Lib.hid hrow
    obtain ⟨rn, hrn⟩ : ∃ rn, rn = R.length := ⟨_, rfl⟩
    have HRN := Lib.hid hrn
    rw [← hrn]
    have hrl : rn ≤ k := by rw [hrn]; exact hh.len
    clear hs hh hrow hrn
    by_cases hlt : k < n
    · have hltl : k < l.length := by rw [← HN.out]; exact hlt
      obtain ⟨ad, x, rfl, hx, hcx, hlx⟩ := u64_at HC.out HW.out hltl
      have hcx' := HS.out.chg.cell_some hcx (by simp)
      have HX := Lib.hid (And.intro hlx hx)
      have hnext := (HH.out.add hx (mem_take_succ hlx)).1
      have HNX := Lib.hid hnext
      obtain ⟨b, hb⟩ : ∃ b, b = (decide (0 < x) && !memR R x) := ⟨_, rfl⟩
      have HB := Lib.hid hb
      obtain ⟨R', hR'⟩ : ∃ R', R' = addR R x := ⟨_, rfl⟩
      have HR' := Lib.hid hR'
      have HNX' : Hid (Holds R' (l.take (k + 1)) (k + 1)) := by rw [hR']; exact HNX
      obtain ⟨q, hq⟩ : ∃ q, q = memR R' ask := ⟨_, rfl⟩
      have HQ := Lib.hid hq
      obtain ⟨rn', hrn'⟩ : ∃ rn', rn' = R'.length := ⟨_, rfl⟩
      have HRN' := Lib.hid hrn'
      have hrl' : rn' ≤ k + 1 := by rw [hrn', hR']; exact hnext.len
      have i1 : (0 : Int) ≤ (k : Int) := by omega
      have i2 : (k : Int) < (n : Int) := by omega
      have hbb : (b != b) = false := by simp
      have hqq : (q != q) = false := by simp
      clear hcx hlx hltl hx hnext hb hR' hq hrn'
      go_wp2_with fail
      refine (St.add HS.out x R' b HH.out.wf HX.out.2 (by rw [← HRN.out]; omega) HB.out.symm HR'.out.symm).mono ?_
      rintro e w3 ⟨rfl, hs, hc⟩
      have HS3 := Lib.hid (And.intro hs (HROW.out.other HS.out.set_ hc))
      clear hs hc
      go_wp2_with fail
      rw [HRN.out]
      refine (radd_any w3 B d R x HS3.out.2 (by rw [← HRN.out]; omega) HH.out.wf HX.out.2).mono ?_
      rintro e w4 ⟨B', d', rfl, hrow4, hc4⟩
      rw [← HB.out, ← HR'.out, ← HRN'.out]
      rw [← HR'.out] at hrow4
      have HS4 := Lib.hid (And.intro (HS3.out.1.to hc4) hrow4)
      clear hrow4 hc4
      have hr'z : rn' ≤ 1000000 := by omega
      go_wp2_with fail
      rw [HRN'.out]
      refine (alike_any W w4 p B' d' R' HS4.out.1 HS4.out.2 (by rw [← HRN'.out]; exact hr'z) HNX'.out.wf).mono ?_
      rintro e w5 ⟨rfl, hc5⟩
      rw [← HRN'.out]
      have HS5 := Lib.hid (And.intro (HS4.out.1.to hc5) (HS4.out.2.chg0 hc5))
      clear hc5
      go_wp2_with fail
      refine (St.has HS5.out.1 ask q HNX'.out.wf (by rw [← HRN'.out]; exact hr'z) HQ.out.symm).mono ?_
      rintro e w6 ⟨rfl, hc6, hs6⟩
      have HS6 := Lib.hid (And.intro hs6 (HS5.out.2.chg0 hc6))
      clear hc6 hs6
      go_wp2_with fail
      rw [HRN'.out]
      refine (rhas_any w6 B' d' R' ask HS6.out.2 (by rw [← HRN'.out]; exact hr'z)).mono ?_
      rintro e w7 ⟨rfl, hc7⟩
      rw [← HQ.out, ← HRN'.out]
      have HS7 := Lib.hid (And.intro (HS6.out.1.to hc7) (HS6.out.2.chg0 hc7))
      clear hc7
      cases b <;> cases q
      all_goals
        go_wp2
        go_roundw
        case rel => exact ⟨k + 1, R', B', d', by omega, by go_num, by rw [← HRN'.out], HS7.out.2, HS7.out.1, HNX'.out⟩
        case measure => simp [intOf]; omega
    · obtain rfl : k = n := by omega
      go_wp2_with fail
      refine (lives_any _).mono ?_
      rintro e w' ⟨rfl, hc⟩
      have HF := Lib.hid (HS.out.chg.trans hc)
      clear hc
      go_wp2
      go_ret
      exact ⟨rfl, HF.out⟩
theorem walk (A : Option Addr) (c : Nat) (l : List Int) (_hc : l.length ≤ c) (hr : l.length * 8 ≤ 140737488351232) (hw : ∀ x ∈ l, (Lit.int .u64 x).wf = true) (a1 : Int) (w1 : (Lit.int .u64 a1).wf = true) (W : World) (hC : Kd.C (Kd.int .u64) W A l.length l) :
    Calls Try.prog 3 #[.slice A l.length c, .int .u64 a1] W fun e w' => e = .returned (.bool true) ∧ Below W.heap.size W w' := by
  obtain ⟨n, rfl, hn⟩ := nat_u64 w1
  exact (core A c l n hw W hC hr).mono fun _ _ ⟨he, hc⟩ => ⟨he, hc.below (Nat.le_refl _) (by simp)⟩
end spanAdds
end Go.Proofs.Ytbnhnmfmgfoacaa
