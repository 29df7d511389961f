/- The document's answer (package staithref04): Add. -/
import Derived.Test.YthgejgfdpmbpaaaSpPutW
set_option linter.unusedVariables false
set_option linter.unusedSimpArgs false
namespace Go.Proofs.Ythgejgfdpmbpaaa
open Go.RowKit Go.Shelf Go.Proofs.YthgejgfdpmbpaaaW.PrintWords

set_option maxHeartbeats 4000000 in
theorem radd_any (w : World) (A : Option Addr) (c : Nat) (R : List Rng) (m : Nat) (hr : RowAt w A c R) (hsz : R.length ≤ 1000) (hw : WF 1 R) (hm : m < M64) :
    Calls Try.prog 29 #[.slice A R.length c, .int .u64 (m : Nat)] w fun e w' => ∃ A' c', e = .returned (.tuple #[.slice A' (addR R m).length c', .bool (0 < m && !memR R m)]) ∧ RowAt w' A' c' (addR R m) ∧ Chg [] w w' := by
  have HR := Lib.hid hr
  have hR : ∀ r ∈ R, r.1 ≤ r.2 ∧ r.2 < M64 := fun r hr => ⟨(hw.mem r hr).2.1, (hw.mem r hr).2.2⟩
  have HW := Lib.hid (And.intro hw hR)
  have HHAS := Lib.hid (rhas_any w A c R m hr (by omega))
  clear hr hw hR
  by_cases h0 : m = 0
  · have e : addR R m = R := by simp [addR, h0]
    have eb : (decide (0 < m) && !memR R m) = false := by simp [h0]
    rw [e, eb]
    have t1 : decide (m < 1) = true := decide_eq_true (by omega)
    have t2 : decide ((m : Int) < 1) = true := decide_eq_true (by omega)
    subst h0
    clear e eb
    go_enter Try.func29, Try.ntmps29
    go_wp2
    go_ret2
    exact ⟨_, _, rfl, HR.out, Chg.refl _ _⟩
  · have t1 : decide (m < 1) = false := decide_eq_false (by omega)
    have t2 : decide ((m : Int) < 1) = false := decide_eq_false (by omega)
    have t3 : decide (m = 0) = false := decide_eq_false h0
    obtain ⟨n, hn⟩ : ∃ n, n = R.length := ⟨_, rfl⟩
    cases hb : memR R m with
    | true =>
      have e : addR R m = R := by simp [addR, hb]
      have eb : (decide (0 < m) && !true) = false := by simp
      rw [e, eb]
      rw [hb] at HHAS
      rw [← hn] at HHAS
      rw [← hn]
      have HN := Lib.hid hn
      clear hb e eb hn
      go_enter Try.func29, Try.ntmps29
      go_wp2_with fail
      refine HHAS.out.mono ?_
      rintro e w1 ⟨rfl, hc⟩
      have HC := Lib.hid hc
      clear hc
      go_wp2
      go_ret2
      exact ⟨_, _, rfl, HR.out.chg0 HC.out, HC.out⟩
    | false =>
      have e : addR R m = putR R (m, m) := (putR_add HW.out.1 hm (by omega) hb).symm
      have eb : (decide (0 < m) && !false) = true := by simp; omega
      rw [e, eb]
      rw [hb] at HHAS
      have HN := Lib.hid hn
      obtain ⟨PR, hPR⟩ : ∃ PR, PR = putR R (m, m) := ⟨_, rfl⟩
      rw [← hPR]
      have HPR := Lib.hid hPR
      have HM := Lib.hid hm
      have hsz2 : n ≤ 1000 := by omega
      rw [← hn] at HHAS
      rw [← hn]
      clear hb e eb hn hPR hm hsz
      go_enter Try.func29, Try.ntmps29
      go_wp2_with fail
      refine HHAS.out.mono ?_
      rintro e w1 ⟨rfl, hc⟩
      have HC := Lib.hid hc
      clear hc
      go_wp2_with fail
      rw [HN.out]
      refine (rput_any _ A c R m m (HR.out.chg0 HC.out) (by rw [← HN.out]; exact hsz2) HW.out.2 (Nat.le_refl _) HM.out).mono ?_
      rintro e w2 ⟨A', c', rfl, hr2, hc2⟩
      rw [← HPR.out] at hr2
      rw [← HPR.out]
      have HR2 := Lib.hid (And.intro hr2 (HC.out.trans hc2))
      clear hr2 hc2
      go_wp2
      go_ret2
      exact ⟨A', c', rfl, HR2.out.1, HR2.out.2⟩

end Go.Proofs.Ythgejgfdpmbpaaa
