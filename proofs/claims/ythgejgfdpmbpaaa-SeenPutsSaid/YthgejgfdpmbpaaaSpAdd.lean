/- Package span: Add. -/
import Derived.Test.YthgejgfdpmbpaaaSpLay
import Derived.Deep.QuietTactic
import Derived.BigQuiet
set_option linter.unusedVariables false
set_option linter.unusedSimpArgs false
namespace Go.Proofs.Ythgejgfdpmbpaaa
open Go.RowKit Go.Shelf

theorem has2_any (w : World) (p : Nat) (R : List Rng) (n : Nat) (h : SetAt w p R) (hw : WF 1 R) (hsz : R.length ≤ 1000000) :
    Calls Try.prog 28 #[.pointer (some ⟨p, 0, none⟩), .int .u64 (n : Nat)] w fun e w' => e = .returned (.bool (memR R n)) ∧ Chg [] w w' := by
  obtain ⟨L, hL⟩ : ∃ L, L = splitL R n := ⟨_, rfl⟩
  obtain ⟨T, hT⟩ : ∃ T, T = splitT R n := ⟨_, rfl⟩
  have e : R = L ++ T := by rw [hL, hT]; exact (split_eq R n).symm
  have h1 : ∀ r ∈ L, r.2 < n := by rw [hL]; exact splitL_lt R n
  have h2 : ∀ r ∈ T, n ≤ r.2 := by rw [hT]; exact splitT_ge n hw
  rw [e] at h hw hsz ⊢
  rw [memR_split h1 hw h2]
  have := has_any w p L T n h h1 h2 (by omega)
  cases T with
  | nil => exact this
  | cons t T => exact this

def addR (R : List Rng) (n : Nat) : List Rng := if (0 < n && !memR R n) = true then layR (splitL R n) (splitT R n) n else R

set_option maxHeartbeats 1000000 in
theorem add_any (w : World) (p : Nat) (R : List Rng) (n : Nat) (h : SetAt w p R) (hw : WF 1 R) (hsz : R.length ≤ 1000000) (hn : n < M64) :
    Calls Try.prog 26 #[.pointer (some ⟨p, 0, none⟩), .int .u64 (n : Nat)] w fun e w' => e = .returned (.bool (0 < n && !memR R n)) ∧ SetAt w' p (addR R n) ∧ Chg [p] w w' := by
  have HH := fun (W : World) (hc : Chg [] w W) => has2_any W p R n (h.chg hc) hw hsz
  have HHa := Lib.hid HH
  have HS := Lib.hid h
  obtain ⟨A, cap, hb, hr, hin⟩ := h
  have b1 := hb.cell 1
  simp only [List.getElem?_toArray, List.getElem?_cons_succ, List.getElem?_cons_zero] at b1
  clear hb hr hin HH
  by_cases hn0 : n = 0
  · subst hn0
    have e : addR R 0 = R := by simp [addR]
    rw [e]
    clear e
    go_enter Try.func26, Try.ntmps26
    go_wp2
    go_ret
    exact ⟨rfl, HS.out, Chg.refl _ _⟩
  · have hz : ((n : Int) == 0) = false := by simp; omega
    cases hm : memR R n with
    | true =>
      have e : addR R n = R := by simp [addR, hm]
      have eb : ((decide (0 < n)) && !true) = false := by simp
      rw [e, eb]
      have HHb : Hid (∀ (W : World), Chg [] w W → Calls Try.prog 28 #[.pointer (some ⟨p, 0, none⟩), .int .u64 (n : Nat)] W fun e w' => e = .returned (.bool true) ∧ Chg [] W w') := by rw [← hm]; exact HHa.out
      clear hm e eb HHa
      go_enter Try.func26, Try.ntmps26
      go_wp2_with (go_at_call 28; refine (HHb.out _ (Chg.refl _ _)).mono ?_; rintro e w' ⟨rfl, hc⟩; have HC := Lib.hid hc; clear hc)
      go_ret
      exact ⟨rfl, HS.out.chg HC.out, HC.out.mono (by simp)⟩
    | false =>
      have e : addR R n = layR (splitL R n) (splitT R n) n := by simp [addR, hm]; omega
      have eb : ((decide (0 < n)) && !false) = true := by simp; omega
      rw [e, eb]
      have HHb : Hid (∀ (W : World), Chg [] w W → Calls Try.prog 28 #[.pointer (some ⟨p, 0, none⟩), .int .u64 (n : Nat)] W fun e w' => e = .returned (.bool false) ∧ Chg [] W w') := by rw [← hm]; exact HHa.out
      have HL : Hid (∀ (W : World), Chg [] w W → Calls Try.prog 42 #[.pointer (some ⟨p, 0, none⟩), .agg #[.int .u64 (n : Nat), .int .u64 (n : Nat)]] W fun e w' => (∃ v, e = .returned v) ∧ SetAt w' p (layR (splitL R n) (splitT R n) n) ∧ Chg [p] W w') := by
        intro W hc
        have es := split_eq R n
        have hw2 : WF 1 (splitL R n ++ splitT R n) := by rw [es]; exact hw
        refine lay_any W p (splitL R n) (splitT R n) n (by rw [es]; exact HS.out.chg hc) (splitL_lt R n) (splitT_ge n hw) (by rw [es]; exact hsz) (not_mem_T hw2 (splitT_ge n hw) (by rw [es]; exact hm)) hn (by omega) (fun r hr => ?_)
        rw [es] at hr
        have := WF.mem hw r hr
        unfold M64 at this
        omega
      clear hm e eb HHa
      go_enter Try.func26, Try.ntmps26
      go_wp2_with (first
        | (go_at_call 28; refine (HHb.out _ (Chg.refl _ _)).mono ?_; rintro e w' ⟨rfl, hc⟩; have HC := Lib.hid hc; clear hc)
        | (go_at_call 42; refine (HL.out _ HC.out).mono ?_; rintro e w' ⟨⟨v, rfl⟩, hs, hc⟩; have HD := Lib.hid (And.intro hs hc); clear hs hc))
      go_ret
      exact ⟨rfl, HD.out.1, (HC.out.mono (by simp)).trans HD.out.2⟩

/-- Add, told by what is held. -/
theorem addR_facts {R : List Rng} {n : Nat} (hw : WF 1 R) (hn : n < M64) :
    WF 1 (addR R n) ∧ (∀ m, memR (addR R n) m = (memR R m || (decide (m = n) && decide (0 < n)))) ∧ sizeR (addR R n) = sizeR R + (if (0 < n && !memR R n) = true then 1 else 0) ∧ (addR R n).length ≤ R.length + 1 := by
  by_cases hb : (0 < n && !memR R n) = true
  · have e : addR R n = layR (splitL R n) (splitT R n) n := by unfold addR; rw [if_pos hb]
    have es := split_eq R n
    have hw2 : WF 1 (splitL R n ++ splitT R n) := by rw [es]; exact hw
    simp only [Bool.and_eq_true, decide_eq_true_eq, Bool.not_eq_true'] at hb
    obtain ⟨a1, a2, a3, a4⟩ := lay_facts hw2 (splitL_lt R n) (not_mem_T hw2 (splitT_ge n hw) (by rw [es]; exact hb.2)) hn hb.1
    rw [es] at a2 a3 a4
    rw [e]
    refine ⟨a1, fun m => ?_, ?_, a4⟩
    · rw [a2]; simp [hb.1]
    · rw [a3, hb.2]; simp [hb.1]
  · have e : addR R n = R := by unfold addR; rw [if_neg hb]
    rw [e, if_neg hb]
    refine ⟨hw, fun m => ?_, rfl, by omega⟩
    by_cases hm : m = n
    · subst hm
      simp only [Bool.and_eq_true, decide_eq_true_eq, Bool.not_eq_true', not_and, Bool.not_eq_false] at hb
      by_cases h0 : 0 < m
      · rw [hb h0]; simp
      · have d : decide (0 < m) = false := by simpa using h0
        rw [d]; simp
    · have d : decide (m = n) = false := by simpa using hm
      rw [d]; simp
end Go.Proofs.Ythgejgfdpmbpaaa
