/- Package span: the document's Good, walked. -/
import Derived.Test.YthgejgfdpmbpaaaSpGen
import Derived.Deep.QuietTactic
import Derived.BigQuiet
set_option linter.unusedVariables false
set_option linter.unusedSimpArgs false
namespace Go.Proofs.Ythgejgfdpmbpaaa
open Go.RowKit Go.Shelf

set_option maxRecDepth 100000 in
set_option maxHeartbeats 8000000 in
theorem good_gen (w : World) (A : Option Addr) (cap : Nat) (R : List Rng) (hr : RowG w A cap R) (hl : R.length ≤ 1000) (hv : ∀ r ∈ R, r.1 < M64 ∧ r.2 < M64) :
    Calls Try.prog 40 #[.slice A R.length cap] w fun e w' => (∃ b, e = .returned (.bool b) ∧ (b = true ↔ WF 1 R)) ∧ Chg [] w w' := by
  have HR := Lib.hid hr
  have HV := Lib.hid hv
  obtain ⟨n, hn⟩ : ∃ n, n = R.length := ⟨_, rfl⟩
  rw [← hn] at hl ⊢
  have HN := Lib.hid hn
  clear hr hv hn
  go_enter Try.func40, Try.ntmps40
  go_wp2_with fail
  go_loopw [3, 4, 7] (fun _ _ s7 wr => ∃ k : Nat, k ≤ n ∧ s7 = .int .i64 (k : Nat) ∧ Chg [] w wr ∧ WF 1 (R.take k)) (fun _ _ s7 _ => n - (intOf s7).toNat)
  case atStart => exact ⟨0, Nat.zero_le _, rfl, Chg.refl _ _, trivial⟩
  case round =>
    obtain ⟨k, hk, rfl, hc, hwf⟩ := hrel
    have HC := Lib.hid (And.intro hc hwf)
    clear hc hwf
    by_cases hlt : k < n
    · have hkl : k < R.length := by rw [← HN.out]; exact hlt
      obtain ⟨ad, rfl, hcap, x0, x1⟩ := (HR.out.chg0 HC.out.1).at_ hkl
      have hiff := wf_take_succ hkl HC.out.2
      have hrm := HV.out R[k] (List.getElem_mem hkl)
      obtain ⟨lo, hi, hre⟩ : ∃ lo hi, R[k] = (lo, hi) := ⟨_, _, rfl⟩
      rw [hre] at x0 x1 hiff hrm
      simp only at x0 x1 hiff hrm
      obtain ⟨la, hla⟩ : ∃ la, la = lastR (R.take k) := ⟨_, rfl⟩
      rw [← hla] at hiff
      have hbad : ¬ (1 ≤ lo ∧ lo ≤ hi ∧ hi < M64 ∧ (0 < k → la + 2 ≤ lo)) → ¬ WF 1 R := fun h hw => h (hiff.1 (wf_take hw (k + 1)))
      have HI := Lib.hid (And.intro hiff hbad)
      have hm1 : lo < 18446744073709551616 := hrm.1
      have hm2 : hi < 18446744073709551616 := hrm.2
      have i1 : (0 : Int) ≤ (k : Int) := by omega
      have i2 : (k : Int) < (n : Int) := by omega
      have hq := Blk.new wr 64 #[.int .u64 (lo : Nat), .int .u64 (hi : Nat)]
      have z0 := hq.cell 0
      have z1 := hq.cell 1
      simp only [List.getElem?_toArray, List.getElem?_cons_succ, List.getElem?_cons_zero] at z0 z1
      by_cases c1 : lo < 1
      · have HBAD : Hid (¬ WF 1 R) := Lib.hid (HI.out.2 (by omega))
        have t1 : decide (lo < 1) = true := decide_eq_true c1
        have t2 : decide ((lo : Int) < 1) = true := decide_eq_true (by omega)
        have t3 : decide (lo = 0) = true := decide_eq_true (by omega)
        clear c1 hiff hrm hre hla hbad hkl hcap hq
        go_wp2_with fail
        go_quiet (fail)
        go_wp2_with fail
        go_ret
        exact ⟨⟨false, rfl, by simp [HBAD.out]⟩, (HC.out.1.alloc _).drewN _⟩
      · have t1 : decide (lo < 1) = false := decide_eq_false c1
        have t2 : decide ((lo : Int) < 1) = false := decide_eq_false (by omega)
        have t3 : decide (lo = 0) = false := decide_eq_false (by omega)
        by_cases c2 : hi < lo
        · have HBAD : Hid (¬ WF 1 R) := Lib.hid (HI.out.2 (by omega))
          have u1 : decide (hi < lo) = true := decide_eq_true c2
          clear c1 c2 hiff hrm hre hla hbad hkl hcap hq
          go_wp2_with fail
          go_quiet (fail)
          go_wp2_with fail
          go_ret
          exact ⟨⟨false, rfl, by simp [HBAD.out]⟩, (HC.out.1.alloc _).drewN _⟩
        · have u1 : decide (hi < lo) = false := decide_eq_false c2
          by_cases c3 : 0 < k
          · have v1 : decide (0 < k) = true := decide_eq_true c3
            have v2 : decide ((0 : Int) < (k : Int)) = true := decide_eq_true (by omega)
            obtain ⟨q, hq1⟩ : ∃ q : Nat, q = k - 1 := ⟨_, rfl⟩
            have hql : q < R.length := by omega
            have wq : (k : Int) - 1 = (q : Int) := by omega
            have q1 : (0 : Int) ≤ (q : Int) := by omega
            have q2 : (q : Int) < (n : Int) := by omega
            obtain ⟨ad', hade, _, p0, p1⟩ := (HR.out.chg0 HC.out.1).at_ hql
            obtain rfl : ad = ad' := Option.some.inj hade
            have hlq : R[q].2 = la := by
              rw [← lastR_succ hql, hla]
              congr 2
              omega
            rw [hlq] at p1
            have p1' := ((Chg.refl [] wr).alloc (.cells #[.int .u64 (lo : Nat), .int .u64 (hi : Nat)] 64)).cell_some p1 (by simp)
            by_cases c4 : lo ≤ la
            · have HBAD : Hid (¬ WF 1 R) := Lib.hid (HI.out.2 (by omega))
              have y1 : decide (lo ≤ la) = true := decide_eq_true c4
              clear c1 c2 c3 c4 hiff hrm hre hla hbad hkl hcap hq hq1 hql hlq hade p0 p1
              go_wp2_with fail
              go_quiet (fail)
              go_wp2_with fail
              go_ret
              exact ⟨⟨false, rfl, by simp [HBAD.out]⟩, (HC.out.1.alloc _).drewN _⟩
            · have y1 : decide (lo ≤ la) = false := decide_eq_false c4
              obtain ⟨d, hd⟩ : ∃ d : Nat, d = lo - 1 := ⟨_, rfl⟩
              have wd : ∀ q : IntKind, q = .u64 → q.wrap ((lo : Int) - 1) = (d : Int) := fun q hq => by rw [hq, IntKind.wrap_u64]; omega
              by_cases c5 : d = la
              · have HBAD : Hid (¬ WF 1 R) := Lib.hid (HI.out.2 (by omega))
                have y2 : (d == la) = true := by rw [beq_iff_eq]; exact c5
                have y3 : ((d : Int) == (la : Int)) = true := by rw [beq_iff_eq]; omega
                clear c1 c2 c3 c4 c5 hd hiff hrm hre hla hbad hkl hcap hq hq1 hql hlq hade p0 p1
                go_wp2_with fail
                go_quiet (fail)
                go_wp2_with fail
                go_ret
                exact ⟨⟨false, rfl, by simp [HBAD.out]⟩, (HC.out.1.alloc _).drewN _⟩
              · have y2 : (d == la) = false := by rw [beq_eq_false_iff_ne]; exact c5
                have y3 : ((d : Int) == (la : Int)) = false := by rw [beq_eq_false_iff_ne]; omega
                have HG : Hid (WF 1 (R.take (k + 1))) := Lib.hid (HI.out.1.2 ⟨by omega, by omega, hm2, fun _ => by omega⟩)
                clear c1 c2 c3 c4 c5 hd hiff hrm hre hla hbad hkl hcap hq hq1 hql hlq hade p0 p1
                go_wp2_with fail
                go_quiet (fail)
                go_wp2_with fail
                go_roundw
                case rel => exact ⟨k + 1, by omega, by go_num, (HC.out.1.alloc _).drewN _, HG.out⟩
                case measure => simp [intOf]; omega
          · have v1 : decide (0 < k) = false := decide_eq_false c3
            have v2 : decide ((0 : Int) < (k : Int)) = false := decide_eq_false (by omega)
            have HG : Hid (WF 1 (R.take (k + 1))) := Lib.hid (HI.out.1.2 ⟨by omega, by omega, hm2, fun h => absurd h c3⟩)
            clear c1 c2 c3 hiff hrm hre hla hbad hkl hcap hq
            go_wp2_with fail
            go_quiet (fail)
            go_wp2_with fail
            go_roundw
            case rel => exact ⟨k + 1, by omega, by go_num, (HC.out.1.alloc _).drewN _, HG.out⟩
            case measure => simp [intOf]; omega
    · obtain rfl : n = k := by omega
      have e : R.take n = R := by rw [HN.out, List.take_length]
      have HW : Hid (WF 1 R) := Lib.hid (by have := HC.out.2; rwa [e] at this)
      clear hlt e
      go_wp2_with fail
      go_ret
      exact ⟨⟨true, rfl, by simp [HW.out]⟩, HC.out.1⟩
end Go.Proofs.Ythgejgfdpmbpaaa
