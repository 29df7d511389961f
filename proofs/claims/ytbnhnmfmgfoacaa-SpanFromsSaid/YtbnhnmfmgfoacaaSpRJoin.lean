/- Package span: the document's Good and Join, walked. -/
import Derived.Test.YtbnhnmfmgfoacaaSpFromsP
set_option linter.unusedVariables false
set_option linter.unusedSimpArgs false
namespace Go.Proofs.Ytbnhnmfmgfoacaa
open Go.RowKit Go.Shelf Go.Proofs.YtbnhnmfmgfoacaaW.PrintWords

set_option maxRecDepth 100000 in
set_option maxHeartbeats 4000000 in
theorem rjoin_any (w : World) (A B : Option Addr) (c d : Nat) (Ra Rb : List Rng) (hr : RowG w A c Ra) (hs : RowG w B d Rb) (hla : Ra.length ≤ 300) (hlb : Rb.length ≤ 300) (ha : WF 1 Ra) (hb : WF 1 Rb) :
    Calls Try.prog 26 #[.slice A Ra.length c, .slice B Rb.length d] w fun e w' => ∃ A' c', e = .returned (.slice A' (joinP Ra Rb).length c') ∧ RowAt w' A' c' (joinP Ra Rb) ∧ Chg [] w w' := by
  obtain ⟨i0, hi, hz0, hz1, hz2⟩ := info_parts infoR
  have hown0 : ∃ A0 C0 w0, AppRun Try.prog 27 27 (.slice (some ⟨w.heap.size, 0, none⟩) 0 0) (.slice A Ra.length c) (w.alloc (.cells #[] 36)) (.slice A0 Ra.length C0) w0 ∧ RowAt w0 A0 C0 Ra ∧ Chg [] w w0 := by
    have hlit := World.ownsRow_lit (base := w.heap.size) (e := 36) (size := 2) w #[] 0 (Nat.le_refl _) (by decide) rfl
    rcases hr with ⟨rfl, rfl, rfl⟩ | ⟨ad, rfl, hl, hx⟩
    · refine ⟨_, _, _, AppRun.of (run_append_owned_none (P := Try.prog) _ w.heap.size 27 27 36 i0 2 Try.underlying27 hi _ 0 _ hlit), RowAt.of_owns (R := []) hlit rfl, (Chg.refl _ _).alloc _⟩
    · obtain ⟨v', w', hr, h2, h3, _⟩ := run_append_own (P := Try.prog) _ w.heap.size 27 27 36 i0 zeroR 2 16 Try.underlying27 hi hz0 hz1 hz2 rfl (by decide) _ 0 _ hlit ad Ra.length c (cellsR Ra) (by rw [cellsR_len]) (fun j u hu => ((Chg.refl [] w).alloc _).cell_some (hx j u hu) (by simp)) (cellsR_one Ra) (by simp only [maxLen]; omega) (by omega) (by simp)
      obtain ⟨A', cap', rfl, hfr⟩ := own_form h2
      rw [Nat.zero_add] at hr h2
      refine ⟨A', cap', w', AppRun.of hr, RowAt.of_owns (by simpa using h2) rfl, ((Chg.refl [] w).alloc _).grown h3 (fun k hk => .inr (by have := (hlit.lt k hk.symm.symm).1; omega))⟩
  obtain ⟨A0, C0, w0, hrun, hrow0, hc0⟩ := hown0
  have H0 := Lib.hid (And.intro hrow0 hc0)
  have HS := Lib.hid (hs.chg0 hc0)
  have HWF := Lib.hid (And.intro ha hb)
  obtain ⟨n, hn⟩ : ∃ n, n = Ra.length := ⟨_, rfl⟩
  obtain ⟨m, hm⟩ : ∃ m, m = Rb.length := ⟨_, rfl⟩
  rw [← hn] at hrun hla ⊢
  rw [← hm] at hlb ⊢
  have HN := Lib.hid (And.intro hn hm)
  clear hr hs ha hb hi hz0 hz1 hz2 hrow0 hc0 hn hm
  go_enter Try.func26, Try.ntmps26
  go_wp2_with (at_builtin; refine wpList_app_run (by rfl) _ _ _ (by rfl) _ _ _ _ (by rfl) (by rfl) hrun ?_)
  clear hrun
  go_loopw [5, 7, 13] (fun s5 _ s13 wr => ∃ (k : Nat) (vA : Option Addr) (vC : Nat) (L : Nat), k ≤ m ∧ s13 = .int .i64 (k : Nat) ∧ s5 = .slice vA L vC ∧ L = (joinP Ra (Rb.take k)).length ∧ RowAt wr vA vC (joinP Ra (Rb.take k)) ∧ Chg [] w0 wr) (fun _ _ s13 _ => m - (intOf s13).toNat)
  case atStart => exact ⟨0, A0, C0, n, Nat.zero_le _, rfl, rfl, by rw [HN.out.1]; rfl, H0.out.1, Chg.refl _ _⟩
  case round =>
    obtain ⟨k, vA, vC, L, hk, rfl, rfl, hL, hrow, hc⟩ := hrel
    have HR := Lib.hid (And.intro hrow (And.intro hc hL))
    clear hrow hc hL
    by_cases hlt : k < m
    · have hkl : k < Rb.length := by rw [← HN.out.2]; exact hlt
      obtain ⟨ad, rfl, hcap, x0, x1⟩ := (HS.out.chg0 HR.out.2.1).at_ hkl
      have hmem := HWF.out.2.mem Rb[k] (List.getElem_mem hkl)
      have hstep : joinP Ra (Rb.take (k + 1)) = putR (joinP Ra (Rb.take k)) Rb[k] := by
        rw [List.take_add_one, List.getElem?_eq_getElem hkl]
        unfold joinP
        rw [List.foldl_append]
        rfl
      have hwfk := joinP_facts (Rb.take k) Ra HWF.out.1 (fun r hr => HWF.out.2.mem r (List.mem_of_mem_take hr))
      have hlen := joinP_len (Rb.take k) Ra
      obtain ⟨lo, hi, hre⟩ : ∃ lo hi, Rb[k] = (lo, hi) := ⟨_, _, rfl⟩
      rw [hre] at x0 x1 hmem hstep
      simp only at x0 x1 hmem
      have HP := Lib.hid (rput_any (wr.alloc (.cells #[.int .u64 (lo : Nat), .int .u64 (hi : Nat)] 36)) vA vC _ lo hi (HR.out.1.chg0 ((Chg.refl [] wr).alloc _)) (by rw [List.length_take] at hlen; rw [← HN.out.1] at hlen; omega) (fun r hr => ⟨(hwfk.1.mem r hr).2.1, (hwfk.1.mem r hr).2.2⟩) hmem.2.1 hmem.2.2)
      rw [← hstep, ← HR.out.2.2] at HP
      have hq := Blk.new wr 36 #[.int .u64 (lo : Nat), .int .u64 (hi : Nat)]
      have z0 := hq.cell 0
      have z1 := hq.cell 1
      simp only [List.getElem?_toArray, List.getElem?_cons_succ, List.getElem?_cons_zero] at z0 z1
      have i1 : (0 : Int) ≤ (k : Int) := by omega
      have i2 : (k : Int) < (m : Int) := by omega
      clear hstep hwfk hlen hre hmem hkl hcap hq
      go_wp2_with fail
      refine HP.out.mono ?_
      rintro e w1 ⟨A1, c1, rfl, hr1, hc1⟩
      have H1 := Lib.hid (And.intro hr1 hc1)
      clear hr1 hc1
      go_wp2_with fail
      go_roundw
      case rel => exact ⟨k + 1, A1, c1, _, by omega, by go_num, rfl, rfl, H1.out.1, (HR.out.2.1.alloc _).trans H1.out.2⟩
      case measure => simp [intOf]; omega
    · obtain rfl : m = k := by omega
      have e : Rb.take m = Rb := by rw [HN.out.2, List.take_length]
      rw [e] at HR
      clear hlt e
      go_wp2_with fail
      go_ret
      exact ⟨vA, vC, by rw [← HR.out.2.2]; rfl, HR.out.1, H0.out.2.trans HR.out.2.1⟩
set_option maxRecDepth 100000 in
set_option maxHeartbeats 8000000 in
theorem good_gen (w : World) (A : Option Addr) (cap : Nat) (R : List Rng) (hr : RowG w A cap R) (hl : R.length ≤ 1000) (hv : ∀ r ∈ R, r.1 < M64 ∧ r.2 < M64) :
    Calls Try.prog 25 #[.slice A R.length cap] w fun e w' => (∃ b, e = .returned (.bool b) ∧ (b = true ↔ WF 1 R)) ∧ Chg [] w w' := by
  have HR := Lib.hid hr
  have HV := Lib.hid hv
  obtain ⟨n, hn⟩ : ∃ n, n = R.length := ⟨_, rfl⟩
  rw [← hn] at hl ⊢
  have HN := Lib.hid hn
  clear hr hv hn
  go_enter Try.func25, Try.ntmps25
  go_wp2_with fail
  go_loopw [3, 4, 7] (fun _ _ s7 wr => ∃ k : Nat, k ≤ n ∧ s7 = .int .i64 (k : Nat) ∧ Chg [] w wr ∧ WF 1 (R.take k)) (fun _ _ s7 _ => n - (intOf s7).toNat)
  case atStart => exact ⟨0, Nat.zero_le _, rfl, Chg.refl _ _, trivial⟩
  case round =>
    obtain ⟨k, hk, rfl, hc, hwf⟩ := hrel
    have HC := Lib.hid (And.intro hc hwf)
    clear hc hwf
    by_cases hlt : k < n
    · have hkl : k < R.length := by rw [← HN.out]; exact hlt
      obtain ⟨ad, rfl, hcap, x0, x1⟩ := (HR.out.chg0 HC.out.1).at_ hkl
      have hiff := wf_take_succ hkl HC.out.2
      have hrm := HV.out R[k] (List.getElem_mem hkl)
      obtain ⟨lo, hi, hre⟩ : ∃ lo hi, R[k] = (lo, hi) := ⟨_, _, rfl⟩
      rw [hre] at x0 x1 hiff hrm
      simp only at x0 x1 hiff hrm
      obtain ⟨la, hla⟩ : ∃ la, la = lastR (R.take k) := ⟨_, rfl⟩
      rw [← hla] at hiff
      have hbad : ¬ (1 ≤ lo ∧ lo ≤ hi ∧ hi < M64 ∧ (0 < k → la + 2 ≤ lo)) → ¬ WF 1 R := fun h hw => h (hiff.1 (wf_take hw (k + 1)))
      have HI := Lib.hid (And.intro hiff hbad)
      have hm1 : lo < 18446744073709551616 := hrm.1
      have hm2 : hi < 18446744073709551616 := hrm.2
      have i1 : (0 : Int) ≤ (k : Int) := by omega
      have i2 : (k : Int) < (n : Int) := by omega
      have hq := Blk.new wr 36 #[.int .u64 (lo : Nat), .int .u64 (hi : Nat)]
      have z0 := hq.cell 0
      have z1 := hq.cell 1
      simp only [List.getElem?_toArray, List.getElem?_cons_succ, List.getElem?_cons_zero] at z0 z1
      by_cases c1 : lo < 1
      · have HBAD : Hid (¬ WF 1 R) := Lib.hid (HI.out.2 (by omega))
        have t1 : decide (lo < 1) = true := decide_eq_true c1
        have t2 : decide ((lo : Int) < 1) = true := decide_eq_true (by omega)
        have t3 : decide (lo = 0) = true := decide_eq_true (by omega)
        clear c1 hiff hrm hre hla hbad hkl hcap hq
        go_wp2_with fail
        go_quiet (fail)
        go_wp2_with fail
        go_ret
        exact ⟨⟨false, rfl, by simp [HBAD.out]⟩, (HC.out.1.alloc _).drewN _⟩
      · have t1 : decide (lo < 1) = false := decide_eq_false c1
        have t2 : decide ((lo : Int) < 1) = false := decide_eq_false (by omega)
        have t3 : decide (lo = 0) = false := decide_eq_false (by omega)
        by_cases c2 : hi < lo
        · have HBAD : Hid (¬ WF 1 R) := Lib.hid (HI.out.2 (by omega))
          have u1 : decide (hi < lo) = true := decide_eq_true c2
          clear c1 c2 hiff hrm hre hla hbad hkl hcap hq
          go_wp2_with fail
          go_quiet (fail)
          go_wp2_with fail
          go_ret
          exact ⟨⟨false, rfl, by simp [HBAD.out]⟩, (HC.out.1.alloc _).drewN _⟩
        · have u1 : decide (hi < lo) = false := decide_eq_false c2
          by_cases c3 : 0 < k
          · have v1 : decide (0 < k) = true := decide_eq_true c3
            have v2 : decide ((0 : Int) < (k : Int)) = true := decide_eq_true (by omega)
            obtain ⟨q, hq1⟩ : ∃ q : Nat, q = k - 1 := ⟨_, rfl⟩
            have hql : q < R.length := by omega
            have wq : (k : Int) - 1 = (q : Int) := by omega
            have q1 : (0 : Int) ≤ (q : Int) := by omega
            have q2 : (q : Int) < (n : Int) := by omega
            obtain ⟨ad', hade, _, p0, p1⟩ := (HR.out.chg0 HC.out.1).at_ hql
            obtain rfl : ad = ad' := Option.some.inj hade
            have hlq : R[q].2 = la := by
              rw [← lastR_succ hql, hla]
              congr 2
              omega
            rw [hlq] at p1
            have p1' := ((Chg.refl [] wr).alloc (.cells #[.int .u64 (lo : Nat), .int .u64 (hi : Nat)] 36)).cell_some p1 (by simp)
            by_cases c4 : lo ≤ la
            · have HBAD : Hid (¬ WF 1 R) := Lib.hid (HI.out.2 (by omega))
              have y1 : decide (lo ≤ la) = true := decide_eq_true c4
              clear c1 c2 c3 c4 hiff hrm hre hla hbad hkl hcap hq hq1 hql hlq hade p0 p1
              go_wp2_with fail
              go_quiet (fail)
              go_wp2_with fail
              go_ret
              exact ⟨⟨false, rfl, by simp [HBAD.out]⟩, (HC.out.1.alloc _).drewN _⟩
            · have y1 : decide (lo ≤ la) = false := decide_eq_false c4
              obtain ⟨d, hd⟩ : ∃ d : Nat, d = lo - 1 := ⟨_, rfl⟩
              have wd : ∀ q : IntKind, q = .u64 → q.wrap ((lo : Int) - 1) = (d : Int) := fun q hq => by rw [hq, IntKind.wrap_u64]; omega
              by_cases c5 : d = la
              · have HBAD : Hid (¬ WF 1 R) := Lib.hid (HI.out.2 (by omega))
                have y2 : (d == la) = true := by rw [beq_iff_eq]; exact c5
                have y3 : ((d : Int) == (la : Int)) = true := by rw [beq_iff_eq]; omega
                clear c1 c2 c3 c4 c5 hd hiff hrm hre hla hbad hkl hcap hq hq1 hql hlq hade p0 p1
                go_wp2_with fail
                go_quiet (fail)
                go_wp2_with fail
                go_ret
                exact ⟨⟨false, rfl, by simp [HBAD.out]⟩, (HC.out.1.alloc _).drewN _⟩
              · have y2 : (d == la) = false := by rw [beq_eq_false_iff_ne]; exact c5
                have y3 : ((d : Int) == (la : Int)) = false := by rw [beq_eq_false_iff_ne]; omega
                have HG : Hid (WF 1 (R.take (k + 1))) := Lib.hid (HI.out.1.2 ⟨by omega, by omega, hm2, fun _ => by omega⟩)
                clear c1 c2 c3 c4 c5 hd hiff hrm hre hla hbad hkl hcap hq hq1 hql hlq hade p0 p1
                go_wp2_with fail
                go_quiet (fail)
                go_wp2_with fail
                go_roundw
                case rel => exact ⟨k + 1, by omega, by go_num, (HC.out.1.alloc _).drewN _, HG.out⟩
                case measure => simp [intOf]; omega
          · have v1 : decide (0 < k) = false := decide_eq_false c3
            have v2 : decide ((0 : Int) < (k : Int)) = false := decide_eq_false (by omega)
            have HG : Hid (WF 1 (R.take (k + 1))) := Lib.hid (HI.out.1.2 ⟨by omega, by omega, hm2, fun h => absurd h c3⟩)
            clear c1 c2 c3 hiff hrm hre hla hbad hkl hcap hq
            go_wp2_with fail
            go_quiet (fail)
            go_wp2_with fail
            go_roundw
            case rel => exact ⟨k + 1, by omega, by go_num, (HC.out.1.alloc _).drewN _, HG.out⟩
            case measure => simp [intOf]; omega
    · obtain rfl : n = k := by omega
      have e : R.take n = R := by rw [HN.out, List.take_length]
      have HW : Hid (WF 1 R) := Lib.hid (by have := HC.out.2; rwa [e] at this)
      clear hlt e
      go_wp2_with fail
      go_ret
      exact ⟨⟨true, rfl, by simp [HW.out]⟩, HC.out.1⟩
end Go.Proofs.Ytbnhnmfmgfoacaa
