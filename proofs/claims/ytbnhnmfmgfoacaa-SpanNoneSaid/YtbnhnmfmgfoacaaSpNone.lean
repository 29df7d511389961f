/- SpanNone: the walk. -/
import Derived.Test.YtbnhnmfmgfoacaaSpJoinNil
import Derived.Test.YtbnhnmfmgfoacaaSpLaw
set_option linter.unusedVariables false
set_option linter.unusedSimpArgs false
namespace Go.Proofs.Ytbnhnmfmgfoacaa
open Go.RowKit Go.Shelf

theorem add_fresh (w : World) (p n : Nat) (h : SetAt w p []) (hn : n < M64) : Calls Try.prog 12 #[.pointer (some ⟨p, 0, none⟩), .int .u64 (n : Nat)] w fun e w' => e = .returned (.bool (decide (0 < n))) ∧ Chg [p] w w' :=
  (add_any w p [] n h (by simp [WF]) (by decide) hn).mono fun _ _ ⟨he, _, hc⟩ => ⟨by rw [he]; simp [memR], hc⟩
set_option maxHeartbeats 4000000 in
theorem none_core (n : Nat) (hn : n < M64) (W : World) : Calls Try.prog 8 #[.int .u64 (n : Nat)] W fun e w' => e = .returned (.bool true) ∧ Chg [] W w' := by
  have HM := Lib.hid hn
  clear hn
  have hb := Blk.new W 46 #[.slice none 0 0, .bool false]
  have HB := Lib.hid hb
  clear hb
  obtain ⟨z, hz⟩ : ∃ z, z = W.heap.size := ⟨_, rfl⟩
  have hi0 : ∀ w, (Instr.index 47 (.agg #[.pointer none, .pointer (some ⟨W.heap.size, 0, none⟩)]) (.int .i64 0)).run Try.prog w = .ok (.pointer none) w := fun _ => by kernel_rfl
  have hi1 : ∀ w, (Instr.index 47 (.agg #[.pointer none, .pointer (some ⟨W.heap.size, 0, none⟩)]) (.int .i64 1)).run Try.prog w = .ok (.pointer (some ⟨W.heap.size, 0, none⟩)) w := fun _ => by kernel_rfl
  go_enter Try.func8, Try.ntmps8
  go_wp2_with fail
  go_loopw [5, 6, 8] (fun _ _ s8 wr => ∃ k : Int, (0 ≤ k ∧ k ≤ 2) ∧ s8 = .int .i64 k ∧ Chg [] W wr ∧ Blk wr W.heap.size 46 #[.slice none 0 0, .bool false]) (fun _ _ s8 _ => 2 - (intOf s8).toNat)
  case atStart => exact ⟨0, ⟨by omega, by omega⟩, rfl, (Chg.refl _ _).alloc _, HB.out⟩
  case round =>
    obtain ⟨k, hk, rfl, hc, hbr⟩ := hrel
    have HC := Lib.hid hc
    have HZ := Lib.hid hbr
    clear hc hbr
    obtain rfl | rfl | rfl : k = 0 ∨ k = 1 ∨ k = 2 := by omega
    · have HE : Hid (Emp none wr) := Lib.hid (.inl rfl)
      have HA := Lib.hid (emp_add HE.out (n : Int))
      go_wp2_with fail
      refine HA.out.mono ?_
      rintro e w1 ⟨rfl, rfl⟩
      have HH := Lib.hid (emp_has HE.out n)
      go_wp2_with fail
      refine HH.out.mono ?_
      rintro e w1 ⟨rfl, hc1⟩
      have H1 := Lib.hid (And.intro (HE.out.chg hc1) hc1)
      clear hc1
      go_wp2_with (first
        | (go_at_call 20; refine (emp_top H1.out.1).mono ?_; rintro e w' ⟨rfl, rfl⟩)
        | (go_at_call 21; refine (emp_low H1.out.1).mono ?_; rintro e w' ⟨rfl, rfl⟩)
        | (go_at_call 19; refine (emp_gaps H1.out.1).mono ?_; rintro e w' ⟨rfl, rfl⟩)
        | (go_at_call 17; refine (emp_ranges2 H1.out.1).mono ?_; rintro e w' ⟨rfl, rfl⟩)
        | (go_at_call 23; refine (emp_copy H1.out.1).mono ?_; rintro e w2 ⟨rfl, hs2, hc2⟩; have H2 := Lib.hid (And.intro hs2 (H1.out.2.trans hc2)); clear hs2 hc2)
        | (go_at_call 12; refine (add_fresh _ _ n H2.out.1 HM.out).mono ?_; rintro e w3 ⟨rfl, hc3⟩; have H3 := Lib.hid (H2.out.2.then_ hc3 (by intro b hb; simp at hb; subst hb; exact .inr H1.out.2.size)); clear hc3)
        | (go_at_call 22; refine (join_emp (HE.out.chg H3.out) (.inl rfl)).mono ?_; rintro e w4 ⟨rfl, _, hc4⟩; have H4 := Lib.hid (H3.out.trans hc4); clear hc4)
        | fail)
      go_roundw
      case rel => exact ⟨1, ⟨by omega, by omega⟩, rfl, HC.out.trans H4.out, HZ.out.chg H4.out (by simp)⟩
      case measure => simp [intOf]
    · have HE : Hid (Emp (some ⟨W.heap.size, 0, none⟩) wr) := Lib.hid (.inr ⟨_, rfl, HZ.out⟩)
      have HA := Lib.hid (emp_add HE.out (n : Int))
      go_wp2_with fail
      refine HA.out.mono ?_
      rintro e w1 ⟨rfl, rfl⟩
      have HH := Lib.hid (emp_has HE.out n)
      go_wp2_with fail
      refine HH.out.mono ?_
      rintro e w1 ⟨rfl, hc1⟩
      have H1 := Lib.hid (And.intro (HE.out.chg hc1) hc1)
      clear hc1
      go_wp2_with (first
        | (go_at_call 20; refine (emp_top H1.out.1).mono ?_; rintro e w' ⟨rfl, rfl⟩)
        | (go_at_call 21; refine (emp_low H1.out.1).mono ?_; rintro e w' ⟨rfl, rfl⟩)
        | (go_at_call 19; refine (emp_gaps H1.out.1).mono ?_; rintro e w' ⟨rfl, rfl⟩)
        | (go_at_call 17; refine (emp_ranges2 H1.out.1).mono ?_; rintro e w' ⟨rfl, rfl⟩)
        | (go_at_call 23; refine (emp_copy H1.out.1).mono ?_; rintro e w2 ⟨rfl, hs2, hc2⟩; have H2 := Lib.hid (And.intro hs2 (H1.out.2.trans hc2)); clear hs2 hc2)
        | (go_at_call 12; refine (add_fresh _ _ n H2.out.1 HM.out).mono ?_; rintro e w3 ⟨rfl, hc3⟩; have H3 := Lib.hid (H2.out.2.then_ hc3 (by intro b hb; simp at hb; subst hb; exact .inr H1.out.2.size)); clear hc3)
        | (go_at_call 22; refine (join_emp (HE.out.chg H3.out) (.inl rfl)).mono ?_; rintro e w4 ⟨rfl, _, hc4⟩; have H4 := Lib.hid (H3.out.trans hc4); clear hc4)
        | fail)
      go_roundw
      case rel => exact ⟨2, ⟨by omega, by omega⟩, rfl, HC.out.trans H4.out, HZ.out.chg H4.out (by simp)⟩
      case measure => simp [intOf]
    · go_wp2_with (go_at_call 10; refine (lives_any _).mono ?_; rintro e w1 ⟨rfl, hc1⟩)
      go_ret
      exact ⟨rfl, HC.out.trans hc1⟩
theorem spanNone.walk (a0 : Int) (w0 : (Lit.int .u64 a0).wf = true) (W : World) :
    Calls Try.prog 8 #[.int .u64 a0] W fun e w' => e = .returned (.bool true) ∧ Below W.heap.size W w' := by
  simp only [Lit.wf, Bool.and_eq_true, decide_eq_true_eq] at w0
  have e1 : IntKind.u64.min = 0 := rfl
  have e2 : IntKind.u64.max = 18446744073709551615 := rfl
  rw [e1, e2] at w0
  obtain ⟨n, rfl⟩ : ∃ n : Nat, a0 = (n : Int) := ⟨a0.toNat, by omega⟩
  exact (none_core n (by unfold M64; omega) W).mono fun _ _ ⟨he, hc⟩ => ⟨he, hc.below (Nat.le_refl _) (by simp)⟩
end Go.Proofs.Ytbnhnmfmgfoacaa
