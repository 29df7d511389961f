/- Package span: a set that is nil. -/
import Derived.Test.YthgejgfdpmbpaaaSpSt
set_option linter.unusedVariables false
set_option linter.unusedSimpArgs false
namespace Go.Proofs.Ythgejgfdpmbpaaa
open Go.RowKit Go.Shelf
theorem nil_ranges (w : World) : Calls Try.prog 44 #[.pointer none] w fun e w' => e = .returned (.slice none 0 0) ∧ w = w' := by
  go_enter Try.func44, Try.ntmps44
  go_wp2
  go_ret
  exact ⟨rfl, rfl⟩
theorem nil_low (w : World) : Calls Try.prog 41 #[.pointer none] w fun e w' => e = .returned (.int .u64 0) ∧ w = w' := by
  go_enter Try.func41, Try.ntmps41
  go_wp2_with (go_at_call 44; refine (nil_ranges _).mono ?_; rintro e w' ⟨rfl, rfl⟩)
  go_ret
  exact ⟨rfl, rfl⟩
theorem nil_top (w : World) : Calls Try.prog 48 #[.pointer none] w fun e w' => e = .returned (.int .u64 0) ∧ w = w' := by
  go_enter Try.func48, Try.ntmps48
  go_wp2_with (go_at_call 44; refine (nil_ranges _).mono ?_; rintro e w' ⟨rfl, rfl⟩)
  go_ret
  exact ⟨rfl, rfl⟩
theorem nil_gaps (w : World) : Calls Try.prog 36 #[.pointer none] w fun e w' => e = .returned (.int .i64 0) ∧ w = w' := by
  go_enter Try.func36, Try.ntmps36
  go_wp2_with (first
    | (go_at_call 44; refine (nil_ranges _).mono ?_; rintro e w' ⟨rfl, rfl⟩)
    | (go_at_call 41; refine (nil_low _).mono ?_; rintro e w' ⟨rfl, rfl⟩))
  go_ret
  exact ⟨rfl, rfl⟩
theorem nil_add (w : World) (n : Int) : Calls Try.prog 26 #[.pointer none, .int .u64 n] w fun e w' => e = .returned (.bool false) ∧ w = w' := by
  go_enter Try.func26, Try.ntmps26
  go_wp2
  go_ret
  exact ⟨rfl, rfl⟩
theorem nil_near (w : World) (n : Nat) : Calls Try.prog 45 #[.pointer none, .int .u64 (n : Nat)] w fun e w' => e = .returned (.int .i64 0) ∧ Chg [] w w' := by
  have hS := fun (W : World) => search_any 50 #[.pointer (some ⟨w.heap.size + 1, 0, none⟩), .pointer (some ⟨w.heap.size, 0, none⟩)] 0 0 (fun _ => true) W
      (enters_of Try.func50 (by kernel_rfl) rfl) (by omega) (fun W' i hc hi => absurd hi (by omega)) (Nat.le_refl _) (fun t ht => absurd ht (by omega)) (fun t h1 h2 => absurd h2 (by omega))
  have HS := Lib.hid hS
  clear hS
  go_enter Try.func45, Try.ntmps45
  go_wp2_with (first
    | (go_at_call 44; refine (nil_ranges _).mono ?_; rintro e w' ⟨rfl, rfl⟩)
    | (go_at_call 49; refine (HS.out _).mono ?_; rintro e w' ⟨rfl, hc⟩; have HC := Lib.hid hc; clear hc))
  go_ret
  exact ⟨rfl, ((((Chg.refl [] w).alloc _).alloc _)).trans HC.out⟩
theorem nil_has (w : World) (n : Nat) : Calls Try.prog 28 #[.pointer none, .int .u64 (n : Nat)] w fun e w' => e = .returned (.bool false) ∧ Chg [] w w' := by
  rcases Nat.eq_zero_or_pos n with rfl | h0
  · go_enter Try.func28, Try.ntmps28
    go_wp2_with (first
      | (go_at_call 45; refine (nil_near _ 0).mono ?_; rintro e w' ⟨rfl, hc⟩; have HC := Lib.hid hc; clear hc)
      | (go_at_call 44; refine (nil_ranges _).mono ?_; rintro e w' ⟨rfl, rfl⟩))
    go_ret
    exact ⟨rfl, HC.out⟩
  · have t1 : decide (0 < n) = true := decide_eq_true h0
    go_enter Try.func28, Try.ntmps28
    go_wp2_with (first
      | (go_at_call 45; refine (nil_near _ n).mono ?_; rintro e w' ⟨rfl, hc⟩; have HC := Lib.hid hc; clear hc)
      | (go_at_call 44; refine (nil_ranges _).mono ?_; rintro e w' ⟨rfl, rfl⟩))
    go_ret
    exact ⟨rfl, HC.out⟩
theorem nil_ranges2 (w : World) : Calls Try.prog 27 #[.pointer none] w fun e w' => e = .returned (.slice none 0 0) ∧ w = w' := by
  have hnil := fun w A l c => run_eql_slice_nil (P := Try.prog) w 30 64 A l c Try.underlying30
  have HC : Hid (Calls Try.prog 43 #[.slice none 0 0] w fun e w' => e = .returned (.slice none 0 0) ∧ w = w') := by
    refine (show Calls Try.prog 43 #[.slice none 0 0] w fun e w' => e = .returned (.slice none 0 0) ∧ w = w' from ?_)
    go_enter Try.func43, Try.ntmps43
    go_wp2
    go_ret
    exact ⟨rfl, rfl⟩
  clear hnil
  go_enter Try.func27, Try.ntmps27
  go_wp2_with (first
    | (go_at_call 44; refine (nil_ranges _).mono ?_; rintro e w' ⟨rfl, rfl⟩)
    | (go_at_call 43; refine HC.out.mono ?_; rintro e w' ⟨rfl, rfl⟩))
  go_ret
  exact ⟨rfl, rfl⟩
end Go.Proofs.Ythgejgfdpmbpaaa
