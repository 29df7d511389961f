/- Package span: sets without ranges joined. -/
import Derived.Test.YtbnhnmfmgfoacaaSpEmpty
import Derived.Test.YtbnhnmfmgfoacaaSortLay
set_option linter.unusedVariables false
set_option linter.unusedSimpArgs false
namespace Go.Proofs.Ytbnhnmfmgfoacaa
open Go.RowKit Go.Shelf

theorem ins_nil (w : World) (f : Value) : Calls Try.prog 41 #[.slice none 0 0, .int .i64 0, .int .i64 0, f] w fun e w' => e = .returned (.tuple #[]) ∧ w = w' := by
  go_enter Try.func41, Try.ntmps41
  go_wp2_with fail
  refine wp_loop_once ?_
  go_wp2_with fail
  go_end0
  exact ⟨rfl, rfl⟩
theorem pdq_nil (w : World) (l : Int) (f : Value) : Calls Try.prog 39 #[.slice none 0 0, .int .i64 0, .int .i64 0, .int .i64 l, f] w fun e w' => e = .returned (.tuple #[]) ∧ w = w' := by
  go_enter Try.func39, Try.ntmps39
  go_wp2_with fail
  refine wp_loop_once ?_
  go_wp2_with (go_at_call 41; refine (ins_nil _ _).mono ?_; rintro e w' ⟨rfl, rfl⟩)
  exact bodyPost_ret (results_none rfl _ _ _) rfl ⟨rfl, rfl⟩
theorem len_any (n : Nat) (hn : n ≤ 1000000000) (w : World) : Calls Try.prog 40 #[.int .u64 (n : Int)] w fun e w' => e = .returned (.int .i64 (Lib.bitLen n : Nat)) ∧ w' = w := by
  have h := Any.bits_Len (SlLaysF0.n15.bits (P := Try.prog) (ρ := Try.sortRng_ren) { Try.sortRng with }) (n : Int) w (by omega) (by omega)
  rwa [Int.toNat_natCast] at h
theorem sort_nil (w : World) (f : Value) : Calls Try.prog 35 #[.slice none 0 0, f] w fun e w' => e = .returned (.tuple #[]) ∧ w = w' := by
  have HL := Lib.hid (len_any 0 (by omega))
  go_enter Try.func35, Try.ntmps35
  go_wp2_with (first
    | (go_at_call 40; refine (HL.out _).mono ?_; rintro e w' ⟨rfl, rfl⟩)
    | (go_at_call 39; refine (pdq_nil _ _ _).mono ?_; rintro e w' ⟨rfl, rfl⟩))
  go_end0
  exact ⟨rfl, rfl⟩
theorem append_none (w : World) : (Builtin.append_ #[27, 27] 27 #[.slice none 0 0, .slice none 0 0]).run Try.prog w = .ok (.slice none 0 0) w := by kernel_rfl
theorem join_emp {a b : Option Addr} {w : World} (ha : Emp a w) (hb : Emp b w) : Calls Try.prog 22 #[.pointer a, .pointer b] w fun e w' => e = .returned (.pointer (some ⟨w.heap.size, 0, none⟩)) ∧ SetAt w' w.heap.size [] ∧ Chg [] w w' := by
  have HA := Lib.hid (emp_ranges2 ha)
  have HB := Lib.hid (emp_ranges2 hb)
  have hap := append_none
  clear ha hb
  go_enter Try.func22, Try.ntmps22
  go_wp2_with (first
    | (go_at_call 17; refine HA.out.mono ?_; rintro e w' ⟨rfl, rfl⟩)
    | (go_at_call 17; refine HB.out.mono ?_; rintro e w' ⟨rfl, rfl⟩)
    | (go_at_call 35; refine (sort_nil _ _).mono ?_; rintro e w' ⟨rfl, rfl⟩)
    | (go_at_call 11; refine (new_any _).mono ?_; rintro e w' ⟨rfl, hs, hc⟩))
  refine wp_loop_once ?_
  go_wp2_with fail
  go_ret
  exact ⟨rfl, hs, hc⟩
end Go.Proofs.Ytbnhnmfmgfoacaa
