/- Package span: a set that no call made (nil, or the zero value). -/
import Derived.Test.YtbnhnmfmgfoacaaSpNil
set_option linter.unusedVariables false
set_option linter.unusedSimpArgs false
namespace Go.Proofs.Ytbnhnmfmgfoacaa
open Go.RowKit Go.Shelf

/-- Nil, or the zero value at its place. -/
def Emp (a : Option Addr) (w : World) : Prop := a = none ∨ ∃ p, a = some ⟨p, 0, none⟩ ∧ Blk w p 46 #[.slice none 0 0, .bool false]
theorem Emp.chg {a : Option Addr} {w w' : World} (h : Emp a w) (hc : Chg [] w w') : Emp a w' := by
  rcases h with h | ⟨p, hp, hb⟩
  · exact .inl h
  · exact .inr ⟨p, hp, hb.chg hc (by simp)⟩
theorem emp_ranges {a : Option Addr} {w : World} (h : Emp a w) : Calls Try.prog 33 #[.pointer a] w fun e w' => e = .returned (.slice none 0 0) ∧ w = w' := by
  rcases h with rfl | ⟨p, rfl, hb⟩
  · exact nil_ranges w
  · exact ranges_any w p _ _ hb ⟨none, 0, 0, rfl⟩
theorem emp_low {a : Option Addr} {w : World} (h : Emp a w) : Calls Try.prog 21 #[.pointer a] w fun e w' => e = .returned (.int .u64 0) ∧ w = w' := by
  have HE := Lib.hid (emp_ranges h)
  clear h
  go_enter Try.func21, Try.ntmps21
  go_wp2_with (go_at_call 33; refine HE.out.mono ?_; rintro e w' ⟨rfl, rfl⟩)
  go_ret
  exact ⟨rfl, rfl⟩
theorem emp_top {a : Option Addr} {w : World} (h : Emp a w) : Calls Try.prog 20 #[.pointer a] w fun e w' => e = .returned (.int .u64 0) ∧ w = w' := by
  have HE := Lib.hid (emp_ranges h)
  clear h
  go_enter Try.func20, Try.ntmps20
  go_wp2_with (go_at_call 33; refine HE.out.mono ?_; rintro e w' ⟨rfl, rfl⟩)
  go_ret
  exact ⟨rfl, rfl⟩
theorem emp_gaps {a : Option Addr} {w : World} (h : Emp a w) : Calls Try.prog 19 #[.pointer a] w fun e w' => e = .returned (.int .i64 0) ∧ w = w' := by
  have HE := Lib.hid (emp_ranges h)
  have HL := Lib.hid (emp_low h)
  clear h
  go_enter Try.func19, Try.ntmps19
  go_wp2_with (first
    | (go_at_call 33; refine HE.out.mono ?_; rintro e w' ⟨rfl, rfl⟩)
    | (go_at_call 21; refine HL.out.mono ?_; rintro e w' ⟨rfl, rfl⟩))
  go_ret
  exact ⟨rfl, rfl⟩
theorem emp_add {a : Option Addr} {w : World} (h : Emp a w) (n : Int) : Calls Try.prog 12 #[.pointer a, .int .u64 n] w fun e w' => e = .returned (.bool false) ∧ w = w' := by
  rcases h with rfl | ⟨p, rfl, hb⟩
  · exact nil_add w n
  · have h1 := hb.cell 1
    simp only [List.getElem?_toArray, List.getElem?_cons_succ, List.getElem?_cons_zero] at h1
    clear hb
    go_enter Try.func12, Try.ntmps12
    go_wp2
    go_ret
    exact ⟨rfl, rfl⟩
theorem emp_near {a : Option Addr} {w : World} (h : Emp a w) (n : Nat) : Calls Try.prog 32 #[.pointer a, .int .u64 (n : Nat)] w fun e w' => e = .returned (.int .i64 0) ∧ Chg [] w w' := by
  have hS := fun (W : World) => search_any 38 #[.pointer (some ⟨w.heap.size + 1, 0, none⟩), .pointer (some ⟨w.heap.size, 0, none⟩)] 0 0 (fun _ => true) W
      (enters_of Try.func38 (by kernel_rfl) rfl) (by omega) (fun W' i hc hi => absurd hi (by omega)) (Nat.le_refl _) (fun t ht => absurd ht (by omega)) (fun t h1 h2 => absurd h2 (by omega))
  have HS := Lib.hid hS
  have HE := Lib.hid (emp_ranges (h.chg ((Chg.refl [] w).alloc (.cells #[.int .u64 (n : Nat)] 23))))
  clear hS h
  go_enter Try.func32, Try.ntmps32
  go_wp2_with (first
    | (go_at_call 33; refine HE.out.mono ?_; rintro e w' ⟨rfl, rfl⟩)
    | (go_at_call 37; refine (HS.out _).mono ?_; rintro e w' ⟨rfl, hc⟩; have HC := Lib.hid hc; clear hc))
  go_ret
  exact ⟨rfl, ((((Chg.refl [] w).alloc _).alloc _)).trans HC.out⟩
theorem emp_has {a : Option Addr} {w : World} (h : Emp a w) (n : Nat) : Calls Try.prog 15 #[.pointer a, .int .u64 (n : Nat)] w fun e w' => e = .returned (.bool false) ∧ Chg [] w w' := by
  have HN := Lib.hid (emp_near h n)
  have HE := Lib.hid (fun (w' : World) (hc : Chg [] w w') => emp_ranges (h.chg hc))
  clear h
  rcases Nat.eq_zero_or_pos n with rfl | h0
  · go_enter Try.func15, Try.ntmps15
    go_wp2_with (first
      | (go_at_call 32; refine HN.out.mono ?_; rintro e w1 ⟨rfl, hc⟩; have HC := Lib.hid hc; clear hc)
      | (go_at_call 33; refine (HE.out _ HC.out).mono ?_; rintro e w2 ⟨rfl, rfl⟩))
    go_ret
    exact ⟨rfl, HC.out⟩
  · have t1 : decide (0 < n) = true := decide_eq_true h0
    go_enter Try.func15, Try.ntmps15
    go_wp2_with (first
      | (go_at_call 32; refine HN.out.mono ?_; rintro e w1 ⟨rfl, hc⟩; have HC := Lib.hid hc; clear hc)
      | (go_at_call 33; refine (HE.out _ HC.out).mono ?_; rintro e w2 ⟨rfl, rfl⟩))
    go_ret
    exact ⟨rfl, HC.out⟩
theorem clone_nil (w : World) : Calls Try.prog 34 #[.slice none 0 0] w fun e w' => e = .returned (.slice none 0 0) ∧ w = w' := by
  have hnil := fun w A l c => run_eql_slice_nil (P := Try.prog) w 27 36 A l c Try.underlying27
  go_enter Try.func34, Try.ntmps34
  go_wp2
  go_ret
  exact ⟨rfl, rfl⟩
theorem emp_ranges2 {a : Option Addr} {w : World} (h : Emp a w) : Calls Try.prog 17 #[.pointer a] w fun e w' => e = .returned (.slice none 0 0) ∧ w = w' := by
  have HE := Lib.hid (emp_ranges h)
  clear h
  go_enter Try.func17, Try.ntmps17
  go_wp2_with (first
    | (go_at_call 33; refine HE.out.mono ?_; rintro e w' ⟨rfl, rfl⟩)
    | (go_at_call 34; refine (clone_nil _).mono ?_; rintro e w' ⟨rfl, rfl⟩))
  go_ret
  exact ⟨rfl, rfl⟩
theorem emp_copy {a : Option Addr} {w : World} (h : Emp a w) : Calls Try.prog 23 #[.pointer a] w fun e w' => e = .returned (.pointer (some ⟨w.heap.size, 0, none⟩)) ∧ SetAt w' w.heap.size [] ∧ Chg [] w w' := by
  have HE := Lib.hid (emp_ranges2 h)
  clear h
  go_enter Try.func23, Try.ntmps23
  go_wp2_with (go_at_call 17; refine HE.out.mono ?_; rintro e w' ⟨rfl, rfl⟩)
  go_ret
  exact ⟨rfl, ⟨_, _, Blk.new _ _ _, .inl ⟨rfl, rfl, rfl⟩, fun _ h => by cases h⟩, (Chg.refl _ _).alloc _⟩
end Go.Proofs.Ytbnhnmfmgfoacaa
