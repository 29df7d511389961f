/- The small functions of package mask: what they come to, in numbers. -/
import Derived.Test.YthcedodfedfkgaaDoorMkTz
namespace Go.Proofs.YthcedodfedfkgaaDoor
open Go.RowKit Go.Shelf

/-- The set of a number. -/
def oneN (n : Int) : Nat := if n < 0 ∨ 63 < n then 0 else 2 ^ n.toNat
theorem oneN_lt (n : Int) : oneN n < 18446744073709551616 := by
  unfold oneN
  split
  · omega
  · rename_i h
    have : 2 ^ n.toNat ≤ 2 ^ 63 := Nat.pow_le_pow_right (by omega) (by omega)
    omega

theorem one_no (n : Int) (w : World) (h : n < 0 ∨ 63 < n) : Calls Tryd.prog 30 #[.int .i64 n] w fun e w' => e = .returned (.int .u64 0) ∧ w = w' := by
  rcases h with h | h
  · go_enter Tryd.func30, Tryd.ntmps30
    go_wp2
    go_ret
    exact ⟨rfl, rfl⟩
  · have h' : ¬ n < 0 := by omega
    go_enter Tryd.func30, Tryd.ntmps30
    go_wp2
    go_ret
    exact ⟨rfl, rfl⟩

theorem wrap_pow (n : Int) (h : n ≤ 63) : IntKind.u64.wrap (2 ^ n.toNat) = ((2 ^ n.toNat : Nat) : Int) := by
  have : 2 ^ n.toNat ≤ 2 ^ 63 := Nat.pow_le_pow_right (by omega) (by omega)
  have e : (2 ^ n.toNat : Int) = ((2 ^ n.toNat : Nat) : Int) := by simp
  rw [e, IntKind.wrap_u64]
  generalize 2 ^ n.toNat = b at *
  omega
theorem ret_int {k : IntKind} {a b : Int} (h : a = b) : Ending.returned (.int k a) = .returned (.int k b) := by rw [h]

theorem one_yes (n : Int) (w : World) (h0 : 0 ≤ n) (h : n ≤ 63) : Calls Tryd.prog 30 #[.int .i64 n] w fun e w' => e = .returned (.int .u64 ((2 ^ n.toNat : Nat) : Int)) ∧ w = w' := by
  go_enter Tryd.func30, Tryd.ntmps30
  go_wp2
  go_ret
  exact ⟨ret_int (wrap_pow n h), rfl⟩

theorem one_any (n : Int) (w : World) : Calls Tryd.prog 30 #[.int .i64 n] w fun e w' => e = .returned (.int .u64 (oneN n)) ∧ w = w' := by
  by_cases h : n < 0 ∨ 63 < n
  · rw [show oneN n = 0 from if_pos h]; exact one_no n w h
  · rw [show oneN n = 2 ^ n.toNat from if_neg h]; exact one_yes n w (by omega) (by omega)


theorem has_any (m n : Int) (w : World) : Calls Tryd.prog 16 #[.int .u64 m, .int .i64 n] w fun e w' => e = .returned (.bool (bits BinOp.and .u64 m (oneN n) != 0)) ∧ w = w' := by
  go_enter Tryd.func16, Tryd.ntmps16
  go_wp2_with (go_at_call 30; refine (one_any n w).mono ?_; rintro e w' ⟨rfl, rfl⟩)
  go_ret
  exact ⟨rfl, rfl⟩

theorem without_any (m n : Int) (w : World) : Calls Tryd.prog 15 #[.int .u64 m, .int .i64 n] w fun e w' => e = .returned (.int .u64 (bits BinOp.andNot .u64 m (oneN n))) ∧ w = w' := by
  go_enter Tryd.func15, Tryd.ntmps15
  go_wp2_with (go_at_call 30; refine (one_any n w).mono ?_; rintro e w' ⟨rfl, rfl⟩)
  go_ret
  exact ⟨rfl, rfl⟩

/-- The sets of a slice, joined. -/
def orL (zs : List Int) : Int := zs.foldl (fun a z => bits BinOp.or .u64 a z) 0
theorem orL_snoc (zs : List Int) (z : Int) : orL (zs ++ [z]) = bits BinOp.or .u64 (orL zs) z := by simp [orL]

/-- An element, read. -/
def rdI (zs : List Int) (j : Nat) : Int := zs[j]?.getD 0
theorem take_snoc_int (zs : List Int) (k : Nat) (h : k < zs.length) : zs.take (k + 1) = zs.take k ++ [rdI zs k] := by
  rw [List.take_succ_eq_append_getElem h]; simp [rdI, h]

theorem both_any (b off cap : Nat) (zs : List Int) (w : World) (hz : zs.length ≤ 1000) (hc : ∀ j, j < zs.length → w.cell? ⟨b, off + j, none⟩ = some (.int .u64 (rdI zs j))) :
    Calls Tryd.prog 29 #[.slice (some ⟨b, off, none⟩) zs.length cap] w fun e w' => e = .returned (.int .u64 (orL zs)) ∧ w = w' := by
  go_enter Tryd.func29, Tryd.ntmps29
  go_wp2
  go_loop [3, 8] (fun m i => ∃ k : Nat, k ≤ zs.length ∧ i = .int .i64 k ∧ m = .int .u64 (orL (zs.take k))) (fun _ i => zs.length - (intOf i).toNat)
  case atStart => exact ⟨0, Nat.zero_le _, rfl, rfl⟩
  case round =>
    obtain ⟨k, hk, rfl, rfl⟩ := hrel
    by_cases hlt : k < zs.length
    · have hck := hc k hlt
      have HT := Lib.hid (take_snoc_int zs k hlt)
      clear hc
      go_wp2
      go_round
      case rel => exact ⟨k + 1, by omega, by go_num, by rw [HT.out, orL_snoc]⟩
      case measure => simp [intOf]; omega
    · obtain rfl : k = zs.length := by omega
      go_wp2
      go_ret
      exact ⟨ret_int (by simp), rfl⟩

theorem with_any (m n : Int) (w : World) : Calls Tryd.prog 14 #[.int .u64 m, .int .i64 n] w fun e w' => e = .returned (.int .u64 (bits BinOp.or .u64 (bits BinOp.or .u64 0 m) (oneN n))) ∧
    w.alloc (.cells #[.int .u64 m, .int .u64 (oneN n)] 22) = w' := by
  have hcells : ∀ j, j < [m, (oneN n : Int)].length → (w.alloc (.cells #[.int .u64 m, .int .u64 (oneN n)] 22)).cell? ⟨w.heap.size, 0 + j, none⟩ = some (.int .u64 (rdI [m, (oneN n : Int)] j)) := by
    intro j hj
    match j, hj with
    | 0, _ => simp [rdI, World.cell?_alloc_new]
    | 1, _ => simp [rdI, World.cell?_alloc_new]
  have HC := Lib.hid hcells
  clear hcells
  go_enter Tryd.func14, Tryd.ntmps14
  go_wp2_with (first
    | (go_at_call 30; refine (one_any n w).mono ?_; rintro e w' ⟨rfl, rfl⟩)
    | (go_at_call 29; refine (both_any w.heap.size 0 2 [m, (oneN n : Int)] _ (by simp) HC.out).mono ?_; rintro e w' ⟨rfl, rfl⟩))
  go_ret
  exact ⟨rfl, rfl⟩

end Go.Proofs.YthcedodfedfkgaaDoor
