/- math/bits.TrailingZeros64 and mask.All: what they come to. -/
import Derived.Test.YtkfpooljbpijhaaDoorProg
import Derived.Test.YtkfpooljbpijhaaDoorMkPlain
import Derived.RangeFuncNested
import Derived.RangeFuncBound
import Derived.RangeFuncCalls
import Derived.RangeFuncLeaves
import Derived.Shelf.Abstract
import Derived.Shelf.RegionOpen
import Derived.WalkKit
import Derived.OwnWalkIn
import Derived.TacticsInMore
import Derived.LoopNIn
import Derived.LoopIn
import Derived.Laws.Bits64b
import Derived.Lib.TrailingZeros
import Derived.Lib.Hide
set_option linter.unusedVariables false
set_option linter.unusedSimpArgs false
namespace Go.Proofs.YtkfpooljbpijhaaDoor
open Go.RowKit Go.Shelf
attribute [local go_sem] Oper.semAt_some

/-- A table in its variable. -/
def TabAt (g : Nat) (tab : List Nat) (w : World) : Prop := ∀ j, j < tab.length → w.cell? ⟨g, j, none⟩ = some (.int .u8 (tab.getD j 0))
theorem TabAt.below {g : Nat} {tab : List Nat} {B : Nat} {w w' : World} (h : TabAt g tab w) (hb : Below B w w') (hg : g < B) : TabAt g tab w' :=
  fun j hj => (hb.cell (p := ⟨g, j, none⟩) hg).trans (h j hj)
theorem TabAt.of_cell {g : Nat} {tab : List Nat} {w w' : World} (h : TabAt g tab w) (hc : ∀ j, w'.cell? ⟨g, j, none⟩ = w.cell? ⟨g, j, none⟩) : TabAt g tab w' :=
  fun j hj => (hc j).trans (h j hj)

set_option maxHeartbeats 1000000 in
theorem tz64_core (x k idx : Nat) (w : World) (hx0 : ((x : Int) == 0) = false)
    (key : IntKind.u64.wrap (bits BinOp.and IntKind.u64 (x : Int) (IntKind.u64.wrap (-(x : Int))) * 285870213051353865) / 288230376151711744 = (idx : Int))
    (hi : idx < 64) (hk : k < 64) (hcell : w.cell? ⟨0, idx, none⟩ = some (.int .u8 k)) :
    Calls Tryd.prog 25 #[.int .u64 x] w fun e w' => e = .returned (.int .i64 k) ∧ w = w' := by
  go_enter Tryd.func25, Tryd.ntmps25
  go_wp2_with (simp only [key])
  go_ret
  exact ⟨rfl, rfl⟩

theorem tz64_zero (w : World) :
    Calls Tryd.prog 25 #[.int .u64 0] w fun e w' => e = .returned (.int .i64 64) ∧ w = w' := by
  go_enter Tryd.func25, Tryd.ntmps25
  go_wp2
  go_ret
  exact ⟨rfl, rfl⟩

theorem tz64_key (x a : Nat) (hx : x < 18446744073709551616) (hx0 : x ≠ 0) (hlow : x &&& (18446744073709551616 - x) = a) :
    IntKind.u64.wrap (bits BinOp.and IntKind.u64 (x : Int) (IntKind.u64.wrap (-(x : Int))) * 285870213051353865) / 288230376151711744 = ((a * 285870213051353865 % 18446744073709551616 / 288230376151711744 : Nat) : Int) := by
  have e1 : IntKind.u64.wrap (-(x : Int)) = ((18446744073709551616 - x : Nat) : Int) := by rw [IntKind.wrap_u64]; omega
  rw [e1, bits_and_u64_nat x _ hx (by omega), hlow, IntKind.wrap_u64]
  omega

/-- **math/bits.TrailingZeros64, every x.** -/
theorem tz64 (x : Nat) (hx : x < 18446744073709551616) (w : World) (hT : TabAt 0 Lib.deBruijn64tab w) :
    Calls Tryd.prog 25 #[.int .u64 x] w fun e w' => e = .returned (.int .i64 (Lib.ctz 64 x)) ∧ w = w' := by
  by_cases hx0 : x = 0
  · subst hx0
    exact tz64_zero w
  · obtain ⟨hlow, hk⟩ := Lib.lowest_bit 64 x hx0 hx
    obtain ⟨hi, htab⟩ := Lib.deBruijn64_at _ hk
    have hcell := hT _ hi
    rw [htab] at hcell
    exact tz64_core x _ _ w (by simp; omega) (tz64_key x _ hx hx0 hlow) hi hk hcell

theorem all_any (x : Int) (w : World) :
    Calls Tryd.prog 21 #[.int .u64 x] w fun e w' => e = .returned (.func (.func 24) #[] #[.pointer (some ⟨w.heap.size, 0, none⟩)]) ∧ w.alloc (.cells #[.int .u64 x] 35) = w' := by
  go_enter Tryd.func21, Tryd.ntmps21
  go_wp2
  go_ret
  exact ⟨rfl, rfl⟩

theorem and_pred (x : Nat) (hx : x < 18446744073709551616) (h0 : x ≠ 0) : bits BinOp.and IntKind.u64 (x : Int) ((x : Int) - 1) = ((x &&& (x - 1) : Nat) : Int) := by
  have e1 : (x : Int) - 1 = ((x - 1 : Nat) : Int) := by omega
  rw [e1, bits_and_u64_nat x _ hx (by omega)]

set_option maxRecDepth 100000 in
set_option maxHeartbeats 2000000 in
/-- **mask.All's closure.** -/
theorem all1_in (n : Nat) (hn : 1 ≤ n) (l Bs n₀ x : Nat) (hx : x < 18446744073709551616) (hg : 0 < n₀) (J Jx : List Nat → World → Prop)
    (hY : ∀ pre k W, J pre W → pre.length < (Bt.bitsL x).length → YieldAt Fence.wide (n - 1) Tryd.prog l #[.int .i64 (k : Nat)] W fun e W' =>
      (e = .returned (.bool true) ∧ J (pre ++ [k]) W' ∧ Below n₀ W W') ∨ (e = .returned (.bool false) ∧ Jx (pre ++ [k]) W'))
    (W : World) (hBs : W.cell? ⟨Bs, 0, none⟩ = some (.int .u64 x)) (hT : TabAt 0 Lib.deBruijn64tab W) (h0 : J [] W) :
    CallsIn Fence.wide n Tryd.prog 24 #[.func (.yield l) #[] #[], .pointer (some ⟨Bs, 0, none⟩)] W fun e W' => (∃ v, e = .returned v) ∧
      ((∃ ys, ys = Bt.bitsL x ∧ J ys W') ∨ (∃ pre, pre <+: Bt.bitsL x ∧ Jx pre W')) := by
  refine callsIn_of_wp Tryd.func24 rfl trivial ?_ rfl
  simp only [Tryd.ntmps24, List.size_toArray, List.length_cons, List.length_nil, Nat.reduceAdd, Nat.reduceSub, Array.replicate_succ, Array.replicate_zero, List.push_toArray, List.append_toArray, List.nil_append, List.cons_append]
  gi_wp2
  gi_loopw [3] (fun p wr => ∃ (pre : List Nat) (y : Nat), p = .int .u64 y ∧ y < 18446744073709551616 ∧ Hid (Bt.bitsL x = pre ++ Bt.bitsL y) ∧ Below n₀ W wr ∧ J pre wr)
    (fun p _ => (intOf p).toNat)
  case atStart =>
    exact ⟨[], x, rfl, hx, rfl, Below.refl _ _, h0⟩
  case round =>
    obtain ⟨pre, y, rfl, hy, hpre, hB, hJs⟩ := hrel
    by_cases hy0 : y = 0
    · subst hy0
      gi_wp2
      go_end0
      exact ⟨⟨_, rfl⟩, .inl ⟨pre, by have := hpre.out; rw [Bt.bitsL_zero, List.append_nil] at this; exact this.symm, hJs⟩⟩
    · obtain ⟨hst, hk64, hlt⟩ := Bt.bitsL_step y hy0 hy
      have hlen : pre.length < (Bt.bitsL x).length := by rw [hpre.out, hst]; simp
      obtain ⟨fn, tmps, assign, body, hyl, hR⟩ := hY pre (Lib.ctz 64 y) wr hJs hlen
      have hne : ((y : Int) != 0) = true := by simp; omega
      have hTr := hT.below hB hg
      have HA := Lib.hid (and_pred y hy hy0)
      have HS := Lib.hid hst
      clear hst
      gi_wp2_with (refine ⟨trivial, ?_⟩; gi_at_call 25; refine (callsIn_wide.2 (tz64 y hy wr hTr)).mono ?_; rintro e w' ⟨rfl, rfl⟩)
      refine hR.mono ?_
      rintro e W3 (⟨rfl, hJ3, hk3⟩ | ⟨rfl, hJx3⟩)
      · gi_wp2
        go_roundw
        case rel => exact ⟨pre ++ [Lib.ctz 64 y], y &&& (y - 1), by rw [HA.out], by omega, by unfold Hid; rw [hpre.out, HS.out]; simp, hB.trans hk3, hJ3⟩
        case measure => rw [HA.out]; simp [intOf]; omega
      · gi_wp2
        refine bodyPost_ret (results_none rfl _ _ _) rfl ?_
        exact ⟨⟨_, rfl⟩, .inr ⟨pre ++ [Lib.ctz 64 y], by rw [hpre.out, HS.out]; exact ⟨Bt.bitsL (y &&& (y - 1)), by simp⟩, hJx3⟩⟩

/-- **mask.All(x) hands back a value that yields x's numbers, rising.** -/
theorem all_stops (n : Nat) (hn : 1 ≤ n) (Bs n₀ x : Nat) (hx : x < 18446744073709551616) (w : World) (hBs : Bs < w.heap.size) (_hn₀ : n₀ ≤ w.heap.size) (hg : 0 < n₀)
    (hc : w.cell? ⟨Bs, 0, none⟩ = some (.int .u64 x)) (hT : TabAt 0 Lib.deBruijn64tab w) :
    SeqStopsK Fence.wide n Tryd.prog 24 #[.pointer (some ⟨Bs, 0, none⟩)] (fun k : Nat => #[Value.int .i64 k]) (Below n₀) (fun ys => ys = Bt.bitsL x) (fun pre => pre <+: Bt.bitsL x) (Bt.bitsL x).length w := fun l J Jx W hW _ _ hY h0 =>
  all1_in n hn l Bs n₀ x hx hg J Jx hY W ((hW.cell (p := ⟨Bs, 0, none⟩) hBs).trans hc) (hT.below hW (by omega)) h0

end Go.Proofs.YtkfpooljbpijhaaDoor
