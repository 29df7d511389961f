/- mask.All's closure, where its caller knows that numbers are below 64. -/
import Derived.Test.YtkfpooljbpijhaaDoorMkTz
set_option linter.unusedVariables false
set_option linter.unusedSimpArgs false
namespace Go.Proofs.YtkfpooljbpijhaaDoor
open Go.RowKit Go.Shelf
attribute [local go_sem] Oper.semAt_some

set_option maxRecDepth 100000 in
set_option maxHeartbeats 2000000 in
/-- **mask.All's closure.** -/
theorem all1_b (n : Nat) (hn : 1 ≤ n) (l Bs n₀ x : Nat) (hx : x < 18446744073709551616) (hg : 0 < n₀) (J Jx : List Nat → World → Prop)
    (hY : ∀ pre k W, k < 64 → J pre W → pre.length < (Bt.bitsL x).length → YieldAt Fence.wide (n - 1) Tryd.prog l #[.int .i64 (k : Nat)] W fun e W' =>
      (e = .returned (.bool true) ∧ J (pre ++ [k]) W' ∧ Below n₀ W W') ∨ (e = .returned (.bool false) ∧ Jx (pre ++ [k]) W'))
    (W : World) (hBs : W.cell? ⟨Bs, 0, none⟩ = some (.int .u64 x)) (hT : TabAt 0 Lib.deBruijn64tab W) (h0 : J [] W) :
    CallsIn Fence.wide n Tryd.prog 24 #[.func (.yield l) #[] #[], .pointer (some ⟨Bs, 0, none⟩)] W fun e W' => (∃ v, e = .returned v) ∧
      ((∃ ys, ys = Bt.bitsL x ∧ J ys W') ∨ (∃ pre, pre <+: Bt.bitsL x ∧ Jx pre W')) := by
  refine callsIn_of_wp Tryd.func24 rfl trivial ?_ rfl
  simp only [Tryd.ntmps24, List.size_toArray, List.length_cons, List.length_nil, Nat.reduceAdd, Nat.reduceSub, Array.replicate_succ, Array.replicate_zero, List.push_toArray, List.append_toArray, List.nil_append, List.cons_append]
  gi_wp2
  gi_loopw [3] (fun p wr => ∃ (pre : List Nat) (y : Nat), p = .int .u64 y ∧ y < 18446744073709551616 ∧ Hid (Bt.bitsL x = pre ++ Bt.bitsL y) ∧ Below n₀ W wr ∧ J pre wr)
    (fun p _ => (intOf p).toNat)
  case atStart =>
    exact ⟨[], x, rfl, hx, rfl, Below.refl _ _, h0⟩
  case round =>
    obtain ⟨pre, y, rfl, hy, hpre, hB, hJs⟩ := hrel
    by_cases hy0 : y = 0
    · subst hy0
      gi_wp2
      go_end0
      exact ⟨⟨_, rfl⟩, .inl ⟨pre, by have := hpre.out; rw [Bt.bitsL_zero, List.append_nil] at this; exact this.symm, hJs⟩⟩
    · obtain ⟨hst, hk64, hlt⟩ := Bt.bitsL_step y hy0 hy
      have hlen : pre.length < (Bt.bitsL x).length := by rw [hpre.out, hst]; simp
      obtain ⟨fn, tmps, assign, body, hyl, hR⟩ := hY pre (Lib.ctz 64 y) wr hk64 hJs hlen
      have hne : ((y : Int) != 0) = true := by simp; omega
      have hTr := hT.below hB hg
      have HA := Lib.hid (and_pred y hy hy0)
      have HS := Lib.hid hst
      clear hst
      gi_wp2_with (refine ⟨trivial, ?_⟩; gi_at_call 25; refine (callsIn_wide.2 (tz64 y hy wr hTr)).mono ?_; rintro e w' ⟨rfl, rfl⟩)
      refine hR.mono ?_
      rintro e W3 (⟨rfl, hJ3, hk3⟩ | ⟨rfl, hJx3⟩)
      · gi_wp2
        go_roundw
        case rel => exact ⟨pre ++ [Lib.ctz 64 y], y &&& (y - 1), by rw [HA.out], by omega, by unfold Hid; rw [hpre.out, HS.out]; simp, hB.trans hk3, hJ3⟩
        case measure => rw [HA.out]; simp [intOf]; omega
      · gi_wp2
        refine bodyPost_ret (results_none rfl _ _ _) rfl ?_
        exact ⟨⟨_, rfl⟩, .inr ⟨pre ++ [Lib.ctz 64 y], by rw [hpre.out, HS.out]; exact ⟨Bt.bitsL (y &&& (y - 1)), by simp⟩, hJx3⟩⟩

theorem map_val_of {pre : List Nat} (h : ∀ k ∈ pre, k < 64) : ∃ pf : List (Fin 64), pf.map (·.val) = pre := by
  induction pre with
  | nil => exact ⟨[], rfl⟩
  | cons a l ih =>
    obtain ⟨pf, hpf⟩ := ih fun k hk => h k (by simp [hk])
    exact ⟨⟨a, h a (by simp)⟩ :: pf, by simp [hpf]⟩
theorem all_stopsB (n : Nat) (hn : 1 ≤ n) (Bs n₀ x : Nat) (hx : x < 18446744073709551616) (w : World) (hBs : Bs < w.heap.size) (_hn₀ : n₀ ≤ w.heap.size) (hg : 0 < n₀)
    (hc : w.cell? ⟨Bs, 0, none⟩ = some (.int .u64 x)) (hT : TabAt 0 Lib.deBruijn64tab w) :
    SeqStopsK Fence.wide n Tryd.prog 24 #[.pointer (some ⟨Bs, 0, none⟩)] (fun k : Fin 64 => #[Value.int .i64 (k.val : Nat)]) (Below n₀) (fun ys => ys.map (·.val) = Bt.bitsL x) (fun pre => pre.map (·.val) <+: Bt.bitsL x) (Bt.bitsL x).length w := fun l J Jx W hW _ _ hY h0 => by
  refine (all1_b n hn l Bs n₀ x hx hg (fun pre W => ∃ pf : List (Fin 64), pf.map (·.val) = pre ∧ J pf W) (fun pre W => ∃ pf : List (Fin 64), pf.map (·.val) = pre ∧ Jx pf W) ?_ W ((hW.cell (p := ⟨Bs, 0, none⟩) hBs).trans hc) (hT.below hW (by omega)) ⟨[], rfl, h0⟩).mono ?_
  · rintro pre k W hk ⟨pf, rfl, hJ⟩ hlen
    obtain ⟨fn, tmps, assign, body, hyl, hR⟩ := hY pf ⟨k, hk⟩ W hJ (by simpa using hlen)
    refine ⟨fn, tmps, assign, body, hyl, hR.mono ?_⟩
    rintro e W' (⟨rfl, h1, h2⟩ | ⟨rfl, h1⟩)
    · exact .inl ⟨rfl, ⟨pf ++ [⟨k, hk⟩], by simp, h1⟩, h2⟩
    · exact .inr ⟨rfl, ⟨pf ++ [⟨k, hk⟩], by simp, h1⟩⟩
  · rintro e W' ⟨hv, h⟩
    refine ⟨hv, ?_⟩
    rcases h with ⟨ys, rfl, pf, hpf, hJ⟩ | ⟨pre, hp, pf, rfl, hJ⟩
    · exact .inl ⟨pf, hpf, hJ⟩
    · exact .inr ⟨pf, hp, hJ⟩
end Go.Proofs.YtkfpooljbpijhaaDoor
