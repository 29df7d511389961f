/- staithref04.Same, of rows of ranges. -/
import Derived.Test.YthgejgfdpmbpaaaSpSt
import Derived.Test.YthgejgfdpmbpaaaWEqStruct
import Derived.Test.YthgejgfdpmbpaaaWSized
import Derived.LoopTactic
set_option linter.unusedVariables false
set_option linter.unusedSimpArgs false
namespace Go.Proofs.Ythgejgfdpmbpaaa
open Go.RowKit Go.Shelf Go.Proofs.YthgejgfdpmbpaaaW.PrintWords

theorem eqA_rng (d : Nat) (w : World) (x0 y0 : Int) (x1 y1 : Int) :
    (Op.equalIn (d + 2) 64 (.agg #[.int .u64 x0, .int .u64 x1]) (.agg #[.int .u64 y0, .int .u64 y1])).run Try.prog w = .ok (x0 == y0 && (x1 == y1)) w := by
  refine eqA_of Try.underlying64 (by kernel_rfl) ?_
  refine eqf_cons (by rfl) (by go_simp; rfl) (by go_simp; rfl) (by go_simp) ?_
  exact eqf_last (by rfl) (by go_simp; rfl) (by go_simp; rfl) (by go_simp)
theorem run_neq_rng (x0 x1 y0 y1 : Int) (w : World) : (binOp .neq 64 (.agg #[.int .u64 x0, .int .u64 x1]) (.agg #[.int .u64 y0, .int .u64 y1])).run Try.prog w = .ok (.bool (!(x0 == y0 && (x1 == y1)))) w := by
  have := eqA_rng 9998 w x0 y0 x1 y1
  simp only [binOp, Op.equal, Op.maxDepth]
  simp [this]

set_option maxHeartbeats 4000000 in
theorem same_any (w : World) (A B : Option Addr) (c d : Nat) (R S : List Rng) (hr : RowAt w A c R) (hs : RowAt w B d S) (hsz : R.length ≤ 1000000) (hsz2 : S.length ≤ 1000000) :
    Calls Try.prog 12 #[.slice A R.length c, .slice B S.length d] w fun e w' => e = .returned (.bool (decide (R = S))) ∧ Chg [] w w' := by
  have hneq := fun (W : World) (a b c d : Int) => run_neq_rng a b c d W
  by_cases hl : R.length = S.length
  · have hbeq : ((R.length : Int) != (S.length : Int)) = false := by rw [hl]; simp
    have HR := Lib.hid hr
    have HS := Lib.hid hs
    have HL := Lib.hid hl
    obtain ⟨n, hn⟩ : ∃ n, n = R.length := ⟨_, rfl⟩
    obtain ⟨m, hm⟩ : ∃ m, m = S.length := ⟨_, rfl⟩
    rw [← hn, ← hm] at hbeq
    rw [← hn, ← hm]
    rw [← hn] at hsz
    have hmn : m = n := by omega
    subst hmn
    have HN := Lib.hid (And.intro hn hm)
    clear hr hs hl hn hm hsz2
    go_enter Try.func12, Try.ntmps12
    go_wp2
    go_loopw [13] (fun i wr => ∃ k : Nat, k ≤ m ∧ i = .int .i64 k ∧ Chg [] w wr ∧ Hid (∀ j, j < k → R[j]? = S[j]?)) (fun i _ => m - (intOf i).toNat)
    case atStart => exact ⟨0, Nat.zero_le _, rfl, Chg.refl _ _, Lib.hid (fun j hj => absurd hj (by omega))⟩
    case round =>
      obtain ⟨k, hk, rfl, hcg, hall⟩ := hrel
      have HC := Lib.hid hcg
      clear hcg
      by_cases hlt : k < m
      · have hkR : k < R.length := by rw [← HN.out.1]; exact hlt
        have hkS : k < S.length := by rw [← HN.out.2]; exact hlt
        obtain ⟨ba, rfl, hca, x0, x1⟩ := HR.out.at_ hkR
        obtain ⟨bb, rfl, hcb, y0, y1⟩ := HS.out.at_ hkS
        have x0' := HC.out.cell_some x0 (by simp)
        have x1' := HC.out.cell_some x1 (by simp)
        have y0' := HC.out.cell_some y0 (by simp)
        have y1' := HC.out.cell_some y1 (by simp)
        have HK := Lib.hid (And.intro hkR hkS)
        obtain ⟨r, hrr⟩ : ∃ r, r = R[k] := ⟨_, rfl⟩
        obtain ⟨s, hss⟩ : ∃ s, s = S[k] := ⟨_, rfl⟩
        rw [← hrr] at x0' x1'
        rw [← hss] at y0' y1'
        have HE := Lib.hid (And.intro hrr hss)
        clear x0 x1 y0 y1 hca hcb hrr hss
        have i1 : (0 : Int) ≤ (k : Int) := by omega
        have i2 : (k : Int) < (m : Int) := by omega
        by_cases he : r = s
        · subst he
          have d1 : ((r.1 : Int) == (r.1 : Int)) = true := by simp
          go_wp2
          go_region
          go_wp2
          go_roundw
          case rel =>
            refine ⟨k + 1, by omega, by go_num, HC.out.drew, ?_⟩
            refine Lib.hid (fun j hj => ?_)
            rcases Nat.lt_succ_iff_lt_or_eq.1 hj with h | rfl
            · exact hall.out j h
            · rw [List.getElem?_eq_getElem HK.out.1, List.getElem?_eq_getElem HK.out.2, ← HE.out.1, ← HE.out.2]
          case measure => simp [intOf]; omega
        · have hd : ((r.1 : Int) == (s.1 : Int) && ((r.2 : Int) == (s.2 : Int))) = false := by
            rw [← Bool.not_eq_true]
            intro h
            simp only [Bool.and_eq_true, beq_iff_eq] at h
            exact he (Prod.ext (by omega) (by omega))
          have hneq2 : ∀ W : World, (binOp .neq 64 (.agg #[.int .u64 (r.1 : Nat), .int .u64 (r.2 : Nat)]) (.agg #[.int .u64 (s.1 : Nat), .int .u64 (s.2 : Nat)])).run Try.prog W = .ok (.bool true) W := fun W => by
            rw [run_neq_rng, hd]; rfl
          have HEN := Lib.hid he
          clear hd he hneq
          go_wp2
          go_region
          go_wp2
          go_ret
          refine ⟨?_, HC.out.drew⟩
          have : R ≠ S := by
            rintro rfl
            exact HEN.out (by rw [HE.out.1, HE.out.2])
          simp [this]
      · obtain rfl : k = m := by omega
        go_wp2
        go_ret
        have : R = S := List.ext_getElem? fun j => by
          by_cases hj : j < k
          · exact hall.out j hj
          · rw [List.getElem?_eq_none (by rw [← HN.out.1]; omega), List.getElem?_eq_none (by rw [← HN.out.2]; omega)]
        exact ⟨by simp [this], HC.out⟩
  · have hbeq : ((R.length : Int) != (S.length : Int)) = true := by simp; omega
    have hne : decide (R = S) = false := by simp; intro h; exact hl (by rw [h])
    rw [hne]
    clear hr hs hl hne
    go_enter Try.func12, Try.ntmps12
    go_wp2
    go_ret
    exact ⟨rfl, Chg.refl _ _⟩
end Go.Proofs.Ythgejgfdpmbpaaa
