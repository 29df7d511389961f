/- SpanFills: all numbers up to one, in any order, are one range. -/
import Derived.Test.YtbnhnmfmgfoacaaSpFillsP
set_option linter.unusedVariables false
set_option linter.unusedSimpArgs false
namespace Go.Proofs.Ytbnhnmfmgfoacaa.spanFills
open Go.RowKit Go.Shelf Go.Proofs.Ytbnhnmfmgfoacaa Go.Proofs.YtbnhnmfmgfoacaaW.PrintWords

set_option maxRecDepth 100000 in
set_option maxHeartbeats 8000000 in
theorem core (a0 a1 : Nat) (W : World) :
    Calls Try.prog 6 #[.int .u64 (a0 : Nat), .int .u64 (a1 : Nat)] W fun e w' => e = .returned (.bool true) ∧ Chg [] W w' := by
  obtain ⟨k, hk⟩ : ∃ k : Nat, 1 + (a0 : Int) % 60 = k := ⟨(1 + (a0 : Int) % 60).toNat, by omega⟩
  have k1 : 1 ≤ k := by omega
  have k2 : k ≤ 60 := by omega
  have hkM : k < M64 := by unfold M64; omega
  have HK := Lib.hid (And.intro hk hkM)
  clear hk hkM
  go_enter Try.func6, Try.ntmps6
  go_wp2_with fail
  rw [HK.out.1]
  refine (St.new W W (Chg.refl _ _)).mono ?_
  rintro e w1 ⟨rfl, hs, hc, hlt⟩
  have HS1 := Lib.hid hs
  clear hs hc hlt
  obtain ⟨p, hp⟩ : ∃ p, p = W.heap.size := ⟨_, rfl⟩
  rw [← hp] at HS1
  rw [← hp]
  clear hp
  obtain ⟨s7, hs7⟩ : ∃ s : Nat, (a1 : Int) % 7 = s := ⟨((a1 : Int) % 7).toNat, by omega⟩
  have s7b : s7 < 7 := by omega
  have HS7 := Lib.hid hs7
  clear hs7
  go_wp2
  have hk0 : (0 : Int) < (k : Int) := by omega
  have hk1 : (k : Int) ≠ 0 := by omega
  go_loopw [8, 7] (fun s8 s7v wr => ∃ (i at_ : Nat) (R : List Rng), i ≤ k ∧ at_ < k ∧ s8 = .int .i64 i ∧ s7v = .int .i64 at_ ∧ St W wr p R ∧ Up R k i) (fun s8 _ _ => k - (intOf s8).toNat)
  case atStart => exact ⟨0, 0, [], Nat.zero_le _, k1, rfl, rfl, HS1.out, Up.nil k⟩
  case round =>
    obtain ⟨i, at_, R, hi, hat, rfl, rfl, hs, hu⟩ := hrel
    have HS := Lib.hid hs
    have HU := Lib.hid hu
    clear hs hu
    by_cases hik : i < k
    · have hlR : R.length ≤ 1000000 := by have := HU.out.len; omega
      have HLR := Lib.hid hlR
      clear hlR
      obtain ⟨wo, hwo⟩ : ∃ wo : World, wo = wr := ⟨_, rfl⟩
      subst hwo
      go_wp2_with fail
      go_loopg [7] k (fun kx sa wx => ∃ (a d : Nat), a < k ∧ sa = .int .i64 a ∧ d ≤ kx ∧ Hid (memR R ((a + d) % k + 1) = false) ∧ St W wx p R)
      case atStart =>
        obtain ⟨d, hd, hm⟩ := HU.out.free hik HK.out.2 ((at_ + 1 + s7) % k)
        refine ⟨(at_ + 1 + s7) % k, d, Nat.mod_lt _ (by omega), ?_, by omega, Lib.hid hm, HS.out⟩
        rw [HS7.out]
        push_cast
        rfl
      case round =>
        obtain ⟨a, d, ha, rfl, hd, HM, hs⟩ := hrel
        have HS2 := Lib.hid hs
        clear hs
        have w1 : ∀ q : IntKind, q = .u64 → q.wrap ((a : Int) + 1) = (a : Int) + 1 := fun q hq => by rw [hq, IntKind.wrap_u64]; omega
        have w2 : ∀ z : Int, z = (a : Int) + 1 → wrap64 z = (a : Int) + 1 := fun z hz => by rw [hz]; unfold wrap64; omega
        cases hb : memR R (a + 1) with
        | true =>
          have HB := Lib.hid hb
          clear hb
          go_wp2_with fail
          rw [show ((a : Int) + 1) = ((a + 1 : Nat) : Int) from rfl]
          refine (St.has HS2.out (a + 1) true HU.out.wf HLR.out HB.out).mono ?_
          rintro e w3 ⟨rfl, hc, hs⟩
          have HS3 := Lib.hid hs
          clear hs hc
          go_wp2
          have hd1 : 1 ≤ d := by
            rcases Nat.eq_zero_or_pos d with rfl | h
            · have h1 := HM.out
              rw [show (a + 0) % k = a from Nat.mod_eq_of_lt ha, HB.out] at h1
              cases h1
            · exact h
          go_roundg (d - 1)
          case measure => omega
          case rel =>
            refine ⟨(a + 1) % k, d - 1, Nat.mod_lt _ (by omega), by push_cast; rfl, Nat.le_refl _, Lib.hid ?_, HS3.out⟩
            have h1 := HM.out
            rw [Nat.mod_add_mod, show a + 1 + (d - 1) = a + d by omega]
            exact h1
        | false =>
          have HB := Lib.hid hb
          clear hb
          have hg : gapsR (addR R (a + 1)) ≤ (i : Int) + 1 := by
            have h1 := HU.out.add HK.out.2 (show 1 ≤ a + 1 by omega) (by omega) HB.out
            have h2 := h1.len
            unfold gapsR
            split <;> omega
          obtain ⟨G, hG⟩ : ∃ G, G = gapsR (addR R (a + 1)) := ⟨_, rfl⟩
          rw [← hG] at hg
          have HG := Lib.hid hG
          clear hG
          have w4 : ∀ z : Int, z = (i : Int) + 1 → wrap64 z = (i : Int) + 1 := fun z hz => by rw [hz]; unfold wrap64; omega
          go_wp2_with fail
          rw [show ((a : Int) + 1) = ((a + 1 : Nat) : Int) from rfl]
          refine (St.has HS2.out (a + 1) false HU.out.wf HLR.out HB.out).mono ?_
          rintro e w3 ⟨rfl, hc, hs⟩
          have HS3 := Lib.hid hs
          clear hs hc
          go_wp2_with fail
          rw [show ((a : Int) + 1) = ((a + 1 : Nat) : Int) from rfl]
          refine (St.add HS3.out (a + 1) (addR R (a + 1)) true HU.out.wf (by have := HK.out.2; omega) HLR.out (by rw [HB.out]; simp) rfl).mono ?_
          rintro e w4 ⟨rfl, hs, hc⟩
          have HS4 := Lib.hid hs
          clear hs hc
          go_wp2_with fail
          refine (gaps_any _ _ _ HS4.out.set_ (by have := (HU.out.add HK.out.2 (show 1 ≤ a + 1 by omega) (by omega) HB.out).len; omega)).mono ?_
          rintro e w5 ⟨rfl, rfl⟩
          rw [← HG.out]
          go_wp2
          go_roundw
          case rel =>
            exact ⟨i + 1, a, _, by omega, ha, by go_num, rfl, HS4.out, HU.out.add HK.out.2 (by omega) (by omega) HB.out⟩
          case measure => simp [intOf]; omega
    · obtain rfl : i = k := by omega
      have hR : R = [(1, i)] := HU.out.full HK.out.2 k1
      subst hR
      have e1 : lowR [(1, i)] = i := rfl
      have e2 : topR [(1, i)] = i := rfl
      have e3 : gapsR [(1, i)] = 0 := by
        unfold gapsR
        rw [e1, if_pos (by omega)]
        rfl
      have hm1 : memR [(1, i)] 1 = true := by rw [memR_one]; simp [k1]
      have w1 : ∀ q : IntKind, q = .u64 → q.wrap (i : Int) = (i : Int) := fun q hq => by rw [hq, IntKind.wrap_u64]; omega
      have HE := Lib.hid (And.intro e1 (And.intro e2 (And.intro e3 hm1)))
      clear e1 e2 e3 hm1
      go_wp2_with fail
      refine (St.ranges HS.out (by simp)).mono ?_
      rintro e w8 ⟨A, cap, rfl, hr, hc, hs⟩
      have HS8 := Lib.hid hs
      clear hr hs hc
      go_wp2_with fail
      refine (low_any _ _ _ HS8.out.set_).mono ?_
      rintro e w' ⟨rfl, rfl⟩
      rw [HE.out.1]
      go_wp2_with fail
      refine (top_any _ _ _ HS8.out.set_ (by simp)).mono ?_
      rintro e w' ⟨rfl, rfl⟩
      rw [HE.out.2.1]
      go_wp2_with fail
      refine (gaps_any _ _ _ HS8.out.set_ (by simp)).mono ?_
      rintro e w' ⟨rfl, rfl⟩
      rw [HE.out.2.2.1]
      go_wp2_with fail
      refine (St.add HS8.out 1 [(1, i)] false HU.out.wf (by decide) (by simp) (by rw [HE.out.2.2.2]; rfl) (by unfold addR; rw [HE.out.2.2.2]; rfl)).mono ?_
      rintro e w9 ⟨rfl, hs, hc⟩
      have HS9 := Lib.hid hs
      clear hs hc
      go_wp2_with fail
      refine (lives_any _).mono ?_
      rintro e wF ⟨rfl, hc5⟩
      have HF5 := Lib.hid (HS9.out.chg.trans hc5)
      clear hc5
      go_wp2
      go_ret
      exact ⟨rfl, HF5.out⟩

theorem walk (a0 : Int) (w0 : (Lit.int .u64 a0).wf = true) (a1 : Int) (w1 : (Lit.int .u64 a1).wf = true) (W : World) :
    Calls Try.prog 6 #[.int .u64 a0, .int .u64 a1] W fun e w' => e = .returned (.bool true) ∧ Below W.heap.size W w' := by
  obtain ⟨m, rfl, _⟩ := nat_u64 w0
  obtain ⟨n, rfl, hn⟩ := nat_u64 w1
  exact (core m n W).mono fun _ _ ⟨he, hc⟩ => ⟨he, hc.below (Nat.le_refl _) (by simp)⟩
end Go.Proofs.Ytbnhnmfmgfoacaa.spanFills
