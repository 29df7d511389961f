/- TopicStars: the walk. -/
import Derived.Test.YtjpaaadcnlfjhaaDoorTpSelf
set_option linter.unusedVariables false
set_option linter.unusedSimpArgs false
namespace Go.Proofs.YtjpaaadcnlfjhaaDoor
open Go.RowKit
attribute [local go_sem] Oper.semAt_some

/-- So many stars. -/
def starsB (n : Nat) : ByteArray := ⟨(Tp.stars n).toArray⟩
theorem starsB_data (n : Nat) : (starsB n).data.toList = Tp.stars n := by simp [starsB]
theorem starsB_one : starsB 1 = ⟨#[42]⟩ := rfl
theorem starsB_succ (n : Nat) : starsB (n + 1 + 1) = starsB (n + 1) ++ (⟨#[46, 42]⟩ : ByteArray) := by
  apply ByteArray.ext
  apply Array.toList_inj.1
  simp [starsB, Tp.stars]
theorem starsB_size (n : Nat) : (starsB (n + 1)).size = 2 * n + 1 := Tp.stars_len n
theorem stars1 (r : Nat) (hr : r < 10) (k : ByteArray) : matchS (starsB (r + 1)) k = (keyS k && decide ((wds k).length = r + 1)) := by
  unfold matchS keyS wds
  rw [starsB_data]
  exact Tp.match_stars r hr _
theorem stars2 (r : Nat) (hr : r < 10) (k : ByteArray) : matchS (starsB (r + 1) ++ (⟨#[46, 35]⟩ : ByteArray)) k = (keyS k && decide (r + 1 ≤ (wds k).length)) := by
  unfold matchS keyS wds
  rw [show (starsB (r + 1) ++ (⟨#[46, 35]⟩ : ByteArray)).data.toList = Tp.stars (r + 1) ++ 46 :: Tp.hash from by simp [starsB, Tp.hash]]
  exact Tp.match_stars_hash r hr _
theorem stars3 (r : Nat) (hr : r < 10) (k : ByteArray) : matchS ((⟨#[35, 46]⟩ : ByteArray) ++ starsB (r + 1)) k = (keyS k && decide (r + 1 ≤ (wds k).length)) := by
  unfold matchS keyS wds
  rw [show ((⟨#[35, 46]⟩ : ByteArray) ++ starsB (r + 1)).data.toList = Tp.hash ++ 46 :: Tp.stars (r + 1) from by simp [starsB, Tp.hash]]
  exact Tp.match_hash_stars r hr _
set_option maxHeartbeats 4000000 in
theorem topicStars.walk (a0 : Int) (w0 : (Lit.int .u64 a0).wf = true) (a1 : ByteArray) (w1 : a1.size ≤ 140737488351232) (W : World) (_ : Laid W) :
    Calls Tryd.prog 8 #[.int .u64 a0, .string a1] W fun e w' => e = .returned (.bool true) ∧ Below W.heap.size W w' := by
  by_cases h1 : 2000 < a1.size
  · have t1 : decide (2000 < a1.size) = true := decide_eq_true h1
    clear h1
    go_enter Tryd.func8, Tryd.ntmps8
    go_wp2_with (first
      | (go_at_call 10; refine (lives_any _).mono ?_; rintro e g2 ⟨rfl, hg2⟩)
      | (go_at_call 9; refine (great_any _ _).mono ?_; rintro e g3 ⟨rfl, hg3⟩))
    go_ret
    exact ⟨rfl, Chg.end_ (hg3.trans hg2)⟩
  · have t1 : decide (2000 < a1.size) = false := decide_eq_false h1
    have HS : Hid (a1.size ≤ 2000) := Lib.hid (by omega)
    clear h1
    have ha : 0 ≤ a0 ∧ a0 < 18446744073709551616 := by
      simp only [Lit.wf, Bool.and_eq_true, decide_eq_true_eq] at w0
      have e1 : IntKind.u64.min = 0 := rfl
      have e2 : IntKind.u64.max = 18446744073709551615 := rfl
      rw [e1, e2] at w0
      omega
    obtain ⟨r, hr⟩ : ∃ r : Nat, r = (a0.tmod 10).toNat := ⟨_, rfl⟩
    have hm : a0.tmod 10 = a0 % 10 := Int.tmod_eq_emod_of_nonneg ha.1
    rw [hm] at hr
    have hr10 : r < 10 := by omega
    have hw1 : wrap64 (a0.tmod 10) = (r : Int) := by rw [hm, hr]; unfold wrap64; omega
    obtain ⟨k, hk⟩ : ∃ k : Nat, k = r + 1 := ⟨_, rfl⟩
    have hw3 : wrap64 (1 + (r : Int)) = (k : Int) := by unfold wrap64; omega
    have hkb : k ≤ 10 := by omega
    have m1 := stars1 r hr10 a1
    have m2 := stars2 r hr10 a1
    have m3 := stars3 r hr10 a1
    rw [← hk] at m1 m2 m3
    have sz : (starsB k).size ≤ 100 := by rw [hk, starsB_size]; omega
    have HK := Lib.hid (And.intro hk hr10)
    have HSZ := Lib.hid sz
    obtain ⟨n, hn⟩ : ∃ n, n = (wds a1).length := ⟨_, rfl⟩
    have hnb : n ≤ 2001 := by have := wds_le a1; have := HS.out; omega
    have HW : Hid (∀ w, Calls Tryd.prog 18 #[.string a1] w fun e w' => ∃ A c, e = .returned (.slice A n c) ∧ SlAt w' A ((wds a1).map encS) c ∧ Chg [] w w') := Lib.hid (fun w => by rw [hn]; exact words_s a1 (by have := HS.out; omega) w)
    rw [← hn] at m1 m2 m3
    have HN := Lib.hid hn
    have HM := Lib.hid (And.intro m1 (And.intro m2 m3))
    clear hm hr ha w0 m1 m2 m3 hk hr10 sz hn
    go_enter Tryd.func8, Tryd.ntmps8
    go_wp2_with (go_at_call 9; refine (great_any _ _).mono ?_; rintro e g3 ⟨rfl, hg3⟩)
    rw [hw1, hw3]
    clear hw1 hw3
    go_loopw [6, 7] (fun s6 s7 wr => ∃ i : Nat, i + 1 ≤ k ∧ s7 = .int .i64 ((i + 1 : Nat) : Int) ∧ s6 = .string (starsB (i + 1)) ∧ Chg [] W wr) (fun _ s7 _ => k - (intOf s7).toNat)
    case atStart => exact ⟨0, by have := HK.out.1; omega, rfl, rfl, hg3⟩
    case round =>
      obtain ⟨i, hik, rfl, rfl, hc⟩ := hrel
      by_cases hlt : i + 1 < k
      · obtain ⟨j, hj⟩ : ∃ j, j = i + 1 := ⟨_, rfl⟩
        have HJ := Lib.hid hj
        rw [← hj] at hlt hik ⊢
        have j1 : (j : Int) < (k : Int) := by omega
        have sj : (starsB j).size ≤ 100 := by rw [hj, starsB_size]; omega
        clear hj hik
        go_wp2_with fail
        go_roundw
        case rel => exact ⟨j, hlt, by go_num, by rw [HJ.out, starsB_succ], hc⟩
        case measure => simp [intOf]; omega
      · have e : i + 1 = k := by omega
        rw [e]
        have HC := Lib.hid hc
        clear hik hlt e hc
        have sk := HSZ.out
        have HB : Hid ((starsB k).size ≤ 50000 ∧ (starsB k ++ (⟨#[46, 35]⟩ : ByteArray)).size ≤ 50000 ∧ ((⟨#[35, 46]⟩ : ByteArray) ++ starsB k).size ≤ 50000) := Lib.hid (by
          rw [ByteArray.size_append, ByteArray.size_append]
          refine ⟨by omega, ?_, ?_⟩
          · show (starsB k).size + 2 ≤ _; omega
          · show 2 + (starsB k).size ≤ _; omega)
        have j1 : decide ((k : Int) < (k : Int)) = false := decide_eq_false (by omega)
        rcases Bool.eq_false_or_eq_true (keyS a1) with hq | hq
        · rcases Nat.lt_trichotomy n k with hnk | hnk | hnk
          · have f1 : matchS (starsB k) a1 = false := by rw [HM.out.1, hq, decide_eq_false (by omega)]; rfl
            have f2 : matchS (starsB k ++ (⟨#[46, 35]⟩ : ByteArray)) a1 = false := by rw [HM.out.2.1, hq, decide_eq_false (by omega)]; rfl
            have f3 : matchS ((⟨#[35, 46]⟩ : ByteArray) ++ starsB k) a1 = false := by rw [HM.out.2.2, hq, decide_eq_false (by omega)]; rfl
            have f4 : ((n : Int) == (k : Int)) = false := by rw [beq_eq_false_iff_ne]; omega
            have f5 : decide ((k : Int) ≤ (n : Int)) = false := decide_eq_false (by omega)
            have f6 : decide (k ≤ n) = false := decide_eq_false (by omega)
            clear hnk
            go_wp2_with (first
              | (go_at_call 10; refine (lives_any _).mono ?_; rintro e g2 ⟨rfl, hg2⟩)
              | (go_at_call 13; refine (key_s _ (by have := HS.out; omega) _).mono ?_; rintro e g3 ⟨rfl, hg3⟩)
              | (go_at_call 18; refine (HW.out _).mono ?_; rintro e g4 ⟨A, c, rfl, _, hg4⟩)
              | (go_at_call 20; refine (match_s _ _ (by first | exact HB.out.1 | exact HB.out.2.1 | exact HB.out.2.2) (by have := HS.out; omega) _).mono ?_; rintro e g5 ⟨rfl, hg5⟩))
            go_ret
            have hc := HC.out
            exact ⟨rfl, Chg.end_ (by repeat' (first | exact Chg.refl _ _ | assumption | refine Chg.trans ?_ (by assumption)))⟩
          · have f1 : matchS (starsB k) a1 = true := by rw [HM.out.1, hq, decide_eq_true (by omega)]; rfl
            have f2 : matchS (starsB k ++ (⟨#[46, 35]⟩ : ByteArray)) a1 = true := by rw [HM.out.2.1, hq, decide_eq_true (by omega)]; rfl
            have f3 : matchS ((⟨#[35, 46]⟩ : ByteArray) ++ starsB k) a1 = true := by rw [HM.out.2.2, hq, decide_eq_true (by omega)]; rfl
            have f4 : ((n : Int) == (k : Int)) = true := by rw [beq_iff_eq]; omega
            have f5 : decide ((k : Int) ≤ (n : Int)) = true := decide_eq_true (by omega)
            have f6 : decide (k ≤ n) = true := decide_eq_true (by omega)
            clear hnk
            go_wp2_with (first
              | (go_at_call 10; refine (lives_any _).mono ?_; rintro e g2 ⟨rfl, hg2⟩)
              | (go_at_call 13; refine (key_s _ (by have := HS.out; omega) _).mono ?_; rintro e g3 ⟨rfl, hg3⟩)
              | (go_at_call 18; refine (HW.out _).mono ?_; rintro e g4 ⟨A, c, rfl, _, hg4⟩)
              | (go_at_call 20; refine (match_s _ _ (by first | exact HB.out.1 | exact HB.out.2.1 | exact HB.out.2.2) (by have := HS.out; omega) _).mono ?_; rintro e g5 ⟨rfl, hg5⟩))
            go_ret
            have hc := HC.out
            exact ⟨rfl, Chg.end_ (by repeat' (first | exact Chg.refl _ _ | assumption | refine Chg.trans ?_ (by assumption)))⟩
          · have f1 : matchS (starsB k) a1 = false := by rw [HM.out.1, hq, decide_eq_false (by omega)]; rfl
            have f2 : matchS (starsB k ++ (⟨#[46, 35]⟩ : ByteArray)) a1 = true := by rw [HM.out.2.1, hq, decide_eq_true (by omega)]; rfl
            have f3 : matchS ((⟨#[35, 46]⟩ : ByteArray) ++ starsB k) a1 = true := by rw [HM.out.2.2, hq, decide_eq_true (by omega)]; rfl
            have f4 : ((n : Int) == (k : Int)) = false := by rw [beq_eq_false_iff_ne]; omega
            have f5 : decide ((k : Int) ≤ (n : Int)) = true := decide_eq_true (by omega)
            have f6 : decide (k ≤ n) = true := decide_eq_true (by omega)
            clear hnk
            go_wp2_with (first
              | (go_at_call 10; refine (lives_any _).mono ?_; rintro e g2 ⟨rfl, hg2⟩)
              | (go_at_call 13; refine (key_s _ (by have := HS.out; omega) _).mono ?_; rintro e g3 ⟨rfl, hg3⟩)
              | (go_at_call 18; refine (HW.out _).mono ?_; rintro e g4 ⟨A, c, rfl, _, hg4⟩)
              | (go_at_call 20; refine (match_s _ _ (by first | exact HB.out.1 | exact HB.out.2.1 | exact HB.out.2.2) (by have := HS.out; omega) _).mono ?_; rintro e g5 ⟨rfl, hg5⟩))
            go_ret
            have hc := HC.out
            exact ⟨rfl, Chg.end_ (by repeat' (first | exact Chg.refl _ _ | assumption | refine Chg.trans ?_ (by assumption)))⟩
        · have f1 : matchS (starsB k) a1 = false := by rw [HM.out.1, hq, Bool.false_and]
          have f2 : matchS (starsB k ++ (⟨#[46, 35]⟩ : ByteArray)) a1 = false := by rw [HM.out.2.1, hq, Bool.false_and]
          have f3 : matchS ((⟨#[35, 46]⟩ : ByteArray) ++ starsB k) a1 = false := by rw [HM.out.2.2, hq, Bool.false_and]
          go_wp2_with (first
            | (go_at_call 10; refine (lives_any _).mono ?_; rintro e g2 ⟨rfl, hg2⟩)
            | (go_at_call 13; refine (key_s _ (by have := HS.out; omega) _).mono ?_; rintro e g3 ⟨rfl, hg3⟩)
            | (go_at_call 18; refine (HW.out _).mono ?_; rintro e g4 ⟨A, c, rfl, _, hg4⟩)
            | (go_at_call 20; refine (match_s _ _ (by first | exact HB.out.1 | exact HB.out.2.1 | exact HB.out.2.2) (by have := HS.out; omega) _).mono ?_; rintro e g5 ⟨rfl, hg5⟩))
          go_ret
          have hc := HC.out
          exact ⟨rfl, Chg.end_ (by repeat' (first | exact Chg.refl _ _ | assumption | refine Chg.trans ?_ (by assumption)))⟩
end Go.Proofs.YtjpaaadcnlfjhaaDoor
