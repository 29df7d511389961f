/- TopicSelf, TopicOver: the walks. -/
import Derived.Test.YtjpaaadcnlfjhaaDoorTpMatch
import Derived.Test.YtjpaaadcnlfjhaaDoorTpLaws
import Derived.Test.YtjpaaadcnlfjhaaDoorTpLaid
set_option linter.unusedVariables false
set_option linter.unusedSimpArgs false
namespace Go.Proofs.YtjpaaadcnlfjhaaDoor
open Go.RowKit
attribute [local go_sem] Oper.semAt_some

theorem Chg.end_ {w w' : World} (h : Chg [] w w') : Below w.heap.size w w' := h.below (Nat.le_refl _) (by simp)
theorem hashS : (⟨#[35]⟩ : ByteArray).data.toList = Tp.hash := rfl
theorem match_hashS (a : ByteArray) : matchS ⟨#[35]⟩ a = keyS a := Tp.match_hash _
theorem over_hashS (a : ByteArray) : overS ⟨#[35]⟩ a = patS a := Tp.over_hash _
theorem over_selfS (a : ByteArray) : overS a a = patS a := Tp.over_self _
theorem key_patS (a : ByteArray) (h : keyS a = true) : patS a = true := Tp.key_pat h
theorem self_keyS (a b : ByteArray) (h : keyS a = true) : matchS a b = (a.toList == b.toList) := by
  rw [Lib.toList_data, Lib.toList_data]; exact Tp.self_key h
set_option maxHeartbeats 2000000 in
theorem topicSelf.walk (a0 : ByteArray) (w0 : a0.size ≤ 140737488351232) (a1 : ByteArray) (w1 : a1.size ≤ 140737488351232) (W : World) (_ : Laid W) :
    Calls Tryd.prog 5 #[.string a0, .string a1] W fun e w' => e = .returned (.bool true) ∧ Below W.heap.size W w' := by
  have HS : Hid True := Lib.hid trivial
  by_cases h0 : 2000 < a0.size
  · have t0 : decide (2000 < a0.size) = true := decide_eq_true h0
    go_enter Tryd.func5, Tryd.ntmps5
    go_wp2_with
      (first
        | (go_at_call 9; refine (great_any _ _).mono ?_; rintro e g1 ⟨rfl, hg1⟩)
        | (go_at_call 10; refine (lives_any _).mono ?_; rintro e g2 ⟨rfl, hg2⟩)
        | (go_at_call 13; refine (key_s _ (by first | exact HS.out.1 | exact HS.out.2.1 | exact HS.out.2.2) _).mono ?_; rintro e g3 ⟨rfl, hg3⟩)
        | (go_at_call 15; refine (pattern_s _ (by first | exact HS.out.1 | exact HS.out.2.1 | exact HS.out.2.2) _).mono ?_; rintro e g3 ⟨rfl, hg3⟩)
        | (go_at_call 20; refine (match_s _ _ (by first | exact HS.out.1 | exact HS.out.2.1 | exact HS.out.2.2 | decide) (by first | exact HS.out.1 | exact HS.out.2.1 | exact HS.out.2.2 | decide) _).mono ?_; rintro e g4 ⟨rfl, hg4⟩)
        | (go_at_call 22; refine (over_s _ _ (by first | exact HS.out.1 | exact HS.out.2.1 | exact HS.out.2.2 | decide) (by first | exact HS.out.1 | exact HS.out.2.1 | exact HS.out.2.2 | decide) _).mono ?_; rintro e g5 ⟨rfl, hg5⟩))
    go_ret
    exact ⟨rfl, Chg.end_ (by repeat' (first | exact Chg.refl _ _ | assumption | refine Chg.trans ?_ (by assumption)))⟩
  · have t0 : decide (2000 < a0.size) = false := decide_eq_false h0
    by_cases h1 : 2000 < a1.size
    · have t1 : decide (2000 < a1.size) = true := decide_eq_true h1
      go_enter Tryd.func5, Tryd.ntmps5
      go_wp2_with
        (first
          | (go_at_call 9; refine (great_any _ _).mono ?_; rintro e g1 ⟨rfl, hg1⟩)
          | (go_at_call 10; refine (lives_any _).mono ?_; rintro e g2 ⟨rfl, hg2⟩)
          | (go_at_call 13; refine (key_s _ (by first | exact HS.out.1 | exact HS.out.2.1 | exact HS.out.2.2) _).mono ?_; rintro e g3 ⟨rfl, hg3⟩)
          | (go_at_call 15; refine (pattern_s _ (by first | exact HS.out.1 | exact HS.out.2.1 | exact HS.out.2.2) _).mono ?_; rintro e g3 ⟨rfl, hg3⟩)
          | (go_at_call 20; refine (match_s _ _ (by first | exact HS.out.1 | exact HS.out.2.1 | exact HS.out.2.2 | decide) (by first | exact HS.out.1 | exact HS.out.2.1 | exact HS.out.2.2 | decide) _).mono ?_; rintro e g4 ⟨rfl, hg4⟩)
          | (go_at_call 22; refine (over_s _ _ (by first | exact HS.out.1 | exact HS.out.2.1 | exact HS.out.2.2 | decide) (by first | exact HS.out.1 | exact HS.out.2.1 | exact HS.out.2.2 | decide) _).mono ?_; rintro e g5 ⟨rfl, hg5⟩))
      go_ret
      exact ⟨rfl, Chg.end_ (by repeat' (first | exact Chg.refl _ _ | assumption | refine Chg.trans ?_ (by assumption)))⟩
    · have t1 : decide (2000 < a1.size) = false := decide_eq_false h1
      have HS := Lib.hid (show a0.size ≤ 50000 ∧ a1.size ≤ 50000 ∧ True from ⟨by omega, by omega, trivial⟩)
      have e1 := match_hashS a0
      have e2 := over_hashS a0
      have e3 := over_selfS a0
      rcases Bool.eq_false_or_eq_true (keyS a0) with hk | hk
      · have e4 := key_patS a0 hk
        have e5 := self_keyS a0 a1 hk
        rw [hk] at e1
        rw [e4] at e2 e3
        obtain ⟨r, hr⟩ : ∃ r, r = (a0.toList == a1.toList) := ⟨_, rfl⟩
        rw [← hr] at e5
        have e6 := hr.symm
        clear h0 h1 hr
        cases r
        · skip
          go_enter Tryd.func5, Tryd.ntmps5
          go_wp2_with
            (first
              | (go_at_call 9; refine (great_any _ _).mono ?_; rintro e g1 ⟨rfl, hg1⟩)
              | (go_at_call 10; refine (lives_any _).mono ?_; rintro e g2 ⟨rfl, hg2⟩)
              | (go_at_call 13; refine (key_s _ (by first | exact HS.out.1 | exact HS.out.2.1 | exact HS.out.2.2) _).mono ?_; rintro e g3 ⟨rfl, hg3⟩)
              | (go_at_call 15; refine (pattern_s _ (by first | exact HS.out.1 | exact HS.out.2.1 | exact HS.out.2.2) _).mono ?_; rintro e g3 ⟨rfl, hg3⟩)
              | (go_at_call 20; refine (match_s _ _ (by first | exact HS.out.1 | exact HS.out.2.1 | exact HS.out.2.2 | decide) (by first | exact HS.out.1 | exact HS.out.2.1 | exact HS.out.2.2 | decide) _).mono ?_; rintro e g4 ⟨rfl, hg4⟩)
              | (go_at_call 22; refine (over_s _ _ (by first | exact HS.out.1 | exact HS.out.2.1 | exact HS.out.2.2 | decide) (by first | exact HS.out.1 | exact HS.out.2.1 | exact HS.out.2.2 | decide) _).mono ?_; rintro e g5 ⟨rfl, hg5⟩))
          go_ret
          exact ⟨rfl, Chg.end_ (by repeat' (first | exact Chg.refl _ _ | assumption | refine Chg.trans ?_ (by assumption)))⟩
        · skip
          go_enter Tryd.func5, Tryd.ntmps5
          go_wp2_with
            (first
              | (go_at_call 9; refine (great_any _ _).mono ?_; rintro e g1 ⟨rfl, hg1⟩)
              | (go_at_call 10; refine (lives_any _).mono ?_; rintro e g2 ⟨rfl, hg2⟩)
              | (go_at_call 13; refine (key_s _ (by first | exact HS.out.1 | exact HS.out.2.1 | exact HS.out.2.2) _).mono ?_; rintro e g3 ⟨rfl, hg3⟩)
              | (go_at_call 15; refine (pattern_s _ (by first | exact HS.out.1 | exact HS.out.2.1 | exact HS.out.2.2) _).mono ?_; rintro e g3 ⟨rfl, hg3⟩)
              | (go_at_call 20; refine (match_s _ _ (by first | exact HS.out.1 | exact HS.out.2.1 | exact HS.out.2.2 | decide) (by first | exact HS.out.1 | exact HS.out.2.1 | exact HS.out.2.2 | decide) _).mono ?_; rintro e g4 ⟨rfl, hg4⟩)
              | (go_at_call 22; refine (over_s _ _ (by first | exact HS.out.1 | exact HS.out.2.1 | exact HS.out.2.2 | decide) (by first | exact HS.out.1 | exact HS.out.2.1 | exact HS.out.2.2 | decide) _).mono ?_; rintro e g5 ⟨rfl, hg5⟩))
          go_ret
          exact ⟨rfl, Chg.end_ (by repeat' (first | exact Chg.refl _ _ | assumption | refine Chg.trans ?_ (by assumption)))⟩
      · obtain ⟨q, hq⟩ : ∃ q, patS a0 = q := ⟨_, rfl⟩
        rw [hk] at e1
        rw [hq] at e2 e3
        clear h0 h1
        cases q
        · skip
          go_enter Tryd.func5, Tryd.ntmps5
          go_wp2_with
            (first
              | (go_at_call 9; refine (great_any _ _).mono ?_; rintro e g1 ⟨rfl, hg1⟩)
              | (go_at_call 10; refine (lives_any _).mono ?_; rintro e g2 ⟨rfl, hg2⟩)
              | (go_at_call 13; refine (key_s _ (by first | exact HS.out.1 | exact HS.out.2.1 | exact HS.out.2.2) _).mono ?_; rintro e g3 ⟨rfl, hg3⟩)
              | (go_at_call 15; refine (pattern_s _ (by first | exact HS.out.1 | exact HS.out.2.1 | exact HS.out.2.2) _).mono ?_; rintro e g3 ⟨rfl, hg3⟩)
              | (go_at_call 20; refine (match_s _ _ (by first | exact HS.out.1 | exact HS.out.2.1 | exact HS.out.2.2 | decide) (by first | exact HS.out.1 | exact HS.out.2.1 | exact HS.out.2.2 | decide) _).mono ?_; rintro e g4 ⟨rfl, hg4⟩)
              | (go_at_call 22; refine (over_s _ _ (by first | exact HS.out.1 | exact HS.out.2.1 | exact HS.out.2.2 | decide) (by first | exact HS.out.1 | exact HS.out.2.1 | exact HS.out.2.2 | decide) _).mono ?_; rintro e g5 ⟨rfl, hg5⟩))
          go_ret
          exact ⟨rfl, Chg.end_ (by repeat' (first | exact Chg.refl _ _ | assumption | refine Chg.trans ?_ (by assumption)))⟩
        · skip
          go_enter Tryd.func5, Tryd.ntmps5
          go_wp2_with
            (first
              | (go_at_call 9; refine (great_any _ _).mono ?_; rintro e g1 ⟨rfl, hg1⟩)
              | (go_at_call 10; refine (lives_any _).mono ?_; rintro e g2 ⟨rfl, hg2⟩)
              | (go_at_call 13; refine (key_s _ (by first | exact HS.out.1 | exact HS.out.2.1 | exact HS.out.2.2) _).mono ?_; rintro e g3 ⟨rfl, hg3⟩)
              | (go_at_call 15; refine (pattern_s _ (by first | exact HS.out.1 | exact HS.out.2.1 | exact HS.out.2.2) _).mono ?_; rintro e g3 ⟨rfl, hg3⟩)
              | (go_at_call 20; refine (match_s _ _ (by first | exact HS.out.1 | exact HS.out.2.1 | exact HS.out.2.2 | decide) (by first | exact HS.out.1 | exact HS.out.2.1 | exact HS.out.2.2 | decide) _).mono ?_; rintro e g4 ⟨rfl, hg4⟩)
              | (go_at_call 22; refine (over_s _ _ (by first | exact HS.out.1 | exact HS.out.2.1 | exact HS.out.2.2 | decide) (by first | exact HS.out.1 | exact HS.out.2.1 | exact HS.out.2.2 | decide) _).mono ?_; rintro e g5 ⟨rfl, hg5⟩))
          go_ret
          exact ⟨rfl, Chg.end_ (by repeat' (first | exact Chg.refl _ _ | assumption | refine Chg.trans ?_ (by assumption)))⟩
end Go.Proofs.YtjpaaadcnlfjhaaDoor
