/- TopicMatches: the walk. -/
import Derived.Test.YtjpaaadcnlfjhaaDoorTpRef
import Derived.Test.YtjpaaadcnlfjhaaDoorTpSelf
set_option linter.unusedVariables false
set_option linter.unusedSimpArgs false
namespace Go.Proofs.YtjpaaadcnlfjhaaDoor
open Go.RowKit Go.Proofs.YtjpaaadcnlfjhaaDoor.PTopicMatches
attribute [local go_sem] Oper.semAt_some

theorem refMatch_s (p s : ByteArray) (w : World) : Calls Tryd.prog 21 #[.string p, .string s] w fun e w' => e = .returned (.bool (matchS p s)) ∧ Chg [] w w' :=
  (staithref05_Match.calls 1000 p s _ w (refMatch_eq p s 1000 (Nat.le_refl _))).mono fun _ _ ⟨he, hb⟩ => ⟨he, Chg.of_below hb⟩
theorem refOver_s (p s : ByteArray) (w : World) : Calls Tryd.prog 23 #[.string p, .string s] w fun e w' => e = .returned (.bool (overS p s)) ∧ Chg [] w w' :=
  (staithref05_Over.calls 1000 p s _ w (refOver_eq p s 1000 (Nat.le_refl _))).mono fun _ _ ⟨he, hb⟩ => ⟨he, Chg.of_below hb⟩
set_option maxHeartbeats 4000000 in
theorem topicMatches.walk (a0 : ByteArray) (w0 : a0.size ≤ 140737488351232) (a1 : ByteArray) (w1 : a1.size ≤ 140737488351232) (a2 : ByteArray) (w2 : a2.size ≤ 140737488351232) (W : World) (_ : Laid W) :
    Calls Tryd.prog 4 #[.string a0, .string a1, .string a2] W fun e w' => e = .returned (.bool true) ∧ Below W.heap.size W w' := by
  have HS : Hid True := Lib.hid trivial
  by_cases h0 : 2000 < a0.size
  · have t0 : decide (2000 < a0.size) = true := decide_eq_true h0
    go_enter Tryd.func4, Tryd.ntmps4
    go_wp2_with
      (first
      | (go_at_call 9; refine (great_any _ _).mono ?_; rintro e g1 ⟨rfl, hg1⟩)
      | (go_at_call 10; refine (lives_any _).mono ?_; rintro e g2 ⟨rfl, hg2⟩)
      | (go_at_call 21; refine (refMatch_s _ _ _).mono ?_; rintro e g3 ⟨rfl, hg3⟩)
      | (go_at_call 23; refine (refOver_s _ _ _).mono ?_; rintro e g3 ⟨rfl, hg3⟩)
      | (go_at_call 20; refine (match_s _ _ HS.out.1 HS.out.2.1 _).mono ?_; rintro e g4 ⟨rfl, hg4⟩)
      | (go_at_call 22; refine (over_s _ _ HS.out.1 HS.out.2.2 _).mono ?_; rintro e g5 ⟨rfl, hg5⟩))
    go_ret
    exact ⟨rfl, Chg.end_ (by repeat' (first | exact Chg.refl _ _ | assumption | refine Chg.trans ?_ (by assumption)))⟩
  · have t0 : decide (2000 < a0.size) = false := decide_eq_false h0
    by_cases h1 : 2000 < a1.size
    · have t1 : decide (2000 < a1.size) = true := decide_eq_true h1
      go_enter Tryd.func4, Tryd.ntmps4
      go_wp2_with
        (first
        | (go_at_call 9; refine (great_any _ _).mono ?_; rintro e g1 ⟨rfl, hg1⟩)
        | (go_at_call 10; refine (lives_any _).mono ?_; rintro e g2 ⟨rfl, hg2⟩)
        | (go_at_call 21; refine (refMatch_s _ _ _).mono ?_; rintro e g3 ⟨rfl, hg3⟩)
        | (go_at_call 23; refine (refOver_s _ _ _).mono ?_; rintro e g3 ⟨rfl, hg3⟩)
        | (go_at_call 20; refine (match_s _ _ HS.out.1 HS.out.2.1 _).mono ?_; rintro e g4 ⟨rfl, hg4⟩)
        | (go_at_call 22; refine (over_s _ _ HS.out.1 HS.out.2.2 _).mono ?_; rintro e g5 ⟨rfl, hg5⟩))
      go_ret
      exact ⟨rfl, Chg.end_ (by repeat' (first | exact Chg.refl _ _ | assumption | refine Chg.trans ?_ (by assumption)))⟩
    · have t1 : decide (2000 < a1.size) = false := decide_eq_false h1
      by_cases h2 : 2000 < a2.size
      · have t2 : decide (2000 < a2.size) = true := decide_eq_true h2
        go_enter Tryd.func4, Tryd.ntmps4
        go_wp2_with
          (first
          | (go_at_call 9; refine (great_any _ _).mono ?_; rintro e g1 ⟨rfl, hg1⟩)
          | (go_at_call 10; refine (lives_any _).mono ?_; rintro e g2 ⟨rfl, hg2⟩)
          | (go_at_call 21; refine (refMatch_s _ _ _).mono ?_; rintro e g3 ⟨rfl, hg3⟩)
          | (go_at_call 23; refine (refOver_s _ _ _).mono ?_; rintro e g3 ⟨rfl, hg3⟩)
          | (go_at_call 20; refine (match_s _ _ HS.out.1 HS.out.2.1 _).mono ?_; rintro e g4 ⟨rfl, hg4⟩)
          | (go_at_call 22; refine (over_s _ _ HS.out.1 HS.out.2.2 _).mono ?_; rintro e g5 ⟨rfl, hg5⟩))
        go_ret
        exact ⟨rfl, Chg.end_ (by repeat' (first | exact Chg.refl _ _ | assumption | refine Chg.trans ?_ (by assumption)))⟩
      · have t2 : decide (2000 < a2.size) = false := decide_eq_false h2
        have HS := Lib.hid (show a0.size ≤ 50000 ∧ a1.size ≤ 50000 ∧ a2.size ≤ 50000 from ⟨by omega, by omega, by omega⟩)
        clear h0 h1 h2
        rcases Bool.eq_false_or_eq_true (matchS a0 a1) with hm | hm
        · rcases Bool.eq_false_or_eq_true (overS a0 a2) with ho | ho
          · skip
            go_enter Tryd.func4, Tryd.ntmps4
            go_wp2_with
              (first
              | (go_at_call 9; refine (great_any _ _).mono ?_; rintro e g1 ⟨rfl, hg1⟩)
              | (go_at_call 10; refine (lives_any _).mono ?_; rintro e g2 ⟨rfl, hg2⟩)
              | (go_at_call 21; refine (refMatch_s _ _ _).mono ?_; rintro e g3 ⟨rfl, hg3⟩)
              | (go_at_call 23; refine (refOver_s _ _ _).mono ?_; rintro e g3 ⟨rfl, hg3⟩)
              | (go_at_call 20; refine (match_s _ _ HS.out.1 HS.out.2.1 _).mono ?_; rintro e g4 ⟨rfl, hg4⟩)
              | (go_at_call 22; refine (over_s _ _ HS.out.1 HS.out.2.2 _).mono ?_; rintro e g5 ⟨rfl, hg5⟩))
            go_ret
            exact ⟨rfl, Chg.end_ (by repeat' (first | exact Chg.refl _ _ | assumption | refine Chg.trans ?_ (by assumption)))⟩
          · skip
            go_enter Tryd.func4, Tryd.ntmps4
            go_wp2_with
              (first
              | (go_at_call 9; refine (great_any _ _).mono ?_; rintro e g1 ⟨rfl, hg1⟩)
              | (go_at_call 10; refine (lives_any _).mono ?_; rintro e g2 ⟨rfl, hg2⟩)
              | (go_at_call 21; refine (refMatch_s _ _ _).mono ?_; rintro e g3 ⟨rfl, hg3⟩)
              | (go_at_call 23; refine (refOver_s _ _ _).mono ?_; rintro e g3 ⟨rfl, hg3⟩)
              | (go_at_call 20; refine (match_s _ _ HS.out.1 HS.out.2.1 _).mono ?_; rintro e g4 ⟨rfl, hg4⟩)
              | (go_at_call 22; refine (over_s _ _ HS.out.1 HS.out.2.2 _).mono ?_; rintro e g5 ⟨rfl, hg5⟩))
            go_ret
            exact ⟨rfl, Chg.end_ (by repeat' (first | exact Chg.refl _ _ | assumption | refine Chg.trans ?_ (by assumption)))⟩
        · rcases Bool.eq_false_or_eq_true (overS a0 a2) with ho | ho
          · skip
            go_enter Tryd.func4, Tryd.ntmps4
            go_wp2_with
              (first
              | (go_at_call 9; refine (great_any _ _).mono ?_; rintro e g1 ⟨rfl, hg1⟩)
              | (go_at_call 10; refine (lives_any _).mono ?_; rintro e g2 ⟨rfl, hg2⟩)
              | (go_at_call 21; refine (refMatch_s _ _ _).mono ?_; rintro e g3 ⟨rfl, hg3⟩)
              | (go_at_call 23; refine (refOver_s _ _ _).mono ?_; rintro e g3 ⟨rfl, hg3⟩)
              | (go_at_call 20; refine (match_s _ _ HS.out.1 HS.out.2.1 _).mono ?_; rintro e g4 ⟨rfl, hg4⟩)
              | (go_at_call 22; refine (over_s _ _ HS.out.1 HS.out.2.2 _).mono ?_; rintro e g5 ⟨rfl, hg5⟩))
            go_ret
            exact ⟨rfl, Chg.end_ (by repeat' (first | exact Chg.refl _ _ | assumption | refine Chg.trans ?_ (by assumption)))⟩
          · skip
            go_enter Tryd.func4, Tryd.ntmps4
            go_wp2_with
              (first
              | (go_at_call 9; refine (great_any _ _).mono ?_; rintro e g1 ⟨rfl, hg1⟩)
              | (go_at_call 10; refine (lives_any _).mono ?_; rintro e g2 ⟨rfl, hg2⟩)
              | (go_at_call 21; refine (refMatch_s _ _ _).mono ?_; rintro e g3 ⟨rfl, hg3⟩)
              | (go_at_call 23; refine (refOver_s _ _ _).mono ?_; rintro e g3 ⟨rfl, hg3⟩)
              | (go_at_call 20; refine (match_s _ _ HS.out.1 HS.out.2.1 _).mono ?_; rintro e g4 ⟨rfl, hg4⟩)
              | (go_at_call 22; refine (over_s _ _ HS.out.1 HS.out.2.2 _).mono ?_; rintro e g5 ⟨rfl, hg5⟩))
            go_ret
            exact ⟨rfl, Chg.end_ (by repeat' (first | exact Chg.refl _ _ | assumption | refine Chg.trans ?_ (by assumption)))⟩
end Go.Proofs.YtjpaaadcnlfjhaaDoor
