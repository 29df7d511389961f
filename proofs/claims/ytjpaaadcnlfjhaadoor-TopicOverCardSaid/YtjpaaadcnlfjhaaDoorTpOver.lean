/- TopicOver: the walk. -/
import Derived.Test.YtjpaaadcnlfjhaaDoorTpSelf
set_option linter.unusedVariables false
set_option linter.unusedSimpArgs false
namespace Go.Proofs.YtjpaaadcnlfjhaaDoor
open Go.RowKit
attribute [local go_sem] Oper.semAt_some
theorem over_matchS {a b s : ByteArray} (h1 : overS a b = true) (h2 : matchS b s = true) : matchS a s = true := Tp.over_match h1 h2
theorem over_overS {a b s : ByteArray} (h1 : overS a b = true) (h2 : overS b s = true) : overS a s = true := Tp.over_over h1 h2
set_option maxHeartbeats 4000000 in
theorem topicOver.walk (a0 : ByteArray) (w0 : a0.size ≤ 140737488351232) (a1 : ByteArray) (w1 : a1.size ≤ 140737488351232) (a2 : ByteArray) (w2 : a2.size ≤ 140737488351232) (W : World) (_ : Laid W) :
    Calls Tryd.prog 6 #[.string a0, .string a1, .string a2] W fun e w' => e = .returned (.bool true) ∧ Below W.heap.size W w' := by
  have HS : Hid True := Lib.hid trivial
  by_cases h0 : 2000 < a0.size
  · have t0 : decide (2000 < a0.size) = true := decide_eq_true h0
    go_enter Tryd.func6, Tryd.ntmps6
    go_wp2_with
      (first
        | (go_at_call 9; refine (great_any _ _).mono ?_; rintro e g1 ⟨rfl, hg1⟩)
        | (go_at_call 10; refine (lives_any _).mono ?_; rintro e g2 ⟨rfl, hg2⟩)
        | (go_at_call 13; refine (key_s _ (by first | exact HS.out.1 | exact HS.out.2.1 | exact HS.out.2.2) _).mono ?_; rintro e g3 ⟨rfl, hg3⟩)
        | (go_at_call 15; refine (pattern_s _ (by first | exact HS.out.1 | exact HS.out.2.1 | exact HS.out.2.2) _).mono ?_; rintro e g3 ⟨rfl, hg3⟩)
        | (go_at_call 20; refine (match_s _ _ (by first | exact HS.out.1 | exact HS.out.2.1 | exact HS.out.2.2 | decide) (by first | exact HS.out.1 | exact HS.out.2.1 | exact HS.out.2.2 | decide) _).mono ?_; rintro e g4 ⟨rfl, hg4⟩)
        | (go_at_call 22; refine (over_s _ _ (by first | exact HS.out.1 | exact HS.out.2.1 | exact HS.out.2.2 | decide) (by first | exact HS.out.1 | exact HS.out.2.1 | exact HS.out.2.2 | decide) _).mono ?_; rintro e g5 ⟨rfl, hg5⟩))
    go_ret
    exact ⟨rfl, Chg.end_ (by repeat' (first | exact Chg.refl _ _ | assumption | refine Chg.trans ?_ (by assumption)))⟩
  · have t0 : decide (2000 < a0.size) = false := decide_eq_false h0
    by_cases h1 : 2000 < a1.size
    · have t1 : decide (2000 < a1.size) = true := decide_eq_true h1
      go_enter Tryd.func6, Tryd.ntmps6
      go_wp2_with
        (first
          | (go_at_call 9; refine (great_any _ _).mono ?_; rintro e g1 ⟨rfl, hg1⟩)
          | (go_at_call 10; refine (lives_any _).mono ?_; rintro e g2 ⟨rfl, hg2⟩)
          | (go_at_call 13; refine (key_s _ (by first | exact HS.out.1 | exact HS.out.2.1 | exact HS.out.2.2) _).mono ?_; rintro e g3 ⟨rfl, hg3⟩)
          | (go_at_call 15; refine (pattern_s _ (by first | exact HS.out.1 | exact HS.out.2.1 | exact HS.out.2.2) _).mono ?_; rintro e g3 ⟨rfl, hg3⟩)
          | (go_at_call 20; refine (match_s _ _ (by first | exact HS.out.1 | exact HS.out.2.1 | exact HS.out.2.2 | decide) (by first | exact HS.out.1 | exact HS.out.2.1 | exact HS.out.2.2 | decide) _).mono ?_; rintro e g4 ⟨rfl, hg4⟩)
          | (go_at_call 22; refine (over_s _ _ (by first | exact HS.out.1 | exact HS.out.2.1 | exact HS.out.2.2 | decide) (by first | exact HS.out.1 | exact HS.out.2.1 | exact HS.out.2.2 | decide) _).mono ?_; rintro e g5 ⟨rfl, hg5⟩))
      go_ret
      exact ⟨rfl, Chg.end_ (by repeat' (first | exact Chg.refl _ _ | assumption | refine Chg.trans ?_ (by assumption)))⟩
    · have t1 : decide (2000 < a1.size) = false := decide_eq_false h1
      by_cases h2 : 2000 < a2.size
      · have t2 : decide (2000 < a2.size) = true := decide_eq_true h2
        go_enter Tryd.func6, Tryd.ntmps6
        go_wp2_with
          (first
            | (go_at_call 9; refine (great_any _ _).mono ?_; rintro e g1 ⟨rfl, hg1⟩)
            | (go_at_call 10; refine (lives_any _).mono ?_; rintro e g2 ⟨rfl, hg2⟩)
            | (go_at_call 13; refine (key_s _ (by first | exact HS.out.1 | exact HS.out.2.1 | exact HS.out.2.2) _).mono ?_; rintro e g3 ⟨rfl, hg3⟩)
            | (go_at_call 15; refine (pattern_s _ (by first | exact HS.out.1 | exact HS.out.2.1 | exact HS.out.2.2) _).mono ?_; rintro e g3 ⟨rfl, hg3⟩)
            | (go_at_call 20; refine (match_s _ _ (by first | exact HS.out.1 | exact HS.out.2.1 | exact HS.out.2.2 | decide) (by first | exact HS.out.1 | exact HS.out.2.1 | exact HS.out.2.2 | decide) _).mono ?_; rintro e g4 ⟨rfl, hg4⟩)
            | (go_at_call 22; refine (over_s _ _ (by first | exact HS.out.1 | exact HS.out.2.1 | exact HS.out.2.2 | decide) (by first | exact HS.out.1 | exact HS.out.2.1 | exact HS.out.2.2 | decide) _).mono ?_; rintro e g5 ⟨rfl, hg5⟩))
        go_ret
        exact ⟨rfl, Chg.end_ (by repeat' (first | exact Chg.refl _ _ | assumption | refine Chg.trans ?_ (by assumption)))⟩
      · have t2 : decide (2000 < a2.size) = false := decide_eq_false h2
        have HS := Lib.hid (show a0.size ≤ 50000 ∧ a1.size ≤ 50000 ∧ a2.size ≤ 50000 from ⟨by omega, by omega, by omega⟩)
        clear h0 h1 h2
        rcases Bool.eq_false_or_eq_true (overS a0 a1) with hk | hk
        · rcases Bool.eq_false_or_eq_true (matchS a1 a2) with hm | hm
          · have hm2 := over_matchS hk hm
            rcases Bool.eq_false_or_eq_true (overS a1 a2) with ho | ho
            · have ho2 := over_overS hk ho
              go_enter Tryd.func6, Tryd.ntmps6
              go_wp2_with
                (first
                  | (go_at_call 9; refine (great_any _ _).mono ?_; rintro e g1 ⟨rfl, hg1⟩)
                  | (go_at_call 10; refine (lives_any _).mono ?_; rintro e g2 ⟨rfl, hg2⟩)
                  | (go_at_call 13; refine (key_s _ (by first | exact HS.out.1 | exact HS.out.2.1 | exact HS.out.2.2) _).mono ?_; rintro e g3 ⟨rfl, hg3⟩)
                  | (go_at_call 15; refine (pattern_s _ (by first | exact HS.out.1 | exact HS.out.2.1 | exact HS.out.2.2) _).mono ?_; rintro e g3 ⟨rfl, hg3⟩)
                  | (go_at_call 20; refine (match_s _ _ (by first | exact HS.out.1 | exact HS.out.2.1 | exact HS.out.2.2 | decide) (by first | exact HS.out.1 | exact HS.out.2.1 | exact HS.out.2.2 | decide) _).mono ?_; rintro e g4 ⟨rfl, hg4⟩)
                  | (go_at_call 22; refine (over_s _ _ (by first | exact HS.out.1 | exact HS.out.2.1 | exact HS.out.2.2 | decide) (by first | exact HS.out.1 | exact HS.out.2.1 | exact HS.out.2.2 | decide) _).mono ?_; rintro e g5 ⟨rfl, hg5⟩))
              go_ret
              exact ⟨rfl, Chg.end_ (by repeat' (first | exact Chg.refl _ _ | assumption | refine Chg.trans ?_ (by assumption)))⟩
            · skip
              go_enter Tryd.func6, Tryd.ntmps6
              go_wp2_with
                (first
                  | (go_at_call 9; refine (great_any _ _).mono ?_; rintro e g1 ⟨rfl, hg1⟩)
                  | (go_at_call 10; refine (lives_any _).mono ?_; rintro e g2 ⟨rfl, hg2⟩)
                  | (go_at_call 13; refine (key_s _ (by first | exact HS.out.1 | exact HS.out.2.1 | exact HS.out.2.2) _).mono ?_; rintro e g3 ⟨rfl, hg3⟩)
                  | (go_at_call 15; refine (pattern_s _ (by first | exact HS.out.1 | exact HS.out.2.1 | exact HS.out.2.2) _).mono ?_; rintro e g3 ⟨rfl, hg3⟩)
                  | (go_at_call 20; refine (match_s _ _ (by first | exact HS.out.1 | exact HS.out.2.1 | exact HS.out.2.2 | decide) (by first | exact HS.out.1 | exact HS.out.2.1 | exact HS.out.2.2 | decide) _).mono ?_; rintro e g4 ⟨rfl, hg4⟩)
                  | (go_at_call 22; refine (over_s _ _ (by first | exact HS.out.1 | exact HS.out.2.1 | exact HS.out.2.2 | decide) (by first | exact HS.out.1 | exact HS.out.2.1 | exact HS.out.2.2 | decide) _).mono ?_; rintro e g5 ⟨rfl, hg5⟩))
              go_ret
              exact ⟨rfl, Chg.end_ (by repeat' (first | exact Chg.refl _ _ | assumption | refine Chg.trans ?_ (by assumption)))⟩
          · rcases Bool.eq_false_or_eq_true (overS a1 a2) with ho | ho
            · have ho2 := over_overS hk ho
              go_enter Tryd.func6, Tryd.ntmps6
              go_wp2_with
                (first
                  | (go_at_call 9; refine (great_any _ _).mono ?_; rintro e g1 ⟨rfl, hg1⟩)
                  | (go_at_call 10; refine (lives_any _).mono ?_; rintro e g2 ⟨rfl, hg2⟩)
                  | (go_at_call 13; refine (key_s _ (by first | exact HS.out.1 | exact HS.out.2.1 | exact HS.out.2.2) _).mono ?_; rintro e g3 ⟨rfl, hg3⟩)
                  | (go_at_call 15; refine (pattern_s _ (by first | exact HS.out.1 | exact HS.out.2.1 | exact HS.out.2.2) _).mono ?_; rintro e g3 ⟨rfl, hg3⟩)
                  | (go_at_call 20; refine (match_s _ _ (by first | exact HS.out.1 | exact HS.out.2.1 | exact HS.out.2.2 | decide) (by first | exact HS.out.1 | exact HS.out.2.1 | exact HS.out.2.2 | decide) _).mono ?_; rintro e g4 ⟨rfl, hg4⟩)
                  | (go_at_call 22; refine (over_s _ _ (by first | exact HS.out.1 | exact HS.out.2.1 | exact HS.out.2.2 | decide) (by first | exact HS.out.1 | exact HS.out.2.1 | exact HS.out.2.2 | decide) _).mono ?_; rintro e g5 ⟨rfl, hg5⟩))
              go_ret
              exact ⟨rfl, Chg.end_ (by repeat' (first | exact Chg.refl _ _ | assumption | refine Chg.trans ?_ (by assumption)))⟩
            · skip
              go_enter Tryd.func6, Tryd.ntmps6
              go_wp2_with
                (first
                  | (go_at_call 9; refine (great_any _ _).mono ?_; rintro e g1 ⟨rfl, hg1⟩)
                  | (go_at_call 10; refine (lives_any _).mono ?_; rintro e g2 ⟨rfl, hg2⟩)
                  | (go_at_call 13; refine (key_s _ (by first | exact HS.out.1 | exact HS.out.2.1 | exact HS.out.2.2) _).mono ?_; rintro e g3 ⟨rfl, hg3⟩)
                  | (go_at_call 15; refine (pattern_s _ (by first | exact HS.out.1 | exact HS.out.2.1 | exact HS.out.2.2) _).mono ?_; rintro e g3 ⟨rfl, hg3⟩)
                  | (go_at_call 20; refine (match_s _ _ (by first | exact HS.out.1 | exact HS.out.2.1 | exact HS.out.2.2 | decide) (by first | exact HS.out.1 | exact HS.out.2.1 | exact HS.out.2.2 | decide) _).mono ?_; rintro e g4 ⟨rfl, hg4⟩)
                  | (go_at_call 22; refine (over_s _ _ (by first | exact HS.out.1 | exact HS.out.2.1 | exact HS.out.2.2 | decide) (by first | exact HS.out.1 | exact HS.out.2.1 | exact HS.out.2.2 | decide) _).mono ?_; rintro e g5 ⟨rfl, hg5⟩))
              go_ret
              exact ⟨rfl, Chg.end_ (by repeat' (first | exact Chg.refl _ _ | assumption | refine Chg.trans ?_ (by assumption)))⟩
        · skip
          go_enter Tryd.func6, Tryd.ntmps6
          go_wp2_with
            (first
              | (go_at_call 9; refine (great_any _ _).mono ?_; rintro e g1 ⟨rfl, hg1⟩)
              | (go_at_call 10; refine (lives_any _).mono ?_; rintro e g2 ⟨rfl, hg2⟩)
              | (go_at_call 13; refine (key_s _ (by first | exact HS.out.1 | exact HS.out.2.1 | exact HS.out.2.2) _).mono ?_; rintro e g3 ⟨rfl, hg3⟩)
              | (go_at_call 15; refine (pattern_s _ (by first | exact HS.out.1 | exact HS.out.2.1 | exact HS.out.2.2) _).mono ?_; rintro e g3 ⟨rfl, hg3⟩)
              | (go_at_call 20; refine (match_s _ _ (by first | exact HS.out.1 | exact HS.out.2.1 | exact HS.out.2.2 | decide) (by first | exact HS.out.1 | exact HS.out.2.1 | exact HS.out.2.2 | decide) _).mono ?_; rintro e g4 ⟨rfl, hg4⟩)
              | (go_at_call 22; refine (over_s _ _ (by first | exact HS.out.1 | exact HS.out.2.1 | exact HS.out.2.2 | decide) (by first | exact HS.out.1 | exact HS.out.2.1 | exact HS.out.2.2 | decide) _).mono ?_; rintro e g5 ⟨rfl, hg5⟩))
          go_ret
          exact ⟨rfl, Chg.end_ (by repeat' (first | exact Chg.refl _ _ | assumption | refine Chg.trans ?_ (by assumption)))⟩
end Go.Proofs.YtjpaaadcnlfjhaaDoor
