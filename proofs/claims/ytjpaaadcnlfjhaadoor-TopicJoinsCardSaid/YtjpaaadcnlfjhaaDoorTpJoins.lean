/- TopicJoins: the walk. -/
import Derived.Test.YtjpaaadcnlfjhaaDoorTpSelf
set_option linter.unusedVariables false
set_option linter.unusedSimpArgs false
namespace Go.Proofs.YtjpaaadcnlfjhaaDoor
open Go.RowKit
attribute [local go_sem] Oper.semAt_some
theorem dot_data (a b : ByteArray) : (a ++ (⟨#[46]⟩ : ByteArray) ++ b).data.toList = a.data.toList ++ 46 :: b.data.toList := by simp
theorem dot_size (a b : ByteArray) : (a ++ (⟨#[46]⟩ : ByteArray) ++ b).size = a.size + 1 + b.size := by
  rw [ByteArray.size_append, ByteArray.size_append]; rfl
theorem nonempty_of {a : ByteArray} (h : a.toList.isEmpty = false) : a.data.toList ≠ [] := by
  rw [Lib.toList_data] at h
  intro e
  rw [e] at h
  cases h
theorem joinsS {a b s : ByteArray} (ha : a.size ≤ 28) (hb : b.size ≤ 28) (hs : s.size ≤ 28) (ea : a.toList.isEmpty = false) (eb : b.toList.isEmpty = false) (es : s.toList.isEmpty = false) (h1 : matchS a s = true) (h2 : matchS b s = true)
    (hk : (wds (s ++ (⟨#[46]⟩ : ByteArray) ++ s)).length ≤ 12) (hx : (wds (a ++ (⟨#[46]⟩ : ByteArray) ++ b)).length ≤ 12) : matchS (a ++ (⟨#[46]⟩ : ByteArray) ++ b) (s ++ (⟨#[46]⟩ : ByteArray) ++ s) = true := by
  unfold matchS wds at *
  rw [dot_data] at hk hx ⊢
  rw [dot_data]
  exact Tp.joins (nonempty_of ea) (nonempty_of eb) (nonempty_of es) (by rw [Array.length_toList]; exact ha) (by rw [Array.length_toList]; exact hb) (by rw [Array.length_toList]; exact hs) h1 h2 hk hx
set_option maxHeartbeats 8000000 in
theorem topicJoins.walk (a0 : ByteArray) (w0 : a0.size ≤ 140737488351232) (a1 : ByteArray) (w1 : a1.size ≤ 140737488351232) (a2 : ByteArray) (w2 : a2.size ≤ 140737488351232) (W : World) (_ : Laid W) :
    Calls Tryd.prog 7 #[.string a0, .string a1, .string a2] W fun e w' => e = .returned (.bool true) ∧ Below W.heap.size W w' := by
  have HS : Hid True := Lib.hid trivial
  by_cases h0 : 28 < a0.size
  · have t0 : decide ((28 : Int) < (a0.size : Int)) = true := decide_eq_true (by omega)
    go_enter Tryd.func7, Tryd.ntmps7
    go_wp2_with (first
      | (go_at_call 10; refine (lives_any _).mono ?_; rintro e g2 ⟨rfl, hg2⟩)
      | (go_at_call 13; refine (key_s _ (by have := HS.out; omega) _).mono ?_; rintro e g3 ⟨rfl, hg3⟩)
      | (go_at_call 18; refine (words_s _ (by rw [dot_size]; have := HS.out; omega) _).mono ?_; rintro e g4 ⟨A, c, rfl, _, hg4⟩)
      | (go_at_call 20; refine (match_s _ _ (by first | (have := HS.out; omega) | (rw [dot_size]; have := HS.out; omega)) (by first | (have := HS.out; omega) | (rw [dot_size]; have := HS.out; omega)) _).mono ?_; rintro e g5 ⟨rfl, hg5⟩))
    go_ret
    exact ⟨rfl, Chg.end_ (by repeat' (first | exact Chg.refl _ _ | assumption | refine Chg.trans ?_ (by assumption)))⟩
  have t0 : decide ((28 : Int) < (a0.size : Int)) = false := decide_eq_false (by omega)
  by_cases h1 : 28 < a1.size
  · have t1 : decide ((28 : Int) < (a1.size : Int)) = true := decide_eq_true (by omega)
    go_enter Tryd.func7, Tryd.ntmps7
    go_wp2_with (first
      | (go_at_call 10; refine (lives_any _).mono ?_; rintro e g2 ⟨rfl, hg2⟩)
      | (go_at_call 13; refine (key_s _ (by have := HS.out; omega) _).mono ?_; rintro e g3 ⟨rfl, hg3⟩)
      | (go_at_call 18; refine (words_s _ (by rw [dot_size]; have := HS.out; omega) _).mono ?_; rintro e g4 ⟨A, c, rfl, _, hg4⟩)
      | (go_at_call 20; refine (match_s _ _ (by first | (have := HS.out; omega) | (rw [dot_size]; have := HS.out; omega)) (by first | (have := HS.out; omega) | (rw [dot_size]; have := HS.out; omega)) _).mono ?_; rintro e g5 ⟨rfl, hg5⟩))
    go_ret
    exact ⟨rfl, Chg.end_ (by repeat' (first | exact Chg.refl _ _ | assumption | refine Chg.trans ?_ (by assumption)))⟩
  have t1 : decide ((28 : Int) < (a1.size : Int)) = false := decide_eq_false (by omega)
  by_cases h2 : 28 < a2.size
  · have t2 : decide ((28 : Int) < (a2.size : Int)) = true := decide_eq_true (by omega)
    go_enter Tryd.func7, Tryd.ntmps7
    go_wp2_with (first
      | (go_at_call 10; refine (lives_any _).mono ?_; rintro e g2 ⟨rfl, hg2⟩)
      | (go_at_call 13; refine (key_s _ (by have := HS.out; omega) _).mono ?_; rintro e g3 ⟨rfl, hg3⟩)
      | (go_at_call 18; refine (words_s _ (by rw [dot_size]; have := HS.out; omega) _).mono ?_; rintro e g4 ⟨A, c, rfl, _, hg4⟩)
      | (go_at_call 20; refine (match_s _ _ (by first | (have := HS.out; omega) | (rw [dot_size]; have := HS.out; omega)) (by first | (have := HS.out; omega) | (rw [dot_size]; have := HS.out; omega)) _).mono ?_; rintro e g5 ⟨rfl, hg5⟩))
    go_ret
    exact ⟨rfl, Chg.end_ (by repeat' (first | exact Chg.refl _ _ | assumption | refine Chg.trans ?_ (by assumption)))⟩
  have t2 : decide ((28 : Int) < (a2.size : Int)) = false := decide_eq_false (by omega)
  have HS : Hid (a0.size ≤ 28 ∧ a1.size ≤ 28 ∧ a2.size ≤ 28) := Lib.hid ⟨by omega, by omega, by omega⟩
  clear h0 h1 h2
  rcases Bool.eq_false_or_eq_true a0.toList.isEmpty with e0 | e0
  · skip
    go_enter Tryd.func7, Tryd.ntmps7
    go_wp2_with (first
      | (go_at_call 10; refine (lives_any _).mono ?_; rintro e g2 ⟨rfl, hg2⟩)
      | (go_at_call 13; refine (key_s _ (by have := HS.out; omega) _).mono ?_; rintro e g3 ⟨rfl, hg3⟩)
      | (go_at_call 18; refine (words_s _ (by rw [dot_size]; have := HS.out; omega) _).mono ?_; rintro e g4 ⟨A, c, rfl, _, hg4⟩)
      | (go_at_call 20; refine (match_s _ _ (by first | (have := HS.out; omega) | (rw [dot_size]; have := HS.out; omega)) (by first | (have := HS.out; omega) | (rw [dot_size]; have := HS.out; omega)) _).mono ?_; rintro e g5 ⟨rfl, hg5⟩))
    go_ret
    exact ⟨rfl, Chg.end_ (by repeat' (first | exact Chg.refl _ _ | assumption | refine Chg.trans ?_ (by assumption)))⟩
  rcases Bool.eq_false_or_eq_true a1.toList.isEmpty with e1 | e1
  · skip
    go_enter Tryd.func7, Tryd.ntmps7
    go_wp2_with (first
      | (go_at_call 10; refine (lives_any _).mono ?_; rintro e g2 ⟨rfl, hg2⟩)
      | (go_at_call 13; refine (key_s _ (by have := HS.out; omega) _).mono ?_; rintro e g3 ⟨rfl, hg3⟩)
      | (go_at_call 18; refine (words_s _ (by rw [dot_size]; have := HS.out; omega) _).mono ?_; rintro e g4 ⟨A, c, rfl, _, hg4⟩)
      | (go_at_call 20; refine (match_s _ _ (by first | (have := HS.out; omega) | (rw [dot_size]; have := HS.out; omega)) (by first | (have := HS.out; omega) | (rw [dot_size]; have := HS.out; omega)) _).mono ?_; rintro e g5 ⟨rfl, hg5⟩))
    go_ret
    exact ⟨rfl, Chg.end_ (by repeat' (first | exact Chg.refl _ _ | assumption | refine Chg.trans ?_ (by assumption)))⟩
  rcases Bool.eq_false_or_eq_true a2.toList.isEmpty with e2 | e2
  · skip
    go_enter Tryd.func7, Tryd.ntmps7
    go_wp2_with (first
      | (go_at_call 10; refine (lives_any _).mono ?_; rintro e g2 ⟨rfl, hg2⟩)
      | (go_at_call 13; refine (key_s _ (by have := HS.out; omega) _).mono ?_; rintro e g3 ⟨rfl, hg3⟩)
      | (go_at_call 18; refine (words_s _ (by rw [dot_size]; have := HS.out; omega) _).mono ?_; rintro e g4 ⟨A, c, rfl, _, hg4⟩)
      | (go_at_call 20; refine (match_s _ _ (by first | (have := HS.out; omega) | (rw [dot_size]; have := HS.out; omega)) (by first | (have := HS.out; omega) | (rw [dot_size]; have := HS.out; omega)) _).mono ?_; rintro e g5 ⟨rfl, hg5⟩))
    go_ret
    exact ⟨rfl, Chg.end_ (by repeat' (first | exact Chg.refl _ _ | assumption | refine Chg.trans ?_ (by assumption)))⟩
  rcases Bool.eq_false_or_eq_true (keyS a2) with k1 | k1
  rotate_left
  · skip
    go_enter Tryd.func7, Tryd.ntmps7
    go_wp2_with (first
      | (go_at_call 10; refine (lives_any _).mono ?_; rintro e g2 ⟨rfl, hg2⟩)
      | (go_at_call 13; refine (key_s _ (by have := HS.out; omega) _).mono ?_; rintro e g3 ⟨rfl, hg3⟩)
      | (go_at_call 18; refine (words_s _ (by rw [dot_size]; have := HS.out; omega) _).mono ?_; rintro e g4 ⟨A, c, rfl, _, hg4⟩)
      | (go_at_call 20; refine (match_s _ _ (by first | (have := HS.out; omega) | (rw [dot_size]; have := HS.out; omega)) (by first | (have := HS.out; omega) | (rw [dot_size]; have := HS.out; omega)) _).mono ?_; rintro e g5 ⟨rfl, hg5⟩))
    go_ret
    exact ⟨rfl, Chg.end_ (by repeat' (first | exact Chg.refl _ _ | assumption | refine Chg.trans ?_ (by assumption)))⟩
  rcases Bool.eq_false_or_eq_true (matchS a0 a2) with k2 | k2
  rotate_left
  · skip
    go_enter Tryd.func7, Tryd.ntmps7
    go_wp2_with (first
      | (go_at_call 10; refine (lives_any _).mono ?_; rintro e g2 ⟨rfl, hg2⟩)
      | (go_at_call 13; refine (key_s _ (by have := HS.out; omega) _).mono ?_; rintro e g3 ⟨rfl, hg3⟩)
      | (go_at_call 18; refine (words_s _ (by rw [dot_size]; have := HS.out; omega) _).mono ?_; rintro e g4 ⟨A, c, rfl, _, hg4⟩)
      | (go_at_call 20; refine (match_s _ _ (by first | (have := HS.out; omega) | (rw [dot_size]; have := HS.out; omega)) (by first | (have := HS.out; omega) | (rw [dot_size]; have := HS.out; omega)) _).mono ?_; rintro e g5 ⟨rfl, hg5⟩))
    go_ret
    exact ⟨rfl, Chg.end_ (by repeat' (first | exact Chg.refl _ _ | assumption | refine Chg.trans ?_ (by assumption)))⟩
  rcases Bool.eq_false_or_eq_true (matchS a1 a2) with k3 | k3
  rotate_left
  · skip
    go_enter Tryd.func7, Tryd.ntmps7
    go_wp2_with (first
      | (go_at_call 10; refine (lives_any _).mono ?_; rintro e g2 ⟨rfl, hg2⟩)
      | (go_at_call 13; refine (key_s _ (by have := HS.out; omega) _).mono ?_; rintro e g3 ⟨rfl, hg3⟩)
      | (go_at_call 18; refine (words_s _ (by rw [dot_size]; have := HS.out; omega) _).mono ?_; rintro e g4 ⟨A, c, rfl, _, hg4⟩)
      | (go_at_call 20; refine (match_s _ _ (by first | (have := HS.out; omega) | (rw [dot_size]; have := HS.out; omega)) (by first | (have := HS.out; omega) | (rw [dot_size]; have := HS.out; omega)) _).mono ?_; rintro e g5 ⟨rfl, hg5⟩))
    go_ret
    exact ⟨rfl, Chg.end_ (by repeat' (first | exact Chg.refl _ _ | assumption | refine Chg.trans ?_ (by assumption)))⟩
  by_cases q1 : (wds (a2 ++ (⟨#[46]⟩ : ByteArray) ++ a2)).length ≤ 12
  · have t3 : decide ((12 : Int) < ((wds (a2 ++ (⟨#[46]⟩ : ByteArray) ++ a2)).length : Int)) = false := decide_eq_false (by omega)
    by_cases q2 : (wds (a0 ++ (⟨#[46]⟩ : ByteArray) ++ a1)).length ≤ 12
    · have t4 : decide ((12 : Int) < ((wds (a0 ++ (⟨#[46]⟩ : ByteArray) ++ a1)).length : Int)) = false := decide_eq_false (by omega)
      have j := joinsS HS.out.1 HS.out.2.1 HS.out.2.2 e0 e1 e2 k2 k3 q1 q2
      clear q1 q2
      go_enter Tryd.func7, Tryd.ntmps7
      go_wp2_with (first
        | (go_at_call 10; refine (lives_any _).mono ?_; rintro e g2 ⟨rfl, hg2⟩)
        | (go_at_call 13; refine (key_s _ (by have := HS.out; omega) _).mono ?_; rintro e g3 ⟨rfl, hg3⟩)
        | (go_at_call 18; refine (words_s _ (by rw [dot_size]; have := HS.out; omega) _).mono ?_; rintro e g4 ⟨A, c, rfl, _, hg4⟩)
        | (go_at_call 20; refine (match_s _ _ (by first | (have := HS.out; omega) | (rw [dot_size]; have := HS.out; omega)) (by first | (have := HS.out; omega) | (rw [dot_size]; have := HS.out; omega)) _).mono ?_; rintro e g5 ⟨rfl, hg5⟩))
      go_ret
      exact ⟨rfl, Chg.end_ (by repeat' (first | exact Chg.refl _ _ | assumption | refine Chg.trans ?_ (by assumption)))⟩
    · have t4 : decide ((12 : Int) < ((wds (a0 ++ (⟨#[46]⟩ : ByteArray) ++ a1)).length : Int)) = true := decide_eq_true (by omega)
      clear q1 q2
      go_enter Tryd.func7, Tryd.ntmps7
      go_wp2_with (first
        | (go_at_call 10; refine (lives_any _).mono ?_; rintro e g2 ⟨rfl, hg2⟩)
        | (go_at_call 13; refine (key_s _ (by have := HS.out; omega) _).mono ?_; rintro e g3 ⟨rfl, hg3⟩)
        | (go_at_call 18; refine (words_s _ (by rw [dot_size]; have := HS.out; omega) _).mono ?_; rintro e g4 ⟨A, c, rfl, _, hg4⟩)
        | (go_at_call 20; refine (match_s _ _ (by first | (have := HS.out; omega) | (rw [dot_size]; have := HS.out; omega)) (by first | (have := HS.out; omega) | (rw [dot_size]; have := HS.out; omega)) _).mono ?_; rintro e g5 ⟨rfl, hg5⟩))
      go_ret
      exact ⟨rfl, Chg.end_ (by repeat' (first | exact Chg.refl _ _ | assumption | refine Chg.trans ?_ (by assumption)))⟩
  · have t3 : decide ((12 : Int) < ((wds (a2 ++ (⟨#[46]⟩ : ByteArray) ++ a2)).length : Int)) = true := decide_eq_true (by omega)
    clear q1
    go_enter Tryd.func7, Tryd.ntmps7
    go_wp2_with (first
      | (go_at_call 10; refine (lives_any _).mono ?_; rintro e g2 ⟨rfl, hg2⟩)
      | (go_at_call 13; refine (key_s _ (by have := HS.out; omega) _).mono ?_; rintro e g3 ⟨rfl, hg3⟩)
      | (go_at_call 18; refine (words_s _ (by rw [dot_size]; have := HS.out; omega) _).mono ?_; rintro e g4 ⟨A, c, rfl, _, hg4⟩)
      | (go_at_call 20; refine (match_s _ _ (by first | (have := HS.out; omega) | (rw [dot_size]; have := HS.out; omega)) (by first | (have := HS.out; omega) | (rw [dot_size]; have := HS.out; omega)) _).mono ?_; rintro e g5 ⟨rfl, hg5⟩))
    go_ret
    exact ⟨rfl, Chg.end_ (by repeat' (first | exact Chg.refl _ _ | assumption | refine Chg.trans ?_ (by assumption)))⟩
end Go.Proofs.YtjpaaadcnlfjhaaDoor
