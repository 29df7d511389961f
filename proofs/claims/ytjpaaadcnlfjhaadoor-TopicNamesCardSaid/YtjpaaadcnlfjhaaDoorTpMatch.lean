/- Package topic: Match, Over; the law's great and lives. -/
import Derived.Test.YtjpaaadcnlfjhaaDoorTpStands
set_option linter.unusedVariables false
set_option linter.unusedSimpArgs false
namespace Go.Proofs.YtjpaaadcnlfjhaaDoor
open Go.RowKit
open Go.Proofs.YtjpaaadcnlfjhaaDoor.Tp (standsL wordsL keyL patL matchL overL)
attribute [local go_sem] Oper.semAt_some

theorem predM : PredP 30 Tp.oneM := one_m
theorem predO : PredP 33 Tp.oneO := one_o
theorem enM : ∀ args w, (callFunc 30 args).run Tryd.prog w = .ok (.enter 30 args) w := enters_of Tryd.func30 (by kernel_rfl) rfl
theorem enO : ∀ args w, (callFunc 33 args).run Tryd.prog w = .ok (.enter 33 args) w := enters_of Tryd.func33 (by kernel_rfl) rfl
/-- The words of a text; whether it is a key, a pattern; whether one fits the other. -/
def wds (s : ByteArray) : List (List UInt8) := wordsL s.data.toList
def keyS (s : ByteArray) : Bool := keyL s.data.toList
def patS (s : ByteArray) : Bool := patL s.data.toList
def nameS (s : ByteArray) : Bool := Tp.nameL s.data.toList
def matchS (p k : ByteArray) : Bool := matchL p.data.toList k.data.toList
def overS (p k : ByteArray) : Bool := overL p.data.toList k.data.toList
theorem wds_le (s : ByteArray) : (wds s).length ≤ s.size + 1 := by
  have := Tp.wordsL_length s.data.toList
  rwa [show s.data.toList.length = s.size from Array.length_toList] at this
theorem words_s (s : ByteArray) (hs : s.size ≤ 50000) (w : World) : Calls Tryd.prog 18 #[.string s] w fun e w' =>
    ∃ A c, e = .returned (.slice A (wds s).length c) ∧ SlAt w' A ((wds s).map encS) c ∧ Chg [] w w' := words_at s (by omega) w
theorem key_s (s : ByteArray) (hs : s.size ≤ 50000) (w : World) : Calls Tryd.prog 13 #[.string s] w fun e w' => e = .returned (.bool (keyS s)) ∧ Chg [] w w' := key_any s (by omega) w
theorem pattern_s (s : ByteArray) (hs : s.size ≤ 50000) (w : World) : Calls Tryd.prog 15 #[.string s] w fun e w' => e = .returned (.bool (patS s)) ∧ Chg [] w w' := pattern_any s (by omega) w
set_option maxHeartbeats 1000000 in
theorem match_s (p k : ByteArray) (hsp : p.size ≤ 50000) (hsk : k.size ≤ 50000) (w : World) : Calls Tryd.prog 20 #[.string p, .string k] w fun e w' => e = .returned (.bool (matchS p k)) ∧ Chg [] w w' := by
  show Calls Tryd.prog 20 #[.string p, .string k] w fun e w' => e = .returned (.bool (patS p && (keyS k && standsL Tp.oneM (wds p) (wds k)))) ∧ Chg [] w w'
  have HW := Lib.hid words_s
  have HS : Hid (∀ (w : World) A1 c1 A2 c2, SlAt w A1 ((wds p).map encS) c1 → SlAt w A2 ((wds k).map encS) c2 → Calls Tryd.prog 31 #[.slice A1 (wds p).length c1, .slice A2 (wds k).length c2, .func (.func 30) #[] #[]] w fun e w' => e = .returned (.bool (standsL Tp.oneM (wds p) (wds k))) ∧ Chg [] w w') := Lib.hid (fun w A1 c1 A2 c2 h1 h2 => by
    have := wds_le p
    have := wds_le k
    exact stands_any 30 Tp.oneM enM predM w A1 A2 c1 c2 (wds p) (wds k) h1 h2 (by omega) (by omega))
  have HP := Lib.hid (And.intro hsp hsk)
  clear hsp hsk
  rcases Bool.eq_false_or_eq_true (patS p) with hp | hp
  · rcases Bool.eq_false_or_eq_true (keyS k) with hk | hk
    · rw [hp, hk, Bool.true_and, Bool.true_and]
      go_enter Tryd.func20, Tryd.ntmps20
      go_wp2_with (first
        | (go_at_call 15; refine (pattern_s _ (by first | exact HP.out.1 | exact HP.out.2) _).mono ?_; rintro e w1 ⟨rfl, hc1⟩)
        | (go_at_call 13; refine (key_s _ (by first | exact HP.out.1 | exact HP.out.2) _).mono ?_; rintro e w2 ⟨rfl, hc2⟩)
        | (go_at_call 18; refine (HW.out _ (by first | exact HP.out.1 | exact HP.out.2) _).mono ?_; rintro e w3 ⟨A1, c1, rfl, hs1, hc3⟩)
        | (go_at_call 31; refine (HS.out _ _ _ _ _ (SlAt.chg0 (by assumption) (by assumption)) (by assumption)).mono ?_; rintro e w5 ⟨rfl, hc5⟩))
      go_ret
      exact ⟨rfl, by repeat' (first | exact Chg.refl _ _ | assumption | refine Chg.trans ?_ (by assumption))⟩
    · rw [hp, hk, Bool.true_and, Bool.false_and]
      go_enter Tryd.func20, Tryd.ntmps20
      go_wp2_with (first
        | (go_at_call 15; refine (pattern_s _ (by first | exact HP.out.1 | exact HP.out.2) _).mono ?_; rintro e w1 ⟨rfl, hc1⟩)
        | (go_at_call 13; refine (key_s _ (by first | exact HP.out.1 | exact HP.out.2) _).mono ?_; rintro e w2 ⟨rfl, hc2⟩))
      go_ret
      exact ⟨rfl, by repeat' (first | exact Chg.refl _ _ | assumption | refine Chg.trans ?_ (by assumption))⟩
  · rw [hp, Bool.false_and]
    go_enter Tryd.func20, Tryd.ntmps20
    go_wp2_with (go_at_call 15; refine (pattern_s _ HP.out.1 _).mono ?_; rintro e w1 ⟨rfl, hc1⟩)
    go_ret
    exact ⟨rfl, hc1⟩
set_option maxHeartbeats 1000000 in
theorem over_s (p k : ByteArray) (hsp : p.size ≤ 50000) (hsk : k.size ≤ 50000) (w : World) : Calls Tryd.prog 22 #[.string p, .string k] w fun e w' => e = .returned (.bool (overS p k)) ∧ Chg [] w w' := by
  show Calls Tryd.prog 22 #[.string p, .string k] w fun e w' => e = .returned (.bool (patS p && (patS k && standsL Tp.oneO (wds p) (wds k)))) ∧ Chg [] w w'
  have HW := Lib.hid words_s
  have HS : Hid (∀ (w : World) A1 c1 A2 c2, SlAt w A1 ((wds p).map encS) c1 → SlAt w A2 ((wds k).map encS) c2 → Calls Tryd.prog 31 #[.slice A1 (wds p).length c1, .slice A2 (wds k).length c2, .func (.func 33) #[] #[]] w fun e w' => e = .returned (.bool (standsL Tp.oneO (wds p) (wds k))) ∧ Chg [] w w') := Lib.hid (fun w A1 c1 A2 c2 h1 h2 => by
    have := wds_le p
    have := wds_le k
    exact stands_any 33 Tp.oneO enO predO w A1 A2 c1 c2 (wds p) (wds k) h1 h2 (by omega) (by omega))
  have HP := Lib.hid (And.intro hsp hsk)
  clear hsp hsk
  rcases Bool.eq_false_or_eq_true (patS p) with hp | hp
  · rcases Bool.eq_false_or_eq_true (patS k) with hk | hk
    · rw [hp, hk, Bool.true_and, Bool.true_and]
      go_enter Tryd.func22, Tryd.ntmps22
      go_wp2_with (first
        | (go_at_call 15; refine (pattern_s _ (by first | exact HP.out.1 | exact HP.out.2) _).mono ?_; rintro e w1 ⟨rfl, hc1⟩)
        | (go_at_call 13; refine (key_s _ (by first | exact HP.out.1 | exact HP.out.2) _).mono ?_; rintro e w2 ⟨rfl, hc2⟩)
        | (go_at_call 18; refine (HW.out _ (by first | exact HP.out.1 | exact HP.out.2) _).mono ?_; rintro e w3 ⟨A1, c1, rfl, hs1, hc3⟩)
        | (go_at_call 31; refine (HS.out _ _ _ _ _ (SlAt.chg0 (by assumption) (by assumption)) (by assumption)).mono ?_; rintro e w5 ⟨rfl, hc5⟩))
      go_ret
      exact ⟨rfl, by repeat' (first | exact Chg.refl _ _ | assumption | refine Chg.trans ?_ (by assumption))⟩
    · rw [hp, hk, Bool.true_and, Bool.false_and]
      go_enter Tryd.func22, Tryd.ntmps22
      go_wp2_with (first
        | (go_at_call 15; refine (pattern_s _ (by first | exact HP.out.1 | exact HP.out.2) _).mono ?_; rintro e w1 ⟨rfl, hc1⟩)
        | (go_at_call 13; refine (key_s _ (by first | exact HP.out.1 | exact HP.out.2) _).mono ?_; rintro e w2 ⟨rfl, hc2⟩))
      go_ret
      exact ⟨rfl, by repeat' (first | exact Chg.refl _ _ | assumption | refine Chg.trans ?_ (by assumption))⟩
  · rw [hp, Bool.false_and]
    go_enter Tryd.func22, Tryd.ntmps22
    go_wp2_with (go_at_call 15; refine (pattern_s _ HP.out.1 _).mono ?_; rintro e w1 ⟨rfl, hc1⟩)
    go_ret
    exact ⟨rfl, hc1⟩
theorem name_s (s : ByteArray) (hs : s.size ≤ 50000) (w : World) : Calls Tryd.prog 11 #[.string s] w fun e w' => e = .returned (.bool (nameS s)) ∧ Chg [] w w' := name_any s (by unfold maxLen; omega) w
theorem great_any (s : ByteArray) (w : World) : Calls Tryd.prog 9 #[.string s] w fun e w' => e = .returned (.bool (decide (2000 < s.size))) ∧ Chg [] w w' := by
  by_cases h : 2000 < s.size
  · have t1 : decide ((2000 : Int) < (s.size : Int)) = true := decide_eq_true (by omega)
    rw [decide_eq_true h]
    clear h
    go_enter Tryd.func9, Tryd.ntmps9
    go_wp2_with fail
    go_ret
    exact ⟨rfl, Chg.refl _ _⟩
  · have t1 : decide ((2000 : Int) < (s.size : Int)) = false := decide_eq_false (by omega)
    rw [decide_eq_false h]
    clear h
    go_enter Tryd.func9, Tryd.ntmps9
    go_wp2_with fail
    go_ret
    exact ⟨rfl, Chg.refl _ _⟩
set_option maxHeartbeats 1000000 in
theorem lives_any (w : World) : Calls Tryd.prog 10 #[] w fun e w' => e = .returned (.bool true) ∧ Chg [] w w' := by
  have m1 : matchS ⟨#[97, 46, 42, 46, 35]⟩ ⟨#[97, 46, 98]⟩ = true := by decide
  have m2 : matchS ⟨#[97, 46, 42, 46, 35]⟩ ⟨#[97, 46, 98, 46, 99, 46, 100]⟩ = true := by decide
  have m3 : matchS ⟨#[97, 46, 42, 46, 35]⟩ ⟨#[97]⟩ = false := by decide
  have m4 : matchS ⟨#[35]⟩ ⟨#[]⟩ = true := by decide
  have m5 : overS ⟨#[97, 46, 35]⟩ ⟨#[97, 46, 42]⟩ = true := by decide
  have m6 : nameS ⟨#[113, 45, 49]⟩ = true := by decide
  go_enter Tryd.func10, Tryd.ntmps10
  go_wp2_with (first
    | (go_at_call 20; refine (match_s _ _ (by decide) (by decide) _).mono ?_; rintro e w1 ⟨rfl, hc1⟩)
    | (go_at_call 22; refine (over_s _ _ (by decide) (by decide) _).mono ?_; rintro e w5 ⟨rfl, hc5⟩)
    | (go_at_call 11; refine (name_s _ (by decide) _).mono ?_; rintro e w6 ⟨rfl, hc6⟩))
  go_ret
  exact ⟨rfl, by repeat' (first | exact Chg.refl _ _ | assumption | refine Chg.trans ?_ (by assumption))⟩
end Go.Proofs.YtjpaaadcnlfjhaaDoor
