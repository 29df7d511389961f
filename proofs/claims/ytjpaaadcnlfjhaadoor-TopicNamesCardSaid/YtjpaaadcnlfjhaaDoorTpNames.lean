/- TopicNames: the walk. -/
import Derived.Test.YtjpaaadcnlfjhaaDoorTpRef
import Derived.Test.YtjpaaadcnlfjhaaDoorTpSelf
import Derived.Test.YtjpaaadcnlfjhaaDoorPTopicNamesx2
set_option linter.unusedVariables false
set_option linter.unusedSimpArgs false
namespace Go.Proofs.YtjpaaadcnlfjhaaDoor
open Go.RowKit Go.Proofs.YtjpaaadcnlfjhaaDoorW.PrintWords
open Go.Proofs.YtjpaaadcnlfjhaaDoor.PTopicMatches (staithref05_letters.calls staithref05_Words.calls staithref05_Key.calls staithref05_Pattern.calls)
open Go.Proofs.YtjpaaadcnlfjhaaDoor.PTopicNames (staithref01_Texts.l0 staithref01_Texts.f staithref01_Texts.calls)
attribute [local go_sem] Oper.semAt_some

theorem refKey_s (s : ByteArray) (w : World) : Calls Tryd.prog 14 #[.string s] w fun e w' => e = .returned (.bool (keyS s)) ∧ Chg [] w w' :=
  (staithref05_Key.calls 1000 s _ w (refKey_eq s 1000 (Nat.le_refl _))).mono fun _ _ ⟨he, hb⟩ => ⟨he, Chg.of_below hb⟩
theorem refPattern_s (s : ByteArray) (w : World) : Calls Tryd.prog 16 #[.string s] w fun e w' => e = .returned (.bool (patS s)) ∧ Chg [] w w' :=
  (staithref05_Pattern.calls 1000 s _ w (refPattern_eq s 1000 (Nat.le_refl _))).mono fun _ _ ⟨he, hb⟩ => ⟨he, Chg.of_below hb⟩
theorem refLetters_s (s : ByteArray) (hs : s.size ≤ 50000) (w : World) : Calls Tryd.prog 25 #[.string s] w fun e w' => e = .returned (.bool (Tp.plainL s.data.toList)) ∧ Chg [] w w' :=
  (staithref05_letters.calls 100000 s _ w (letters_eq s (by omega) 100000 (by omega))).mono fun _ _ ⟨he, hb⟩ => ⟨he, by obtain ⟨q, rfl⟩ := hb; exact (Chg.refl _ _).drewN q⟩
theorem refWords_s (s : ByteArray) (hs : s.size ≤ 50000) (w : World) : Calls Tryd.prog 19 #[.string s] w fun e w' => ∃ A c, e = .returned (.slice A (wds s).length c) ∧ (wds s).length ≤ c ∧ Kd.C Kd.string w' A ((wds s).map strB).length ((wds s).map strB) ∧ Chg [] w w' :=
  (staithref05_Words.calls 100000 s _ w (refWords_eq s (by omega) 100000 (by omega))).mono fun _ _ ⟨v, he, hR, hb⟩ => by
    obtain ⟨A, c, rfl, hc, hC⟩ := Kd.R_reads hR
    rw [List.length_map] at hc he
    exact ⟨A, c, he, hc, hC, Chg.of_below hb⟩
theorem refName_s (s : ByteArray) (hs : s.size ≤ 50000) (w : World) : Calls Tryd.prog 12 #[.string s] w fun e w' => e = .returned (.bool (nameS s)) ∧ Chg [] w w' := by
  have hsz : s.data.toList.length = s.size := Array.length_toList
  have HL := Lib.hid (refLetters_s s hs)
  unfold nameS Tp.nameL
  rw [hsz]
  obtain ⟨b, hb⟩ : ∃ b, b = Tp.plainL s.data.toList := ⟨_, rfl⟩
  rw [← hb] at HL ⊢
  clear hb hsz
  by_cases h : s.size ≤ 20
  · have t : decide ((s.size : Int) ≤ 20) = true := decide_eq_true (by omega)
    rw [decide_eq_true h]
    clear h
    go_enter Tryd.func12, Tryd.ntmps12
    go_wp2_with (go_at_call 25; refine (HL.out _).mono ?_; rintro e w' ⟨rfl, hc⟩)
    go_ret
    exact ⟨by simp, hc⟩
  · have t : decide ((s.size : Int) ≤ 20) = false := decide_eq_false (by omega)
    rw [decide_eq_false h]
    clear h
    go_enter Tryd.func12, Tryd.ntmps12
    go_wp2_with fail
    go_ret
    exact ⟨by simp, Chg.refl _ _⟩
theorem texts_loop (l : List ByteArray) (hl : l.length ≤ 100000) : ∀ (m i k : Nat), i + m = l.length → m + 1 ≤ k → staithref01_Texts.l0 k l l (l.length : Int) (i : Int) = some true
  | m, i, 0, _, hk => by omega
  | 0, i, k + 1, hi, _ => by rw [staithref01_Texts.l0, if_neg (by omega)]
  | m + 1, i, k + 1, hi, hk => by
    have ih := texts_loop l hl m (i + 1) k (by omega) (by omega)
    rw [staithref01_Texts.l0, if_pos (by omega), if_pos (by omega), if_pos (by omega), if_pos (by omega), if_pos rfl, wr64 (by omega) (by omega)]
    exact ih
theorem texts_same (l : List ByteArray) (hl : l.length ≤ 90000) : staithref01_Texts.f 100000 l l = some true := by
  unfold staithref01_Texts.f
  rw [if_pos rfl]
  exact texts_loop l (by omega) l.length 0 100000 (by omega) (by omega)
theorem C_of_SlAt {w : World} {A : Option Addr} {c : Nat} {l : List (List UInt8)} (hl : l.length ≤ 100000) (h : SlAt w A (l.map encS) c) : Kd.C Kd.string w A (l.map strB).length (l.map strB) := by
  refine Kd.C_of_reads (d := ByteArray.empty) (h1 := fun _ => rfl) ⟨rfl, by rw [List.length_map]; omega, fun h0 => ?_⟩
  rw [List.length_map] at h0
  obtain ⟨a, ha, _⟩ := strsAt h h0
  refine ⟨a, ha, fun j hj => ?_⟩
  rw [List.length_map] at hj
  obtain ⟨a', ha', hx⟩ := strsAt h hj
  rw [ha] at ha'
  cases ha'
  rw [hx, List.getD_eq_getElem?_getD, List.getD_eq_getElem?_getD, List.getElem?_map, List.getElem?_eq_getElem hj]
  rfl
theorem texts_s (l : List (List UInt8)) (hl : l.length ≤ 90000) (w : World) (A1 A2 : Option Addr) (c1 c2 : Nat) (h1 : SlAt w A1 (l.map encS) c1) (h2 : Kd.C Kd.string w A2 (l.map strB).length (l.map strB)) (h3 : l.length ≤ c2) :
    Calls Tryd.prog 17 #[.slice A1 l.length c1, .slice A2 l.length c2] w fun e w' => e = .returned (.bool true) ∧ Chg [] w w' := by
  have := staithref01_Texts.calls 100000 A1 c1 (l.map strB) A2 c2 (l.map strB) true w (C_of_SlAt (by omega) h1) (by have := h1.1; simpa using this) h2 (by simpa using h3) (texts_same _ (by simpa using hl))
  rw [List.length_map] at this
  exact this.mono fun _ _ ⟨he, hb⟩ => ⟨he, by obtain ⟨q, rfl⟩ := hb; exact (Chg.refl _ _).drewN q⟩
set_option maxHeartbeats 4000000 in
theorem topicNames.walk (a0 : ByteArray) (w0 : a0.size ≤ 140737488351232) (W : World) (_ : Laid W) :
    Calls Tryd.prog 3 #[.string a0] W fun e w' => e = .returned (.bool true) ∧ Below W.heap.size W w' := by
  have HS : Hid True := Lib.hid trivial
  by_cases h0 : 2000 < a0.size
  · have t0 : decide (2000 < a0.size) = true := decide_eq_true h0
    go_enter Tryd.func3, Tryd.ntmps3
    go_wp2_with
      (first
      | (go_at_call 9; refine (great_any _ _).mono ?_; rintro e g1 ⟨rfl, hg1⟩)
      | (go_at_call 10; refine (lives_any _).mono ?_; rintro e g2 ⟨rfl, hg2⟩))
    go_ret
    exact ⟨rfl, Chg.end_ (hg1.trans hg2)⟩
  · have t0 : decide (2000 < a0.size) = false := decide_eq_false h0
    have HS : Hid (a0.size ≤ 50000) := Lib.hid (by omega)
    clear h0
    rcases Bool.eq_false_or_eq_true (nameS a0) with h1 | h1
    · rcases Bool.eq_false_or_eq_true (keyS a0) with h2 | h2
      · rcases Bool.eq_false_or_eq_true (patS a0) with h3 | h3
        · skip
          go_enter Tryd.func3, Tryd.ntmps3
          go_wp2_with
            (first
            | (go_at_call 9; refine (great_any _ _).mono ?_; rintro e g1 ⟨rfl, hg1⟩)
            | (go_at_call 10; refine (lives_any _).mono ?_; rintro e g2 ⟨rfl, hg2⟩)
            | (go_at_call 11; refine (name_s _ HS.out _).mono ?_; rintro e g2 ⟨rfl, hg2⟩)
            | (go_at_call 13; refine (key_s _ HS.out _).mono ?_; rintro e g3 ⟨rfl, hg3⟩)
            | (go_at_call 15; refine (pattern_s _ HS.out _).mono ?_; rintro e g3 ⟨rfl, hg3⟩)
            | (go_at_call 12; refine (refName_s _ HS.out _).mono ?_; rintro e g2 ⟨rfl, hg2⟩)
            | (go_at_call 14; refine (refKey_s _ _).mono ?_; rintro e g3 ⟨rfl, hg3⟩)
            | (go_at_call 16; refine (refPattern_s _ _).mono ?_; rintro e g3 ⟨rfl, hg3⟩)
            | (go_at_call 18; refine (words_s _ HS.out _).mono ?_; rintro e g4 ⟨A1, c1, rfl, hs1, hg4⟩)
            | (go_at_call 19; refine (refWords_s _ HS.out _).mono ?_; rintro e g5 ⟨A2, c2, rfl, hs2, hs3, hg5⟩)
            | (go_at_call 17; refine (texts_s (wds a0) (by have := wds_le a0; have := HS.out; omega) _ A1 A2 c1 c2 (hs1.chg0 hg5) hs3 hs2).mono ?_; rintro e g6 ⟨rfl, hg6⟩))
          go_ret
          exact ⟨rfl, Chg.end_ (by repeat' (first | exact Chg.refl _ _ | assumption | refine Chg.trans ?_ (by assumption)))⟩
        · skip
          go_enter Tryd.func3, Tryd.ntmps3
          go_wp2_with
            (first
            | (go_at_call 9; refine (great_any _ _).mono ?_; rintro e g1 ⟨rfl, hg1⟩)
            | (go_at_call 10; refine (lives_any _).mono ?_; rintro e g2 ⟨rfl, hg2⟩)
            | (go_at_call 11; refine (name_s _ HS.out _).mono ?_; rintro e g2 ⟨rfl, hg2⟩)
            | (go_at_call 13; refine (key_s _ HS.out _).mono ?_; rintro e g3 ⟨rfl, hg3⟩)
            | (go_at_call 15; refine (pattern_s _ HS.out _).mono ?_; rintro e g3 ⟨rfl, hg3⟩)
            | (go_at_call 12; refine (refName_s _ HS.out _).mono ?_; rintro e g2 ⟨rfl, hg2⟩)
            | (go_at_call 14; refine (refKey_s _ _).mono ?_; rintro e g3 ⟨rfl, hg3⟩)
            | (go_at_call 16; refine (refPattern_s _ _).mono ?_; rintro e g3 ⟨rfl, hg3⟩)
            | (go_at_call 18; refine (words_s _ HS.out _).mono ?_; rintro e g4 ⟨A1, c1, rfl, hs1, hg4⟩)
            | (go_at_call 19; refine (refWords_s _ HS.out _).mono ?_; rintro e g5 ⟨A2, c2, rfl, hs2, hs3, hg5⟩)
            | (go_at_call 17; refine (texts_s (wds a0) (by have := wds_le a0; have := HS.out; omega) _ A1 A2 c1 c2 (hs1.chg0 hg5) hs3 hs2).mono ?_; rintro e g6 ⟨rfl, hg6⟩))
          go_ret
          exact ⟨rfl, Chg.end_ (by repeat' (first | exact Chg.refl _ _ | assumption | refine Chg.trans ?_ (by assumption)))⟩
      · rcases Bool.eq_false_or_eq_true (patS a0) with h3 | h3
        · skip
          go_enter Tryd.func3, Tryd.ntmps3
          go_wp2_with
            (first
            | (go_at_call 9; refine (great_any _ _).mono ?_; rintro e g1 ⟨rfl, hg1⟩)
            | (go_at_call 10; refine (lives_any _).mono ?_; rintro e g2 ⟨rfl, hg2⟩)
            | (go_at_call 11; refine (name_s _ HS.out _).mono ?_; rintro e g2 ⟨rfl, hg2⟩)
            | (go_at_call 13; refine (key_s _ HS.out _).mono ?_; rintro e g3 ⟨rfl, hg3⟩)
            | (go_at_call 15; refine (pattern_s _ HS.out _).mono ?_; rintro e g3 ⟨rfl, hg3⟩)
            | (go_at_call 12; refine (refName_s _ HS.out _).mono ?_; rintro e g2 ⟨rfl, hg2⟩)
            | (go_at_call 14; refine (refKey_s _ _).mono ?_; rintro e g3 ⟨rfl, hg3⟩)
            | (go_at_call 16; refine (refPattern_s _ _).mono ?_; rintro e g3 ⟨rfl, hg3⟩)
            | (go_at_call 18; refine (words_s _ HS.out _).mono ?_; rintro e g4 ⟨A1, c1, rfl, hs1, hg4⟩)
            | (go_at_call 19; refine (refWords_s _ HS.out _).mono ?_; rintro e g5 ⟨A2, c2, rfl, hs2, hs3, hg5⟩)
            | (go_at_call 17; refine (texts_s (wds a0) (by have := wds_le a0; have := HS.out; omega) _ A1 A2 c1 c2 (hs1.chg0 hg5) hs3 hs2).mono ?_; rintro e g6 ⟨rfl, hg6⟩))
          go_ret
          exact ⟨rfl, Chg.end_ (by repeat' (first | exact Chg.refl _ _ | assumption | refine Chg.trans ?_ (by assumption)))⟩
        · skip
          go_enter Tryd.func3, Tryd.ntmps3
          go_wp2_with
            (first
            | (go_at_call 9; refine (great_any _ _).mono ?_; rintro e g1 ⟨rfl, hg1⟩)
            | (go_at_call 10; refine (lives_any _).mono ?_; rintro e g2 ⟨rfl, hg2⟩)
            | (go_at_call 11; refine (name_s _ HS.out _).mono ?_; rintro e g2 ⟨rfl, hg2⟩)
            | (go_at_call 13; refine (key_s _ HS.out _).mono ?_; rintro e g3 ⟨rfl, hg3⟩)
            | (go_at_call 15; refine (pattern_s _ HS.out _).mono ?_; rintro e g3 ⟨rfl, hg3⟩)
            | (go_at_call 12; refine (refName_s _ HS.out _).mono ?_; rintro e g2 ⟨rfl, hg2⟩)
            | (go_at_call 14; refine (refKey_s _ _).mono ?_; rintro e g3 ⟨rfl, hg3⟩)
            | (go_at_call 16; refine (refPattern_s _ _).mono ?_; rintro e g3 ⟨rfl, hg3⟩)
            | (go_at_call 18; refine (words_s _ HS.out _).mono ?_; rintro e g4 ⟨A1, c1, rfl, hs1, hg4⟩)
            | (go_at_call 19; refine (refWords_s _ HS.out _).mono ?_; rintro e g5 ⟨A2, c2, rfl, hs2, hs3, hg5⟩)
            | (go_at_call 17; refine (texts_s (wds a0) (by have := wds_le a0; have := HS.out; omega) _ A1 A2 c1 c2 (hs1.chg0 hg5) hs3 hs2).mono ?_; rintro e g6 ⟨rfl, hg6⟩))
          go_ret
          exact ⟨rfl, Chg.end_ (by repeat' (first | exact Chg.refl _ _ | assumption | refine Chg.trans ?_ (by assumption)))⟩
    · rcases Bool.eq_false_or_eq_true (keyS a0) with h2 | h2
      · rcases Bool.eq_false_or_eq_true (patS a0) with h3 | h3
        · skip
          go_enter Tryd.func3, Tryd.ntmps3
          go_wp2_with
            (first
            | (go_at_call 9; refine (great_any _ _).mono ?_; rintro e g1 ⟨rfl, hg1⟩)
            | (go_at_call 10; refine (lives_any _).mono ?_; rintro e g2 ⟨rfl, hg2⟩)
            | (go_at_call 11; refine (name_s _ HS.out _).mono ?_; rintro e g2 ⟨rfl, hg2⟩)
            | (go_at_call 13; refine (key_s _ HS.out _).mono ?_; rintro e g3 ⟨rfl, hg3⟩)
            | (go_at_call 15; refine (pattern_s _ HS.out _).mono ?_; rintro e g3 ⟨rfl, hg3⟩)
            | (go_at_call 12; refine (refName_s _ HS.out _).mono ?_; rintro e g2 ⟨rfl, hg2⟩)
            | (go_at_call 14; refine (refKey_s _ _).mono ?_; rintro e g3 ⟨rfl, hg3⟩)
            | (go_at_call 16; refine (refPattern_s _ _).mono ?_; rintro e g3 ⟨rfl, hg3⟩)
            | (go_at_call 18; refine (words_s _ HS.out _).mono ?_; rintro e g4 ⟨A1, c1, rfl, hs1, hg4⟩)
            | (go_at_call 19; refine (refWords_s _ HS.out _).mono ?_; rintro e g5 ⟨A2, c2, rfl, hs2, hs3, hg5⟩)
            | (go_at_call 17; refine (texts_s (wds a0) (by have := wds_le a0; have := HS.out; omega) _ A1 A2 c1 c2 (hs1.chg0 hg5) hs3 hs2).mono ?_; rintro e g6 ⟨rfl, hg6⟩))
          go_ret
          exact ⟨rfl, Chg.end_ (by repeat' (first | exact Chg.refl _ _ | assumption | refine Chg.trans ?_ (by assumption)))⟩
        · skip
          go_enter Tryd.func3, Tryd.ntmps3
          go_wp2_with
            (first
            | (go_at_call 9; refine (great_any _ _).mono ?_; rintro e g1 ⟨rfl, hg1⟩)
            | (go_at_call 10; refine (lives_any _).mono ?_; rintro e g2 ⟨rfl, hg2⟩)
            | (go_at_call 11; refine (name_s _ HS.out _).mono ?_; rintro e g2 ⟨rfl, hg2⟩)
            | (go_at_call 13; refine (key_s _ HS.out _).mono ?_; rintro e g3 ⟨rfl, hg3⟩)
            | (go_at_call 15; refine (pattern_s _ HS.out _).mono ?_; rintro e g3 ⟨rfl, hg3⟩)
            | (go_at_call 12; refine (refName_s _ HS.out _).mono ?_; rintro e g2 ⟨rfl, hg2⟩)
            | (go_at_call 14; refine (refKey_s _ _).mono ?_; rintro e g3 ⟨rfl, hg3⟩)
            | (go_at_call 16; refine (refPattern_s _ _).mono ?_; rintro e g3 ⟨rfl, hg3⟩)
            | (go_at_call 18; refine (words_s _ HS.out _).mono ?_; rintro e g4 ⟨A1, c1, rfl, hs1, hg4⟩)
            | (go_at_call 19; refine (refWords_s _ HS.out _).mono ?_; rintro e g5 ⟨A2, c2, rfl, hs2, hs3, hg5⟩)
            | (go_at_call 17; refine (texts_s (wds a0) (by have := wds_le a0; have := HS.out; omega) _ A1 A2 c1 c2 (hs1.chg0 hg5) hs3 hs2).mono ?_; rintro e g6 ⟨rfl, hg6⟩))
          go_ret
          exact ⟨rfl, Chg.end_ (by repeat' (first | exact Chg.refl _ _ | assumption | refine Chg.trans ?_ (by assumption)))⟩
      · rcases Bool.eq_false_or_eq_true (patS a0) with h3 | h3
        · skip
          go_enter Tryd.func3, Tryd.ntmps3
          go_wp2_with
            (first
            | (go_at_call 9; refine (great_any _ _).mono ?_; rintro e g1 ⟨rfl, hg1⟩)
            | (go_at_call 10; refine (lives_any _).mono ?_; rintro e g2 ⟨rfl, hg2⟩)
            | (go_at_call 11; refine (name_s _ HS.out _).mono ?_; rintro e g2 ⟨rfl, hg2⟩)
            | (go_at_call 13; refine (key_s _ HS.out _).mono ?_; rintro e g3 ⟨rfl, hg3⟩)
            | (go_at_call 15; refine (pattern_s _ HS.out _).mono ?_; rintro e g3 ⟨rfl, hg3⟩)
            | (go_at_call 12; refine (refName_s _ HS.out _).mono ?_; rintro e g2 ⟨rfl, hg2⟩)
            | (go_at_call 14; refine (refKey_s _ _).mono ?_; rintro e g3 ⟨rfl, hg3⟩)
            | (go_at_call 16; refine (refPattern_s _ _).mono ?_; rintro e g3 ⟨rfl, hg3⟩)
            | (go_at_call 18; refine (words_s _ HS.out _).mono ?_; rintro e g4 ⟨A1, c1, rfl, hs1, hg4⟩)
            | (go_at_call 19; refine (refWords_s _ HS.out _).mono ?_; rintro e g5 ⟨A2, c2, rfl, hs2, hs3, hg5⟩)
            | (go_at_call 17; refine (texts_s (wds a0) (by have := wds_le a0; have := HS.out; omega) _ A1 A2 c1 c2 (hs1.chg0 hg5) hs3 hs2).mono ?_; rintro e g6 ⟨rfl, hg6⟩))
          go_ret
          exact ⟨rfl, Chg.end_ (by repeat' (first | exact Chg.refl _ _ | assumption | refine Chg.trans ?_ (by assumption)))⟩
        · skip
          go_enter Tryd.func3, Tryd.ntmps3
          go_wp2_with
            (first
            | (go_at_call 9; refine (great_any _ _).mono ?_; rintro e g1 ⟨rfl, hg1⟩)
            | (go_at_call 10; refine (lives_any _).mono ?_; rintro e g2 ⟨rfl, hg2⟩)
            | (go_at_call 11; refine (name_s _ HS.out _).mono ?_; rintro e g2 ⟨rfl, hg2⟩)
            | (go_at_call 13; refine (key_s _ HS.out _).mono ?_; rintro e g3 ⟨rfl, hg3⟩)
            | (go_at_call 15; refine (pattern_s _ HS.out _).mono ?_; rintro e g3 ⟨rfl, hg3⟩)
            | (go_at_call 12; refine (refName_s _ HS.out _).mono ?_; rintro e g2 ⟨rfl, hg2⟩)
            | (go_at_call 14; refine (refKey_s _ _).mono ?_; rintro e g3 ⟨rfl, hg3⟩)
            | (go_at_call 16; refine (refPattern_s _ _).mono ?_; rintro e g3 ⟨rfl, hg3⟩)
            | (go_at_call 18; refine (words_s _ HS.out _).mono ?_; rintro e g4 ⟨A1, c1, rfl, hs1, hg4⟩)
            | (go_at_call 19; refine (refWords_s _ HS.out _).mono ?_; rintro e g5 ⟨A2, c2, rfl, hs2, hs3, hg5⟩)
            | (go_at_call 17; refine (texts_s (wds a0) (by have := wds_le a0; have := HS.out; omega) _ A1 A2 c1 c2 (hs1.chg0 hg5) hs3 hs2).mono ?_; rintro e g6 ⟨rfl, hg6⟩))
          go_ret
          exact ⟨rfl, Chg.end_ (by repeat' (first | exact Chg.refl _ _ | assumption | refine Chg.trans ?_ (by assumption)))⟩
end Go.Proofs.YtjpaaadcnlfjhaaDoor
