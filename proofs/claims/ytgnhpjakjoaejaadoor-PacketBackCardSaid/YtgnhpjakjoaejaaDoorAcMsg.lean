/- GoodMessage, of act and of staithref13. -/
import Derived.Test.YtgnhpjakjoaejaaDoorAcPlain
import Derived.Test.YtgnhpjakjoaejaaDoorTpRw
import Derived.Lib.Hide
set_option linter.unusedVariables false
set_option linter.unusedSimpArgs false
namespace Go.Proofs.YtgnhpjakjoaejaaDoor
open Go.RowKit

/-- Its texts are not longer than are looked at. -/
structure Msg.Small (m : Msg) : Prop where
  ex : m.ex.size ≤ 100000
  key : m.key.size ≤ 100000
  body : m.body.size ≤ 100000
set_option maxHeartbeats 4000000 in
theorem goodm_any (m : Msg) (hs : m.Small) (w : World) : Calls Tryd.prog 19 #[msgV m] w fun e w' => e = .returned (.bool (Ac.goodM m)) ∧ Chg [] w w' := by
  obtain ⟨s1, s2, s3⟩ := hs
  by_cases hg : (1 ≤ m.org ∧ m.org ≤ 8) ∧ (0 ≤ m.hop ∧ m.hop ≤ 8) ∧ 0 < m.seq
  · obtain ⟨⟨o1, o2⟩, ⟨p1, p2⟩, q⟩ := hg
    have eg : Ac.goodM m = (Tp.nameL m.ex.data.toList && (Tp.keyL m.key.data.toList && decide (m.body.size ≤ 200))) := by
      unfold Ac.goodM
      simp only [o1, o2, p1, p2, q, decide_true, Bool.true_and]
      rfl
    rw [eg]
    have a1 := decide_eq_true o1
    have a2 := decide_eq_true o2
    have a3 := decide_eq_true p1
    have a4 := decide_eq_true p2
    have a5 := decide_eq_true q
    have a6 : decide (1 ≤ m.seq) = true := decide_eq_true (by omega)
    have HN := Lib.hid (fun W => name_any m.ex (by unfold maxLen; omega) W)
    have HK := Lib.hid (fun W => key_any m.key (by omega) W)
    clear eg o1 o2 p1 p2 q
    obtain ⟨bn, hbn⟩ : ∃ b, b = Tp.nameL m.ex.data.toList := ⟨_, rfl⟩
    obtain ⟨bk, hbk⟩ : ∃ b, b = Tp.keyL m.key.data.toList := ⟨_, rfl⟩
    rw [← hbn] at HN ⊢
    rw [← hbk] at HK ⊢
    clear hbn hbk
    obtain ⟨bb, hbb⟩ : ∃ b, b = decide (m.body.size ≤ 200) := ⟨_, rfl⟩
    have t5 : decide ((m.body.size : Int) ≤ 200) = bb := by rw [hbb, decide_eq_decide]; omega
    rw [← hbb]
    clear hbb
    simp only [msgV, Msg.cells]
    go_enter Tryd.func19, Tryd.ntmps19
    go_wp2_with fail
    refine (HN.out _).mono ?_
    rintro e w1 ⟨rfl, hc⟩
    have H1 := Lib.hid (And.intro (((Chg.refl [] w).alloc (.cells #[.int .i64 m.org, .int .u64 m.seq, .int .i64 m.hop, .string m.ex, .string m.key, .string m.body] 27)).trans hc) ((Blk.new w 27 #[.int .i64 m.org, .int .u64 m.seq, .int .i64 m.hop, .string m.ex, .string m.key, .string m.body]).chg hc (by simp)))
    clear hc
    cases bn with
    | false =>
      go_wp2
      go_ret
      exact ⟨rfl, H1.out.1⟩
    | true =>
      have c4 := H1.out.2.cell 4
      simp only [List.getElem?_toArray, List.getElem?_cons_succ, List.getElem?_cons_zero] at c4
      go_wp2_with fail
      refine (HK.out _).mono ?_
      rintro e w2 ⟨rfl, hc⟩
      have H2 := Lib.hid (And.intro (H1.out.1.trans hc) (H1.out.2.chg hc (by simp)))
      clear hc c4
      cases bk with
      | false =>
        go_wp2
        go_ret
        exact ⟨rfl, H2.out.1⟩
      | true =>
        have c5 := H2.out.2.cell 5
        simp only [List.getElem?_toArray, List.getElem?_cons_succ, List.getElem?_cons_zero] at c5
        go_wp2
        go_ret
        exact ⟨rfl, H2.out.1⟩
  · have eg : Ac.goodM m = false := by
      rw [Bool.eq_false_iff]
      intro h
      have := Ac.goodM_facts h
      omega
    rw [eg]
    clear eg
    simp only [msgV, Msg.cells]
    have h5 : ¬ 1 ≤ m.org ∨ ¬ m.org ≤ 8 ∨ ¬ 0 ≤ m.hop ∨ ¬ m.hop ≤ 8 ∨ ¬ 0 < m.seq := by omega
    clear hg
    rcases h5 with h | h | h | h | h
    · skip
      have b := decide_eq_false h
      go_enter Tryd.func19, Tryd.ntmps19
      go_wp2
      all_goals
        go_ret
        exact ⟨rfl, (Chg.refl _ _).alloc _⟩
    · skip
      have b := decide_eq_false h
      go_enter Tryd.func19, Tryd.ntmps19
      go_wp2
      all_goals
        go_ret
        exact ⟨rfl, (Chg.refl _ _).alloc _⟩
    · skip
      have b := decide_eq_false h
      go_enter Tryd.func19, Tryd.ntmps19
      go_wp2
      all_goals
        go_ret
        exact ⟨rfl, (Chg.refl _ _).alloc _⟩
    · skip
      have b := decide_eq_false h
      go_enter Tryd.func19, Tryd.ntmps19
      go_wp2
      all_goals
        go_ret
        exact ⟨rfl, (Chg.refl _ _).alloc _⟩
    · have b' : decide (1 ≤ m.seq) = false := decide_eq_false (by omega)
      have b := decide_eq_false h
      go_enter Tryd.func19, Tryd.ntmps19
      go_wp2
      all_goals
        go_ret
        exact ⟨rfl, (Chg.refl _ _).alloc _⟩
set_option maxHeartbeats 4000000 in
theorem rgoodm_any (m : Msg) (hs : m.Small) (w : World) : Calls Tryd.prog 22 #[msgV m] w fun e w' => e = .returned (.bool (Ac.goodM m)) ∧ Chg [] w w' := by
  obtain ⟨s1, s2, s3⟩ := hs
  by_cases hg : (1 ≤ m.org ∧ m.org ≤ 8) ∧ (0 ≤ m.hop ∧ m.hop ≤ 8) ∧ 0 < m.seq
  · obtain ⟨⟨o1, o2⟩, ⟨p1, p2⟩, q⟩ := hg
    have eg : Ac.goodM m = (Tp.nameL m.ex.data.toList && (Tp.keyL m.key.data.toList && decide (m.body.size ≤ 200))) := by
      unfold Ac.goodM
      simp only [o1, o2, p1, p2, q, decide_true, Bool.true_and]
      rfl
    rw [eg]
    have a1 := decide_eq_true o1
    have a2 := decide_eq_true o2
    have a3 := decide_eq_true p1
    have a4 := decide_eq_true p2
    have a5 := decide_eq_true q
    have a6 : decide (1 ≤ m.seq) = true := decide_eq_true (by omega)
    have HN := Lib.hid (fun W => rname_anyc m.ex (by unfold maxLen; omega) W)
    have HK := Lib.hid (fun W => rkey_any m.key (by omega) W)
    clear eg o1 o2 p1 p2 q
    obtain ⟨bn, hbn⟩ : ∃ b, b = Tp.nameL m.ex.data.toList := ⟨_, rfl⟩
    obtain ⟨bk, hbk⟩ : ∃ b, b = Tp.keyL m.key.data.toList := ⟨_, rfl⟩
    rw [← hbn] at HN ⊢
    rw [← hbk] at HK ⊢
    clear hbn hbk
    obtain ⟨bb, hbb⟩ : ∃ b, b = decide (m.body.size ≤ 200) := ⟨_, rfl⟩
    have t5 : decide ((m.body.size : Int) ≤ 200) = bb := by rw [hbb, decide_eq_decide]; omega
    rw [← hbb]
    clear hbb
    simp only [msgV, Msg.cells]
    go_enter Tryd.func22, Tryd.ntmps22
    go_wp2_with fail
    refine (HN.out _).mono ?_
    rintro e w1 ⟨rfl, hc⟩
    have H1 := Lib.hid (And.intro (((Chg.refl [] w).alloc (.cells #[.int .i64 m.org, .int .u64 m.seq, .int .i64 m.hop, .string m.ex, .string m.key, .string m.body] 27)).trans hc) ((Blk.new w 27 #[.int .i64 m.org, .int .u64 m.seq, .int .i64 m.hop, .string m.ex, .string m.key, .string m.body]).chg hc (by simp)))
    clear hc
    cases bn with
    | false =>
      go_wp2
      go_ret
      exact ⟨rfl, H1.out.1⟩
    | true =>
      have c4 := H1.out.2.cell 4
      simp only [List.getElem?_toArray, List.getElem?_cons_succ, List.getElem?_cons_zero] at c4
      go_wp2_with fail
      refine (HK.out _).mono ?_
      rintro e w2 ⟨rfl, hc⟩
      have H2 := Lib.hid (And.intro (H1.out.1.trans hc) (H1.out.2.chg hc (by simp)))
      clear hc c4
      cases bk with
      | false =>
        go_wp2
        go_ret
        exact ⟨rfl, H2.out.1⟩
      | true =>
        have c5 := H2.out.2.cell 5
        simp only [List.getElem?_toArray, List.getElem?_cons_succ, List.getElem?_cons_zero] at c5
        go_wp2
        go_ret
        exact ⟨rfl, H2.out.1⟩
  · have eg : Ac.goodM m = false := by
      rw [Bool.eq_false_iff]
      intro h
      have := Ac.goodM_facts h
      omega
    rw [eg]
    clear eg
    simp only [msgV, Msg.cells]
    have h5 : ¬ 1 ≤ m.org ∨ ¬ m.org ≤ 8 ∨ ¬ 0 ≤ m.hop ∨ ¬ m.hop ≤ 8 ∨ ¬ 0 < m.seq := by omega
    clear hg
    rcases h5 with h | h | h | h | h
    · skip
      have b := decide_eq_false h
      go_enter Tryd.func22, Tryd.ntmps22
      go_wp2
      all_goals
        go_ret
        exact ⟨rfl, (Chg.refl _ _).alloc _⟩
    · skip
      have b := decide_eq_false h
      go_enter Tryd.func22, Tryd.ntmps22
      go_wp2
      all_goals
        go_ret
        exact ⟨rfl, (Chg.refl _ _).alloc _⟩
    · skip
      have b := decide_eq_false h
      go_enter Tryd.func22, Tryd.ntmps22
      go_wp2
      all_goals
        go_ret
        exact ⟨rfl, (Chg.refl _ _).alloc _⟩
    · skip
      have b := decide_eq_false h
      go_enter Tryd.func22, Tryd.ntmps22
      go_wp2
      all_goals
        go_ret
        exact ⟨rfl, (Chg.refl _ _).alloc _⟩
    · have b' : decide (1 ≤ m.seq) = false := decide_eq_false (by omega)
      have b := decide_eq_false h
      go_enter Tryd.func22, Tryd.ntmps22
      go_wp2
      all_goals
        go_ret
        exact ⟨rfl, (Chg.refl _ _).alloc _⟩
end Go.Proofs.YtgnhpjakjoaejaaDoor
