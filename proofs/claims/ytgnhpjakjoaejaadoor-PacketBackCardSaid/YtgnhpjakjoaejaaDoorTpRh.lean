/- staithref05: letters, Name, Words, all, Key: what they come to. -/
import Derived.Test.YtgnhpjakjoaejaaDoorTpMade
set_option linter.unusedVariables false
set_option linter.unusedSimpArgs false
namespace Go.Proofs.YtgnhpjakjoaejaaDoor
open Go.RowKit
open Go.Proofs.YtgnhpjakjoaejaaDoor.Tp (splitL wordsL plainL okB patW keyL madeL nameL)

theorem okB_no {c : UInt8} (h : okB c = false) : ¬ (97 ≤ (c.toNat : Int) ∧ (c.toNat : Int) ≤ 122) ∧ ¬ (48 ≤ (c.toNat : Int) ∧ (c.toNat : Int) ≤ 57) ∧ (c.toNat : Int) ≠ 45 ∧ (c.toNat : Int) ≠ 95 := by
  unfold okB at h
  simp only [Bool.or_eq_false_iff, Bool.and_eq_false_iff, decide_eq_false_iff_not, beq_eq_false_iff_ne] at h
  omega
theorem okB_yes {c : UInt8} (h : (97 ≤ (c.toNat : Int) ∧ (c.toNat : Int) ≤ 122) ∨ (48 ≤ (c.toNat : Int) ∧ (c.toNat : Int) ≤ 57) ∨ (c.toNat : Int) = 45 ∨ (c.toNat : Int) = 95) : okB c = true := by
  unfold okB
  simp only [Bool.or_eq_true, Bool.and_eq_true, decide_eq_true_eq, beq_iff_eq]
  omega
theorem okB_inv {c : UInt8} (h : okB c = true) : (97 ≤ (c.toNat : Int) ∧ (c.toNat : Int) ≤ 122) ∨ (48 ≤ (c.toNat : Int) ∧ (c.toNat : Int) ≤ 57) ∨ (c.toNat : Int) = 45 ∨ (c.toNat : Int) = 95 := by
  unfold okB at h
  simp only [Bool.or_eq_true, Bool.and_eq_true, decide_eq_true_eq, beq_iff_eq] at h
  omega
set_option maxHeartbeats 4000000 in
theorem letters_any (s : ByteArray) (hs : s.size ≤ maxLen) (w : World) : Calls Tryd.prog 52 #[.string s] w fun e w' => e = .returned (.bool (plainL s.data.toList)) ∧ w = w' := by
  unfold maxLen at hs
  go_enter Tryd.func52, Tryd.ntmps52
  go_wp2
  go_loopw [3] (fun i wr => ∃ j : Nat, j ≤ s.size ∧ i = .int .i64 j ∧ (∀ q, q < j → okB (byt s q) = true) ∧ w = wr) (fun i _ => s.size - (intOf i).toNat)
  case atStart => exact ⟨0, by omega, rfl, fun q h => by omega, rfl⟩
  case round =>
    obtain ⟨j, hj, rfl, hq, rfl⟩ := hrel
    have HQ := Lib.hid hq
    clear hq
    by_cases hlt : j < s.size
    · have hb := byt_eq s j hlt
      have HC := Lib.hid hb
      clear hb
      cases hok : okB s[j] with
      | false =>
        obtain ⟨n1, n2, n3, n4⟩ := okB_no hok
        have e1 : ((s[j].toNat : Int) == 45) = false := by simpa using n3
        have e2 : ((s[j].toNat : Int) == 95) = false := by simpa using n4
        have HK := Lib.hid hok
        have h5 : (¬ 97 ≤ (s[j].toNat : Int) ∧ ¬ 48 ≤ (s[j].toNat : Int)) ∨ (¬ 97 ≤ (s[j].toNat : Int) ∧ 48 ≤ (s[j].toNat : Int) ∧ ¬ (s[j].toNat : Int) ≤ 57) ∨ (97 ≤ (s[j].toNat : Int) ∧ ¬ (s[j].toNat : Int) ≤ 122 ∧ 48 ≤ (s[j].toNat : Int) ∧ ¬ (s[j].toNat : Int) ≤ 57) := by omega
        clear hok n3 n4 n1 n2
        rcases h5 with ⟨a1, a2⟩ | ⟨a1, a2, a3⟩ | ⟨a1, a2, a3, a4⟩
        · have b1 := decide_eq_false a1
          have b2 := decide_eq_false a2
          go_wp2
          go_ret
          exact ⟨by rw [plainL_not hlt (by rw [← HC.out]; exact HK.out)]; rfl, rfl⟩
        · have b1 := decide_eq_false a1
          have b2 := decide_eq_true a2
          have b3 := decide_eq_false a3
          go_wp2
          go_ret
          exact ⟨by rw [plainL_not hlt (by rw [← HC.out]; exact HK.out)]; rfl, rfl⟩
        · have b1 := decide_eq_true a1
          have b2 := decide_eq_false a2
          have b3 := decide_eq_true a3
          have b4 := decide_eq_false a4
          go_wp2
          go_ret
          exact ⟨by rw [plainL_not hlt (by rw [← HC.out]; exact HK.out)]; rfl, rfl⟩
      | true =>
        have HK := Lib.hid hok
        rcases okB_inv hok with h | h | h | h
        all_goals
          clear hok
          go_wp2
          go_roundw
          case rel => exact ⟨j + 1, by omega, by go_num, fun q hq => by
             rcases Nat.lt_or_ge q j with h | h
             · exact HQ.out q h
             · obtain rfl : q = j := by omega
               rw [← HC.out]
               exact HK.out, trivial⟩
          case measure => simp [intOf]; omega
    · obtain rfl : s.size = j := by omega
      go_wp2
      go_ret
      refine ⟨?_, rfl⟩
      show Ending.returned (.bool (decide (0 < s.size))) = _
      by_cases h0 : s.size = 0
      · rw [plainL_nil h0, decide_eq_false (by omega)]
      · rw [plainL_of (by omega) HQ.out, decide_eq_true (by omega)]
theorem rname_any (s : ByteArray) (hs : s.size ≤ maxLen) (w : World) : Calls Tryd.prog 39 #[.string s] w fun e w' => e = .returned (.bool (nameL s.data.toList)) ∧ w = w' := by
  have HL := Lib.hid (letters_any s hs w)
  unfold nameL
  have hl : s.data.toList.length = s.size := Array.length_toList
  rw [hl]
  obtain ⟨r, hr⟩ : ∃ r, r = plainL s.data.toList := ⟨_, rfl⟩
  rw [← hr] at HL ⊢
  unfold maxLen at hs
  clear hr hl
  by_cases h : s.size ≤ 20
  · have t1 : decide ((s.size : Int) ≤ 20) = true := decide_eq_true (by omega)
    rw [decide_eq_true h]
    go_enter Tryd.func39, Tryd.ntmps39
    go_wp2_with fail
    refine HL.out.mono ?_
    rintro e w' ⟨rfl, rfl⟩
    go_wp2
    go_ret
    exact ⟨rfl, rfl⟩
  · have t1 : decide ((s.size : Int) ≤ 20) = false := decide_eq_false (by omega)
    rw [decide_eq_false h]
    go_enter Tryd.func39, Tryd.ntmps39
    go_wp2
    go_ret
    exact ⟨rfl, rfl⟩
/-- What is gathered of words so far, and of the word that goes on. -/
def gath (l : List UInt8) : List (List UInt8) × List UInt8 := l.foldl (fun x b => if b = 46 then (x.1 ++ [x.2], []) else (x.1, x.2 ++ [b])) ([], [])
theorem gath_split (l : List UInt8) : ∀ (acc : List (List UInt8)) (cur : List UInt8), (let g := l.foldl (fun x b => if b = 46 then (x.1 ++ [x.2], []) else (x.1, x.2 ++ [b])) (acc, cur); g.1 ++ [g.2]) = acc ++ (match splitL l with | x :: xs => (cur ++ x) :: xs | [] => [cur]) := by
  induction l with
  | nil => intro acc cur; simp [splitL]
  | cons b l ih =>
    intro acc cur
    rw [List.foldl_cons]
    by_cases hb : b = 46
    · rw [if_pos hb, ih, splitL, if_pos hb]
      cases h : splitL l with
      | nil => exact absurd h (Tp.splitL_ne l)
      | cons x xs => simp
    · rw [if_neg hb, ih]
      obtain ⟨x, xs, h1, h2⟩ := Tp.splitL_cons b l hb
      rw [h2, h1]
      simp
theorem gath_all (l : List UInt8) : (gath l).1 ++ [(gath l).2] = splitL l := by
  have := gath_split l [] []
  unfold gath
  rw [this]
  cases h : splitL l with
  | nil => exact absurd h (Tp.splitL_ne l)
  | cons x xs => simp
theorem gath_len (l : List UInt8) : (gath l).1.length ≤ l.length ∧ (gath l).2.length ≤ l.length := by
  have : ∀ (l : List UInt8) (acc : List (List UInt8)) (cur : List UInt8) (n : Nat), acc.length ≤ n → cur.length ≤ n → (l.foldl (fun x b => if b = 46 then (x.1 ++ [x.2], []) else (x.1, x.2 ++ [b])) (acc, cur)).1.length ≤ n + l.length ∧ (l.foldl (fun x b => if b = 46 then (x.1 ++ [x.2], []) else (x.1, x.2 ++ [b])) (acc, cur)).2.length ≤ n + l.length := by
    intro l
    induction l with
    | nil => intro acc cur n h1 h2; exact ⟨h1, h2⟩
    | cons b l ih =>
      intro acc cur n h1 h2
      rw [List.foldl_cons, List.length_cons]
      by_cases hb : b = 46
      · rw [if_pos hb]
        have := ih (acc ++ [cur]) [] (n + 1) (by simp; omega) (by simp)
        exact ⟨Nat.le_trans this.1 (by omega), Nat.le_trans this.2 (by omega)⟩
      · rw [if_neg hb]
        have := ih acc (cur ++ [b]) (n + 1) (by omega) (by simp; omega)
        exact ⟨Nat.le_trans this.1 (by omega), Nat.le_trans this.2 (by omega)⟩
  have h := this l [] [] 0 (by simp) (by simp)
  rw [Nat.zero_add] at h
  exact h
theorem gath_snoc (l : List UInt8) (b : UInt8) : gath (l ++ [b]) = if b = 46 then ((gath l).1 ++ [(gath l).2], []) else ((gath l).1, (gath l).2 ++ [b]) := by
  simp [gath]
end Go.Proofs.YtgnhpjakjoaejaaDoor
