/- Package seen: Add, Has, Low, Gaps, Ranges of a book. -/
import Derived.Test.YthgejgfdpmbpaaaSnBook
set_option linter.unusedVariables false
set_option linter.unusedSimpArgs false
namespace Go.Proofs.Ythgejgfdpmbpaaa
open Go.RowKit Go.Shelf

def isO (o : Int) : Prop := 1 ≤ o ∧ o ≤ 8
instance (o : Int) : Decidable (isO o) := by unfold isO; infer_instance
def getR (R : Nat → List Rng) (o : Int) : List Rng := if 1 ≤ o ∧ o ≤ 8 then R o.toNat else []
def addB (R : Nat → List Rng) (o : Int) (n : Nat) : Nat → List Rng := if 1 ≤ o ∧ o ≤ 8 then upd R o.toNat (addR (R o.toNat) n) else R
def isNew (R : Nat → List Rng) (o : Int) (n : Nat) : Bool := decide (1 ≤ o ∧ o ≤ 8) && (decide (0 < n) && !memR (getR R o) n)
/-- All origins' ranges are sound, of at most l. -/
def Sound (R : Nat → List Rng) (l : Nat) : Prop := ∀ o, WF 1 (R o) ∧ (R o).length ≤ l
theorem Sound.nil : Sound (fun _ => []) 0 := fun _ => ⟨trivial, Nat.le_refl _⟩
theorem Sound.mono {R : Nat → List Rng} {l m : Nat} (h : Sound R l) (hm : l ≤ m) : Sound R m := fun o => ⟨(h o).1, Nat.le_trans (h o).2 hm⟩
theorem Sound.get {R : Nat → List Rng} {l : Nat} (h : Sound R l) (o : Int) : WF 1 (getR R o) ∧ (getR R o).length ≤ l := by
  unfold getR
  split
  · exact h _
  · exact ⟨trivial, Nat.zero_le _⟩
theorem Sound.add {R : Nat → List Rng} {l n : Nat} (h : Sound R l) (hn : n < M64) (o : Int) : Sound (addB R o n) (l + 1) := by
  unfold addB
  split
  · intro o'
    by_cases e : o' = o.toNat
    · subst e
      rw [upd_same]
      obtain ⟨a1, _, _, a4⟩ := addR_facts (h o.toNat).1 hn
      have := (h o.toNat).2
      exact ⟨a1, by omega⟩
    · rw [upd_other _ _ e]
      have := h o'
      exact ⟨this.1, by omega⟩
  · exact h.mono (by omega)
theorem getR_add {R : Nat → List Rng} {o : Int} {n : Nat} (o' : Int) : getR (addB R o n) o' = if o' = o ∧ (1 ≤ o ∧ o ≤ 8) then addR (getR R o) n else getR R o' := by
  by_cases h : 1 ≤ o ∧ o ≤ 8
  · by_cases e : o' = o
    · subst e
      simp [getR, addB, h, upd_same]
    · by_cases h' : 1 ≤ o' ∧ o' ≤ 8
      · have hne : o'.toNat ≠ o.toNat := by omega
        simp [getR, addB, h, h', e, upd_other _ _ hne]
      · simp [getR, h', e]
  · simp [getR, addB, h]

section
variable (w W : World) (bp : Nat) (f : Nat → Nat) (R : Nat → List Rng)
set_option maxHeartbeats 4000000 in
theorem book_add (h : BookSt w W bp f R) (oI : Int) (n : Nat) (hn : n < M64) {l : Nat} (hs : Sound R l) (hl : l ≤ 1000000) :
    Calls Try.prog 10 #[.pointer (some ⟨bp, 0, none⟩), .agg #[.int .i64 oI, .int .u64 (n : Nat)]] W fun e w' => e = .returned (.bool (isNew R oI n)) ∧ BookSt w w' bp f (addB R oI n) ∧ ∃ o', o' < 9 ∧ Chg [f o'] W w' := by
  have HB := Lib.hid h
  have hbl : bp < W.heap.size := h.blk.lt
  by_cases ho : 1 ≤ oI ∧ oI ≤ 8
  · skip
    obtain ⟨o, rfl⟩ : ∃ k : Nat, oI = (k : Int) := ⟨oI.toNat, by omega⟩
    have o1 : 1 ≤ o := by omega
    have o2 : o ≤ 8 := by omega
    have eg : getR R (o : Int) = R o := by unfold getR; rw [if_pos ⟨by omega, by omega⟩]; simp
    have e1 : isNew R (o : Int) n = (decide (0 < n) && !memR (R o) n) := by unfold isNew; rw [eg, decide_eq_true (by omega), Bool.true_and]
    have e2 : addB R (o : Int) n = upd R o (addR (R o) n) := by unfold addB; rw [if_pos ⟨by omega, by omega⟩]; simp
    obtain ⟨b, hb⟩ : ∃ b, b = (decide (0 < n) && !memR (R o) n) := ⟨_, rfl⟩
    rw [e1, e2, ← hb]
    have HADD : Hid (∀ W1, Chg [] W W1 → Calls Try.prog 26 #[.pointer (some ⟨f o, 0, none⟩), .int .u64 (n : Nat)] W1 fun e w' => e = .returned (.bool b) ∧ St w w' (f o) (addR (R o) n) ∧ Chg [f o] W1 w') :=
      Lib.hid fun W1 hc => St.add ((h.sets o (by omega)).to hc) n _ _ (hs o).1 hn (Nat.le_trans (hs o).2 hl) hb.symm rfl
    have HOF : Hid (∀ W1, Chg [] W W1 → Calls Try.prog 25 #[.pointer (some ⟨bp, 0, none⟩), .int .i64 (o : Nat)] W1 fun e w' => e = .returned (.pointer (some ⟨f o, 0, none⟩)) ∧ W1 = w') :=
      Lib.hid fun W1 hc => of_in w W1 bp f R (h.to hc) o o1 o2
    have HO := Lib.hid (And.intro o1 o2)
    obtain ⟨q, hq⟩ : ∃ q, q = f o := ⟨_, rfl⟩
    rw [← hq] at HADD HOF
    have HQ := Lib.hid hq
    clear h hs hb e1 e2 eg hq ho o1 o2
    go_enter Try.func10, Try.ntmps10
    go_wp2_with fail
    go_region_with (first
      | (go_at_call 25; refine (HOF.out _ ?_).mono ?_; exact ((Chg.refl [] W).alloc _).drew; rintro e w1 ⟨rfl, rfl⟩)
      | (go_at_call 26; refine (HADD.out _ ?_).mono ?_; exact ((Chg.refl [] W).alloc _).drew; rintro e w1 ⟨rfl, hs, hc⟩; have HX := Lib.hid (And.intro hs hc); clear hs hc))
    all_goals
      go_wp2
      go_ret
      have hfo := HQ.out
      subst hfo
      exact ⟨rfl, (HB.out.to (((Chg.refl [] W).alloc _).drew)).set (by have := HO.out; omega) HX.out.1 HX.out.2, o, by have := HO.out; omega, (((Chg.refl [f o] W).alloc _).drew).trans HX.out.2⟩
  · have e1 : isNew R oI n = false := by unfold isNew; rw [decide_eq_false ho, Bool.false_and]
    have e2 : addB R oI n = R := by unfold addB; rw [if_neg ho]
    rw [e1, e2]
    have HOF : Hid (∀ W1, Chg [] W W1 → Calls Try.prog 25 #[.pointer (some ⟨bp, 0, none⟩), .int .i64 oI] W1 fun e w' => e = .returned (.pointer none) ∧ W1 = w') :=
      Lib.hid fun W1 hc => of_out w W1 bp f R (h.to hc) oI (by omega)
    clear h hs e1 e2 ho
    go_enter Try.func10, Try.ntmps10
    go_wp2_with fail
    go_region_with (first
      | (go_at_call 25; refine (HOF.out _ ?_).mono ?_; exact ((Chg.refl [] W).alloc _).drew; rintro e w1 ⟨rfl, rfl⟩)
      | (go_at_call 26; refine (nil_add _ _).mono ?_; rintro e w1 ⟨rfl, rfl⟩))
    all_goals
      go_wp2
      go_ret
      exact ⟨rfl, HB.out.to (((Chg.refl [] W).alloc _).drew), 0, by omega, ((Chg.refl [f 0] W).alloc _).drew⟩

set_option maxHeartbeats 4000000 in
theorem book_has (h : BookSt w W bp f R) (oI : Int) (n : Nat) {l : Nat} (hs : Sound R l) (hl : l ≤ 1000000) :
    Calls Try.prog 13 #[.pointer (some ⟨bp, 0, none⟩), .agg #[.int .i64 oI, .int .u64 (n : Nat)]] W fun e w' => e = .returned (.bool (memR (getR R oI) n)) ∧ Chg [] W w' := by
  have hbl : bp < W.heap.size := h.blk.lt
  by_cases ho : 1 ≤ oI ∧ oI ≤ 8
  · skip
    obtain ⟨o, rfl⟩ : ∃ k : Nat, oI = (k : Int) := ⟨oI.toNat, by omega⟩
    have o1 : 1 ≤ o := by omega
    have o2 : o ≤ 8 := by omega
    have eg : getR R (o : Int) = R o := by unfold getR; rw [if_pos ⟨by omega, by omega⟩]; simp
    obtain ⟨b, hb⟩ : ∃ b, b = memR (R o) n := ⟨_, rfl⟩
    rw [eg, ← hb]
    have HHAS : Hid (∀ W1, Chg [] W W1 → Calls Try.prog 28 #[.pointer (some ⟨f o, 0, none⟩), .int .u64 (n : Nat)] W1 fun e w' => e = .returned (.bool b) ∧ Chg [] W1 w') :=
      Lib.hid fun W1 hc => (St.has ((h.sets o (by omega)).to hc) n _ (hs o).1 (Nat.le_trans (hs o).2 hl) hb.symm).mono fun _ _ ⟨a, b, _⟩ => ⟨a, b⟩
    have HOF : Hid (∀ W1, Chg [] W W1 → Calls Try.prog 25 #[.pointer (some ⟨bp, 0, none⟩), .int .i64 (o : Nat)] W1 fun e w' => e = .returned (.pointer (some ⟨f o, 0, none⟩)) ∧ W1 = w') :=
      Lib.hid fun W1 hc => of_in w W1 bp f R (h.to hc) o o1 o2
    obtain ⟨q, hq⟩ : ∃ q, q = f o := ⟨_, rfl⟩
    rw [← hq] at HHAS HOF
    clear h hs hb eg hq ho o1 o2
    go_enter Try.func13, Try.ntmps13
    go_wp2_with fail
    go_region_with (first
      | (go_at_call 25; refine (HOF.out _ ?_).mono ?_; exact ((Chg.refl [] W).alloc _).drew; rintro e w1 ⟨rfl, rfl⟩)
      | (go_at_call 28; refine (HHAS.out _ ?_).mono ?_; exact ((Chg.refl [] W).alloc _).drew; rintro e w1 ⟨rfl, hc⟩; have HX := Lib.hid hc; clear hc))
    all_goals
      go_wp2
      go_ret
      exact ⟨rfl, (((Chg.refl [] W).alloc _).drew).trans HX.out⟩
  · have eg : getR R oI = [] := by unfold getR; rw [if_neg ho]
    rw [eg]
    have e1 : memR [] n = false := rfl
    rw [e1]
    have HOF : Hid (∀ W1, Chg [] W W1 → Calls Try.prog 25 #[.pointer (some ⟨bp, 0, none⟩), .int .i64 oI] W1 fun e w' => e = .returned (.pointer none) ∧ W1 = w') :=
      Lib.hid fun W1 hc => of_out w W1 bp f R (h.to hc) oI (by omega)
    clear h hs e1 eg ho
    go_enter Try.func13, Try.ntmps13
    go_wp2_with fail
    go_region_with (first
      | (go_at_call 25; refine (HOF.out _ ?_).mono ?_; exact ((Chg.refl [] W).alloc _).drew; rintro e w1 ⟨rfl, rfl⟩)
      | (go_at_call 28; refine (nil_has _ _).mono ?_; rintro e w1 ⟨rfl, hc⟩; have HX := Lib.hid hc; clear hc))
    all_goals
      go_wp2
      go_ret
      exact ⟨rfl, (((Chg.refl [] W).alloc _).drew).trans HX.out⟩

theorem book_low (h : BookSt w W bp f R) (oI : Int) : Calls Try.prog 23 #[.pointer (some ⟨bp, 0, none⟩), .int .i64 oI] W fun e w' => e = .returned (.int .u64 (lowR (getR R oI) : Nat)) ∧ W = w' := by
  by_cases ho : 1 ≤ oI ∧ oI ≤ 8
  · skip
    obtain ⟨o, rfl⟩ : ∃ k : Nat, oI = (k : Int) := ⟨oI.toNat, by omega⟩
    have o1 : 1 ≤ o := by omega
    have o2 : o ≤ 8 := by omega
    have eg : getR R (o : Int) = R o := by unfold getR; rw [if_pos ⟨by omega, by omega⟩]; simp
    obtain ⟨b, hb⟩ : ∃ b, b = lowR (R o) := ⟨_, rfl⟩
    rw [eg, ← hb]
    have H1 := Lib.hid (And.intro (of_in w W bp f R h o o1 o2) (low_any W (f o) (R o) (h.sets o (by omega)).set_))
    rw [← hb] at H1
    clear h hb eg ho o1 o2
    go_enter Try.func23, Try.ntmps23
    go_wp2_with fail
    refine H1.out.1.mono ?_
    rintro e w1 ⟨rfl, rfl⟩
    go_wp2_with fail
    refine H1.out.2.mono ?_
    rintro e w1 ⟨rfl, rfl⟩
    go_wp2
    go_ret
    exact ⟨rfl, rfl⟩
  · have eg : lowR (getR R oI) = 0 := by unfold getR; rw [if_neg ho]; rfl
    rw [eg]
    have H1 := Lib.hid (of_out w W bp f R h oI (by omega))
    clear h eg ho
    go_enter Try.func23, Try.ntmps23
    go_wp2_with fail
    refine H1.out.mono ?_
    rintro e w1 ⟨rfl, rfl⟩
    go_wp2_with fail
    refine (nil_low _).mono ?_
    rintro e w1 ⟨rfl, rfl⟩
    go_wp2
    go_ret
    exact ⟨rfl, rfl⟩
theorem book_gaps (h : BookSt w W bp f R) (oI : Int) {l : Nat} (hs : Sound R l) (hl : l ≤ 1000000) : Calls Try.prog 17 #[.pointer (some ⟨bp, 0, none⟩), .int .i64 oI] W fun e w' => e = .returned (.int .i64 (gapsR (getR R oI))) ∧ W = w' := by
  by_cases ho : 1 ≤ oI ∧ oI ≤ 8
  · skip
    obtain ⟨o, rfl⟩ : ∃ k : Nat, oI = (k : Int) := ⟨oI.toNat, by omega⟩
    have o1 : 1 ≤ o := by omega
    have o2 : o ≤ 8 := by omega
    have eg : getR R (o : Int) = R o := by unfold getR; rw [if_pos ⟨by omega, by omega⟩]; simp
    obtain ⟨b, hb⟩ : ∃ b, b = gapsR (R o) := ⟨_, rfl⟩
    rw [eg, ← hb]
    have H1 := Lib.hid (And.intro (of_in w W bp f R h o o1 o2) (gaps_any W (f o) (R o) (h.sets o (by omega)).set_ (by have := (hs o).2; omega)))
    rw [← hb] at H1
    clear h hb eg ho o1 o2 hs
    go_enter Try.func17, Try.ntmps17
    go_wp2_with fail
    refine H1.out.1.mono ?_
    rintro e w1 ⟨rfl, rfl⟩
    go_wp2_with fail
    refine H1.out.2.mono ?_
    rintro e w1 ⟨rfl, rfl⟩
    go_wp2
    go_ret
    exact ⟨rfl, rfl⟩
  · have eg : gapsR (getR R oI) = 0 := by unfold getR; rw [if_neg ho]; rfl
    rw [eg]
    have H1 := Lib.hid (of_out w W bp f R h oI (by omega))
    clear h eg ho hs
    go_enter Try.func17, Try.ntmps17
    go_wp2_with fail
    refine H1.out.mono ?_
    rintro e w1 ⟨rfl, rfl⟩
    go_wp2_with fail
    refine (nil_gaps _).mono ?_
    rintro e w1 ⟨rfl, rfl⟩
    go_wp2
    go_ret
    exact ⟨rfl, rfl⟩
theorem book_ranges (h : BookSt w W bp f R) (oI : Int) {l : Nat} (hs : Sound R l) (hl : l ≤ 1000000) : Calls Try.prog 11 #[.pointer (some ⟨bp, 0, none⟩), .int .i64 oI] W fun e w' =>
    ∃ A c, e = .returned (.slice A (getR R oI).length c) ∧ RowAt w' A c (getR R oI) ∧ Chg [] W w' := by
  by_cases ho : 1 ≤ oI ∧ oI ≤ 8
  · skip
    obtain ⟨o, rfl⟩ : ∃ k : Nat, oI = (k : Int) := ⟨oI.toNat, by omega⟩
    have o1 : 1 ≤ o := by omega
    have o2 : o ≤ 8 := by omega
    have eg : getR R (o : Int) = R o := by unfold getR; rw [if_pos ⟨by omega, by omega⟩]; simp
    rw [eg]
    have H1 := Lib.hid (And.intro (of_in w W bp f R h o o1 o2) (ranges2_any W (f o) (R o) (h.sets o (by omega)).set_ (by have := (hs o).2; omega)))
    obtain ⟨RO, hRO⟩ : ∃ RO, RO = R o := ⟨_, rfl⟩
    rw [← hRO] at H1
    rw [← hRO]
    obtain ⟨n, hn⟩ : ∃ n, n = RO.length := ⟨_, rfl⟩
    rw [← hn] at H1
    rw [← hn]
    clear h eg ho o1 o2 hs hRO hn
    go_enter Try.func11, Try.ntmps11
    go_wp2_with fail
    refine H1.out.1.mono ?_
    rintro e w1 ⟨rfl, rfl⟩
    go_wp2_with fail
    refine H1.out.2.mono ?_
    rintro e w1 ⟨A, c, rfl, h1, h2, _⟩
    have H2 := Lib.hid (And.intro h1 h2)
    clear h1 h2
    go_wp2
    go_ret
    exact ⟨A, c, rfl, H2.out⟩
  · have eg : getR R oI = [] := by unfold getR; rw [if_neg ho]
    rw [eg]
    have H1 := Lib.hid (of_out w W bp f R h oI (by omega))
    rw [show ([] : List Rng).length = 0 from rfl]
    clear h eg ho hs
    go_enter Try.func11, Try.ntmps11
    go_wp2_with fail
    refine H1.out.mono ?_
    rintro e w1 ⟨rfl, rfl⟩
    go_wp2_with fail
    refine (nil_ranges2 _).mono ?_
    rintro e w1 ⟨rfl, rfl⟩
    go_wp2
    go_ret
    exact ⟨none, 0, rfl, .inl ⟨rfl, rfl, rfl⟩, Chg.refl _ _⟩
end
end Go.Proofs.Ythgejgfdpmbpaaa
