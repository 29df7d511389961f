/- SeenOnce: an id is new once; what is added of others is not seen in an origin's. -/
import Derived.Test.YthgejgfdpmbpaaaSnLaw
set_option linter.unusedVariables false
set_option linter.unusedSimpArgs false
namespace Go.Proofs.Ythgejgfdpmbpaaa.seenOnce
open Go.RowKit Go.Shelf Go.Proofs.Ythgejgfdpmbpaaa

set_option maxRecDepth 100000 in
set_option maxHeartbeats 8000000 in
theorem core (A : Option Addr) (c : Nat) (ys : List Idn) (x : Idn) (hx : x.ok) (W : World) (hc : ys.length ≤ c) (hm : c ≤ maxLen) (hr : RowsAt W A 2 Idn.cells ys) (hok : ∀ y ∈ ys, y.ok) :
    Calls Try.prog 3 #[.slice A ys.length c, .agg #[.int .i64 x.o, .int .u64 (x.n : Nat)]] W fun e w' => e = .returned (.bool true) ∧ Chg [] W w' := by
  have HR := Lib.hid (And.intro hr hok)
  have HX := Lib.hid hx
  clear hr hok hx
  unfold maxLen at hm
  obtain ⟨xo, xn⟩ := x
  simp only at HX ⊢
  by_cases hlen : 100 < ys.length
  · go_enter Try.func3, Try.ntmps3
    go_wp2_with fail
    refine (lives_any _).mono ?_
    rintro e w' ⟨rfl, hc⟩
    have HH := Lib.hid (((Chg.refl [] W).alloc (.cells #[.int .i64 xo, .int .u64 (xn : Nat)] 25)).trans hc)
    clear hc
    go_wp2
    go_ret
    exact ⟨rfl, HH.out⟩
  obtain ⟨n, hn⟩ : ∃ n, n = ys.length := ⟨_, rfl⟩
  have HN := Lib.hid hn
  rw [← hn] at hlen hc
  rw [← hn]
  clear hn
  -- what is reckoned
  obtain ⟨RA, hRA⟩ : ∃ RA, RA = addB R0 xo xn := ⟨_, rfl⟩
  obtain ⟨first, hfirst⟩ : ∃ b, b = isNew R0 xo xn := ⟨_, rfl⟩
  have hs0 : Sound R0 0 := Sound.nil
  have hxn : xn < M64 := HX.out.1
  have hsA : Sound RA 1 := by rw [hRA]; exact hs0.add hxn xo
  have hmemA : memR (getR RA xo) xn = first := by
    rw [hRA, mem_after (hs0.get xo).1 hxn, hfirst]
    have e : getR R0 xo = [] := by unfold getR; split <;> rfl
    unfold isNew
    rw [e]
    simp [memR]
  have hagain : ∀ R, getR R xo = getR RA xo → isNew R xo xn = false := by
    intro R hR
    have h1 : isNew RA xo xn = false := by rw [hRA]; exact new_again (hs0.get xo).1 hxn
    unfold isNew at h1 ⊢
    rw [hR]
    exact h1
  have HP := Lib.hid (And.intro hRA (And.intro hfirst (And.intro hsA (And.intro hmemA hagain))))
  clear hRA hfirst hsA hmemA hagain hs0 hxn
  go_enter Try.func3, Try.ntmps3
  go_wp2_with fail
  obtain ⟨WB, hWB⟩ : ∃ WB, WB = W.alloc (.cells #[.int .i64 xo, .int .u64 (xn : Nat)] 25) := ⟨_, rfl⟩
  rw [← hWB]
  have HWB : Hid (Chg [] W WB ∧ Blk WB W.heap.size 25 #[.int .i64 xo, .int .u64 (xn : Nat)]) := by
    rw [hWB]; exact Lib.hid ⟨(Chg.refl [] W).alloc _, Blk.new _ _ _⟩
  clear hWB
  refine (book_new WB WB (Chg.refl _ _)).mono ?_
  rintro e w1 ⟨f, rfl, hs⟩
  obtain ⟨bp, hbp⟩ : ∃ bp, bp = WB.heap.size := ⟨_, rfl⟩
  rw [← hbp] at hs
  rw [← hbp]
  have H1 : Hid (BookSt WB w1 bp f R0 ∧ Sound R0 0) := Lib.hid (⟨hs, Sound.nil⟩ : BookSt WB w1 bp f R0 ∧ Sound R0 0)
  have x0 := (HWB.out.2.chg hs.chg (by simp)).cell 0
  have x1 := (HWB.out.2.chg hs.chg (by simp)).cell 1
  simp only [List.getElem?_toArray, List.getElem?_cons_succ, List.getElem?_cons_zero] at x0 x1
  clear hs hbp
  go_wp2_with fail
  refine (book_add WB w1 bp f R0 H1.out.1 xo xn HX.out.1 H1.out.2 (by decide)).mono ?_
  rintro e w2 ⟨rfl, hs, _⟩
  rw [← HP.out.1] at hs
  rw [← HP.out.2.1]
  have x0 := (HWB.out.2.chg hs.chg (by simp)).cell 0
  have x1 := (HWB.out.2.chg hs.chg (by simp)).cell 1
  simp only [List.getElem?_toArray, List.getElem?_cons_succ, List.getElem?_cons_zero] at x0 x1
  have H2 := Lib.hid hs
  clear hs
  go_wp2_with fail
  refine (book_ranges WB w2 bp f RA H2.out xo HP.out.2.2.1 (by decide)).mono ?_
  rintro e w3 ⟨B, d, rfl, hrow, hc3⟩
  obtain ⟨rn, hrn⟩ : ∃ rn, rn = (getR RA xo).length := ⟨_, rfl⟩
  have HRN := Lib.hid hrn
  rw [← hrn]
  have H3 := Lib.hid (And.intro (H2.out.to hc3) hrow)
  clear hrow hc3 hrn x0 x1
  go_wp2
  go_loopw [28] (fun i wr => ∃ (k : Nat) (R : Nat → List Rng), k ≤ n ∧ i = .int .i64 k ∧ BookSt WB wr bp f R ∧ Sound R (1 + k) ∧ getR R xo = getR RA xo ∧ RowAt wr B d (getR RA xo)) (fun i _ => n - (intOf i).toNat)
  case atStart => exact ⟨0, RA, Nat.zero_le _, rfl, H3.out.1, HP.out.2.2.1, rfl, H3.out.2⟩
  case round =>
    obtain ⟨k, R, hk, rfl, hb, hsd, hgr, hrow⟩ := hrel
    have HB := Lib.hid (And.intro hb (And.intro hsd (And.intro hgr hrow)))
    have x0 := (HWB.out.2.chg hb.chg (by simp)).cell 0
    have x1 := (HWB.out.2.chg hb.chg (by simp)).cell 1
    simp only [List.getElem?_toArray, List.getElem?_cons_succ, List.getElem?_cons_zero] at x0 x1
    have hwlt : W.heap.size < wr.heap.size := (HWB.out.2.chg hb.chg (by simp)).lt
    clear hb hsd hgr hrow
    by_cases hlt : k < n
    · have hkl : k < ys.length := by rw [← HN.out]; exact hlt
      obtain ⟨a, rfl, hcell⟩ := HR.out.1.get hkl
      have hyok := HR.out.2 ys[k] (List.getElem_mem hkl)
      obtain ⟨y, hy⟩ : ∃ y, y = ys[k] := ⟨_, rfl⟩
      rw [← hy] at hcell hyok
      obtain ⟨yo, yn⟩ := y
      have y0 := (HWB.out.1.trans HB.out.1.chg).cell_some (hcell 0 _ rfl) (by simp)
      have y1 := (HWB.out.1.trans HB.out.1.chg).cell_some (hcell 1 _ rfl) (by simp)
      rw [Nat.add_zero] at y0
      rw [add_fld _ _ _ (by omega)] at y1
      have HY := Lib.hid hyok
      have i1 : (0 : Int) ≤ (k : Int) := by omega
      have i2 : (k : Int) < (n : Int) := by omega
      clear hcell hyok hy
      by_cases he : yo = xo
      · subst he
        go_wp2
        go_roundw
        case rel => exact ⟨k + 1, R, by omega, by go_num, HB.out.1.to ((Chg.refl [] wr).alloc _), HB.out.2.1.mono (by omega), HB.out.2.2.1, HB.out.2.2.2.chg0 ((Chg.refl [] wr).alloc _)⟩
        case measure => simp [intOf]; omega
      · have hne : (yo != xo) = true := by simpa using he
        go_wp2_with fail
        refine (book_add WB _ bp f R (HB.out.1.to ((Chg.refl [] wr).alloc _)) yo yn HY.out.1 HB.out.2.1 (by omega)).mono ?_
        rintro e w4 ⟨rfl, hs, o', ho', hc4⟩
        have hrow4 := (HB.out.2.2.2.chg0 ((Chg.refl [] wr).alloc _)).book (HB.out.1.to ((Chg.refl [] wr).alloc _)) ho' hc4
        have H4 := Lib.hid (And.intro hs hrow4)
        clear hs hrow4 hc4 ho'
        go_wp2
        go_roundw
        case rel =>
          refine ⟨k + 1, _, by omega, by go_num, H4.out.1, (HB.out.2.1.add HY.out.1 yo).mono (by omega), ?_, H4.out.2⟩
          · rw [getR_other (Ne.symm he)]; exact HB.out.2.2.1
        case measure => simp [intOf]; omega
    · obtain rfl : k = n := by omega
      have hag := HP.out.2.2.2.2 R HB.out.2.2.1
      have hhas : memR (getR R xo) xn = first := by rw [HB.out.2.2.1]; exact HP.out.2.2.2.1
      have HA := Lib.hid (And.intro hag hhas)
      clear hag hhas
      go_wp2_with fail
      refine (book_ranges WB wr bp f R HB.out.1 xo HB.out.2.1 (by omega)).mono ?_
      rintro e w5 ⟨C, g, rfl, hrow, hc5⟩
      rw [HB.out.2.2.1] at hrow
      rw [HB.out.2.2.1, ← HRN.out]
      have H5 := Lib.hid (And.intro (HB.out.1.to hc5) (And.intro hrow (HB.out.2.2.2.chg0 hc5)))
      clear hrow hc5
      go_wp2_with fail
      rw [HRN.out]
      refine (same_any w5 C B g d (getR RA xo) (getR RA xo) H5.out.2.1 H5.out.2.2 (by have := (HP.out.2.2.1.get xo).2; omega) (by have := (HP.out.2.2.1.get xo).2; omega)).mono ?_
      rintro e w6 ⟨rfl, hc6⟩
      rw [decide_eq_true (rfl : getR RA xo = getR RA xo), ← HRN.out]
      have H6 := Lib.hid (H5.out.1.to hc6)
      have x0 := (HWB.out.2.chg H6.out.chg (by simp)).cell 0
      have x1 := (HWB.out.2.chg H6.out.chg (by simp)).cell 1
      simp only [List.getElem?_toArray, List.getElem?_cons_succ, List.getElem?_cons_zero] at x0 x1
      clear hc6
      go_wp2_with fail
      refine (book_has WB w6 bp f R H6.out xo xn HB.out.2.1 (by omega)).mono ?_
      rintro e w7 ⟨rfl, hc7⟩
      rw [HA.out.2]
      have H7 := Lib.hid (H6.out.to hc7)
      have x0 := (HWB.out.2.chg H7.out.chg (by simp)).cell 0
      have x1 := (HWB.out.2.chg H7.out.chg (by simp)).cell 1
      simp only [List.getElem?_toArray, List.getElem?_cons_succ, List.getElem?_cons_zero] at x0 x1
      have hff : (first != first) = false := by simp
      clear hc7
      go_wp2_with fail
      refine (book_add WB w7 bp f R H7.out xo xn HX.out.1 HB.out.2.1 (by omega)).mono ?_
      rintro e w8 ⟨rfl, hs8, _⟩
      rw [HA.out.1]
      have H8 := Lib.hid (And.intro hs8 (HB.out.2.1.add HX.out.1 xo))
      clear hs8
      obtain ⟨RB, hRB⟩ : ∃ RB, RB = addB R xo xn := ⟨_, rfl⟩
      rw [← hRB] at H8
      clear hRB x0 x1
      go_wp2
      go_loopw [62] (fun i wr => ∃ (k' : Nat) (R : Nat → List Rng), k' ≤ k ∧ i = .int .i64 k' ∧ BookSt WB wr bp f R ∧ Sound R (2 + k + 2 * k')) (fun i _ => k - (intOf i).toNat)
      case atStart => exact ⟨0, RB, Nat.zero_le _, rfl, H8.out.1, H8.out.2.mono (by omega)⟩
      case round =>
        obtain ⟨k', R', hk', rfl, hb', hsd'⟩ := hrel
        have HB' := Lib.hid (And.intro hb' hsd')
        have x0 := (HWB.out.2.chg hb'.chg (by simp)).cell 0
        have x1 := (HWB.out.2.chg hb'.chg (by simp)).cell 1
        simp only [List.getElem?_toArray, List.getElem?_cons_succ, List.getElem?_cons_zero] at x0 x1
        clear hb' hsd'
        by_cases hlt' : k' < k
        · have hkl : k' < ys.length := by rw [← HN.out]; exact hlt'
          obtain ⟨a, rfl, hcell⟩ := HR.out.1.get hkl
          have hyok := HR.out.2 ys[k'] (List.getElem_mem hkl)
          obtain ⟨y, hy⟩ : ∃ y, y = ys[k'] := ⟨_, rfl⟩
          rw [← hy] at hcell hyok
          obtain ⟨yo, yn⟩ := y
          have y0 := (HWB.out.1.trans HB'.out.1.chg).cell_some (hcell 0 _ rfl) (by simp)
          have y1 := (HWB.out.1.trans HB'.out.1.chg).cell_some (hcell 1 _ rfl) (by simp)
          rw [Nat.add_zero] at y0
          rw [add_fld _ _ _ (by omega)] at y1
          have HY := Lib.hid hyok
          have i1 : (0 : Int) ≤ (k' : Int) := by omega
          have i2 : (k' : Int) < (k : Int) := by omega
          have hna : isNew (addB R' yo yn) yo yn = false := new_again (HB'.out.2.get yo).1 hyok.1
          have HNA := Lib.hid hna
          clear hcell hyok hy x0 x1 hna
          go_wp2_with fail
          refine (book_add WB _ bp f R' (HB'.out.1.to ((Chg.refl [] _).alloc _)) yo yn HY.out.1 HB'.out.2 (by omega)).mono ?_
          rintro e w4 ⟨rfl, hs, o', ho', hc4⟩
          have z := ((Blk.new wr 25 #[.int .i64 yo, .int .u64 (yn : Nat)]).chg hc4 (by have := (HB'.out.1.sets o' ho').set_.lt; simp; omega))
          have z0 := z.cell 0
          have z1 := z.cell 1
          simp only [List.getElem?_toArray, List.getElem?_cons_succ, List.getElem?_cons_zero] at z0 z1
          have H4 := Lib.hid hs
          clear hs hc4 ho' z
          go_wp2_with fail
          refine (book_add WB w4 bp f _ H4.out yo yn HY.out.1 (HB'.out.2.add HY.out.1 yo) (by omega)).mono ?_
          rintro e w5 ⟨rfl, hs, _⟩
          rw [HNA.out]
          have H5 := Lib.hid hs
          clear hs
          go_wp2
          go_roundw
          case rel => exact ⟨k' + 1, _, by omega, by go_num, H5.out, ((HB'.out.2.add HY.out.1 yo).add HY.out.1 yo).mono (by omega)⟩
          case measure => simp [intOf]; omega
        · have hff := HP.out.2.1
          have hf2 : first = (decide (1 ≤ xo ∧ xo ≤ 8) && decide (0 < xn)) := by
            rw [hff]
            have e : getR R0 xo = [] := by unfold getR; split <;> rfl
            unfold isNew
            rw [e]
            simp [memR]
          have hend : Hid (BookSt WB wr bp f R') := Lib.hid HB'.out.1
          have hkk : ¬ k' < k := hlt'
          clear hff
          by_cases h0 : 0 < xn
          · have t0 : decide (0 < xn) = true := decide_eq_true h0
            by_cases h1 : 1 ≤ xo
            · have t1 : decide (1 ≤ xo) = true := decide_eq_true h1
              by_cases h2 : xo ≤ 8
              · have t2 : decide (xo ≤ 8) = true := decide_eq_true h2
                have hv : first = true := by rw [hf2]; simp [h0, h1, h2]
                subst hv
                clear hf2
                go_wp2_with fail
                refine (lives_any _).mono ?_
                rintro e wF ⟨rfl, hc5⟩
                have HF5 := Lib.hid (hend.out.chg.trans hc5)
                clear hc5
                go_wp2
                go_ret
                exact ⟨rfl, HWB.out.1.trans HF5.out⟩
              · have t2 : decide (xo ≤ 8) = false := decide_eq_false h2
                have hv : first = false := by rw [hf2]; simp [h0, h1, h2]
                subst hv
                clear hf2
                go_wp2_with fail
                refine (lives_any _).mono ?_
                rintro e wF ⟨rfl, hc5⟩
                have HF5 := Lib.hid (hend.out.chg.trans hc5)
                clear hc5
                go_wp2
                go_ret
                exact ⟨rfl, HWB.out.1.trans HF5.out⟩
            · have t1 : decide (1 ≤ xo) = false := decide_eq_false h1
              have hv : first = false := by rw [hf2]; simp [h0, h1]
              subst hv
              clear hf2
              go_wp2_with fail
              refine (lives_any _).mono ?_
              rintro e wF ⟨rfl, hc5⟩
              have HF5 := Lib.hid (hend.out.chg.trans hc5)
              clear hc5
              go_wp2
              go_ret
              exact ⟨rfl, HWB.out.1.trans HF5.out⟩
          · have t0 : decide (0 < xn) = false := decide_eq_false h0
            have hv : first = false := by rw [hf2]; simp [h0]
            subst hv
            clear hf2
            go_wp2_with fail
            refine (lives_any _).mono ?_
            rintro e wF ⟨rfl, hc5⟩
            have HF5 := Lib.hid (hend.out.chg.trans hc5)
            clear hc5
            go_wp2
            go_ret
            exact ⟨rfl, HWB.out.1.trans HF5.out⟩

theorem walk (A : Option Addr) (c : Nat) (ys : List Idn) (x : Idn) (hx : x.ok) (W : World) (h : ys.length ≤ c ∧ c ≤ maxLen ∧ RowsAt W A 2 Idn.cells ys ∧ (∀ y ∈ ys, y.ok)) :
    Calls Try.prog 3 #[.slice A ys.length c, .agg #[.int .i64 x.o, .int .u64 (x.n : Nat)]] W fun e w' => e = .returned (.bool true) ∧ Below W.heap.size W w' :=
  (core A c ys x hx W h.1 h.2.1 h.2.2.1 h.2.2.2).mono fun _ _ ⟨he, hc⟩ => ⟨he, hc.below (Nat.le_refl _) (by simp)⟩
end Go.Proofs.Ythgejgfdpmbpaaa.seenOnce
