/- SpanFroms: the walk. -/
import Derived.Test.YtbnhnmfmgfoacaaSpRJoin
import Derived.Test.YtbnhnmfmgfoacaaSpRanges
import Derived.Test.YtbnhnmfmgfoacaaSpLaw
set_option linter.unusedVariables false
set_option linter.unusedSimpArgs false
namespace Go.Proofs.Ytbnhnmfmgfoacaa.spanFroms
open Go.RowKit Go.Shelf Go.Proofs.Ytbnhnmfmgfoacaa Go.Proofs.YtbnhnmfmgfoacaaW.PrintWords

theorem good_yes (w : World) (A : Option Addr) (cap : Nat) (R : List Rng) (hr : RowG w A cap R) (hl : R.length ≤ 1000) (hv : ∀ r ∈ R, okR r) (h : WF 1 R) : Calls Try.prog 25 #[.slice A R.length cap] w fun e w' => e = .returned (.bool true) ∧ Chg [] w w' :=
  (good_gen w A cap R hr hl hv).mono fun _ _ ⟨⟨b, he, hb⟩, hc⟩ => ⟨by rw [he, hb.2 h], hc⟩
theorem good_no (w : World) (A : Option Addr) (cap : Nat) (R : List Rng) (hr : RowG w A cap R) (hl : R.length ≤ 1000) (hv : ∀ r ∈ R, okR r) (h : ¬ WF 1 R) : Calls Try.prog 25 #[.slice A R.length cap] w fun e w' => e = .returned (.bool false) ∧ Chg [] w w' :=
  (good_gen w A cap R hr hl hv).mono fun _ _ ⟨⟨b, he, hb⟩, hc⟩ => ⟨by cases b with | true => exact absurd (hb.1 rfl) h | false => exact he, hc⟩
theorem from_yes (w : World) (A : Option Addr) (cap : Nat) (R : List Rng) (hr : RowG w A cap R) (hl : R.length ≤ 1000) (hv : ∀ r ∈ R, okR r) (h : WF 1 R) : Calls Try.prog 24 #[.slice A R.length cap] w fun e w' => ∃ p, e = .returned (.tuple #[.pointer (some ⟨p, 0, none⟩), .int .i64 0]) ∧ w.heap.size ≤ p ∧ SetAt w' p R ∧ Chg [] w w' :=
  (from_any w A cap R hr hl hv).mono fun _ _ ⟨hc, ho⟩ => by
    rcases ho with ⟨_, p, he, hp, hs⟩ | ⟨hno, _⟩
    · exact ⟨p, he, hp, hs, hc⟩
    · exact absurd h hno
theorem from_no (w : World) (A : Option Addr) (cap : Nat) (R : List Rng) (hr : RowG w A cap R) (hl : R.length ≤ 1000) (hv : ∀ r ∈ R, okR r) (h : ¬ WF 1 R) : Calls Try.prog 24 #[.slice A R.length cap] w fun e w' => e = .returned (.tuple #[.pointer none, .int .i64 7]) ∧ Chg [] w w' :=
  (from_any w A cap R hr hl hv).mono fun _ _ ⟨hc, ho⟩ => by
    rcases ho with ⟨hy, _⟩ | ⟨_, he⟩
    · exact absurd hy h
    · exact ⟨he, hc⟩
theorem set_copy (w W : World) (p : Nat) (R : List Rng) (h : St w W p R) (hl : R.length ≤ 1000000) :
    Calls Try.prog 23 #[.pointer (some ⟨p, 0, none⟩)] W fun e w' => ∃ q, e = .returned (.pointer (some ⟨q, 0, none⟩)) ∧ W.heap.size ≤ q ∧ St w w' q R ∧ Chg [] W w' := by
  have H := Lib.hid (ranges2_any W p R h.set_ hl)
  have HS := Lib.hid h
  obtain ⟨n, hn⟩ : ∃ n, n = R.length := ⟨_, rfl⟩
  rw [← hn] at H
  have HN := Lib.hid hn
  clear h hn
  go_enter Try.func23, Try.ntmps23
  go_wp2_with fail
  refine H.out.mono ?_
  rintro e w1 ⟨A, c, rfl, hr, hc, hA⟩
  have H1 := Lib.hid (And.intro hr (And.intro hc hA))
  clear hr hc hA
  go_wp2
  go_ret
  have hch : Chg [] W (w1.alloc (.cells #[.slice A n c, .bool true] 46)) := H1.out.2.1.alloc _
  refine ⟨_, rfl, H1.out.2.1.size, ⟨⟨A, c, ?_, H1.out.1.chg0 ((Chg.refl [] w1).alloc _), ?_⟩, HS.out.chg.trans hch, Nat.le_trans HS.out.chg.size H1.out.2.1.size⟩, hch⟩
  · have := Blk.new w1 46 #[.slice A n c, .bool true]
    rw [← HN.out]
    exact this
  · intro b hb hm
    simp at hm
    rcases H1.out.1 with ⟨h0, _⟩ | ⟨b', hb', hlt, _⟩
    · rw [h0] at hb; cases hb
    · rw [hb'] at hb
      cases hb
      omega

set_option maxRecDepth 100000 in
set_option maxHeartbeats 8000000 in
theorem core (A : Option Addr) (c : Nat) (Ra : List Rng) (A' : Option Addr) (c' : Nat) (Rb : List Rng) (n : Nat) (hn : n < M64) (W : World) (hra : RowG W A c Ra) (hva : ∀ r ∈ Ra, okR r) (hrb : RowG W A' c' Rb) (hvb : ∀ r ∈ Rb, okR r) :
    Calls Try.prog 9 #[.slice A Ra.length c, .slice A' Rb.length c', .int .u64 (n : Nat)] W fun e w' => e = .returned (.bool true) ∧ Chg [] W w' := by
  have HA := Lib.hid (And.intro hra hva)
  have HB := Lib.hid (And.intro hrb hvb)
  have HM := Lib.hid hn
  clear hra hva hrb hvb hn
  obtain ⟨la, hla⟩ : ∃ la, la = Ra.length := ⟨_, rfl⟩
  obtain ⟨lb, hlb⟩ : ∃ lb, lb = Rb.length := ⟨_, rfl⟩
  rw [← hla, ← hlb]
  have HN := Lib.hid (And.intro hla hlb)
  clear hla hlb
  by_cases h1 : 200 < la
  · have t1 : decide (200 < la) = true := decide_eq_true h1
    have t2 : decide ((200 : Int) < (la : Int)) = true := decide_eq_true (by omega)
    clear h1
    go_enter Try.func9, Try.ntmps9
    go_wp2_with fail
    refine (lives_any _).mono ?_
    rintro e wL ⟨rfl, hcL⟩
    have HL := Lib.hid hcL
    clear hcL
    go_wp2
    go_ret
    exact ⟨rfl, HL.out⟩
  have t1 : decide (200 < la) = false := decide_eq_false h1
  have t2 : decide ((200 : Int) < (la : Int)) = false := decide_eq_false (by omega)
  by_cases h2 : 200 < lb
  · have t3 : decide (200 < lb) = true := decide_eq_true h2
    have t4 : decide ((200 : Int) < (lb : Int)) = true := decide_eq_true (by omega)
    clear h1 h2
    go_enter Try.func9, Try.ntmps9
    go_wp2_with fail
    refine (lives_any _).mono ?_
    rintro e wL ⟨rfl, hcL⟩
    have HL := Lib.hid hcL
    clear hcL
    go_wp2
    go_ret
    exact ⟨rfl, HL.out⟩
  have t3 : decide (200 < lb) = false := decide_eq_false h2
  have t4 : decide ((200 : Int) < (lb : Int)) = false := decide_eq_false (by omega)
  have HLN : Hid (Ra.length ≤ 200 ∧ Rb.length ≤ 200) := Lib.hid ⟨by rw [← HN.out.1]; omega, by rw [← HN.out.2]; omega⟩
  clear h1 h2
  have HFA := Lib.hid (fun W' (h : Chg [] W W') hw => by have := from_yes W' A c Ra (HA.out.1.chg0 h) (by have := HLN.out.1; omega) HA.out.2 hw; rwa [← HN.out.1] at this)
  have HFA' := Lib.hid (fun W' (h : Chg [] W W') hw => by have := from_no W' A c Ra (HA.out.1.chg0 h) (by have := HLN.out.1; omega) HA.out.2 hw; rwa [← HN.out.1] at this)
  have HFB := Lib.hid (fun W' (h : Chg [] W W') hw => by have := from_yes W' A' c' Rb (HB.out.1.chg0 h) (by have := HLN.out.2; omega) HB.out.2 hw; rwa [← HN.out.2] at this)
  have HFB' := Lib.hid (fun W' (h : Chg [] W W') hw => by have := from_no W' A' c' Rb (HB.out.1.chg0 h) (by have := HLN.out.2; omega) HB.out.2 hw; rwa [← HN.out.2] at this)
  have HGA := Lib.hid (fun W' (h : Chg [] W W') hw => by have := good_yes W' A c Ra (HA.out.1.chg0 h) (by have := HLN.out.1; omega) HA.out.2 hw; rwa [← HN.out.1] at this)
  have HGA' := Lib.hid (fun W' (h : Chg [] W W') hw => by have := good_no W' A c Ra (HA.out.1.chg0 h) (by have := HLN.out.1; omega) HA.out.2 hw; rwa [← HN.out.1] at this)
  have HGB := Lib.hid (fun W' (h : Chg [] W W') hw => by have := good_yes W' A' c' Rb (HB.out.1.chg0 h) (by have := HLN.out.2; omega) HB.out.2 hw; rwa [← HN.out.2] at this)
  have HGB' := Lib.hid (fun W' (h : Chg [] W W') hw => by have := good_no W' A' c' Rb (HB.out.1.chg0 h) (by have := HLN.out.2; omega) HB.out.2 hw; rwa [← HN.out.2] at this)
  go_enter Try.func9, Try.ntmps9
  by_cases wa : WF 1 Ra
  · have HWA := Lib.hid wa
    clear wa
    go_wp2_with fail
    refine (HFA.out _ (Chg.refl _ _) HWA.out).mono ?_
    rintro e w1 ⟨ps, rfl, hps, hss, hc1⟩
    have H1 := Lib.hid (And.intro hss (And.intro hc1 hps))
    clear hss hc1 hps
    by_cases wb : WF 1 Rb
    · have HWB := Lib.hid wb
      clear wb
      go_wp2_with fail
      refine (HFB.out _ H1.out.2.1 HWB.out).mono ?_
      rintro e w2 ⟨pt, rfl, hpt, hst, hc2⟩
      have H2 := Lib.hid (And.intro (H1.out.1.chg hc2) (And.intro hst (And.intro (H1.out.2.1.trans hc2) (And.intro H1.out.2.2 (Nat.le_trans H1.out.2.1.size hpt)))))
      clear hpt hst hc2
      go_wp2_with fail
      refine (HGA.out _ H2.out.2.2.1 HWA.out).mono ?_
      rintro e w3 ⟨rfl, hc3⟩
      have H3 := Lib.hid (H2.out.2.2.1.trans hc3)
      have HS3 := Lib.hid (And.intro (H2.out.1.chg hc3) (H2.out.2.1.chg hc3))
      clear hc3
      go_wp2_with fail
      refine (HGB.out _ H3.out HWB.out).mono ?_
      rintro e w4 ⟨rfl, hc4⟩
      have H4 : Hid (St W w4 ps Ra ∧ St W w4 pt Rb) := Lib.hid ⟨⟨HS3.out.1.chg hc4, H3.out.trans hc4, H2.out.2.2.2.1⟩, ⟨HS3.out.2.chg hc4, H3.out.trans hc4, H2.out.2.2.2.2⟩⟩
      clear hc4 H1 H2 H3 HS3
      have HAL := Lib.hid (fun W' p (h : St W W' p Ra) => by have := alike_gen W W' p A c Ra h (HA.out.1.chg0 h.chg) (by have := HLN.out.1; omega) HWA.out; rwa [← HN.out.1] at this)
      have HRJ := Lib.hid (fun W' (h : Chg [] W W') => by have := rjoin_any W' A A' c c' Ra Rb (HA.out.1.chg0 h) (HB.out.1.chg0 h) (by have := HLN.out.1; omega) (by have := HLN.out.2; omega) HWA.out HWB.out; rwa [← HN.out.1, ← HN.out.2] at this)
      have HADD := Lib.hid (fun W' (h : Chg [] W W') => by have := radd_gen W' A c Ra n (HA.out.1.chg0 h) (by have := HLN.out.1; omega) HWA.out HM.out; rwa [← HN.out.1] at this)
      clear HFA HFA' HFB HFB' HGA HGA' HGB HGB'
      go_wp2_with fail
      refine (St.join H4.out.1 H4.out.2 HWA.out HWB.out (by have := HLN.out; omega)).mono ?_
      rintro e w5 ⟨pj, X, rfl, hpj, hsj, wfx, mx, lx, hc5⟩
      have H5 := Lib.hid (And.intro hsj (And.intro (H4.out.1.to hc5) (And.intro (H4.out.2.to hc5) (And.intro wfx (And.intro mx lx)))))
      clear hpj hsj wfx mx lx hc5
      go_wp2_with fail
      refine (HRJ.out _ H5.out.1.chg).mono ?_
      rintro e w6 ⟨A6, c6, rfl, hr6, hc6⟩
      have hX : joinP Ra Rb = X := by
        obtain ⟨g1, g2⟩ := joinP_facts Rb Ra HWA.out (fun r hr => HWB.out.mem r hr)
        exact g1.uniq H5.out.2.2.2.1 (fun i => by rw [g2, H5.out.2.2.2.2.1])
      rw [hX] at hr6 ⊢
      have H6 := Lib.hid (And.intro hr6 (And.intro (H5.out.1.to hc6) (And.intro (H5.out.2.1.to hc6) (H5.out.2.2.1.to hc6))))
      have HXL : Hid (X.length ≤ 1000000) := Lib.hid (by have := H5.out.2.2.2.2.2; have := HLN.out; omega)
      clear hr6 hc6 hX
      go_wp2_with fail
      refine (alike_gen W _ pj A6 c6 X H6.out.2.1 H6.out.1.gen HXL.out H5.out.2.2.2.1).mono ?_
      rintro e w7 ⟨rfl, hc7⟩
      have H7 := Lib.hid (And.intro (H6.out.2.1.to hc7) (And.intro (H6.out.2.2.1.to hc7) (H6.out.2.2.2.to hc7)))
      clear hc7
      go_wp2_with fail
      refine (HAL.out _ _ H7.out.2.1).mono ?_
      rintro e w8 ⟨rfl, hc8⟩
      have H8 := Lib.hid (And.intro (H7.out.1.to hc8) (And.intro (H7.out.2.1.to hc8) (H7.out.2.2.to hc8)))
      clear hc8
      obtain ⟨ma, hma⟩ : ∃ b, memR Ra n = b := ⟨_, rfl⟩
      obtain ⟨mb, hmb⟩ : ∃ b, memR Rb n = b := ⟨_, rfl⟩
      have hmx : memR X n = (ma || mb) := by rw [H5.out.2.2.2.2.1, hma, hmb]
      have HMM := Lib.hid (And.intro hma (And.intro hmb hmx))
      clear hma hmb hmx
      obtain ⟨bn, hbn⟩ : ∃ b, (decide (0 < n) && !memR Ra n) = b := ⟨_, rfl⟩
      have HBN := Lib.hid hbn
      clear hbn
      rw [HBN.out] at HADD
      go_wp2_with fail
      refine (St.has H8.out.1 n _ H5.out.2.2.2.1 HXL.out HMM.out.2.2).mono ?_
      rintro e w9 ⟨rfl, hc9, hs9⟩
      have H9 := Lib.hid (And.intro (H8.out.2.1.to hc9) (H8.out.2.2.to hc9))
      clear hc9 hs9
      go_wp2_with fail
      refine (St.has H9.out.1 n _ HWA.out (by have := HLN.out.1; omega) HMM.out.1).mono ?_
      rintro e w10 ⟨rfl, hc10, hs10⟩
      have H10 := Lib.hid (And.intro hs10 (H9.out.2.to hc10))
      clear hc10 hs10
      cases ma
      · go_wp2_with fail
        refine (St.has H10.out.2 n _ HWB.out (by have := HLN.out.2; omega) HMM.out.2.1).mono ?_
        rintro e w11 ⟨rfl, hc11, hs11⟩
        have H11 := Lib.hid (H10.out.1.to hc11)
        clear hc11 hs11
        cases mb
        · skip
          go_wp2_with fail
          refine (set_copy W _ ps Ra H11.out (by have := HLN.out.1; omega)).mono ?_
          rintro e w12 ⟨pc, rfl, hpc, hsc, hc12⟩
          have H12 := Lib.hid (And.intro hsc (And.intro (H11.out.to hc12) (show pc ≠ ps by have := H11.out.set_.lt; omega)))
          clear hpc hsc hc12
          go_wp2_with fail
          refine (HAL.out _ _ H12.out.1).mono ?_
          rintro e w13 ⟨rfl, hc13⟩
          have H13 := Lib.hid (And.intro (H12.out.1.to hc13) (H12.out.2.1.to hc13))
          clear hc13
          go_wp2_with fail
          refine (HADD.out _ H13.out.1.chg).mono ?_
          rintro e w14 ⟨A9, c9, rfl, hx, hc14⟩
          have H14 := Lib.hid (And.intro (H13.out.1.to hc14) (And.intro (H13.out.2.to hc14) hx))
          clear hc14 hx
          go_wp2_with fail
          refine (St.add H14.out.1 n _ _ HWA.out HM.out (by have := HLN.out.1; omega) HBN.out rfl).mono ?_
          rintro e w15 ⟨rfl, hs15, hc15⟩
          have H15 := Lib.hid (And.intro hs15 (H14.out.2.1.other H14.out.1 (Ne.symm H12.out.2.2) hc15))
          have hx15 : RowG w15 A9 c9 (addR Ra n) := by
            rcases H14.out.2.2 with ⟨h1, h2, h3⟩ | h
            · rw [h1, h2, h3]; exact HA.out.1.chg0 hs15.chg
            · exact (h.other H14.out.1.set_ hc15).gen
          have HX15 := Lib.hid hx15
          have HAD : Hid ((addR Ra n).length ≤ 1000000 ∧ WF 1 (addR Ra n)) := Lib.hid ⟨by have := (addR_facts HWA.out HM.out).2.2.2; have := HLN.out.1; omega, (addR_facts HWA.out HM.out).1⟩
          clear hs15 hc15 hx15
          cases bn
          all_goals
            go_wp2_with fail
            refine (alike_gen W _ pc A9 c9 (addR Ra n) H15.out.1 HX15.out HAD.out.1 HAD.out.2).mono ?_
            rintro e w16 ⟨rfl, hc16⟩
            have H16 := Lib.hid (H15.out.2.to hc16)
            clear hc16
            go_wp2_with fail
            refine (HAL.out _ _ H16.out).mono ?_
            rintro e w17 ⟨rfl, hc17⟩
            have H17 := Lib.hid (H16.out.chg.trans hc17)
            clear hc17
            go_wp2_with fail
            refine (lives_any _).mono ?_
            rintro e wL ⟨rfl, hcL⟩
            have HL := Lib.hid hcL
            clear hcL
            go_wp2
            go_ret
            exact ⟨rfl, H17.out.trans HL.out⟩
        · skip
          go_wp2_with fail
          refine (set_copy W _ ps Ra H11.out (by have := HLN.out.1; omega)).mono ?_
          rintro e w12 ⟨pc, rfl, hpc, hsc, hc12⟩
          have H12 := Lib.hid (And.intro hsc (And.intro (H11.out.to hc12) (show pc ≠ ps by have := H11.out.set_.lt; omega)))
          clear hpc hsc hc12
          go_wp2_with fail
          refine (HAL.out _ _ H12.out.1).mono ?_
          rintro e w13 ⟨rfl, hc13⟩
          have H13 := Lib.hid (And.intro (H12.out.1.to hc13) (H12.out.2.1.to hc13))
          clear hc13
          go_wp2_with fail
          refine (HADD.out _ H13.out.1.chg).mono ?_
          rintro e w14 ⟨A9, c9, rfl, hx, hc14⟩
          have H14 := Lib.hid (And.intro (H13.out.1.to hc14) (And.intro (H13.out.2.to hc14) hx))
          clear hc14 hx
          go_wp2_with fail
          refine (St.add H14.out.1 n _ _ HWA.out HM.out (by have := HLN.out.1; omega) HBN.out rfl).mono ?_
          rintro e w15 ⟨rfl, hs15, hc15⟩
          have H15 := Lib.hid (And.intro hs15 (H14.out.2.1.other H14.out.1 (Ne.symm H12.out.2.2) hc15))
          have hx15 : RowG w15 A9 c9 (addR Ra n) := by
            rcases H14.out.2.2 with ⟨h1, h2, h3⟩ | h
            · rw [h1, h2, h3]; exact HA.out.1.chg0 hs15.chg
            · exact (h.other H14.out.1.set_ hc15).gen
          have HX15 := Lib.hid hx15
          have HAD : Hid ((addR Ra n).length ≤ 1000000 ∧ WF 1 (addR Ra n)) := Lib.hid ⟨by have := (addR_facts HWA.out HM.out).2.2.2; have := HLN.out.1; omega, (addR_facts HWA.out HM.out).1⟩
          clear hs15 hc15 hx15
          cases bn
          all_goals
            go_wp2_with fail
            refine (alike_gen W _ pc A9 c9 (addR Ra n) H15.out.1 HX15.out HAD.out.1 HAD.out.2).mono ?_
            rintro e w16 ⟨rfl, hc16⟩
            have H16 := Lib.hid (H15.out.2.to hc16)
            clear hc16
            go_wp2_with fail
            refine (HAL.out _ _ H16.out).mono ?_
            rintro e w17 ⟨rfl, hc17⟩
            have H17 := Lib.hid (H16.out.chg.trans hc17)
            clear hc17
            go_wp2_with fail
            refine (lives_any _).mono ?_
            rintro e wL ⟨rfl, hcL⟩
            have HL := Lib.hid hcL
            clear hcL
            go_wp2
            go_ret
            exact ⟨rfl, H17.out.trans HL.out⟩
      · have H11 : Hid (St W w10 ps Ra) := Lib.hid H10.out.1
        go_wp2_with fail
        refine (set_copy W _ ps Ra H11.out (by have := HLN.out.1; omega)).mono ?_
        rintro e w12 ⟨pc, rfl, hpc, hsc, hc12⟩
        have H12 := Lib.hid (And.intro hsc (And.intro (H11.out.to hc12) (show pc ≠ ps by have := H11.out.set_.lt; omega)))
        clear hpc hsc hc12
        go_wp2_with fail
        refine (HAL.out _ _ H12.out.1).mono ?_
        rintro e w13 ⟨rfl, hc13⟩
        have H13 := Lib.hid (And.intro (H12.out.1.to hc13) (H12.out.2.1.to hc13))
        clear hc13
        go_wp2_with fail
        refine (HADD.out _ H13.out.1.chg).mono ?_
        rintro e w14 ⟨A9, c9, rfl, hx, hc14⟩
        have H14 := Lib.hid (And.intro (H13.out.1.to hc14) (And.intro (H13.out.2.to hc14) hx))
        clear hc14 hx
        go_wp2_with fail
        refine (St.add H14.out.1 n _ _ HWA.out HM.out (by have := HLN.out.1; omega) HBN.out rfl).mono ?_
        rintro e w15 ⟨rfl, hs15, hc15⟩
        have H15 := Lib.hid (And.intro hs15 (H14.out.2.1.other H14.out.1 (Ne.symm H12.out.2.2) hc15))
        have hx15 : RowG w15 A9 c9 (addR Ra n) := by
          rcases H14.out.2.2 with ⟨h1, h2, h3⟩ | h
          · rw [h1, h2, h3]; exact HA.out.1.chg0 hs15.chg
          · exact (h.other H14.out.1.set_ hc15).gen
        have HX15 := Lib.hid hx15
        have HAD : Hid ((addR Ra n).length ≤ 1000000 ∧ WF 1 (addR Ra n)) := Lib.hid ⟨by have := (addR_facts HWA.out HM.out).2.2.2; have := HLN.out.1; omega, (addR_facts HWA.out HM.out).1⟩
        clear hs15 hc15 hx15
        cases bn
        all_goals
          go_wp2_with fail
          refine (alike_gen W _ pc A9 c9 (addR Ra n) H15.out.1 HX15.out HAD.out.1 HAD.out.2).mono ?_
          rintro e w16 ⟨rfl, hc16⟩
          have H16 := Lib.hid (H15.out.2.to hc16)
          clear hc16
          go_wp2_with fail
          refine (HAL.out _ _ H16.out).mono ?_
          rintro e w17 ⟨rfl, hc17⟩
          have H17 := Lib.hid (H16.out.chg.trans hc17)
          clear hc17
          go_wp2_with fail
          refine (lives_any _).mono ?_
          rintro e wL ⟨rfl, hcL⟩
          have HL := Lib.hid hcL
          clear hcL
          go_wp2
          go_ret
          exact ⟨rfl, H17.out.trans HL.out⟩
    · have HWB := Lib.hid wb
      clear wb
      go_wp2_with fail
      refine (HFB'.out _ H1.out.2.1 HWB.out).mono ?_
      rintro e w2 ⟨rfl, hc2⟩
      have H2 := Lib.hid (H1.out.2.1.trans hc2)
      clear hc2
      go_wp2_with fail
      refine (HGA.out _ H2.out HWA.out).mono ?_
      rintro e w3 ⟨rfl, hc3⟩
      have H3 := Lib.hid (H2.out.trans hc3)
      clear hc3
      go_wp2_with fail
      refine (HGB'.out _ H3.out HWB.out).mono ?_
      rintro e w4 ⟨rfl, hc4⟩
      have H4 := Lib.hid (H3.out.trans hc4)
      clear hc4
      go_wp2_with fail
      refine (lives_any _).mono ?_
      rintro e wL ⟨rfl, hcL⟩
      have HL := Lib.hid hcL
      clear hcL
      go_wp2
      go_ret
      exact ⟨rfl, H4.out.trans HL.out⟩
  · have HWA := Lib.hid wa
    clear wa
    go_wp2_with fail
    refine (HFA'.out _ (Chg.refl _ _) HWA.out).mono ?_
    rintro e w1 ⟨rfl, hc1⟩
    have H1 := Lib.hid hc1
    clear hc1
    by_cases wb : WF 1 Rb
    · have HWB := Lib.hid wb
      clear wb
      go_wp2_with fail
      refine (HFB.out _ H1.out HWB.out).mono ?_
      rintro e w2 ⟨pt, rfl, hpt, hst, hc2⟩
      have H2 := Lib.hid (H1.out.trans hc2)
      clear hpt hst hc2
      go_wp2_with fail
      refine (HGA'.out _ H2.out HWA.out).mono ?_
      rintro e w3 ⟨rfl, hc3⟩
      have H3 := Lib.hid (H2.out.trans hc3)
      clear hc3
      go_wp2_with fail
      refine (HGB.out _ H3.out HWB.out).mono ?_
      rintro e w4 ⟨rfl, hc4⟩
      have H4 := Lib.hid (H3.out.trans hc4)
      clear hc4
      go_wp2_with fail
      refine (lives_any _).mono ?_
      rintro e wL ⟨rfl, hcL⟩
      have HL := Lib.hid hcL
      clear hcL
      go_wp2
      go_ret
      exact ⟨rfl, H4.out.trans HL.out⟩
    · have HWB := Lib.hid wb
      clear wb
      go_wp2_with fail
      refine (HFB'.out _ H1.out HWB.out).mono ?_
      rintro e w2 ⟨rfl, hc2⟩
      have H2 := Lib.hid (H1.out.trans hc2)
      clear hc2
      go_wp2_with fail
      refine (HGA'.out _ H2.out HWA.out).mono ?_
      rintro e w3 ⟨rfl, hc3⟩
      have H3 := Lib.hid (H2.out.trans hc3)
      clear hc3
      go_wp2_with fail
      refine (HGB'.out _ H3.out HWB.out).mono ?_
      rintro e w4 ⟨rfl, hc4⟩
      have H4 := Lib.hid (H3.out.trans hc4)
      clear hc4
      go_wp2_with fail
      refine (lives_any _).mono ?_
      rintro e wL ⟨rfl, hcL⟩
      have HL := Lib.hid hcL
      clear hcL
      go_wp2
      go_ret
      exact ⟨rfl, H4.out.trans HL.out⟩
theorem walk (A : Option Addr) (c : Nat) (Ra : List Rng) (A' : Option Addr) (c' : Nat) (Rb : List Rng) (a2 : Int) (w2 : (Lit.int .u64 a2).wf = true) (W : World) (k1 : RowG W A c Ra ∧ ∀ y ∈ Ra, okR y) (k2 : RowG W A' c' Rb ∧ ∀ y ∈ Rb, okR y) :
    Calls Try.prog 9 #[.slice A Ra.length c, .slice A' Rb.length c', .int .u64 a2] W fun e w' => e = .returned (.bool true) ∧ Below W.heap.size W w' := by
  obtain ⟨n, rfl, hn⟩ := nat_u64 w2
  exact (core A c Ra A' c' Rb n hn W k1.1 k1.2 k2.1 k2.2).mono fun _ _ ⟨he, hc⟩ => ⟨he, hc.below (Nat.le_refl _) (by simp)⟩
end Go.Proofs.Ytbnhnmfmgfoacaa.spanFroms
