/- SeenGaps: gaps, origins, and what becomes of a copy. -/
import Derived.Test.YthgejgfdpmbpaaaSnGapsP
import Derived.Test.YthgejgfdpmbpaaaSnCopy2
import Derived.Test.YthgejgfdpmbpaaaSpArgs
set_option linter.unusedVariables false
set_option linter.unusedSimpArgs false
namespace Go.Proofs.Ythgejgfdpmbpaaa.seenGaps
open Go.RowKit Go.Shelf Go.Proofs.Ythgejgfdpmbpaaa Go.Proofs.YthgejgfdpmbpaaaW.PrintWords

set_option maxRecDepth 100000 in
set_option maxHeartbeats 8000000 in
theorem core (A : Option Addr) (c : Nat) (l : List Int) (o : Int) (x : Idn) (hx : x.ok) (hw : ∀ x ∈ l, (Lit.int .u64 x).wf = true) (W : World) (hC : Kd.C (Kd.int .u64) W A l.length l) (hr : l.length * 8 ≤ 140737488351232) :
    Calls Try.prog 5 #[.slice A l.length c, .int .i64 o, .agg #[.int .i64 x.o, .int .u64 (x.n : Nat)]] W fun e w' => e = .returned (.bool true) ∧ Chg [] W w' := by
  have HC := Lib.hid hC
  have HW := Lib.hid hw
  have HX := Lib.hid hx
  clear hC hw hx
  obtain ⟨xo, xn⟩ := x
  simp only at HX ⊢
  by_cases hlen : 100 < l.length
  · go_enter Try.func5, Try.ntmps5
    go_wp2_with fail
    refine (lives_any _).mono ?_
    rintro e w' ⟨rfl, hc⟩
    have HH := Lib.hid (((Chg.refl [] W).alloc (.cells #[.int .i64 xo, .int .u64 (xn : Nat)] 25)).trans hc)
    clear hc
    go_wp2
    go_ret
    exact ⟨rfl, HH.out⟩
  obtain ⟨n, hn⟩ : ∃ n, n = l.length := ⟨_, rfl⟩
  have HN := Lib.hid hn
  rw [← hn] at hlen hr
  rw [← hn]
  clear hn
  go_enter Try.func5, Try.ntmps5
  go_wp2_with fail
  obtain ⟨WB, hWB⟩ : ∃ WB, WB = W.alloc (.cells #[.int .i64 xo, .int .u64 (xn : Nat)] 25) := ⟨_, rfl⟩
  rw [← hWB]
  have HWB : Hid (Chg [] W WB ∧ Blk WB W.heap.size 25 #[.int .i64 xo, .int .u64 (xn : Nat)]) := by
    rw [hWB]; exact Lib.hid ⟨(Chg.refl [] W).alloc _, Blk.new _ _ _⟩
  clear hWB
  refine (book_new WB WB (Chg.refl _ _)).mono ?_
  rintro e w1 ⟨f, rfl, hs⟩
  obtain ⟨bp, hbp⟩ : ∃ bp, bp = WB.heap.size := ⟨_, rfl⟩
  rw [← hbp] at hs
  rw [← hbp]
  have H1 := Lib.hid hs
  clear hs hbp
  go_wp2_with fail
  go_loopw [23, 8] (fun i s8 wr => ∃ (k fr : Nat) (R : Nat → List Rng), k ≤ n ∧ i = .int .i64 k ∧ s8 = .int .i64 fr ∧ BookSt WB wr bp f R ∧ Told R o k fr) (fun i _ _ => n - (intOf i).toNat)
  case atStart => exact ⟨0, 0, fun _ => [], Nat.zero_le _, rfl, rfl, H1.out, Told.start o⟩
  case round =>
    obtain ⟨k, fr, R, hk, rfl, rfl, hb, ht⟩ := hrel
    have hfk := ht.le
    have HB := Lib.hid (And.intro hb ht)
    clear hb ht
    by_cases hlt : k < n
    · have hkl : k < l.length := by rw [← HN.out]; exact hlt
      obtain ⟨ad, y, rfl, hy, hcell, _⟩ := u64_at HC.out HW.out hkl
      have y0 := (HWB.out.1.trans HB.out.1.chg).cell_some hcell (by simp)
      have HY := Lib.hid hy
      have i1 : (0 : Int) ≤ (k : Int) := by omega
      have i2 : (k : Int) < (n : Int) := by omega
      clear hcell hy
      have hadd := HB.out.2.add HY.out
      have hcall := book_add WB wr bp f R HB.out.1 o y HY.out HB.out.2.sound (by omega)
      have HA := Lib.hid (And.intro hadd hcall)
      clear hadd hcall
      by_cases hv : isNew R o y = true
      · rw [hv, if_pos rfl] at HA
        clear hv
        go_wp2_with fail
        refine HA.out.2.mono ?_
        rintro e w2 ⟨rfl, hs, _⟩
        have H2 := Lib.hid hs
        clear hs
        go_wp2
        go_roundw
        case rel => exact ⟨k + 1, fr + 1, _, by omega, by go_num, by go_num, H2.out, HA.out.1⟩
        case measure => simp [intOf]; omega
      · have hv' : isNew R o y = false := by simpa using hv
        rw [hv', if_neg (by simp)] at HA
        clear hv hv'
        go_wp2_with fail
        refine HA.out.2.mono ?_
        rintro e w2 ⟨rfl, hs, _⟩
        have H2 := Lib.hid hs
        clear hs
        go_wp2
        go_roundw
        case rel => exact ⟨k + 1, fr, _, by omega, by go_num, by go_num, H2.out, HA.out.1⟩
        case measure => simp [intOf]; omega
    · obtain rfl : k = n := by omega
      have hg1 := HB.out.2.gaps
      have hg2 := HB.out.2.one_
      have hgc := book_gaps WB wr bp f R HB.out.1 o HB.out.2.sound (by omega)
      obtain ⟨g, hg⟩ : ∃ g, g = gapsR (getR R o) := ⟨_, rfl⟩
      rw [← hg] at hgc hg1
      have t1 : decide ((fr : Int) < g) = false := decide_eq_false (by omega)
      have HG := Lib.hid hgc
      obtain ⟨m, hm⟩ : ∃ m, m = (orgs R).length := ⟨_, rfl⟩
      rw [← hm] at hg2
      have HM := Lib.hid hm
      obtain ⟨RC, hRC⟩ : ∃ RC, RC = copyTo R (orgs R) := ⟨_, rfl⟩
      have hgr : ∀ y, getR RC y = getR R y := fun y => by rw [hRC]; exact getR_copy R HB.out.2.sound y
      have hsC : Sound RC k := by
        rw [hRC]
        intro i
        unfold copyTo
        split
        · exact HB.out.2.sound i
        · exact ⟨trivial, Nat.zero_le _⟩
      have HE := Lib.hid (And.intro (copy_new hgr xo xn) (copy_same hgr xo o (HB.out.2.sound.get xo).1 HX.out.1))
      have hsA := hsC.add HX.out.1 xo
      have HS := Lib.hid (And.intro hsC hsA)
      have HRC := Lib.hid hRC
      clear hg hgc hm hRC hgr hsC hsA
      by_cases hf : 0 < fr
      · obtain rfl : m = 1 := hg2.2 hf
        have t2 : decide ((0 : Int) < (fr : Int)) = true := decide_eq_true (by omega)
        have t3 : decide (0 < fr) = true := decide_eq_true hf
        clear hg1 hg2 hf
        rcases six (memR (getR R xo) xn) xn xo o with hq | ⟨hq, h0⟩ | ⟨hq, h1, h2⟩ | ⟨hq, h1, h2, h3⟩ | ⟨hq, h1, h2, h3, h4⟩ | ⟨hq, h1, h2, h3, h4⟩
        · have HQ : Hid (memR (getR R xo) xn = true ∧ isNew RC xo xn = false ∧ decide (getR (addB RC xo xn) o = getR R o) = true) := by
            have e : isNew R xo xn = false := by unfold isNew; simp [hq]
            exact Lib.hid ⟨hq, HE.out.1.trans e, by rw [HE.out.2, e]; rfl⟩
          clear hq
          go_wp2_with fail
          refine HG.out.mono ?_
          rintro e w' ⟨rfl, rfl⟩
          go_wp2_with fail
          refine (origins_any WB wr bp f R HB.out.1 HB.out.2.sound (by omega)).mono ?_
          rintro e w2 ⟨A2, c2, rfl, _, hc2⟩
          rw [← HM.out]
          have H2 := Lib.hid (HB.out.1.to hc2)
          clear hc2
          go_wp2_with fail
          refine (book_copy WB w2 bp f R H2.out HB.out.2.sound (by omega)).mono ?_
          rintro e w3 ⟨cp, f3, rfl, hcb⟩
          rw [← HRC.out] at hcb
          have H3 := Lib.hid (And.intro hcb (H2.out.to hcb.chg))
          have hx3 := HWB.out.2.chg H3.out.2.chg (by simp)
          have x30 := hx3.cell 0
          have x31 := hx3.cell 1
          simp only [List.getElem?_toArray, List.getElem?_cons_succ, List.getElem?_cons_zero] at x30 x31
          clear hcb hx3
          go_wp2_with fail
          refine (book_has WB w3 bp f R H3.out.2 xo xn HB.out.2.sound (by omega)).mono ?_
          rintro e w4 ⟨rfl, hc4⟩
          rw [HQ.out.1]
          have x40 := hc4.cell_some x30 (by simp)
          have x41 := hc4.cell_some x31 (by simp)
          have H4 := Lib.hid (And.intro (H3.out.1.to hc4) (H3.out.2.to hc4))
          clear hc4
          go_wp2_with fail
          refine (book_add w2 w4 cp f3 RC H4.out.1 xo xn HX.out.1 HS.out.1 (by omega)).mono ?_
          rintro e w5 ⟨rfl, hs5, _⟩
          rw [HQ.out.2.1]
          have H5 := Lib.hid (And.intro hs5 (H2.out.to hs5.chg))
          have hx5 := HWB.out.2.chg H5.out.2.chg (by simp)
          have x50 := hx5.cell 0
          have x51 := hx5.cell 1
          simp only [List.getElem?_toArray, List.getElem?_cons_succ, List.getElem?_cons_zero] at x50 x51
          clear hs5 hx5 x30 x31 x40 x41
          go_wp2_with fail
          refine (book_has WB w5 bp f R H5.out.2 xo xn HB.out.2.sound (by omega)).mono ?_
          rintro e w6 ⟨rfl, hc6⟩
          rw [HQ.out.1]
          have x60 := hc6.cell_some x50 (by simp)
          have x61 := hc6.cell_some x51 (by simp)
          have H6 := Lib.hid (And.intro (H5.out.1.to hc6) (H5.out.2.to hc6))
          clear hc6 x50 x51
          go_wp2_with fail
          refine (book_ranges w2 w6 cp f3 _ H6.out.1 o HS.out.2 (by omega)).mono ?_
          rintro e w7 ⟨A7, c7, rfl, hr7, hc7⟩
          have H7 := Lib.hid (And.intro hr7 (And.intro hc7 (H6.out.2.to hc7)))
          clear hr7 hc7
          go_wp2_with fail
          refine (book_ranges WB w7 bp f R H7.out.2.2 o HB.out.2.sound (by omega)).mono ?_
          rintro e w8 ⟨A8, c8, rfl, hr8, hc8⟩
          have H8 := Lib.hid (And.intro hr8 (And.intro hc8 (H7.out.1.chg0 hc8)))
          clear hr8 hc8
          go_wp2_with fail
          refine (same_any w8 A7 A8 c7 c8 _ _ H8.out.2.2 H8.out.1 (by have := (HS.out.2.get o).2; omega) (by have := (HB.out.2.sound.get o).2; omega)).mono ?_
          rintro e w9 ⟨rfl, hc9⟩
          rw [HQ.out.2.2]
          have hcc := H7.out.2.1.trans (H8.out.2.1.trans hc9)
          have x90 := hcc.cell_some x60 (by simp)
          have x91 := hcc.cell_some x61 (by simp)
          have H9 := Lib.hid (H6.out.2.chg.trans hcc)
          clear hc9 hcc x60 x61
          go_wp2_with fail
          refine (lives_any _).mono ?_
          rintro e wF ⟨rfl, hcF⟩
          have HF := Lib.hid (HWB.out.1.trans (H9.out.trans hcF))
          clear hcF
          go_wp2
          go_ret
          exact ⟨rfl, HF.out⟩
        · have HQ : Hid (memR (getR R xo) xn = false ∧ isNew RC xo xn = false ∧ decide (getR (addB RC xo xn) o = getR R o) = true) := by
            have e : isNew R xo xn = false := by unfold isNew; simp [h0]
            exact Lib.hid ⟨hq, HE.out.1.trans e, by rw [HE.out.2, e]; rfl⟩
          have u1 : decide ((0 : Int) < (xn : Int)) = false := decide_eq_false (by omega)
          have u2 : decide (0 < xn) = false := decide_eq_false (by omega)
          have u3 : decide (xn = 0) = true := decide_eq_true h0
          clear hq h0
          go_wp2_with fail
          refine HG.out.mono ?_
          rintro e w' ⟨rfl, rfl⟩
          go_wp2_with fail
          refine (origins_any WB wr bp f R HB.out.1 HB.out.2.sound (by omega)).mono ?_
          rintro e w2 ⟨A2, c2, rfl, _, hc2⟩
          rw [← HM.out]
          have H2 := Lib.hid (HB.out.1.to hc2)
          clear hc2
          go_wp2_with fail
          refine (book_copy WB w2 bp f R H2.out HB.out.2.sound (by omega)).mono ?_
          rintro e w3 ⟨cp, f3, rfl, hcb⟩
          rw [← HRC.out] at hcb
          have H3 := Lib.hid (And.intro hcb (H2.out.to hcb.chg))
          have hx3 := HWB.out.2.chg H3.out.2.chg (by simp)
          have x30 := hx3.cell 0
          have x31 := hx3.cell 1
          simp only [List.getElem?_toArray, List.getElem?_cons_succ, List.getElem?_cons_zero] at x30 x31
          clear hcb hx3
          go_wp2_with fail
          refine (book_has WB w3 bp f R H3.out.2 xo xn HB.out.2.sound (by omega)).mono ?_
          rintro e w4 ⟨rfl, hc4⟩
          rw [HQ.out.1]
          have x40 := hc4.cell_some x30 (by simp)
          have x41 := hc4.cell_some x31 (by simp)
          have H4 := Lib.hid (And.intro (H3.out.1.to hc4) (H3.out.2.to hc4))
          clear hc4
          go_wp2_with fail
          refine (book_add w2 w4 cp f3 RC H4.out.1 xo xn HX.out.1 HS.out.1 (by omega)).mono ?_
          rintro e w5 ⟨rfl, hs5, _⟩
          rw [HQ.out.2.1]
          have H5 := Lib.hid (And.intro hs5 (H2.out.to hs5.chg))
          have hx5 := HWB.out.2.chg H5.out.2.chg (by simp)
          have x50 := hx5.cell 0
          have x51 := hx5.cell 1
          simp only [List.getElem?_toArray, List.getElem?_cons_succ, List.getElem?_cons_zero] at x50 x51
          clear hs5 hx5 x30 x31 x40 x41
          go_wp2_with fail
          refine (book_has WB w5 bp f R H5.out.2 xo xn HB.out.2.sound (by omega)).mono ?_
          rintro e w6 ⟨rfl, hc6⟩
          rw [HQ.out.1]
          have x60 := hc6.cell_some x50 (by simp)
          have x61 := hc6.cell_some x51 (by simp)
          have H6 := Lib.hid (And.intro (H5.out.1.to hc6) (H5.out.2.to hc6))
          clear hc6 x50 x51
          go_wp2_with fail
          refine (book_ranges w2 w6 cp f3 _ H6.out.1 o HS.out.2 (by omega)).mono ?_
          rintro e w7 ⟨A7, c7, rfl, hr7, hc7⟩
          have H7 := Lib.hid (And.intro hr7 (And.intro hc7 (H6.out.2.to hc7)))
          clear hr7 hc7
          go_wp2_with fail
          refine (book_ranges WB w7 bp f R H7.out.2.2 o HB.out.2.sound (by omega)).mono ?_
          rintro e w8 ⟨A8, c8, rfl, hr8, hc8⟩
          have H8 := Lib.hid (And.intro hr8 (And.intro hc8 (H7.out.1.chg0 hc8)))
          clear hr8 hc8
          go_wp2_with fail
          refine (same_any w8 A7 A8 c7 c8 _ _ H8.out.2.2 H8.out.1 (by have := (HS.out.2.get o).2; omega) (by have := (HB.out.2.sound.get o).2; omega)).mono ?_
          rintro e w9 ⟨rfl, hc9⟩
          rw [HQ.out.2.2]
          have hcc := H7.out.2.1.trans (H8.out.2.1.trans hc9)
          have x90 := hcc.cell_some x60 (by simp)
          have x91 := hcc.cell_some x61 (by simp)
          have H9 := Lib.hid (H6.out.2.chg.trans hcc)
          clear hc9 hcc x60 x61
          go_wp2_with fail
          refine (lives_any _).mono ?_
          rintro e wF ⟨rfl, hcF⟩
          have HF := Lib.hid (HWB.out.1.trans (H9.out.trans hcF))
          clear hcF
          go_wp2
          go_ret
          exact ⟨rfl, HF.out⟩
        · have HQ : Hid (memR (getR R xo) xn = false ∧ isNew RC xo xn = false ∧ decide (getR (addB RC xo xn) o = getR R o) = true) := by
            have e : isNew R xo xn = false := by unfold isNew; rw [decide_eq_false (by omega)]; rfl
            exact Lib.hid ⟨hq, HE.out.1.trans e, by rw [HE.out.2, e]; rfl⟩
          have u1 : decide ((0 : Int) < (xn : Int)) = true := decide_eq_true (by omega)
          have u2 : decide (0 < xn) = true := decide_eq_true h1
          have u3 : decide ((1 : Int) ≤ xo) = false := decide_eq_false (by omega)
          clear hq h1 h2
          go_wp2_with fail
          refine HG.out.mono ?_
          rintro e w' ⟨rfl, rfl⟩
          go_wp2_with fail
          refine (origins_any WB wr bp f R HB.out.1 HB.out.2.sound (by omega)).mono ?_
          rintro e w2 ⟨A2, c2, rfl, _, hc2⟩
          rw [← HM.out]
          have H2 := Lib.hid (HB.out.1.to hc2)
          clear hc2
          go_wp2_with fail
          refine (book_copy WB w2 bp f R H2.out HB.out.2.sound (by omega)).mono ?_
          rintro e w3 ⟨cp, f3, rfl, hcb⟩
          rw [← HRC.out] at hcb
          have H3 := Lib.hid (And.intro hcb (H2.out.to hcb.chg))
          have hx3 := HWB.out.2.chg H3.out.2.chg (by simp)
          have x30 := hx3.cell 0
          have x31 := hx3.cell 1
          simp only [List.getElem?_toArray, List.getElem?_cons_succ, List.getElem?_cons_zero] at x30 x31
          clear hcb hx3
          go_wp2_with fail
          refine (book_has WB w3 bp f R H3.out.2 xo xn HB.out.2.sound (by omega)).mono ?_
          rintro e w4 ⟨rfl, hc4⟩
          rw [HQ.out.1]
          have x40 := hc4.cell_some x30 (by simp)
          have x41 := hc4.cell_some x31 (by simp)
          have H4 := Lib.hid (And.intro (H3.out.1.to hc4) (H3.out.2.to hc4))
          clear hc4
          go_wp2_with fail
          refine (book_add w2 w4 cp f3 RC H4.out.1 xo xn HX.out.1 HS.out.1 (by omega)).mono ?_
          rintro e w5 ⟨rfl, hs5, _⟩
          rw [HQ.out.2.1]
          have H5 := Lib.hid (And.intro hs5 (H2.out.to hs5.chg))
          have hx5 := HWB.out.2.chg H5.out.2.chg (by simp)
          have x50 := hx5.cell 0
          have x51 := hx5.cell 1
          simp only [List.getElem?_toArray, List.getElem?_cons_succ, List.getElem?_cons_zero] at x50 x51
          clear hs5 hx5 x30 x31 x40 x41
          go_wp2_with fail
          refine (book_has WB w5 bp f R H5.out.2 xo xn HB.out.2.sound (by omega)).mono ?_
          rintro e w6 ⟨rfl, hc6⟩
          rw [HQ.out.1]
          have x60 := hc6.cell_some x50 (by simp)
          have x61 := hc6.cell_some x51 (by simp)
          have H6 := Lib.hid (And.intro (H5.out.1.to hc6) (H5.out.2.to hc6))
          clear hc6 x50 x51
          go_wp2_with fail
          refine (book_ranges w2 w6 cp f3 _ H6.out.1 o HS.out.2 (by omega)).mono ?_
          rintro e w7 ⟨A7, c7, rfl, hr7, hc7⟩
          have H7 := Lib.hid (And.intro hr7 (And.intro hc7 (H6.out.2.to hc7)))
          clear hr7 hc7
          go_wp2_with fail
          refine (book_ranges WB w7 bp f R H7.out.2.2 o HB.out.2.sound (by omega)).mono ?_
          rintro e w8 ⟨A8, c8, rfl, hr8, hc8⟩
          have H8 := Lib.hid (And.intro hr8 (And.intro hc8 (H7.out.1.chg0 hc8)))
          clear hr8 hc8
          go_wp2_with fail
          refine (same_any w8 A7 A8 c7 c8 _ _ H8.out.2.2 H8.out.1 (by have := (HS.out.2.get o).2; omega) (by have := (HB.out.2.sound.get o).2; omega)).mono ?_
          rintro e w9 ⟨rfl, hc9⟩
          rw [HQ.out.2.2]
          have hcc := H7.out.2.1.trans (H8.out.2.1.trans hc9)
          have x90 := hcc.cell_some x60 (by simp)
          have x91 := hcc.cell_some x61 (by simp)
          have H9 := Lib.hid (H6.out.2.chg.trans hcc)
          clear hc9 hcc x60 x61
          go_wp2_with fail
          refine (lives_any _).mono ?_
          rintro e wF ⟨rfl, hcF⟩
          have HF := Lib.hid (HWB.out.1.trans (H9.out.trans hcF))
          clear hcF
          go_wp2
          go_ret
          exact ⟨rfl, HF.out⟩
        · have HQ : Hid (memR (getR R xo) xn = false ∧ isNew RC xo xn = false ∧ decide (getR (addB RC xo xn) o = getR R o) = true) := by
            have e : isNew R xo xn = false := by unfold isNew; rw [decide_eq_false (by omega)]; rfl
            exact Lib.hid ⟨hq, HE.out.1.trans e, by rw [HE.out.2, e]; rfl⟩
          have u1 : decide ((0 : Int) < (xn : Int)) = true := decide_eq_true (by omega)
          have u2 : decide (0 < xn) = true := decide_eq_true h1
          have u3 : decide ((1 : Int) ≤ xo) = true := decide_eq_true (by omega)
          have u4 : decide (xo ≤ 8) = false := decide_eq_false (by omega)
          clear hq h1 h2 h3
          go_wp2_with fail
          refine HG.out.mono ?_
          rintro e w' ⟨rfl, rfl⟩
          go_wp2_with fail
          refine (origins_any WB wr bp f R HB.out.1 HB.out.2.sound (by omega)).mono ?_
          rintro e w2 ⟨A2, c2, rfl, _, hc2⟩
          rw [← HM.out]
          have H2 := Lib.hid (HB.out.1.to hc2)
          clear hc2
          go_wp2_with fail
          refine (book_copy WB w2 bp f R H2.out HB.out.2.sound (by omega)).mono ?_
          rintro e w3 ⟨cp, f3, rfl, hcb⟩
          rw [← HRC.out] at hcb
          have H3 := Lib.hid (And.intro hcb (H2.out.to hcb.chg))
          have hx3 := HWB.out.2.chg H3.out.2.chg (by simp)
          have x30 := hx3.cell 0
          have x31 := hx3.cell 1
          simp only [List.getElem?_toArray, List.getElem?_cons_succ, List.getElem?_cons_zero] at x30 x31
          clear hcb hx3
          go_wp2_with fail
          refine (book_has WB w3 bp f R H3.out.2 xo xn HB.out.2.sound (by omega)).mono ?_
          rintro e w4 ⟨rfl, hc4⟩
          rw [HQ.out.1]
          have x40 := hc4.cell_some x30 (by simp)
          have x41 := hc4.cell_some x31 (by simp)
          have H4 := Lib.hid (And.intro (H3.out.1.to hc4) (H3.out.2.to hc4))
          clear hc4
          go_wp2_with fail
          refine (book_add w2 w4 cp f3 RC H4.out.1 xo xn HX.out.1 HS.out.1 (by omega)).mono ?_
          rintro e w5 ⟨rfl, hs5, _⟩
          rw [HQ.out.2.1]
          have H5 := Lib.hid (And.intro hs5 (H2.out.to hs5.chg))
          have hx5 := HWB.out.2.chg H5.out.2.chg (by simp)
          have x50 := hx5.cell 0
          have x51 := hx5.cell 1
          simp only [List.getElem?_toArray, List.getElem?_cons_succ, List.getElem?_cons_zero] at x50 x51
          clear hs5 hx5 x30 x31 x40 x41
          go_wp2_with fail
          refine (book_has WB w5 bp f R H5.out.2 xo xn HB.out.2.sound (by omega)).mono ?_
          rintro e w6 ⟨rfl, hc6⟩
          rw [HQ.out.1]
          have x60 := hc6.cell_some x50 (by simp)
          have x61 := hc6.cell_some x51 (by simp)
          have H6 := Lib.hid (And.intro (H5.out.1.to hc6) (H5.out.2.to hc6))
          clear hc6 x50 x51
          go_wp2_with fail
          refine (book_ranges w2 w6 cp f3 _ H6.out.1 o HS.out.2 (by omega)).mono ?_
          rintro e w7 ⟨A7, c7, rfl, hr7, hc7⟩
          have H7 := Lib.hid (And.intro hr7 (And.intro hc7 (H6.out.2.to hc7)))
          clear hr7 hc7
          go_wp2_with fail
          refine (book_ranges WB w7 bp f R H7.out.2.2 o HB.out.2.sound (by omega)).mono ?_
          rintro e w8 ⟨A8, c8, rfl, hr8, hc8⟩
          have H8 := Lib.hid (And.intro hr8 (And.intro hc8 (H7.out.1.chg0 hc8)))
          clear hr8 hc8
          go_wp2_with fail
          refine (same_any w8 A7 A8 c7 c8 _ _ H8.out.2.2 H8.out.1 (by have := (HS.out.2.get o).2; omega) (by have := (HB.out.2.sound.get o).2; omega)).mono ?_
          rintro e w9 ⟨rfl, hc9⟩
          rw [HQ.out.2.2]
          have hcc := H7.out.2.1.trans (H8.out.2.1.trans hc9)
          have x90 := hcc.cell_some x60 (by simp)
          have x91 := hcc.cell_some x61 (by simp)
          have H9 := Lib.hid (H6.out.2.chg.trans hcc)
          clear hc9 hcc x60 x61
          go_wp2_with fail
          refine (lives_any _).mono ?_
          rintro e wF ⟨rfl, hcF⟩
          have HF := Lib.hid (HWB.out.1.trans (H9.out.trans hcF))
          clear hcF
          go_wp2
          go_ret
          exact ⟨rfl, HF.out⟩
        · have HQ : Hid (memR (getR R xo) xn = false ∧ isNew RC xo xn = true ∧ decide (getR (addB RC xo xn) o = getR R o) = false) := by
            have e : isNew R xo xn = true := by unfold isNew; simp [hq, h1, h2, h3]
            exact Lib.hid ⟨hq, HE.out.1.trans e, by rw [HE.out.2, e]; simp [h4]⟩
          have u1 : decide ((0 : Int) < (xn : Int)) = true := decide_eq_true (by omega)
          have u2 : decide (0 < xn) = true := decide_eq_true h1
          have u3 : decide ((1 : Int) ≤ xo) = true := decide_eq_true (by omega)
          have u4 : decide (xo ≤ 8) = true := decide_eq_true (by omega)
          have u5 : decide (xo = o) = true := decide_eq_true h4
          have u6 : (xo != o) = false := by simpa using h4
          clear hq h1 h2 h3 h4
          go_wp2_with fail
          refine HG.out.mono ?_
          rintro e w' ⟨rfl, rfl⟩
          go_wp2_with fail
          refine (origins_any WB wr bp f R HB.out.1 HB.out.2.sound (by omega)).mono ?_
          rintro e w2 ⟨A2, c2, rfl, _, hc2⟩
          rw [← HM.out]
          have H2 := Lib.hid (HB.out.1.to hc2)
          clear hc2
          go_wp2_with fail
          refine (book_copy WB w2 bp f R H2.out HB.out.2.sound (by omega)).mono ?_
          rintro e w3 ⟨cp, f3, rfl, hcb⟩
          rw [← HRC.out] at hcb
          have H3 := Lib.hid (And.intro hcb (H2.out.to hcb.chg))
          have hx3 := HWB.out.2.chg H3.out.2.chg (by simp)
          have x30 := hx3.cell 0
          have x31 := hx3.cell 1
          simp only [List.getElem?_toArray, List.getElem?_cons_succ, List.getElem?_cons_zero] at x30 x31
          clear hcb hx3
          go_wp2_with fail
          refine (book_has WB w3 bp f R H3.out.2 xo xn HB.out.2.sound (by omega)).mono ?_
          rintro e w4 ⟨rfl, hc4⟩
          rw [HQ.out.1]
          have x40 := hc4.cell_some x30 (by simp)
          have x41 := hc4.cell_some x31 (by simp)
          have H4 := Lib.hid (And.intro (H3.out.1.to hc4) (H3.out.2.to hc4))
          clear hc4
          go_wp2_with fail
          refine (book_add w2 w4 cp f3 RC H4.out.1 xo xn HX.out.1 HS.out.1 (by omega)).mono ?_
          rintro e w5 ⟨rfl, hs5, _⟩
          rw [HQ.out.2.1]
          have H5 := Lib.hid (And.intro hs5 (H2.out.to hs5.chg))
          have hx5 := HWB.out.2.chg H5.out.2.chg (by simp)
          have x50 := hx5.cell 0
          have x51 := hx5.cell 1
          simp only [List.getElem?_toArray, List.getElem?_cons_succ, List.getElem?_cons_zero] at x50 x51
          clear hs5 hx5 x30 x31 x40 x41
          go_wp2_with fail
          refine (book_has WB w5 bp f R H5.out.2 xo xn HB.out.2.sound (by omega)).mono ?_
          rintro e w6 ⟨rfl, hc6⟩
          rw [HQ.out.1]
          have x60 := hc6.cell_some x50 (by simp)
          have x61 := hc6.cell_some x51 (by simp)
          have H6 := Lib.hid (And.intro (H5.out.1.to hc6) (H5.out.2.to hc6))
          clear hc6 x50 x51
          go_wp2_with fail
          refine (book_ranges w2 w6 cp f3 _ H6.out.1 o HS.out.2 (by omega)).mono ?_
          rintro e w7 ⟨A7, c7, rfl, hr7, hc7⟩
          have H7 := Lib.hid (And.intro hr7 (And.intro hc7 (H6.out.2.to hc7)))
          clear hr7 hc7
          go_wp2_with fail
          refine (book_ranges WB w7 bp f R H7.out.2.2 o HB.out.2.sound (by omega)).mono ?_
          rintro e w8 ⟨A8, c8, rfl, hr8, hc8⟩
          have H8 := Lib.hid (And.intro hr8 (And.intro hc8 (H7.out.1.chg0 hc8)))
          clear hr8 hc8
          go_wp2_with fail
          refine (same_any w8 A7 A8 c7 c8 _ _ H8.out.2.2 H8.out.1 (by have := (HS.out.2.get o).2; omega) (by have := (HB.out.2.sound.get o).2; omega)).mono ?_
          rintro e w9 ⟨rfl, hc9⟩
          rw [HQ.out.2.2]
          have hcc := H7.out.2.1.trans (H8.out.2.1.trans hc9)
          have x90 := hcc.cell_some x60 (by simp)
          have x91 := hcc.cell_some x61 (by simp)
          have H9 := Lib.hid (H6.out.2.chg.trans hcc)
          clear hc9 hcc x60 x61
          go_wp2_with fail
          refine (lives_any _).mono ?_
          rintro e wF ⟨rfl, hcF⟩
          have HF := Lib.hid (HWB.out.1.trans (H9.out.trans hcF))
          clear hcF
          go_wp2
          go_ret
          exact ⟨rfl, HF.out⟩
        · have HQ : Hid (memR (getR R xo) xn = false ∧ isNew RC xo xn = true ∧ decide (getR (addB RC xo xn) o = getR R o) = true) := by
            have e : isNew R xo xn = true := by unfold isNew; simp [hq, h1, h2, h3]
            exact Lib.hid ⟨hq, HE.out.1.trans e, by rw [HE.out.2, e]; simp [h4]⟩
          have u1 : decide ((0 : Int) < (xn : Int)) = true := decide_eq_true (by omega)
          have u2 : decide (0 < xn) = true := decide_eq_true h1
          have u3 : decide ((1 : Int) ≤ xo) = true := decide_eq_true (by omega)
          have u4 : decide (xo ≤ 8) = true := decide_eq_true (by omega)
          have u5 : decide (xo = o) = false := decide_eq_false h4
          have u6 : (xo != o) = true := by simpa using h4
          clear hq h1 h2 h3 h4
          go_wp2_with fail
          refine HG.out.mono ?_
          rintro e w' ⟨rfl, rfl⟩
          go_wp2_with fail
          refine (origins_any WB wr bp f R HB.out.1 HB.out.2.sound (by omega)).mono ?_
          rintro e w2 ⟨A2, c2, rfl, _, hc2⟩
          rw [← HM.out]
          have H2 := Lib.hid (HB.out.1.to hc2)
          clear hc2
          go_wp2_with fail
          refine (book_copy WB w2 bp f R H2.out HB.out.2.sound (by omega)).mono ?_
          rintro e w3 ⟨cp, f3, rfl, hcb⟩
          rw [← HRC.out] at hcb
          have H3 := Lib.hid (And.intro hcb (H2.out.to hcb.chg))
          have hx3 := HWB.out.2.chg H3.out.2.chg (by simp)
          have x30 := hx3.cell 0
          have x31 := hx3.cell 1
          simp only [List.getElem?_toArray, List.getElem?_cons_succ, List.getElem?_cons_zero] at x30 x31
          clear hcb hx3
          go_wp2_with fail
          refine (book_has WB w3 bp f R H3.out.2 xo xn HB.out.2.sound (by omega)).mono ?_
          rintro e w4 ⟨rfl, hc4⟩
          rw [HQ.out.1]
          have x40 := hc4.cell_some x30 (by simp)
          have x41 := hc4.cell_some x31 (by simp)
          have H4 := Lib.hid (And.intro (H3.out.1.to hc4) (H3.out.2.to hc4))
          clear hc4
          go_wp2_with fail
          refine (book_add w2 w4 cp f3 RC H4.out.1 xo xn HX.out.1 HS.out.1 (by omega)).mono ?_
          rintro e w5 ⟨rfl, hs5, _⟩
          rw [HQ.out.2.1]
          have H5 := Lib.hid (And.intro hs5 (H2.out.to hs5.chg))
          have hx5 := HWB.out.2.chg H5.out.2.chg (by simp)
          have x50 := hx5.cell 0
          have x51 := hx5.cell 1
          simp only [List.getElem?_toArray, List.getElem?_cons_succ, List.getElem?_cons_zero] at x50 x51
          clear hs5 hx5 x30 x31 x40 x41
          go_wp2_with fail
          refine (book_has WB w5 bp f R H5.out.2 xo xn HB.out.2.sound (by omega)).mono ?_
          rintro e w6 ⟨rfl, hc6⟩
          rw [HQ.out.1]
          have x60 := hc6.cell_some x50 (by simp)
          have x61 := hc6.cell_some x51 (by simp)
          have H6 := Lib.hid (And.intro (H5.out.1.to hc6) (H5.out.2.to hc6))
          clear hc6 x50 x51
          go_wp2_with fail
          refine (book_ranges w2 w6 cp f3 _ H6.out.1 o HS.out.2 (by omega)).mono ?_
          rintro e w7 ⟨A7, c7, rfl, hr7, hc7⟩
          have H7 := Lib.hid (And.intro hr7 (And.intro hc7 (H6.out.2.to hc7)))
          clear hr7 hc7
          go_wp2_with fail
          refine (book_ranges WB w7 bp f R H7.out.2.2 o HB.out.2.sound (by omega)).mono ?_
          rintro e w8 ⟨A8, c8, rfl, hr8, hc8⟩
          have H8 := Lib.hid (And.intro hr8 (And.intro hc8 (H7.out.1.chg0 hc8)))
          clear hr8 hc8
          go_wp2_with fail
          refine (same_any w8 A7 A8 c7 c8 _ _ H8.out.2.2 H8.out.1 (by have := (HS.out.2.get o).2; omega) (by have := (HB.out.2.sound.get o).2; omega)).mono ?_
          rintro e w9 ⟨rfl, hc9⟩
          rw [HQ.out.2.2]
          have hcc := H7.out.2.1.trans (H8.out.2.1.trans hc9)
          have x90 := hcc.cell_some x60 (by simp)
          have x91 := hcc.cell_some x61 (by simp)
          have H9 := Lib.hid (H6.out.2.chg.trans hcc)
          clear hc9 hcc x60 x61
          go_wp2_with fail
          refine (lives_any _).mono ?_
          rintro e wF ⟨rfl, hcF⟩
          have HF := Lib.hid (HWB.out.1.trans (H9.out.trans hcF))
          clear hcF
          go_wp2
          go_ret
          exact ⟨rfl, HF.out⟩
      · have u7 : decide ((0 : Int) < (fr : Int)) = false := decide_eq_false (by omega)
        have u8 : decide (0 < fr) = false := decide_eq_false hf
        have hm1 : m ≠ 1 := fun e => hf (hg2.1 e)
        have t2 : decide ((m : Int) = 1) = false := decide_eq_false (by omega)
        have t3 : decide (m = 1) = false := decide_eq_false hm1
        clear hg1 hg2 hf
        rcases six (memR (getR R xo) xn) xn xo o with hq | ⟨hq, h0⟩ | ⟨hq, h1, h2⟩ | ⟨hq, h1, h2, h3⟩ | ⟨hq, h1, h2, h3, h4⟩ | ⟨hq, h1, h2, h3, h4⟩
        · have HQ : Hid (memR (getR R xo) xn = true ∧ isNew RC xo xn = false ∧ decide (getR (addB RC xo xn) o = getR R o) = true) := by
            have e : isNew R xo xn = false := by unfold isNew; simp [hq]
            exact Lib.hid ⟨hq, HE.out.1.trans e, by rw [HE.out.2, e]; rfl⟩
          clear hq
          go_wp2_with fail
          refine HG.out.mono ?_
          rintro e w' ⟨rfl, rfl⟩
          go_wp2_with fail
          refine (origins_any WB wr bp f R HB.out.1 HB.out.2.sound (by omega)).mono ?_
          rintro e w2 ⟨A2, c2, rfl, _, hc2⟩
          rw [← HM.out]
          have H2 := Lib.hid (HB.out.1.to hc2)
          clear hc2
          go_wp2_with fail
          refine (book_copy WB w2 bp f R H2.out HB.out.2.sound (by omega)).mono ?_
          rintro e w3 ⟨cp, f3, rfl, hcb⟩
          rw [← HRC.out] at hcb
          have H3 := Lib.hid (And.intro hcb (H2.out.to hcb.chg))
          have hx3 := HWB.out.2.chg H3.out.2.chg (by simp)
          have x30 := hx3.cell 0
          have x31 := hx3.cell 1
          simp only [List.getElem?_toArray, List.getElem?_cons_succ, List.getElem?_cons_zero] at x30 x31
          clear hcb hx3
          go_wp2_with fail
          refine (book_has WB w3 bp f R H3.out.2 xo xn HB.out.2.sound (by omega)).mono ?_
          rintro e w4 ⟨rfl, hc4⟩
          rw [HQ.out.1]
          have x40 := hc4.cell_some x30 (by simp)
          have x41 := hc4.cell_some x31 (by simp)
          have H4 := Lib.hid (And.intro (H3.out.1.to hc4) (H3.out.2.to hc4))
          clear hc4
          go_wp2_with fail
          refine (book_add w2 w4 cp f3 RC H4.out.1 xo xn HX.out.1 HS.out.1 (by omega)).mono ?_
          rintro e w5 ⟨rfl, hs5, _⟩
          rw [HQ.out.2.1]
          have H5 := Lib.hid (And.intro hs5 (H2.out.to hs5.chg))
          have hx5 := HWB.out.2.chg H5.out.2.chg (by simp)
          have x50 := hx5.cell 0
          have x51 := hx5.cell 1
          simp only [List.getElem?_toArray, List.getElem?_cons_succ, List.getElem?_cons_zero] at x50 x51
          clear hs5 hx5 x30 x31 x40 x41
          go_wp2_with fail
          refine (book_has WB w5 bp f R H5.out.2 xo xn HB.out.2.sound (by omega)).mono ?_
          rintro e w6 ⟨rfl, hc6⟩
          rw [HQ.out.1]
          have x60 := hc6.cell_some x50 (by simp)
          have x61 := hc6.cell_some x51 (by simp)
          have H6 := Lib.hid (And.intro (H5.out.1.to hc6) (H5.out.2.to hc6))
          clear hc6 x50 x51
          go_wp2_with fail
          refine (book_ranges w2 w6 cp f3 _ H6.out.1 o HS.out.2 (by omega)).mono ?_
          rintro e w7 ⟨A7, c7, rfl, hr7, hc7⟩
          have H7 := Lib.hid (And.intro hr7 (And.intro hc7 (H6.out.2.to hc7)))
          clear hr7 hc7
          go_wp2_with fail
          refine (book_ranges WB w7 bp f R H7.out.2.2 o HB.out.2.sound (by omega)).mono ?_
          rintro e w8 ⟨A8, c8, rfl, hr8, hc8⟩
          have H8 := Lib.hid (And.intro hr8 (And.intro hc8 (H7.out.1.chg0 hc8)))
          clear hr8 hc8
          go_wp2_with fail
          refine (same_any w8 A7 A8 c7 c8 _ _ H8.out.2.2 H8.out.1 (by have := (HS.out.2.get o).2; omega) (by have := (HB.out.2.sound.get o).2; omega)).mono ?_
          rintro e w9 ⟨rfl, hc9⟩
          rw [HQ.out.2.2]
          have hcc := H7.out.2.1.trans (H8.out.2.1.trans hc9)
          have x90 := hcc.cell_some x60 (by simp)
          have x91 := hcc.cell_some x61 (by simp)
          have H9 := Lib.hid (H6.out.2.chg.trans hcc)
          clear hc9 hcc x60 x61
          go_wp2_with fail
          refine (lives_any _).mono ?_
          rintro e wF ⟨rfl, hcF⟩
          have HF := Lib.hid (HWB.out.1.trans (H9.out.trans hcF))
          clear hcF
          go_wp2
          go_ret
          exact ⟨rfl, HF.out⟩
        · have HQ : Hid (memR (getR R xo) xn = false ∧ isNew RC xo xn = false ∧ decide (getR (addB RC xo xn) o = getR R o) = true) := by
            have e : isNew R xo xn = false := by unfold isNew; simp [h0]
            exact Lib.hid ⟨hq, HE.out.1.trans e, by rw [HE.out.2, e]; rfl⟩
          have u1 : decide ((0 : Int) < (xn : Int)) = false := decide_eq_false (by omega)
          have u2 : decide (0 < xn) = false := decide_eq_false (by omega)
          have u3 : decide (xn = 0) = true := decide_eq_true h0
          clear hq h0
          go_wp2_with fail
          refine HG.out.mono ?_
          rintro e w' ⟨rfl, rfl⟩
          go_wp2_with fail
          refine (origins_any WB wr bp f R HB.out.1 HB.out.2.sound (by omega)).mono ?_
          rintro e w2 ⟨A2, c2, rfl, _, hc2⟩
          rw [← HM.out]
          have H2 := Lib.hid (HB.out.1.to hc2)
          clear hc2
          go_wp2_with fail
          refine (book_copy WB w2 bp f R H2.out HB.out.2.sound (by omega)).mono ?_
          rintro e w3 ⟨cp, f3, rfl, hcb⟩
          rw [← HRC.out] at hcb
          have H3 := Lib.hid (And.intro hcb (H2.out.to hcb.chg))
          have hx3 := HWB.out.2.chg H3.out.2.chg (by simp)
          have x30 := hx3.cell 0
          have x31 := hx3.cell 1
          simp only [List.getElem?_toArray, List.getElem?_cons_succ, List.getElem?_cons_zero] at x30 x31
          clear hcb hx3
          go_wp2_with fail
          refine (book_has WB w3 bp f R H3.out.2 xo xn HB.out.2.sound (by omega)).mono ?_
          rintro e w4 ⟨rfl, hc4⟩
          rw [HQ.out.1]
          have x40 := hc4.cell_some x30 (by simp)
          have x41 := hc4.cell_some x31 (by simp)
          have H4 := Lib.hid (And.intro (H3.out.1.to hc4) (H3.out.2.to hc4))
          clear hc4
          go_wp2_with fail
          refine (book_add w2 w4 cp f3 RC H4.out.1 xo xn HX.out.1 HS.out.1 (by omega)).mono ?_
          rintro e w5 ⟨rfl, hs5, _⟩
          rw [HQ.out.2.1]
          have H5 := Lib.hid (And.intro hs5 (H2.out.to hs5.chg))
          have hx5 := HWB.out.2.chg H5.out.2.chg (by simp)
          have x50 := hx5.cell 0
          have x51 := hx5.cell 1
          simp only [List.getElem?_toArray, List.getElem?_cons_succ, List.getElem?_cons_zero] at x50 x51
          clear hs5 hx5 x30 x31 x40 x41
          go_wp2_with fail
          refine (book_has WB w5 bp f R H5.out.2 xo xn HB.out.2.sound (by omega)).mono ?_
          rintro e w6 ⟨rfl, hc6⟩
          rw [HQ.out.1]
          have x60 := hc6.cell_some x50 (by simp)
          have x61 := hc6.cell_some x51 (by simp)
          have H6 := Lib.hid (And.intro (H5.out.1.to hc6) (H5.out.2.to hc6))
          clear hc6 x50 x51
          go_wp2_with fail
          refine (book_ranges w2 w6 cp f3 _ H6.out.1 o HS.out.2 (by omega)).mono ?_
          rintro e w7 ⟨A7, c7, rfl, hr7, hc7⟩
          have H7 := Lib.hid (And.intro hr7 (And.intro hc7 (H6.out.2.to hc7)))
          clear hr7 hc7
          go_wp2_with fail
          refine (book_ranges WB w7 bp f R H7.out.2.2 o HB.out.2.sound (by omega)).mono ?_
          rintro e w8 ⟨A8, c8, rfl, hr8, hc8⟩
          have H8 := Lib.hid (And.intro hr8 (And.intro hc8 (H7.out.1.chg0 hc8)))
          clear hr8 hc8
          go_wp2_with fail
          refine (same_any w8 A7 A8 c7 c8 _ _ H8.out.2.2 H8.out.1 (by have := (HS.out.2.get o).2; omega) (by have := (HB.out.2.sound.get o).2; omega)).mono ?_
          rintro e w9 ⟨rfl, hc9⟩
          rw [HQ.out.2.2]
          have hcc := H7.out.2.1.trans (H8.out.2.1.trans hc9)
          have x90 := hcc.cell_some x60 (by simp)
          have x91 := hcc.cell_some x61 (by simp)
          have H9 := Lib.hid (H6.out.2.chg.trans hcc)
          clear hc9 hcc x60 x61
          go_wp2_with fail
          refine (lives_any _).mono ?_
          rintro e wF ⟨rfl, hcF⟩
          have HF := Lib.hid (HWB.out.1.trans (H9.out.trans hcF))
          clear hcF
          go_wp2
          go_ret
          exact ⟨rfl, HF.out⟩
        · have HQ : Hid (memR (getR R xo) xn = false ∧ isNew RC xo xn = false ∧ decide (getR (addB RC xo xn) o = getR R o) = true) := by
            have e : isNew R xo xn = false := by unfold isNew; rw [decide_eq_false (by omega)]; rfl
            exact Lib.hid ⟨hq, HE.out.1.trans e, by rw [HE.out.2, e]; rfl⟩
          have u1 : decide ((0 : Int) < (xn : Int)) = true := decide_eq_true (by omega)
          have u2 : decide (0 < xn) = true := decide_eq_true h1
          have u3 : decide ((1 : Int) ≤ xo) = false := decide_eq_false (by omega)
          clear hq h1 h2
          go_wp2_with fail
          refine HG.out.mono ?_
          rintro e w' ⟨rfl, rfl⟩
          go_wp2_with fail
          refine (origins_any WB wr bp f R HB.out.1 HB.out.2.sound (by omega)).mono ?_
          rintro e w2 ⟨A2, c2, rfl, _, hc2⟩
          rw [← HM.out]
          have H2 := Lib.hid (HB.out.1.to hc2)
          clear hc2
          go_wp2_with fail
          refine (book_copy WB w2 bp f R H2.out HB.out.2.sound (by omega)).mono ?_
          rintro e w3 ⟨cp, f3, rfl, hcb⟩
          rw [← HRC.out] at hcb
          have H3 := Lib.hid (And.intro hcb (H2.out.to hcb.chg))
          have hx3 := HWB.out.2.chg H3.out.2.chg (by simp)
          have x30 := hx3.cell 0
          have x31 := hx3.cell 1
          simp only [List.getElem?_toArray, List.getElem?_cons_succ, List.getElem?_cons_zero] at x30 x31
          clear hcb hx3
          go_wp2_with fail
          refine (book_has WB w3 bp f R H3.out.2 xo xn HB.out.2.sound (by omega)).mono ?_
          rintro e w4 ⟨rfl, hc4⟩
          rw [HQ.out.1]
          have x40 := hc4.cell_some x30 (by simp)
          have x41 := hc4.cell_some x31 (by simp)
          have H4 := Lib.hid (And.intro (H3.out.1.to hc4) (H3.out.2.to hc4))
          clear hc4
          go_wp2_with fail
          refine (book_add w2 w4 cp f3 RC H4.out.1 xo xn HX.out.1 HS.out.1 (by omega)).mono ?_
          rintro e w5 ⟨rfl, hs5, _⟩
          rw [HQ.out.2.1]
          have H5 := Lib.hid (And.intro hs5 (H2.out.to hs5.chg))
          have hx5 := HWB.out.2.chg H5.out.2.chg (by simp)
          have x50 := hx5.cell 0
          have x51 := hx5.cell 1
          simp only [List.getElem?_toArray, List.getElem?_cons_succ, List.getElem?_cons_zero] at x50 x51
          clear hs5 hx5 x30 x31 x40 x41
          go_wp2_with fail
          refine (book_has WB w5 bp f R H5.out.2 xo xn HB.out.2.sound (by omega)).mono ?_
          rintro e w6 ⟨rfl, hc6⟩
          rw [HQ.out.1]
          have x60 := hc6.cell_some x50 (by simp)
          have x61 := hc6.cell_some x51 (by simp)
          have H6 := Lib.hid (And.intro (H5.out.1.to hc6) (H5.out.2.to hc6))
          clear hc6 x50 x51
          go_wp2_with fail
          refine (book_ranges w2 w6 cp f3 _ H6.out.1 o HS.out.2 (by omega)).mono ?_
          rintro e w7 ⟨A7, c7, rfl, hr7, hc7⟩
          have H7 := Lib.hid (And.intro hr7 (And.intro hc7 (H6.out.2.to hc7)))
          clear hr7 hc7
          go_wp2_with fail
          refine (book_ranges WB w7 bp f R H7.out.2.2 o HB.out.2.sound (by omega)).mono ?_
          rintro e w8 ⟨A8, c8, rfl, hr8, hc8⟩
          have H8 := Lib.hid (And.intro hr8 (And.intro hc8 (H7.out.1.chg0 hc8)))
          clear hr8 hc8
          go_wp2_with fail
          refine (same_any w8 A7 A8 c7 c8 _ _ H8.out.2.2 H8.out.1 (by have := (HS.out.2.get o).2; omega) (by have := (HB.out.2.sound.get o).2; omega)).mono ?_
          rintro e w9 ⟨rfl, hc9⟩
          rw [HQ.out.2.2]
          have hcc := H7.out.2.1.trans (H8.out.2.1.trans hc9)
          have x90 := hcc.cell_some x60 (by simp)
          have x91 := hcc.cell_some x61 (by simp)
          have H9 := Lib.hid (H6.out.2.chg.trans hcc)
          clear hc9 hcc x60 x61
          go_wp2_with fail
          refine (lives_any _).mono ?_
          rintro e wF ⟨rfl, hcF⟩
          have HF := Lib.hid (HWB.out.1.trans (H9.out.trans hcF))
          clear hcF
          go_wp2
          go_ret
          exact ⟨rfl, HF.out⟩
        · have HQ : Hid (memR (getR R xo) xn = false ∧ isNew RC xo xn = false ∧ decide (getR (addB RC xo xn) o = getR R o) = true) := by
            have e : isNew R xo xn = false := by unfold isNew; rw [decide_eq_false (by omega)]; rfl
            exact Lib.hid ⟨hq, HE.out.1.trans e, by rw [HE.out.2, e]; rfl⟩
          have u1 : decide ((0 : Int) < (xn : Int)) = true := decide_eq_true (by omega)
          have u2 : decide (0 < xn) = true := decide_eq_true h1
          have u3 : decide ((1 : Int) ≤ xo) = true := decide_eq_true (by omega)
          have u4 : decide (xo ≤ 8) = false := decide_eq_false (by omega)
          clear hq h1 h2 h3
          go_wp2_with fail
          refine HG.out.mono ?_
          rintro e w' ⟨rfl, rfl⟩
          go_wp2_with fail
          refine (origins_any WB wr bp f R HB.out.1 HB.out.2.sound (by omega)).mono ?_
          rintro e w2 ⟨A2, c2, rfl, _, hc2⟩
          rw [← HM.out]
          have H2 := Lib.hid (HB.out.1.to hc2)
          clear hc2
          go_wp2_with fail
          refine (book_copy WB w2 bp f R H2.out HB.out.2.sound (by omega)).mono ?_
          rintro e w3 ⟨cp, f3, rfl, hcb⟩
          rw [← HRC.out] at hcb
          have H3 := Lib.hid (And.intro hcb (H2.out.to hcb.chg))
          have hx3 := HWB.out.2.chg H3.out.2.chg (by simp)
          have x30 := hx3.cell 0
          have x31 := hx3.cell 1
          simp only [List.getElem?_toArray, List.getElem?_cons_succ, List.getElem?_cons_zero] at x30 x31
          clear hcb hx3
          go_wp2_with fail
          refine (book_has WB w3 bp f R H3.out.2 xo xn HB.out.2.sound (by omega)).mono ?_
          rintro e w4 ⟨rfl, hc4⟩
          rw [HQ.out.1]
          have x40 := hc4.cell_some x30 (by simp)
          have x41 := hc4.cell_some x31 (by simp)
          have H4 := Lib.hid (And.intro (H3.out.1.to hc4) (H3.out.2.to hc4))
          clear hc4
          go_wp2_with fail
          refine (book_add w2 w4 cp f3 RC H4.out.1 xo xn HX.out.1 HS.out.1 (by omega)).mono ?_
          rintro e w5 ⟨rfl, hs5, _⟩
          rw [HQ.out.2.1]
          have H5 := Lib.hid (And.intro hs5 (H2.out.to hs5.chg))
          have hx5 := HWB.out.2.chg H5.out.2.chg (by simp)
          have x50 := hx5.cell 0
          have x51 := hx5.cell 1
          simp only [List.getElem?_toArray, List.getElem?_cons_succ, List.getElem?_cons_zero] at x50 x51
          clear hs5 hx5 x30 x31 x40 x41
          go_wp2_with fail
          refine (book_has WB w5 bp f R H5.out.2 xo xn HB.out.2.sound (by omega)).mono ?_
          rintro e w6 ⟨rfl, hc6⟩
          rw [HQ.out.1]
          have x60 := hc6.cell_some x50 (by simp)
          have x61 := hc6.cell_some x51 (by simp)
          have H6 := Lib.hid (And.intro (H5.out.1.to hc6) (H5.out.2.to hc6))
          clear hc6 x50 x51
          go_wp2_with fail
          refine (book_ranges w2 w6 cp f3 _ H6.out.1 o HS.out.2 (by omega)).mono ?_
          rintro e w7 ⟨A7, c7, rfl, hr7, hc7⟩
          have H7 := Lib.hid (And.intro hr7 (And.intro hc7 (H6.out.2.to hc7)))
          clear hr7 hc7
          go_wp2_with fail
          refine (book_ranges WB w7 bp f R H7.out.2.2 o HB.out.2.sound (by omega)).mono ?_
          rintro e w8 ⟨A8, c8, rfl, hr8, hc8⟩
          have H8 := Lib.hid (And.intro hr8 (And.intro hc8 (H7.out.1.chg0 hc8)))
          clear hr8 hc8
          go_wp2_with fail
          refine (same_any w8 A7 A8 c7 c8 _ _ H8.out.2.2 H8.out.1 (by have := (HS.out.2.get o).2; omega) (by have := (HB.out.2.sound.get o).2; omega)).mono ?_
          rintro e w9 ⟨rfl, hc9⟩
          rw [HQ.out.2.2]
          have hcc := H7.out.2.1.trans (H8.out.2.1.trans hc9)
          have x90 := hcc.cell_some x60 (by simp)
          have x91 := hcc.cell_some x61 (by simp)
          have H9 := Lib.hid (H6.out.2.chg.trans hcc)
          clear hc9 hcc x60 x61
          go_wp2_with fail
          refine (lives_any _).mono ?_
          rintro e wF ⟨rfl, hcF⟩
          have HF := Lib.hid (HWB.out.1.trans (H9.out.trans hcF))
          clear hcF
          go_wp2
          go_ret
          exact ⟨rfl, HF.out⟩
        · have HQ : Hid (memR (getR R xo) xn = false ∧ isNew RC xo xn = true ∧ decide (getR (addB RC xo xn) o = getR R o) = false) := by
            have e : isNew R xo xn = true := by unfold isNew; simp [hq, h1, h2, h3]
            exact Lib.hid ⟨hq, HE.out.1.trans e, by rw [HE.out.2, e]; simp [h4]⟩
          have u1 : decide ((0 : Int) < (xn : Int)) = true := decide_eq_true (by omega)
          have u2 : decide (0 < xn) = true := decide_eq_true h1
          have u3 : decide ((1 : Int) ≤ xo) = true := decide_eq_true (by omega)
          have u4 : decide (xo ≤ 8) = true := decide_eq_true (by omega)
          have u5 : decide (xo = o) = true := decide_eq_true h4
          have u6 : (xo != o) = false := by simpa using h4
          clear hq h1 h2 h3 h4
          go_wp2_with fail
          refine HG.out.mono ?_
          rintro e w' ⟨rfl, rfl⟩
          go_wp2_with fail
          refine (origins_any WB wr bp f R HB.out.1 HB.out.2.sound (by omega)).mono ?_
          rintro e w2 ⟨A2, c2, rfl, _, hc2⟩
          rw [← HM.out]
          have H2 := Lib.hid (HB.out.1.to hc2)
          clear hc2
          go_wp2_with fail
          refine (book_copy WB w2 bp f R H2.out HB.out.2.sound (by omega)).mono ?_
          rintro e w3 ⟨cp, f3, rfl, hcb⟩
          rw [← HRC.out] at hcb
          have H3 := Lib.hid (And.intro hcb (H2.out.to hcb.chg))
          have hx3 := HWB.out.2.chg H3.out.2.chg (by simp)
          have x30 := hx3.cell 0
          have x31 := hx3.cell 1
          simp only [List.getElem?_toArray, List.getElem?_cons_succ, List.getElem?_cons_zero] at x30 x31
          clear hcb hx3
          go_wp2_with fail
          refine (book_has WB w3 bp f R H3.out.2 xo xn HB.out.2.sound (by omega)).mono ?_
          rintro e w4 ⟨rfl, hc4⟩
          rw [HQ.out.1]
          have x40 := hc4.cell_some x30 (by simp)
          have x41 := hc4.cell_some x31 (by simp)
          have H4 := Lib.hid (And.intro (H3.out.1.to hc4) (H3.out.2.to hc4))
          clear hc4
          go_wp2_with fail
          refine (book_add w2 w4 cp f3 RC H4.out.1 xo xn HX.out.1 HS.out.1 (by omega)).mono ?_
          rintro e w5 ⟨rfl, hs5, _⟩
          rw [HQ.out.2.1]
          have H5 := Lib.hid (And.intro hs5 (H2.out.to hs5.chg))
          have hx5 := HWB.out.2.chg H5.out.2.chg (by simp)
          have x50 := hx5.cell 0
          have x51 := hx5.cell 1
          simp only [List.getElem?_toArray, List.getElem?_cons_succ, List.getElem?_cons_zero] at x50 x51
          clear hs5 hx5 x30 x31 x40 x41
          go_wp2_with fail
          refine (book_has WB w5 bp f R H5.out.2 xo xn HB.out.2.sound (by omega)).mono ?_
          rintro e w6 ⟨rfl, hc6⟩
          rw [HQ.out.1]
          have x60 := hc6.cell_some x50 (by simp)
          have x61 := hc6.cell_some x51 (by simp)
          have H6 := Lib.hid (And.intro (H5.out.1.to hc6) (H5.out.2.to hc6))
          clear hc6 x50 x51
          go_wp2_with fail
          refine (book_ranges w2 w6 cp f3 _ H6.out.1 o HS.out.2 (by omega)).mono ?_
          rintro e w7 ⟨A7, c7, rfl, hr7, hc7⟩
          have H7 := Lib.hid (And.intro hr7 (And.intro hc7 (H6.out.2.to hc7)))
          clear hr7 hc7
          go_wp2_with fail
          refine (book_ranges WB w7 bp f R H7.out.2.2 o HB.out.2.sound (by omega)).mono ?_
          rintro e w8 ⟨A8, c8, rfl, hr8, hc8⟩
          have H8 := Lib.hid (And.intro hr8 (And.intro hc8 (H7.out.1.chg0 hc8)))
          clear hr8 hc8
          go_wp2_with fail
          refine (same_any w8 A7 A8 c7 c8 _ _ H8.out.2.2 H8.out.1 (by have := (HS.out.2.get o).2; omega) (by have := (HB.out.2.sound.get o).2; omega)).mono ?_
          rintro e w9 ⟨rfl, hc9⟩
          rw [HQ.out.2.2]
          have hcc := H7.out.2.1.trans (H8.out.2.1.trans hc9)
          have x90 := hcc.cell_some x60 (by simp)
          have x91 := hcc.cell_some x61 (by simp)
          have H9 := Lib.hid (H6.out.2.chg.trans hcc)
          clear hc9 hcc x60 x61
          go_wp2_with fail
          refine (lives_any _).mono ?_
          rintro e wF ⟨rfl, hcF⟩
          have HF := Lib.hid (HWB.out.1.trans (H9.out.trans hcF))
          clear hcF
          go_wp2
          go_ret
          exact ⟨rfl, HF.out⟩
        · have HQ : Hid (memR (getR R xo) xn = false ∧ isNew RC xo xn = true ∧ decide (getR (addB RC xo xn) o = getR R o) = true) := by
            have e : isNew R xo xn = true := by unfold isNew; simp [hq, h1, h2, h3]
            exact Lib.hid ⟨hq, HE.out.1.trans e, by rw [HE.out.2, e]; simp [h4]⟩
          have u1 : decide ((0 : Int) < (xn : Int)) = true := decide_eq_true (by omega)
          have u2 : decide (0 < xn) = true := decide_eq_true h1
          have u3 : decide ((1 : Int) ≤ xo) = true := decide_eq_true (by omega)
          have u4 : decide (xo ≤ 8) = true := decide_eq_true (by omega)
          have u5 : decide (xo = o) = false := decide_eq_false h4
          have u6 : (xo != o) = true := by simpa using h4
          clear hq h1 h2 h3 h4
          go_wp2_with fail
          refine HG.out.mono ?_
          rintro e w' ⟨rfl, rfl⟩
          go_wp2_with fail
          refine (origins_any WB wr bp f R HB.out.1 HB.out.2.sound (by omega)).mono ?_
          rintro e w2 ⟨A2, c2, rfl, _, hc2⟩
          rw [← HM.out]
          have H2 := Lib.hid (HB.out.1.to hc2)
          clear hc2
          go_wp2_with fail
          refine (book_copy WB w2 bp f R H2.out HB.out.2.sound (by omega)).mono ?_
          rintro e w3 ⟨cp, f3, rfl, hcb⟩
          rw [← HRC.out] at hcb
          have H3 := Lib.hid (And.intro hcb (H2.out.to hcb.chg))
          have hx3 := HWB.out.2.chg H3.out.2.chg (by simp)
          have x30 := hx3.cell 0
          have x31 := hx3.cell 1
          simp only [List.getElem?_toArray, List.getElem?_cons_succ, List.getElem?_cons_zero] at x30 x31
          clear hcb hx3
          go_wp2_with fail
          refine (book_has WB w3 bp f R H3.out.2 xo xn HB.out.2.sound (by omega)).mono ?_
          rintro e w4 ⟨rfl, hc4⟩
          rw [HQ.out.1]
          have x40 := hc4.cell_some x30 (by simp)
          have x41 := hc4.cell_some x31 (by simp)
          have H4 := Lib.hid (And.intro (H3.out.1.to hc4) (H3.out.2.to hc4))
          clear hc4
          go_wp2_with fail
          refine (book_add w2 w4 cp f3 RC H4.out.1 xo xn HX.out.1 HS.out.1 (by omega)).mono ?_
          rintro e w5 ⟨rfl, hs5, _⟩
          rw [HQ.out.2.1]
          have H5 := Lib.hid (And.intro hs5 (H2.out.to hs5.chg))
          have hx5 := HWB.out.2.chg H5.out.2.chg (by simp)
          have x50 := hx5.cell 0
          have x51 := hx5.cell 1
          simp only [List.getElem?_toArray, List.getElem?_cons_succ, List.getElem?_cons_zero] at x50 x51
          clear hs5 hx5 x30 x31 x40 x41
          go_wp2_with fail
          refine (book_has WB w5 bp f R H5.out.2 xo xn HB.out.2.sound (by omega)).mono ?_
          rintro e w6 ⟨rfl, hc6⟩
          rw [HQ.out.1]
          have x60 := hc6.cell_some x50 (by simp)
          have x61 := hc6.cell_some x51 (by simp)
          have H6 := Lib.hid (And.intro (H5.out.1.to hc6) (H5.out.2.to hc6))
          clear hc6 x50 x51
          go_wp2_with fail
          refine (book_ranges w2 w6 cp f3 _ H6.out.1 o HS.out.2 (by omega)).mono ?_
          rintro e w7 ⟨A7, c7, rfl, hr7, hc7⟩
          have H7 := Lib.hid (And.intro hr7 (And.intro hc7 (H6.out.2.to hc7)))
          clear hr7 hc7
          go_wp2_with fail
          refine (book_ranges WB w7 bp f R H7.out.2.2 o HB.out.2.sound (by omega)).mono ?_
          rintro e w8 ⟨A8, c8, rfl, hr8, hc8⟩
          have H8 := Lib.hid (And.intro hr8 (And.intro hc8 (H7.out.1.chg0 hc8)))
          clear hr8 hc8
          go_wp2_with fail
          refine (same_any w8 A7 A8 c7 c8 _ _ H8.out.2.2 H8.out.1 (by have := (HS.out.2.get o).2; omega) (by have := (HB.out.2.sound.get o).2; omega)).mono ?_
          rintro e w9 ⟨rfl, hc9⟩
          rw [HQ.out.2.2]
          have hcc := H7.out.2.1.trans (H8.out.2.1.trans hc9)
          have x90 := hcc.cell_some x60 (by simp)
          have x91 := hcc.cell_some x61 (by simp)
          have H9 := Lib.hid (H6.out.2.chg.trans hcc)
          clear hc9 hcc x60 x61
          go_wp2_with fail
          refine (lives_any _).mono ?_
          rintro e wF ⟨rfl, hcF⟩
          have HF := Lib.hid (HWB.out.1.trans (H9.out.trans hcF))
          clear hcF
          go_wp2
          go_ret
          exact ⟨rfl, HF.out⟩
theorem walk (A : Option Addr) (c : Nat) (l : List Int) (_hc : l.length ≤ c) (hr : l.length * 8 ≤ 140737488351232) (hw : ∀ x ∈ l, (Lit.int .u64 x).wf = true) (o : Int) (_ : (Lit.int .i64 o).wf = true) (x : Idn) (hx : x.ok) (W : World) (hC : Kd.C (Kd.int .u64) W A l.length l) :
    Calls Try.prog 5 #[.slice A l.length c, .int .i64 o, .agg #[.int .i64 x.o, .int .u64 (x.n : Nat)]] W fun e w' => e = .returned (.bool true) ∧ Below W.heap.size W w' :=
  (core A c l o x hx hw W hC hr).mono fun _ _ ⟨he, hc⟩ => ⟨he, hc.below (Nat.le_refl _) (by simp)⟩
end Go.Proofs.Ythgejgfdpmbpaaa.seenGaps
