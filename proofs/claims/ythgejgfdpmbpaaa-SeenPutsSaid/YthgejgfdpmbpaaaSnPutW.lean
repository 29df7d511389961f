/- Package seen: Put of a book, and of the document's. -/
import Derived.Test.YthgejgfdpmbpaaaSnPages
import Derived.Test.YthgejgfdpmbpaaaSnCopy
import Derived.Test.YthgejgfdpmbpaaaSnRef
import Derived.Test.YthgejgfdpmbpaaaSpGood
set_option linter.unusedVariables false
set_option linter.unusedSimpArgs false
namespace Go.Proofs.Ythgejgfdpmbpaaa
open Go.RowKit Go.Shelf Go.Proofs.YthgejgfdpmbpaaaW.PrintWords

theorem putB_in {R : Nat → List Rng} {o : Nat} {L : List Rng} (h1 : 1 ≤ o) (h2 : o ≤ 8) (hw : wfB 1 L = true) : putB R (o : Nat) L = upd R o L := by
  unfold putB inO
  rw [if_pos ⟨by simp; omega, hw⟩]
  rfl
theorem putB_bad {R : Nat → List Rng} {o : Int} {L : List Rng} (hw : wfB 1 L = false) : putB R o L = R := by
  unfold putB
  rw [if_neg (by simp [hw])]
theorem putB_out {R : Nat → List Rng} {o : Int} {L : List Rng} (h : ¬ (1 ≤ o ∧ o ≤ 8)) : putB R o L = R := by
  unfold putB inO
  rw [if_neg (by simp; omega)]

set_option maxHeartbeats 4000000 in
theorem book_put (w W : World) (bp : Nat) (f : Nat → Nat) (R : Nat → List Rng) (h : BookSt w W bp f R) (oI : Int) (A : Option Addr) (c : Nat) (L : List Rng) (hr : RowG W A c L) (hl : L.length ≤ 1000) (hv : ∀ r ∈ L, okR r) :
    Calls Try.prog 20 #[.pointer (some ⟨bp, 0, none⟩), .int .i64 oI, .slice A L.length c] W fun e w' => e = .returned (.int .i64 (putE oI L)) ∧ (∃ f', BookSt w w' bp f' (putB R oI L)) ∧ Chg [bp] W w' := by
  have d9 := h.blk.cell 9
  rw [bookC_is] at d9
  have HB := Lib.hid h
  have HF := Lib.hid (from_any W A c L hr hl hv)
  obtain ⟨n, hn⟩ : ∃ n, n = L.length := ⟨_, rfl⟩
  rw [← hn] at HF ⊢
  clear hn
  by_cases ho : 1 ≤ oI ∧ oI ≤ 8
  · obtain ⟨o, rfl⟩ : ∃ k : Nat, oI = (k : Int) := ⟨oI.toNat, by omega⟩
    have o1 : 1 ≤ o := by omega
    have o2 : o ≤ 8 := by omega
    have HO := Lib.hid (And.intro o1 o2)
    have HOF := Lib.hid (of_in w W bp f R h o o1 o2)
    have i1 : (0 : Int) ≤ (o : Int) := by omega
    have i2 : (o : Int) < 9 := by omega
    obtain ⟨q, hq⟩ : ∃ q, q = f o := ⟨_, rfl⟩
    rw [← hq] at HOF
    have hin : inO (o : Int) = true := by unfold inO; simpa using ho
    cases hwf : wfB 1 L with
    | true =>
      have e1 : putE (o : Int) L = 0 := by unfold putE; rw [if_pos hin, if_pos hwf]
      have e2 : putB R (o : Int) L = upd R o L := putB_in o1 o2 hwf
      rw [e1, e2]
      have HW := Lib.hid ((wfB_iff _ _).1 hwf)
      clear h hr hv hq hin e1 e2 ho hwf o1 o2
      go_enter Try.func20, Try.ntmps20
      go_wp2_with fail
      refine HOF.out.mono ?_
      rintro e w1 ⟨rfl, rfl⟩
      go_wp2_with fail
      refine HF.out.mono ?_
      rintro e w1 ⟨hc, (⟨_, p, rfl, hp, hset⟩ | ⟨hn, _⟩)⟩
      · have hfz := (HB.out.blk.chg hc (by simp)).frozen o
        have hcl := (HB.out.blk.chg hc (by simp)).cell o
        rw [bookC_at _ (by have := HO.out; omega)] at hcl
        unfold ptrV at hcl
        have H1 := Lib.hid (And.intro hc (And.intro hp hset))
        clear hc hp hset
        go_wp2
        go_ret
        obtain ⟨hc, hp, hset⟩ := H1.out
        have hst := HB.out.store hc (o := o) (by have := HO.out; omega) hp ⟨hset, HB.out.chg.trans hc, Nat.le_trans HB.out.chg.size hp⟩
        exact ⟨rfl, ⟨_, hst⟩, (hc.mono (by simp)).setCell (.inl (by simp)) _⟩
      · exact absurd HW.out hn
    | false =>
      have e1 : putE (o : Int) L = 7 := by unfold putE; rw [if_pos hin, if_neg (by simp [hwf])]
      have e2 : putB R (o : Int) L = R := putB_bad hwf
      rw [e1, e2]
      have HW := Lib.hid (show ¬ WF 1 L from fun hh => by rw [(wfB_iff _ _).2 hh] at hwf; cases hwf)
      clear h hr hv hq hin e1 e2 ho hwf o1 o2
      go_enter Try.func20, Try.ntmps20
      go_wp2_with fail
      refine HOF.out.mono ?_
      rintro e w1 ⟨rfl, rfl⟩
      go_wp2_with fail
      refine HF.out.mono ?_
      rintro e w1 ⟨hc, (⟨hn, _⟩ | ⟨_, rfl⟩)⟩
      · exact absurd hn HW.out
      · have H1 := Lib.hid hc
        clear hc
        go_wp2
        go_ret
        exact ⟨rfl, ⟨_, HB.out.to H1.out⟩, H1.out.mono (by simp)⟩
  · have e1 : putE oI L = 2 := by unfold putE inO; rw [if_neg (by simp; omega)]
    rw [e1, putB_out ho]
    have HOF := Lib.hid (of_out w W bp f R h oI (by omega))
    clear h hr hv ho e1
    go_enter Try.func20, Try.ntmps20
    go_wp2_with fail
    refine HOF.out.mono ?_
    rintro e w1 ⟨rfl, rfl⟩
    go_wp2
    go_ret
    exact ⟨rfl, ⟨_, HB.out⟩, Chg.refl _ _⟩

set_option maxHeartbeats 4000000 in
theorem ref_put (w W : World) (rb : Nat) (R : Nat → List Rng) (h : RefSt w W rb R) (oI : Int) (A : Option Addr) (c : Nat) (L : List Rng) (hr : RowG W A c L) (hl : L.length ≤ 1000) (hv : ∀ r ∈ L, okR r) :
    Calls Try.prog 21 #[.pointer (some ⟨rb, 0, none⟩), .int .i64 oI, .slice A L.length c] W fun e w' => e = .returned (.int .i64 (putE oI L)) ∧ RefSt w w' rb (putB R oI L) ∧ Chg [rb] W w' := by
  have his := is_any oI
  have HB := Lib.hid h
  have HGD := Lib.hid (good_gen W A c L hr hl hv)
  by_cases ho : 1 ≤ oI ∧ oI ≤ 8
  · obtain ⟨o, rfl⟩ : ∃ k : Nat, oI = (k : Int) := ⟨oI.toNat, by omega⟩
    have o1 : 1 ≤ o := by omega
    have o2 : o ≤ 8 := by omega
    have HO := Lib.hid (And.intro o1 o2)
    rw [decide_eq_true ho] at his
    have i1 : (0 : Int) ≤ (o : Int) := by omega
    have i2 : (o : Int) < 9 := by omega
    have hin : inO (o : Int) = true := by unfold inO; simpa using ho
    cases hwf : wfB 1 L with
    | true =>
      have e1 : putE (o : Int) L = 0 := by unfold putE; rw [if_pos hin, if_pos hwf]
      have e2 : putB R (o : Int) L = upd R o L := putB_in o1 o2 hwf
      rw [e1, e2]
      have HW := Lib.hid ((wfB_iff _ _).1 hwf)
      have HG2 : Hid (Calls Try.prog 40 #[.slice A L.length c] W fun e w' => e = .returned (.bool true) ∧ Chg [] W w') :=
        Lib.hid (HGD.out.mono fun e w' ⟨⟨b, he, hb⟩, hc⟩ => ⟨by rw [he, hb.2 HW.out], hc⟩)
      -- the append, in any later world
      have HAP : Hid (∀ W1, Chg [] W W1 → ∃ A0 C0 w0, AppRun Try.prog 30 30 (.slice (some ⟨W1.heap.size, 0, none⟩) 0 0) (.slice A L.length c) (W1.alloc (.cells #[] 64)) (.slice A0 L.length C0) w0 ∧ RowAt w0 A0 C0 L ∧ Chg [] W1 w0) := by
        refine Lib.hid fun w hcw => ?_
        obtain ⟨i0, hi, hz0, hz1, hz2⟩ := info_parts infoR
        have hlit := World.ownsRow_lit (base := w.heap.size) (e := 64) (size := 2) w #[] 0 (Nat.le_refl _) (by decide) rfl
        rcases hr.chg0 hcw with ⟨rfl, rfl, rfl⟩ | ⟨ad, rfl, hl, hx⟩
        · refine ⟨_, _, _, AppRun.of (run_append_owned_none (P := Try.prog) _ w.heap.size 30 30 64 i0 2 Try.underlying30 hi _ 0 _ hlit), RowAt.of_owns (R := []) hlit rfl, (Chg.refl _ _).alloc _⟩
        · obtain ⟨v', w', hr, h2, h3, _⟩ := run_append_own (P := Try.prog) _ w.heap.size 30 30 64 i0 zeroR 2 16 Try.underlying30 hi hz0 hz1 hz2 rfl (by decide) _ 0 _ hlit ad L.length c (cellsR L) (by rw [cellsR_len]) (fun j u hu => ((Chg.refl [] w).alloc _).cell_some (hx j u hu) (by simp)) (cellsR_one L) (by simp only [maxLen]; omega) (by omega) (by simp)
          obtain ⟨A', cap', rfl, hfr⟩ := own_form h2
          rw [Nat.zero_add] at hr h2
          refine ⟨A', cap', w', AppRun.of hr, RowAt.of_owns (by simpa using h2) rfl, ((Chg.refl [] w).alloc _).grown h3 (fun k hk => .inr (by have := (hlit.lt k hk.symm.symm).1; omega))⟩
      obtain ⟨n, hn⟩ : ∃ n, n = L.length := ⟨_, rfl⟩
      rw [← hn] at HG2 HAP ⊢
      have HN := Lib.hid hn
      clear hn HGD h hr hl hv hin e1 e2 ho hwf o1 o2
      go_enter Try.func21, Try.ntmps21
      go_wp2_with fail
      refine (his _).mono ?_
      rintro e w1 ⟨rfl, rfl⟩
      go_wp2_with fail
      refine HG2.out.mono ?_
      rintro e w1 ⟨rfl, hc1⟩
      obtain ⟨A0, C0, w0, hrun, hrow, hc0⟩ := HAP.out w1.drew hc1.drew
      have hcz : Chg [] W w0 := hc1.trans ((Chg.refl [] w1).drew.trans hc0)
      have hlt := HB.out.lt
      obtain ⟨A2, c2, hblk, _⟩ := (HB.out.to hcz).blk
      have hfz := hblk.frozen o
      have hcl := hblk.cell o
      rw [refC_at _ _ _ (by have := HO.out; omega)] at hcl
      have HX := Lib.hid (And.intro hcz hrow)
      have HRUN := Lib.hid hrun
      clear hc1 hcz hrow hc0 hrun hblk
      have hrun := HRUN.out
      go_upto_region 5 with fail
      go_region_law (refine step_append_run (by rfl) _ _ _ (by rfl) _ _ _ _ (by rfl) (by rfl) hrun ?_)
      all_goals
        go_wp2
        go_ret
        have := HB.out.put HX.out.1 (o := o) (by have := HO.out; omega) HX.out.2
        rw [← HN.out] at this
        exact ⟨rfl, this⟩
    | false =>
      have e1 : putE (o : Int) L = 7 := by unfold putE; rw [if_pos hin, if_neg (by simp [hwf])]
      have e2 : putB R (o : Int) L = R := putB_bad hwf
      rw [e1, e2]
      have HW := Lib.hid (show ¬ WF 1 L from fun hh => by rw [(wfB_iff _ _).2 hh] at hwf; cases hwf)
      have HG2 : Hid (Calls Try.prog 40 #[.slice A L.length c] W fun e w' => e = .returned (.bool false) ∧ Chg [] W w') :=
        Lib.hid (HGD.out.mono fun e w' ⟨⟨b, he, hb⟩, hc⟩ => ⟨by
          cases b with
          | true => exact absurd (hb.1 rfl) HW.out
          | false => exact he, hc⟩)
      obtain ⟨n, hn⟩ : ∃ n, n = L.length := ⟨_, rfl⟩
      rw [← hn] at HG2 ⊢
      clear hn HGD h hr hl hv hin e1 e2 ho hwf o1 o2
      go_enter Try.func21, Try.ntmps21
      go_wp2_with fail
      refine (his _).mono ?_
      rintro e w1 ⟨rfl, rfl⟩
      go_wp2_with fail
      refine HG2.out.mono ?_
      rintro e w1 ⟨rfl, hc1⟩
      have H1 := Lib.hid hc1
      clear hc1
      go_wp2
      go_ret
      exact ⟨rfl, HB.out.to H1.out, H1.out.mono (by simp)⟩
  · have e1 : putE oI L = 2 := by unfold putE inO; rw [if_neg (by simp; omega)]
    rw [e1, putB_out ho]
    rw [decide_eq_false ho] at his
    obtain ⟨n, hn⟩ : ∃ n, n = L.length := ⟨_, rfl⟩
    rw [← hn]
    clear hn h hr hl hv ho e1 HGD
    go_enter Try.func21, Try.ntmps21
    go_wp2_with fail
    refine (his _).mono ?_
    rintro e w1 ⟨rfl, rfl⟩
    go_wp2
    go_ret
    exact ⟨rfl, HB.out, Chg.refl _ _⟩
end Go.Proofs.Ythgejgfdpmbpaaa
