/- Package window: Ack, where nothing is done. -/
import Derived.Test.YtkfpooljbpijhaaDoorWinSd
set_option linter.unusedVariables false
set_option linter.unusedSimpArgs false
namespace Go.Proofs.YtkfpooljbpijhaaDoor
open Go.RowKit

theorem far_le (a b : Int) : -32768 ≤ farZ a b ∧ farZ a b < 32768 := by unfold farZ; omega
set_option maxRecDepth 100000 in
set_option maxHeartbeats 8000000 in
theorem ack_out {w : World} {p : Nat} {s : WS} (h : WinAt w p s) (hok : s.Ok) (num : Int) (m : Nat) (hno : farZ s.base num < 0 ∨ (s.size : Int) < farZ s.base num) :
    Calls Tryd.prog 13 #[.pointer (some ⟨p, 0, none⟩), .int .u16 num, .int .u64 (m : Nat)] w fun e w' => e = .returned (.int .i64 0) ∧ Chg [] w w' := by
  have HM := Lib.hid (fun o => made_win (h.chg ((Chg.refl [] w).alloc o) (by simp)) hok.size1)
  have c0 := h.c0
  have c2 := h.c2
  have hplt := h.lt
  obtain ⟨n, hn⟩ : ∃ n, n = s.size := ⟨_, rfl⟩
  rw [← hn] at c0 hno
  obtain ⟨b, hb⟩ : ∃ b, b = s.base := ⟨_, rfl⟩
  rw [← hb] at c2 hno
  have hfl := far_le b num
  have HF := Lib.hid (fun w => far_any b num w)
  obtain ⟨z, hz⟩ : ∃ z, z = farZ b num := ⟨_, rfl⟩
  rw [← hz] at hno hfl HF
  clear h hok hn hb hz
  by_cases h0 : z < 0
  · have t1 : decide (z < 0) = true := decide_eq_true h0
    clear hno
    go_enter Tryd.func13, Tryd.ntmps13
    go_wp2_with fail
    refine (HM.out _).mono ?_
    rintro e w1 ⟨rfl, rfl⟩
    go_wp2_with fail
    refine (HF.out _).mono ?_
    rintro e w1 ⟨rfl, rfl⟩
    go_wp2_with fail
    go_quiet (fail)
    go_wp2
    go_ret
    exact ⟨rfl, (((Chg.refl [] w).alloc _).alloc _).drewN _⟩
  · have t1 : decide (z < 0) = false := decide_eq_false h0
    have t2 : decide ((n : Int) < z) = true := decide_eq_true (by omega)
    clear hno
    go_enter Tryd.func13, Tryd.ntmps13
    go_wp2_with fail
    refine (HM.out _).mono ?_
    rintro e w1 ⟨rfl, rfl⟩
    go_wp2_with fail
    refine (HF.out _).mono ?_
    rintro e w1 ⟨rfl, rfl⟩
    go_wp2_with fail
    go_quiet (fail)
    go_wp2
    go_ret
    exact ⟨rfl, (((Chg.refl [] w).alloc _).alloc _).drewN _⟩

def ptrW (p : Nat) : Value := .pointer (some ⟨p, 0, none⟩)
set_option maxRecDepth 100000 in
set_option maxHeartbeats 8000000 in
theorem ack_unsent {w : World} {p : Nat} {s : WS} (h : WinAt w p s) (hok : s.Ok) (num : Int) (m n i0 : Nat) (hn : farZ s.base num = (n : Int)) (hns : n ≤ s.size) (hi : i0 < n) (hz : (s.f i0).1 = 0) :
    Calls Tryd.prog 13 #[.pointer (some ⟨p, 0, none⟩), .int .u16 num, .int .u64 (m : Nat)] w fun e w' => e = .returned (.int .i64 0) ∧ Chg [] w w' := by
  have HZ := Lib.hid hz
  clear hz
  have HM := Lib.hid (fun o => made_win (h.chg ((Chg.refl [] w).alloc o) (by simp)) hok.size1)
  have H := Lib.hid h
  have HOK := Lib.hid hok
  have c0 := h.c0
  have c2 := h.c2
  have hplt := h.lt
  have hsz := hok.size2
  obtain ⟨sz, hs⟩ : ∃ sz, sz = s.size := ⟨_, rfl⟩
  rw [← hs] at c0 hns hsz
  obtain ⟨b, hb⟩ : ∃ b, b = s.base := ⟨_, rfl⟩
  rw [← hb] at c2 hn
  have HF := Lib.hid (fun w => far_any b num w)
  rw [hn] at HF
  have HB := Lib.hid (And.intro hs (And.intro hb hn))
  have t1 : decide ((n : Int) < 0) = false := decide_eq_false (by omega)
  have t2 : decide ((sz : Int) < (n : Int)) = false := decide_eq_false (by omega)
  have t3 : decide (sz < n) = false := decide_eq_false (by omega)
  have i1 : (0 : Int) ≤ (n : Int) := by omega
  have i2 : (n : Int) ≤ 32 := by omega
  clear h hok hs hb hn
  go_enter Tryd.func13, Tryd.ntmps13
  go_wp2_with fail
  refine (HM.out _).mono ?_
  rintro e w1 ⟨rfl, rfl⟩
  go_wp2_with fail
  refine (HF.out _).mono ?_
  rintro e w1 ⟨rfl, rfl⟩
  go_wp2_with fail
  go_quiet (fail)
  have hb1 : Blk ((w.alloc (.cells #[.pointer (some ⟨p, 0, none⟩)] 24)).alloc (.cells #[.int .i64 (n : Nat)] 3)) w.heap.size 24 #[ptrW p] := (Blk.new w _ _).alloc _
  have hb2 : Blk ((w.alloc (.cells #[.pointer (some ⟨p, 0, none⟩)] 24)).alloc (.cells #[.int .i64 (n : Nat)] 3)) (w.heap.size + 1) 3 #[.int .i64 (n : Nat)] := by
    have := Blk.new (w.alloc (.cells #[.pointer (some ⟨p, 0, none⟩)] 24)) 3 #[.int .i64 (n : Nat)]
    rwa [World.size_alloc] at this
  have hc1 := ((((Chg.refl [] w).alloc (.cells #[.pointer (some ⟨p, 0, none⟩)] 24)).alloc (.cells #[.int .i64 (n : Nat)] 3)))
  have HA := Lib.hid (And.intro (hb1.drewN nq) (And.intro (hb2.drewN nq) (hc1.drewN nq)))
  clear hb1 hb2 hc1
  generalize (((w.alloc (.cells #[.pointer (some ⟨p, 0, none⟩)] 24)).alloc (.cells #[.int .i64 (n : Nat)] 3))).drewN nq = wa at *
  have a1 := HA.out.1.cell 0
  have a2 := HA.out.2.1.cell 0
  simp only [List.getElem?_toArray, List.getElem?_cons_zero, ptrW] at a1 a2
  go_wp2_with fail
  go_quiet (fail)
  have HA2 := Lib.hid (And.intro (HA.out.1.drewN nq) (And.intro (HA.out.2.1.drewN nq) (HA.out.2.2.drewN nq)))
  clear a1 a2 HA
  generalize wa.drewN nq = wb at *
  have HA := HA2
  clear HA2
  go_wp2_with fail
  go_loopw [39] (fun i wr => ∃ k : Nat, k ≤ i0 ∧ i = .int .i64 k ∧ Chg [] wb wr) (fun i _ => n - (intOf i).toNat)
  case atStart => exact ⟨0, by omega, rfl, Chg.refl _ _⟩
  case round =>
    obtain ⟨k, hk, rfl, hc⟩ := hrel
    have HC := Lib.hid (HA.out.2.2.trans hc)
    have HW := Lib.hid (H.out.chg HC.out (by simp))
    have x0 := HW.out.sent (i := k) (by omega)
    have x1 := HW.out.there (i := k) (by omega)
    obtain ⟨a, ha⟩ : ∃ a, a = (s.f k).1 := ⟨_, rfl⟩
    obtain ⟨bb, hbb⟩ : ∃ bb, bb = (s.f k).2 := ⟨_, rfl⟩
    rw [← ha] at x0
    rw [← hbb] at x1
    have j1 : (0 : Int) ≤ (k : Int) := by omega
    have j2 : (k : Int) < (n : Int) := by omega
    have hlt : k < n := by omega
    by_cases h0 : a = 0
    · have t4 : ((a : Int) == 0) = true := by simpa using h0
      clear ha hbb hc h0
      go_wp2
      go_ret
      exact ⟨rfl, HC.out.alloc _⟩
    · have t4 : ((a : Int) == 0) = false := by simpa using h0
      have hki : k < i0 := by
        rcases Nat.lt_or_ge k i0 with h | h
        · exact h
        · obtain rfl : k = i0 := by omega
          have := HZ.out
          omega
      have HCW := Lib.hid hc
      clear ha hbb hc h0
      go_wp2
      go_roundw
      case rel => exact ⟨k + 1, by omega, by go_num, HCW.out.alloc _⟩
      case measure => simp [intOf]; omega
end Go.Proofs.YtkfpooljbpijhaaDoor
