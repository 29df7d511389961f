/- Package span: Low, Top, Gaps, Ranges. -/
import Derived.Test.YthgejgfdpmbpaaaSpNear
set_option linter.unusedVariables false
set_option linter.unusedSimpArgs false
namespace Go.Proofs.Ythgejgfdpmbpaaa
open Go.RowKit Go.Shelf

def lowR (R : List Rng) : Nat := match R with
  | [] => 0
  | r :: _ => if r.1 = 1 then r.2 else 0
def topR (R : List Rng) : Nat := match R.getLast? with
  | none => 0
  | some r => r.2
def gapsR (R : List Rng) : Int := R.length - if 0 < lowR R then 1 else 0

theorem low_any (w : World) (p : Nat) (R : List Rng) (h : SetAt w p R) : Calls Try.prog 41 #[.pointer (some ⟨p, 0, none⟩)] w fun e w' => e = .returned (.int .u64 (lowR R : Nat)) ∧ w = w' := by
  obtain ⟨A, cap, hb, hr, hin⟩ := h
  have HB := Lib.hid hb
  clear hb hin
  cases R with
  | nil =>
    obtain ⟨len, hlen⟩ : ∃ len, len = 0 := ⟨_, rfl⟩
    simp only [List.length_nil, ← hlen] at HB
    clear hr
    subst hlen
    go_enter Try.func41, Try.ntmps41
    go_wp2_with (go_at_call 44; refine (ranges_any _ p (.slice A 0 cap) (.bool true) HB.out ⟨_, _, _, rfl⟩).mono ?_; rintro e w' ⟨rfl, rfl⟩)
    go_ret
    exact ⟨rfl, rfl⟩
  | cons r R =>
    obtain ⟨b, rfl, hcap, h1, h2⟩ := hr.at_ (i := 0) (by simp)
    simp only [List.getElem_cons_zero, Nat.zero_mul, Nat.zero_add] at h1 h2
    have e : lowR (r :: R) = if r.1 = 1 then r.2 else 0 := rfl
    rw [e]
    obtain ⟨lo, hi⟩ := r
    simp only at h1 h2 ⊢
    obtain ⟨len, hlen⟩ : ∃ len, len = ((lo, hi) :: R).length := ⟨_, rfl⟩
    rw [← hlen] at HB hcap
    have hl0 : (0 : Int) < (len : Int) := by rw [hlen]; simp
    have hl1 : decide ((0 : Int) < (len : Int)) = true := by simpa using hl0
    have hl2 : 0 < len := by omega
    clear hr hlen e
    by_cases h : lo = 1
    · subst h
      go_enter Try.func41, Try.ntmps41
      go_wp2_with (go_at_call 44; refine (ranges_any _ p (.slice (some ⟨b, 0, none⟩) len cap) (.bool true) HB.out ⟨_, _, _, rfl⟩).mono ?_; rintro e w' ⟨rfl, rfl⟩)
      go_ret
      exact ⟨rfl, rfl⟩
    · have hne : (lo == 1) = false := by simpa using h
      have hne2 : ((lo : Int) == 1) = false := by simp; omega
      rw [if_neg h]
      go_enter Try.func41, Try.ntmps41
      go_wp2_with (go_at_call 44; refine (ranges_any _ p (.slice (some ⟨b, 0, none⟩) len cap) (.bool true) HB.out ⟨_, _, _, rfl⟩).mono ?_; rintro e w' ⟨rfl, rfl⟩)
      go_ret
      exact ⟨rfl, rfl⟩
theorem top_any (w : World) (p : Nat) (R : List Rng) (h : SetAt w p R) (hsz : R.length < 4611686018427387904) : Calls Try.prog 48 #[.pointer (some ⟨p, 0, none⟩)] w fun e w' => e = .returned (.int .u64 (topR R : Nat)) ∧ w = w' := by
  obtain ⟨A, cap, hb, hr, hin⟩ := h
  have HB := Lib.hid hb
  clear hb hin
  rcases Nat.eq_zero_or_pos R.length with h0 | h0
  · obtain rfl : R = [] := List.eq_nil_of_length_eq_zero h0
    simp only [List.length_nil] at HB
    clear hr
    go_enter Try.func48, Try.ntmps48
    go_wp2_with (go_at_call 44; refine (ranges_any _ p (.slice A 0 cap) (.bool true) HB.out ⟨_, _, _, rfl⟩).mono ?_; rintro e w' ⟨rfl, rfl⟩)
    go_ret
    exact ⟨rfl, rfl⟩
  · obtain ⟨b, rfl, hcap, h1, h2⟩ := hr.at_ (i := R.length - 1) (by omega)
    have e : topR R = R[R.length - 1].2 := by
      unfold topR
      rw [List.getLast?_eq_getElem?, List.getElem?_eq_getElem (by omega)]
    rw [← e] at h2
    obtain ⟨y, hy⟩ : ∃ y, y = topR R := ⟨_, rfl⟩
    rw [← hy] at h2 ⊢
    obtain ⟨len, hlen⟩ : ∃ len, len = R.length := ⟨_, rfl⟩
    rw [← hlen] at HB hcap hsz h2 h0
    have hl0 : (0 : Int) < (len : Int) := by omega
    have hl1 : decide ((0 : Int) < (len : Int)) = true := by simpa using hl0
    have hlm : (0 : Int) ≤ (len : Int) - 1 := by omega
    have hlm2 : (len : Int) - 1 < (len : Int) := by omega
    have hnat : ((len : Int) - 1).toNat = len - 1 := by omega
    clear hr hlen e hy h1
    go_enter Try.func48, Try.ntmps48
    go_wp2_with (go_at_call 44; refine (ranges_any _ p (.slice (some ⟨b, 0, none⟩) len cap) (.bool true) HB.out ⟨_, _, _, rfl⟩).mono ?_; rintro e w' ⟨rfl, rfl⟩)
    go_ret
    exact ⟨rfl, rfl⟩
theorem gaps_any (w : World) (p : Nat) (R : List Rng) (h : SetAt w p R) (hsz : R.length < 4611686018427387904) : Calls Try.prog 36 #[.pointer (some ⟨p, 0, none⟩)] w fun e w' => e = .returned (.int .i64 (gapsR R)) ∧ w = w' := by
  have HS := Lib.hid h
  obtain ⟨A, cap, hb, hr, hin⟩ := h
  have HB := Lib.hid hb
  obtain ⟨len, hlen⟩ : ∃ len, len = R.length := ⟨_, rfl⟩
  rw [← hlen] at HB hsz
  by_cases h0 : 0 < lowR R
  · have e : gapsR R = (len : Int) - 1 := by unfold gapsR; rw [if_pos h0, hlen]
    have hd : decide (0 < lowR R) = true := by simpa using h0
    have hl1 : 1 ≤ len := by
      rw [hlen]
      cases R with
      | nil => simp [lowR] at h0
      | cons r R => simp
    rw [e]
    clear hb hin hr hlen e
    go_enter Try.func36, Try.ntmps36
    go_wp2_with (first
      | (go_at_call 44; refine (ranges_any _ p (.slice A len cap) (.bool true) HB.out ⟨_, _, _, rfl⟩).mono ?_; rintro e w' ⟨rfl, rfl⟩)
      | (go_at_call 41; refine (low_any _ p R HS.out).mono ?_; rintro e w' ⟨rfl, rfl⟩))
    go_ret
    exact ⟨rfl, rfl⟩
  · have e : gapsR R = (len : Int) := by unfold gapsR; rw [if_neg h0, hlen]; simp
    have hd : decide (0 < lowR R) = false := by simpa using h0
    rw [e]
    clear hb hin hr hlen e
    go_enter Try.func36, Try.ntmps36
    go_wp2_with (first
      | (go_at_call 44; refine (ranges_any _ p (.slice A len cap) (.bool true) HB.out ⟨_, _, _, rfl⟩).mono ?_; rintro e w' ⟨rfl, rfl⟩)
      | (go_at_call 41; refine (low_any _ p R HS.out).mono ?_; rintro e w' ⟨rfl, rfl⟩))
    go_ret
    exact ⟨rfl, rfl⟩
end Go.Proofs.Ythgejgfdpmbpaaa
