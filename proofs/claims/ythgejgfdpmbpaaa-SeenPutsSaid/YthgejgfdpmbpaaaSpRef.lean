/- The document's answer (package staithref04): Has, Low, Top, Gaps. -/
import Derived.Test.YthgejgfdpmbpaaaSpHolesP
set_option linter.unusedVariables false
set_option linter.unusedSimpArgs false
namespace Go.Proofs.Ythgejgfdpmbpaaa
open Go.RowKit Go.Shelf Go.Proofs.YthgejgfdpmbpaaaW.PrintWords

set_option maxHeartbeats 4000000 in
theorem rhas_any (w : World) (A : Option Addr) (c : Nat) (R : List Rng) (m : Nat) (hr : RowAt w A c R) (hsz : R.length ≤ 1000000) :
    Calls Try.prog 35 #[.slice A R.length c, .int .u64 (m : Nat)] w fun e w' => e = .returned (.bool (memR R m)) ∧ Chg [] w w' := by
  have HR := Lib.hid hr
  obtain ⟨n, hn⟩ : ∃ n, n = R.length := ⟨_, rfl⟩
  rw [← hn] at hsz
  rw [← hn]
  have HN := Lib.hid hn
  clear hr hn
  go_enter Try.func35, Try.ntmps35
  go_wp2
  go_loopw [9] (fun i wr => ∃ k : Nat, k ≤ n ∧ i = .int .i64 k ∧ Chg [] w wr ∧ Hid (memR (R.take k) m = false)) (fun i _ => n - (intOf i).toNat)
  case atStart => exact ⟨0, Nat.zero_le _, rfl, Chg.refl _ _, Lib.hid (by simp [memR])⟩
  case round =>
    obtain ⟨k, hk, rfl, hcg, hall⟩ := hrel
    have HC := Lib.hid hcg
    clear hcg
    by_cases hlt : k < n
    · skip
      have hkR : k < R.length := by rw [← HN.out]; exact hlt
      obtain ⟨b, rfl, hcap, x0, x1⟩ := HR.out.at_ hkR
      have x0' := HC.out.cell_some x0 (by simp)
      have x1' := HC.out.cell_some x1 (by simp)
      obtain ⟨r, hrr⟩ : ∃ r, r = R[k] := ⟨_, rfl⟩
      rw [← hrr] at x0' x1'
      have HE : Hid (R[k]? = some r) := by rw [hrr]; exact Lib.hid (List.getElem?_eq_getElem hkR)
      obtain ⟨lo, hi⟩ := r
      simp only at x0' x1'
      have i1 : (0 : Int) ≤ (k : Int) := by omega
      have i2 : (k : Int) < (n : Int) := by omega
      clear hrr x0 x1 hcap hkR
      have hstep : memR (R.take (k + 1)) m = (decide (lo ≤ m) && decide (m ≤ hi)) := by
        rw [List.take_add_one, HE.out, memR_append, hall.out]; simp [memR]
      by_cases h1 : lo ≤ m
      · have t1 : decide (lo ≤ m) = true := decide_eq_true h1
        by_cases h2 : m ≤ hi
        · have t2 : decide (m ≤ hi) = true := decide_eq_true h2
          have hres : memR R m = true := List.any_eq_true.2 ⟨(lo, hi), List.mem_of_getElem? HE.out, by simp [h1, h2]⟩
          have HRES := Lib.hid hres
          clear hstep hres
          go_wp2
          go_ret
          rw [HRES.out]
          exact ⟨rfl, HC.out.alloc _⟩
        · have t2 : decide (m ≤ hi) = false := decide_eq_false h2
          rw [t2, Bool.and_false] at hstep
          have HS := Lib.hid hstep
          clear hstep
          go_wp2
          go_roundw
          case rel => exact ⟨k + 1, by omega, by go_num, HC.out.alloc _, HS⟩
          case measure => simp [intOf]; omega
      · have t1 : decide (lo ≤ m) = false := decide_eq_false h1
        rw [t1, Bool.false_and] at hstep
        have HS := Lib.hid hstep
        clear hstep
        go_wp2
        go_roundw
        case rel => exact ⟨k + 1, by omega, by go_num, HC.out.alloc _, HS⟩
        case measure => simp [intOf]; omega
    · obtain rfl : k = n := by omega
      go_wp2
      go_ret
      have := hall.out
      rw [HN.out, List.take_length] at this
      rw [this]
      exact ⟨rfl, HC.out⟩

theorem rlow_any (w : World) (A : Option Addr) (c : Nat) (R : List Rng) (hr : RowAt w A c R) (hsz : R.length ≤ 1000000) :
    Calls Try.prog 33 #[.slice A R.length c] w fun e w' => e = .returned (.int .u64 (lowR R : Nat)) ∧ Chg [] w w' := by
  cases R with
  | nil =>
    clear hr
    rw [show ([] : List Rng).length = 0 from rfl]
    go_enter Try.func33, Try.ntmps33
    go_wp2
    go_ret
    exact ⟨rfl, Chg.refl _ _⟩
  | cons r R =>
    obtain ⟨b, rfl, hcap, h1, h2⟩ := hr.at_ (i := 0) (by simp)
    simp only [List.getElem_cons_zero, Nat.zero_mul, Nat.zero_add] at h1 h2
    have e : lowR (r :: R) = if r.1 = 1 then r.2 else 0 := rfl
    rw [e]
    obtain ⟨lo, hi⟩ := r
    simp only at h1 h2 ⊢
    obtain ⟨len, hlen⟩ : ∃ len, len = ((lo, hi) :: R).length := ⟨_, rfl⟩
    rw [← hlen] at hcap hsz
    rw [← hlen]
    have hl0 : (0 : Int) < (len : Int) := by rw [hlen]; simp
    have hl1 : decide ((0 : Int) < (len : Int)) = true := by simpa using hl0
    have hl2 : 0 < len := by omega
    clear hr hlen e
    by_cases h : lo = 1
    · subst h
      go_enter Try.func33, Try.ntmps33
      go_wp2
      go_ret
      exact ⟨rfl, Chg.refl _ _⟩
    · have hne : (lo == 1) = false := by simpa using h
      have hne2 : ((lo : Int) == 1) = false := by simp; omega
      rw [if_neg h]
      go_enter Try.func33, Try.ntmps33
      go_wp2
      go_ret
      exact ⟨rfl, Chg.refl _ _⟩
def cnt1 (R : List Rng) : Nat := (R.filter fun r => !(r.1 == 1)).length
theorem cnt1_gaps {R : List Rng} (h : WF 1 R) : (cnt1 R : Int) = gapsR R := by
  have hge : ∀ {R : List Rng} {a : Nat}, WF a R → 2 ≤ a → cnt1 R = R.length := by
    intro R
    induction R with
    | nil => intros; rfl
    | cons r R ih =>
      intro a h ha
      have h1 := h.1
      have := ih h.2.2.2 (by omega)
      unfold cnt1 at this ⊢
      rw [List.filter_cons, if_pos (by simp; omega), List.length_cons, this, List.length_cons]
  cases R with
  | nil => rfl
  | cons r R =>
    have h2 := h.2.1
    have ht := hge h.2.2.2 (by omega)
    have h1 := h.1
    unfold gapsR
    rw [List.length_cons]
    by_cases he : r.1 = 1
    · have e : lowR (r :: R) = r.2 := by simp [lowR, he]
      rw [e, if_pos (by omega)]
      unfold cnt1 at ht ⊢
      rw [List.filter_cons, if_neg (by simp [he]), ht]
      omega
    · have e : lowR (r :: R) = 0 := by simp [lowR, he]
      rw [e, if_neg (by omega)]
      unfold cnt1 at ht ⊢
      rw [List.filter_cons, if_pos (by simp [he]), List.length_cons, ht]
      omega
set_option maxHeartbeats 4000000 in
theorem rgaps_any (w : World) (A : Option Addr) (c : Nat) (R : List Rng) (hr : RowAt w A c R) (hsz : R.length ≤ 1000000) :
    Calls Try.prog 34 #[.slice A R.length c] w fun e w' => e = .returned (.int .i64 (cnt1 R : Nat)) ∧ Chg [] w w' := by
  have HR := Lib.hid hr
  obtain ⟨n, hn⟩ : ∃ n, n = R.length := ⟨_, rfl⟩
  rw [← hn] at hsz
  rw [← hn]
  have HN := Lib.hid hn
  clear hr hn
  go_enter Try.func34, Try.ntmps34
  go_wp2
  go_loopw [8, 3] (fun i s3 wr => ∃ k : Nat, k ≤ n ∧ i = .int .i64 k ∧ s3 = .int .i64 (cnt1 (R.take k) : Nat) ∧ Chg [] w wr) (fun i _ _ => n - (intOf i).toNat)
  case atStart => exact ⟨0, Nat.zero_le _, rfl, rfl, Chg.refl _ _⟩
  case round =>
    obtain ⟨k, hk, rfl, rfl, hcg⟩ := hrel
    have HC := Lib.hid hcg
    clear hcg
    have hcl : cnt1 (R.take k) ≤ k := Nat.le_trans (List.length_filter_le _ _) (List.length_take_le _ _)
    obtain ⟨q, hq⟩ : ∃ q, q = cnt1 (R.take k) := ⟨_, rfl⟩
    rw [← hq] at hcl
    rw [← hq]
    have HQ := Lib.hid hq
    clear hq
    by_cases hlt : k < n
    · skip
      have hkR : k < R.length := by rw [← HN.out]; exact hlt
      obtain ⟨b, rfl, hcap, x0, x1⟩ := HR.out.at_ hkR
      have x0' := HC.out.cell_some x0 (by simp)
      have x1' := HC.out.cell_some x1 (by simp)
      obtain ⟨r, hrr⟩ : ∃ r, r = R[k] := ⟨_, rfl⟩
      rw [← hrr] at x0' x1'
      have HE : Hid (R[k]? = some r) := by rw [hrr]; exact Lib.hid (List.getElem?_eq_getElem hkR)
      obtain ⟨lo, hi⟩ := r
      simp only at x0' x1'
      have i1 : (0 : Int) ≤ (k : Int) := by omega
      have i2 : (k : Int) < (n : Int) := by omega
      clear hrr x0 x1 hcap hkR
      have hstep : cnt1 (R.take (k + 1)) = q + if lo = 1 then 0 else 1 := by
        rw [List.take_add_one, HE.out, HQ.out]
        unfold cnt1
        rw [List.filter_append, List.length_append]
        by_cases h : lo = 1 <;> simp [h]
      by_cases h1 : lo = 1
      · rw [if_pos h1] at hstep
        have HS := Lib.hid hstep
        subst h1
        clear hstep
        go_wp2
        go_roundw
        case rel => exact ⟨k + 1, by omega, by go_num, by rw [HS.out]; rfl, HC.out.alloc _⟩
        case measure => simp [intOf]; omega
      · rw [if_neg h1] at hstep
        have HS := Lib.hid hstep
        have t1 : ((lo : Int) != 1) = true := by simp; omega
        have t2 : (lo != 1) = true := by simp; omega
        clear hstep
        go_wp2
        go_roundw
        case rel => exact ⟨k + 1, by omega, by go_num, by rw [HS.out]; rfl, HC.out.alloc _⟩
        case measure => simp [intOf]; omega
    · obtain rfl : k = n := by omega
      go_wp2
      go_ret
      have := HQ.out
      rw [HN.out, List.take_length] at this
      rw [this]
      exact ⟨rfl, HC.out⟩
end Go.Proofs.Ythgejgfdpmbpaaa
