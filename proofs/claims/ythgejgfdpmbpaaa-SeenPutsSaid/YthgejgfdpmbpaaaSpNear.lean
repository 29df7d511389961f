/- Package span: near, Has, Low, Top, Gaps. -/
import Derived.Test.YthgejgfdpmbpaaaSpRow
import Derived.Shelf.Abstract
set_option linter.unusedVariables false
set_option linter.unusedSimpArgs false
namespace Go.Proofs.Ythgejgfdpmbpaaa
open Go.RowKit Go.Shelf

theorem near1_any (W : World) (bl bn : Nat) (A : Option Addr) (cap : Nat) (R : List Rng) (n : Nat) (hl : W.cell? ⟨bl, 0, none⟩ = some (.slice A R.length cap)) (hn : W.cell? ⟨bn, 0, none⟩ = some (.int .u64 (n : Nat)))
    (hr : RowAt W A cap R) (i : Nat) (hi : i < R.length) :
    Calls Try.prog 50 #[.int .i64 i, .pointer (some ⟨bl, 0, none⟩), .pointer (some ⟨bn, 0, none⟩)] W fun e w' => e = .returned (.bool (decide (n ≤ R[i].2))) ∧ Chg [] W w' := by
  obtain ⟨b, rfl, hcap, h1, h2⟩ := hr.at_ hi
  obtain ⟨y, hy⟩ : ∃ y, y = R[i].2 := ⟨_, rfl⟩
  rw [← hy] at h2 ⊢
  clear hy h1 hr
  have hiz : (i : Int) < (R.length : Int) := by omega
  have hi0 : (0 : Int) ≤ (i : Int) := by omega
  go_enter Try.func50, Try.ntmps50
  go_wp2
  go_region
  go_wp2
  go_ret
  exact ⟨rfl, (Chg.refl _ _).drew⟩

/-- near, where a set falls into what ends ahead of n and what does not. -/
theorem near_any (w : World) (p : Nat) (L T : List Rng) (n : Nat) (h : SetAt w p (L ++ T)) (hL : ∀ r ∈ L, r.2 < n) (hT : ∀ r ∈ T, n ≤ r.2) (hsz : (L ++ T).length < 4611686018427387904) :
    Calls Try.prog 45 #[.pointer (some ⟨p, 0, none⟩), .int .u64 (n : Nat)] w fun e w' => e = .returned (.int .i64 (L.length : Nat)) ∧ Chg [] w w' := by
  obtain ⟨A, cap, hb, hr, hin⟩ := h
  obtain ⟨R, hR⟩ : ∃ R, R = L ++ T := ⟨_, rfl⟩
  rw [← hR] at hb hr hsz
  have hSearch := fun (W : World) (hW : Chg [] ((w.alloc (.cells #[.int .u64 (n : Nat)] 23)).alloc (.cells #[.slice A R.length cap] 30)) W) =>
    search_any 50 #[.pointer (some ⟨w.heap.size + 1, 0, none⟩), .pointer (some ⟨w.heap.size, 0, none⟩)] R.length L.length (fun i => decide (n ≤ (R.getD i (0, 0)).2)) W
      (enters_of Try.func50 (by kernel_rfl) rfl) hsz
      (fun W' i hc hi => by
        have hbl := Blk.new (w.alloc (.cells #[.int .u64 (n : Nat)] 23)) 30 #[.slice A R.length cap]
        rw [World.size_alloc] at hbl
        have hbn := (Blk.new w 23 #[.int .u64 (n : Nat)]).alloc (.cells #[.slice A R.length cap] 30)
        have h1 := ((hbl.chg hW (by simp)).chg hc (by simp)).cell 0
        have h2 := ((hbn.chg hW (by simp)).chg hc (by simp)).cell 0
        have := near1_any W' (w.heap.size + 1) w.heap.size A cap R n h1 h2 (((hr.chg0 (((Chg.refl [] w).alloc _).alloc _)).chg0 hW).chg0 hc) i hi
        rw [show (R.getD i (0, 0)) = R[i] by simp [hi]]
        exact this)
      (by rw [hR]; simp)
      (fun t ht => by
        have : R.getD t (0, 0) ∈ L := by rw [hR]; simp [List.getElem?_append_left ht, ht]
        have := hL _ this
        simp only [decide_eq_false_iff_not]; omega)
      (fun t h1 h2 => by
        have h3 : t - L.length < T.length := by rw [hR, List.length_append] at h2; omega
        have : R.getD t (0, 0) ∈ T := by rw [hR]; simp [List.getElem?_append_right h1, h3]
        have := hT _ this
        simp only [decide_eq_true_eq]; omega)
  have HS := Lib.hid hSearch
  have HB := Lib.hid hb
  clear hSearch hL hT hR hr hin hb
  go_enter Try.func45, Try.ntmps45
  go_wp2_with (first
    | (go_at_call 44; refine (ranges_any _ p (.slice A R.length cap) (.bool true) ?_ ⟨_, _, _, rfl⟩).mono ?_; exact HB.out.alloc _; rintro e w' ⟨rfl, rfl⟩)
    | (go_at_call 49; refine (HS.out _ (Chg.refl _ _)).mono ?_; rintro e w' ⟨rfl, hc⟩; have HC := Lib.hid hc; clear hc))
  go_ret
  exact ⟨rfl, ((((Chg.refl [] w).alloc _).alloc _)).trans HC.out⟩

/-- Is n in a set? -/
def hasT (T : List Rng) (n : Nat) : Bool := match T with
  | [] => false
  | t :: _ => decide (0 < n) && decide (t.1 ≤ n)
theorem has_any (w : World) (p : Nat) (L T : List Rng) (n : Nat) (h : SetAt w p (L ++ T)) (hL : ∀ r ∈ L, r.2 < n) (hT : ∀ r ∈ T, n ≤ r.2) (hsz : (L ++ T).length < 4611686018427387904) :
    Calls Try.prog 28 #[.pointer (some ⟨p, 0, none⟩), .int .u64 (n : Nat)] w fun e w' => e = .returned (.bool (hasT T n)) ∧ Chg [] w w' := by
  have HN := Lib.hid (near_any w p L T n h hL hT hsz)
  obtain ⟨A, cap, hb, hr, hin⟩ := h
  have HB := Lib.hid hb
  clear hb hin hL hT
  by_cases hn0 : 0 < n
  · cases T with
    | nil =>
      have hl : decide ((L.length : Int) < ((L ++ []).length : Int)) = false := by simp
      have e : hasT [] n = false := rfl
      rw [e]
      simp only [List.append_nil] at HB hr hl HN hsz
      clear hr
      go_enter Try.func28, Try.ntmps28
      go_wp2_with (first
        | (go_at_call 45; refine HN.out.mono ?_; rintro e w' ⟨rfl, hc⟩; have HC := Lib.hid hc; clear hc)
        | (go_at_call 44; refine (ranges_any _ p (.slice A L.length cap) (.bool true) ?_ ⟨_, _, _, rfl⟩).mono ?_; exact HB.out.chg HC.out (by simp); rintro e w' ⟨rfl, rfl⟩))
      go_ret
      exact ⟨rfl, HC.out⟩
    | cons t T =>
      have hi : L.length < (L ++ t :: T).length := by simp
      obtain ⟨b, rfl, hcap, h1, h2⟩ := hr.at_ hi
      have et : (L ++ t :: T)[L.length] = t := by simp
      rw [et] at h1
      have e : hasT (t :: T) n = decide (t.1 ≤ n) := by simp [hasT, hn0]
      rw [e]
      obtain ⟨len, hlen⟩ : ∃ len, len = (L ++ t :: T).length := ⟨_, rfl⟩
      rw [← hlen] at HB hi hcap
      obtain ⟨y, hy⟩ : ∃ y, y = t.1 := ⟨_, rfl⟩
      rw [← hy] at h1 ⊢
      have hlt : (L.length : Int) < (len : Int) := by omega
      have hl0 : (0 : Int) ≤ (L.length : Int) := by omega
      clear h2 hr et e hlen hy
      go_enter Try.func28, Try.ntmps28
      go_wp2_with (first
        | (go_at_call 45; refine HN.out.mono ?_; rintro e w' ⟨rfl, hc⟩; have HC := Lib.hid hc; have h3 := HC.out.cell_some h1 (by simp); clear hc)
        | (go_at_call 44; refine (ranges_any _ p (.slice (some ⟨b, 0, none⟩) len cap) (.bool true) ?_ ⟨_, _, _, rfl⟩).mono ?_; exact HB.out.chg HC.out (by simp); rintro e w' ⟨rfl, rfl⟩))
      go_ret
      exact ⟨rfl, HC.out⟩
  · have h0 : n = 0 := by omega
    subst h0
    have e : hasT T 0 = false := by cases T <;> simp [hasT]
    rw [e]
    clear hr
    go_enter Try.func28, Try.ntmps28
    go_wp2_with (first
      | (go_at_call 45; refine HN.out.mono ?_; rintro e w' ⟨rfl, hc⟩; have HC := Lib.hid hc; clear hc)
      | (go_at_call 44; refine (ranges_any _ p (.slice A (L ++ T).length cap) (.bool true) ?_ ⟨_, _, _, rfl⟩).mono ?_; exact HB.out.chg HC.out (by simp); rintro e w' ⟨rfl, rfl⟩))
    go_ret
    exact ⟨rfl, HC.out⟩
end Go.Proofs.Ythgejgfdpmbpaaa
