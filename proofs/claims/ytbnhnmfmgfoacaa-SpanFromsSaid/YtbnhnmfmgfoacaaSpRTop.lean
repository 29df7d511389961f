/- The document's answer (package staithref04): Top. -/
import Derived.Test.YtbnhnmfmgfoacaaSpRef
set_option linter.unusedVariables false
set_option linter.unusedSimpArgs false
namespace Go.Proofs.Ytbnhnmfmgfoacaa
open Go.RowKit Go.Shelf Go.Proofs.YtbnhnmfmgfoacaaW.PrintWords
theorem rtop_any (w : World) (A : Option Addr) (c : Nat) (R : List Rng) (hr : RowAt w A c R) (hsz : R.length ≤ 1000000) :
    Calls Try.prog 30 #[.slice A R.length c] w fun e w' => e = .returned (.int .u64 (topR R : Nat)) ∧ Chg [] w w' := by
  rcases Nat.eq_zero_or_pos R.length with h0 | h0
  · obtain rfl : R = [] := List.eq_nil_of_length_eq_zero h0
    clear hr
    rw [show ([] : List Rng).length = 0 from rfl]
    go_enter Try.func30, Try.ntmps30
    go_wp2
    go_ret
    exact ⟨rfl, Chg.refl _ _⟩
  · obtain ⟨b, rfl, hcap, h1, h2⟩ := hr.at_ (i := R.length - 1) (by omega)
    have e : topR R = R[R.length - 1].2 := by
      unfold topR
      rw [List.getLast?_eq_getElem?, List.getElem?_eq_getElem (by omega)]
    rw [← e] at h2
    obtain ⟨y, hy⟩ : ∃ y, y = topR R := ⟨_, rfl⟩
    rw [← hy] at h2
    rw [← hy]
    obtain ⟨len, hlen⟩ : ∃ len, len = R.length := ⟨_, rfl⟩
    rw [← hlen] at hcap hsz h2 h0
    rw [← hlen]
    have hl0 : (0 : Int) < (len : Int) := by omega
    have hl1 : decide ((0 : Int) < (len : Int)) = true := by simpa using hl0
    have hlm : (0 : Int) ≤ (len : Int) - 1 := by omega
    have hlm2 : (len : Int) - 1 < (len : Int) := by omega
    have hnat : ((len : Int) - 1).toNat = len - 1 := by omega
    clear hr hlen e hy h1
    go_enter Try.func30, Try.ntmps30
    go_wp2
    go_ret
    exact ⟨rfl, Chg.refl _ _⟩

end Go.Proofs.Ytbnhnmfmgfoacaa
