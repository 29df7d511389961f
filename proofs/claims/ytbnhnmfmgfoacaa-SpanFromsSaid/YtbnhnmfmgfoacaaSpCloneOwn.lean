/- Package span: Ranges hands back a row of the call's own. -/
import Derived.Test.YtbnhnmfmgfoacaaSpSort
set_option linter.unusedVariables false
set_option linter.unusedSimpArgs false
namespace Go.Proofs.Ytbnhnmfmgfoacaa
open Go.RowKit Go.Shelf
set_option maxHeartbeats 1000000 in
theorem clone_own (w : World) (A : Option Addr) (cap : Nat) (R : List Rng) (hr : RowAt w A cap R) (hsz : R.length ≤ 1000000) :
    Calls Try.prog 34 #[.slice A R.length cap] w fun e w' => ∃ v', e = .returned v' ∧ w'.ownsRow w.heap.size 36 2 v' R.length (cellsR R) ∧ Chg [] w w' := by
  have hnil := fun w A l c => run_eql_slice_nil (P := Try.prog) w 27 36 A l c Try.underlying27
  rcases hr with ⟨rfl, rfl, rfl⟩ | ⟨b, rfl, hb, hl, hx, _⟩
  · go_enter Try.func34, Try.ntmps34
    go_wp2
    go_ret
    exact ⟨_, rfl, World.ownsRow_nil _ _ _ _, Chg.refl _ _⟩
  · obtain ⟨i0, hi, hz0, hz1, hz2⟩ := info_parts infoR
    obtain ⟨len, hlen⟩ : ∃ len, len = R.length := ⟨_, rfl⟩
    have hcl : (cellsR R).length = len * 2 := by rw [cellsR_len, hlen]
    rw [← hlen] at hl hsz ⊢
    have hcells : ∀ (o : Obj) (j : Nat) (u : Value), (cellsR R)[j]? = some u → (w.alloc o).cell? ((⟨b, 0, none⟩ : Addr).add j) = some u := fun o j u hu => by
      rw [add_zero_]
      exact ((Chg.refl [] w).alloc o).cell_some (hx j u hu) (by simp)
    have hone := cellsR_one R
    obtain ⟨xs, hxs⟩ : ∃ xs, xs = cellsR R := ⟨_, rfl⟩
    rw [← hxs] at hcl hcells hone ⊢
    clear hlen hxs hx
    go_enter Try.func34, Try.ntmps34
    go_wp2_with (at_builtin; refine wpList_append_own _ rfl _ _ 27 rfl w.heap.size 36 i0 zeroR 2 16 Try.underlying27 hi hz0 hz1 hz2 rfl (by decide) _ 0 [] rfl (World.ownsRow_made w #[] 0 (Nat.le_refl _) (by decide) rfl) ⟨b, 0, none⟩ len cap xs rfl hcl (hcells _) hone (by simp only [maxLen]; omega) (by omega) (by simp) ?_; intro v' w1 hown' hgrow _)
    rw [Nat.zero_add] at hown'
    obtain ⟨A', cap', rfl, hfr⟩ := own_form hown'
    go_ret
    rw [List.nil_append] at hown'
    refine ⟨_, rfl, hown', ((Chg.refl [] w).alloc _).grown hgrow ?_⟩
    intro k hk
    simp [Act.eval, Value.ownBlock] at hk
    exact .inr (by omega)
/-- A place that Ranges hands R back from, in all later worlds. -/
def Src (a : Option Addr) (R : List Rng) (w : World) : Prop := ∀ W, Chg [] w W → Calls Try.prog 17 #[.pointer a] W fun e w' => ∃ v, e = .returned v ∧ w'.ownsRow W.heap.size 36 2 v R.length (cellsR R) ∧ Chg [] W w'
theorem src_emp {a : Option Addr} {w : World} (h : Emp a w) : Src a [] w := fun W hc => (emp_ranges2 (h.chg hc)).mono fun _ w' ⟨he, hw⟩ => ⟨_, he, World.ownsRow_nil _ _ _ _, by rw [hw]; exact Chg.refl _ _⟩
theorem src_set {p : Nat} {R : List Rng} {w : World} (h : SetAt w p R) (hsz : R.length ≤ 1000000) : Src (some ⟨p, 0, none⟩) R w := by
  intro W hcw
  have h := h.chg hcw
  obtain ⟨A, cap, hb, hr, hin⟩ := h
  have HB := Lib.hid hb
  have HC := Lib.hid (clone_own W A cap R hr hsz)
  clear hb hr hin
  obtain ⟨len, hlen⟩ : ∃ len, len = R.length := ⟨_, rfl⟩
  rw [← hlen] at HB HC ⊢
  clear hlen
  go_enter Try.func17, Try.ntmps17
  go_wp2_with (first
    | (go_at_call 33; refine (ranges_any _ p (.slice A len cap) (.bool true) HB.out ⟨_, _, _, rfl⟩).mono ?_; rintro e w' ⟨rfl, rfl⟩)
    | (go_at_call 34; refine HC.out.mono ?_; rintro e w' ⟨v', rfl, h1, h2⟩; have HX := Lib.hid (And.intro h1 h2); clear h1 h2))
  go_ret
  exact ⟨_, rfl, HX.out.1, HX.out.2⟩
end Go.Proofs.Ytbnhnmfmgfoacaa
