/- Package span: Ranges; slices.Clone. -/
import Derived.Test.YthgejgfdpmbpaaaSpLow
import Derived.Laws.OwnMore
import Derived.Deep.AppendLies
import Derived.Laws.Cover3
set_option linter.unusedVariables false
set_option linter.unusedSimpArgs false
namespace Go.Proofs.Ythgejgfdpmbpaaa
open Go.RowKit Go.Shelf

theorem info_parts {α β γ δ : Type} {o : Option α} {f : α → β} {g : α → γ} {h : α → δ} {a : β} {b : γ} {c : δ} (e : o.map (fun i => (f i, g i, h i)) = some (a, b, c)) : ∃ i, o = some i ∧ f i = a ∧ g i = b ∧ h i = c := by
  cases o with
  | none => cases e
  | some i =>
    simp only [Option.map_some, Option.some.injEq, Prod.mk.injEq] at e
    exact ⟨i, rfl, e.1, e.2.1, e.2.2⟩
def zeroR : Value := .agg #[.int .u64 0, .int .u64 0]
theorem infoR : (Try.prog.info? 64).map (fun i => (i.zero, i.size, i.bytes)) = some (some zeroR, 2, 16) := by kernel_rfl

/-- A row of one's own, as a row. -/
theorem RowAt.of_owns {w : World} {base : Nat} {A : Option Addr} {n cap : Nat} {R : List Rng} (h : w.ownsRow base 64 2 (.slice A n cap) n (cellsR R)) (hn : n = R.length) : RowAt w A cap R := by
  subst hn
  rcases h.2 with ⟨h1, h2⟩ | ⟨g, cap', cur, h1, hb, hg, hnc, _, hcs, ht⟩
  · simp only [Value.slice.injEq] at h1
    exact .inl ⟨h1.1, List.eq_nil_of_length_eq_zero h2, h1.2.2⟩
  · simp only [Value.slice.injEq] at h1
    obtain ⟨rfl, _, rfl⟩ := h1
    refine .inr ⟨g, rfl, (Array.getElem?_eq_some_iff.1 hg).1, hnc, fun j u hu => ?_, cur, hg⟩
    rw [cell_of_row w g j cur _ (0, 0) hg, ← Array.getElem?_toList]
    have hj : j < (cellsR R).length := (List.getElem?_eq_some_iff.1 hu).1
    rw [← ht, List.getElem?_take] at hu
    rw [cellsR_len] at hj
    rwa [if_pos hj] at hu
theorem own_form {w : World} {base : Nat} {e : TypeId} {size n : Nat} {v : Value} {xs : List Value} (h : w.ownsRow base e size v n xs) : ∃ A cap, v = .slice A n cap ∧ ∀ b, A = some b → base ≤ b.block := by
  rcases h.2 with ⟨h1, h2⟩ | ⟨g, cap', cur, h1, hb, _⟩
  · exact ⟨none, 0, by rw [h1, h2], fun _ h => by cases h⟩
  · exact ⟨_, _, h1, fun b h => by cases h; exact hb⟩

theorem run_eql_slice_nil {P : Program} (w : World) (t e : TypeId) (A : Option Addr) (l c : Nat) (h : P.underlying t = some (.slice e)) :
    (binOp .eql t (.slice A l c) (.slice none 0 0)).run P w = .ok (.bool A.isNone) w := by
  simp only [binOp]
  simp [run_equal_slice_nil w t e A l c h]
theorem add_zero_ (b j : Nat) : (⟨b, 0, none⟩ : Addr).add j = ⟨b, j, none⟩ := by
  unfold Addr.add
  split <;> simp_all

set_option maxHeartbeats 1000000 in
theorem clone_any (w : World) (A : Option Addr) (cap : Nat) (R : List Rng) (hr : RowAt w A cap R) (hsz : R.length ≤ 1000000) :
    Calls Try.prog 43 #[.slice A R.length cap] w fun e w' => ∃ A' cap', e = .returned (.slice A' R.length cap') ∧ RowAt w' A' cap' R ∧ Chg [] w w' ∧ ∀ b, A' = some b → w.heap.size ≤ b.block := by
  have hnil := fun w A l c => run_eql_slice_nil (P := Try.prog) w 30 64 A l c Try.underlying30
  rcases hr with ⟨rfl, rfl, rfl⟩ | ⟨b, rfl, hb, hl, hx, _⟩
  · go_enter Try.func43, Try.ntmps43
    go_wp2
    go_ret
    exact ⟨none, 0, rfl, .inl ⟨rfl, rfl, rfl⟩, Chg.refl _ _, fun _ h => by cases h⟩
  · obtain ⟨i0, hi, hz0, hz1, hz2⟩ := info_parts infoR
    obtain ⟨len, hlen⟩ : ∃ len, len = R.length := ⟨_, rfl⟩
    have hcl : (cellsR R).length = len * 2 := by rw [cellsR_len, hlen]
    rw [← hlen] at hl hsz ⊢
    have hcells : ∀ (o : Obj) (j : Nat) (u : Value), (cellsR R)[j]? = some u → (w.alloc o).cell? ((⟨b, 0, none⟩ : Addr).add j) = some u := fun o j u hu => by
      rw [add_zero_]
      exact ((Chg.refl [] w).alloc o).cell_some (hx j u hu) (by simp)
    have hone := cellsR_one R
    obtain ⟨xs, hxs⟩ : ∃ xs, xs = cellsR R := ⟨_, rfl⟩
    rw [← hxs] at hcl hcells hone
    have HR := Lib.hid (And.intro hlen hxs)
    clear hlen hxs hx
    go_enter Try.func43, Try.ntmps43
    go_wp2_with (at_builtin; refine wpList_append_own _ rfl _ _ 30 rfl w.heap.size 64 i0 zeroR 2 16 Try.underlying30 hi hz0 hz1 hz2 rfl (by decide) _ 0 [] rfl (World.ownsRow_made w #[] 0 (Nat.le_refl _) (by decide) rfl) ⟨b, 0, none⟩ len cap xs rfl hcl (hcells _) hone (by simp only [maxLen]; omega) (by omega) (by simp) ?_; intro v' w1 hown' hgrow _)
    rw [Nat.zero_add] at hown'
    obtain ⟨A', cap', rfl, hfr⟩ := own_form hown'
    go_ret
    obtain ⟨h1, h2⟩ := HR.out
    rw [h2, List.nil_append] at hown'
    refine ⟨A', cap', rfl, RowAt.of_owns hown' h1, ((Chg.refl [] w).alloc _).grown hgrow ?_, hfr⟩
    intro k hk
    simp [Act.eval, Value.ownBlock] at hk
    exact .inr (by omega)

/-- Ranges. -/
theorem ranges2_any (w : World) (p : Nat) (R : List Rng) (h : SetAt w p R) (hsz : R.length ≤ 1000000) : Calls Try.prog 27 #[.pointer (some ⟨p, 0, none⟩)] w fun e w' =>
    ∃ A' cap', e = .returned (.slice A' R.length cap') ∧ RowAt w' A' cap' R ∧ Chg [] w w' ∧ ∀ b, A' = some b → w.heap.size ≤ b.block := by
  obtain ⟨A, cap, hb, hr, hin⟩ := h
  have HB := Lib.hid hb
  have HC := Lib.hid (clone_any w A cap R hr hsz)
  clear hb hr hin
  obtain ⟨len, hlen⟩ : ∃ len, len = R.length := ⟨_, rfl⟩
  rw [← hlen] at HB HC ⊢
  clear hlen
  go_enter Try.func27, Try.ntmps27
  go_wp2_with (first
    | (go_at_call 44; refine (ranges_any _ p (.slice A len cap) (.bool true) HB.out ⟨_, _, _, rfl⟩).mono ?_; rintro e w' ⟨rfl, rfl⟩)
    | (go_at_call 43; refine HC.out.mono ?_; rintro e w' ⟨A', cap', rfl, h1, h2, h3⟩; have HX := Lib.hid (And.intro h1 (And.intro h2 h3)); clear h1 h2 h3))
  go_ret
  exact ⟨A', cap', rfl, HX.out.1, HX.out.2.1, HX.out.2.2⟩
end Go.Proofs.Ythgejgfdpmbpaaa
