/- A set of the call's own. -/
import Derived.Test.YthgejgfdpmbpaaaSpAdd
set_option linter.unusedVariables false
set_option linter.unusedSimpArgs false
namespace Go.Proofs.Ythgejgfdpmbpaaa
open Go.RowKit Go.Shelf

/-- A set of the call's own: the call began at w. -/
structure St (w W : World) (p : Nat) (R : List Rng) : Prop where
  set_ : SetAt W p R
  chg : Chg [] w W
  own : w.heap.size ≤ p
theorem St.to {w W W' : World} {p : Nat} {R : List Rng} (h : St w W p R) (hc : Chg [] W W') : St w W' p R := ⟨h.set_.chg hc, h.chg.trans hc, h.own⟩
theorem St.other {w W W' : World} {p q : Nat} {R S : List Rng} (h : St w W p R) (k : St w W q S) (hne : p ≠ q) (hc : Chg [q] W W') : St w W' p R :=
  ⟨h.set_.other k.set_ hne hc, h.chg.then_ hc (fun b hb => by simp at hb; subst hb; exact .inr k.own), h.own⟩
theorem St.new (w0 w : World) (hc : Chg [] w0 w) : Calls Try.prog 24 #[] w fun e w' => e = .returned (.pointer (some ⟨w.heap.size, 0, none⟩)) ∧ St w0 w' w.heap.size [] ∧ Chg [] w w' ∧ w.heap.size < w'.heap.size :=
  (new_any w).mono fun _ _ ⟨he, h1, h2⟩ => ⟨he, ⟨h1, hc.trans h2, hc.size⟩, h2, h1.lt⟩
theorem St.add {w W : World} {p : Nat} {R : List Rng} (h : St w W p R) (n : Nat) (R' : List Rng) (b : Bool) (hw : WF 1 R) (hn : n < M64) (hl : R.length ≤ 1000000) (hb : (0 < n && !memR R n) = b) (hR : addR R n = R') :
    Calls Try.prog 26 #[.pointer (some ⟨p, 0, none⟩), .int .u64 (n : Nat)] W fun e w' => e = .returned (.bool b) ∧ St w w' p R' ∧ Chg [p] W w' := by
  subst hb hR
  exact (add_any W p R n h.set_ hw hl hn).mono fun _ _ ⟨he, h1, h2⟩ => ⟨he, ⟨h1, h.chg.then_ h2 (fun b hb => by simp at hb; subst hb; exact .inr h.own), h.own⟩, h2⟩
theorem St.has {w W : World} {p : Nat} {R : List Rng} (h : St w W p R) (n : Nat) (b : Bool) (hw : WF 1 R) (hl : R.length ≤ 1000000) (hb : memR R n = b) :
    Calls Try.prog 28 #[.pointer (some ⟨p, 0, none⟩), .int .u64 (n : Nat)] W fun e w' => e = .returned (.bool b) ∧ Chg [] W w' ∧ St w w' p R := by
  subst hb
  exact (has2_any W p R n h.set_ hw hl).mono fun _ _ ⟨he, hc⟩ => ⟨he, hc, h.to hc⟩
theorem St.ranges {w W : World} {p : Nat} {R : List Rng} (h : St w W p R) (hl : R.length ≤ 1000000) :
    Calls Try.prog 27 #[.pointer (some ⟨p, 0, none⟩)] W fun e w' => ∃ A cap, e = .returned (.slice A R.length cap) ∧ RowAt w' A cap R ∧ Chg [] W w' ∧ St w w' p R :=
  (ranges2_any W p R h.set_ hl).mono fun _ _ ⟨A, cap, he, hr, hc, _⟩ => ⟨A, cap, he, hr, hc, h.to hc⟩

end Go.Proofs.Ythgejgfdpmbpaaa
