/- The law package of span: lives, Same. -/
import Derived.Test.YtbnhnmfmgfoacaaSpAdd
set_option linter.unusedVariables false
set_option linter.unusedSimpArgs false
namespace Go.Proofs.Ytbnhnmfmgfoacaa
open Go.RowKit Go.Shelf

/-- A set of the call's own: the call began at w. -/
structure St (w W : World) (p : Nat) (R : List Rng) : Prop where
  set_ : SetAt W p R
  chg : Chg [] w W
  own : w.heap.size ≤ p
theorem St.to {w W W' : World} {p : Nat} {R : List Rng} (h : St w W p R) (hc : Chg [] W W') : St w W' p R := ⟨h.set_.chg hc, h.chg.trans hc, h.own⟩
theorem St.other {w W W' : World} {p q : Nat} {R S : List Rng} (h : St w W p R) (k : St w W q S) (hne : p ≠ q) (hc : Chg [q] W W') : St w W' p R :=
  ⟨h.set_.other k.set_ hne hc, h.chg.then_ hc (fun b hb => by simp at hb; subst hb; exact .inr k.own), h.own⟩
theorem St.new (w0 w : World) (hc : Chg [] w0 w) : Calls Try.prog 11 #[] w fun e w' => e = .returned (.pointer (some ⟨w.heap.size, 0, none⟩)) ∧ St w0 w' w.heap.size [] ∧ Chg [] w w' ∧ w.heap.size < w'.heap.size :=
  (new_any w).mono fun _ _ ⟨he, h1, h2⟩ => ⟨he, ⟨h1, hc.trans h2, hc.size⟩, h2, h1.lt⟩
theorem St.add {w W : World} {p : Nat} {R : List Rng} (h : St w W p R) (n : Nat) (R' : List Rng) (b : Bool) (hw : WF 1 R) (hn : n < M64) (hl : R.length ≤ 1000000) (hb : (0 < n && !memR R n) = b) (hR : addR R n = R') :
    Calls Try.prog 12 #[.pointer (some ⟨p, 0, none⟩), .int .u64 (n : Nat)] W fun e w' => e = .returned (.bool b) ∧ St w w' p R' ∧ Chg [p] W w' := by
  subst hb hR
  exact (add_any W p R n h.set_ hw hl hn).mono fun _ _ ⟨he, h1, h2⟩ => ⟨he, ⟨h1, h.chg.then_ h2 (fun b hb => by simp at hb; subst hb; exact .inr h.own), h.own⟩, h2⟩
theorem St.has {w W : World} {p : Nat} {R : List Rng} (h : St w W p R) (n : Nat) (b : Bool) (hw : WF 1 R) (hl : R.length ≤ 1000000) (hb : memR R n = b) :
    Calls Try.prog 15 #[.pointer (some ⟨p, 0, none⟩), .int .u64 (n : Nat)] W fun e w' => e = .returned (.bool b) ∧ Chg [] W w' ∧ St w w' p R := by
  subst hb
  exact (has2_any W p R n h.set_ hw hl).mono fun _ _ ⟨he, hc⟩ => ⟨he, hc, h.to hc⟩
theorem St.ranges {w W : World} {p : Nat} {R : List Rng} (h : St w W p R) (hl : R.length ≤ 1000000) :
    Calls Try.prog 17 #[.pointer (some ⟨p, 0, none⟩)] W fun e w' => ∃ A cap, e = .returned (.slice A R.length cap) ∧ RowAt w' A cap R ∧ Chg [] W w' ∧ St w w' p R :=
  (ranges2_any W p R h.set_ hl).mono fun _ _ ⟨A, cap, he, hr, hc, _⟩ => ⟨A, cap, he, hr, hc, h.to hc⟩

set_option maxRecDepth 100000 in
set_option maxHeartbeats 4000000 in
theorem lives_any (w : World) : Calls Try.prog 10 #[] w fun e w' => e = .returned (.bool true) ∧ Chg [] w w' := by
  have l2 : lowR [(1, 2), (5, 5)] = 2 := by decide
  have t5 : topR [(1, 2), (5, 5)] = 5 := by decide
  have g1 : gapsR [(1, 2), (5, 5)] = 1 := by decide
  have l5 : lowR [(1, 5)] = 5 := by decide
  go_enter Try.func10, Try.ntmps10
  go_wp2_with fail
  refine (St.new w w (Chg.refl _ _)).mono ?_
  rintro e w1 ⟨rfl, hs, hc, hlt⟩
  have HS1 := Lib.hid hs
  clear hs hc
  go_wp2_with fail
  refine (St.add HS1.out 1 [(1, 1)] true (by simp [WF, M64]) (by decide) (by decide) (by decide) (by decide)).mono ?_
  rintro e w2 ⟨rfl, hs, hc⟩
  have HS2 := Lib.hid hs
  clear hs hc
  go_wp2_with fail
  refine (St.add HS2.out 2 [(1, 2)] true (by simp [WF, M64]) (by decide) (by decide) (by decide) (by decide)).mono ?_
  rintro e w3 ⟨rfl, hs, hc⟩
  have HS3 := Lib.hid hs
  clear hs hc
  go_wp2_with fail
  refine (St.add HS3.out 5 [(1, 2), (5, 5)] true (by simp [WF, M64]) (by decide) (by decide) (by decide) (by decide)).mono ?_
  rintro e w4 ⟨rfl, hs, hc⟩
  have HS4 := Lib.hid hs
  clear hs hc
  go_wp2_with fail
  refine (low_any _ _ _ HS4.out.set_).mono ?_
  rintro e w' ⟨rfl, rfl⟩
  rw [l2]
  go_wp2_with fail
  refine (top_any _ _ _ HS4.out.set_ (by decide)).mono ?_
  rintro e w' ⟨rfl, rfl⟩
  rw [t5]
  go_wp2_with fail
  refine (gaps_any _ _ _ HS4.out.set_ (by decide)).mono ?_
  rintro e w' ⟨rfl, rfl⟩
  rw [g1]
  go_wp2_with fail
  refine (St.add HS4.out 3 [(1, 3), (5, 5)] true (by simp [WF, M64]) (by decide) (by decide) (by decide) (by decide)).mono ?_
  rintro e w5 ⟨rfl, hs, hc⟩
  have HS5 := Lib.hid hs
  clear hs hc
  go_wp2_with fail
  refine (St.add HS5.out 4 [(1, 5)] true (by simp [WF, M64]) (by decide) (by decide) (by decide) (by decide)).mono ?_
  rintro e w6 ⟨rfl, hs, hc⟩
  have HS6 := Lib.hid hs
  clear hs hc
  go_wp2_with fail
  refine (St.add HS6.out 3 [(1, 5)] false (by simp [WF, M64]) (by decide) (by decide) (by decide) (by decide)).mono ?_
  rintro e w7 ⟨rfl, hs, hc⟩
  have HS7 := Lib.hid hs
  clear hs hc
  go_wp2_with fail
  refine (St.ranges HS7.out (by decide)).mono ?_
  rintro e w8 ⟨A, cap, rfl, hr, hc, hs⟩
  have HS8 := Lib.hid hs
  clear hr hs hc
  go_wp2_with fail
  refine (low_any _ _ _ HS8.out.set_).mono ?_
  rintro e w' ⟨rfl, rfl⟩
  rw [l5]
  go_wp2_with fail
  refine (St.has HS8.out 4 true (by simp [WF, M64]) (by decide) (by decide)).mono ?_
  rintro e w9 ⟨rfl, hc, hs⟩
  have HS9 := Lib.hid hs
  clear hs hc
  go_wp2_with fail
  refine (St.has HS9.out 6 false (by simp [WF, M64]) (by decide) (by decide)).mono ?_
  rintro e w10 ⟨rfl, hc, hs⟩
  have HS10 := Lib.hid hs
  clear hs hc
  go_wp2
  go_ret
  exact ⟨rfl, HS10.out.chg⟩
end Go.Proofs.Ytbnhnmfmgfoacaa
