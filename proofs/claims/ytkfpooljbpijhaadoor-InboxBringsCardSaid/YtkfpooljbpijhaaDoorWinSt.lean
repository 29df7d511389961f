/- Package window: a window of a call's own; uniform states; the law package's lives. -/
import Derived.Test.YtkfpooljbpijhaaDoorWinAy
import Derived.Test.YtkfpooljbpijhaaDoorMkLaid
set_option linter.unusedVariables false
set_option linter.unusedSimpArgs false
namespace Go.Proofs.YtkfpooljbpijhaaDoor
open Go.RowKit

theorem WS.ack_ok {s : WS} (h : s.Ok) {n : Nat} (num : Int) (m : Nat) (_hn : n ≤ s.size) (h0 : 0 ≤ num) (h1 : num < 65536) : (s.ack n num m).Ok where
  size1 := h.size1
  size2 := h.size2
  wait1 := h.wait1
  wait2 := h.wait2
  base0 := h0
  base1 := h1
  sent := fun i => by
    show (shiftF (markF s n (Bt.bitsL m)) n i).1 ≤ _
    unfold shiftF
    split
    · exact h.sent _
    · simp
  far := fun i hi => by
    show shiftF (markF s n (Bt.bitsL m)) n i = _
    unfold shiftF
    split
    · unfold markF
      have := h.far (n + i) (by have : s.size ≤ i := hi; omega)
      rw [this]
      simp
    · rfl
theorem WS.reset_ok {s : WS} (h : s.Ok) : (WS.new s.size s.wait).Ok := WS.new_ok h.size1 h.size2 h.wait1 h.wait2
theorem openN_le_size {s : WS} (h : s.Ok) : openN s.f 32 ≤ s.size := by
  have h2 := h.size2
  have key : ∀ d, s.size + d ≤ 32 → openN s.f (s.size + d) = openN s.f s.size := by
    intro d
    induction d with
    | zero => intro _; rfl
    | succ d ih =>
      intro hd
      rw [← Nat.add_assoc, openN_succ, ih (by omega), h.far (s.size + d) (by omega)]
      rfl
  have := key (32 - s.size) (by omega)
  rw [show s.size + (32 - s.size) = 32 from by omega] at this
  rw [this]
  exact openN_le _ _

/-- A window of the call's own: the call began at w0. -/
structure WSt (w0 w : World) (p : Nat) (s : WS) : Prop where
  win : WinAt w p s
  ok : s.Ok
  own : w0.heap.size ≤ p
  chg : Chg [] w0 w
section
variable {w0 w w' : World} {p : Nat} {s : WS}
theorem WSt.to (h : WSt w0 w p s) (hc : Chg [] w w') : WSt w0 w' p s := ⟨h.win.chg hc (by simp), h.ok, h.own, h.chg.trans hc⟩
theorem WSt.step (h : WSt w0 w p s) {s' : WS} (hw : WinAt w' p s') (ho : s'.Ok) (hc : Chg [p] w w') : WSt w0 w' p s' :=
  ⟨hw, ho, h.own, h.chg.then_ hc (fun b hb => by simp at hb; subst hb; exact .inr h.own)⟩
theorem WSt.new (w0 w : World) (hc0 : Chg [] w0 w) (n t : Nat) (h1 : 1 ≤ n) (h2 : n ≤ 32) (h3 : 1 ≤ t) (h4 : t ≤ 1000) : Calls Tryd.prog 4 #[.int .i64 (n : Nat), .int .i64 (t : Nat)] w fun e w' =>
    e = .returned (.pointer (some ⟨w.heap.size, 0, none⟩)) ∧ WSt w0 w' w.heap.size (WS.new n t) ∧ Chg [] w w' :=
  (wnew_yes n t w h1 h2 h3 h4).mono fun _ _ ⟨he, hw, hc⟩ => ⟨he, ⟨hw, WS.new_ok h1 h2 h3 h4, hc0.size, hc0.trans hc⟩, hc⟩
theorem WSt.send (h : WSt w0 w p s) (hv now : Int) : Calls Tryd.prog 7 #[.pointer (some ⟨p, 0, none⟩), .int .i64 hv, .int .i64 now] w fun e w' =>
    ∃ A c, e = .returned (.slice A (s.sends hv now).length c) ∧ SlAt w' A ((s.sends hv now).map encN) c ∧ WSt w0 w' p (s.send hv now) ∧ Chg [p] w w' ∧ (∀ a, A = some a → w.heap.size ≤ a.block) :=
  (send_win h.win h.ok hv now).mono fun _ _ ⟨A, c, he, ho, hw, hc⟩ => ⟨A, c, he, (SlAt.of_owns ho).1, h.step hw (WS.send_ok h.ok hv now) hc, hc, SlAt.of_owns_le ho⟩
theorem WSt.num (h : WSt w0 w p s) (i : Int) : Calls Tryd.prog 8 #[.pointer (some ⟨p, 0, none⟩), .int .i64 i] w fun e w' => e = .returned (.int .u16 (moveN s.base i)) ∧ w = w' := num_win h.win h.ok i
/-- Nothing is done: the number is out, or a place was not sent. -/
def ackNo (s : WS) (num : Int) : Prop := farZ s.base num < 0 ∨ (s.size : Int) < farZ s.base num ∨ ∃ i : Nat, (i : Int) < farZ s.base num ∧ (s.f i).1 = 0
theorem WSt.ackNo (h : WSt w0 w p s) (num : Int) (m : Nat) (hno : ackNo s num) : Calls Tryd.prog 13 #[.pointer (some ⟨p, 0, none⟩), .int .u16 num, .int .u64 (m : Nat)] w fun e w' => e = .returned (.int .i64 0) ∧ WSt w0 w' p s ∧ Chg [] w w' := by
  by_cases h1 : farZ s.base num < 0 ∨ (s.size : Int) < farZ s.base num
  · exact (ack_out h.win h.ok num m h1).mono fun _ _ ⟨he, hc⟩ => ⟨he, h.to hc, hc⟩
  · rcases hno with hno | hno | ⟨i, hi, hz⟩
    · exact absurd (Or.inl hno) h1
    · exact absurd (Or.inr hno) h1
    · obtain ⟨n, hn⟩ : ∃ n : Nat, farZ s.base num = (n : Int) := ⟨(farZ s.base num).toNat, by omega⟩
      exact (ack_unsent h.win h.ok num m n i hn (by omega) (by omega) hz).mono fun _ _ ⟨he, hc⟩ => ⟨he, h.to hc, hc⟩
theorem WSt.ack (h : WSt w0 w p s) (hL : Laid w0) (num : Int) (m n : Nat) (hm : m < 18446744073709551616) (hn : farZ s.base num = (n : Int)) (hns : n ≤ s.size) (hall : ∀ i, i < n → 0 < (s.f i).1) (h0 : 0 ≤ num) (h1 : num < 65536) :
    Calls Tryd.prog 13 #[.pointer (some ⟨p, 0, none⟩), .int .u16 num, .int .u64 (m : Nat)] w fun e w' => e = .returned (.int .i64 (n : Nat)) ∧ WSt w0 w' p (s.ack n num m) ∧ Chg [p] w w' :=
  (ack_yes h.win h.ok num m n w0.heap.size hn hns hall hm hL.lt h.own (hL.of_cell fun j => h.chg.cell (p := ⟨0, j, none⟩) hL.lt (by simp))).mono fun _ _ ⟨he, hw, hc⟩ => ⟨he, h.step hw (WS.ack_ok h.ok num m hns h0 h1) hc, hc⟩
end
theorem Laid.to {w w' : World} (h : Laid w) (hc : Chg [] w w') : Laid w' := h.of_cell fun j => hc.cell (p := ⟨0, j, none⟩) h.lt (by simp)

/-! ### Uniform states -/
def uni (k v : Nat) : Nat → Nat × Bool := fun i => if i < k then (v, false) else (0, false)
theorem new_uni (n t : Nat) : (WS.new n t).f = uni 0 0 := by funext i; simp [WS.new, uni]
theorem uni_zero (v : Nat) : uni 0 v = uni 0 0 := by funext i; simp [uni]
theorem openN_uni (k v : Nat) (hv : 0 < v) : ∀ m, openN (uni k v) m = min k m
  | 0 => by simp [openN]
  | m + 1 => by
    rw [openN_succ, openN_uni k v hv m]
    unfold uni openB
    by_cases h : m < k
    · rw [if_pos h]; simp [hv]; omega
    · rw [if_neg h]; simp; omega
/-- All are due. -/
theorem sentL_all (s : WS) (now k : Nat) (h : ∀ i, i < k → due s.wait now (s.f i) = true) : sentL s now k = List.range k := by
  unfold sentL
  rw [List.filter_eq_self.2]
  intro i hi
  exact h i (List.mem_range.1 hi)
theorem sentL_none (s : WS) (now k : Nat) (h : ∀ i, i < k → due s.wait now (s.f i) = false) : sentL s now k = [] := by
  unfold sentL
  rw [List.filter_eq_nil_iff]
  intro i hi
  simp [h i (List.mem_range.1 hi)]
theorem sentF_none (s : WS) (now k : Nat) (h : ∀ i, i < k → due s.wait now (s.f i) = false) : sentF s now k = s.f := by
  funext i
  unfold sentF
  rw [if_neg]
  rintro ⟨h1, h2⟩
  rw [h i h1] at h2
  cases h2
theorem sentF_uni (s : WS) (now k v j : Nat) (hs : s.f = uni j v) (hj : j ≤ k) (h : ∀ i, i < k → due s.wait now (s.f i) = true) : sentF s now k = uni k (now + 1) := by
  funext i
  unfold sentF
  by_cases hi : i < k
  · rw [if_pos ⟨hi, h i hi⟩, hs]
    unfold uni
    rw [if_pos hi]
    split <;> rfl
  · rw [if_neg (fun hh => hi hh.1), hs]
    unfold uni
    rw [if_neg (by omega), if_neg hi]
theorem due_zero (wait now : Nat) : due wait now (0, false) = true := by simp [due]
theorem due_late (wait now v : Nat) (h : (now : Int) - ((v : Int) - 1) ≥ wait) : due wait now (v, false) = true := by
  unfold due
  rw [decide_eq_false (by omega : ¬ (now : Int) - ((v : Int) - 1) < wait)]
  simp
theorem due_early (wait now v : Nat) (hv : 0 < v) (h : (now : Int) - ((v : Int) - 1) < wait) : due wait now (v, false) = false := by
  unfold due
  rw [decide_eq_true h, decide_eq_true hv]
  rfl

/-! ### The law package's lives -/
theorem SlAt.lit (w : World) (cs : List Value) (t : TypeId) : SlAt (w.alloc (.cells cs.toArray t)) (some ⟨w.heap.size, 0, none⟩) cs cs.length :=
  ⟨Nat.le_refl _, fun i u hu => ⟨_, rfl, by rw [Addr.add_mid, Nat.zero_add, (Blk.new w t cs.toArray).cell, List.getElem?_toArray]; exact hu⟩⟩
def v1 : WS := (WS.new 2 3).send 5 0
def v2 : WS := v1.send 5 1
def v3 : WS := v2.ack 1 1 0
def v4 : WS := v3.send 5 1
end Go.Proofs.YtkfpooljbpijhaaDoor
