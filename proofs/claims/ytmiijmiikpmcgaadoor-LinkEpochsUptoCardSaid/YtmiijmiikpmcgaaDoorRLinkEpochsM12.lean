/- Texts joined: LkTick, LkLd, WinUn. -/
import Derived.Test.YtmiijmiikpmcgaaDoorRows
import Derived.Lib.LaidTab
import Derived.Test.YtmiijmiikpmcgaaDoorRLinkEpochsM3
import Derived.Test.YtmiijmiikpmcgaaDoorRLinkEpochsM7
import Derived.Test.YtmiijmiikpmcgaaDoorRLinkEpochsM9
import Derived.Test.YtmiijmiikpmcgaaDoorRLinkEpochsM10
section
/- Package link: the end that sends: greet, Tick. -/
set_option linter.unusedVariables false
set_option linter.unusedSimpArgs false
namespace Go.Proofs.YtmiijmiikpmcgaaDoor
open Go.RowKit
open Go.Proofs.YtmiijmiikpmcgaaDoor.Pk (Pkt)

section
variable {w0 w w' : World} {b p : Nat} {s s' : OS}
def OS.waits (s : OS) (n : Nat) : Bool := decide (0 < s.hello) && decide ((n : Int) - (s.hello - 1) < s.wait)
set_option maxRecDepth 100000 in
set_option maxHeartbeats 4000000 in
theorem greet_out (h : OSt w0 w b p s) (n : Nat) (hn : n ≤ 1125899906842624) (g0 : 0 ≤ s.hello) (g1 : s.hello ≤ 1125899906842625) :
    Calls Tryd.prog 21 #[.pointer (some ⟨b, 0, none⟩), .int .i64 (n : Nat)] w fun e w' => ∃ A m c, e = .returned (.slice A m c) ∧ PkOw w' w.heap.size A m c (if s.waits n then [] else [sayP s.self s.other 1 s.ep]) ∧ OSt w0 w' b p (if s.waits n then s else { s with hello := (n : Int) + 1 }) ∧ Chg [b, p] w w' := by
  have H := Lib.hid h
  have f6 : ∀ k, (w.drewN k).frozen? ⟨b, 6, none⟩ = false := fun k => (h.blk.drewN k).frozen 6
  have i1 : (n : Int) ≤ 1125899906842624 := by omega
  clear h
  unfold OS.waits
  by_cases e1 : 0 < s.hello
  · have t1 := decide_eq_true e1
    by_cases e2 : (n : Int) - (s.hello - 1) < s.wait
    · have t2 := decide_eq_true e2
      simp only [t1, t2, Bool.and_self, if_true]
      have u4 := H.out.cell4
      have u6 := H.out.cell6
      go_enter Tryd.func21, Tryd.ntmps21
      go_upto_region 1 with fail
      go_quiet (fail)
      go_wp2
      go_ret
      exact ⟨none, 0, 0, rfl, PkOw.nil _ _, H.out.to ((Chg.refl [] w).drewN nq), ((Chg.refl [] w).drewN nq).mono (by simp)⟩
    · have t2 := decide_eq_false e2
      simp only [t1, t2, Bool.and_false, Bool.false_eq_true, if_false]
      have u4 := H.out.cell4
      have u6 := H.out.cell6
      go_enter Tryd.func21, Tryd.ntmps21
      go_upto_region 1 with fail
      go_quiet (fail)
      go_upto_region 4 with fail
      have hb : Blk ((w.drewN nq).setCell ⟨b, 6, none⟩ (.int .i64 ((n : Int) + 1))) b 37 (OS.cells { s with hello := (n : Int) + 1 } p) := (H.out.blk.drewN nq).set_ 6 (.int .i64 ((n : Int) + 1))
      have H1 := Lib.hid (And.intro ((H.out.to ((Chg.refl [] w).drewN nq)).step (s' := { s with hello := (n : Int) + 1 }) hb (set_chg _ b 6 _) rfl) ((((Chg.refl [b, p] w).drewN nq).trans ((set_chg (w.drewN nq) b 6 (.int .i64 ((n : Int) + 1))).mono (M := [b, p]) (by simp)))))
      clear hb u4 u6 f6
      generalize (w.drewN nq).setCell ⟨b, 6, none⟩ (.int .i64 ((n : Int) + 1)) = W1 at *
      refine wp_region_noPanic ?_
      refine wp_region_held_drew (S := fun w' => w'.cell? ⟨b, 2, none⟩ = some (.int .u64 s.ep)) (by kernel_rfl) H1.out.1.cell2 (fun hHeld => ?_)
      have H2 := Lib.hid (And.intro (H1.out.1.to ((Chg.refl [] W1).drew)) (H1.out.2.drew))
      clear H1
      generalize W1.drew = W2 at *
      refine wpAnyH_take (i := 0) (oi := _) (v := ?_) rfl (by kernel_rfl) (by kernel_rfl) (by kernel_rfl) (fun _ _ _ h => h) (Or.inl ⟨by rfl, ?_⟩) (by assumption) ?_
      rotate_left 1
      · intro w hSw
        try dsimp only at hSw
        go_simp
        try with_reducible rfl
      try simp only [List.getElem_toArray, List.getElem_cons_zero, List.getElem_cons_succ, Act.put, List.setIfInBounds_toArray, List.set_cons_zero, List.set_cons_succ]
      refine wpAnyH_take (i := 1) (oi := _) (v := ?_) rfl (by kernel_rfl) (by kernel_rfl) (by kernel_rfl) (fun _ _ _ h => h) (Or.inl ⟨by rfl, ?_⟩) (by assumption) ?_
      rotate_left 1
      · intro w hSw
        try dsimp only at hSw
        go_simp
        try with_reducible rfl
      try simp only [List.getElem_toArray, List.getElem_cons_zero, List.getElem_cons_succ, Act.put, List.setIfInBounds_toArray, List.set_cons_zero, List.set_cons_succ]
      refine wpAnyH_take (i := 2) (oi := _) (v := ?_) rfl (by kernel_rfl) (by kernel_rfl) (by kernel_rfl) (fun _ _ _ h => h) (Or.inl ⟨by rfl, ?_⟩) (by assumption) ?_
      rotate_left 1
      · intro w hSw
        try dsimp only at hSw
        go_simp
        try with_reducible rfl
      try simp only [List.getElem_toArray, List.getElem_cons_zero, List.getElem_cons_succ, Act.put, List.setIfInBounds_toArray, List.set_cons_zero, List.set_cons_succ]
      refine wpAnyH_take (i := 3) (oi := _) (v := ?_) rfl (by kernel_rfl) (by kernel_rfl) (by kernel_rfl) (fun _ _ _ h => h) (Or.inl ⟨by rfl, ?_⟩) (by assumption) ?_
      rotate_left 1
      · intro w hSw
        try dsimp only at hSw
        go_simp
        try with_reducible rfl
      try simp only [List.getElem_toArray, List.getElem_cons_zero, List.getElem_cons_succ, Act.put, List.setIfInBounds_toArray, List.set_cons_zero, List.set_cons_succ]
      refine wpAnyH_take (i := 4) (oi := _) (v := ?_) rfl (by kernel_rfl) (by kernel_rfl) (by kernel_rfl) (fun _ _ _ h => h) (Or.inl ⟨by rfl, ?_⟩) (by assumption) ?_
      rotate_left 1
      · intro w hSw
        try dsimp only at hSw
        go_simp
        try with_reducible rfl
      try simp only [List.getElem_toArray, List.getElem_cons_zero, List.getElem_cons_succ, Act.put, List.setIfInBounds_toArray, List.set_cons_zero, List.set_cons_succ]
      refine wpAnyH_take (i := 5) (oi := _) (v := ?_) rfl (by kernel_rfl) (by kernel_rfl) (by kernel_rfl) (fun _ _ _ h => h) (Or.inl ⟨by rfl, ?_⟩) (by assumption) ?_
      rotate_left 1
      · intro w hSw
        try dsimp only at hSw
        go_simp
        try with_reducible rfl
      try simp only [List.getElem_toArray, List.getElem_cons_zero, List.getElem_cons_succ, Act.put, List.setIfInBounds_toArray, List.set_cons_zero, List.set_cons_succ]
      refine wpAnyH_take (i := 6) (oi := _) (v := ?_) rfl (by kernel_rfl) (by kernel_rfl) (by kernel_rfl) (fun _ _ _ h => h) (Or.inl ⟨by rfl, ?_⟩) (by assumption) ?_
      rotate_left 1
      · intro w hSw
        try dsimp only at hSw
        go_simp
        try with_reducible rfl
      try simp only [List.getElem_toArray, List.getElem_cons_zero, List.getElem_cons_succ, Act.put, List.setIfInBounds_toArray, List.set_cons_zero, List.set_cons_succ]
      refine wpAnyH_take (i := 7) (oi := _) (v := ?_) rfl (by kernel_rfl) (by kernel_rfl) (by kernel_rfl) (fun _ _ _ h => h) (Or.inl ⟨by rfl, ?_⟩) (by assumption) ?_
      rotate_left 1
      · intro w hSw
        try dsimp only at hSw
        go_simp
        try with_reducible rfl
      try simp only [List.getElem_toArray, List.getElem_cons_zero, List.getElem_cons_succ, Act.put, List.setIfInBounds_toArray, List.set_cons_zero, List.set_cons_succ]
      refine wpAnyH_ready (rs := [8]) (by kernel_rfl) (by simp) (AllReadyH.cons rfl (fun K hK => ?_) AllReadyH.nil)
      go_simp
      refine (say_any W2 b s.self s.other 1 s.ep H2.out.1.cell0 H2.out.1.cell1).mono ?_
      rintro e w3 ⟨rfl, hc⟩
      have H3 := Lib.hid (And.intro (H2.out.1.to hc) (H2.out.2.trans (hc.mono (by simp))))
      clear hc H2
      go_wp2_with fail
      refine hK.out _ _ H3.out.1.cell2 (fun hHeld => ?_)
      clear hK K
      try simp only [List.getElem_toArray, List.getElem_cons_zero, List.getElem_cons_succ, Act.put, List.setIfInBounds_toArray, List.set_cons_zero, List.set_cons_succ]
      refine wpAnyH_ready (rs := [9]) (by kernel_rfl) (by simp) (AllReadyH.cons rfl (fun K hK => ?_) AllReadyH.nil)
      refine step_bsPk rfl _ (by rfl) (sayP s.self s.other 1 s.ep) (by rfl) ?_
      have hca := (Chg.refl [] w3).alloc (.cells (PkS.cells (sayP s.self s.other 1 s.ep)) 30)
      have H4 := Lib.hid (And.intro (H3.out.1.to hca) (And.intro (H3.out.2.trans (hca.mono (M := [b, p]) (by simp))) (PkOw.lit w3 w.heap.size (by have := H3.out.2.size; exact this) (sayP s.self s.other 1 s.ep))))
      clear hca
      refine hK.out _ _ H4.out.1.cell2 (fun hHeld => ?_)
      clear hK K
      try simp only [List.getElem_toArray, List.getElem_cons_zero, List.getElem_cons_succ, Act.put, List.setIfInBounds_toArray, List.set_cons_zero, List.set_cons_succ]
      refine wpAnyH_take (i := 10) (oi := _) (v := ?_) rfl (by kernel_rfl) (by kernel_rfl) (by kernel_rfl) (fun _ _ _ h => h) (Or.inl ⟨by rfl, ?_⟩) (by assumption) ?_
      rotate_left 1
      · intro w hSw
        try dsimp only at hSw
        go_simp
        try with_reducible rfl
      try simp only [List.getElem_toArray, List.getElem_cons_zero, List.getElem_cons_succ, Act.put, List.setIfInBounds_toArray, List.set_cons_zero, List.set_cons_succ]
      refine wpAnyH_done (by kernel_rfl) ?_ _
      refine NoPanic.normal ?_
      go_wp2
      go_ret
      exact ⟨_, 1, 1, rfl, H4.out.2.2, H4.out.1, H4.out.2.1⟩
  · have t1 := decide_eq_false e1
    simp only [t1, Bool.false_and, Bool.false_eq_true, if_false]
    have u4 := H.out.cell4
    have u6 := H.out.cell6
    go_enter Tryd.func21, Tryd.ntmps21
    go_upto_region 1 with fail
    go_quiet (fail)
    go_upto_region 4 with fail
    have hb : Blk ((w.drewN nq).setCell ⟨b, 6, none⟩ (.int .i64 ((n : Int) + 1))) b 37 (OS.cells { s with hello := (n : Int) + 1 } p) := (H.out.blk.drewN nq).set_ 6 (.int .i64 ((n : Int) + 1))
    have H1 := Lib.hid (And.intro ((H.out.to ((Chg.refl [] w).drewN nq)).step (s' := { s with hello := (n : Int) + 1 }) hb (set_chg _ b 6 _) rfl) ((((Chg.refl [b, p] w).drewN nq).trans ((set_chg (w.drewN nq) b 6 (.int .i64 ((n : Int) + 1))).mono (M := [b, p]) (by simp)))))
    clear hb u4 u6 f6
    generalize (w.drewN nq).setCell ⟨b, 6, none⟩ (.int .i64 ((n : Int) + 1)) = W1 at *
    refine wp_region_noPanic ?_
    refine wp_region_held_drew (S := fun w' => w'.cell? ⟨b, 2, none⟩ = some (.int .u64 s.ep)) (by kernel_rfl) H1.out.1.cell2 (fun hHeld => ?_)
    have H2 := Lib.hid (And.intro (H1.out.1.to ((Chg.refl [] W1).drew)) (H1.out.2.drew))
    clear H1
    generalize W1.drew = W2 at *
    refine wpAnyH_take (i := 0) (oi := _) (v := ?_) rfl (by kernel_rfl) (by kernel_rfl) (by kernel_rfl) (fun _ _ _ h => h) (Or.inl ⟨by rfl, ?_⟩) (by assumption) ?_
    rotate_left 1
    · intro w hSw
      try dsimp only at hSw
      go_simp
      try with_reducible rfl
    try simp only [List.getElem_toArray, List.getElem_cons_zero, List.getElem_cons_succ, Act.put, List.setIfInBounds_toArray, List.set_cons_zero, List.set_cons_succ]
    refine wpAnyH_take (i := 1) (oi := _) (v := ?_) rfl (by kernel_rfl) (by kernel_rfl) (by kernel_rfl) (fun _ _ _ h => h) (Or.inl ⟨by rfl, ?_⟩) (by assumption) ?_
    rotate_left 1
    · intro w hSw
      try dsimp only at hSw
      go_simp
      try with_reducible rfl
    try simp only [List.getElem_toArray, List.getElem_cons_zero, List.getElem_cons_succ, Act.put, List.setIfInBounds_toArray, List.set_cons_zero, List.set_cons_succ]
    refine wpAnyH_take (i := 2) (oi := _) (v := ?_) rfl (by kernel_rfl) (by kernel_rfl) (by kernel_rfl) (fun _ _ _ h => h) (Or.inl ⟨by rfl, ?_⟩) (by assumption) ?_
    rotate_left 1
    · intro w hSw
      try dsimp only at hSw
      go_simp
      try with_reducible rfl
    try simp only [List.getElem_toArray, List.getElem_cons_zero, List.getElem_cons_succ, Act.put, List.setIfInBounds_toArray, List.set_cons_zero, List.set_cons_succ]
    refine wpAnyH_take (i := 3) (oi := _) (v := ?_) rfl (by kernel_rfl) (by kernel_rfl) (by kernel_rfl) (fun _ _ _ h => h) (Or.inl ⟨by rfl, ?_⟩) (by assumption) ?_
    rotate_left 1
    · intro w hSw
      try dsimp only at hSw
      go_simp
      try with_reducible rfl
    try simp only [List.getElem_toArray, List.getElem_cons_zero, List.getElem_cons_succ, Act.put, List.setIfInBounds_toArray, List.set_cons_zero, List.set_cons_succ]
    refine wpAnyH_take (i := 4) (oi := _) (v := ?_) rfl (by kernel_rfl) (by kernel_rfl) (by kernel_rfl) (fun _ _ _ h => h) (Or.inl ⟨by rfl, ?_⟩) (by assumption) ?_
    rotate_left 1
    · intro w hSw
      try dsimp only at hSw
      go_simp
      try with_reducible rfl
    try simp only [List.getElem_toArray, List.getElem_cons_zero, List.getElem_cons_succ, Act.put, List.setIfInBounds_toArray, List.set_cons_zero, List.set_cons_succ]
    refine wpAnyH_take (i := 5) (oi := _) (v := ?_) rfl (by kernel_rfl) (by kernel_rfl) (by kernel_rfl) (fun _ _ _ h => h) (Or.inl ⟨by rfl, ?_⟩) (by assumption) ?_
    rotate_left 1
    · intro w hSw
      try dsimp only at hSw
      go_simp
      try with_reducible rfl
    try simp only [List.getElem_toArray, List.getElem_cons_zero, List.getElem_cons_succ, Act.put, List.setIfInBounds_toArray, List.set_cons_zero, List.set_cons_succ]
    refine wpAnyH_take (i := 6) (oi := _) (v := ?_) rfl (by kernel_rfl) (by kernel_rfl) (by kernel_rfl) (fun _ _ _ h => h) (Or.inl ⟨by rfl, ?_⟩) (by assumption) ?_
    rotate_left 1
    · intro w hSw
      try dsimp only at hSw
      go_simp
      try with_reducible rfl
    try simp only [List.getElem_toArray, List.getElem_cons_zero, List.getElem_cons_succ, Act.put, List.setIfInBounds_toArray, List.set_cons_zero, List.set_cons_succ]
    refine wpAnyH_take (i := 7) (oi := _) (v := ?_) rfl (by kernel_rfl) (by kernel_rfl) (by kernel_rfl) (fun _ _ _ h => h) (Or.inl ⟨by rfl, ?_⟩) (by assumption) ?_
    rotate_left 1
    · intro w hSw
      try dsimp only at hSw
      go_simp
      try with_reducible rfl
    try simp only [List.getElem_toArray, List.getElem_cons_zero, List.getElem_cons_succ, Act.put, List.setIfInBounds_toArray, List.set_cons_zero, List.set_cons_succ]
    refine wpAnyH_ready (rs := [8]) (by kernel_rfl) (by simp) (AllReadyH.cons rfl (fun K hK => ?_) AllReadyH.nil)
    go_simp
    refine (say_any W2 b s.self s.other 1 s.ep H2.out.1.cell0 H2.out.1.cell1).mono ?_
    rintro e w3 ⟨rfl, hc⟩
    have H3 := Lib.hid (And.intro (H2.out.1.to hc) (H2.out.2.trans (hc.mono (by simp))))
    clear hc H2
    go_wp2_with fail
    refine hK.out _ _ H3.out.1.cell2 (fun hHeld => ?_)
    clear hK K
    try simp only [List.getElem_toArray, List.getElem_cons_zero, List.getElem_cons_succ, Act.put, List.setIfInBounds_toArray, List.set_cons_zero, List.set_cons_succ]
    refine wpAnyH_ready (rs := [9]) (by kernel_rfl) (by simp) (AllReadyH.cons rfl (fun K hK => ?_) AllReadyH.nil)
    refine step_bsPk rfl _ (by rfl) (sayP s.self s.other 1 s.ep) (by rfl) ?_
    have hca := (Chg.refl [] w3).alloc (.cells (PkS.cells (sayP s.self s.other 1 s.ep)) 30)
    have H4 := Lib.hid (And.intro (H3.out.1.to hca) (And.intro (H3.out.2.trans (hca.mono (M := [b, p]) (by simp))) (PkOw.lit w3 w.heap.size (by have := H3.out.2.size; exact this) (sayP s.self s.other 1 s.ep))))
    clear hca
    refine hK.out _ _ H4.out.1.cell2 (fun hHeld => ?_)
    clear hK K
    try simp only [List.getElem_toArray, List.getElem_cons_zero, List.getElem_cons_succ, Act.put, List.setIfInBounds_toArray, List.set_cons_zero, List.set_cons_succ]
    refine wpAnyH_take (i := 10) (oi := _) (v := ?_) rfl (by kernel_rfl) (by kernel_rfl) (by kernel_rfl) (fun _ _ _ h => h) (Or.inl ⟨by rfl, ?_⟩) (by assumption) ?_
    rotate_left 1
    · intro w hSw
      try dsimp only at hSw
      go_simp
      try with_reducible rfl
    try simp only [List.getElem_toArray, List.getElem_cons_zero, List.getElem_cons_succ, Act.put, List.setIfInBounds_toArray, List.set_cons_zero, List.set_cons_succ]
    refine wpAnyH_done (by kernel_rfl) ?_ _
    refine NoPanic.normal ?_
    go_wp2
    go_ret
    exact ⟨_, 1, 1, rfl, H4.out.2.2, H4.out.1, H4.out.2.1⟩
/-- A packet with a message. -/
def dataP (s : OS) (l : List Msg) (v : Nat) : Pkt := { sayP s.self s.other 3 s.ep with num := moveN s.ws.base v, m := l.getD v Msg.zero }
def OS.tick (s : OS) (now : Int) (l : List Msg) : List Pkt × OS :=
  if s.up then ((s.ws.sends l.length (nowN now)).map (dataP s l), { s with ws := s.ws.send l.length (nowN now) })
  else if s.waits (nowN now) then ([], s) else ([sayP s.self s.other 1 s.ep], { s with hello := (nowN now : Int) + 1 })
set_option maxRecDepth 100000 in
set_option maxHeartbeats 8000000 in
theorem tick_out (h : OSt w0 w b p s) (now : Int) (g0 : 0 ≤ s.hello) (g1 : s.hello ≤ 1125899906842625) (A : Option Addr) (n c : Nat) (l : List Msg) (hW : MsAt w A n c l) (hWb : ∀ x ∈ sB A, l = [] ∨ (x ≠ b ∧ x ≠ p)) (hn : n ≤ 9223372036854775807) :
    Calls Tryd.prog 5 #[.pointer (some ⟨b, 0, none⟩), .int .i64 now, .slice A n c] w fun e w' => ∃ A m c, e = .returned (.slice A m c) ∧ PkOw w' w.heap.size A m c (s.tick now l).1 ∧ OSt w0 w' b p (s.tick now l).2 ∧ Chg [b, p] w w' := by
  have H := Lib.hid (And.intro h (And.intro hW hWb))
  have u5 := h.cell5
  have hmm : (if (1125899906842624 : Int) < (if now < 0 then 0 else now) then (1125899906842624 : Int) else (if now < 0 then 0 else now)) = ((nowN now : Nat) : Int) := by
    unfold nowN
    split <;> split at * <;> omega
  have HMM := Lib.hid hmm
  clear hmm
  have hm2 := nowN_le now
  have HE := Lib.hid (And.intro g0 g1)
  clear h hW hWb g0 g1
  unfold OS.tick
  cases hu : s.up with
  | false =>
    rw [hu] at u5
    rw [if_neg (by simp)]
    obtain ⟨R, hR⟩ : ∃ R : List Pkt × OS, R = (if s.waits (nowN now) then ([], s) else ([sayP s.self s.other 1 s.ep], { s with hello := (nowN now : Int) + 1 })) := ⟨_, rfl⟩
    rw [hu] at hR
    rw [← hR]
    have HR := Lib.hid hR
    clear hR
    go_enter Tryd.func5, Tryd.ntmps5
    go_upto_region 5 with (go_at_call 20; refine (made_out H.out.1).mono ?_; rintro e w1 ⟨rfl, rfl⟩)
    rw [HMM.out]
    generalize (if now < 0 then (0 : Int) else now) = mx
    clear u5
    go_wp2_with fail
    refine (greet_out H.out.1 (nowN now) hm2 HE.out.1 HE.out.2).mono ?_
    rintro e w2 ⟨A2, m2, c2, rfl, hp, ho, hc⟩
    have H2 := Lib.hid (And.intro hp (And.intro ho hc))
    clear hp ho hc
    go_wp2
    go_ret
    refine ⟨A2, m2, c2, rfl, ?_⟩
    have h2 := H2.out
    rw [HR.out]
    cases hw : s.waits (nowN now) with
    | true =>
      rw [hw] at h2
      simp only [if_true] at h2 ⊢
      exact h2
    | false =>
      rw [hw, hu] at h2
      simp only [Bool.false_eq_true, if_false] at h2 ⊢
      exact h2
  | true =>
    rw [hu] at u5
    rw [if_pos rfl, ← H.out.2.1.len]
    obtain ⟨R, hR⟩ : ∃ R : List Pkt × OS, R = ((s.ws.sends (n : Int) (nowN now)).map (dataP s l), { s with ws := s.ws.send (n : Int) (nowN now) }) := ⟨_, rfl⟩
    rw [hu] at hR
    rw [← hR]
    obtain ⟨L, hL⟩ : ∃ L, s.ws.sends (n : Int) (nowN now) = L := ⟨_, rfl⟩
    obtain ⟨N, hN⟩ : ∃ N, L.length = N := ⟨_, rfl⟩
    have HR := Lib.hid (And.intro hR (And.intro hL hN))
    have hN2 : N ≤ 32 := by
      have h1 := sends_len s.ws (n : Int) (nowN now)
      rw [hL, hN] at h1
      have h2 := H.out.1.win.ok.size2
      omega
    have HS := Lib.hid (H.out.1.win.send (n : Int) (nowN now))
    rw [hL, hN] at HS
    clear hR hL hN
    have u3 := H.out.1.cell3
    go_enter Tryd.func5, Tryd.ntmps5
    go_upto_region 6 with (go_at_call 20; refine (made_out H.out.1).mono ?_; rintro e w1 ⟨rfl, rfl⟩)
    rw [HMM.out]
    generalize (if now < 0 then (0 : Int) else now) = mx
    clear u5
    go_wp2_with fail
    refine HS.out.mono ?_
    rintro e w3 ⟨A2, c2, rfl, hs, hw, hc, hA2⟩
    have H3 := Lib.hid (And.intro (H.out.1.stepW hw hc) (And.intro hs (And.intro (H.out.2.1.chg hc (fun x hx => (H.out.2.2 x hx).imp id (fun h => by simpa using h.2))) hc)))
    have HB := Lib.hid (show w.heap.size ≤ w3.heap.size from hc.size)
    clear hs hw hc hA2 u3 HS
    go_wp2_with fail
    go_loopw [34, 7, 9, 10] (fun s34 s7 _ _ wr => ∃ (j : Nat) (A : Option Addr) (c : Nat), j ≤ N ∧ s34 = .int .i64 j ∧ s7 = .slice A j c ∧ Hid (PkOw wr w3.heap.size A j c ((L.take j).map (dataP s l))) ∧ Hid (Chg [] w3 wr)) (fun s34 _ _ _ _ => N - (intOf s34).toNat)
    case atStart => exact ⟨0, none, 0, Nat.zero_le _, rfl, rfl, Lib.hid (by simpa using PkOw.nil _ _), Lib.hid (Chg.refl _ _)⟩
    case round =>
      obtain ⟨j, B, d, hj, rfl, rfl, ho, hr⟩ := hrel
      by_cases hlt : j < N
      · obtain ⟨v, hv⟩ : ∃ v, L[j]? = some v := ⟨_, List.getElem?_eq_getElem (by have := HR.out.2.2; omega)⟩
        obtain ⟨a, rfl, hcell⟩ := H3.out.2.1.2 j (encN v) (by rw [List.getElem?_map, hv]; rfl)
        have hcell := hr.out.cell_some hcell (by simp)
        unfold encN at hcell
        have hvn : (v : Int) < (n : Int) := by
          have h1 := HR.out.2.1
          rw [← h1] at hv
          exact (sends_at s.ws _ _ hv).2
        have hvl : v < l.length := by have := H.out.2.1.len; omega
        obtain ⟨m, hm⟩ : ∃ m, l[v]? = some m := ⟨_, List.getElem?_eq_getElem hvl⟩
        have HV := Lib.hid (And.intro hv (And.intro hm hvn))
        have i1 : (0 : Int) ≤ (j : Int) := by omega
        have i2 : (j : Int) < (N : Int) := by omega
        clear hv hm hvl hvn
        go_upto_region 10 with fail
        clear hcell i1 i2
        have HX := Lib.hid (And.intro (H3.out.1.to hr.out) (H3.out.2.2.1.chg0 hr.out))
        have HSZ := Lib.hid hr.out.size
        refine wp_region_noPanic ?_
        refine wp_region_held_drew (S := fun w' => w'.cell? ⟨b, 2, none⟩ = some (.int .u64 s.ep)) (by kernel_rfl) HX.out.1.cell2 (fun hHeld => ?_)
        have HD := Lib.hid (And.intro (HX.out.1.to ((Chg.refl [] wr).drew)) ((Chg.refl [] wr).drew))
        generalize wr.drew = wd at *
        refine wpAnyH_take (i := 0) (oi := _) (v := ?_) rfl (by kernel_rfl) (by kernel_rfl) (by kernel_rfl) (fun _ _ _ h => h) (Or.inl ⟨by rfl, ?_⟩) (by assumption) ?_
        rotate_left 1
        · intro w hSw
          try dsimp only at hSw
          go_simp
          try with_reducible rfl
        try simp only [List.getElem_toArray, List.getElem_cons_zero, List.getElem_cons_succ, Act.put, List.setIfInBounds_toArray, List.set_cons_zero, List.set_cons_succ]
        refine wpAnyH_take (i := 1) (oi := _) (v := ?_) rfl (by kernel_rfl) (by kernel_rfl) (by kernel_rfl) (fun _ _ _ h => h) (Or.inl ⟨by rfl, ?_⟩) (by assumption) ?_
        rotate_left 1
        · intro w hSw
          try dsimp only at hSw
          go_simp
          try with_reducible rfl
        try simp only [List.getElem_toArray, List.getElem_cons_zero, List.getElem_cons_succ, Act.put, List.setIfInBounds_toArray, List.set_cons_zero, List.set_cons_succ]
        refine wpAnyH_take (i := 2) (oi := _) (v := ?_) rfl (by kernel_rfl) (by kernel_rfl) (by kernel_rfl) (fun _ _ _ h => h) (Or.inl ⟨by rfl, ?_⟩) (by assumption) ?_
        rotate_left 1
        · intro w hSw
          try dsimp only at hSw
          go_simp
          try with_reducible rfl
        try simp only [List.getElem_toArray, List.getElem_cons_zero, List.getElem_cons_succ, Act.put, List.setIfInBounds_toArray, List.set_cons_zero, List.set_cons_succ]
        refine wpAnyH_take (i := 3) (oi := _) (v := ?_) rfl (by kernel_rfl) (by kernel_rfl) (by kernel_rfl) (fun _ _ _ h => h) (Or.inl ⟨by rfl, ?_⟩) (by assumption) ?_
        rotate_left 1
        · intro w hSw
          try dsimp only at hSw
          go_simp
          try with_reducible rfl
        try simp only [List.getElem_toArray, List.getElem_cons_zero, List.getElem_cons_succ, Act.put, List.setIfInBounds_toArray, List.set_cons_zero, List.set_cons_succ]
        refine wpAnyH_take (i := 4) (oi := _) (v := ?_) rfl (by kernel_rfl) (by kernel_rfl) (by kernel_rfl) (fun _ _ _ h => h) (Or.inl ⟨by rfl, ?_⟩) (by assumption) ?_
        rotate_left 1
        · intro w hSw
          try dsimp only at hSw
          go_simp
          try with_reducible rfl
        try simp only [List.getElem_toArray, List.getElem_cons_zero, List.getElem_cons_succ, Act.put, List.setIfInBounds_toArray, List.set_cons_zero, List.set_cons_succ]
        refine wpAnyH_take (i := 5) (oi := _) (v := ?_) rfl (by kernel_rfl) (by kernel_rfl) (by kernel_rfl) (fun _ _ _ h => h) (Or.inl ⟨by rfl, ?_⟩) (by assumption) ?_
        rotate_left 1
        · intro w hSw
          try dsimp only at hSw
          go_simp
          try with_reducible rfl
        try simp only [List.getElem_toArray, List.getElem_cons_zero, List.getElem_cons_succ, Act.put, List.setIfInBounds_toArray, List.set_cons_zero, List.set_cons_succ]
        refine wpAnyH_take (i := 6) (oi := _) (v := ?_) rfl (by kernel_rfl) (by kernel_rfl) (by kernel_rfl) (fun _ _ _ h => h) (Or.inl ⟨by rfl, ?_⟩) (by assumption) ?_
        rotate_left 1
        · intro w hSw
          try dsimp only at hSw
          go_simp
          try with_reducible rfl
        try simp only [List.getElem_toArray, List.getElem_cons_zero, List.getElem_cons_succ, Act.put, List.setIfInBounds_toArray, List.set_cons_zero, List.set_cons_succ]
        refine wpAnyH_take (i := 7) (oi := _) (v := ?_) rfl (by kernel_rfl) (by kernel_rfl) (by kernel_rfl) (fun _ _ _ h => h) (Or.inl ⟨by rfl, ?_⟩) (by assumption) ?_
        rotate_left 1
        · intro w hSw
          try dsimp only at hSw
          go_simp
          try with_reducible rfl
        try simp only [List.getElem_toArray, List.getElem_cons_zero, List.getElem_cons_succ, Act.put, List.setIfInBounds_toArray, List.set_cons_zero, List.set_cons_succ]
        refine wpAnyH_ready (rs := [8, 9]) (by kernel_rfl) (by simp) (AllReadyH.cons rfl (fun K hK => ?_) (AllReadyH.cons rfl (fun K hK => ?_) AllReadyH.nil))
        · go_simp
          refine (say_any wd b s.self s.other 3 s.ep HD.out.1.cell0 HD.out.1.cell1).mono ?_
          rintro e wa ⟨rfl, hc⟩
          have HA := Lib.hid (And.intro (HD.out.1.to hc) (HD.out.2.trans hc))
          clear hc
          go_wp2_with fail
          refine hK.out _ _ HA.out.1.cell2 (fun hHeld => ?_)
          clear hK K
          try simp only [List.getElem_toArray, List.getElem_cons_zero, List.getElem_cons_succ, Act.put, List.setIfInBounds_toArray, List.set_cons_zero, List.set_cons_succ]
          refine wpAnyH_ready (rs := [9]) (by kernel_rfl) (by simp) (AllReadyH.cons rfl (fun K hK => ?_) AllReadyH.nil)
          go_simp
          change K _ (wa.alloc (.cells (PkS.cells Pk.Pkt.zero) 30))
          obtain ⟨ws, hst, hbs, hcs⟩ := new_pk wa (sayP s.self s.other 3 s.ep)
          have HP := Lib.hid (show Blk ws wa.heap.size 30 (PkS.cells (sayP s.self s.other 3 s.ep)) ∧ Chg [] wr ws ∧ w3.heap.size ≤ wa.heap.size ∧ wr.heap.size ≤ wa.heap.size from ⟨hbs, HA.out.2.trans hcs, by have h1 := HSZ.out; have h2 := HA.out.2.size; omega, HA.out.2.size⟩)
          clear hbs hcs
          refine hK.out _ _ ((HA.out.1.to ((Chg.refl [] wa).alloc _)).cell2) (fun hHeld => ?_)
          clear hK K
          try simp only [List.getElem_toArray, List.getElem_cons_zero, List.getElem_cons_succ, Act.put, List.setIfInBounds_toArray, List.set_cons_zero, List.set_cons_succ]
          refine wpAnyH_ready (rs := [10]) (by kernel_rfl) (by simp) (AllReadyH.cons rfl (fun K hK => ?_) AllReadyH.nil)
          refine step_store rfl _ _ _ (by rfl) _ _ (by rfl) (by rfl) _ hst ?_
          have HZ := Lib.hid (HX.out.1.to (by have h1 := HP.out.2.1; exact h1))
          refine hK.out _ _ HZ.out.cell2 (fun hHeld => ?_)
          clear hK K
          try simp only [List.getElem_toArray, List.getElem_cons_zero, List.getElem_cons_succ, Act.put, List.setIfInBounds_toArray, List.set_cons_zero, List.set_cons_succ]
          refine wpAnyH_done (by kernel_rfl) ?_ _
          refine NoPanic.normal ?_
          clear hst HA HD HZ
          generalize wa.heap.size = pb at *
          clear HX
          go_upto_region 11 with fail
          have HX := Lib.hid (H3.out.1.to (hr.out.trans HP.out.2.1))
          obtain ⟨gw, ow, rfl, hld⟩ := H3.out.2.2.1.load HV.out.2.1
          have HLD := Lib.hid hld
          clear hld
          have i1 : (0 : Int) ≤ (v : Int) := by omega
          have i2 : (v : Int) < (n : Int) := HV.out.2.2
          refine wp_region_noPanic ?_
          refine wp_region_held_drew (S := fun w' => w'.cell? ⟨b, 3, none⟩ = some (.pointer (some ⟨p, 0, none⟩)) ∧ (Instr.loadAt 28 (.pointer (some ⟨gw, ow + v * 6, none⟩))).run Tryd.prog w' = .ok (.agg m.cells) w') (by kernel_rfl) ⟨HX.out.cell3, HLD.out _ ((hr.out.trans HP.out.2.1).drew)⟩ (fun hHeld => ?_)
          have HX2 := Lib.hid (And.intro (HX.out.to ((Chg.refl [] ws).drew)) (And.intro (show Blk ws.drew pb 30 (PkS.cells (sayP s.self s.other 3 s.ep)) from HP.out.1.drewN 1) (And.intro (HP.out.2.1.drew) HP.out.2.2)))
          clear HX HP
          generalize ws.drew = wt at *
          refine wpAnyH_take (i := 0) (oi := _) (v := ?_) rfl (by kernel_rfl) (by kernel_rfl) (by kernel_rfl) (fun _ _ _ h => h) (Or.inl ⟨by rfl, ?_⟩) (by assumption) ?_
          rotate_left 1
          · intro w hSw
            try dsimp only at hSw
            go_simp
            try with_reducible rfl
          try simp only [List.getElem_toArray, List.getElem_cons_zero, List.getElem_cons_succ, Act.put, List.setIfInBounds_toArray, List.set_cons_zero, List.set_cons_succ]
          refine wpAnyH_take (i := 1) (oi := _) (v := ?_) rfl (by kernel_rfl) (by kernel_rfl) (by kernel_rfl) (fun _ _ _ h => h) (Or.inl ⟨by rfl, ?_⟩) (by assumption) ?_
          rotate_left 1
          · intro w hSw
            try dsimp only at hSw
            go_simp
            try with_reducible rfl
          try simp only [List.getElem_toArray, List.getElem_cons_zero, List.getElem_cons_succ, Act.put, List.setIfInBounds_toArray, List.set_cons_zero, List.set_cons_succ]
          refine wpAnyH_take (i := 2) (oi := _) (v := ?_) rfl (by kernel_rfl) (by kernel_rfl) (by kernel_rfl) (fun _ _ _ h => h) (Or.inl ⟨by rfl, ?_⟩) (by assumption) ?_
          rotate_left 1
          · intro w hSw
            try dsimp only at hSw
            go_simp
            try with_reducible rfl
          try simp only [List.getElem_toArray, List.getElem_cons_zero, List.getElem_cons_succ, Act.put, List.setIfInBounds_toArray, List.set_cons_zero, List.set_cons_succ]
          refine wpAnyH_take (i := 3) (oi := _) (v := ?_) rfl (by kernel_rfl) (by kernel_rfl) (by kernel_rfl) (fun _ _ _ h => h) (Or.inl ⟨by rfl, ?_⟩) (by assumption) ?_
          rotate_left 1
          · intro w hSw
            try dsimp only at hSw
            go_simp
            try with_reducible rfl
          try simp only [List.getElem_toArray, List.getElem_cons_zero, List.getElem_cons_succ, Act.put, List.setIfInBounds_toArray, List.set_cons_zero, List.set_cons_succ]
          refine wpAnyH_take (i := 4) (oi := _) (v := ?_) rfl (by kernel_rfl) (by kernel_rfl) (by kernel_rfl) (fun _ _ _ h => h) (Or.inl ⟨by rfl, ?_⟩) (by assumption) ?_
          rotate_left 1
          · intro w hSw
            try dsimp only at hSw
            go_simp
            try with_reducible rfl
          try simp only [List.getElem_toArray, List.getElem_cons_zero, List.getElem_cons_succ, Act.put, List.setIfInBounds_toArray, List.set_cons_zero, List.set_cons_succ]
          refine wpAnyH_take (i := 6) (oi := _) (v := ?_) rfl (by kernel_rfl) (by kernel_rfl) (by kernel_rfl) (fun _ _ _ h => h) (Or.inl ⟨by rfl, ?_⟩) (by assumption) ?_
          rotate_left 1
          · intro w hSw
            try dsimp only at hSw
            go_simp
            try with_reducible rfl
          try simp only [List.getElem_toArray, List.getElem_cons_zero, List.getElem_cons_succ, Act.put, List.setIfInBounds_toArray, List.set_cons_zero, List.set_cons_succ]
          refine wpAnyH_take (i := 7) (oi := _) (v := ?_) rfl (by kernel_rfl) (by kernel_rfl) (by kernel_rfl) (fun _ _ _ h => h) (Or.inl ⟨by rfl, ?_⟩) (by assumption) ?_
          rotate_left 1
          · intro w hSw
            try dsimp only at hSw
            go_simp
            try with_reducible rfl
          try simp only [List.getElem_toArray, List.getElem_cons_zero, List.getElem_cons_succ, Act.put, List.setIfInBounds_toArray, List.set_cons_zero, List.set_cons_succ]
          refine wpAnyH_take (i := 8) (oi := _) (v := ?_) rfl (by kernel_rfl) (by kernel_rfl) (by kernel_rfl) (fun _ _ _ h => h) (Or.inl ⟨by rfl, ?_⟩) (by assumption) ?_
          rotate_left 1
          · intro w hSw
            try dsimp only at hSw
            go_simp
            try with_reducible rfl
          try simp only [List.getElem_toArray, List.getElem_cons_zero, List.getElem_cons_succ, Act.put, List.setIfInBounds_toArray, List.set_cons_zero, List.set_cons_succ]
          refine wpAnyH_take (i := 9) (oi := _) (v := _) rfl (by kernel_rfl) (by kernel_rfl) (by kernel_rfl) (fun _ _ _ h => h) (yields_load (by rfl) _ _ (by rfl) _ (by rfl) _ (fun w h => h.2)) (by assumption) ?_
          try simp only [List.getElem_toArray, List.getElem_cons_zero, List.getElem_cons_succ, Act.put, List.setIfInBounds_toArray, List.set_cons_zero, List.set_cons_succ]
          refine wpAnyH_ready (rs := [5]) (by kernel_rfl) (by simp) (AllReadyH.cons rfl (fun K hK => ?_) AllReadyH.nil)
          go_simp
          refine (HX2.out.1.win.num (v : Int)).mono ?_
          rintro e wu ⟨rfl, rfl⟩
          go_wp2_with fail
          refine hK.out _ _ ⟨HX2.out.1.cell3, HLD.out _ (hr.out.trans HX2.out.2.2.1)⟩ (fun hHeld => ?_)
          clear hK K
          try simp only [List.getElem_toArray, List.getElem_cons_zero, List.getElem_cons_succ, Act.put, List.setIfInBounds_toArray, List.set_cons_zero, List.set_cons_succ]
          refine wpAnyH_take (i := 10) (oi := _) (v := ?_) rfl (by kernel_rfl) (by kernel_rfl) (by kernel_rfl) (fun _ _ _ h => h) (Or.inl ⟨by rfl, ?_⟩) (by assumption) ?_
          rotate_left 1
          · intro w hSw
            try dsimp only at hSw
            go_simp
            try with_reducible rfl
          try simp only [List.getElem_toArray, List.getElem_cons_zero, List.getElem_cons_succ, Act.put, List.setIfInBounds_toArray, List.set_cons_zero, List.set_cons_succ]
          have hst := store_pkn HX2.out.2.1 (moveN s.ws.base v)
          have hc1 : Chg [] wr (wt.setCell ⟨pb, 4, none⟩ (.int .u16 (moveN s.ws.base v))) := HX2.out.2.2.1.setCell (.inr HX2.out.2.2.2.2) _
          have hb1 : Blk (wt.setCell ⟨pb, 4, none⟩ (.int .u16 (moveN s.ws.base v))) pb 30 (PkS.cells { sayP s.self s.other 3 s.ep with num := moveN s.ws.base v }) := HX2.out.2.1.set_ 4 (.int .u16 (moveN s.ws.base v))
          refine wpAnyH_ready (rs := [11]) (by kernel_rfl) (by simp) (AllReadyH.cons rfl (fun K hK => ?_) AllReadyH.nil)
          refine step_store rfl _ _ _ (by rfl) _ _ (by rfl) (by rfl) _ hst ?_
          have HX3 := Lib.hid (And.intro (H3.out.1.to (hr.out.trans hc1)) (And.intro hb1 (And.intro hc1 HX2.out.2.2.2)))
          clear hc1 hb1 hst HX2
          generalize wt.setCell ⟨pb, 4, none⟩ (.int .u16 (moveN s.ws.base v)) = wv at *
          refine hK.out _ _ ⟨HX3.out.1.cell3, HLD.out _ (hr.out.trans HX3.out.2.2.1)⟩ (fun hHeld => ?_)
          clear hK K
          try simp only [List.getElem_toArray, List.getElem_cons_zero, List.getElem_cons_succ, Act.put, List.setIfInBounds_toArray, List.set_cons_zero, List.set_cons_succ]
          refine wpAnyH_take (i := 12) (oi := _) (v := ?_) rfl (by kernel_rfl) (by kernel_rfl) (by kernel_rfl) (fun _ _ _ h => h) (Or.inl ⟨by rfl, ?_⟩) (by assumption) ?_
          rotate_left 1
          · intro w hSw
            try dsimp only at hSw
            go_simp
            try with_reducible rfl
          try simp only [List.getElem_toArray, List.getElem_cons_zero, List.getElem_cons_succ, Act.put, List.setIfInBounds_toArray, List.set_cons_zero, List.set_cons_succ]
          obtain ⟨wx, hst, hb1, hc1⟩ := store_pkm HX3.out.2.1 m
          have hc2 : Chg [] wr wx := HX3.out.2.2.1.then_ hc1 (fun x hx => by simp at hx; subst hx; exact .inr HX3.out.2.2.2.2)
          have hdp : dataP s l v = { { sayP s.self s.other 3 s.ep with num := moveN s.ws.base v } with m := m } := by
            unfold dataP
            rw [List.getD, HV.out.2.1, Option.getD_some]
          rw [← hdp] at hb1
          have HX4 := Lib.hid (And.intro (H3.out.1.to (hr.out.trans hc2)) (And.intro hb1 (And.intro hc2 HX3.out.2.2.2)))
          clear hc1 hc2 hb1 hdp HX3
          refine wpAnyH_ready (rs := [13]) (by kernel_rfl) (by simp) (AllReadyH.cons rfl (fun K hK => ?_) AllReadyH.nil)
          refine step_store rfl _ _ _ (by rfl) _ _ (by rfl) (by rfl) _ hst ?_
          refine hK.out _ _ ⟨HX4.out.1.cell3, HLD.out _ (hr.out.trans HX4.out.2.2.1)⟩ (fun hHeld => ?_)
          clear hK K
          try simp only [List.getElem_toArray, List.getElem_cons_zero, List.getElem_cons_succ, Act.put, List.setIfInBounds_toArray, List.set_cons_zero, List.set_cons_succ]
          refine wpAnyH_done (by kernel_rfl) ?_ _
          refine NoPanic.normal ?_
          clear hst i1 i2
          have hl1 := load_pk HX4.out.2.1
          have hca := (Chg.refl [] wx).alloc (.cells (PkS.cells (dataP s l v)) 30)
          obtain ⟨B2, d2, wz, hap, ho2, hc2, _⟩ := (ho.out.chg0 (HX4.out.2.2.1.trans hca)).app (by have h1 := hr.out.size; have h2 := (HX4.out.2.2.1.trans hca).size; omega) (by omega) wx.heap.size (dataP s l v) (Blk.new wx _ _)
          have HF := Lib.hid (And.intro ho2 ((hr.out.trans (HX4.out.2.2.1.trans hca)).then_ hc2 (fun x hx => .inr (ho.out.own.ge x hx))))
          clear ho2 hc2 hca
          go_wp2_with (first | (refine wpList_loadW _ _ (by rfl) _ _ (by rfl) hl1 (by rfl) ?_) | (refine wpList_bsPk (by rfl) _ (by rfl) (dataP s l v) (by rfl) ?_) | (at_builtin; refine wpList_appR (by rfl) _ _ _ _ (by rfl) _ _ _ _ (by rfl) (by rfl) hap ?_))
          refine ⟨⟨j + 1, B2, d2, by omega, by go_num, rfl, Lib.hid ?_, Lib.hid HF.out.2⟩, by simp [intOf]; omega⟩
          have h1 := HF.out.1
          rw [List.take_add_one, HV.out.1, List.map_append]
          exact h1
        · go_simp
          change K _ (wd.alloc (.cells (PkS.cells Pk.Pkt.zero) 30))
          have hca := (Chg.refl [] wd).alloc (.cells (PkS.cells Pk.Pkt.zero) 30)
          have HA := Lib.hid (And.intro (HD.out.1.to hca) (And.intro (HD.out.2.trans hca) (And.intro (Blk.new wd 30 (PkS.cells Pk.Pkt.zero)) (show w3.heap.size ≤ wd.heap.size ∧ wr.heap.size ≤ wd.heap.size by have h1 := HSZ.out; have h2 := HD.out.2.size; omega))))
          clear hca
          generalize wd.alloc (.cells (PkS.cells Pk.Pkt.zero) 30) = wb at *
          generalize wd.heap.size = pb at *
          refine hK.out _ _ (HA.out.1.cell2) (fun hHeld => ?_)
          clear hK K
          try simp only [List.getElem_toArray, List.getElem_cons_zero, List.getElem_cons_succ, Act.put, List.setIfInBounds_toArray, List.set_cons_zero, List.set_cons_succ]
          refine wpAnyH_ready (rs := [8]) (by kernel_rfl) (by simp) (AllReadyH.cons rfl (fun K hK => ?_) AllReadyH.nil)
          go_simp
          refine (say_any wb b s.self s.other 3 s.ep HA.out.1.cell0 HA.out.1.cell1).mono ?_
          rintro e wa ⟨rfl, hc⟩
          have HA2 := Lib.hid (And.intro (HA.out.1.to hc) (And.intro (HA.out.2.1.trans hc) (And.intro (HA.out.2.2.1.chg hc (by simp)) HA.out.2.2.2)))
          clear hc HA
          go_wp2_with fail
          refine hK.out _ _ HA2.out.1.cell2 (fun hHeld => ?_)
          clear hK K
          try simp only [List.getElem_toArray, List.getElem_cons_zero, List.getElem_cons_succ, Act.put, List.setIfInBounds_toArray, List.set_cons_zero, List.set_cons_succ]
          obtain ⟨ws, hst, hbs, hcs⟩ := store_pk (p := sayP s.self s.other 3 s.ep) HA2.out.2.2.1 rfl
          have hcs2 : Chg [] wr ws := HA2.out.2.1.then_ hcs (fun x hx => by simp at hx; subst hx; exact .inr HA2.out.2.2.2.2)
          have HP := Lib.hid (show Blk ws pb 30 (PkS.cells (sayP s.self s.other 3 s.ep)) ∧ Chg [] wr ws ∧ w3.heap.size ≤ pb ∧ wr.heap.size ≤ pb from ⟨hbs, hcs2, HA2.out.2.2.2⟩)
          clear hbs hcs hcs2
          refine wpAnyH_ready (rs := [10]) (by kernel_rfl) (by simp) (AllReadyH.cons rfl (fun K hK => ?_) AllReadyH.nil)
          refine step_store rfl _ _ _ (by rfl) _ _ (by rfl) (by rfl) _ hst ?_
          have HZ := Lib.hid (HX.out.1.to (by have h1 := HP.out.2.1; exact h1))
          refine hK.out _ _ HZ.out.cell2 (fun hHeld => ?_)
          clear hK K
          try simp only [List.getElem_toArray, List.getElem_cons_zero, List.getElem_cons_succ, Act.put, List.setIfInBounds_toArray, List.set_cons_zero, List.set_cons_succ]
          refine wpAnyH_done (by kernel_rfl) ?_ _
          refine NoPanic.normal ?_
          clear hst HA2 HD HZ
          clear HX
          go_upto_region 11 with fail
          have HX := Lib.hid (H3.out.1.to (hr.out.trans HP.out.2.1))
          obtain ⟨gw, ow, rfl, hld⟩ := H3.out.2.2.1.load HV.out.2.1
          have HLD := Lib.hid hld
          clear hld
          have i1 : (0 : Int) ≤ (v : Int) := by omega
          have i2 : (v : Int) < (n : Int) := HV.out.2.2
          refine wp_region_noPanic ?_
          refine wp_region_held_drew (S := fun w' => w'.cell? ⟨b, 3, none⟩ = some (.pointer (some ⟨p, 0, none⟩)) ∧ (Instr.loadAt 28 (.pointer (some ⟨gw, ow + v * 6, none⟩))).run Tryd.prog w' = .ok (.agg m.cells) w') (by kernel_rfl) ⟨HX.out.cell3, HLD.out _ ((hr.out.trans HP.out.2.1).drew)⟩ (fun hHeld => ?_)
          have HX2 := Lib.hid (And.intro (HX.out.to ((Chg.refl [] ws).drew)) (And.intro (show Blk ws.drew pb 30 (PkS.cells (sayP s.self s.other 3 s.ep)) from HP.out.1.drewN 1) (And.intro (HP.out.2.1.drew) HP.out.2.2)))
          clear HX HP
          generalize ws.drew = wt at *
          refine wpAnyH_take (i := 0) (oi := _) (v := ?_) rfl (by kernel_rfl) (by kernel_rfl) (by kernel_rfl) (fun _ _ _ h => h) (Or.inl ⟨by rfl, ?_⟩) (by assumption) ?_
          rotate_left 1
          · intro w hSw
            try dsimp only at hSw
            go_simp
            try with_reducible rfl
          try simp only [List.getElem_toArray, List.getElem_cons_zero, List.getElem_cons_succ, Act.put, List.setIfInBounds_toArray, List.set_cons_zero, List.set_cons_succ]
          refine wpAnyH_take (i := 1) (oi := _) (v := ?_) rfl (by kernel_rfl) (by kernel_rfl) (by kernel_rfl) (fun _ _ _ h => h) (Or.inl ⟨by rfl, ?_⟩) (by assumption) ?_
          rotate_left 1
          · intro w hSw
            try dsimp only at hSw
            go_simp
            try with_reducible rfl
          try simp only [List.getElem_toArray, List.getElem_cons_zero, List.getElem_cons_succ, Act.put, List.setIfInBounds_toArray, List.set_cons_zero, List.set_cons_succ]
          refine wpAnyH_take (i := 2) (oi := _) (v := ?_) rfl (by kernel_rfl) (by kernel_rfl) (by kernel_rfl) (fun _ _ _ h => h) (Or.inl ⟨by rfl, ?_⟩) (by assumption) ?_
          rotate_left 1
          · intro w hSw
            try dsimp only at hSw
            go_simp
            try with_reducible rfl
          try simp only [List.getElem_toArray, List.getElem_cons_zero, List.getElem_cons_succ, Act.put, List.setIfInBounds_toArray, List.set_cons_zero, List.set_cons_succ]
          refine wpAnyH_take (i := 3) (oi := _) (v := ?_) rfl (by kernel_rfl) (by kernel_rfl) (by kernel_rfl) (fun _ _ _ h => h) (Or.inl ⟨by rfl, ?_⟩) (by assumption) ?_
          rotate_left 1
          · intro w hSw
            try dsimp only at hSw
            go_simp
            try with_reducible rfl
          try simp only [List.getElem_toArray, List.getElem_cons_zero, List.getElem_cons_succ, Act.put, List.setIfInBounds_toArray, List.set_cons_zero, List.set_cons_succ]
          refine wpAnyH_take (i := 4) (oi := _) (v := ?_) rfl (by kernel_rfl) (by kernel_rfl) (by kernel_rfl) (fun _ _ _ h => h) (Or.inl ⟨by rfl, ?_⟩) (by assumption) ?_
          rotate_left 1
          · intro w hSw
            try dsimp only at hSw
            go_simp
            try with_reducible rfl
          try simp only [List.getElem_toArray, List.getElem_cons_zero, List.getElem_cons_succ, Act.put, List.setIfInBounds_toArray, List.set_cons_zero, List.set_cons_succ]
          refine wpAnyH_take (i := 6) (oi := _) (v := ?_) rfl (by kernel_rfl) (by kernel_rfl) (by kernel_rfl) (fun _ _ _ h => h) (Or.inl ⟨by rfl, ?_⟩) (by assumption) ?_
          rotate_left 1
          · intro w hSw
            try dsimp only at hSw
            go_simp
            try with_reducible rfl
          try simp only [List.getElem_toArray, List.getElem_cons_zero, List.getElem_cons_succ, Act.put, List.setIfInBounds_toArray, List.set_cons_zero, List.set_cons_succ]
          refine wpAnyH_take (i := 7) (oi := _) (v := ?_) rfl (by kernel_rfl) (by kernel_rfl) (by kernel_rfl) (fun _ _ _ h => h) (Or.inl ⟨by rfl, ?_⟩) (by assumption) ?_
          rotate_left 1
          · intro w hSw
            try dsimp only at hSw
            go_simp
            try with_reducible rfl
          try simp only [List.getElem_toArray, List.getElem_cons_zero, List.getElem_cons_succ, Act.put, List.setIfInBounds_toArray, List.set_cons_zero, List.set_cons_succ]
          refine wpAnyH_take (i := 8) (oi := _) (v := ?_) rfl (by kernel_rfl) (by kernel_rfl) (by kernel_rfl) (fun _ _ _ h => h) (Or.inl ⟨by rfl, ?_⟩) (by assumption) ?_
          rotate_left 1
          · intro w hSw
            try dsimp only at hSw
            go_simp
            try with_reducible rfl
          try simp only [List.getElem_toArray, List.getElem_cons_zero, List.getElem_cons_succ, Act.put, List.setIfInBounds_toArray, List.set_cons_zero, List.set_cons_succ]
          refine wpAnyH_take (i := 9) (oi := _) (v := _) rfl (by kernel_rfl) (by kernel_rfl) (by kernel_rfl) (fun _ _ _ h => h) (yields_load (by rfl) _ _ (by rfl) _ (by rfl) _ (fun w h => h.2)) (by assumption) ?_
          try simp only [List.getElem_toArray, List.getElem_cons_zero, List.getElem_cons_succ, Act.put, List.setIfInBounds_toArray, List.set_cons_zero, List.set_cons_succ]
          refine wpAnyH_ready (rs := [5]) (by kernel_rfl) (by simp) (AllReadyH.cons rfl (fun K hK => ?_) AllReadyH.nil)
          go_simp
          refine (HX2.out.1.win.num (v : Int)).mono ?_
          rintro e wu ⟨rfl, rfl⟩
          go_wp2_with fail
          refine hK.out _ _ ⟨HX2.out.1.cell3, HLD.out _ (hr.out.trans HX2.out.2.2.1)⟩ (fun hHeld => ?_)
          clear hK K
          try simp only [List.getElem_toArray, List.getElem_cons_zero, List.getElem_cons_succ, Act.put, List.setIfInBounds_toArray, List.set_cons_zero, List.set_cons_succ]
          refine wpAnyH_take (i := 10) (oi := _) (v := ?_) rfl (by kernel_rfl) (by kernel_rfl) (by kernel_rfl) (fun _ _ _ h => h) (Or.inl ⟨by rfl, ?_⟩) (by assumption) ?_
          rotate_left 1
          · intro w hSw
            try dsimp only at hSw
            go_simp
            try with_reducible rfl
          try simp only [List.getElem_toArray, List.getElem_cons_zero, List.getElem_cons_succ, Act.put, List.setIfInBounds_toArray, List.set_cons_zero, List.set_cons_succ]
          have hst := store_pkn HX2.out.2.1 (moveN s.ws.base v)
          have hc1 : Chg [] wr (wt.setCell ⟨pb, 4, none⟩ (.int .u16 (moveN s.ws.base v))) := HX2.out.2.2.1.setCell (.inr HX2.out.2.2.2.2) _
          have hb1 : Blk (wt.setCell ⟨pb, 4, none⟩ (.int .u16 (moveN s.ws.base v))) pb 30 (PkS.cells { sayP s.self s.other 3 s.ep with num := moveN s.ws.base v }) := HX2.out.2.1.set_ 4 (.int .u16 (moveN s.ws.base v))
          refine wpAnyH_ready (rs := [11]) (by kernel_rfl) (by simp) (AllReadyH.cons rfl (fun K hK => ?_) AllReadyH.nil)
          refine step_store rfl _ _ _ (by rfl) _ _ (by rfl) (by rfl) _ hst ?_
          have HX3 := Lib.hid (And.intro (H3.out.1.to (hr.out.trans hc1)) (And.intro hb1 (And.intro hc1 HX2.out.2.2.2)))
          clear hc1 hb1 hst HX2
          generalize wt.setCell ⟨pb, 4, none⟩ (.int .u16 (moveN s.ws.base v)) = wv at *
          refine hK.out _ _ ⟨HX3.out.1.cell3, HLD.out _ (hr.out.trans HX3.out.2.2.1)⟩ (fun hHeld => ?_)
          clear hK K
          try simp only [List.getElem_toArray, List.getElem_cons_zero, List.getElem_cons_succ, Act.put, List.setIfInBounds_toArray, List.set_cons_zero, List.set_cons_succ]
          refine wpAnyH_take (i := 12) (oi := _) (v := ?_) rfl (by kernel_rfl) (by kernel_rfl) (by kernel_rfl) (fun _ _ _ h => h) (Or.inl ⟨by rfl, ?_⟩) (by assumption) ?_
          rotate_left 1
          · intro w hSw
            try dsimp only at hSw
            go_simp
            try with_reducible rfl
          try simp only [List.getElem_toArray, List.getElem_cons_zero, List.getElem_cons_succ, Act.put, List.setIfInBounds_toArray, List.set_cons_zero, List.set_cons_succ]
          obtain ⟨wx, hst, hb1, hc1⟩ := store_pkm HX3.out.2.1 m
          have hc2 : Chg [] wr wx := HX3.out.2.2.1.then_ hc1 (fun x hx => by simp at hx; subst hx; exact .inr HX3.out.2.2.2.2)
          have hdp : dataP s l v = { { sayP s.self s.other 3 s.ep with num := moveN s.ws.base v } with m := m } := by
            unfold dataP
            rw [List.getD, HV.out.2.1, Option.getD_some]
          rw [← hdp] at hb1
          have HX4 := Lib.hid (And.intro (H3.out.1.to (hr.out.trans hc2)) (And.intro hb1 (And.intro hc2 HX3.out.2.2.2)))
          clear hc1 hc2 hb1 hdp HX3
          refine wpAnyH_ready (rs := [13]) (by kernel_rfl) (by simp) (AllReadyH.cons rfl (fun K hK => ?_) AllReadyH.nil)
          refine step_store rfl _ _ _ (by rfl) _ _ (by rfl) (by rfl) _ hst ?_
          refine hK.out _ _ ⟨HX4.out.1.cell3, HLD.out _ (hr.out.trans HX4.out.2.2.1)⟩ (fun hHeld => ?_)
          clear hK K
          try simp only [List.getElem_toArray, List.getElem_cons_zero, List.getElem_cons_succ, Act.put, List.setIfInBounds_toArray, List.set_cons_zero, List.set_cons_succ]
          refine wpAnyH_done (by kernel_rfl) ?_ _
          refine NoPanic.normal ?_
          clear hst i1 i2
          have hl1 := load_pk HX4.out.2.1
          have hca := (Chg.refl [] wx).alloc (.cells (PkS.cells (dataP s l v)) 30)
          obtain ⟨B2, d2, wz, hap, ho2, hc2, _⟩ := (ho.out.chg0 (HX4.out.2.2.1.trans hca)).app (by have h1 := hr.out.size; have h2 := (HX4.out.2.2.1.trans hca).size; omega) (by omega) wx.heap.size (dataP s l v) (Blk.new wx _ _)
          have HF := Lib.hid (And.intro ho2 ((hr.out.trans (HX4.out.2.2.1.trans hca)).then_ hc2 (fun x hx => .inr (ho.out.own.ge x hx))))
          clear ho2 hc2 hca
          go_wp2_with (first | (refine wpList_loadW _ _ (by rfl) _ _ (by rfl) hl1 (by rfl) ?_) | (refine wpList_bsPk (by rfl) _ (by rfl) (dataP s l v) (by rfl) ?_) | (at_builtin; refine wpList_appR (by rfl) _ _ _ _ (by rfl) _ _ _ _ (by rfl) (by rfl) hap ?_))
          refine ⟨⟨j + 1, B2, d2, by omega, by go_num, rfl, Lib.hid ?_, Lib.hid HF.out.2⟩, by simp [intOf]; omega⟩
          have h1 := HF.out.1
          rw [List.take_add_one, HV.out.1, List.map_append]
          exact h1
      · obtain rfl : j = N := by omega
        go_wp2_with fail
        go_ret
        refine ⟨B, j, d, rfl, ?_, ?_, ?_⟩
        · have h1 := ho.out
          rw [List.take_of_length_le (by rw [HR.out.2.2]; exact Nat.le_refl _)] at h1
          rw [HR.out.1, HR.out.2.1]
          exact ⟨h1.len, h1.own.lower HB.out⟩
        · have h1 := H3.out.1.to hr.out
          rw [hu] at h1
          rw [HR.out.1]
          exact h1
        · exact (H3.out.2.2.2.mono (M := [b, p]) (by simp)).trans (hr.out.mono (by simp))
end
end Go.Proofs.YtmiijmiikpmcgaaDoor
end
section
/- What the rows' listed variables give the walks: the table of math/bits, packet's kinds. -/
set_option linter.unusedVariables false
set_option linter.unusedSimpArgs false
namespace Go.Proofs.YtmiijmiikpmcgaaDoor
open Go.RowKit Go.Lib

theorem cells_of_strs {H : Type} {enc : TypeId × Value → H} {P : Program} {w : World} {base : Nat} {sp : Nat → Bool} {held : Bool} {fuel : Nat} {t e : TypeId} {n : Nat} {cs : List Value} {ss : List (List UInt8)} {p : List MemPlace}
    (ht : P.underlying t = some (.array n e)) (he : P.underlying e = some .string) (hce : P.cellsOf e = 1) (hct : P.cellsOf t = n)
    (h : DataW.trod enc P w base sp held fuel t cs = some (.agg (ss.map fun s => .lit (.string s)), p)) : cs = ss.map fun s => Value.string ⟨s.toArray⟩ := by
  cases fuel with
  | zero => simp [DataW.trod] at h
  | succ fuel =>
    simp only [DataW.trod, ht, hce, hct, Nat.mul_one] at h
    split at h
    · rename_i hl
      obtain ⟨xs, hm, hx⟩ := Option.map_eq_some_iff.1 h
      have hxs : xs.map (·.1) = ss.map fun s => (DataW.lit (.string s) : DataW H) := by
        have := congrArg Prod.fst hx
        simpa using this
      have hxl : xs.length = n := by simpa using mapM_length hm
      have hzl : ss.length = n := by
        have := congrArg List.length hxs
        simp at this
        omega
      apply List.ext_getElem?
      intro i
      by_cases hi : i < n
      · obtain ⟨b, hb, hf⟩ := mapM_at hm i i (by simp [hi])
        obtain ⟨s, hc, rfl, _⟩ := DataW.trod_string he hf
        have h1 : cs[i]? = some (.string s) := by
          have := congrArg (·[0]?) hc
          simpa [List.getElem?_take, List.getElem?_drop] using this
        have h2 : (xs.map (·.1))[i]? = some (DataW.lit (.string s.data.toList) : DataW H) := by simp [hb]
        rw [hxs] at h2
        simp only [List.getElem?_map, Option.map_eq_some_iff, DataW.lit.injEq, Lit.string.injEq] at h2
        obtain ⟨z', hz', e⟩ := h2
        have : (⟨z'.toArray⟩ : ByteArray) = s := by rw [e]
        simp [h1, hz', this]
      · rw [List.getElem?_eq_none (by omega), List.getElem?_eq_none (by simp; omega)]
    · cases h
/-- The listed variables lie as their initialisers lay them. -/
def LaidL (W : World) : Prop := Laid W ∧ KndAt W
theorem LaidL.chg0 {w w' : World} (h : LaidL w) (hc : Chg [] w w') : LaidL w' := ⟨h.1.to hc, h.2.chg0 hc⟩
theorem gKnd : Tryd.prog.globalNamed "staith/packet.kinds" = some 0 := by kernel_rfl
def kndL : List (List UInt8) := [[], [104, 101, 108, 108, 111], [119, 101, 108, 99, 111, 109, 101], [100, 97, 116, 97], [97, 99, 107]]
theorem LaidL.of_met {W : World} (h : laidMet Tryd.prog Rows.linkNoneRow.laid W) : LaidL W := by
  have hh := h
  have e : (Rows.laid_math_bits_deBruijn64tab : DataW Unit) = Lib.tabData .u8 (Lib.deBruijn64tab.map fun n : Nat => (n : Int)) := rfl
  have e2 : (Rows.laid_staith_packet_kinds : DataW Unit) = .agg (kndL.map fun s => .lit (.string s)) := rfl
  obtain ⟨ps, ⟨g1, t1, cs1, f1, p1, q1, hg1, ht1, hv1, hd1, ⟨g2, t2, cs2, f2, p2, q2, hg2, ht2, hv2, hd2, ⟨g3, t3, cs3, f3, p3, q3, hg3, ht3, hv3, hd3, _, _⟩, _⟩, _⟩, _⟩ := h
  constructor
  · have h' : laidMet Tryd.prog (("math/bits.deBruijn64tab", Lib.tabData .u8 (Lib.deBruijn64tab.map fun n : Nat => (n : Int))) :: _) W := hh
    have ht := Lib.tabIs_of_head gTab (t := 113) (e := 5) (n := 64) (by kernel_rfl) Tryd.underlying113 Tryd.underlying5 (by kernel_rfl) (by kernel_rfl) h'
    intro j hj
    have := ht.cell gTab j (by simpa using hj)
    rw [this]
    simp [List.getD, hj]
  · obtain rfl := Option.some.inj (gKnd.symm.trans hg3)
    obtain rfl : 108 = t3 := Option.some.inj ((show (Tryd.prog.globals[0]?).map (·.type) = some 108 by kernel_rfl).symm.trans ht3)
    rw [e2] at hd3
    have hc := cells_of_strs (n := 5) Tryd.underlying108 Tryd.underlying9 (by kernel_rfl) (by kernel_rfl) hd3
    intro j h2
    have h3 := World.var?_cell gKnd hv3 j
    rw [← Array.getElem?_toList, hc] at h3
    rw [h3]
    have hj : j = 0 ∨ j = 1 ∨ j = 2 ∨ j = 3 ∨ j = 4 := by omega
    rcases hj with rfl | rfl | rfl | rfl | rfl <;> rfl
end Go.Proofs.YtmiijmiikpmcgaaDoor
end
section
/- Package window: sending and acks in uniform states; no program. -/
set_option linter.unusedVariables false
set_option linter.unusedSimpArgs false
namespace Go.Proofs.YtmiijmiikpmcgaaDoor
open Go.RowKit

def wu (n t : Nat) (b : Int) (k v : Nat) : WS := ⟨n, t, b, uni k v⟩
theorem new_wu (n t : Nat) : WS.new n t = wu n t 0 0 0 := by unfold WS.new wu; congr 1
theorem sendK_wu (n t : Nat) (b : Int) (k v h : Nat) : sendK (wu n t b k v) (h : Int) = min h n := by unfold sendK; simp [wu]
theorem nowN_nat (a : Nat) (h : a ≤ 1125899906842624) : nowN (a : Int) = a := by unfold nowN; omega
theorem send_first (n t : Nat) (b : Int) (v h a : Nat) (ha : a ≤ 1125899906842624) : (wu n t b 0 v).sends h a = List.range (min h n) ∧ (wu n t b 0 v).send h a = wu n t b (min h n) (a + 1) := by
  have hd : ∀ i, i < min h n → due (wu n t b 0 v).wait (nowN a) ((wu n t b 0 v).f i) = true := fun i _ => by
    show due t (nowN a) (uni 0 v i) = true
    unfold uni
    rw [if_neg (by omega)]
    exact due_zero _ _
  unfold WS.sends WS.send
  rw [sendK_wu]
  refine ⟨sentL_all _ _ _ hd, ?_⟩
  rw [sentF_uni _ _ _ v 0 rfl (by omega) hd, nowN_nat a ha]
  rfl
theorem send_late (n t : Nat) (b : Int) (v h a : Nat) (ha : a ≤ 1125899906842624) (hl : (a : Int) - ((v : Int) - 1) ≥ t) : (wu n t b (min h n) v).sends h a = List.range (min h n) ∧ (wu n t b (min h n) v).send h a = wu n t b (min h n) (a + 1) := by
  have hd : ∀ i, i < min h n → due (wu n t b (min h n) v).wait (nowN a) ((wu n t b (min h n) v).f i) = true := fun i hi => by
    show due t (nowN a) (uni (min h n) v i) = true
    unfold uni
    rw [if_pos hi, nowN_nat a ha]
    exact due_late _ _ _ hl
  unfold WS.sends WS.send
  rw [sendK_wu]
  refine ⟨sentL_all _ _ _ hd, ?_⟩
  rw [sentF_uni _ _ _ v (min h n) rfl (by omega) hd, nowN_nat a ha]
  rfl
theorem send_early (n t : Nat) (b : Int) (v h a : Nat) (ha : a ≤ 1125899906842624) (hv : 0 < v) (hl : (a : Int) - ((v : Int) - 1) < t) : (wu n t b (min h n) v).sends h a = [] ∧ (wu n t b (min h n) v).send h a = wu n t b (min h n) v := by
  have hd : ∀ i, i < min h n → due (wu n t b (min h n) v).wait (nowN a) ((wu n t b (min h n) v).f i) = false := fun i hi => by
    show due t (nowN a) (uni (min h n) v i) = false
    unfold uni
    rw [if_pos hi, nowN_nat a ha]
    exact due_early _ _ _ hv hl
  unfold WS.sends WS.send
  rw [sendK_wu]
  refine ⟨sentL_none _ _ _ hd, ?_⟩
  rw [sentF_none _ _ _ hd]
theorem far_small (b k : Nat) (h : b + k < 32768) : farZ (b : Int) ((b + k : Nat) : Int) = ((k : Nat) : Int) := by unfold farZ; omega
/-- All that was sent is there. -/
theorem ack_wu (n t : Nat) (b : Int) (k v : Nat) (num : Int) (m : Nat) : (wu n t b k v).ack k num m = wu n t num 0 0 := by
  unfold WS.ack wu
  congr 1
  funext i
  unfold shiftF
  by_cases h : k + i < 32
  · rw [if_pos h]
    unfold markF uni
    simp only [if_neg (show ¬ k + i < k by omega)]
    simp
  · rw [if_neg h]; simp [uni]
theorem sent_wu (n t : Nat) (b : Int) (k v : Nat) (hv : 0 < v) : ∀ i, i < k → 0 < ((wu n t b k v).f i).1 := fun i hi => by
  show 0 < (uni k v i).1
  unfold uni
  rw [if_pos hi]
  exact hv
theorem open_wu (n t : Nat) (b : Int) (k v : Nat) (hv : 0 < v) (hk : k ≤ 32) : openN (wu n t b k v).f 32 = k := by
  show openN (uni k v) 32 = k
  rw [openN_uni k v hv]; omega
theorem open_wu0 (n t : Nat) (b : Int) : openN (wu n t b 0 0).f 32 = 0 := by
  show openN (uni 0 0) 32 = 0
  rw [← uni_zero 1, openN_uni 0 1 (by omega)]; omega
end Go.Proofs.YtmiijmiikpmcgaaDoor
end
