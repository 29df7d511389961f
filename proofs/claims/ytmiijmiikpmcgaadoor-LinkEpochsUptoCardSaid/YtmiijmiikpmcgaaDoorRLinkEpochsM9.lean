/- Texts joined: LkOut, LkMay. -/
import Derived.Test.YtmiijmiikpmcgaaDoorRLinkEpochsM8
section
/- Package link: the end that sends: made, Up, Epoch, Open, again, welcome, there, Hear. -/
set_option linter.unusedVariables false
set_option linter.unusedSimpArgs false
namespace Go.Proofs.YtmiijmiikpmcgaaDoor
open Go.RowKit
open Go.Proofs.YtmiijmiikpmcgaaDoor.Pk (Pkt)

structure OS where
  self : Int
  other : Int
  ep : Int
  wait : Int
  up : Bool
  hello : Int
  ws : WS
def OS.cells (s : OS) (p : Nat) : Array Value := #[.int .i64 s.self, .int .i64 s.other, .int .u64 s.ep, .pointer (some ⟨p, 0, none⟩), .int .i64 s.wait, .bool s.up, .int .i64 s.hello]
structure OSt (w0 w : World) (b p : Nat) (s : OS) : Prop where
  blk : Blk w b 37 (s.cells p)
  win : WSt w0 w p s.ws
  own : w0.heap.size ≤ b
  ne : b ≠ p
section
variable {w0 w w' : World} {b p : Nat} {s s' : OS}
theorem OSt.to (h : OSt w0 w b p s) (hc : Chg [] w w') : OSt w0 w' b p s := ⟨h.blk.chg hc (by simp), h.win.to hc, h.own, h.ne⟩
theorem OSt.cell0 (h : OSt w0 w b p s) : w.cell? ⟨b, 0, none⟩ = some (.int .i64 s.self) := h.blk.cell 0
theorem OSt.cell1 (h : OSt w0 w b p s) : w.cell? ⟨b, 1, none⟩ = some (.int .i64 s.other) := h.blk.cell 1
theorem OSt.cell2 (h : OSt w0 w b p s) : w.cell? ⟨b, 2, none⟩ = some (.int .u64 s.ep) := h.blk.cell 2
theorem OSt.cell3 (h : OSt w0 w b p s) : w.cell? ⟨b, 3, none⟩ = some (.pointer (some ⟨p, 0, none⟩)) := h.blk.cell 3
theorem OSt.cell4 (h : OSt w0 w b p s) : w.cell? ⟨b, 4, none⟩ = some (.int .i64 s.wait) := h.blk.cell 4
theorem OSt.cell5 (h : OSt w0 w b p s) : w.cell? ⟨b, 5, none⟩ = some (.bool s.up) := h.blk.cell 5
theorem OSt.cell6 (h : OSt w0 w b p s) : w.cell? ⟨b, 6, none⟩ = some (.int .i64 s.hello) := h.blk.cell 6
theorem OSt.chg (h : OSt w0 w b p s) : Chg [] w0 w := h.win.chg
theorem OSt.lt (h : OSt w0 w b p s) : b < w.heap.size := h.blk.lt
/-- The end's own fields change. -/
theorem OSt.step (h : OSt w0 w b p s) (hb : Blk w' b 37 (s'.cells p)) (hc : Chg [b] w w') (hw : s'.ws = s.ws) : OSt w0 w' b p s' := by
  have hn := h.ne
  refine ⟨hb, ⟨by rw [hw]; exact h.win.win.chg hc (by simpa using hn.symm), by rw [hw]; exact h.win.ok, h.win.own, h.win.chg.then_ hc (fun x hx => by simp at hx; subst hx; exact .inr h.own)⟩, h.own, hn⟩
/-- Its window changes. -/
theorem OSt.stepW (h : OSt w0 w b p s) {x : WS} (hw : WSt w0 w' p x) (hc : Chg [p] w w') : OSt w0 w' b p { s with ws := x } :=
  ⟨h.blk.chg hc (by simpa using h.ne), hw, h.own, h.ne⟩
set_option maxHeartbeats 2000000 in
theorem made_out (h : OSt w0 w b p s) : Calls Tryd.prog 20 #[.pointer (some ⟨b, 0, none⟩)] w fun e w' => e = .returned (.bool true) ∧ w = w' := by
  have u3 := h.cell3
  clear h
  go_enter Tryd.func20, Tryd.ntmps20
  go_wp2
  go_ret
  exact ⟨rfl, rfl⟩
set_option maxHeartbeats 2000000 in
theorem up_out (h : OSt w0 w b p s) : Calls Tryd.prog 7 #[.pointer (some ⟨b, 0, none⟩)] w fun e w' => e = .returned (.bool s.up) ∧ w = w' := by
  have H := Lib.hid h
  have u5 := h.cell5
  clear h
  go_enter Tryd.func7, Tryd.ntmps7
  go_wp2_with (go_at_call 20; refine (made_out H.out).mono ?_; rintro e w1 ⟨rfl, rfl⟩)
  go_ret
  exact ⟨rfl, rfl⟩
set_option maxHeartbeats 2000000 in
theorem epoch_out (h : OSt w0 w b p s) : Calls Tryd.prog 8 #[.pointer (some ⟨b, 0, none⟩)] w fun e w' => e = .returned (.int .u64 s.ep) ∧ w = w' := by
  have H := Lib.hid h
  have u2 := h.cell2
  clear h
  go_enter Tryd.func8, Tryd.ntmps8
  go_wp2_with (go_at_call 20; refine (made_out H.out).mono ?_; rintro e w1 ⟨rfl, rfl⟩)
  go_ret
  exact ⟨rfl, rfl⟩
set_option maxHeartbeats 2000000 in
theorem open_out (h : OSt w0 w b p s) : Calls Tryd.prog 9 #[.pointer (some ⟨b, 0, none⟩)] w fun e w' => e = .returned (.int .i64 (openN s.ws.f 32 : Nat)) ∧ Chg [] w w' := by
  have H := Lib.hid h
  have u3 := h.cell3
  clear h
  go_enter Tryd.func9, Tryd.ntmps9
  go_wp2_with (go_at_call 20; refine (made_out H.out).mono ?_; rintro e w1 ⟨rfl, rfl⟩)
  refine (H.out.win.open_).mono ?_
  rintro e w1 ⟨rfl, _, hc⟩
  have HC := Lib.hid hc
  clear hc
  go_wp2
  go_ret
  exact ⟨rfl, HC.out⟩
def OS.again (s : OS) : OS := { s with ep := (if s.ep = 18446744073709551615 then s.ep else s.ep + 1), up := false, hello := 0 }
set_option maxHeartbeats 2000000 in
theorem again_out (h : OSt w0 w b p s) (h0 : 0 ≤ s.ep) (h1 : s.ep < 18446744073709551616) : Calls Tryd.prog 42 #[.pointer (some ⟨b, 0, none⟩)] w fun e w' => e = .returned (.int .i64 0) ∧ OSt w0 w' b p s.again ∧ Chg [b] w w' := by
  have H := Lib.hid h
  have u2 := h.cell2
  have u5 := h.cell5
  have u6 := h.cell6
  have f2 := h.blk.frozen 2
  have f5 : ∀ z, (w.setCell ⟨b, 2, none⟩ z).frozen? ⟨b, 5, none⟩ = false := fun z => (h.blk.set_ 2 z).frozen 5
  have f6 : ∀ z v, ((w.setCell ⟨b, 2, none⟩ z).setCell ⟨b, 5, none⟩ v).frozen? ⟨b, 6, none⟩ = false := fun z v => ((h.blk.set_ 2 z).set_ 5 v).frozen 6
  clear h
  have key : ∀ z : Int, z = (if s.ep = 18446744073709551615 then s.ep else s.ep + 1) → Blk (((w.setCell ⟨b, 2, none⟩ (.int .u64 z)).setCell ⟨b, 5, none⟩ (.bool false)).setCell ⟨b, 6, none⟩ (.int .i64 0)) b 37 (s.again.cells p) := by
    rintro z rfl
    exact ((H.out.blk.set_ 2 _).set_ 5 _).set_ 6 _
  have HK := Lib.hid key
  clear key
  by_cases he : s.ep = 18446744073709551615
  · rw [he] at u2
    have HE := Lib.hid he
    clear he h0 h1
    go_enter Tryd.func42, Tryd.ntmps42
    go_upto_region 1 with fail
    go_region
    go_wp2
    go_ret
    have h2 := (((set_chg w b 2 (.int .u64 18446744073709551615)).trans (set_chg _ b 5 (.bool false))).trans (set_chg _ b 6 (.int .i64 0))).drew
    exact ⟨rfl, H.out.step (s' := s.again) ((HK.out 18446744073709551615 (by rw [if_pos HE.out, HE.out])).drewN 1) h2 rfl, h2⟩
  · have t1 : s.ep < 18446744073709551615 := by omega
    have HE := Lib.hid he
    clear he
    go_enter Tryd.func42, Tryd.ntmps42
    go_upto_region 1 with fail
    go_region
    go_wp2
    go_ret
    have h2 := (((set_chg w b 2 (.int .u64 (s.ep + 1))).trans (set_chg _ b 5 (.bool false))).trans (set_chg _ b 6 (.int .i64 0))).drew
    exact ⟨rfl, H.out.step (s' := s.again) ((HK.out (s.ep + 1) (by rw [if_neg HE.out])).drewN 1) h2 rfl, h2⟩
/-- A PackWelcome. -/
def OS.welcome (s : OS) (p : Pkt) : OS := if p.ep = 0 then s.again else if p.ep = s.ep ∧ s.up = false then { s with up := true, ws := WS.new s.ws.size s.ws.wait } else s
set_option maxRecDepth 100000 in
set_option maxHeartbeats 4000000 in
theorem welcome_out (h : OSt w0 w b p s) (h0 : 0 ≤ s.ep) (h1 : s.ep < 18446744073709551616) (q : Pkt) : Calls Tryd.prog 27 #[.pointer (some ⟨b, 0, none⟩), pkV q] w fun e w' => e = .returned (.int .i64 0) ∧ OSt w0 w' b p (s.welcome q) ∧ Chg [b, p] w w' := by
  have hc0 := (Chg.refl [] w).alloc (.cells (PkS.cells q) 30)
  have H := Lib.hid (And.intro (h.to hc0) (And.intro (Blk.new w 30 (PkS.cells q)) (And.intro hc0 h.lt)))
  have HE := Lib.hid (And.intro h0 h1)
  clear h h0 h1 hc0
  unfold pkV OS.welcome
  by_cases e1 : q.ep = 0
  · rw [if_pos e1]
    go_enter Tryd.func27, Tryd.ntmps27
    go_upto_region 1 with fail
    generalize w.alloc (.cells (PkS.cells q) 30) = W at *
    have d3 : W.cell? ⟨w.heap.size, 3, none⟩ = some (.int .u64 q.ep) := H.out.2.1.cell 3
    rw [e1] at d3
    clear e1
    go_wp2_with fail
    refine (again_out H.out.1 HE.out.1 HE.out.2).mono ?_
    rintro e w2 ⟨rfl, ho, hc⟩
    have H2 := Lib.hid (And.intro ho (H.out.2.2.1.mono (M := [b, p]) (by simp) |>.trans (hc.mono (by simp))))
    clear ho hc
    go_wp2
    go_ret
    exact ⟨rfl, H2.out⟩
  · rw [if_neg e1]
    have t1 : (q.ep == 0) = false := by simpa using e1
    by_cases e2 : q.ep = s.ep
    · have t2 : (q.ep == s.ep) = true := by simpa using e2
      cases hu : s.up with
      | false =>
        rw [if_pos ⟨e2, rfl⟩]
        go_enter Tryd.func27, Tryd.ntmps27
        go_upto_region 1 with fail
        generalize w.alloc (.cells (PkS.cells q) 30) = W at *
        have d3 : W.cell? ⟨w.heap.size, 3, none⟩ = some (.int .u64 q.ep) := H.out.2.1.cell 3
        have u2 := H.out.1.cell2
        have u5 := H.out.1.cell5
        rw [hu] at u5
        have u3 := H.out.1.cell3
        have f5 := H.out.1.blk.frozen 5
        clear e1 e2
        go_upto_region 3 with fail
        go_quiet (fail)
        go_upto_region 5 with fail
        have hb : Blk ((W.drewN nq).setCell ⟨b, 5, none⟩ (.bool true)) b 37 (OS.cells { s with up := true } p) := (H.out.1.blk.drewN nq).set_ 5 (.bool true)
        have H1 := Lib.hid (And.intro ((H.out.1.to ((Chg.refl [] W).drewN nq)).step (s' := { s with up := true }) hb (set_chg _ b 5 _) rfl) (((H.out.2.2.1.drewN nq).mono (M := [b, p]) (by simp)).trans ((set_chg (W.drewN nq) b 5 (.bool true)).mono (by simp))))
        clear hb u2 u5 u3 f5 d3 t1 t2
        generalize (W.drewN nq).setCell ⟨b, 5, none⟩ (.bool true) = W1 at *
        have u3 := H1.out.1.cell3
        go_wp2_with fail
        refine (H1.out.1.win.reset).mono ?_
        rintro e w2 ⟨⟨v, rfl⟩, hw, hc⟩
        have H2 := Lib.hid (And.intro (H1.out.1.stepW hw hc) (H1.out.2.trans (hc.mono (by simp))))
        clear hw hc u3
        go_wp2
        go_ret
        exact ⟨rfl, H2.out⟩
      | true =>
        rw [if_neg (fun h => by simp at h)]
        go_enter Tryd.func27, Tryd.ntmps27
        go_upto_region 1 with fail
        generalize w.alloc (.cells (PkS.cells q) 30) = W at *
        have d3 : W.cell? ⟨w.heap.size, 3, none⟩ = some (.int .u64 q.ep) := H.out.2.1.cell 3
        have u2 := H.out.1.cell2
        have u5 := H.out.1.cell5
        rw [hu] at u5
        clear e1 e2
        go_upto_region 3 with fail
        go_quiet (fail)
        go_wp2
        go_ret
        exact ⟨rfl, H.out.1.to ((Chg.refl [] W).drewN nq), (H.out.2.2.1.drewN nq).mono (by simp)⟩
    · rw [if_neg (fun h => e2 h.1)]
      have t2 : (q.ep == s.ep) = false := by simpa using e2
      go_enter Tryd.func27, Tryd.ntmps27
      go_upto_region 1 with fail
      generalize w.alloc (.cells (PkS.cells q) 30) = W at *
      have d3 : W.cell? ⟨w.heap.size, 3, none⟩ = some (.int .u64 q.ep) := H.out.2.1.cell 3
      have u2 := H.out.1.cell2
      have u5 := H.out.1.cell5
      clear e1 e2
      go_upto_region 3 with fail
      go_quiet (fail)
      go_wp2
      go_ret
      exact ⟨rfl, H.out.1.to ((Chg.refl [] W).drewN nq), (H.out.2.2.1.drewN nq).mono (by simp)⟩
/-- A PackAck. -/
noncomputable def OS.there (s : OS) (p : Pkt) : Nat × OS := if s.up = false ∨ ¬ p.ep = s.ep then (0, s) else if farZ s.ws.base p.num < 0 then (0, s.again) else (ackK s.ws p.num, { s with ws := ackS s.ws p.num p.mask.toNat })
structure PkOk (p : Pkt) : Prop where
  ep : 0 ≤ p.ep ∧ p.ep < 18446744073709551616
  num : 0 ≤ p.num ∧ p.num < 65536
  mask : 0 ≤ p.mask ∧ p.mask < 18446744073709551616
set_option maxRecDepth 100000 in
set_option maxHeartbeats 4000000 in
theorem there_out (h : OSt w0 w b p s) (hL : Laid w0) (h0 : 0 ≤ s.ep) (h1 : s.ep < 18446744073709551616) (q : Pkt) (hq : PkOk q) : Calls Tryd.prog 28 #[.pointer (some ⟨b, 0, none⟩), pkV q] w fun e w' => e = .returned (.int .i64 ((s.there q).1 : Nat)) ∧ OSt w0 w' b p (s.there q).2 ∧ Chg [b, p] w w' := by
  have hc0 := (Chg.refl [] w).alloc (.cells (PkS.cells q) 30)
  have H := Lib.hid (And.intro (h.to hc0) (And.intro (Blk.new w 30 (PkS.cells q)) (And.intro hc0 h.lt)))
  have HE := Lib.hid (And.intro h0 (And.intro h1 (And.intro hL hq)))
  clear h h0 h1 hc0 hL hq
  unfold pkV OS.there
  cases hu : s.up with
  | false =>
    rw [if_pos (.inl rfl)]
    go_enter Tryd.func28, Tryd.ntmps28
    go_upto_region 1 with fail
    generalize w.alloc (.cells (PkS.cells q) 30) = W at *
    have d3 : W.cell? ⟨w.heap.size, 3, none⟩ = some (.int .u64 q.ep) := H.out.2.1.cell 3
    have u2 := H.out.1.cell2
    have u5 := H.out.1.cell5
    rw [hu] at u5
    go_quiet (fail)
    go_wp2
    go_ret
    exact ⟨rfl, H.out.1.to ((Chg.refl [] W).drewN nq), (H.out.2.2.1.drewN nq).mono (by simp)⟩
  | true =>
    by_cases e2 : q.ep = s.ep
    · have t2 : (q.ep != s.ep) = false := by simpa using e2
      rw [if_neg (fun h => h.elim (fun h => by simp at h) (fun h => h e2))]
      by_cases hf : farZ s.ws.base q.num < 0
      · rw [if_pos hf]
        have tf := decide_eq_true hf
        clear hf
        go_enter Tryd.func28, Tryd.ntmps28
        go_upto_region 1 with fail
        generalize w.alloc (.cells (PkS.cells q) 30) = W at *
        have d3 : W.cell? ⟨w.heap.size, 3, none⟩ = some (.int .u64 q.ep) := H.out.2.1.cell 3
        have u2 := H.out.1.cell2
        have u5 := H.out.1.cell5
        rw [hu] at u5
        clear e2
        go_quiet (fail)
        have H1 := Lib.hid (And.intro (H.out.1.to ((Chg.refl [] W).drewN nq)) (And.intro (H.out.2.1.drewN nq) (H.out.2.2.1.drewN nq)))
        clear u2 u5 d3 t2
        generalize W.drewN nq = V at *
        go_upto_region 3 with fail
        obtain ⟨D, hD⟩ : ∃ D, D = World.drew V := ⟨_, rfl⟩
        have HS0 : Hid (Chg [] D (World.drew V)) := Lib.hid (by rw [hD]; exact Chg.refl _ _)
        have HVD : Hid (Chg [] V D) := Lib.hid (by rw [hD]; exact (Chg.refl [] V).drew)
        have hne : Nonempty (Hold (Chg [] D)) := ⟨⟨_, HS0.out⟩⟩
        clear hD
        have H2 := Lib.hid (And.intro (H1.out.1.to HVD.out) (And.intro (H1.out.2.1.chg HVD.out (by simp)) (H1.out.2.2.trans HVD.out)))
        have HB := Lib.hid (fun x : Hold (Chg [] D) => (H2.out.1.win.to x.h).base)
        have HF := Lib.hid (fun x : Hold (Chg [] D) => far_any s.ws.base q.num x.W)
        have c3 : ∀ x : Hold (Chg [] D), x.W.cell? ⟨b, 3, none⟩ = some (.pointer (some ⟨p, 0, none⟩)) := fun x => x.h.cell_some H2.out.1.cell3 (by simp)
        have d4 : ∀ x : Hold (Chg [] D), x.W.cell? ⟨w.heap.size, 4, none⟩ = some (.int .u16 q.num) := fun x => x.h.cell_some (H2.out.2.1.cell 4) (by simp)
        refine wp_region_hold (Chg [] D) (by kernel_rfl) (by kernel_rfl) HS0.out ?_
        repeat (go_big_quiet_step (first | (with_reducible exact Calls.hold (HB.out _) (fun w' hc => hc ▸ Hold.h _)) | (with_reducible exact Calls.hold (HF.out _) (fun w' hc => hc ▸ Hold.h _))))
        refine wpQuiet_nil ?_
        rintro wy ⟨⟨wz, hy⟩, hz⟩
        replace hz : wy = wz := hz
        subst hz
        have HY := Lib.hid (HVD.out.trans hy)
        clear hy HS0 HVD hne
        clear c3 d4 HB HF H2
        have H3 := Lib.hid (And.intro (H1.out.1.to HY.out) (And.intro (H1.out.2.1.chg HY.out (by simp)) (H1.out.2.2.trans HY.out)))
        clear HY H1
        go_wp2_with fail
        refine (again_out H3.out.1 HE.out.1 HE.out.2.1).mono ?_
        rintro e w2 ⟨rfl, ho, hc⟩
        have H2 := Lib.hid (And.intro ho (H3.out.2.2.mono (M := [b, p]) (by simp) |>.trans (hc.mono (by simp))))
        clear ho hc
        go_wp2
        go_ret
        exact ⟨rfl, H2.out⟩
      · rw [if_neg hf]
        have tf := decide_eq_false hf
        clear hf
        have em : (((q.mask.toNat : Nat)) : Int) = q.mask := Int.toNat_of_nonneg HE.out.2.2.2.mask.1
        have EM := Lib.hid em
        clear em
        go_enter Tryd.func28, Tryd.ntmps28
        go_upto_region 1 with fail
        generalize w.alloc (.cells (PkS.cells q) 30) = W at *
        have d3 : W.cell? ⟨w.heap.size, 3, none⟩ = some (.int .u64 q.ep) := H.out.2.1.cell 3
        have u2 := H.out.1.cell2
        have u5 := H.out.1.cell5
        rw [hu] at u5
        clear e2
        go_quiet (fail)
        have H1 := Lib.hid (And.intro (H.out.1.to ((Chg.refl [] W).drewN nq)) (And.intro (H.out.2.1.drewN nq) (H.out.2.2.1.drewN nq)))
        clear u2 u5 d3 t2
        generalize W.drewN nq = V at *
        go_upto_region 3 with fail
        obtain ⟨D, hD⟩ : ∃ D, D = World.drew V := ⟨_, rfl⟩
        have HS0 : Hid (Chg [] D (World.drew V)) := Lib.hid (by rw [hD]; exact Chg.refl _ _)
        have HVD : Hid (Chg [] V D) := Lib.hid (by rw [hD]; exact (Chg.refl [] V).drew)
        have hne : Nonempty (Hold (Chg [] D)) := ⟨⟨_, HS0.out⟩⟩
        clear hD
        have H2 := Lib.hid (And.intro (H1.out.1.to HVD.out) (And.intro (H1.out.2.1.chg HVD.out (by simp)) (H1.out.2.2.trans HVD.out)))
        have HB := Lib.hid (fun x : Hold (Chg [] D) => (H2.out.1.win.to x.h).base)
        have HF := Lib.hid (fun x : Hold (Chg [] D) => far_any s.ws.base q.num x.W)
        have c3 : ∀ x : Hold (Chg [] D), x.W.cell? ⟨b, 3, none⟩ = some (.pointer (some ⟨p, 0, none⟩)) := fun x => x.h.cell_some H2.out.1.cell3 (by simp)
        have d4 : ∀ x : Hold (Chg [] D), x.W.cell? ⟨w.heap.size, 4, none⟩ = some (.int .u16 q.num) := fun x => x.h.cell_some (H2.out.2.1.cell 4) (by simp)
        refine wp_region_hold (Chg [] D) (by kernel_rfl) (by kernel_rfl) HS0.out ?_
        repeat (go_big_quiet_step (first | (with_reducible exact Calls.hold (HB.out _) (fun w' hc => hc ▸ Hold.h _)) | (with_reducible exact Calls.hold (HF.out _) (fun w' hc => hc ▸ Hold.h _))))
        refine wpQuiet_nil ?_
        rintro wy ⟨⟨wz, hy⟩, hz⟩
        replace hz : wy = wz := hz
        subst hz
        have HY := Lib.hid (HVD.out.trans hy)
        clear hy HS0 HVD hne
        clear c3 d4 HB HF H2
        have H3 := Lib.hid (And.intro (H1.out.1.to HY.out) (And.intro (H1.out.2.1.chg HY.out (by simp)) (H1.out.2.2.trans HY.out)))
        clear HY H1
        go_upto_region 5 with fail
        generalize hm : q.mask.toNat = m at *
        have hmk : m < 18446744073709551616 := by have h1 := HE.out.2.2.2.mask.2; have h2 := EM.out; omega
        have HM := Lib.hid hmk
        have HMM := Lib.hid hm
        clear hm hmk
        refine wp_region_noPanic ?_
        refine wp_region_held_drew (S := fun w' => w'.cell? ⟨b, 3, none⟩ = some (.pointer (some ⟨p, 0, none⟩)) ∧ w'.cell? ⟨w.heap.size, 4, none⟩ = some (.int .u16 q.num) ∧ w'.cell? ⟨w.heap.size, 5, none⟩ = some (.int .u64 (m : Nat))) (by kernel_rfl) ⟨H3.out.1.cell3, H3.out.2.1.cell 4, by rw [EM.out]; exact H3.out.2.1.cell 5⟩ (fun hHeld => ?_)
        have H4 := Lib.hid (And.intro (H3.out.1.to ((Chg.refl [] _).drew)) (And.intro (H3.out.2.1.drewN 1) (H3.out.2.2.drew)))
        refine wpAnyH_take (i := 0) (oi := _) (v := ?_) rfl (by kernel_rfl) (by kernel_rfl) (by kernel_rfl) (fun _ _ _ h => h) (Or.inl ⟨by rfl, ?_⟩) (by assumption) ?_
        rotate_left 1
        · intro w hSw
          try dsimp only at hSw
          go_simp
          try with_reducible rfl
        try simp only [List.getElem_toArray, List.getElem_cons_zero, List.getElem_cons_succ, Act.put, List.setIfInBounds_toArray, List.set_cons_zero, List.set_cons_succ]
        refine wpAnyH_take (i := 1) (oi := _) (v := ?_) rfl (by kernel_rfl) (by kernel_rfl) (by kernel_rfl) (fun _ _ _ h => h) (Or.inl ⟨by rfl, ?_⟩) (by assumption) ?_
        rotate_left 1
        · intro w hSw
          try dsimp only at hSw
          go_simp
          try with_reducible rfl
        try simp only [List.getElem_toArray, List.getElem_cons_zero, List.getElem_cons_succ, Act.put, List.setIfInBounds_toArray, List.set_cons_zero, List.set_cons_succ]
        refine wpAnyH_take (i := 2) (oi := _) (v := ?_) rfl (by kernel_rfl) (by kernel_rfl) (by kernel_rfl) (fun _ _ _ h => h) (Or.inl ⟨by rfl, ?_⟩) (by assumption) ?_
        rotate_left 1
        · intro w hSw
          try dsimp only at hSw
          go_simp
          try with_reducible rfl
        try simp only [List.getElem_toArray, List.getElem_cons_zero, List.getElem_cons_succ, Act.put, List.setIfInBounds_toArray, List.set_cons_zero, List.set_cons_succ]
        refine wpAnyH_take (i := 3) (oi := _) (v := ?_) rfl (by kernel_rfl) (by kernel_rfl) (by kernel_rfl) (fun _ _ _ h => h) (Or.inl ⟨by rfl, ?_⟩) (by assumption) ?_
        rotate_left 1
        · intro w hSw
          try dsimp only at hSw
          go_simp
          try with_reducible rfl
        try simp only [List.getElem_toArray, List.getElem_cons_zero, List.getElem_cons_succ, Act.put, List.setIfInBounds_toArray, List.set_cons_zero, List.set_cons_succ]
        refine wpAnyH_take (i := 4) (oi := _) (v := ?_) rfl (by kernel_rfl) (by kernel_rfl) (by kernel_rfl) (fun _ _ _ h => h) (Or.inl ⟨by rfl, ?_⟩) (by assumption) ?_
        rotate_left 1
        · intro w hSw
          try dsimp only at hSw
          go_simp
          try with_reducible rfl
        try simp only [List.getElem_toArray, List.getElem_cons_zero, List.getElem_cons_succ, Act.put, List.setIfInBounds_toArray, List.set_cons_zero, List.set_cons_succ]
        refine wpAnyH_take (i := 5) (oi := _) (v := ?_) rfl (by kernel_rfl) (by kernel_rfl) (by kernel_rfl) (fun _ _ _ h => h) (Or.inl ⟨by rfl, ?_⟩) (by assumption) ?_
        rotate_left 1
        · intro w hSw
          try dsimp only at hSw
          go_simp
          try with_reducible rfl
        try simp only [List.getElem_toArray, List.getElem_cons_zero, List.getElem_cons_succ, Act.put, List.setIfInBounds_toArray, List.set_cons_zero, List.set_cons_succ]
        refine wpAnyH_take (i := 6) (oi := _) (v := ?_) rfl (by kernel_rfl) (by kernel_rfl) (by kernel_rfl) (fun _ _ _ h => h) (Or.inl ⟨by rfl, ?_⟩) (by assumption) ?_
        rotate_left 1
        · intro w hSw
          try dsimp only at hSw
          go_simp
          try with_reducible rfl
        try simp only [List.getElem_toArray, List.getElem_cons_zero, List.getElem_cons_succ, Act.put, List.setIfInBounds_toArray, List.set_cons_zero, List.set_cons_succ]
        refine wpAnyH_take (i := 7) (oi := _) (v := ?_) rfl (by kernel_rfl) (by kernel_rfl) (by kernel_rfl) (fun _ _ _ h => h) (Or.inl ⟨by rfl, ?_⟩) (by assumption) ?_
        rotate_left 1
        · intro w hSw
          try dsimp only at hSw
          go_simp
          try with_reducible rfl
        try simp only [List.getElem_toArray, List.getElem_cons_zero, List.getElem_cons_succ, Act.put, List.setIfInBounds_toArray, List.set_cons_zero, List.set_cons_succ]
        refine wpAnyH_ready (rs := [8]) (by kernel_rfl) (by simp) (AllReadyH.cons rfl (fun K hK => ?_) AllReadyH.nil)
        go_simp
        refine (H4.out.1.win.ackAny HE.out.2.2.1 q.num m HM.out HE.out.2.2.2.num.1 HE.out.2.2.2.num.2).mono ?_
        rintro e w2 ⟨rfl, hw, hc⟩
        have hpn : p ≠ w.heap.size := fun e => by have h1 := H4.out.2.1; have h2 := H4.out.1.win.win; subst e; exact absurd h1 (blk_other h2 (by decide))
        have HK := Lib.hid (show w2.cell? ⟨b, 3, none⟩ = some (.pointer (some ⟨p, 0, none⟩)) ∧ w2.cell? ⟨w.heap.size, 4, none⟩ = some (.int .u16 q.num) ∧ w2.cell? ⟨w.heap.size, 5, none⟩ = some (.int .u64 (m : Nat)) from ⟨(H4.out.1.stepW hw hc).cell3, hc.cell_some (H4.out.2.1.cell 4) (by simpa using hpn.symm), hc.cell_some (by rw [EM.out]; exact H4.out.2.1.cell 5) (by simpa using hpn.symm)⟩)
        have H5 := Lib.hid (And.intro (H4.out.1.stepW hw hc) (H4.out.2.2.mono (M := [b, p]) (by simp) |>.trans (hc.mono (by simp))))
        clear hw hc hpn
        go_wp2_with fail
        refine hK.out _ _ HK.out (fun hHeld => ?_)
        clear hK K
        try simp only [List.getElem_toArray, List.getElem_cons_zero, List.getElem_cons_succ, Act.put, List.setIfInBounds_toArray, List.set_cons_zero, List.set_cons_succ]
        refine wpAnyH_take (i := 9) (oi := _) (v := ?_) rfl (by kernel_rfl) (by kernel_rfl) (by kernel_rfl) (fun _ _ _ h => h) (Or.inl ⟨by rfl, ?_⟩) (by assumption) ?_
        rotate_left 1
        · intro w hSw
          try dsimp only at hSw
          go_simp
          try with_reducible rfl
        try simp only [List.getElem_toArray, List.getElem_cons_zero, List.getElem_cons_succ, Act.put, List.setIfInBounds_toArray, List.set_cons_zero, List.set_cons_succ]
        refine wpAnyH_done (by kernel_rfl) ?_ _
        refine NoPanic.normal ?_
        go_wp2
        go_ret
        have h5 := H5.out
        rw [hu] at h5
        rw [HMM.out]
        exact ⟨rfl, h5⟩
    · have t2 : (q.ep != s.ep) = true := by simpa using e2
      rw [if_pos (.inr e2)]
      go_enter Tryd.func28, Tryd.ntmps28
      go_upto_region 1 with fail
      generalize w.alloc (.cells (PkS.cells q) 30) = W at *
      have d3 : W.cell? ⟨w.heap.size, 3, none⟩ = some (.int .u64 q.ep) := H.out.2.1.cell 3
      have u2 := H.out.1.cell2
      have u5 := H.out.1.cell5
      rw [hu] at u5
      clear e2
      go_quiet (fail)
      go_wp2
      go_ret
      exact ⟨rfl, H.out.1.to ((Chg.refl [] W).drewN nq), (H.out.2.2.1.drewN nq).mono (by simp)⟩
set_option maxHeartbeats 1000000 in
theorem hear1_any (q : Pkt) (w : World) : Calls Tryd.prog 26 #[pkV q] w fun e w' => e = .returned (.int .i64 0) ∧ Chg [] w w' := by
  unfold pkV
  go_enter Tryd.func26, Tryd.ntmps26
  go_wp2
  go_ret
  exact ⟨rfl, (Chg.refl [] w).alloc _⟩
/-- A packet that the end hears. -/
noncomputable def OS.hear (s : OS) (p : Pkt) : Nat × OS := if hearsP s.self s.other p then (if p.kind = 2 then (0, s.welcome p) else if p.kind = 4 then s.there p else (0, s)) else (0, s)
set_option maxRecDepth 100000 in
set_option maxHeartbeats 4000000 in
theorem hear_out (h : OSt w0 w b p s) (hL : Laid w0) (hK : KndAt w) (h0 : 0 ≤ s.ep) (h1 : s.ep < 18446744073709551616) (q : Pkt) (hq : PkOk q) (hs : q.m.Small) : Calls Tryd.prog 6 #[.pointer (some ⟨b, 0, none⟩), pkV q] w fun e w' => e = .returned (.int .i64 ((s.hear q).1 : Nat)) ∧ OSt w0 w' b p (s.hear q).2 ∧ Chg [b, p] w w' := by
  have hc0 := (Chg.refl [] w).alloc (.cells (PkS.cells q) 30)
  have H := Lib.hid (And.intro (h.to hc0) (And.intro (Blk.new w 30 (PkS.cells q)) (And.intro hc0 (hK.chg0 hc0))))
  have HE := Lib.hid (And.intro h0 (And.intro h1 (And.intro hL (And.intro hq hs))))
  clear h h0 h1 hc0 hL hq hs hK
  unfold OS.hear
  obtain ⟨hr, hhr⟩ : ∃ r, hearsP s.self s.other q = r := ⟨_, rfl⟩
  rw [hhr]
  have HR := Lib.hid hhr
  clear hhr
  unfold pkV
  cases hr with
  | false =>
    rw [if_neg (by simp)]
    go_enter Tryd.func6, Tryd.ntmps6
    go_upto_region 1 with fail
    generalize w.alloc (.cells (PkS.cells q) 30) = W at *
    obtain ⟨D, hD⟩ : ∃ D, D = World.drew W := ⟨_, rfl⟩
    have HS0 : Hid (Chg [] D (World.drew W)) := Lib.hid (by rw [hD]; exact Chg.refl _ _)
    have HVD : Hid (Chg [] W D) := Lib.hid (by rw [hD]; exact (Chg.refl [] W).drew)
    have hne : Nonempty (Hold (Chg [] D)) := ⟨⟨_, HS0.out⟩⟩
    clear hD
    have H2 := Lib.hid (And.intro (H.out.1.to HVD.out) (And.intro (H.out.2.1.chg HVD.out (by simp)) (And.intro (H.out.2.2.1.trans HVD.out) (H.out.2.2.2.chg0 HVD.out))))
    have hl := Lib.hid (hold_pk H2.out.2.1)
    have HM := Lib.hid (fun x : Hold (Chg [] D) => made_out (H2.out.1.to x.h))
    have HH := Lib.hid (fun x : Hold (Chg [] D) => hears_any x.W b s.self s.other q HE.out.2.2.2.2 (H2.out.2.2.2.chg0 x.h) (H2.out.1.to x.h).cell0 (H2.out.1.to x.h).cell1)
    rw [HR.out] at HH
    unfold pkV at HH
    refine wp_region_hold (Chg [] D) (by kernel_rfl) (by kernel_rfl) HS0.out ?_
    repeat (first
      | go_big_quiet_step (first | (with_reducible exact Calls.hold (HM.out _) (fun w' hc => hc ▸ Hold.h _)) | (with_reducible exact Calls.hold (HH.out _) (fun w' hc => Chg.trans (Hold.h _) hc)))
      | (refine wpQuiet_loadW (by rfl) _ _ (by rfl) _ _ (by rfl) hl.out ?_
         try simp only [List.getElem_toArray, List.getElem_cons_zero, List.getElem_cons_succ, Act.put, List.setIfInBounds_toArray, List.set_cons_zero, List.set_cons_succ]
         skip))
    refine wpQuiet_nil ?_
    rintro wy ⟨⟨wz, hy⟩, hz⟩
    replace hz : wy = wz := hz
    subst hz
    have HY := Lib.hid (HVD.out.trans hy)
    clear hy HS0 HVD hne
    clear HM HH hl H2
    have H3 := Lib.hid (And.intro (H.out.1.to HY.out) (And.intro (H.out.2.1.chg HY.out (by simp)) (H.out.2.2.1.trans HY.out)))
    clear HY H
    go_wp2
    go_ret
    exact ⟨rfl, H3.out.1, H3.out.2.2.mono (by simp)⟩
  | true =>
    rw [if_pos rfl]
    by_cases k2 : q.kind = 2
    · rw [if_pos k2]
      have K2 := Lib.hid k2
      clear k2
      go_enter Tryd.func6, Tryd.ntmps6
      go_upto_region 1 with fail
      generalize w.alloc (.cells (PkS.cells q) 30) = W at *
      obtain ⟨D, hD⟩ : ∃ D, D = World.drew W := ⟨_, rfl⟩
      have HS0 : Hid (Chg [] D (World.drew W)) := Lib.hid (by rw [hD]; exact Chg.refl _ _)
      have HVD : Hid (Chg [] W D) := Lib.hid (by rw [hD]; exact (Chg.refl [] W).drew)
      have hne : Nonempty (Hold (Chg [] D)) := ⟨⟨_, HS0.out⟩⟩
      clear hD
      have H2 := Lib.hid (And.intro (H.out.1.to HVD.out) (And.intro (H.out.2.1.chg HVD.out (by simp)) (And.intro (H.out.2.2.1.trans HVD.out) (H.out.2.2.2.chg0 HVD.out))))
      have hl := Lib.hid (hold_pk H2.out.2.1)
      have HM := Lib.hid (fun x : Hold (Chg [] D) => made_out (H2.out.1.to x.h))
      have HH := Lib.hid (fun x : Hold (Chg [] D) => hears_any x.W b s.self s.other q HE.out.2.2.2.2 (H2.out.2.2.2.chg0 x.h) (H2.out.1.to x.h).cell0 (H2.out.1.to x.h).cell1)
      rw [HR.out] at HH
      unfold pkV at HH
      refine wp_region_hold (Chg [] D) (by kernel_rfl) (by kernel_rfl) HS0.out ?_
      repeat (first
        | go_big_quiet_step (first | (with_reducible exact Calls.hold (HM.out _) (fun w' hc => hc ▸ Hold.h _)) | (with_reducible exact Calls.hold (HH.out _) (fun w' hc => Chg.trans (Hold.h _) hc)))
        | (refine wpQuiet_loadW (by rfl) _ _ (by rfl) _ _ (by rfl) hl.out ?_
           try simp only [List.getElem_toArray, List.getElem_cons_zero, List.getElem_cons_succ, Act.put, List.setIfInBounds_toArray, List.set_cons_zero, List.set_cons_succ]
           skip))
      refine wpQuiet_nil ?_
      rintro wy ⟨⟨wz, hy⟩, hz⟩
      replace hz : wy = wz := hz
      subst hz
      have HY := Lib.hid (HVD.out.trans hy)
      clear hy HS0 HVD hne
      clear HM HH hl H2
      have H3 := Lib.hid (And.intro (H.out.1.to HY.out) (And.intro (H.out.2.1.chg HY.out (by simp)) (H.out.2.2.1.trans HY.out)))
      clear HY H
      have d0 : wy.cell? ⟨w.heap.size, 0, none⟩ = some (.int .i64 2) := by rw [← K2.out]; exact H3.out.2.1.cell 0
      have hl1 := load_pk H3.out.2.1
      go_wp2_with (refine wpList_loadW _ _ (by rfl) _ _ (by rfl) hl1 (by rfl) ?_)
      have HW := welcome_out H3.out.1 HE.out.1 HE.out.2.1 q
      unfold pkV at HW
      refine HW.mono ?_
      rintro e w2 ⟨rfl, ho, hc⟩
      clear HW hl1 d0
      have H4 := Lib.hid (And.intro ho (H3.out.2.2.mono (M := [b, p]) (by simp) |>.trans hc))
      clear ho hc
      go_wp2
      go_ret
      exact ⟨rfl, H4.out⟩
    · rw [if_neg k2]
      by_cases k4 : q.kind = 4
      · rw [if_pos k4]
        have K2 := Lib.hid k4
        clear k2 k4
        go_enter Tryd.func6, Tryd.ntmps6
        go_upto_region 1 with fail
        generalize w.alloc (.cells (PkS.cells q) 30) = W at *
        obtain ⟨D, hD⟩ : ∃ D, D = World.drew W := ⟨_, rfl⟩
        have HS0 : Hid (Chg [] D (World.drew W)) := Lib.hid (by rw [hD]; exact Chg.refl _ _)
        have HVD : Hid (Chg [] W D) := Lib.hid (by rw [hD]; exact (Chg.refl [] W).drew)
        have hne : Nonempty (Hold (Chg [] D)) := ⟨⟨_, HS0.out⟩⟩
        clear hD
        have H2 := Lib.hid (And.intro (H.out.1.to HVD.out) (And.intro (H.out.2.1.chg HVD.out (by simp)) (And.intro (H.out.2.2.1.trans HVD.out) (H.out.2.2.2.chg0 HVD.out))))
        have hl := Lib.hid (hold_pk H2.out.2.1)
        have HM := Lib.hid (fun x : Hold (Chg [] D) => made_out (H2.out.1.to x.h))
        have HH := Lib.hid (fun x : Hold (Chg [] D) => hears_any x.W b s.self s.other q HE.out.2.2.2.2 (H2.out.2.2.2.chg0 x.h) (H2.out.1.to x.h).cell0 (H2.out.1.to x.h).cell1)
        rw [HR.out] at HH
        unfold pkV at HH
        refine wp_region_hold (Chg [] D) (by kernel_rfl) (by kernel_rfl) HS0.out ?_
        repeat (first
          | go_big_quiet_step (first | (with_reducible exact Calls.hold (HM.out _) (fun w' hc => hc ▸ Hold.h _)) | (with_reducible exact Calls.hold (HH.out _) (fun w' hc => Chg.trans (Hold.h _) hc)))
          | (refine wpQuiet_loadW (by rfl) _ _ (by rfl) _ _ (by rfl) hl.out ?_
             try simp only [List.getElem_toArray, List.getElem_cons_zero, List.getElem_cons_succ, Act.put, List.setIfInBounds_toArray, List.set_cons_zero, List.set_cons_succ]
             skip))
        refine wpQuiet_nil ?_
        rintro wy ⟨⟨wz, hy⟩, hz⟩
        replace hz : wy = wz := hz
        subst hz
        have HY := Lib.hid (HVD.out.trans hy)
        clear hy HS0 HVD hne
        clear HM HH hl H2
        have H3 := Lib.hid (And.intro (H.out.1.to HY.out) (And.intro (H.out.2.1.chg HY.out (by simp)) (H.out.2.2.1.trans HY.out)))
        clear HY H
        have d0 : wy.cell? ⟨w.heap.size, 0, none⟩ = some (.int .i64 4) := by rw [← K2.out]; exact H3.out.2.1.cell 0
        have hl1 := load_pk H3.out.2.1
        go_wp2_with (refine wpList_loadW _ _ (by rfl) _ _ (by rfl) hl1 (by rfl) ?_)
        have HW := there_out H3.out.1 HE.out.2.2.1 HE.out.1 HE.out.2.1 q HE.out.2.2.2.1
        unfold pkV at HW
        refine HW.mono ?_
        rintro e w2 ⟨rfl, ho, hc⟩
        clear HW hl1 d0
        have H4 := Lib.hid (And.intro ho (H3.out.2.2.mono (M := [b, p]) (by simp) |>.trans hc))
        clear ho hc
        go_wp2
        go_ret
        exact ⟨rfl, H4.out⟩
      · rw [if_neg k4]
        have t2 : (q.kind == 2) = false := by simpa using k2
        have t4 : (q.kind == 4) = false := by simpa using k4
        have HT := Lib.hid (And.intro t2 t4)
        clear k2 k4 t2 t4
        go_enter Tryd.func6, Tryd.ntmps6
        go_upto_region 1 with fail
        generalize w.alloc (.cells (PkS.cells q) 30) = W at *
        obtain ⟨D, hD⟩ : ∃ D, D = World.drew W := ⟨_, rfl⟩
        have HS0 : Hid (Chg [] D (World.drew W)) := Lib.hid (by rw [hD]; exact Chg.refl _ _)
        have HVD : Hid (Chg [] W D) := Lib.hid (by rw [hD]; exact (Chg.refl [] W).drew)
        have hne : Nonempty (Hold (Chg [] D)) := ⟨⟨_, HS0.out⟩⟩
        clear hD
        have H2 := Lib.hid (And.intro (H.out.1.to HVD.out) (And.intro (H.out.2.1.chg HVD.out (by simp)) (And.intro (H.out.2.2.1.trans HVD.out) (H.out.2.2.2.chg0 HVD.out))))
        have hl := Lib.hid (hold_pk H2.out.2.1)
        have HM := Lib.hid (fun x : Hold (Chg [] D) => made_out (H2.out.1.to x.h))
        have HH := Lib.hid (fun x : Hold (Chg [] D) => hears_any x.W b s.self s.other q HE.out.2.2.2.2 (H2.out.2.2.2.chg0 x.h) (H2.out.1.to x.h).cell0 (H2.out.1.to x.h).cell1)
        rw [HR.out] at HH
        unfold pkV at HH
        refine wp_region_hold (Chg [] D) (by kernel_rfl) (by kernel_rfl) HS0.out ?_
        repeat (first
          | go_big_quiet_step (first | (with_reducible exact Calls.hold (HM.out _) (fun w' hc => hc ▸ Hold.h _)) | (with_reducible exact Calls.hold (HH.out _) (fun w' hc => Chg.trans (Hold.h _) hc)))
          | (refine wpQuiet_loadW (by rfl) _ _ (by rfl) _ _ (by rfl) hl.out ?_
             try simp only [List.getElem_toArray, List.getElem_cons_zero, List.getElem_cons_succ, Act.put, List.setIfInBounds_toArray, List.set_cons_zero, List.set_cons_succ]
             skip))
        refine wpQuiet_nil ?_
        rintro wy ⟨⟨wz, hy⟩, hz⟩
        replace hz : wy = wz := hz
        subst hz
        have HY := Lib.hid (HVD.out.trans hy)
        clear hy HS0 HVD hne
        clear HM HH hl H2
        have H3 := Lib.hid (And.intro (H.out.1.to HY.out) (And.intro (H.out.2.1.chg HY.out (by simp)) (H.out.2.2.1.trans HY.out)))
        clear HY H
        have d0 : wy.cell? ⟨w.heap.size, 0, none⟩ = some (.int .i64 q.kind) := H3.out.2.1.cell 0
        obtain ⟨t2, t4⟩ := HT.out
        have hl1 := load_pk H3.out.2.1
        go_wp2_with (refine wpList_loadW _ _ (by rfl) _ _ (by rfl) hl1 (by rfl) ?_)
        have HW := hear1_any q wy
        unfold pkV at HW
        refine HW.mono ?_
        rintro e w2 ⟨rfl, hc⟩
        clear HW hl1 d0
        have H4 := Lib.hid (And.intro (H3.out.1.to hc) (H3.out.2.2.mono (M := [b, p]) (by simp) |>.trans (hc.mono (by simp))))
        clear hc
        go_wp2
        go_ret
        exact ⟨rfl, H4.out⟩
end
end Go.Proofs.YtmiijmiikpmcgaaDoor
end
section
/- Package link: may, NewOut, NewIn; vault.Good. -/
set_option linter.unusedVariables false
set_option linter.unusedSimpArgs false
namespace Go.Proofs.YtmiijmiikpmcgaaDoor
open Go.RowKit
open Go.Proofs.YtmiijmiikpmcgaaDoor.Pk (Pkt)

structure Set4 where
  win : Int
  time : Int
  seg : Int
  keep : Int
def Set4.cells (x : Set4) : Array Value := #[.int .i64 x.win, .int .i64 x.time, .int .i64 x.seg, .int .i64 x.keep]
def btw (n lo hi : Int) : Bool := decide (lo ≤ n) && decide (n ≤ hi)
def Set4.good (x : Set4) : Bool := btw x.win 1 32 && (btw x.time 1 1000 && (btw x.seg 64 1048576 && btw x.keep 1 1000))
def mayB (a b : Int) (x : Set4) : Bool := Pk.siteP a && (Pk.siteP b && (!(a == b) && x.good))
theorem btw_any (n lo hi : Int) (w : World) : Calls Tryd.prog 59 #[.int .i64 n, .int .i64 lo, .int .i64 hi] w fun e w' => e = .returned (.bool (btw n lo hi)) ∧ w = w' := by
  unfold btw
  by_cases h : lo ≤ n
  · rw [decide_eq_true h]
    go_enter Tryd.func59, Tryd.ntmps59
    go_wp2
    go_ret
    exact ⟨rfl, rfl⟩
  · rw [decide_eq_false h]
    go_enter Tryd.func59, Tryd.ntmps59
    go_wp2
    go_ret
    exact ⟨rfl, rfl⟩
theorem site1_any (n : Int) (w : World) : Calls Tryd.prog 50 #[.int .i64 n] w fun e w' => e = .returned (.bool (Pk.siteP n)) ∧ w = w' := by
  have e1 : Pk.siteP n = (decide (0 < n) && decide (n ≤ 8)) := by unfold Pk.siteP; congr 1
  rw [e1]
  clear e1
  by_cases h : 0 < n
  · rw [decide_eq_true h]
    go_enter Tryd.func50, Tryd.ntmps50
    go_wp2
    go_ret
    exact ⟨rfl, rfl⟩
  · rw [decide_eq_false h]
    go_enter Tryd.func50, Tryd.ntmps50
    go_wp2
    go_ret
    exact ⟨rfl, rfl⟩
set_option maxRecDepth 100000 in
set_option maxHeartbeats 4000000 in
theorem good_set (x : Set4) (w : World) : Calls Tryd.prog 51 #[.agg x.cells] w fun e w' => e = .returned (.bool x.good) ∧ Chg [] w w' := by
  have H := Lib.hid (And.intro (Blk.new w 59 x.cells) ((Chg.refl [] w).alloc (.cells x.cells 59)))
  unfold Set4.good
  obtain ⟨b1, h1⟩ : ∃ b, btw x.win 1 32 = b := ⟨_, rfl⟩
  obtain ⟨b2, h2⟩ : ∃ b, btw x.time 1 1000 = b := ⟨_, rfl⟩
  obtain ⟨b3, h3⟩ : ∃ b, btw x.seg 64 1048576 = b := ⟨_, rfl⟩
  obtain ⟨b4, h4⟩ : ∃ b, btw x.keep 1 1000 = b := ⟨_, rfl⟩
  have HB := Lib.hid (And.intro h1 (And.intro h2 (And.intro h3 h4)))
  rw [h1, h2, h3, h4]
  have K1 := Lib.hid (fun W => btw_any x.win 1 32 W)
  have K2 := Lib.hid (fun W => btw_any x.time 1 1000 W)
  have K3 := Lib.hid (fun W => btw_any x.seg 64 1048576 W)
  have K4 := Lib.hid (fun W => btw_any x.keep 1 1000 W)
  rw [h1] at K1
  rw [h2] at K2
  rw [h3] at K3
  rw [h4] at K4
  clear h1 h2 h3 h4
  unfold Set4.cells at H ⊢
  have c0 : (w.alloc (.cells #[.int .i64 x.win, .int .i64 x.time, .int .i64 x.seg, .int .i64 x.keep] 59)).cell? ⟨w.heap.size, 0, none⟩ = some (.int .i64 x.win) := H.out.1.cell 0
  have c1 : (w.alloc (.cells #[.int .i64 x.win, .int .i64 x.time, .int .i64 x.seg, .int .i64 x.keep] 59)).cell? ⟨w.heap.size, 1, none⟩ = some (.int .i64 x.time) := H.out.1.cell 1
  have c2 : (w.alloc (.cells #[.int .i64 x.win, .int .i64 x.time, .int .i64 x.seg, .int .i64 x.keep] 59)).cell? ⟨w.heap.size, 2, none⟩ = some (.int .i64 x.seg) := H.out.1.cell 2
  have c3 : (w.alloc (.cells #[.int .i64 x.win, .int .i64 x.time, .int .i64 x.seg, .int .i64 x.keep] 59)).cell? ⟨w.heap.size, 3, none⟩ = some (.int .i64 x.keep) := H.out.1.cell 3
  cases b1 <;> cases b2 <;> cases b3 <;> cases b4
  all_goals
    go_enter Tryd.func51, Tryd.ntmps51
    go_upto_region 1 with fail
    generalize w.alloc (.cells #[.int .i64 x.win, .int .i64 x.time, .int .i64 x.seg, .int .i64 x.keep] 59) = W at *
    go_wp2_with (first
      | (with_reducible refine (K1.out W).mono ?_; rintro e w1 ⟨rfl, rfl⟩)
      | (with_reducible refine (K2.out W).mono ?_; rintro e w1 ⟨rfl, rfl⟩)
      | (with_reducible refine (K3.out W).mono ?_; rintro e w1 ⟨rfl, rfl⟩)
      | (with_reducible refine (K4.out W).mono ?_; rintro e w1 ⟨rfl, rfl⟩))
    go_ret
    exact ⟨rfl, H.out.2⟩
set_option maxRecDepth 100000 in
set_option maxHeartbeats 4000000 in
theorem may_any (a b : Int) (x : Set4) (w : World) : Calls Tryd.prog 36 #[.int .i64 a, .int .i64 b, .agg x.cells] w fun e w' => e = .returned (.bool (mayB a b x)) ∧ Chg [] w w' := by
  have H := Lib.hid (And.intro (Blk.new w 59 x.cells) ((Chg.refl [] w).alloc (.cells x.cells 59)))
  unfold mayB
  obtain ⟨b1, h1⟩ : ∃ b, Pk.siteP a = b := ⟨_, rfl⟩
  obtain ⟨b2, h2⟩ : ∃ c, Pk.siteP b = c := ⟨_, rfl⟩
  obtain ⟨b3, h3⟩ : ∃ c, (a == b) = c := ⟨_, rfl⟩
  obtain ⟨b4, h4⟩ : ∃ c, x.good = c := ⟨_, rfl⟩
  rw [h1, h2, h3, h4]
  have K1 := Lib.hid (fun W => site1_any a W)
  have K2 := Lib.hid (fun W => site1_any b W)
  have K4 := Lib.hid (fun W => good_set x W)
  rw [h1] at K1
  rw [h2] at K2
  rw [h4] at K4
  clear h1 h2 h4
  have t3 : (a != b) = !b3 := by rw [← h3]; rfl
  clear h3
  unfold Set4.cells at H K4 ⊢
  have c0 : (w.alloc (.cells #[.int .i64 x.win, .int .i64 x.time, .int .i64 x.seg, .int .i64 x.keep] 59)).cell? ⟨w.heap.size, 0, none⟩ = some (.int .i64 x.win) := H.out.1.cell 0
  have c1 : (w.alloc (.cells #[.int .i64 x.win, .int .i64 x.time, .int .i64 x.seg, .int .i64 x.keep] 59)).cell? ⟨w.heap.size, 1, none⟩ = some (.int .i64 x.time) := H.out.1.cell 1
  have c2 : (w.alloc (.cells #[.int .i64 x.win, .int .i64 x.time, .int .i64 x.seg, .int .i64 x.keep] 59)).cell? ⟨w.heap.size, 2, none⟩ = some (.int .i64 x.seg) := H.out.1.cell 2
  have c3 : (w.alloc (.cells #[.int .i64 x.win, .int .i64 x.time, .int .i64 x.seg, .int .i64 x.keep] 59)).cell? ⟨w.heap.size, 3, none⟩ = some (.int .i64 x.keep) := H.out.1.cell 3
  cases b1 <;> cases b2 <;> cases b3
  all_goals
    simp only [Bool.not_true, Bool.not_false] at t3
    go_enter Tryd.func36, Tryd.ntmps36
    go_upto_region 2 with fail
    generalize w.alloc (.cells #[.int .i64 x.win, .int .i64 x.time, .int .i64 x.seg, .int .i64 x.keep] 59) = W at *
    go_wp2_with (first
      | (with_reducible refine (K1.out W).mono ?_; rintro e w1 ⟨rfl, rfl⟩)
      | (with_reducible refine (K2.out W).mono ?_; rintro e w1 ⟨rfl, rfl⟩)
      | (with_reducible refine (K4.out W).mono ?_; rintro e w1 ⟨rfl, hc⟩; have HC := Lib.hid (H.out.2.trans hc); clear hc))
    go_ret
    first
    | exact ⟨rfl, H.out.2⟩
    | exact ⟨rfl, HC.out⟩
theorem mayB_facts {a b : Int} {x : Set4} (h : mayB a b x = true) : 1 ≤ a ∧ a ≤ 8 ∧ 1 ≤ b ∧ b ≤ 8 ∧ ¬ a = b ∧ 1 ≤ x.win ∧ x.win ≤ 32 ∧ 1 ≤ x.time ∧ x.time ≤ 1000 := by
  unfold mayB Set4.good btw Pk.siteP at h
  simp only [Bool.and_eq_true, decide_eq_true_eq, Bool.not_eq_true', beq_eq_false_iff_ne] at h
  obtain ⟨⟨h1, h2⟩, ⟨h3, h4⟩, h5, ⟨h6, h7⟩, ⟨h8, h9⟩, _⟩ := h
  exact ⟨h1, h2, h3, h4, h5, h6, h7, h8, h9⟩
def OS.new (a b : Int) (x : Set4) (ep : Int) : OS := ⟨a, b, ep, x.time, false, 0, WS.new x.win.toNat x.time.toNat⟩
set_option maxRecDepth 100000 in
set_option maxHeartbeats 4000000 in
theorem newout_no (a b : Int) (x : Set4) (ep : Int) (w : World) (h : mayB a b x = false ∨ ep = 0) : Calls Tryd.prog 15 #[.int .i64 a, .int .i64 b, .agg x.cells, .int .u64 ep] w fun e w' => e = .returned (.pointer none) ∧ Chg [] w w' := by
  have H := Lib.hid (And.intro (Blk.new w 59 x.cells) ((Chg.refl [] w).alloc (.cells x.cells 59)))
  have KM := Lib.hid (fun W => may_any a b x W)
  cases hm : mayB a b x with
  | false =>
    rw [hm] at KM
    clear h hm
    go_enter Tryd.func15, Tryd.ntmps15
    go_upto_region 1 with fail
    change Code.wp _ _ _ _ (w.alloc (.cells x.cells 59))
    generalize w.alloc (.cells x.cells 59) = W at *
    generalize hxb : w.heap.size = xb at *
    have hl1 : (Instr.loadAt 59 (.pointer (some ⟨xb, 0, none⟩))).run Tryd.prog W = .ok (.agg x.cells) W := load_blk H.out.1 Tryd.underlying59 rfl (by kernel_rfl)
    go_wp2_with (refine wpList_loadW _ _ (by rfl) _ _ (by rfl) hl1 (by rfl) ?_)
    refine (KM.out W).mono ?_
    rintro e w1 ⟨rfl, hc⟩
    have H1 := Lib.hid (And.intro (H.out.1.chg hc (by simp)) (H.out.2.trans hc))
    clear hc hl1
    go_wp2
    go_ret
    exact ⟨rfl, H1.out.2⟩
  | true =>
    rw [hm] at KM
    obtain rfl : ep = 0 := h.resolve_left (by rw [hm]; simp)
    clear h hm
    go_enter Tryd.func15, Tryd.ntmps15
    go_upto_region 1 with fail
    change Code.wp _ _ _ _ (w.alloc (.cells x.cells 59))
    generalize w.alloc (.cells x.cells 59) = W at *
    generalize hxb : w.heap.size = xb at *
    have hl1 : (Instr.loadAt 59 (.pointer (some ⟨xb, 0, none⟩))).run Tryd.prog W = .ok (.agg x.cells) W := load_blk H.out.1 Tryd.underlying59 rfl (by kernel_rfl)
    go_wp2_with (refine wpList_loadW _ _ (by rfl) _ _ (by rfl) hl1 (by rfl) ?_)
    refine (KM.out W).mono ?_
    rintro e w1 ⟨rfl, hc⟩
    have H1 := Lib.hid (And.intro (H.out.1.chg hc (by simp)) (H.out.2.trans hc))
    clear hc hl1
    go_wp2
    go_ret
    exact ⟨rfl, H1.out.2⟩
set_option maxRecDepth 100000 in
set_option maxHeartbeats 4000000 in
theorem newout_yes (w0 : World) (a b : Int) (x : Set4) (ep : Int) (w : World) (hc0 : Chg [] w0 w) (h : mayB a b x = true) (h2 : ¬ ep = 0) : Calls Tryd.prog 15 #[.int .i64 a, .int .i64 b, .agg x.cells, .int .u64 ep] w fun e w' =>
    ∃ ob op, e = .returned (.pointer (some ⟨ob, 0, none⟩)) ∧ OSt w0 w' ob op (OS.new a b x ep) ∧ Chg [] w w' := by
  have H := Lib.hid (And.intro (Blk.new w 59 x.cells) ((Chg.refl [] w).alloc (.cells x.cells 59)))
  have KM := Lib.hid (fun W => may_any a b x W)
  have HF := Lib.hid (mayB_facts h)
  rw [h] at KM
  have HC0 := Lib.hid hc0
  have t1 : (ep == 0) = false := by simpa using h2
  clear h h2 hc0
  go_enter Tryd.func15, Tryd.ntmps15
  go_upto_region 1 with fail
  change Code.wp _ _ _ _ (w.alloc (.cells x.cells 59))
  generalize w.alloc (.cells x.cells 59) = W at *
  generalize hxb : w.heap.size = xb at *
  have hl1 : (Instr.loadAt 59 (.pointer (some ⟨xb, 0, none⟩))).run Tryd.prog W = .ok (.agg x.cells) W := load_blk H.out.1 Tryd.underlying59 rfl (by kernel_rfl)
  go_wp2_with (refine wpList_loadW _ _ (by rfl) _ _ (by rfl) hl1 (by rfl) ?_)
  refine (KM.out W).mono ?_
  rintro e w1 ⟨rfl, hc⟩
  have H1 := Lib.hid (And.intro (H.out.1.chg hc (by simp)) (H.out.2.trans hc))
  clear hc hl1
  go_upto_region 3 with fail
  obtain ⟨wn, hwn⟩ : ∃ n : Nat, x.win.toNat = n := ⟨_, rfl⟩
  obtain ⟨tn, htn⟩ : ∃ n : Nat, x.time.toNat = n := ⟨_, rfl⟩
  have e1 : x.win = (wn : Int) := by have := HF.out; omega
  have e2 : x.time = (tn : Int) := by have := HF.out; omega
  have HN := Lib.hid (show x.win.toNat = wn ∧ x.time.toNat = tn ∧ x.time = (tn : Int) ∧ 1 ≤ wn ∧ wn ≤ 32 ∧ 1 ≤ tn ∧ tn ≤ 1000 from ⟨hwn, htn, e2, by have := HF.out; omega, by have := HF.out; omega, by have := HF.out; omega, by have := HF.out; omega⟩)
  have d0 : w1.cell? ⟨xb, 0, none⟩ = some (.int .i64 (wn : Int)) := by rw [← e1]; exact H1.out.1.cell 0
  have d1 : w1.cell? ⟨xb, 1, none⟩ = some (.int .i64 (tn : Int)) := by rw [← e2]; exact H1.out.1.cell 1
  have HD := Lib.hid (And.intro d0 d1)
  clear hwn htn e1 e2 t1 hxb
  refine wp_region_noPanic ?_
  refine wp_region_held_drew (S := fun w' => w'.cell? ⟨xb, 0, none⟩ = some (.int .i64 (wn : Int)) ∧ w'.cell? ⟨xb, 1, none⟩ = some (.int .i64 (tn : Int))) (by kernel_rfl) ⟨d0, d1⟩ (fun hHeld => ?_)
  clear d0 d1
  refine wpAnyH_take (i := 0) (oi := _) (v := ?_) rfl (by kernel_rfl) (by kernel_rfl) (by kernel_rfl) (fun _ _ _ h => h) (Or.inl ⟨by rfl, ?_⟩) (by assumption) ?_
  rotate_left 1
  · intro w hSw
    try dsimp only at hSw
    go_simp
    try with_reducible rfl
  try simp only [List.getElem_toArray, List.getElem_cons_zero, List.getElem_cons_succ, Act.put, List.setIfInBounds_toArray, List.set_cons_zero, List.set_cons_succ]
  refine wpAnyH_take (i := 1) (oi := _) (v := ?_) rfl (by kernel_rfl) (by kernel_rfl) (by kernel_rfl) (fun _ _ _ h => h) (Or.inl ⟨by rfl, ?_⟩) (by assumption) ?_
  rotate_left 1
  · intro w hSw
    try dsimp only at hSw
    go_simp
    try with_reducible rfl
  try simp only [List.getElem_toArray, List.getElem_cons_zero, List.getElem_cons_succ, Act.put, List.setIfInBounds_toArray, List.set_cons_zero, List.set_cons_succ]
  refine wpAnyH_take (i := 2) (oi := _) (v := ?_) rfl (by kernel_rfl) (by kernel_rfl) (by kernel_rfl) (fun _ _ _ h => h) (Or.inl ⟨by rfl, ?_⟩) (by assumption) ?_
  rotate_left 1
  · intro w hSw
    try dsimp only at hSw
    go_simp
    try with_reducible rfl
  try simp only [List.getElem_toArray, List.getElem_cons_zero, List.getElem_cons_succ, Act.put, List.setIfInBounds_toArray, List.set_cons_zero, List.set_cons_succ]
  refine wpAnyH_take (i := 3) (oi := _) (v := ?_) rfl (by kernel_rfl) (by kernel_rfl) (by kernel_rfl) (fun _ _ _ h => h) (Or.inl ⟨by rfl, ?_⟩) (by assumption) ?_
  rotate_left 1
  · intro w hSw
    try dsimp only at hSw
    go_simp
    try with_reducible rfl
  try simp only [List.getElem_toArray, List.getElem_cons_zero, List.getElem_cons_succ, Act.put, List.setIfInBounds_toArray, List.set_cons_zero, List.set_cons_succ]
  refine wpAnyH_take (i := 4) (oi := _) (v := ?_) rfl (by kernel_rfl) (by kernel_rfl) (by kernel_rfl) (fun _ _ _ h => h) (Or.inl ⟨by rfl, ?_⟩) (by assumption) ?_
  rotate_left 1
  · intro w hSw
    try dsimp only at hSw
    go_simp
    try with_reducible rfl
  try simp only [List.getElem_toArray, List.getElem_cons_zero, List.getElem_cons_succ, Act.put, List.setIfInBounds_toArray, List.set_cons_zero, List.set_cons_succ]
  refine wpAnyH_take (i := 5) (oi := _) (v := ?_) rfl (by kernel_rfl) (by kernel_rfl) (by kernel_rfl) (fun _ _ _ h => h) (Or.inl ⟨by rfl, ?_⟩) (by assumption) ?_
  rotate_left 1
  · intro w hSw
    try dsimp only at hSw
    go_simp
    try with_reducible rfl
  try simp only [List.getElem_toArray, List.getElem_cons_zero, List.getElem_cons_succ, Act.put, List.setIfInBounds_toArray, List.set_cons_zero, List.set_cons_succ]
  refine wpAnyH_take (i := 6) (oi := _) (v := ?_) rfl (by kernel_rfl) (by kernel_rfl) (by kernel_rfl) (fun _ _ _ h => h) (Or.inl ⟨by rfl, ?_⟩) (by assumption) ?_
  rotate_left 1
  · intro w hSw
    try dsimp only at hSw
    go_simp
    try with_reducible rfl
  try simp only [List.getElem_toArray, List.getElem_cons_zero, List.getElem_cons_succ, Act.put, List.setIfInBounds_toArray, List.set_cons_zero, List.set_cons_succ]
  refine wpAnyH_take (i := 7) (oi := _) (v := ?_) rfl (by kernel_rfl) (by kernel_rfl) (by kernel_rfl) (fun _ _ _ h => h) (Or.inl ⟨by rfl, ?_⟩) (by assumption) ?_
  rotate_left 1
  · intro w hSw
    try dsimp only at hSw
    go_simp
    try with_reducible rfl
  try simp only [List.getElem_toArray, List.getElem_cons_zero, List.getElem_cons_succ, Act.put, List.setIfInBounds_toArray, List.set_cons_zero, List.set_cons_succ]
  refine wpAnyH_take (i := 9) (oi := _) (v := ?_) rfl (by kernel_rfl) (by kernel_rfl) (by kernel_rfl) (fun _ _ _ h => h) (Or.inl ⟨by rfl, ?_⟩) (by assumption) ?_
  rotate_left 1
  · intro w hSw
    try dsimp only at hSw
    go_simp
    try with_reducible rfl
  try simp only [List.getElem_toArray, List.getElem_cons_zero, List.getElem_cons_succ, Act.put, List.setIfInBounds_toArray, List.set_cons_zero, List.set_cons_succ]
  refine wpAnyH_take (i := 10) (oi := _) (v := ?_) rfl (by kernel_rfl) (by kernel_rfl) (by kernel_rfl) (fun _ _ _ h => h) (Or.inl ⟨by rfl, ?_⟩) (by assumption) ?_
  rotate_left 1
  · intro w hSw
    try dsimp only at hSw
    go_simp
    try with_reducible rfl
  try simp only [List.getElem_toArray, List.getElem_cons_zero, List.getElem_cons_succ, Act.put, List.setIfInBounds_toArray, List.set_cons_zero, List.set_cons_succ]
  refine wpAnyH_ready (rs := [8]) (by kernel_rfl) (by simp) (AllReadyH.cons rfl (fun K hK => ?_) AllReadyH.nil)
  go_simp
  refine (WSt.new w0 w1.drew ((HC0.out.trans H1.out.2).drew) wn tn HN.out.2.2.2.1 HN.out.2.2.2.2.1 HN.out.2.2.2.2.2.1 HN.out.2.2.2.2.2.2).mono ?_
  rintro e w2 ⟨rfl, hw, hc⟩
  have HC2 := ((Chg.refl [] w1).drew).trans hc
  have H2 := Lib.hid (And.intro hw (And.intro (H1.out.2.trans HC2) (And.intro (HC2.cell_some HD.out.1 (by simp)) (HC2.cell_some HD.out.2 (by simp)))))
  clear hw hc HC2 HD
  generalize w1.drew.heap.size = op at *
  go_wp2_with fail
  refine hK.out _ _ H2.out.2.2 (fun hHeld => ?_)
  clear hK K
  try simp only [List.getElem_toArray, List.getElem_cons_zero, List.getElem_cons_succ, Act.put, List.setIfInBounds_toArray, List.set_cons_zero, List.set_cons_succ]
  refine wpAnyH_take (i := 11) (oi := _) (v := ?_) rfl (by kernel_rfl) (by kernel_rfl) (by kernel_rfl) (fun _ _ _ h => h) (Or.inl ⟨by rfl, ?_⟩) (by assumption) ?_
  rotate_left 1
  · intro w hSw
    try dsimp only at hSw
    go_simp
    try with_reducible rfl
  try simp only [List.getElem_toArray, List.getElem_cons_zero, List.getElem_cons_succ, Act.put, List.setIfInBounds_toArray, List.set_cons_zero, List.set_cons_succ]
  refine wpAnyH_ready (rs := [12]) (by kernel_rfl) (by simp) (AllReadyH.cons rfl (fun K hK => ?_) AllReadyH.nil)
  go_simp
  have hca := (Chg.refl [] w2).alloc (.cells (OS.cells (OS.new a b x ep) op) 37)
  have hws : (OS.new a b x ep).ws = WS.new wn tn := by
    unfold OS.new
    rw [HN.out.1, HN.out.2.1]
  have H3 : Hid (OSt w0 (w2.alloc (.cells (OS.cells (OS.new a b x ep) op) 37)) w2.heap.size op (OS.new a b x ep) ∧ Chg [] w (w2.alloc (.cells (OS.cells (OS.new a b x ep) op) 37))) := Lib.hid ⟨⟨Blk.new _ _ _, by rw [hws]; exact H2.out.1.to hca, (HC0.out.trans H2.out.2.1).size, by have := H2.out.1.win.lt; omega⟩, H2.out.2.1.trans hca⟩
  clear hws
  have hcc : OS.cells (OS.new a b x ep) op = #[.int .i64 a, .int .i64 b, .int .u64 ep, .pointer (some ⟨op, 0, none⟩), .int .i64 (tn : Int), .bool false, .int .i64 0] := by
    unfold OS.cells OS.new
    rw [HN.out.2.2.1]
  rw [hcc] at H3 hca
  have d0 := hca.cell_some H2.out.2.2.1 (by simp)
  have d1 := hca.cell_some H2.out.2.2.2 (by simp)
  clear hcc hca
  refine hK.out _ _ ⟨d0, d1⟩ (fun hHeld => ?_)
  clear hK K
  try simp only [List.getElem_toArray, List.getElem_cons_zero, List.getElem_cons_succ, Act.put, List.setIfInBounds_toArray, List.set_cons_zero, List.set_cons_succ]
  refine wpAnyH_take (i := 13) (oi := _) (v := ?_) rfl (by kernel_rfl) (by kernel_rfl) (by kernel_rfl) (fun _ _ _ h => h) (Or.inl ⟨by rfl, ?_⟩) (by assumption) ?_
  rotate_left 1
  · intro w hSw
    try dsimp only at hSw
    go_simp
    try with_reducible rfl
  try simp only [List.getElem_toArray, List.getElem_cons_zero, List.getElem_cons_succ, Act.put, List.setIfInBounds_toArray, List.set_cons_zero, List.set_cons_succ]
  refine wpAnyH_done (by kernel_rfl) ?_ _
  refine NoPanic.normal ?_
  go_wp2
  go_ret
  exact ⟨_, op, rfl, H3.out⟩
/-- The end that takes in. -/
structure IS where
  self : Int
  other : Int
  ep : Int
  ib : IB
def IS.cells (s : IS) (p : Nat) : Array Value := #[.int .i64 s.self, .int .i64 s.other, .int .u64 s.ep, .pointer (some ⟨p, 0, none⟩)]
structure ISt (w0 w : World) (b p mb : Nat) (s : IS) : Prop where
  blk : Blk w b 48 (s.cells p)
  box : BSt w0 w p mb s.ib
  own : w0.heap.size ≤ b
def IS.new (a b : Int) (x : Set4) : IS := ⟨b, a, 0, ⟨x.win, 0, []⟩⟩
set_option maxRecDepth 100000 in
set_option maxHeartbeats 4000000 in
theorem newin_no (a b : Int) (x : Set4) (w : World) (h : mayB a b x = false) : Calls Tryd.prog 17 #[.int .i64 a, .int .i64 b, .agg x.cells] w fun e w' => e = .returned (.pointer none) ∧ Chg [] w w' := by
  have H := Lib.hid (And.intro (Blk.new w 59 x.cells) ((Chg.refl [] w).alloc (.cells x.cells 59)))
  have KM := Lib.hid (fun W => may_any a b x W)
  rw [h] at KM
  clear h
  go_enter Tryd.func17, Tryd.ntmps17
  go_upto_region 1 with fail
  change Code.wp _ _ _ _ (w.alloc (.cells x.cells 59))
  generalize w.alloc (.cells x.cells 59) = W at *
  generalize hxb : w.heap.size = xb at *
  have hl1 : (Instr.loadAt 59 (.pointer (some ⟨xb, 0, none⟩))).run Tryd.prog W = .ok (.agg x.cells) W := load_blk H.out.1 Tryd.underlying59 rfl (by kernel_rfl)
  go_wp2_with (refine wpList_loadW _ _ (by rfl) _ _ (by rfl) hl1 (by rfl) ?_)
  refine (KM.out W).mono ?_
  rintro e w1 ⟨rfl, hc⟩
  have H1 := Lib.hid (And.intro (H.out.1.chg hc (by simp)) (H.out.2.trans hc))
  clear hc hl1
  go_wp2
  go_ret
  exact ⟨rfl, H1.out.2⟩
set_option maxRecDepth 100000 in
set_option maxHeartbeats 4000000 in
theorem newin_yes (w0 : World) (a b : Int) (x : Set4) (w : World) (hc0 : Chg [] w0 w) (h : mayB a b x = true) : Calls Tryd.prog 17 #[.int .i64 a, .int .i64 b, .agg x.cells] w fun e w' =>
    ∃ ib ip im, e = .returned (.pointer (some ⟨ib, 0, none⟩)) ∧ ISt w0 w' ib ip im (IS.new a b x) ∧ Chg [] w w' := by
  have H := Lib.hid (And.intro (Blk.new w 59 x.cells) ((Chg.refl [] w).alloc (.cells x.cells 59)))
  have KM := Lib.hid (fun W => may_any a b x W)
  have HF := Lib.hid (mayB_facts h)
  rw [h] at KM
  have HC0 := Lib.hid hc0
  clear h hc0
  go_enter Tryd.func17, Tryd.ntmps17
  go_upto_region 1 with fail
  change Code.wp _ _ _ _ (w.alloc (.cells x.cells 59))
  generalize w.alloc (.cells x.cells 59) = W at *
  generalize hxb : w.heap.size = xb at *
  have hl1 : (Instr.loadAt 59 (.pointer (some ⟨xb, 0, none⟩))).run Tryd.prog W = .ok (.agg x.cells) W := load_blk H.out.1 Tryd.underlying59 rfl (by kernel_rfl)
  go_wp2_with (refine wpList_loadW _ _ (by rfl) _ _ (by rfl) hl1 (by rfl) ?_)
  refine (KM.out W).mono ?_
  rintro e w1 ⟨rfl, hc⟩
  have H1 := Lib.hid (And.intro (H.out.1.chg hc (by simp)) (H.out.2.trans hc))
  clear hc hl1
  go_upto_region 3 with fail
  have d0 : w1.cell? ⟨xb, 0, none⟩ = some (.int .i64 x.win) := H1.out.1.cell 0
  clear hxb
  go_wp2_with fail
  refine (new_yes x.win w1 (by have := HF.out; omega) (by have := HF.out; omega)).mono ?_
  rintro e w2 ⟨rfl, hi, hc, hs⟩
  have H2 := Lib.hid (show BSt w0 w2 (w1.heap.size + 1) w1.heap.size ⟨x.win, 0, []⟩ ∧ Chg [] w w2 from ⟨⟨hi, by omega, by have := (HC0.out.trans H1.out.2).size; omega, (HC0.out.trans H1.out.2).size, (HC0.out.trans H1.out.2).trans hc⟩, H1.out.2.trans hc⟩)
  clear hi hc hs d0
  go_wp2
  go_ret
  have hca := (Chg.refl [] w2).alloc (.cells (IS.cells (IS.new a b x) (w1.heap.size + 1)) 48)
  refine ⟨_, w1.heap.size + 1, w1.heap.size, rfl, ?_⟩
  have H3 : ISt w0 (w2.alloc (.cells (IS.cells (IS.new a b x) (w1.heap.size + 1)) 48)) w2.heap.size (w1.heap.size + 1) w1.heap.size (IS.new a b x) ∧ Chg [] w (w2.alloc (.cells (IS.cells (IS.new a b x) (w1.heap.size + 1)) 48)) := ⟨⟨Blk.new _ _ _, H2.out.1.to hca, (HC0.out.trans H2.out.2).size⟩, H2.out.2.trans hca⟩
  exact H3
end Go.Proofs.YtmiijmiikpmcgaaDoor
end
