/- Texts joined: LkInH. -/
import Derived.Test.YtmiijmiikpmcgaaDoorRLinkEpochsM10
section
/- Package link: the end that takes in: Hear. -/
set_option linter.unusedVariables false
set_option linter.unusedSimpArgs false
namespace Go.Proofs.YtmiijmiikpmcgaaDoor
open Go.RowKit
open Go.Proofs.YtmiijmiikpmcgaaDoor.Pk (Pkt)

section
variable {w0 w w' : World} {b p mb : Nat} {s s' : IS}
def IS.hear (s : IS) (q : Pkt) : (List Pkt × Bool) × IS :=
  if hearsP s.self s.other q then
    if q.ep < s.ep then (([], false), s)
    else if q.kind = 1 then
      if s.ep < q.ep then (([sayP s.self s.other 2 q.ep], false), { s with ep := q.ep, ib := ⟨s.ib.size, 0, []⟩ }) else (([sayP s.self s.other 2 s.ep], false), s)
    else if q.kind = 3 then
      if s.ep < q.ep then (([sayP s.self s.other 2 0], false), s) else (([], true), { s with ib := s.ib.take q.num q.m })
    else (([], false), s)
  else (([], false), s)
set_option maxRecDepth 100000 in
set_option maxHeartbeats 8000000 in
theorem hear_in (h : ISt w0 w b p mb s) (hK : KndAt w) (q : Pkt) (hs : q.m.Small) : Calls Tryd.prog 10 #[.pointer (some ⟨b, 0, none⟩), pkV q] w fun e w' =>
    ∃ A m c, e = .returned (.tuple #[.slice A m c, .bool (s.hear q).1.2]) ∧ PkOw w' w.heap.size A m c (s.hear q).1.1 ∧ ISt w0 w' b p mb (s.hear q).2 ∧ Chg [b, p, mb] w w' := by
  have hc0 := (Chg.refl [] w).alloc (.cells (PkS.cells q) 30)
  have H := Lib.hid (And.intro (h.to hc0) (And.intro (Blk.new w 30 (PkS.cells q)) (And.intro hc0 (hK.chg0 hc0))))
  have HE := Lib.hid (And.intro h.own hs)
  clear h hc0 hs hK
  unfold IS.hear
  obtain ⟨hr, hhr⟩ : ∃ r, hearsP s.self s.other q = r := ⟨_, rfl⟩
  rw [hhr]
  have HR := Lib.hid hhr
  clear hhr
  unfold pkV
  cases hr with
  | false =>
    rw [if_neg (by simp)]
    go_enter Tryd.func10, Tryd.ntmps10
    go_upto_region 1 with fail
    generalize w.alloc (.cells (PkS.cells q) 30) = W at *
    obtain ⟨D, hD⟩ : ∃ D, D = World.drew W := ⟨_, rfl⟩
    have HS0 : Hid (Chg [] D (World.drew W)) := Lib.hid (by rw [hD]; exact Chg.refl _ _)
    have HVD : Hid (Chg [] W D) := Lib.hid (by rw [hD]; exact (Chg.refl [] W).drew)
    have hne : Nonempty (Hold (Chg [] D)) := ⟨⟨_, HS0.out⟩⟩
    clear hD
    have H2 := Lib.hid (And.intro (H.out.1.to HVD.out) (And.intro (H.out.2.1.chg HVD.out (by simp)) (And.intro (H.out.2.2.1.trans HVD.out) (H.out.2.2.2.chg0 HVD.out))))
    have hl := Lib.hid (hold_pk H2.out.2.1)
    have HM := Lib.hid (fun x : Hold (Chg [] D) => made_in (H2.out.1.to x.h))
    have HH := Lib.hid (fun x : Hold (Chg [] D) => hears_any x.W b s.self s.other q HE.out.2 (H2.out.2.2.2.chg0 x.h) (H2.out.1.to x.h).cell0 (H2.out.1.to x.h).cell1)
    rw [HR.out] at HH
    unfold pkV at HH
    have c2 : ∀ x : Hold (Chg [] D), x.W.cell? ⟨b, 2, none⟩ = some (.int .u64 s.ep) := fun x => x.h.cell_some H2.out.1.cell2 (by simp)
    have d3 : ∀ x : Hold (Chg [] D), x.W.cell? ⟨w.heap.size, 3, none⟩ = some (.int .u64 q.ep) := fun x => x.h.cell_some (H2.out.2.1.cell 3) (by simp)
    refine wp_region_hold (Chg [] D) (by kernel_rfl) (by kernel_rfl) HS0.out ?_
    repeat (first
      | go_big_quiet_step (first | (with_reducible exact Calls.hold (HM.out _) (fun w' hc => hc ▸ Hold.h _)) | (with_reducible exact Calls.hold (HH.out _) (fun w' hc => Chg.trans (Hold.h _) hc)))
      | (refine wpQuiet_loadW (by rfl) _ _ (by rfl) _ _ (by rfl) hl.out ?_
         try simp only [List.getElem_toArray, List.getElem_cons_zero, List.getElem_cons_succ, Act.put, List.setIfInBounds_toArray, List.set_cons_zero, List.set_cons_succ]
         skip))
    refine wpQuiet_nil ?_
    rintro wy ⟨⟨wz, hy⟩, hz⟩
    replace hz : wy = wz := hz
    subst hz
    have HY := Lib.hid (HVD.out.trans hy)
    clear hy HS0 HVD hne
    clear HM HH hl H2 c2 d3
    have H3 := Lib.hid (And.intro (H.out.1.to HY.out) (And.intro (H.out.2.1.chg HY.out (by simp)) (H.out.2.2.1.trans HY.out)))
    clear HY H
    go_wp2
    go_ret2
    exact ⟨none, 0, 0, rfl, PkOw.nil _ _, H3.out.1, H3.out.2.2.mono (by simp)⟩
  | true =>
    rw [if_pos rfl]
    by_cases e1 : q.ep < s.ep
    · rw [if_pos e1]
      have t1 := decide_eq_true e1
      clear e1
      go_enter Tryd.func10, Tryd.ntmps10
      go_upto_region 1 with fail
      generalize w.alloc (.cells (PkS.cells q) 30) = W at *
      obtain ⟨D, hD⟩ : ∃ D, D = World.drew W := ⟨_, rfl⟩
      have HS0 : Hid (Chg [] D (World.drew W)) := Lib.hid (by rw [hD]; exact Chg.refl _ _)
      have HVD : Hid (Chg [] W D) := Lib.hid (by rw [hD]; exact (Chg.refl [] W).drew)
      have hne : Nonempty (Hold (Chg [] D)) := ⟨⟨_, HS0.out⟩⟩
      clear hD
      have H2 := Lib.hid (And.intro (H.out.1.to HVD.out) (And.intro (H.out.2.1.chg HVD.out (by simp)) (And.intro (H.out.2.2.1.trans HVD.out) (H.out.2.2.2.chg0 HVD.out))))
      have hl := Lib.hid (hold_pk H2.out.2.1)
      have HM := Lib.hid (fun x : Hold (Chg [] D) => made_in (H2.out.1.to x.h))
      have HH := Lib.hid (fun x : Hold (Chg [] D) => hears_any x.W b s.self s.other q HE.out.2 (H2.out.2.2.2.chg0 x.h) (H2.out.1.to x.h).cell0 (H2.out.1.to x.h).cell1)
      rw [HR.out] at HH
      unfold pkV at HH
      have c2 : ∀ x : Hold (Chg [] D), x.W.cell? ⟨b, 2, none⟩ = some (.int .u64 s.ep) := fun x => x.h.cell_some H2.out.1.cell2 (by simp)
      have d3 : ∀ x : Hold (Chg [] D), x.W.cell? ⟨w.heap.size, 3, none⟩ = some (.int .u64 q.ep) := fun x => x.h.cell_some (H2.out.2.1.cell 3) (by simp)
      refine wp_region_hold (Chg [] D) (by kernel_rfl) (by kernel_rfl) HS0.out ?_
      repeat (first
        | go_big_quiet_step (first | (with_reducible exact Calls.hold (HM.out _) (fun w' hc => hc ▸ Hold.h _)) | (with_reducible exact Calls.hold (HH.out _) (fun w' hc => Chg.trans (Hold.h _) hc)))
        | (refine wpQuiet_loadW (by rfl) _ _ (by rfl) _ _ (by rfl) hl.out ?_
           try simp only [List.getElem_toArray, List.getElem_cons_zero, List.getElem_cons_succ, Act.put, List.setIfInBounds_toArray, List.set_cons_zero, List.set_cons_succ]
           skip))
      refine wpQuiet_nil ?_
      rintro wy ⟨⟨wz, hy⟩, hz⟩
      replace hz : wy = wz := hz
      subst hz
      have HY := Lib.hid (HVD.out.trans hy)
      clear hy HS0 HVD hne
      clear HM HH hl H2 c2 d3
      have H3 := Lib.hid (And.intro (H.out.1.to HY.out) (And.intro (H.out.2.1.chg HY.out (by simp)) (H.out.2.2.1.trans HY.out)))
      clear HY H
      go_wp2
      go_ret2
      exact ⟨none, 0, 0, rfl, PkOw.nil _ _, H3.out.1, H3.out.2.2.mono (by simp)⟩
    rw [if_neg e1]
    have t1 := decide_eq_false e1
    by_cases k1 : q.kind = 1
    · rw [if_pos k1]
      by_cases e2 : s.ep < q.ep
      · rw [if_pos e2]
        have t2 := decide_eq_true e2
        clear e1
        go_enter Tryd.func10, Tryd.ntmps10
        go_upto_region 1 with fail
        generalize w.alloc (.cells (PkS.cells q) 30) = W at *
        obtain ⟨D, hD⟩ : ∃ D, D = World.drew W := ⟨_, rfl⟩
        have HS0 : Hid (Chg [] D (World.drew W)) := Lib.hid (by rw [hD]; exact Chg.refl _ _)
        have HVD : Hid (Chg [] W D) := Lib.hid (by rw [hD]; exact (Chg.refl [] W).drew)
        have hne : Nonempty (Hold (Chg [] D)) := ⟨⟨_, HS0.out⟩⟩
        clear hD
        have H2 := Lib.hid (And.intro (H.out.1.to HVD.out) (And.intro (H.out.2.1.chg HVD.out (by simp)) (And.intro (H.out.2.2.1.trans HVD.out) (H.out.2.2.2.chg0 HVD.out))))
        have hl := Lib.hid (hold_pk H2.out.2.1)
        have HM := Lib.hid (fun x : Hold (Chg [] D) => made_in (H2.out.1.to x.h))
        have HH := Lib.hid (fun x : Hold (Chg [] D) => hears_any x.W b s.self s.other q HE.out.2 (H2.out.2.2.2.chg0 x.h) (H2.out.1.to x.h).cell0 (H2.out.1.to x.h).cell1)
        rw [HR.out] at HH
        unfold pkV at HH
        have c2 : ∀ x : Hold (Chg [] D), x.W.cell? ⟨b, 2, none⟩ = some (.int .u64 s.ep) := fun x => x.h.cell_some H2.out.1.cell2 (by simp)
        have d3 : ∀ x : Hold (Chg [] D), x.W.cell? ⟨w.heap.size, 3, none⟩ = some (.int .u64 q.ep) := fun x => x.h.cell_some (H2.out.2.1.cell 3) (by simp)
        refine wp_region_hold (Chg [] D) (by kernel_rfl) (by kernel_rfl) HS0.out ?_
        repeat (first
          | go_big_quiet_step (first | (with_reducible exact Calls.hold (HM.out _) (fun w' hc => hc ▸ Hold.h _)) | (with_reducible exact Calls.hold (HH.out _) (fun w' hc => Chg.trans (Hold.h _) hc)))
          | (refine wpQuiet_loadW (by rfl) _ _ (by rfl) _ _ (by rfl) hl.out ?_
             try simp only [List.getElem_toArray, List.getElem_cons_zero, List.getElem_cons_succ, Act.put, List.setIfInBounds_toArray, List.set_cons_zero, List.set_cons_succ]
             skip))
        refine wpQuiet_nil ?_
        rintro wy ⟨⟨wz, hy⟩, hz⟩
        replace hz : wy = wz := hz
        subst hz
        have HY := Lib.hid (HVD.out.trans hy)
        clear hy HS0 HVD hne
        clear HM HH hl H2 c2 d3
        have H3 := Lib.hid (And.intro (H.out.1.to HY.out) (And.intro (H.out.2.1.chg HY.out (by simp)) (H.out.2.2.1.trans HY.out)))
        clear HY H
        go_upto_region 3 with fail
        have c2 := H3.out.1.cell2
        have d3 : wy.cell? ⟨w.heap.size, 3, none⟩ = some (.int .u64 q.ep) := H3.out.2.1.cell 3
        go_quiet (fail)
        have H4 := Lib.hid (And.intro (H3.out.1.to ((Chg.refl [] wy).drewN nq)) (And.intro (show Blk (wy.drewN nq) w.heap.size 30 (PkS.cells q) from H3.out.2.1.drewN nq) (H3.out.2.2.drewN nq)))
        clear c2 d3 H3
        generalize wy.drewN nq = wz at *
        have d0 : wz.cell? ⟨w.heap.size, 0, none⟩ = some (.int .i64 q.kind) := H4.out.2.1.cell 0
        rw [k1] at d0
        go_upto_region 6 with fail
        have d3 : wz.cell? ⟨w.heap.size, 3, none⟩ = some (.int .u64 q.ep) := H4.out.2.1.cell 3
        have f2 := H4.out.1.blk.frozen 2
        have u2 := H4.out.1.cell2
        go_upto_region 7 with fail
        have hb : Blk (wz.setCell ⟨b, 2, none⟩ (.int .u64 q.ep)) b 48 (IS.cells { s with ep := q.ep } p) := H4.out.1.blk.set_ 2 _
        have H5 := Lib.hid (And.intro (H4.out.1.step (s' := { s with ep := q.ep }) hb (set_chg _ b 2 _) rfl) ((H4.out.2.2.mono (M := [b, p, mb]) (by simp)).trans ((set_chg wz b 2 (.int .u64 q.ep)).mono (by simp))))
        clear hb d3 f2 u2 d0 H4
        generalize wz.setCell ⟨b, 2, none⟩ (.int .u64 q.ep) = W5 at *
        have u3 := H5.out.1.cell3
        go_wp2_with fail
        refine (reset_any W5 p mb s.ib H5.out.1.box.box H5.out.1.box.ne).mono ?_
        rintro e w6 ⟨⟨v, rfl⟩, hi, hc⟩
        have H6 := Lib.hid (And.intro (H5.out.1.stepB hi hc) (H5.out.2.trans (hc.mono (by simp))))
        clear hi hc u3 H5
        go_upto_region 8 with fail
        refine wp_region_noPanic ?_
        refine wp_region_held_drew (S := fun w' => w'.cell? ⟨b, 2, none⟩ = some (.int .u64 q.ep)) (by kernel_rfl) H6.out.1.cell2 (fun hHeld => ?_)
        have HD := Lib.hid (And.intro (H6.out.1.to ((Chg.refl [] _).drew)) (H6.out.2.drew))
        clear H6
        generalize World.drew _ = wd at *
        refine wpAnyH_take (i := 0) (oi := _) (v := ?_) rfl (by kernel_rfl) (by kernel_rfl) (by kernel_rfl) (fun _ _ _ h => h) (Or.inl ⟨by rfl, ?_⟩) (by assumption) ?_
        rotate_left 1
        · intro w hSw
          try dsimp only at hSw
          go_simp
          try with_reducible rfl
        try simp only [List.getElem_toArray, List.getElem_cons_zero, List.getElem_cons_succ, Act.put, List.setIfInBounds_toArray, List.set_cons_zero, List.set_cons_succ]
        refine wpAnyH_take (i := 1) (oi := _) (v := ?_) rfl (by kernel_rfl) (by kernel_rfl) (by kernel_rfl) (fun _ _ _ h => h) (Or.inl ⟨by rfl, ?_⟩) (by assumption) ?_
        rotate_left 1
        · intro w hSw
          try dsimp only at hSw
          go_simp
          try with_reducible rfl
        try simp only [List.getElem_toArray, List.getElem_cons_zero, List.getElem_cons_succ, Act.put, List.setIfInBounds_toArray, List.set_cons_zero, List.set_cons_succ]
        refine wpAnyH_take (i := 2) (oi := _) (v := ?_) rfl (by kernel_rfl) (by kernel_rfl) (by kernel_rfl) (fun _ _ _ h => h) (Or.inl ⟨by rfl, ?_⟩) (by assumption) ?_
        rotate_left 1
        · intro w hSw
          try dsimp only at hSw
          go_simp
          try with_reducible rfl
        try simp only [List.getElem_toArray, List.getElem_cons_zero, List.getElem_cons_succ, Act.put, List.setIfInBounds_toArray, List.set_cons_zero, List.set_cons_succ]
        refine wpAnyH_take (i := 3) (oi := _) (v := ?_) rfl (by kernel_rfl) (by kernel_rfl) (by kernel_rfl) (fun _ _ _ h => h) (Or.inl ⟨by rfl, ?_⟩) (by assumption) ?_
        rotate_left 1
        · intro w hSw
          try dsimp only at hSw
          go_simp
          try with_reducible rfl
        try simp only [List.getElem_toArray, List.getElem_cons_zero, List.getElem_cons_succ, Act.put, List.setIfInBounds_toArray, List.set_cons_zero, List.set_cons_succ]
        refine wpAnyH_take (i := 4) (oi := _) (v := ?_) rfl (by kernel_rfl) (by kernel_rfl) (by kernel_rfl) (fun _ _ _ h => h) (Or.inl ⟨by rfl, ?_⟩) (by assumption) ?_
        rotate_left 1
        · intro w hSw
          try dsimp only at hSw
          go_simp
          try with_reducible rfl
        try simp only [List.getElem_toArray, List.getElem_cons_zero, List.getElem_cons_succ, Act.put, List.setIfInBounds_toArray, List.set_cons_zero, List.set_cons_succ]
        refine wpAnyH_take (i := 5) (oi := _) (v := ?_) rfl (by kernel_rfl) (by kernel_rfl) (by kernel_rfl) (fun _ _ _ h => h) (Or.inl ⟨by rfl, ?_⟩) (by assumption) ?_
        rotate_left 1
        · intro w hSw
          try dsimp only at hSw
          go_simp
          try with_reducible rfl
        try simp only [List.getElem_toArray, List.getElem_cons_zero, List.getElem_cons_succ, Act.put, List.setIfInBounds_toArray, List.set_cons_zero, List.set_cons_succ]
        refine wpAnyH_take (i := 6) (oi := _) (v := ?_) rfl (by kernel_rfl) (by kernel_rfl) (by kernel_rfl) (fun _ _ _ h => h) (Or.inl ⟨by rfl, ?_⟩) (by assumption) ?_
        rotate_left 1
        · intro w hSw
          try dsimp only at hSw
          go_simp
          try with_reducible rfl
        try simp only [List.getElem_toArray, List.getElem_cons_zero, List.getElem_cons_succ, Act.put, List.setIfInBounds_toArray, List.set_cons_zero, List.set_cons_succ]
        refine wpAnyH_take (i := 7) (oi := _) (v := ?_) rfl (by kernel_rfl) (by kernel_rfl) (by kernel_rfl) (fun _ _ _ h => h) (Or.inl ⟨by rfl, ?_⟩) (by assumption) ?_
        rotate_left 1
        · intro w hSw
          try dsimp only at hSw
          go_simp
          try with_reducible rfl
        try simp only [List.getElem_toArray, List.getElem_cons_zero, List.getElem_cons_succ, Act.put, List.setIfInBounds_toArray, List.set_cons_zero, List.set_cons_succ]
        refine wpAnyH_ready (rs := [8]) (by kernel_rfl) (by simp) (AllReadyH.cons rfl (fun K hK => ?_) AllReadyH.nil)
        go_simp
        refine (say_any wd b s.self s.other 2 q.ep HD.out.1.cell0 HD.out.1.cell1).mono ?_
        rintro e wa ⟨rfl, hc⟩
        have HA := Lib.hid (And.intro (HD.out.1.to hc) (HD.out.2.trans (hc.mono (by simp))))
        clear hc HD
        go_wp2_with fail
        refine hK.out _ _ HA.out.1.cell2 (fun hHeld => ?_)
        clear hK K
        try simp only [List.getElem_toArray, List.getElem_cons_zero, List.getElem_cons_succ, Act.put, List.setIfInBounds_toArray, List.set_cons_zero, List.set_cons_succ]
        refine wpAnyH_ready (rs := [9]) (by kernel_rfl) (by simp) (AllReadyH.cons rfl (fun K hK => ?_) AllReadyH.nil)
        refine step_bsPk rfl _ (by rfl) (sayP s.self s.other 2 q.ep) (by rfl) ?_
        have hca := (Chg.refl [] wa).alloc (.cells (PkS.cells (sayP s.self s.other 2 q.ep)) 30)
        have HF := Lib.hid (And.intro (HA.out.1.to hca) (And.intro (HA.out.2.trans (hca.mono (M := [b, p, mb]) (by simp))) (PkOw.lit wa w.heap.size (by have := HA.out.2.size; exact this) (sayP s.self s.other 2 q.ep))))
        clear hca
        refine hK.out _ _ HF.out.1.cell2 (fun hHeld => ?_)
        clear hK K
        try simp only [List.getElem_toArray, List.getElem_cons_zero, List.getElem_cons_succ, Act.put, List.setIfInBounds_toArray, List.set_cons_zero, List.set_cons_succ]
        refine wpAnyH_take (i := 10) (oi := _) (v := ?_) rfl (by kernel_rfl) (by kernel_rfl) (by kernel_rfl) (fun _ _ _ h => h) (Or.inl ⟨by rfl, ?_⟩) (by assumption) ?_
        rotate_left 1
        · intro w hSw
          try dsimp only at hSw
          go_simp
          try with_reducible rfl
        try simp only [List.getElem_toArray, List.getElem_cons_zero, List.getElem_cons_succ, Act.put, List.setIfInBounds_toArray, List.set_cons_zero, List.set_cons_succ]
        refine wpAnyH_take (i := 11) (oi := _) (v := ?_) rfl (by kernel_rfl) (by kernel_rfl) (by kernel_rfl) (fun _ _ _ h => h) (Or.inl ⟨by rfl, ?_⟩) (by assumption) ?_
        rotate_left 1
        · intro w hSw
          try dsimp only at hSw
          go_simp
          try with_reducible rfl
        try simp only [List.getElem_toArray, List.getElem_cons_zero, List.getElem_cons_succ, Act.put, List.setIfInBounds_toArray, List.set_cons_zero, List.set_cons_succ]
        refine wpAnyH_done (by kernel_rfl) ?_ _
        refine NoPanic.normal ?_
        go_wp2
        go_ret2
        exact ⟨_, 1, 1, rfl, HF.out.2.2, HF.out.1, HF.out.2.1⟩
      · rw [if_neg e2]
        have t2 := decide_eq_false e2
        go_enter Tryd.func10, Tryd.ntmps10
        go_upto_region 1 with fail
        generalize w.alloc (.cells (PkS.cells q) 30) = W at *
        obtain ⟨D, hD⟩ : ∃ D, D = World.drew W := ⟨_, rfl⟩
        have HS0 : Hid (Chg [] D (World.drew W)) := Lib.hid (by rw [hD]; exact Chg.refl _ _)
        have HVD : Hid (Chg [] W D) := Lib.hid (by rw [hD]; exact (Chg.refl [] W).drew)
        have hne : Nonempty (Hold (Chg [] D)) := ⟨⟨_, HS0.out⟩⟩
        clear hD
        have H2 := Lib.hid (And.intro (H.out.1.to HVD.out) (And.intro (H.out.2.1.chg HVD.out (by simp)) (And.intro (H.out.2.2.1.trans HVD.out) (H.out.2.2.2.chg0 HVD.out))))
        have hl := Lib.hid (hold_pk H2.out.2.1)
        have HM := Lib.hid (fun x : Hold (Chg [] D) => made_in (H2.out.1.to x.h))
        have HH := Lib.hid (fun x : Hold (Chg [] D) => hears_any x.W b s.self s.other q HE.out.2 (H2.out.2.2.2.chg0 x.h) (H2.out.1.to x.h).cell0 (H2.out.1.to x.h).cell1)
        rw [HR.out] at HH
        unfold pkV at HH
        have c2 : ∀ x : Hold (Chg [] D), x.W.cell? ⟨b, 2, none⟩ = some (.int .u64 s.ep) := fun x => x.h.cell_some H2.out.1.cell2 (by simp)
        have d3 : ∀ x : Hold (Chg [] D), x.W.cell? ⟨w.heap.size, 3, none⟩ = some (.int .u64 q.ep) := fun x => x.h.cell_some (H2.out.2.1.cell 3) (by simp)
        refine wp_region_hold (Chg [] D) (by kernel_rfl) (by kernel_rfl) HS0.out ?_
        repeat (first
          | go_big_quiet_step (first | (with_reducible exact Calls.hold (HM.out _) (fun w' hc => hc ▸ Hold.h _)) | (with_reducible exact Calls.hold (HH.out _) (fun w' hc => Chg.trans (Hold.h _) hc)))
          | (refine wpQuiet_loadW (by rfl) _ _ (by rfl) _ _ (by rfl) hl.out ?_
             try simp only [List.getElem_toArray, List.getElem_cons_zero, List.getElem_cons_succ, Act.put, List.setIfInBounds_toArray, List.set_cons_zero, List.set_cons_succ]
             skip))
        refine wpQuiet_nil ?_
        rintro wy ⟨⟨wz, hy⟩, hz⟩
        replace hz : wy = wz := hz
        subst hz
        have HY := Lib.hid (HVD.out.trans hy)
        clear hy HS0 HVD hne
        clear HM HH hl H2 c2 d3
        have H3 := Lib.hid (And.intro (H.out.1.to HY.out) (And.intro (H.out.2.1.chg HY.out (by simp)) (H.out.2.2.1.trans HY.out)))
        clear HY H
        go_upto_region 3 with fail
        have c2 := H3.out.1.cell2
        have d3 : wy.cell? ⟨w.heap.size, 3, none⟩ = some (.int .u64 q.ep) := H3.out.2.1.cell 3
        go_quiet (fail)
        have H4 := Lib.hid (And.intro (H3.out.1.to ((Chg.refl [] wy).drewN nq)) (And.intro (show Blk (wy.drewN nq) w.heap.size 30 (PkS.cells q) from H3.out.2.1.drewN nq) (H3.out.2.2.drewN nq)))
        clear c2 d3 H3
        generalize wy.drewN nq = wz at *
        have d0 : wz.cell? ⟨w.heap.size, 0, none⟩ = some (.int .i64 q.kind) := H4.out.2.1.cell 0
        rw [k1] at d0
        go_upto_region 8 with fail
        have H5 := Lib.hid (And.intro H4.out.1 (H4.out.2.2.mono (M := [b, p, mb]) (by simp)))
        clear H4 d0
        refine wp_region_noPanic ?_
        refine wp_region_held_drew (S := fun w' => w'.cell? ⟨b, 2, none⟩ = some (.int .u64 s.ep)) (by kernel_rfl) H5.out.1.cell2 (fun hHeld => ?_)
        have HD := Lib.hid (And.intro (H5.out.1.to ((Chg.refl [] _).drew)) (H5.out.2.drew))
        clear H5
        generalize World.drew _ = wd at *
        refine wpAnyH_take (i := 0) (oi := _) (v := ?_) rfl (by kernel_rfl) (by kernel_rfl) (by kernel_rfl) (fun _ _ _ h => h) (Or.inl ⟨by rfl, ?_⟩) (by assumption) ?_
        rotate_left 1
        · intro w hSw
          try dsimp only at hSw
          go_simp
          try with_reducible rfl
        try simp only [List.getElem_toArray, List.getElem_cons_zero, List.getElem_cons_succ, Act.put, List.setIfInBounds_toArray, List.set_cons_zero, List.set_cons_succ]
        refine wpAnyH_take (i := 1) (oi := _) (v := ?_) rfl (by kernel_rfl) (by kernel_rfl) (by kernel_rfl) (fun _ _ _ h => h) (Or.inl ⟨by rfl, ?_⟩) (by assumption) ?_
        rotate_left 1
        · intro w hSw
          try dsimp only at hSw
          go_simp
          try with_reducible rfl
        try simp only [List.getElem_toArray, List.getElem_cons_zero, List.getElem_cons_succ, Act.put, List.setIfInBounds_toArray, List.set_cons_zero, List.set_cons_succ]
        refine wpAnyH_take (i := 2) (oi := _) (v := ?_) rfl (by kernel_rfl) (by kernel_rfl) (by kernel_rfl) (fun _ _ _ h => h) (Or.inl ⟨by rfl, ?_⟩) (by assumption) ?_
        rotate_left 1
        · intro w hSw
          try dsimp only at hSw
          go_simp
          try with_reducible rfl
        try simp only [List.getElem_toArray, List.getElem_cons_zero, List.getElem_cons_succ, Act.put, List.setIfInBounds_toArray, List.set_cons_zero, List.set_cons_succ]
        refine wpAnyH_take (i := 3) (oi := _) (v := ?_) rfl (by kernel_rfl) (by kernel_rfl) (by kernel_rfl) (fun _ _ _ h => h) (Or.inl ⟨by rfl, ?_⟩) (by assumption) ?_
        rotate_left 1
        · intro w hSw
          try dsimp only at hSw
          go_simp
          try with_reducible rfl
        try simp only [List.getElem_toArray, List.getElem_cons_zero, List.getElem_cons_succ, Act.put, List.setIfInBounds_toArray, List.set_cons_zero, List.set_cons_succ]
        refine wpAnyH_take (i := 4) (oi := _) (v := ?_) rfl (by kernel_rfl) (by kernel_rfl) (by kernel_rfl) (fun _ _ _ h => h) (Or.inl ⟨by rfl, ?_⟩) (by assumption) ?_
        rotate_left 1
        · intro w hSw
          try dsimp only at hSw
          go_simp
          try with_reducible rfl
        try simp only [List.getElem_toArray, List.getElem_cons_zero, List.getElem_cons_succ, Act.put, List.setIfInBounds_toArray, List.set_cons_zero, List.set_cons_succ]
        refine wpAnyH_take (i := 5) (oi := _) (v := ?_) rfl (by kernel_rfl) (by kernel_rfl) (by kernel_rfl) (fun _ _ _ h => h) (Or.inl ⟨by rfl, ?_⟩) (by assumption) ?_
        rotate_left 1
        · intro w hSw
          try dsimp only at hSw
          go_simp
          try with_reducible rfl
        try simp only [List.getElem_toArray, List.getElem_cons_zero, List.getElem_cons_succ, Act.put, List.setIfInBounds_toArray, List.set_cons_zero, List.set_cons_succ]
        refine wpAnyH_take (i := 6) (oi := _) (v := ?_) rfl (by kernel_rfl) (by kernel_rfl) (by kernel_rfl) (fun _ _ _ h => h) (Or.inl ⟨by rfl, ?_⟩) (by assumption) ?_
        rotate_left 1
        · intro w hSw
          try dsimp only at hSw
          go_simp
          try with_reducible rfl
        try simp only [List.getElem_toArray, List.getElem_cons_zero, List.getElem_cons_succ, Act.put, List.setIfInBounds_toArray, List.set_cons_zero, List.set_cons_succ]
        refine wpAnyH_take (i := 7) (oi := _) (v := ?_) rfl (by kernel_rfl) (by kernel_rfl) (by kernel_rfl) (fun _ _ _ h => h) (Or.inl ⟨by rfl, ?_⟩) (by assumption) ?_
        rotate_left 1
        · intro w hSw
          try dsimp only at hSw
          go_simp
          try with_reducible rfl
        try simp only [List.getElem_toArray, List.getElem_cons_zero, List.getElem_cons_succ, Act.put, List.setIfInBounds_toArray, List.set_cons_zero, List.set_cons_succ]
        refine wpAnyH_ready (rs := [8]) (by kernel_rfl) (by simp) (AllReadyH.cons rfl (fun K hK => ?_) AllReadyH.nil)
        go_simp
        refine (say_any wd b s.self s.other 2 s.ep HD.out.1.cell0 HD.out.1.cell1).mono ?_
        rintro e wa ⟨rfl, hc⟩
        have HA := Lib.hid (And.intro (HD.out.1.to hc) (HD.out.2.trans (hc.mono (by simp))))
        clear hc HD
        go_wp2_with fail
        refine hK.out _ _ HA.out.1.cell2 (fun hHeld => ?_)
        clear hK K
        try simp only [List.getElem_toArray, List.getElem_cons_zero, List.getElem_cons_succ, Act.put, List.setIfInBounds_toArray, List.set_cons_zero, List.set_cons_succ]
        refine wpAnyH_ready (rs := [9]) (by kernel_rfl) (by simp) (AllReadyH.cons rfl (fun K hK => ?_) AllReadyH.nil)
        refine step_bsPk rfl _ (by rfl) (sayP s.self s.other 2 s.ep) (by rfl) ?_
        have hca := (Chg.refl [] wa).alloc (.cells (PkS.cells (sayP s.self s.other 2 s.ep)) 30)
        have HF := Lib.hid (And.intro (HA.out.1.to hca) (And.intro (HA.out.2.trans (hca.mono (M := [b, p, mb]) (by simp))) (PkOw.lit wa w.heap.size (by have := HA.out.2.size; exact this) (sayP s.self s.other 2 s.ep))))
        clear hca
        refine hK.out _ _ HF.out.1.cell2 (fun hHeld => ?_)
        clear hK K
        try simp only [List.getElem_toArray, List.getElem_cons_zero, List.getElem_cons_succ, Act.put, List.setIfInBounds_toArray, List.set_cons_zero, List.set_cons_succ]
        refine wpAnyH_take (i := 10) (oi := _) (v := ?_) rfl (by kernel_rfl) (by kernel_rfl) (by kernel_rfl) (fun _ _ _ h => h) (Or.inl ⟨by rfl, ?_⟩) (by assumption) ?_
        rotate_left 1
        · intro w hSw
          try dsimp only at hSw
          go_simp
          try with_reducible rfl
        try simp only [List.getElem_toArray, List.getElem_cons_zero, List.getElem_cons_succ, Act.put, List.setIfInBounds_toArray, List.set_cons_zero, List.set_cons_succ]
        refine wpAnyH_take (i := 11) (oi := _) (v := ?_) rfl (by kernel_rfl) (by kernel_rfl) (by kernel_rfl) (fun _ _ _ h => h) (Or.inl ⟨by rfl, ?_⟩) (by assumption) ?_
        rotate_left 1
        · intro w hSw
          try dsimp only at hSw
          go_simp
          try with_reducible rfl
        try simp only [List.getElem_toArray, List.getElem_cons_zero, List.getElem_cons_succ, Act.put, List.setIfInBounds_toArray, List.set_cons_zero, List.set_cons_succ]
        refine wpAnyH_done (by kernel_rfl) ?_ _
        refine NoPanic.normal ?_
        go_wp2
        go_ret2
        exact ⟨_, 1, 1, rfl, HF.out.2.2, HF.out.1, HF.out.2.1⟩
    · rw [if_neg k1]
      have tk1 : (q.kind == 1) = false := by simpa using k1
      by_cases k3 : q.kind = 3
      · rw [if_pos k3]
        by_cases e2 : s.ep < q.ep
        · rw [if_pos e2]
          have t2 := decide_eq_true e2
          clear e1
          go_enter Tryd.func10, Tryd.ntmps10
          go_upto_region 1 with fail
          generalize w.alloc (.cells (PkS.cells q) 30) = W at *
          obtain ⟨D, hD⟩ : ∃ D, D = World.drew W := ⟨_, rfl⟩
          have HS0 : Hid (Chg [] D (World.drew W)) := Lib.hid (by rw [hD]; exact Chg.refl _ _)
          have HVD : Hid (Chg [] W D) := Lib.hid (by rw [hD]; exact (Chg.refl [] W).drew)
          have hne : Nonempty (Hold (Chg [] D)) := ⟨⟨_, HS0.out⟩⟩
          clear hD
          have H2 := Lib.hid (And.intro (H.out.1.to HVD.out) (And.intro (H.out.2.1.chg HVD.out (by simp)) (And.intro (H.out.2.2.1.trans HVD.out) (H.out.2.2.2.chg0 HVD.out))))
          have hl := Lib.hid (hold_pk H2.out.2.1)
          have HM := Lib.hid (fun x : Hold (Chg [] D) => made_in (H2.out.1.to x.h))
          have HH := Lib.hid (fun x : Hold (Chg [] D) => hears_any x.W b s.self s.other q HE.out.2 (H2.out.2.2.2.chg0 x.h) (H2.out.1.to x.h).cell0 (H2.out.1.to x.h).cell1)
          rw [HR.out] at HH
          unfold pkV at HH
          have c2 : ∀ x : Hold (Chg [] D), x.W.cell? ⟨b, 2, none⟩ = some (.int .u64 s.ep) := fun x => x.h.cell_some H2.out.1.cell2 (by simp)
          have d3 : ∀ x : Hold (Chg [] D), x.W.cell? ⟨w.heap.size, 3, none⟩ = some (.int .u64 q.ep) := fun x => x.h.cell_some (H2.out.2.1.cell 3) (by simp)
          refine wp_region_hold (Chg [] D) (by kernel_rfl) (by kernel_rfl) HS0.out ?_
          repeat (first
            | go_big_quiet_step (first | (with_reducible exact Calls.hold (HM.out _) (fun w' hc => hc ▸ Hold.h _)) | (with_reducible exact Calls.hold (HH.out _) (fun w' hc => Chg.trans (Hold.h _) hc)))
            | (refine wpQuiet_loadW (by rfl) _ _ (by rfl) _ _ (by rfl) hl.out ?_
               try simp only [List.getElem_toArray, List.getElem_cons_zero, List.getElem_cons_succ, Act.put, List.setIfInBounds_toArray, List.set_cons_zero, List.set_cons_succ]
               skip))
          refine wpQuiet_nil ?_
          rintro wy ⟨⟨wz, hy⟩, hz⟩
          replace hz : wy = wz := hz
          subst hz
          have HY := Lib.hid (HVD.out.trans hy)
          clear hy HS0 HVD hne
          clear HM HH hl H2 c2 d3
          have H3 := Lib.hid (And.intro (H.out.1.to HY.out) (And.intro (H.out.2.1.chg HY.out (by simp)) (H.out.2.2.1.trans HY.out)))
          clear HY H
          go_upto_region 3 with fail
          have c2 := H3.out.1.cell2
          have d3 : wy.cell? ⟨w.heap.size, 3, none⟩ = some (.int .u64 q.ep) := H3.out.2.1.cell 3
          go_quiet (fail)
          have H4 := Lib.hid (And.intro (H3.out.1.to ((Chg.refl [] wy).drewN nq)) (And.intro (show Blk (wy.drewN nq) w.heap.size 30 (PkS.cells q) from H3.out.2.1.drewN nq) (H3.out.2.2.drewN nq)))
          clear c2 d3 H3
          generalize wy.drewN nq = wz at *
          have d0 : wz.cell? ⟨w.heap.size, 0, none⟩ = some (.int .i64 q.kind) := H4.out.2.1.cell 0
          rw [k3] at d0
          have u0 := H4.out.1.cell0
          have u1 := H4.out.1.cell1
          go_wp2_with fail
          refine (say_any wz b s.self s.other 2 0 H4.out.1.cell0 H4.out.1.cell1).mono ?_
          rintro e wa ⟨rfl, hc⟩
          have hca := (Chg.refl [] wa).alloc (.cells (PkS.cells (sayP s.self s.other 2 0)) 30)
          have HF := Lib.hid (And.intro ((H4.out.1.to hc).to hca) (And.intro (((H4.out.2.2.trans hc).trans hca).mono (M := [b, p, mb]) (by simp)) (PkOw.lit wa w.heap.size (H4.out.2.2.trans hc).size (sayP s.self s.other 2 0))))
          clear hc hca u0 u1 d0
          go_wp2_with (refine wpList_bsPk (by rfl) _ (by rfl) (sayP s.self s.other 2 0) (by rfl) ?_)
          go_ret2
          exact ⟨_, 1, 1, rfl, HF.out.2.2, HF.out.1, HF.out.2.1⟩
        · rw [if_neg e2]
          have t2 := decide_eq_false e2
          go_enter Tryd.func10, Tryd.ntmps10
          go_upto_region 1 with fail
          generalize w.alloc (.cells (PkS.cells q) 30) = W at *
          obtain ⟨D, hD⟩ : ∃ D, D = World.drew W := ⟨_, rfl⟩
          have HS0 : Hid (Chg [] D (World.drew W)) := Lib.hid (by rw [hD]; exact Chg.refl _ _)
          have HVD : Hid (Chg [] W D) := Lib.hid (by rw [hD]; exact (Chg.refl [] W).drew)
          have hne : Nonempty (Hold (Chg [] D)) := ⟨⟨_, HS0.out⟩⟩
          clear hD
          have H2 := Lib.hid (And.intro (H.out.1.to HVD.out) (And.intro (H.out.2.1.chg HVD.out (by simp)) (And.intro (H.out.2.2.1.trans HVD.out) (H.out.2.2.2.chg0 HVD.out))))
          have hl := Lib.hid (hold_pk H2.out.2.1)
          have HM := Lib.hid (fun x : Hold (Chg [] D) => made_in (H2.out.1.to x.h))
          have HH := Lib.hid (fun x : Hold (Chg [] D) => hears_any x.W b s.self s.other q HE.out.2 (H2.out.2.2.2.chg0 x.h) (H2.out.1.to x.h).cell0 (H2.out.1.to x.h).cell1)
          rw [HR.out] at HH
          unfold pkV at HH
          have c2 : ∀ x : Hold (Chg [] D), x.W.cell? ⟨b, 2, none⟩ = some (.int .u64 s.ep) := fun x => x.h.cell_some H2.out.1.cell2 (by simp)
          have d3 : ∀ x : Hold (Chg [] D), x.W.cell? ⟨w.heap.size, 3, none⟩ = some (.int .u64 q.ep) := fun x => x.h.cell_some (H2.out.2.1.cell 3) (by simp)
          refine wp_region_hold (Chg [] D) (by kernel_rfl) (by kernel_rfl) HS0.out ?_
          repeat (first
            | go_big_quiet_step (first | (with_reducible exact Calls.hold (HM.out _) (fun w' hc => hc ▸ Hold.h _)) | (with_reducible exact Calls.hold (HH.out _) (fun w' hc => Chg.trans (Hold.h _) hc)))
            | (refine wpQuiet_loadW (by rfl) _ _ (by rfl) _ _ (by rfl) hl.out ?_
               try simp only [List.getElem_toArray, List.getElem_cons_zero, List.getElem_cons_succ, Act.put, List.setIfInBounds_toArray, List.set_cons_zero, List.set_cons_succ]
               skip))
          refine wpQuiet_nil ?_
          rintro wy ⟨⟨wz, hy⟩, hz⟩
          replace hz : wy = wz := hz
          subst hz
          have HY := Lib.hid (HVD.out.trans hy)
          clear hy HS0 HVD hne
          clear HM HH hl H2 c2 d3
          have H3 := Lib.hid (And.intro (H.out.1.to HY.out) (And.intro (H.out.2.1.chg HY.out (by simp)) (H.out.2.2.1.trans HY.out)))
          clear HY H
          go_upto_region 3 with fail
          have c2 := H3.out.1.cell2
          have d3 : wy.cell? ⟨w.heap.size, 3, none⟩ = some (.int .u64 q.ep) := H3.out.2.1.cell 3
          go_quiet (fail)
          have H4 := Lib.hid (And.intro (H3.out.1.to ((Chg.refl [] wy).drewN nq)) (And.intro (show Blk (wy.drewN nq) w.heap.size 30 (PkS.cells q) from H3.out.2.1.drewN nq) (H3.out.2.2.drewN nq)))
          clear c2 d3 H3
          generalize wy.drewN nq = wz at *
          have d0 : wz.cell? ⟨w.heap.size, 0, none⟩ = some (.int .i64 q.kind) := H4.out.2.1.cell 0
          rw [k3] at d0
          go_upto_region 12 with fail
          refine wp_region_noPanic ?_
          refine wp_region_held_drew (S := fun w' => w'.cell? ⟨b, 3, none⟩ = some (.pointer (some ⟨p, 0, none⟩)) ∧ w'.cell? ⟨w.heap.size, 4, none⟩ = some (.int .u16 q.num) ∧ (Instr.loadAt 28 (.pointer (some ⟨w.heap.size, 6, none⟩))).run Tryd.prog w' = .ok (.agg q.m.cells) w') (by kernel_rfl) ⟨H4.out.1.cell3, H4.out.2.1.cell 4, load_pkm (w := wz.drew) H4.out.2.1⟩ (fun hHeld => ?_)
          have HD := Lib.hid (And.intro (H4.out.1.to ((Chg.refl [] wz).drew)) (And.intro (show Blk wz.drew w.heap.size 30 (PkS.cells q) from H4.out.2.1) (H4.out.2.2.drew)))
          clear H4 d0
          generalize wz.drew = wd at *
          refine wpAnyH_take (i := 0) (oi := _) (v := ?_) rfl (by kernel_rfl) (by kernel_rfl) (by kernel_rfl) (fun _ _ _ h => h) (Or.inl ⟨by rfl, ?_⟩) (by assumption) ?_
          rotate_left 1
          · intro w hSw
            try dsimp only at hSw
            go_simp
            try with_reducible rfl
          try simp only [List.getElem_toArray, List.getElem_cons_zero, List.getElem_cons_succ, Act.put, List.setIfInBounds_toArray, List.set_cons_zero, List.set_cons_succ]
          refine wpAnyH_take (i := 1) (oi := _) (v := ?_) rfl (by kernel_rfl) (by kernel_rfl) (by kernel_rfl) (fun _ _ _ h => h) (Or.inl ⟨by rfl, ?_⟩) (by assumption) ?_
          rotate_left 1
          · intro w hSw
            try dsimp only at hSw
            go_simp
            try with_reducible rfl
          try simp only [List.getElem_toArray, List.getElem_cons_zero, List.getElem_cons_succ, Act.put, List.setIfInBounds_toArray, List.set_cons_zero, List.set_cons_succ]
          refine wpAnyH_take (i := 2) (oi := _) (v := ?_) rfl (by kernel_rfl) (by kernel_rfl) (by kernel_rfl) (fun _ _ _ h => h) (Or.inl ⟨by rfl, ?_⟩) (by assumption) ?_
          rotate_left 1
          · intro w hSw
            try dsimp only at hSw
            go_simp
            try with_reducible rfl
          try simp only [List.getElem_toArray, List.getElem_cons_zero, List.getElem_cons_succ, Act.put, List.setIfInBounds_toArray, List.set_cons_zero, List.set_cons_succ]
          refine wpAnyH_take (i := 3) (oi := _) (v := ?_) rfl (by kernel_rfl) (by kernel_rfl) (by kernel_rfl) (fun _ _ _ h => h) (Or.inl ⟨by rfl, ?_⟩) (by assumption) ?_
          rotate_left 1
          · intro w hSw
            try dsimp only at hSw
            go_simp
            try with_reducible rfl
          try simp only [List.getElem_toArray, List.getElem_cons_zero, List.getElem_cons_succ, Act.put, List.setIfInBounds_toArray, List.set_cons_zero, List.set_cons_succ]
          refine wpAnyH_take (i := 4) (oi := _) (v := ?_) rfl (by kernel_rfl) (by kernel_rfl) (by kernel_rfl) (fun _ _ _ h => h) (Or.inl ⟨by rfl, ?_⟩) (by assumption) ?_
          rotate_left 1
          · intro w hSw
            try dsimp only at hSw
            go_simp
            try with_reducible rfl
          try simp only [List.getElem_toArray, List.getElem_cons_zero, List.getElem_cons_succ, Act.put, List.setIfInBounds_toArray, List.set_cons_zero, List.set_cons_succ]
          refine wpAnyH_take (i := 5) (oi := _) (v := ?_) rfl (by kernel_rfl) (by kernel_rfl) (by kernel_rfl) (fun _ _ _ h => h) (Or.inl ⟨by rfl, ?_⟩) (by assumption) ?_
          rotate_left 1
          · intro w hSw
            try dsimp only at hSw
            go_simp
            try with_reducible rfl
          try simp only [List.getElem_toArray, List.getElem_cons_zero, List.getElem_cons_succ, Act.put, List.setIfInBounds_toArray, List.set_cons_zero, List.set_cons_succ]
          refine wpAnyH_take (i := 6) (oi := _) (v := ?_) rfl (by kernel_rfl) (by kernel_rfl) (by kernel_rfl) (fun _ _ _ h => h) (Or.inl ⟨by rfl, ?_⟩) (by assumption) ?_
          rotate_left 1
          · intro w hSw
            try dsimp only at hSw
            go_simp
            try with_reducible rfl
          try simp only [List.getElem_toArray, List.getElem_cons_zero, List.getElem_cons_succ, Act.put, List.setIfInBounds_toArray, List.set_cons_zero, List.set_cons_succ]
          refine wpAnyH_take (i := 7) (oi := _) (v := _) rfl (by kernel_rfl) (by kernel_rfl) (by kernel_rfl) (fun _ _ _ h => h) (yields_load (by rfl) _ _ (by rfl) _ (by rfl) _ (fun w h => h.2.2)) (by assumption) ?_
          try simp only [List.getElem_toArray, List.getElem_cons_zero, List.getElem_cons_succ, Act.put, List.setIfInBounds_toArray, List.set_cons_zero, List.set_cons_succ]
          refine wpAnyH_ready (rs := [8]) (by kernel_rfl) (by simp) (AllReadyH.cons rfl (fun K hK => ?_) AllReadyH.nil)
          go_simp
          refine (take_any wd p mb s.ib HD.out.1.box.box HD.out.1.box.ne q.num q.m).mono ?_
          rintro e w6 ⟨rfl, hi, hc⟩
          have hne : w.heap.size ≠ mb := map_ne HD.out.2.1 HD.out.1.box.box.map
          have H6 := Lib.hid (And.intro (HD.out.1.stepB hi (hc.mono (by simp))) (And.intro (HD.out.2.1.chg hc (by simpa using hne)) ((HD.out.2.2.mono (M := [b, p, mb]) (by simp)).trans (hc.mono (by simp)))))
          clear hi hc hne HD
          go_wp2_with fail
          refine hK.out _ _ ⟨H6.out.1.cell3, H6.out.2.1.cell 4, load_pkm H6.out.2.1⟩ (fun hHeld => ?_)
          clear hK K
          try simp only [List.getElem_toArray, List.getElem_cons_zero, List.getElem_cons_succ, Act.put, List.setIfInBounds_toArray, List.set_cons_zero, List.set_cons_succ]
          refine wpAnyH_done (by kernel_rfl) ?_ _
          refine NoPanic.normal ?_
          go_wp2
          go_ret2
          exact ⟨none, 0, 0, rfl, PkOw.nil _ _, H6.out.1, H6.out.2.2⟩
      · rw [if_neg k3]
        have tk3 : (q.kind == 3) = false := by simpa using k3
        by_cases e2 : s.ep < q.ep
        · have t2 := decide_eq_true e2
          clear e1
          go_enter Tryd.func10, Tryd.ntmps10
          go_upto_region 1 with fail
          generalize w.alloc (.cells (PkS.cells q) 30) = W at *
          obtain ⟨D, hD⟩ : ∃ D, D = World.drew W := ⟨_, rfl⟩
          have HS0 : Hid (Chg [] D (World.drew W)) := Lib.hid (by rw [hD]; exact Chg.refl _ _)
          have HVD : Hid (Chg [] W D) := Lib.hid (by rw [hD]; exact (Chg.refl [] W).drew)
          have hne : Nonempty (Hold (Chg [] D)) := ⟨⟨_, HS0.out⟩⟩
          clear hD
          have H2 := Lib.hid (And.intro (H.out.1.to HVD.out) (And.intro (H.out.2.1.chg HVD.out (by simp)) (And.intro (H.out.2.2.1.trans HVD.out) (H.out.2.2.2.chg0 HVD.out))))
          have hl := Lib.hid (hold_pk H2.out.2.1)
          have HM := Lib.hid (fun x : Hold (Chg [] D) => made_in (H2.out.1.to x.h))
          have HH := Lib.hid (fun x : Hold (Chg [] D) => hears_any x.W b s.self s.other q HE.out.2 (H2.out.2.2.2.chg0 x.h) (H2.out.1.to x.h).cell0 (H2.out.1.to x.h).cell1)
          rw [HR.out] at HH
          unfold pkV at HH
          have c2 : ∀ x : Hold (Chg [] D), x.W.cell? ⟨b, 2, none⟩ = some (.int .u64 s.ep) := fun x => x.h.cell_some H2.out.1.cell2 (by simp)
          have d3 : ∀ x : Hold (Chg [] D), x.W.cell? ⟨w.heap.size, 3, none⟩ = some (.int .u64 q.ep) := fun x => x.h.cell_some (H2.out.2.1.cell 3) (by simp)
          refine wp_region_hold (Chg [] D) (by kernel_rfl) (by kernel_rfl) HS0.out ?_
          repeat (first
            | go_big_quiet_step (first | (with_reducible exact Calls.hold (HM.out _) (fun w' hc => hc ▸ Hold.h _)) | (with_reducible exact Calls.hold (HH.out _) (fun w' hc => Chg.trans (Hold.h _) hc)))
            | (refine wpQuiet_loadW (by rfl) _ _ (by rfl) _ _ (by rfl) hl.out ?_
               try simp only [List.getElem_toArray, List.getElem_cons_zero, List.getElem_cons_succ, Act.put, List.setIfInBounds_toArray, List.set_cons_zero, List.set_cons_succ]
               skip))
          refine wpQuiet_nil ?_
          rintro wy ⟨⟨wz, hy⟩, hz⟩
          replace hz : wy = wz := hz
          subst hz
          have HY := Lib.hid (HVD.out.trans hy)
          clear hy HS0 HVD hne
          clear HM HH hl H2 c2 d3
          have H3 := Lib.hid (And.intro (H.out.1.to HY.out) (And.intro (H.out.2.1.chg HY.out (by simp)) (H.out.2.2.1.trans HY.out)))
          clear HY H
          go_upto_region 3 with fail
          have c2 := H3.out.1.cell2
          have d3 : wy.cell? ⟨w.heap.size, 3, none⟩ = some (.int .u64 q.ep) := H3.out.2.1.cell 3
          go_quiet (fail)
          have H4 := Lib.hid (And.intro (H3.out.1.to ((Chg.refl [] wy).drewN nq)) (And.intro (show Blk (wy.drewN nq) w.heap.size 30 (PkS.cells q) from H3.out.2.1.drewN nq) (H3.out.2.2.drewN nq)))
          clear c2 d3 H3
          generalize wy.drewN nq = wz at *
          have d0 : wz.cell? ⟨w.heap.size, 0, none⟩ = some (.int .i64 q.kind) := H4.out.2.1.cell 0
          go_wp2
          go_ret2
          exact ⟨none, 0, 0, rfl, PkOw.nil _ _, H4.out.1, H4.out.2.2.mono (by simp)⟩
        · have t2 := decide_eq_false e2
          go_enter Tryd.func10, Tryd.ntmps10
          go_upto_region 1 with fail
          generalize w.alloc (.cells (PkS.cells q) 30) = W at *
          obtain ⟨D, hD⟩ : ∃ D, D = World.drew W := ⟨_, rfl⟩
          have HS0 : Hid (Chg [] D (World.drew W)) := Lib.hid (by rw [hD]; exact Chg.refl _ _)
          have HVD : Hid (Chg [] W D) := Lib.hid (by rw [hD]; exact (Chg.refl [] W).drew)
          have hne : Nonempty (Hold (Chg [] D)) := ⟨⟨_, HS0.out⟩⟩
          clear hD
          have H2 := Lib.hid (And.intro (H.out.1.to HVD.out) (And.intro (H.out.2.1.chg HVD.out (by simp)) (And.intro (H.out.2.2.1.trans HVD.out) (H.out.2.2.2.chg0 HVD.out))))
          have hl := Lib.hid (hold_pk H2.out.2.1)
          have HM := Lib.hid (fun x : Hold (Chg [] D) => made_in (H2.out.1.to x.h))
          have HH := Lib.hid (fun x : Hold (Chg [] D) => hears_any x.W b s.self s.other q HE.out.2 (H2.out.2.2.2.chg0 x.h) (H2.out.1.to x.h).cell0 (H2.out.1.to x.h).cell1)
          rw [HR.out] at HH
          unfold pkV at HH
          have c2 : ∀ x : Hold (Chg [] D), x.W.cell? ⟨b, 2, none⟩ = some (.int .u64 s.ep) := fun x => x.h.cell_some H2.out.1.cell2 (by simp)
          have d3 : ∀ x : Hold (Chg [] D), x.W.cell? ⟨w.heap.size, 3, none⟩ = some (.int .u64 q.ep) := fun x => x.h.cell_some (H2.out.2.1.cell 3) (by simp)
          refine wp_region_hold (Chg [] D) (by kernel_rfl) (by kernel_rfl) HS0.out ?_
          repeat (first
            | go_big_quiet_step (first | (with_reducible exact Calls.hold (HM.out _) (fun w' hc => hc ▸ Hold.h _)) | (with_reducible exact Calls.hold (HH.out _) (fun w' hc => Chg.trans (Hold.h _) hc)))
            | (refine wpQuiet_loadW (by rfl) _ _ (by rfl) _ _ (by rfl) hl.out ?_
               try simp only [List.getElem_toArray, List.getElem_cons_zero, List.getElem_cons_succ, Act.put, List.setIfInBounds_toArray, List.set_cons_zero, List.set_cons_succ]
               skip))
          refine wpQuiet_nil ?_
          rintro wy ⟨⟨wz, hy⟩, hz⟩
          replace hz : wy = wz := hz
          subst hz
          have HY := Lib.hid (HVD.out.trans hy)
          clear hy HS0 HVD hne
          clear HM HH hl H2 c2 d3
          have H3 := Lib.hid (And.intro (H.out.1.to HY.out) (And.intro (H.out.2.1.chg HY.out (by simp)) (H.out.2.2.1.trans HY.out)))
          clear HY H
          go_upto_region 3 with fail
          have c2 := H3.out.1.cell2
          have d3 : wy.cell? ⟨w.heap.size, 3, none⟩ = some (.int .u64 q.ep) := H3.out.2.1.cell 3
          go_quiet (fail)
          have H4 := Lib.hid (And.intro (H3.out.1.to ((Chg.refl [] wy).drewN nq)) (And.intro (show Blk (wy.drewN nq) w.heap.size 30 (PkS.cells q) from H3.out.2.1.drewN nq) (H3.out.2.2.drewN nq)))
          clear c2 d3 H3
          generalize wy.drewN nq = wz at *
          have d0 : wz.cell? ⟨w.heap.size, 0, none⟩ = some (.int .i64 q.kind) := H4.out.2.1.cell 0
          go_wp2
          go_ret2
          exact ⟨none, 0, 0, rfl, PkOw.nil _ _, H4.out.1, H4.out.2.2.mono (by simp)⟩
end
end Go.Proofs.YtmiijmiikpmcgaaDoor
end
