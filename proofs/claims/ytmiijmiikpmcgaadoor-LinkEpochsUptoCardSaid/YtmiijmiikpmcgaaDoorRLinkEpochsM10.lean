/- Texts joined: LkIn, PkRo. -/
import Derived.Deep.MidRow
import Derived.Great.BuildSlice
import Derived.Test.YtmiijmiikpmcgaaDoorRLinkEpochsM7
import Derived.Test.YtmiijmiikpmcgaaDoorRLinkEpochsM9
section
/- Package link: the end that takes in: made, Epoch, Head, Pop, Ack. -/
set_option linter.unusedVariables false
set_option linter.unusedSimpArgs false
namespace Go.Proofs.YtmiijmiikpmcgaaDoor
open Go.RowKit
open Go.Proofs.YtmiijmiikpmcgaaDoor.Pk (Pkt)

section
variable {w0 w w' : World} {b p mb : Nat} {s s' : IS}
theorem ISt.to (h : ISt w0 w b p mb s) (hc : Chg [] w w') : ISt w0 w' b p mb s := ⟨h.blk.chg hc (by simp), h.box.to hc, h.own⟩
theorem ISt.cell0 (h : ISt w0 w b p mb s) : w.cell? ⟨b, 0, none⟩ = some (.int .i64 s.self) := h.blk.cell 0
theorem ISt.cell1 (h : ISt w0 w b p mb s) : w.cell? ⟨b, 1, none⟩ = some (.int .i64 s.other) := h.blk.cell 1
theorem ISt.cell2 (h : ISt w0 w b p mb s) : w.cell? ⟨b, 2, none⟩ = some (.int .u64 s.ep) := h.blk.cell 2
theorem ISt.cell3 (h : ISt w0 w b p mb s) : w.cell? ⟨b, 3, none⟩ = some (.pointer (some ⟨p, 0, none⟩)) := h.blk.cell 3
theorem ISt.chg (h : ISt w0 w b p mb s) : Chg [] w0 w := h.box.chg
theorem ISt.nep (h : ISt w0 w b p mb s) : b ≠ p := blk_ne h.blk h.box.box.blk (by decide)
theorem ISt.nem (h : ISt w0 w b p mb s) : b ≠ mb := map_ne h.blk h.box.box.map
theorem ISt.step (h : ISt w0 w b p mb s) (hb : Blk w' b 48 (s'.cells p)) (hc : Chg [b] w w') (hw : s'.ib = s.ib) : ISt w0 w' b p mb s' := by
  have h1 := h.nep
  have h2 := h.nem
  refine ⟨hb, ⟨?_, h.box.ne, h.box.own1, h.box.own2, h.box.chg.then_ hc (fun x hx => by simp at hx; subst hx; exact .inr h.own)⟩, h.own⟩
  rw [hw]
  exact h.box.box.chg hc (by simpa using h1.symm) (by simpa using h2.symm)
theorem ISt.stepB (h : ISt w0 w b p mb s) {x : IB} (hw : InboxAt w' p mb x) (hc : Chg [p, mb] w w') : ISt w0 w' b p mb { s with ib := x } :=
  ⟨h.blk.chg hc (by have h1 := h.nep; have h2 := h.nem; simp; omega), h.box.step hw hc, h.own⟩
set_option maxHeartbeats 2000000 in
theorem made_in (h : ISt w0 w b p mb s) : Calls Tryd.prog 30 #[.pointer (some ⟨b, 0, none⟩)] w fun e w' => e = .returned (.bool true) ∧ w = w' := by
  have u3 := h.cell3
  clear h
  go_enter Tryd.func30, Tryd.ntmps30
  go_wp2
  go_ret
  exact ⟨rfl, rfl⟩
set_option maxHeartbeats 2000000 in
theorem epoch_in (h : ISt w0 w b p mb s) : Calls Tryd.prog 14 #[.pointer (some ⟨b, 0, none⟩)] w fun e w' => e = .returned (.int .u64 s.ep) ∧ w = w' := by
  have H := Lib.hid h
  have u2 := h.cell2
  clear h
  go_enter Tryd.func14, Tryd.ntmps14
  go_wp2_with (go_at_call 30; refine (made_in H.out).mono ?_; rintro e w1 ⟨rfl, rfl⟩)
  go_ret
  exact ⟨rfl, rfl⟩
set_option maxHeartbeats 2000000 in
theorem pop_in (h : ISt w0 w b p mb s) (h0 : 0 ≤ s.ib.next) (h1 : s.ib.next < 65536) : Calls Tryd.prog 13 #[.pointer (some ⟨b, 0, none⟩)] w fun e w' => e = .returned (.bool s.ib.pops) ∧ ISt w0 w' b p mb { s with ib := s.ib.pop1 } ∧ Chg [p, mb] w w' := by
  have H := Lib.hid h
  have u3 := h.cell3
  have HN := Lib.hid (And.intro h0 h1)
  clear h h0 h1
  go_enter Tryd.func13, Tryd.ntmps13
  go_wp2_with (go_at_call 30; refine (made_in H.out).mono ?_; rintro e w1 ⟨rfl, rfl⟩)
  refine (pop_any w p mb s.ib H.out.box.box H.out.box.ne HN.out.1 HN.out.2).mono ?_
  rintro e w1 ⟨rfl, hi, hc⟩
  have H2 := Lib.hid (And.intro (H.out.stepB hi hc) hc)
  clear hi hc u3
  go_wp2
  go_ret
  exact ⟨rfl, H2.out⟩
theorem new_ms (w : World) (m : Msg) : ∃ w', (Instr.storeAt 28 (.pointer (some ⟨w.heap.size, 0, none⟩)) (.agg m.cells)).run Tryd.prog (w.alloc (.cells Msg.zero.cells 28)) = .ok () w' ∧ Blk w' w.heap.size 28 m.cells ∧ Chg [] w w' := by
  obtain ⟨w', h1, h2, h3⟩ := store_msg (m := m) (Blk.new w 28 Msg.zero.cells) rfl
  exact ⟨w', h1, h2, ((Chg.refl [] w).alloc _).then_ h3 (fun b hb => by simp at hb; subst hb; exact .inr (Nat.le_refl _))⟩
theorem lvar_ms {w : World} {b : Nat} {m : Msg} (h : Blk w b 28 m.cells) : (loadVar 28 ⟨b, 0, none⟩).run Tryd.prog w = .ok (.agg m.cells) w := lvar_blk h Tryd.underlying28 rfl info_msg
set_option maxRecDepth 100000 in
set_option maxHeartbeats 4000000 in
theorem head_in (h : ISt w0 w b p mb s) : Calls Tryd.prog 11 #[.pointer (some ⟨b, 0, none⟩)] w fun e w' => e = .returned (.tuple #[msgV s.ib.headM, .bool s.ib.pops]) ∧ Chg [] w w' := by
  have hca := (Chg.refl [] w).alloc (.cells Msg.zero.cells 28)
  have H := Lib.hid (And.intro (h.to hca) (And.intro (Blk.new w 28 Msg.zero.cells) hca))
  clear h hca
  go_enter Tryd.func11, Tryd.ntmps11
  go_upto_region 1 with fail
  change Code.wp _ _ _ _ (w.alloc (.cells Msg.zero.cells 28))
  generalize w.alloc (.cells Msg.zero.cells 28) = W at *
  have u3 := H.out.1.cell3
  go_wp2_with (go_at_call 30; refine (made_in H.out.1).mono ?_; rintro e w1 ⟨rfl, rfl⟩)
  refine (head_any W p mb s.ib H.out.1.box.box).mono ?_
  rintro e w1 ⟨rfl, hc⟩
  obtain ⟨w2, hst, hb, hc2⟩ := store_msg (m := s.ib.headM) (H.out.2.1.chg hc (by simp)) rfl
  have H2 := Lib.hid (And.intro hb ((H.out.2.2.trans hc).then_ hc2 (fun x hx => by simp at hx; subst hx; exact .inr (Nat.le_refl _))))
  clear hb hc hc2 u3
  unfold msgV
  go_wp2_with (refine wpList_storeR (by rfl) _ _ _ (by rfl) _ _ (by rfl) (by rfl) _ hst ?_)
  have hlv := lvar_ms H2.out.1
  clear hst
  go_wp2
  exact bodyPost_ret (results_cell_tmp Tryd.results11 _ _ _ _ _ (by rfl) hlv) rfl ⟨rfl, H2.out.2⟩
def ackP (s : IS) : Pkt := { sayP s.self s.other 4 s.ep with num := s.ib.next, mask := (s.ib.mask : Nat) }
set_option maxRecDepth 100000 in
set_option maxHeartbeats 8000000 in
theorem ack_in (h : ISt w0 w b p mb s) : Calls Tryd.prog 12 #[.pointer (some ⟨b, 0, none⟩)] w fun e w' => e = .returned (.tuple #[pkV (if s.ep = 0 then Pk.Pkt.zero else ackP s), .bool (!(s.ep == 0))]) ∧ Chg [] w w' := by
  have hca := (Chg.refl [] w).alloc (.cells (PkS.cells Pk.Pkt.zero) 30)
  have H := Lib.hid (And.intro (h.to hca) (And.intro (Blk.new w 30 (PkS.cells Pk.Pkt.zero)) (And.intro hca (Nat.le_refl w.heap.size))))
  clear h hca
  by_cases e0 : s.ep = 0
  · have t0 : (s.ep == 0) = true := by simpa using e0
    rw [if_pos e0, t0]
    clear e0
    go_enter Tryd.func12, Tryd.ntmps12
    go_upto_region 1 with fail
    change Code.wp _ _ _ _ (w.alloc (.cells (PkS.cells Pk.Pkt.zero) 30))
    generalize w.alloc (.cells (PkS.cells Pk.Pkt.zero) 30) = W at *
    have u2 := H.out.1.cell2
    obtain ⟨w2, hst, hb, hc2⟩ := store_pk (p := Pk.Pkt.zero) H.out.2.1 rfl
    have H2 := Lib.hid (And.intro hb (H.out.2.2.1.then_ hc2 (fun x hx => by simp at hx; subst hx; exact .inr H.out.2.2.2)))
    clear hb hc2
    go_wp2_with (first | (go_at_call 30; refine (made_in H.out.1).mono ?_; rintro e w1 ⟨rfl, rfl⟩) | (refine wpList_storeR (by rfl) _ _ _ (by rfl) _ _ (by rfl) (by rfl) _ hst ?_))
    have hlv := lvar_pk H2.out.1
    clear hst
    go_wp2
    exact bodyPost_ret (results_cell_tmp Tryd.results12 _ _ _ _ _ (by rfl) hlv) rfl ⟨rfl, H2.out.2⟩
  · have t0 : (s.ep == 0) = false := by simpa using e0
    rw [if_neg e0, t0]
    clear e0
    go_enter Tryd.func12, Tryd.ntmps12
    go_upto_region 1 with fail
    change Code.wp _ _ _ _ (w.alloc (.cells (PkS.cells Pk.Pkt.zero) 30))
    generalize w.alloc (.cells (PkS.cells Pk.Pkt.zero) 30) = W at *
    have u2 := H.out.1.cell2
    go_upto_region 3 with (go_at_call 30; refine (made_in H.out.1).mono ?_; rintro e w1 ⟨rfl, rfl⟩)
    refine wp_region_noPanic ?_
    refine wp_region_held_drew (S := fun w' => w'.cell? ⟨b, 2, none⟩ = some (.int .u64 s.ep)) (by kernel_rfl) u2 (fun hHeld => ?_)
    have HD := Lib.hid (And.intro (H.out.1.to ((Chg.refl [] W).drew)) ((Chg.refl [] W).drew))
    clear u2
    generalize W.drew = wd at *
    refine wpAnyH_take (i := 0) (oi := _) (v := ?_) rfl (by kernel_rfl) (by kernel_rfl) (by kernel_rfl) (fun _ _ _ h => h) (Or.inl ⟨by rfl, ?_⟩) (by assumption) ?_
    rotate_left 1
    · intro w hSw
      try dsimp only at hSw
      go_simp
      try with_reducible rfl
    try simp only [List.getElem_toArray, List.getElem_cons_zero, List.getElem_cons_succ, Act.put, List.setIfInBounds_toArray, List.set_cons_zero, List.set_cons_succ]
    refine wpAnyH_take (i := 1) (oi := _) (v := ?_) rfl (by kernel_rfl) (by kernel_rfl) (by kernel_rfl) (fun _ _ _ h => h) (Or.inl ⟨by rfl, ?_⟩) (by assumption) ?_
    rotate_left 1
    · intro w hSw
      try dsimp only at hSw
      go_simp
      try with_reducible rfl
    try simp only [List.getElem_toArray, List.getElem_cons_zero, List.getElem_cons_succ, Act.put, List.setIfInBounds_toArray, List.set_cons_zero, List.set_cons_succ]
    refine wpAnyH_take (i := 2) (oi := _) (v := ?_) rfl (by kernel_rfl) (by kernel_rfl) (by kernel_rfl) (fun _ _ _ h => h) (Or.inl ⟨by rfl, ?_⟩) (by assumption) ?_
    rotate_left 1
    · intro w hSw
      try dsimp only at hSw
      go_simp
      try with_reducible rfl
    try simp only [List.getElem_toArray, List.getElem_cons_zero, List.getElem_cons_succ, Act.put, List.setIfInBounds_toArray, List.set_cons_zero, List.set_cons_succ]
    refine wpAnyH_take (i := 3) (oi := _) (v := ?_) rfl (by kernel_rfl) (by kernel_rfl) (by kernel_rfl) (fun _ _ _ h => h) (Or.inl ⟨by rfl, ?_⟩) (by assumption) ?_
    rotate_left 1
    · intro w hSw
      try dsimp only at hSw
      go_simp
      try with_reducible rfl
    try simp only [List.getElem_toArray, List.getElem_cons_zero, List.getElem_cons_succ, Act.put, List.setIfInBounds_toArray, List.set_cons_zero, List.set_cons_succ]
    refine wpAnyH_take (i := 4) (oi := _) (v := ?_) rfl (by kernel_rfl) (by kernel_rfl) (by kernel_rfl) (fun _ _ _ h => h) (Or.inl ⟨by rfl, ?_⟩) (by assumption) ?_
    rotate_left 1
    · intro w hSw
      try dsimp only at hSw
      go_simp
      try with_reducible rfl
    try simp only [List.getElem_toArray, List.getElem_cons_zero, List.getElem_cons_succ, Act.put, List.setIfInBounds_toArray, List.set_cons_zero, List.set_cons_succ]
    refine wpAnyH_take (i := 5) (oi := _) (v := ?_) rfl (by kernel_rfl) (by kernel_rfl) (by kernel_rfl) (fun _ _ _ h => h) (Or.inl ⟨by rfl, ?_⟩) (by assumption) ?_
    rotate_left 1
    · intro w hSw
      try dsimp only at hSw
      go_simp
      try with_reducible rfl
    try simp only [List.getElem_toArray, List.getElem_cons_zero, List.getElem_cons_succ, Act.put, List.setIfInBounds_toArray, List.set_cons_zero, List.set_cons_succ]
    refine wpAnyH_take (i := 6) (oi := _) (v := ?_) rfl (by kernel_rfl) (by kernel_rfl) (by kernel_rfl) (fun _ _ _ h => h) (Or.inl ⟨by rfl, ?_⟩) (by assumption) ?_
    rotate_left 1
    · intro w hSw
      try dsimp only at hSw
      go_simp
      try with_reducible rfl
    try simp only [List.getElem_toArray, List.getElem_cons_zero, List.getElem_cons_succ, Act.put, List.setIfInBounds_toArray, List.set_cons_zero, List.set_cons_succ]
    refine wpAnyH_take (i := 7) (oi := _) (v := ?_) rfl (by kernel_rfl) (by kernel_rfl) (by kernel_rfl) (fun _ _ _ h => h) (Or.inl ⟨by rfl, ?_⟩) (by assumption) ?_
    rotate_left 1
    · intro w hSw
      try dsimp only at hSw
      go_simp
      try with_reducible rfl
    try simp only [List.getElem_toArray, List.getElem_cons_zero, List.getElem_cons_succ, Act.put, List.setIfInBounds_toArray, List.set_cons_zero, List.set_cons_succ]
    refine wpAnyH_ready (rs := [8, 9]) (by kernel_rfl) (by simp) (AllReadyH.cons rfl (fun K hK => ?_) (AllReadyH.cons rfl (fun K hK => ?_) AllReadyH.nil))
    · go_simp
      refine (say_any wd b s.self s.other 4 s.ep HD.out.1.cell0 HD.out.1.cell1).mono ?_
      rintro e wa ⟨rfl, hc⟩
      have HA := Lib.hid (And.intro (HD.out.1.to hc) (HD.out.2.trans hc))
      clear hc
      go_wp2_with fail
      refine hK.out _ _ HA.out.1.cell2 (fun hHeld => ?_)
      clear hK K
      try simp only [List.getElem_toArray, List.getElem_cons_zero, List.getElem_cons_succ, Act.put, List.setIfInBounds_toArray, List.set_cons_zero, List.set_cons_succ]
      refine wpAnyH_ready (rs := [9]) (by kernel_rfl) (by simp) (AllReadyH.cons rfl (fun K hK => ?_) AllReadyH.nil)
      go_simp
      change K _ (wa.alloc (.cells (PkS.cells Pk.Pkt.zero) 30))
      obtain ⟨ws, hst, hbs, hcs⟩ := new_pk wa (sayP s.self s.other 4 s.ep)
      have HP := Lib.hid (show Blk ws wa.heap.size 30 (PkS.cells (sayP s.self s.other 4 s.ep)) ∧ True ∧ ISt w0 ws b p mb s ∧ Chg [] W ws ∧ W.heap.size ≤ wa.heap.size from ⟨hbs, trivial, HA.out.1.to hcs, HA.out.2.trans hcs, HA.out.2.size⟩)
      clear hbs hcs
      refine hK.out _ _ ((HA.out.1.to ((Chg.refl [] wa).alloc _)).cell2) (fun hHeld => ?_)
      clear hK K
      try simp only [List.getElem_toArray, List.getElem_cons_zero, List.getElem_cons_succ, Act.put, List.setIfInBounds_toArray, List.set_cons_zero, List.set_cons_succ]
      refine wpAnyH_ready (rs := [10]) (by kernel_rfl) (by simp) (AllReadyH.cons rfl (fun K hK => ?_) AllReadyH.nil)
      refine step_store rfl _ _ _ (by rfl) _ _ (by rfl) (by rfl) _ hst ?_
      refine hK.out _ _ HP.out.2.2.1.cell2 (fun hHeld => ?_)
      clear hK K
      try simp only [List.getElem_toArray, List.getElem_cons_zero, List.getElem_cons_succ, Act.put, List.setIfInBounds_toArray, List.set_cons_zero, List.set_cons_succ]
      refine wpAnyH_done (by kernel_rfl) ?_ _
      refine NoPanic.normal ?_
      clear hst HA HD
      generalize wa.heap.size = pb at *
      go_upto_region 4 with fail
      have u3 := HP.out.2.2.1.cell3
      go_wp2_with fail
      refine (ack_any ws p mb s.ib HP.out.2.2.1.box.box).mono ?_
      rintro e w4 ⟨rfl, hbl⟩
      have hc4 : Chg [] ws w4 := Chg.of_below hbl
      have hb4 := HP.out.1.chg hc4 (by simp)
      have hst4 := store_pkn hb4 s.ib.next
      have hb5 : Blk (w4.setCell ⟨pb, 4, none⟩ (.int .u16 s.ib.next)) pb 30 (PkS.cells { sayP s.self s.other 4 s.ep with num := s.ib.next }) := hb4.set_ 4 (.int .u16 s.ib.next)
      obtain ⟨w6, hst5, hb6, hc6⟩ := store_pkk hb5 (s.ib.mask : Nat)
      have hc7 : Chg [] W w6 := ((HP.out.2.2.2.1.trans hc4).setCell (.inr HP.out.2.2.2.2) _).then_ hc6 (fun x hx => by simp at hx; subst hx; exact .inr HP.out.2.2.2.2)
      have hl6 : (Instr.loadAt 30 (.pointer (some ⟨pb, 0, none⟩))).run Tryd.prog w6 = .ok (.agg (PkS.cells (ackP s))) w6 := load_pk hb6
      obtain ⟨w8, hst8, hb8, hc8⟩ := store_pk (p := ackP s) (H.out.2.1.chg hc7 (by simp)) rfl
      have HF := Lib.hid (And.intro hb8 ((H.out.2.2.1.trans hc7).then_ hc8 (fun x hx => by simp at hx; subst hx; exact .inr H.out.2.2.2)))
      clear hbl hc4 hb4 hb5 hb6 hc6 hc7 hb8 hc8 u3
      go_wp2_with (first | (refine wpList_storeR (by rfl) _ _ _ (by rfl) _ _ (by rfl) (by rfl) _ hst4 ?_) | (refine wpList_storeR (by rfl) _ _ _ (by rfl) _ _ (by rfl) (by rfl) _ hst5 ?_) | (refine wpList_loadW _ _ (by rfl) _ _ (by rfl) hl6 (by rfl) ?_) | (refine wpList_storeR (by rfl) _ _ _ (by rfl) _ _ (by rfl) (by rfl) _ hst8 ?_))
      have hlv := lvar_pk HF.out.1
      clear hst4 hst5 hl6 hst8
      go_wp2
      exact bodyPost_ret (results_cell_tmp Tryd.results12 _ _ _ _ _ (by rfl) hlv) rfl ⟨rfl, HF.out.2⟩
    · go_simp
      change K _ (wd.alloc (.cells (PkS.cells Pk.Pkt.zero) 30))
      have hca := (Chg.refl [] wd).alloc (.cells (PkS.cells Pk.Pkt.zero) 30)
      have HA := Lib.hid (And.intro (HD.out.1.to hca) (And.intro (HD.out.2.trans hca) (And.intro (Blk.new wd 30 (PkS.cells Pk.Pkt.zero)) (show W.heap.size ≤ wd.heap.size from HD.out.2.size))))
      clear hca
      generalize wd.alloc (.cells (PkS.cells Pk.Pkt.zero) 30) = wb at *
      generalize wd.heap.size = pb at *
      refine hK.out _ _ (HA.out.1.cell2) (fun hHeld => ?_)
      clear hK K
      try simp only [List.getElem_toArray, List.getElem_cons_zero, List.getElem_cons_succ, Act.put, List.setIfInBounds_toArray, List.set_cons_zero, List.set_cons_succ]
      refine wpAnyH_ready (rs := [8]) (by kernel_rfl) (by simp) (AllReadyH.cons rfl (fun K hK => ?_) AllReadyH.nil)
      go_simp
      refine (say_any wb b s.self s.other 4 s.ep HA.out.1.cell0 HA.out.1.cell1).mono ?_
      rintro e wa ⟨rfl, hc⟩
      have HA2 := Lib.hid (And.intro (HA.out.1.to hc) (And.intro (HA.out.2.1.trans hc) (And.intro (HA.out.2.2.1.chg hc (by simp)) HA.out.2.2.2)))
      clear hc HA
      go_wp2_with fail
      refine hK.out _ _ HA2.out.1.cell2 (fun hHeld => ?_)
      clear hK K
      try simp only [List.getElem_toArray, List.getElem_cons_zero, List.getElem_cons_succ, Act.put, List.setIfInBounds_toArray, List.set_cons_zero, List.set_cons_succ]
      obtain ⟨ws, hst, hbs, hcs⟩ := store_pk (p := sayP s.self s.other 4 s.ep) HA2.out.2.2.1 rfl
      have hcs2 : Chg [] W ws := HA2.out.2.1.then_ hcs (fun x hx => by simp at hx; subst hx; exact .inr HA2.out.2.2.2)
      have HP := Lib.hid (show Blk ws pb 30 (PkS.cells (sayP s.self s.other 4 s.ep)) ∧ True ∧ ISt w0 ws b p mb s ∧ Chg [] W ws ∧ W.heap.size ≤ pb from ⟨hbs, trivial, H.out.1.to hcs2, hcs2, HA2.out.2.2.2⟩)
      clear hbs hcs hcs2
      refine wpAnyH_ready (rs := [10]) (by kernel_rfl) (by simp) (AllReadyH.cons rfl (fun K hK => ?_) AllReadyH.nil)
      refine step_store rfl _ _ _ (by rfl) _ _ (by rfl) (by rfl) _ hst ?_
      refine hK.out _ _ HP.out.2.2.1.cell2 (fun hHeld => ?_)
      clear hK K
      try simp only [List.getElem_toArray, List.getElem_cons_zero, List.getElem_cons_succ, Act.put, List.setIfInBounds_toArray, List.set_cons_zero, List.set_cons_succ]
      refine wpAnyH_done (by kernel_rfl) ?_ _
      refine NoPanic.normal ?_
      clear hst HA2 HD
      go_upto_region 4 with fail
      have u3 := HP.out.2.2.1.cell3
      go_wp2_with fail
      refine (ack_any ws p mb s.ib HP.out.2.2.1.box.box).mono ?_
      rintro e w4 ⟨rfl, hbl⟩
      have hc4 : Chg [] ws w4 := Chg.of_below hbl
      have hb4 := HP.out.1.chg hc4 (by simp)
      have hst4 := store_pkn hb4 s.ib.next
      have hb5 : Blk (w4.setCell ⟨pb, 4, none⟩ (.int .u16 s.ib.next)) pb 30 (PkS.cells { sayP s.self s.other 4 s.ep with num := s.ib.next }) := hb4.set_ 4 (.int .u16 s.ib.next)
      obtain ⟨w6, hst5, hb6, hc6⟩ := store_pkk hb5 (s.ib.mask : Nat)
      have hc7 : Chg [] W w6 := ((HP.out.2.2.2.1.trans hc4).setCell (.inr HP.out.2.2.2.2) _).then_ hc6 (fun x hx => by simp at hx; subst hx; exact .inr HP.out.2.2.2.2)
      have hl6 : (Instr.loadAt 30 (.pointer (some ⟨pb, 0, none⟩))).run Tryd.prog w6 = .ok (.agg (PkS.cells (ackP s))) w6 := load_pk hb6
      obtain ⟨w8, hst8, hb8, hc8⟩ := store_pk (p := ackP s) (H.out.2.1.chg hc7 (by simp)) rfl
      have HF := Lib.hid (And.intro hb8 ((H.out.2.2.1.trans hc7).then_ hc8 (fun x hx => by simp at hx; subst hx; exact .inr H.out.2.2.2)))
      clear hbl hc4 hb4 hb5 hb6 hc6 hc7 hb8 hc8 u3
      go_wp2_with (first | (refine wpList_storeR (by rfl) _ _ _ (by rfl) _ _ (by rfl) (by rfl) _ hst4 ?_) | (refine wpList_storeR (by rfl) _ _ _ (by rfl) _ _ (by rfl) (by rfl) _ hst5 ?_) | (refine wpList_loadW _ _ (by rfl) _ _ (by rfl) hl6 (by rfl) ?_) | (refine wpList_storeR (by rfl) _ _ _ (by rfl) _ _ (by rfl) (by rfl) _ hst8 ?_))
      have hlv := lvar_pk HF.out.1
      clear hst4 hst5 hl6 hst8
      go_wp2
      exact bodyPost_ret (results_cell_tmp Tryd.results12 _ _ _ _ _ (by rfl) hlv) rfl ⟨rfl, HF.out.2⟩
end
end Go.Proofs.YtmiijmiikpmcgaaDoor
end
section
/- Rows of packets: read, appended to. -/
set_option linter.unusedVariables false
set_option linter.unusedSimpArgs false
namespace Go.Proofs.YtmiijmiikpmcgaaDoor
open Go.RowKit
open Go.Proofs.YtmiijmiikpmcgaaDoor.Pk (Pkt)

/-- The cells of packets, one behind the other. -/
def flatP (l : List Pkt) : List Value := l.flatMap fun x => (PkS.cells x).toList
theorem flatP_len : ∀ l : List Pkt, (flatP l).length = l.length * 12
  | [] => rfl
  | x :: l => by
    have := flatP_len l
    unfold flatP at *
    rw [List.flatMap_cons, List.length_append, this]
    simp [PkS.cells]
    omega
theorem flatP_app (a b : List Pkt) : flatP (a ++ b) = flatP a ++ flatP b := by simp [flatP]
theorem flatP_drop : ∀ (k : Nat) (l : List Pkt), flatP (l.drop k) = (flatP l).drop (k * 12)
  | 0, l => by simp
  | k + 1, [] => by simp [flatP]
  | k + 1, x :: l => by
    rw [List.drop_succ_cons, flatP_drop k l]
    show _ = ((PkS.cells x).toList ++ flatP l).drop _
    rw [show (k + 1) * 12 = 12 + k * 12 from by omega, ← List.drop_drop]
    rfl
theorem flatP_at {l : List Pkt} {i : Nat} {x : Pkt} (h : l[i]? = some x) {t : Nat} {u : Value} (hu : (PkS.cells x)[t]? = some u) : (flatP l)[i * 12 + t]? = some u := by
  have ht : t < 12 := by
    have := (Array.getElem?_eq_some_iff.1 hu).1
    simpa [PkS.cells] using this
  have h1 : flatP (l.drop i) = (flatP l).drop (i * 12) := flatP_drop i l
  have h2 : (flatP (l.drop i))[t]? = some u := by
    have hi := (List.getElem?_eq_some_iff.1 h).1
    rw [List.drop_eq_getElem_cons hi]
    have e : l[i] = x := by
      rw [List.getElem?_eq_getElem hi] at h
      exact Option.some.inj h
    rw [e]
    show ((PkS.cells x).toList ++ _)[t]? = some u
    rw [List.getElem?_append_left (by simp [PkS.cells]; omega), Array.getElem?_toList]
    exact hu
  rw [h1, List.getElem?_drop] at h2
  exact h2
theorem flatP_one (l : List Pkt) : ∀ v ∈ flatP l, v.oneCell' = true := by
  intro v hv
  obtain ⟨x, _, hv⟩ := List.mem_flatMap.1 hv
  have := pkC_one x
  rw [Array.all_eq_true_iff_forall_mem] at this
  exact this v (Array.mem_toList_iff.1 hv)
/-- Packets that can be read: the slice's address, length and capacity. -/
structure PkAt (w : World) (A : Option Addr) (n c : Nat) (l : List Pkt) : Prop where
  len : n = l.length
  le : n ≤ c
  at_ : ∀ i x, l[i]? = some x → ∃ g off, A = some ⟨g, off, none⟩ ∧ ∀ t u, (PkS.cells x)[t]? = some u → w.cell? ⟨g, off + i * 12 + t, none⟩ = some u
theorem PkAt.chg {L : List Nat} {w w' : World} {A : Option Addr} {n c : Nat} {l : List Pkt} (h : PkAt w A n c l) (hc : Chg L w w') (hn : ∀ b ∈ sB A, b ∉ L) : PkAt w' A n c l :=
  ⟨h.len, h.le, fun i x hx => by
    obtain ⟨g, off, rfl, hg⟩ := h.at_ i x hx
    exact ⟨g, off, rfl, fun t u hu => hc.cell_some (hg t u hu) (hn g (by simp [sB]))⟩⟩
theorem PkAt.chg0 {w w' : World} {A : Option Addr} {n c : Nat} {l : List Pkt} (h : PkAt w A n c l) (hc : Chg [] w w') : PkAt w' A n c l := h.chg hc fun _ _ => by simp
theorem PkAt.load {w : World} {A : Option Addr} {n c : Nat} {l : List Pkt} (h : PkAt w A n c l) {i : Nat} {x : Pkt} (hx : l[i]? = some x) :
    ∃ g off, A = some ⟨g, off, none⟩ ∧ (Instr.loadAt 30 (.pointer (some ⟨g, off + i * 12, none⟩))).run Tryd.prog w = .ok (.agg (PkS.cells x)) w ∧ ∀ t u, (PkS.cells x)[t]? = some u → w.cell? ⟨g, off + i * 12 + t, none⟩ = some u := by
  obtain ⟨g, off, rfl, hg⟩ := h.at_ i x hx
  refine ⟨g, off, rfl, ?_, hg⟩
  have := run_loadAt_mid (P := Tryd.prog) w g (off + i * 12) 30 (PkS.cells x).toList _ (fun j v hv => hg j v (by rw [← Array.getElem?_toList]; exact hv)) Tryd.underlying30 rfl (by rw [Array.length_toList]; exact info_pk)
  rwa [Array.toArray_toList] at this
/-- Messages that can be read. -/
structure MsAt (w : World) (A : Option Addr) (n c : Nat) (l : List Msg) : Prop where
  len : n = l.length
  le : n ≤ c
  at_ : ∀ i x, l[i]? = some x → ∃ g off, A = some ⟨g, off, none⟩ ∧ ∀ t u, x.cells[t]? = some u → w.cell? ⟨g, off + i * 6 + t, none⟩ = some u
theorem MsAt.nil (w : World) : MsAt w none 0 0 [] := ⟨rfl, Nat.le_refl _, fun i x h => by simp at h⟩
theorem MsAt.chg {L : List Nat} {w w' : World} {A : Option Addr} {n c : Nat} {l : List Msg} (h : MsAt w A n c l) (hc : Chg L w w') (hn : ∀ b ∈ sB A, l = [] ∨ b ∉ L) : MsAt w' A n c l :=
  ⟨h.len, h.le, fun i x hx => by
    obtain ⟨g, off, rfl, hg⟩ := h.at_ i x hx
    exact ⟨g, off, rfl, fun t u hu => hc.cell_some (hg t u hu) ((hn g (by simp [sB])).resolve_left (fun e => by subst e; simp at hx))⟩⟩
theorem MsAt.lt {w : World} {A : Option Addr} {n c : Nat} {l : List Msg} (h : MsAt w A n c l) : ∀ b ∈ sB A, l = [] ∨ b < w.heap.size := fun b hb => by
  cases l with
  | nil => exact .inl rfl
  | cons x l =>
    obtain ⟨g, off, rfl, hg⟩ := h.at_ 0 x rfl
    have := World.block_lt_of_cell? w _ (hg 0 _ rfl)
    simp [sB] at hb
    subst hb
    exact .inr this
theorem MsAt.chg0 {w w' : World} {A : Option Addr} {n c : Nat} {l : List Msg} (h : MsAt w A n c l) (hc : Chg [] w w') : MsAt w' A n c l := h.chg hc fun _ _ => .inr (by simp)
theorem MsAt.load {w : World} {A : Option Addr} {n c : Nat} {l : List Msg} (h : MsAt w A n c l) {i : Nat} {x : Msg} (hx : l[i]? = some x) :
    ∃ g off, A = some ⟨g, off, none⟩ ∧ ∀ w', Chg [] w w' → (Instr.loadAt 28 (.pointer (some ⟨g, off + i * 6, none⟩))).run Tryd.prog w' = .ok (.agg x.cells) w' := by
  obtain ⟨g, off, rfl, hg⟩ := h.at_ i x hx
  refine ⟨g, off, rfl, fun w' hc => ?_⟩
  have := run_loadAt_mid (P := Tryd.prog) w' g (off + i * 6) 28 x.cells.toList _ (fun j v hv => hc.cell_some (hg j v (by rw [← Array.getElem?_toList]; exact hv)) (by simp)) Tryd.underlying28 rfl (by rw [Array.length_toList]; exact info_msg)
  rwa [Array.toArray_toList] at this
/-- Packets of the call's own. -/
structure PkOw (w : World) (base : Nat) (A : Option Addr) (n c : Nat) (l : List Pkt) : Prop where
  len : n = l.length
  own : OwnS w base 30 12 A n c (flatP l)
theorem PkOw.nil (w : World) (base : Nat) : PkOw w base none 0 0 [] := ⟨rfl, OwnS.nil _ _ _ _⟩
theorem PkOw.chg {L : List Nat} {w w' : World} {base : Nat} {A : Option Addr} {n c : Nat} {l : List Pkt} (h : PkOw w base A n c l) (hc : Chg L w w') (hn : ∀ b ∈ sB A, b ∉ L) : PkOw w' base A n c l := ⟨h.len, h.own.chg hc hn⟩
theorem PkOw.chg0 {w w' : World} {base : Nat} {A : Option Addr} {n c : Nat} {l : List Pkt} (h : PkOw w base A n c l) (hc : Chg [] w w') : PkOw w' base A n c l := ⟨h.len, h.own.chg0 hc⟩
theorem PkOw.at_ {w : World} {base : Nat} {A : Option Addr} {n c : Nat} {l : List Pkt} (h : PkOw w base A n c l) : PkAt w A n c l := by
  refine ⟨h.len, h.own.le, fun i x hx => ?_⟩
  have hi := (List.getElem?_eq_some_iff.1 hx).1
  rcases h.own.at_ with ⟨rfl, h0⟩ | ⟨g, off, cur, rfl, _⟩
  · have h1 := h.own.le
    have h2 := h.len
    omega
  · refine ⟨g, off, rfl, fun t u hu => ?_⟩
    have := h.own.reads _ _ (flatP_at hx hu)
    rw [add_none, ← Nat.add_assoc] at this
    exact this
theorem infoPk3 : (Tryd.prog.info? 30).map (fun i => (i.zero, i.size, i.bytes)) = some (some (pkV Pk.Pkt.zero), 12, 120) := by kernel_rfl
theorem info3P {α β γ δ : Type} {o : Option α} {f : α → β} {g : α → γ} {h : α → δ} {a : β} {b : γ} {c : δ} (e : o.map (fun i => (f i, g i, h i)) = some (a, b, c)) : ∃ i, o = some i ∧ f i = a ∧ g i = b ∧ h i = c := by
  cases o with
  | none => simp at e
  | some i => simp at e; exact ⟨i, rfl, e⟩
/-- A literal of one packet. -/
theorem PkOw.lit (w : World) (base : Nat) (hb : base ≤ w.heap.size) (x : Pkt) : PkOw (w.alloc (.cells (PkS.cells x) 30)) base (some ⟨w.heap.size, 0, none⟩) 1 1 [x] := by
  have h := OwnS.lit w base hb 30 12 1 (PkS.cells x).toList (by simp [PkS.cells]) (by decide)
  rw [Array.toArray_toList] at h
  exact ⟨rfl, by simpa [flatP] using h⟩
/-- An append of one packet that lies in a block of its own. -/
theorem PkOw.app {w : World} {base : Nat} {A : Option Addr} {n c : Nat} {l : List Pkt} (h : PkOw w base A n c l) (hb : base ≤ w.heap.size) (hl : n ≤ 1000000) (g : Nat) (x : Pkt) (hg : Blk w g 30 (PkS.cells x)) :
    ∃ A' c' w', AppR Tryd.prog 40 40 40 (.slice A n c) (.slice (some ⟨g, 0, none⟩) 1 1) w (.slice A' (n + 1) c') w' ∧ PkOw w' base A' (n + 1) c' (l ++ [x]) ∧ Chg (sB A) w w' ∧ (∀ b ∈ sB A', b ∈ sB A ∨ w.heap.size ≤ b) := by
  obtain ⟨i, hi, hz0, hz1, hz2⟩ := info3P infoPk3
  obtain ⟨A', c', w', h1, h2, h3, h4⟩ := h.own.append (P := Tryd.prog) 40 40 40 i _ 120 Tryd.underlying40 hi hz0 hz1 hz2 rfl _ 1 (PkS.cells x).toList (Src.ofSlice _ Tryd.underlying40 ⟨g, 0, none⟩ 1 1 _ (by simp [PkS.cells]) (fun j u hu => by
    rw [add_none, Nat.zero_add]
    have := hg.cell j
    rw [← Array.getElem?_toList] at this
    exact this.trans hu) (by have := flatP_one [x]; simpa [flatP] using this)) (by simp only [maxLen]; omega) (by omega) hb
  refine ⟨A', c', w', h1, ⟨by rw [List.length_append, ← h.len]; rfl, by rw [flatP_app]; simpa [flatP] using h2⟩, h3, ?_⟩
  intro b hb'
  rcases h4 with rfl | rfl
  · exact .inl hb'
  · simp [sB] at hb'; omega
theorem fill_pk (p : Pkt) : Instr.fill (fun i => some (i * 12, 12)) ((Array.range (1 * 12)).map ((pkV Pk.Pkt.zero).cells[· % (pkV Pk.Pkt.zero).cells.size]!)) [(0, .agg (PkS.cells p))] = some (PkS.cells p) := by kernel_rfl
/-- A slice literal of one packet. -/
theorem wpList_bsPk {ops : Array Oper} {rest : List Oper} {o : Oper} {b : Act} {w : World} {Q : Exit → Act → World → Prop} (hg : o.guard = none) (x : Operand) (ho : o.op = .buildSlice 40 1 #[(0, x)]) (p : Pkt) (hx : b.eval x = .agg (PkS.cells p))
    (h : wpList Tryd.prog ops Q rest (b.put o.dst (.slice (some ⟨w.heap.size, 0, none⟩) 1 1)) (w.alloc (.cells (PkS.cells p) 30))) : wpList Tryd.prog ops Q (o :: rest) b w := by
  obtain ⟨i, hi, hz0, hz1, hz2⟩ := info3P infoPk3
  refine wpList_buildSlice hg _ _ _ _ ho (PkS.cells p) i _ Tryd.underlying40 hi hz0 (by rw [hz1]; decide) (by rw [hz1]; decide) ?_ h
  rw [hz1]
  simp only [List.map_toArray, List.map_cons, List.map_nil, hx]
  exact fill_pk p
theorem step_bsPk {ops : Array Oper} {op : Oper} {a : Act} {w : World} {K : Act → World → Prop} {Q : Exit → Act → World → Prop} {E : Prop} (hgd : op.guard = none) (x : Operand) (ho : op.op = .buildSlice 40 1 #[(0, x)]) (p : Pkt) (hx : a.eval x = .agg (PkS.cells p))
    (h : K (a.put op.dst (.slice (some ⟨w.heap.size, 0, none⟩) 1 1)) (w.alloc (.cells (PkS.cells p) 30))) :
    if Region.wanted op (yielded ops a.tmps) = true then Oper.wp Tryd.prog op a w K Q else E := by
  have hw : Region.wanted op (yielded ops a.tmps) = true := by simp [Region.wanted, hgd]
  rw [if_pos hw]
  obtain ⟨i, hi, hz0, hz1, hz2⟩ := info3P infoPk3
  refine wp_buildSlice _ _ _ _ ho (PkS.cells p) i _ Tryd.underlying40 hi hz0 (by rw [hz1]; decide) (by rw [hz1]; decide) ?_ h
  rw [hz1]
  simp only [List.map_toArray, List.map_cons, List.map_nil, hx]
  exact fill_pk p
theorem infoMs3 : (Tryd.prog.info? 28).map (fun i => (i.zero, i.size, i.bytes)) = some (some (.agg Msg.zero.cells), 6, 72) := by kernel_rfl
theorem fill_ms (m : Msg) : Instr.fill (fun i => some (i * 6, 6)) ((Array.range (1 * 6)).map ((Value.agg Msg.zero.cells).cells[· % (Value.agg Msg.zero.cells).cells.size]!)) [(0, .agg m.cells)] = some m.cells := by kernel_rfl
/-- A slice literal of one message. -/
theorem wpList_bsMs {ops : Array Oper} {rest : List Oper} {o : Oper} {b : Act} {w : World} {Q : Exit → Act → World → Prop} (hg : o.guard = none) (x : Operand) (ho : o.op = .buildSlice 22 1 #[(0, x)]) (m : Msg) (hx : b.eval x = .agg m.cells)
    (h : wpList Tryd.prog ops Q rest (b.put o.dst (.slice (some ⟨w.heap.size, 0, none⟩) 1 1)) (w.alloc (.cells m.cells 28))) : wpList Tryd.prog ops Q (o :: rest) b w := by
  obtain ⟨i, hi, hz0, hz1, hz2⟩ := info3P infoMs3
  refine wpList_buildSlice hg _ _ _ _ ho m.cells i _ Tryd.underlying22 hi hz0 (by rw [hz1]; decide) (by rw [hz1]; decide) ?_ h
  rw [hz1]
  simp only [List.map_toArray, List.map_cons, List.map_nil, hx]
  exact fill_ms m
theorem MsAt.lit (w : World) (m : Msg) : MsAt (w.alloc (.cells m.cells 28)) (some ⟨w.heap.size, 0, none⟩) 1 1 [m] :=
  ⟨rfl, Nat.le_refl _, fun i x hx => by
    have hi : i = 0 := by
      have := (List.getElem?_eq_some_iff.1 hx).1
      simpa using this
    subst hi
    simp at hx
    subst hx
    refine ⟨w.heap.size, 0, rfl, fun t u hu => ?_⟩
    rw [Nat.zero_mul, Nat.zero_add, (Blk.new w 28 m.cells).cell]
    exact hu⟩
end Go.Proofs.YtmiijmiikpmcgaaDoor
end
