/- PacketApart: the law walked. -/
import Derived.Test.YtgnhpjakjoaejaaDoorPkLi
import Derived.Test.YtgnhpjakjoaejaaDoorPkOa
set_option linter.unusedVariables false
set_option linter.unusedSimpArgs false
namespace Go.Proofs.YtgnhpjakjoaejaaDoor.packetApart
open Go.RowKit Go.Proofs.YtgnhpjakjoaejaaDoor
open Go.Proofs.YtgnhpjakjoaejaaDoor.Pk (Pkt)
theorem bytes_iff {p q : Pkt} (hp : Pk.goodP p = true) (hq : Pk.goodP q = true) (fp : p.Fit) (fq : q.Fit) : (Pk.bytesP p == Pk.bytesP q) = Pk.sameP p q := by
  rw [Bool.eq_iff_iff, Pk.sameP_iff, beq_iff_eq]
  exact ⟨Pk.bytesP_inj hp hq fp fq, fun h => by rw [h]⟩
set_option maxRecDepth 100000 in
set_option maxHeartbeats 16000000 in
theorem walk (p : Pkt) (hp : PkWf p) (q : Pkt) (hq : PkWf q) (W : World) (hL : Laid W) : Calls Tryd.prog 6 #[pkV p, pkV q] W fun e w' => e = .returned (.bool true) ∧ Below W.heap.size W w' := by
  have HL := Lib.hid hL
  have HA := Lib.hid (And.intro hp hq)
  have H0 : Hid (Blk ((W.alloc (.cells (PkS.cells p) 29)).alloc (.cells (PkS.cells q) 29)) W.heap.size 29 (PkS.cells p) ∧ Blk ((W.alloc (.cells (PkS.cells p) 29)).alloc (.cells (PkS.cells q) 29)) (W.heap.size + 1) 29 (PkS.cells q) ∧ Chg [] W ((W.alloc (.cells (PkS.cells p) 29)).alloc (.cells (PkS.cells q) 29))) :=
    Lib.hid ⟨(Blk.new W _ _).alloc _, by have := Blk.new (W.alloc (.cells (PkS.cells p) 29)) 29 (PkS.cells q); rwa [World.size_alloc] at this, ((Chg.refl [] W).alloc _).alloc _⟩
  clear hL hp hq
  unfold pkV
  go_enter Tryd.func6, Tryd.ntmps6
  go_upto_region 1 with fail
  generalize (W.alloc (.cells (PkS.cells p) 29)).alloc (.cells (PkS.cells q) 29) = w0 at *
  have hl1 := load_pk H0.out.1
  go_wp2_with (refine wpList_loadW _ _ (by rfl) _ _ (by rfl) hl1 (by rfl) ?_)
  refine (great_any p HA.out.1 w0).mono ?_
  rintro e w1 ⟨rfl, hc⟩
  have H1 := Lib.hid (And.intro (H0.out.1.chg hc (by simp)) (And.intro (H0.out.2.1.chg hc (by simp)) (H0.out.2.2.trans hc)))
  clear hc
  clear hl1
  by_cases hg : 3000 < sumP p
  · rw [decide_eq_true hg]
    clear hg
    go_wp2_with fail
    refine (lives_any _ (HL.out.chg0 H1.out.2.2)).mono ?_
    rintro e wF ⟨rfl, hc⟩
    have HF := Lib.hid (And.intro (H1.out.1.chg hc (by simp)) (And.intro (H1.out.2.1.chg hc (by simp)) (H1.out.2.2.trans hc)))
    clear hc
    go_wp2
    go_ret
    exact ⟨rfl, HF.out.2.2.end_⟩
  rw [decide_eq_false hg]
  have hl2 := load_pk H1.out.2.1
  have HS1 := Lib.hid (HA.out.1.fit (by omega))
  clear hg
  go_wp2_with (refine wpList_loadW _ _ (by rfl) _ _ (by rfl) hl2 (by rfl) ?_)
  refine (great_any q HA.out.2 w1).mono ?_
  rintro e w2 ⟨rfl, hc⟩
  have H2 := Lib.hid (And.intro (H1.out.1.chg hc (by simp)) (And.intro (H1.out.2.1.chg hc (by simp)) (H1.out.2.2.trans hc)))
  clear hc
  clear hl2
  by_cases hg : 3000 < sumP q
  · rw [decide_eq_true hg]
    clear hg
    go_wp2_with fail
    refine (lives_any _ (HL.out.chg0 H2.out.2.2)).mono ?_
    rintro e wF ⟨rfl, hc⟩
    have HF := Lib.hid (And.intro (H2.out.1.chg hc (by simp)) (And.intro (H2.out.2.1.chg hc (by simp)) (H2.out.2.2.trans hc)))
    clear hc
    go_wp2
    go_ret
    exact ⟨rfl, HF.out.2.2.end_⟩
  rw [decide_eq_false hg]
  have HS := Lib.hid (And.intro HS1.out (HA.out.2.fit (by omega)))
  clear hg HS1
  obtain ⟨gp, hgp⟩ : ∃ b, Pk.goodP p = b := ⟨_, rfl⟩
  obtain ⟨gq, hgq⟩ : ∃ b, Pk.goodP q = b := ⟨_, rfl⟩
  have HGP := Lib.hid hgp
  have HGQ := Lib.hid hgq
  clear hgp hgq
  cases gp with
  | false =>
    go_upto_region 3 with fail
    refine wp_region_noPanic ?_
    refine wp_region_held_drew (S := fun w' => (Instr.loadAt 29 (.pointer (some ⟨W.heap.size, 0, none⟩))).run Tryd.prog w' = .ok (.agg (PkS.cells p)) w' ∧ (Instr.loadAt 29 (.pointer (some ⟨W.heap.size + 1, 0, none⟩))).run Tryd.prog w' = .ok (.agg (PkS.cells q)) w') (by kernel_rfl) ⟨load_pk (w := w2.drew) H2.out.1, load_pk (w := w2.drew) H2.out.2.1⟩ (fun hHeld => ?_)
    have HD := Lib.hid (And.intro (H2.out.1.drewN 1) (And.intro (H2.out.2.1.drewN 1) (H2.out.2.2.drew)))
    refine wpAnyH_take (i := 0) (oi := _) (v := _) rfl (by kernel_rfl) (by kernel_rfl) (by kernel_rfl) (fun _ _ _ h => h) (yields_load (by rfl) _ _ (by rfl) _ (by rfl) _ (fun w h => h.1)) (by assumption) ?_
    try simp only [List.getElem_toArray, List.getElem_cons_zero, List.getElem_cons_succ, Act.put, List.setIfInBounds_toArray, List.set_cons_zero, List.set_cons_succ]
    refine wpAnyH_ready (rs := [1]) (by kernel_rfl) (by simp) (AllReadyH.cons rfl (fun K hK => ?_) AllReadyH.nil)
    go_simp
    refine (pgood_any p HS.out.1.small _ (HL.out.2.chg0 HD.out.2.2)).mono ?_
    rintro e w3 ⟨rfl, hc⟩
    rw [HGP.out]
    have H3 := Lib.hid (And.intro (HD.out.1.chg hc (by simp)) (And.intro (HD.out.2.1.chg hc (by simp)) (HD.out.2.2.trans hc)))
    clear hc
    go_wp2_with fail
    refine hK.out _ _ ⟨load_pk H3.out.1, load_pk H3.out.2.1⟩ (fun hHeld => ?_)
    clear hK K
    try simp only [List.getElem_toArray, List.getElem_cons_zero, List.getElem_cons_succ, Act.put, List.setIfInBounds_toArray, List.set_cons_zero, List.set_cons_succ]
    refine wpAnyH_take (i := 2) (oi := _) (v := ?_) rfl (by kernel_rfl) (by kernel_rfl) (by kernel_rfl) (fun _ _ _ h => h) (Or.inl ⟨by rfl, ?_⟩) (by assumption) ?_
    rotate_left 1
    · intro w hSw
      try dsimp only at hSw
      go_simp
      try with_reducible rfl
    try simp only [List.getElem_toArray, List.getElem_cons_zero, List.getElem_cons_succ, Act.put, List.setIfInBounds_toArray, List.set_cons_zero, List.set_cons_succ]
    refine wpAnyH_take (i := 3) (oi := _) (v := undef) rfl (by kernel_rfl) (by kernel_rfl) (by kernel_rfl) (fun _ _ _ h => h) (Or.inr ⟨by rfl, rfl⟩) (by assumption) ?_
    try simp only [List.getElem_toArray, List.getElem_cons_zero, List.getElem_cons_succ, Act.put, List.setIfInBounds_toArray, List.set_cons_zero, List.set_cons_succ]
    refine wpAnyH_take (i := 4) (oi := _) (v := undef) rfl (by kernel_rfl) (by kernel_rfl) (by kernel_rfl) (fun _ _ _ h => h) (Or.inr ⟨by rfl, rfl⟩) (by assumption) ?_
    try simp only [List.getElem_toArray, List.getElem_cons_zero, List.getElem_cons_succ, Act.put, List.setIfInBounds_toArray, List.set_cons_zero, List.set_cons_succ]
    refine wpAnyH_take (i := 5) (oi := _) (v := ?_) rfl (by kernel_rfl) (by kernel_rfl) (by kernel_rfl) (fun _ _ _ h => h) (Or.inl ⟨by rfl, ?_⟩) (by assumption) ?_
    rotate_left 1
    · intro w hSw
      try dsimp only at hSw
      go_simp
      try with_reducible rfl
    try simp only [List.getElem_toArray, List.getElem_cons_zero, List.getElem_cons_succ, Act.put, List.setIfInBounds_toArray, List.set_cons_zero, List.set_cons_succ]
    refine wpAnyH_take (i := 6) (oi := _) (v := ?_) rfl (by kernel_rfl) (by kernel_rfl) (by kernel_rfl) (fun _ _ _ h => h) (Or.inl ⟨by rfl, ?_⟩) (by assumption) ?_
    rotate_left 1
    · intro w hSw
      try dsimp only at hSw
      go_simp
      try with_reducible rfl
    try simp only [List.getElem_toArray, List.getElem_cons_zero, List.getElem_cons_succ, Act.put, List.setIfInBounds_toArray, List.set_cons_zero, List.set_cons_succ]
    refine wpAnyH_take (i := 7) (oi := _) (v := undef) rfl (by kernel_rfl) (by kernel_rfl) (by kernel_rfl) (fun _ _ _ h => h) (Or.inr ⟨by rfl, rfl⟩) (by assumption) ?_
    try simp only [List.getElem_toArray, List.getElem_cons_zero, List.getElem_cons_succ, Act.put, List.setIfInBounds_toArray, List.set_cons_zero, List.set_cons_succ]
    refine wpAnyH_take (i := 8) (oi := _) (v := undef) rfl (by kernel_rfl) (by kernel_rfl) (by kernel_rfl) (fun _ _ _ h => h) (Or.inr ⟨by rfl, rfl⟩) (by assumption) ?_
    try simp only [List.getElem_toArray, List.getElem_cons_zero, List.getElem_cons_succ, Act.put, List.setIfInBounds_toArray, List.set_cons_zero, List.set_cons_succ]
    refine wpAnyH_take (i := 9) (oi := _) (v := undef) rfl (by kernel_rfl) (by kernel_rfl) (by kernel_rfl) (fun _ _ _ h => h) (Or.inr ⟨by rfl, rfl⟩) (by assumption) ?_
    try simp only [List.getElem_toArray, List.getElem_cons_zero, List.getElem_cons_succ, Act.put, List.setIfInBounds_toArray, List.set_cons_zero, List.set_cons_succ]
    refine wpAnyH_take (i := 10) (oi := _) (v := undef) rfl (by kernel_rfl) (by kernel_rfl) (by kernel_rfl) (fun _ _ _ h => h) (Or.inr ⟨by rfl, rfl⟩) (by assumption) ?_
    try simp only [List.getElem_toArray, List.getElem_cons_zero, List.getElem_cons_succ, Act.put, List.setIfInBounds_toArray, List.set_cons_zero, List.set_cons_succ]
    refine wpAnyH_take (i := 11) (oi := _) (v := undef) rfl (by kernel_rfl) (by kernel_rfl) (by kernel_rfl) (fun _ _ _ h => h) (Or.inr ⟨by rfl, rfl⟩) (by assumption) ?_
    try simp only [List.getElem_toArray, List.getElem_cons_zero, List.getElem_cons_succ, Act.put, List.setIfInBounds_toArray, List.set_cons_zero, List.set_cons_succ]
    refine wpAnyH_take (i := 12) (oi := _) (v := undef) rfl (by kernel_rfl) (by kernel_rfl) (by kernel_rfl) (fun _ _ _ h => h) (Or.inr ⟨by rfl, rfl⟩) (by assumption) ?_
    try simp only [List.getElem_toArray, List.getElem_cons_zero, List.getElem_cons_succ, Act.put, List.setIfInBounds_toArray, List.set_cons_zero, List.set_cons_succ]
    refine wpAnyH_take (i := 13) (oi := _) (v := undef) rfl (by kernel_rfl) (by kernel_rfl) (by kernel_rfl) (fun _ _ _ h => h) (Or.inr ⟨by rfl, rfl⟩) (by assumption) ?_
    try simp only [List.getElem_toArray, List.getElem_cons_zero, List.getElem_cons_succ, Act.put, List.setIfInBounds_toArray, List.set_cons_zero, List.set_cons_succ]
    refine wpAnyH_take (i := 14) (oi := _) (v := undef) rfl (by kernel_rfl) (by kernel_rfl) (by kernel_rfl) (fun _ _ _ h => h) (Or.inr ⟨by rfl, rfl⟩) (by assumption) ?_
    try simp only [List.getElem_toArray, List.getElem_cons_zero, List.getElem_cons_succ, Act.put, List.setIfInBounds_toArray, List.set_cons_zero, List.set_cons_succ]
    refine wpAnyH_take (i := 15) (oi := _) (v := undef) rfl (by kernel_rfl) (by kernel_rfl) (by kernel_rfl) (fun _ _ _ h => h) (Or.inr ⟨by rfl, rfl⟩) (by assumption) ?_
    try simp only [List.getElem_toArray, List.getElem_cons_zero, List.getElem_cons_succ, Act.put, List.setIfInBounds_toArray, List.set_cons_zero, List.set_cons_succ]
    refine wpAnyH_take (i := 16) (oi := _) (v := ?_) rfl (by kernel_rfl) (by kernel_rfl) (by kernel_rfl) (fun _ _ _ h => h) (Or.inl ⟨by rfl, ?_⟩) (by assumption) ?_
    rotate_left 1
    · intro w hSw
      try dsimp only at hSw
      go_simp
      try with_reducible rfl
    try simp only [List.getElem_toArray, List.getElem_cons_zero, List.getElem_cons_succ, Act.put, List.setIfInBounds_toArray, List.set_cons_zero, List.set_cons_succ]
    refine wpAnyH_done (by kernel_rfl) ?_ _
    refine NoPanic.normal ?_
    have hl1 := load_pk H3.out.1
    go_upto_region 5 with fail
    go_wp2_with (refine wpList_loadW _ _ (by rfl) _ _ (by rfl) hl1 (by rfl) ?_)
    refine (pgood_any p HS.out.1.small _ (HL.out.2.chg0 H3.out.2.2)).mono ?_
    rintro e wx ⟨rfl, hc⟩
    rw [HGP.out]
    have HX := Lib.hid (And.intro (H3.out.1.chg hc (by simp)) (And.intro (H3.out.2.1.chg hc (by simp)) (H3.out.2.2.trans hc)))
    clear hc
    clear hl1
    go_wp2_with fail
    refine (lives_any _ (HL.out.chg0 HX.out.2.2)).mono ?_
    rintro e wF ⟨rfl, hc⟩
    have HF := Lib.hid (And.intro (HX.out.1.chg hc (by simp)) (And.intro (HX.out.2.1.chg hc (by simp)) (HX.out.2.2.trans hc)))
    clear hc
    go_wp2
    go_ret
    exact ⟨rfl, HF.out.2.2.end_⟩
  | true =>
    go_upto_region 3 with fail
    refine wp_region_noPanic ?_
    refine wp_region_held_drew (S := fun w' => (Instr.loadAt 29 (.pointer (some ⟨W.heap.size, 0, none⟩))).run Tryd.prog w' = .ok (.agg (PkS.cells p)) w' ∧ (Instr.loadAt 29 (.pointer (some ⟨W.heap.size + 1, 0, none⟩))).run Tryd.prog w' = .ok (.agg (PkS.cells q)) w') (by kernel_rfl) ⟨load_pk (w := w2.drew) H2.out.1, load_pk (w := w2.drew) H2.out.2.1⟩ (fun hHeld => ?_)
    have HD := Lib.hid (And.intro (H2.out.1.drewN 1) (And.intro (H2.out.2.1.drewN 1) (H2.out.2.2.drew)))
    refine wpAnyH_take (i := 0) (oi := _) (v := _) rfl (by kernel_rfl) (by kernel_rfl) (by kernel_rfl) (fun _ _ _ h => h) (yields_load (by rfl) _ _ (by rfl) _ (by rfl) _ (fun w h => h.1)) (by assumption) ?_
    try simp only [List.getElem_toArray, List.getElem_cons_zero, List.getElem_cons_succ, Act.put, List.setIfInBounds_toArray, List.set_cons_zero, List.set_cons_succ]
    refine wpAnyH_ready (rs := [1]) (by kernel_rfl) (by simp) (AllReadyH.cons rfl (fun K hK => ?_) AllReadyH.nil)
    go_simp
    refine (pgood_any p HS.out.1.small _ (HL.out.2.chg0 HD.out.2.2)).mono ?_
    rintro e w3 ⟨rfl, hc⟩
    rw [HGP.out]
    have H3 := Lib.hid (And.intro (HD.out.1.chg hc (by simp)) (And.intro (HD.out.2.1.chg hc (by simp)) (HD.out.2.2.trans hc)))
    clear hc
    go_wp2_with fail
    refine hK.out _ _ ⟨load_pk H3.out.1, load_pk H3.out.2.1⟩ (fun hHeld => ?_)
    clear hK K
    try simp only [List.getElem_toArray, List.getElem_cons_zero, List.getElem_cons_succ, Act.put, List.setIfInBounds_toArray, List.set_cons_zero, List.set_cons_succ]
    refine wpAnyH_take (i := 2) (oi := _) (v := ?_) rfl (by kernel_rfl) (by kernel_rfl) (by kernel_rfl) (fun _ _ _ h => h) (Or.inl ⟨by rfl, ?_⟩) (by assumption) ?_
    rotate_left 1
    · intro w hSw
      try dsimp only at hSw
      go_simp
      try with_reducible rfl
    try simp only [List.getElem_toArray, List.getElem_cons_zero, List.getElem_cons_succ, Act.put, List.setIfInBounds_toArray, List.set_cons_zero, List.set_cons_succ]
    refine wpAnyH_take (i := 3) (oi := _) (v := _) rfl (by kernel_rfl) (by kernel_rfl) (by kernel_rfl) (fun _ _ _ h => h) (yields_load (by rfl) _ _ (by rfl) _ (by rfl) _ (fun w h => h.2)) (by assumption) ?_
    try simp only [List.getElem_toArray, List.getElem_cons_zero, List.getElem_cons_succ, Act.put, List.setIfInBounds_toArray, List.set_cons_zero, List.set_cons_succ]
    refine wpAnyH_ready (rs := [4]) (by kernel_rfl) (by simp) (AllReadyH.cons rfl (fun K hK => ?_) AllReadyH.nil)
    go_simp
    refine (pgood_any q HS.out.2.small _ (HL.out.2.chg0 H3.out.2.2)).mono ?_
    rintro e w4 ⟨rfl, hc⟩
    rw [HGQ.out]
    have H4 := Lib.hid (And.intro (H3.out.1.chg hc (by simp)) (And.intro (H3.out.2.1.chg hc (by simp)) (H3.out.2.2.trans hc)))
    clear hc
    go_wp2_with fail
    refine hK.out _ _ ⟨load_pk H4.out.1, load_pk H4.out.2.1⟩ (fun hHeld => ?_)
    clear hK K
    try simp only [List.getElem_toArray, List.getElem_cons_zero, List.getElem_cons_succ, Act.put, List.setIfInBounds_toArray, List.set_cons_zero, List.set_cons_succ]
    have hf := Pk.goodP_facts HGP.out
    have hkk : p.kind = 1 ∨ p.kind = 2 ∨ p.kind = 3 ∨ p.kind = 4 := by
      obtain ⟨k1, k2, _⟩ := hf
      omega
    have HKK := Lib.hid hkk
    clear hf hkk
    cases gq with
    | false =>
      refine wpAnyH_take (i := 5) (oi := _) (v := ?_) rfl (by kernel_rfl) (by kernel_rfl) (by kernel_rfl) (fun _ _ _ h => h) (Or.inl ⟨by rfl, ?_⟩) (by assumption) ?_
      rotate_left 1
      · intro w hSw
        try dsimp only at hSw
        go_simp
        try with_reducible rfl
      try simp only [List.getElem_toArray, List.getElem_cons_zero, List.getElem_cons_succ, Act.put, List.setIfInBounds_toArray, List.set_cons_zero, List.set_cons_succ]
      refine wpAnyH_take (i := 6) (oi := _) (v := ?_) rfl (by kernel_rfl) (by kernel_rfl) (by kernel_rfl) (fun _ _ _ h => h) (Or.inl ⟨by rfl, ?_⟩) (by assumption) ?_
      rotate_left 1
      · intro w hSw
        try dsimp only at hSw
        go_simp
        try with_reducible rfl
      try simp only [List.getElem_toArray, List.getElem_cons_zero, List.getElem_cons_succ, Act.put, List.setIfInBounds_toArray, List.set_cons_zero, List.set_cons_succ]
      refine wpAnyH_take (i := 7) (oi := _) (v := undef) rfl (by kernel_rfl) (by kernel_rfl) (by kernel_rfl) (fun _ _ _ h => h) (Or.inr ⟨by rfl, rfl⟩) (by assumption) ?_
      try simp only [List.getElem_toArray, List.getElem_cons_zero, List.getElem_cons_succ, Act.put, List.setIfInBounds_toArray, List.set_cons_zero, List.set_cons_succ]
      refine wpAnyH_take (i := 8) (oi := _) (v := undef) rfl (by kernel_rfl) (by kernel_rfl) (by kernel_rfl) (fun _ _ _ h => h) (Or.inr ⟨by rfl, rfl⟩) (by assumption) ?_
      try simp only [List.getElem_toArray, List.getElem_cons_zero, List.getElem_cons_succ, Act.put, List.setIfInBounds_toArray, List.set_cons_zero, List.set_cons_succ]
      refine wpAnyH_take (i := 9) (oi := _) (v := undef) rfl (by kernel_rfl) (by kernel_rfl) (by kernel_rfl) (fun _ _ _ h => h) (Or.inr ⟨by rfl, rfl⟩) (by assumption) ?_
      try simp only [List.getElem_toArray, List.getElem_cons_zero, List.getElem_cons_succ, Act.put, List.setIfInBounds_toArray, List.set_cons_zero, List.set_cons_succ]
      refine wpAnyH_take (i := 10) (oi := _) (v := undef) rfl (by kernel_rfl) (by kernel_rfl) (by kernel_rfl) (fun _ _ _ h => h) (Or.inr ⟨by rfl, rfl⟩) (by assumption) ?_
      try simp only [List.getElem_toArray, List.getElem_cons_zero, List.getElem_cons_succ, Act.put, List.setIfInBounds_toArray, List.set_cons_zero, List.set_cons_succ]
      refine wpAnyH_take (i := 11) (oi := _) (v := undef) rfl (by kernel_rfl) (by kernel_rfl) (by kernel_rfl) (fun _ _ _ h => h) (Or.inr ⟨by rfl, rfl⟩) (by assumption) ?_
      try simp only [List.getElem_toArray, List.getElem_cons_zero, List.getElem_cons_succ, Act.put, List.setIfInBounds_toArray, List.set_cons_zero, List.set_cons_succ]
      refine wpAnyH_take (i := 12) (oi := _) (v := undef) rfl (by kernel_rfl) (by kernel_rfl) (by kernel_rfl) (fun _ _ _ h => h) (Or.inr ⟨by rfl, rfl⟩) (by assumption) ?_
      try simp only [List.getElem_toArray, List.getElem_cons_zero, List.getElem_cons_succ, Act.put, List.setIfInBounds_toArray, List.set_cons_zero, List.set_cons_succ]
      refine wpAnyH_take (i := 13) (oi := _) (v := undef) rfl (by kernel_rfl) (by kernel_rfl) (by kernel_rfl) (fun _ _ _ h => h) (Or.inr ⟨by rfl, rfl⟩) (by assumption) ?_
      try simp only [List.getElem_toArray, List.getElem_cons_zero, List.getElem_cons_succ, Act.put, List.setIfInBounds_toArray, List.set_cons_zero, List.set_cons_succ]
      refine wpAnyH_take (i := 14) (oi := _) (v := undef) rfl (by kernel_rfl) (by kernel_rfl) (by kernel_rfl) (fun _ _ _ h => h) (Or.inr ⟨by rfl, rfl⟩) (by assumption) ?_
      try simp only [List.getElem_toArray, List.getElem_cons_zero, List.getElem_cons_succ, Act.put, List.setIfInBounds_toArray, List.set_cons_zero, List.set_cons_succ]
      refine wpAnyH_take (i := 15) (oi := _) (v := undef) rfl (by kernel_rfl) (by kernel_rfl) (by kernel_rfl) (fun _ _ _ h => h) (Or.inr ⟨by rfl, rfl⟩) (by assumption) ?_
      try simp only [List.getElem_toArray, List.getElem_cons_zero, List.getElem_cons_succ, Act.put, List.setIfInBounds_toArray, List.set_cons_zero, List.set_cons_succ]
      refine wpAnyH_take (i := 16) (oi := _) (v := ?_) rfl (by kernel_rfl) (by kernel_rfl) (by kernel_rfl) (fun _ _ _ h => h) (Or.inl ⟨by rfl, ?_⟩) (by assumption) ?_
      rotate_left 1
      · intro w hSw
        try dsimp only at hSw
        go_simp
        try with_reducible rfl
      try simp only [List.getElem_toArray, List.getElem_cons_zero, List.getElem_cons_succ, Act.put, List.setIfInBounds_toArray, List.set_cons_zero, List.set_cons_succ]
      refine wpAnyH_done (by kernel_rfl) ?_ _
      refine NoPanic.normal ?_
      have hl1 := load_pk H4.out.1
      go_upto_region 5 with fail
      go_wp2_with (refine wpList_loadW _ _ (by rfl) _ _ (by rfl) hl1 (by rfl) ?_)
      refine (pgood_any p HS.out.1.small _ (HL.out.2.chg0 H4.out.2.2)).mono ?_
      rintro e wx ⟨rfl, hc⟩
      rw [HGP.out]
      have HX := Lib.hid (And.intro (H4.out.1.chg hc (by simp)) (And.intro (H4.out.2.1.chg hc (by simp)) (H4.out.2.2.trans hc)))
      clear hc
      clear hl1
      have hl1 := load_pk HX.out.1
      go_wp2_with (refine wpList_loadW _ _ (by rfl) _ _ (by rfl) hl1 (by rfl) ?_)
      refine (kind_any p wx (HL.out.2.chg0 HX.out.2.2)).mono ?_
      rintro e wk ⟨rfl, hc⟩
      have HK := Lib.hid (And.intro (HX.out.1.chg hc (by simp)) (And.intro (HX.out.2.1.chg hc (by simp)) (HX.out.2.2.trans hc)))
      clear hc
      clear hl1
      rcases HKK.out with hk | hk | hk | hk
      all_goals
        rw [hk]
        clear hk
        unfold kindS
        go_wp2_with fail
        refine (lives_any _ (HL.out.chg0 HK.out.2.2)).mono ?_
        rintro e wF ⟨rfl, hc⟩
        have HF := Lib.hid (And.intro (HK.out.1.chg hc (by simp)) (And.intro (HK.out.2.1.chg hc (by simp)) (HK.out.2.2.trans hc)))
        clear hc
        go_wp2
        go_ret
        exact ⟨rfl, HF.out.2.2.end_⟩
    | true =>
      refine wpAnyH_take (i := 5) (oi := _) (v := ?_) rfl (by kernel_rfl) (by kernel_rfl) (by kernel_rfl) (fun _ _ _ h => h) (Or.inl ⟨by rfl, ?_⟩) (by assumption) ?_
      rotate_left 1
      · intro w hSw
        try dsimp only at hSw
        go_simp
        try with_reducible rfl
      try simp only [List.getElem_toArray, List.getElem_cons_zero, List.getElem_cons_succ, Act.put, List.setIfInBounds_toArray, List.set_cons_zero, List.set_cons_succ]
      refine wpAnyH_take (i := 6) (oi := _) (v := ?_) rfl (by kernel_rfl) (by kernel_rfl) (by kernel_rfl) (fun _ _ _ h => h) (Or.inl ⟨by rfl, ?_⟩) (by assumption) ?_
      rotate_left 1
      · intro w hSw
        try dsimp only at hSw
        go_simp
        try with_reducible rfl
      try simp only [List.getElem_toArray, List.getElem_cons_zero, List.getElem_cons_succ, Act.put, List.setIfInBounds_toArray, List.set_cons_zero, List.set_cons_succ]
      refine wpAnyH_take (i := 7) (oi := _) (v := _) rfl (by kernel_rfl) (by kernel_rfl) (by kernel_rfl) (fun _ _ _ h => h) (yields_load (by rfl) _ _ (by rfl) _ (by rfl) _ (fun w h => h.1)) (by assumption) ?_
      try simp only [List.getElem_toArray, List.getElem_cons_zero, List.getElem_cons_succ, Act.put, List.setIfInBounds_toArray, List.set_cons_zero, List.set_cons_succ]
      refine wpAnyH_take (i := 9) (oi := _) (v := _) rfl (by kernel_rfl) (by kernel_rfl) (by kernel_rfl) (fun _ _ _ h => h) (yields_load (by rfl) _ _ (by rfl) _ (by rfl) _ (fun w h => h.2)) (by assumption) ?_
      try simp only [List.getElem_toArray, List.getElem_cons_zero, List.getElem_cons_succ, Act.put, List.setIfInBounds_toArray, List.set_cons_zero, List.set_cons_succ]
      refine wpAnyH_take (i := 12) (oi := _) (v := _) rfl (by kernel_rfl) (by kernel_rfl) (by kernel_rfl) (fun _ _ _ h => h) (yields_load (by rfl) _ _ (by rfl) _ (by rfl) _ (fun w h => h.1)) (by assumption) ?_
      try simp only [List.getElem_toArray, List.getElem_cons_zero, List.getElem_cons_succ, Act.put, List.setIfInBounds_toArray, List.set_cons_zero, List.set_cons_succ]
      refine wpAnyH_take (i := 13) (oi := _) (v := _) rfl (by kernel_rfl) (by kernel_rfl) (by kernel_rfl) (fun _ _ _ h => h) (yields_load (by rfl) _ _ (by rfl) _ (by rfl) _ (fun w h => h.2)) (by assumption) ?_
      try simp only [List.getElem_toArray, List.getElem_cons_zero, List.getElem_cons_succ, Act.put, List.setIfInBounds_toArray, List.set_cons_zero, List.set_cons_succ]
      refine wpAnyH_take (i := 14) (oi := _) (v := _) rfl (by kernel_rfl) (by kernel_rfl) (by kernel_rfl) (fun _ _ _ h => h) (yields_eq (by rfl) _ _ _ _ _ (by rfl) _ _ _ (by rfl) (by rfl) (fun _ _ _ => eqGuard_agg (by kernel_rfl) _ _ _ _ _) (fun w => run_eql_pk p q w)) (by assumption) ?_
      try simp only [List.getElem_toArray, List.getElem_cons_zero, List.getElem_cons_succ, Act.put, List.setIfInBounds_toArray, List.set_cons_zero, List.set_cons_succ]
      refine wpAnyH_ready (rs := [8]) (by kernel_rfl) (by simp) (AllReadyH.cons rfl (fun K hK => ?_) AllReadyH.nil)
      go_simp
      refine (pbytes_any p HS.out.1 w4 (HL.out.1.chg0 H4.out.2.2) (HL.out.2.chg0 H4.out.2.2)).mono ?_
      rintro e w5 ⟨A5, n5, c5, rfl, ho5, hc⟩
      have HO5 := Lib.hid ho5
      clear ho5
      have H5 := Lib.hid (And.intro (H4.out.1.chg hc (by simp)) (And.intro (H4.out.2.1.chg hc (by simp)) (H4.out.2.2.trans hc)))
      clear hc
      go_wp2_with fail
      refine hK.out _ _ ⟨load_pk H5.out.1, load_pk H5.out.2.1⟩ (fun hHeld => ?_)
      clear hK K
      try simp only [List.getElem_toArray, List.getElem_cons_zero, List.getElem_cons_succ, Act.put, List.setIfInBounds_toArray, List.set_cons_zero, List.set_cons_succ]
      refine wpAnyH_ready (rs := [10]) (by kernel_rfl) (by simp) (AllReadyH.cons rfl (fun K hK => ?_) AllReadyH.nil)
      go_simp
      refine (pbytes_any q HS.out.2 w5 (HL.out.1.chg0 H5.out.2.2) (HL.out.2.chg0 H5.out.2.2)).mono ?_
      rintro e w6 ⟨A6, n6, c6, rfl, ho6, hc⟩
      have HO := Lib.hid (And.intro (HO5.out.chg0 hc).bt ho6.bt)
      clear ho6
      have H6 := Lib.hid (And.intro (H5.out.1.chg hc (by simp)) (And.intro (H5.out.2.1.chg hc (by simp)) (H5.out.2.2.trans hc)))
      clear hc
      go_wp2_with fail
      refine hK.out _ _ ⟨load_pk H6.out.1, load_pk H6.out.2.1⟩ (fun hHeld => ?_)
      clear hK K
      try simp only [List.getElem_toArray, List.getElem_cons_zero, List.getElem_cons_succ, Act.put, List.setIfInBounds_toArray, List.set_cons_zero, List.set_cons_succ]
      refine wpAnyH_ready (rs := [11]) (by kernel_rfl) (by simp) (AllReadyH.cons rfl (fun K hK => ?_) AllReadyH.nil)
      go_simp
      refine (same_any w6 _ _ _ _ _ _ _ _ HO.out.1 HO.out.2).mono ?_
      rintro e w7 ⟨rfl, rfl⟩
      rw [bytes_iff HGP.out HGQ.out HS.out.1.p HS.out.2.p]
      generalize Pk.sameP p q = sb
      go_wp2_with fail
      refine hK.out _ _ ⟨load_pk H6.out.1, load_pk H6.out.2.1⟩ (fun hHeld => ?_)
      clear hK K
      try simp only [List.getElem_toArray, List.getElem_cons_zero, List.getElem_cons_succ, Act.put, List.setIfInBounds_toArray, List.set_cons_zero, List.set_cons_succ]
      refine wpAnyH_take (i := 15) (oi := _) (v := ?_) rfl (by kernel_rfl) (by kernel_rfl) (by kernel_rfl) (fun _ _ _ h => h) (Or.inl ⟨by rfl, ?_⟩) (by assumption) ?_
      rotate_left 1
      · intro w hSw
        try dsimp only at hSw
        go_simp
        try with_reducible rfl
      try simp only [List.getElem_toArray, List.getElem_cons_zero, List.getElem_cons_succ, Act.put, List.setIfInBounds_toArray, List.set_cons_zero, List.set_cons_succ]
      refine wpAnyH_take (i := 16) (oi := _) (v := ?_) rfl (by kernel_rfl) (by kernel_rfl) (by kernel_rfl) (fun _ _ _ h => h) (Or.inl ⟨by rfl, ?_⟩) (by assumption) ?_
      rotate_left 1
      · intro w hSw
        try dsimp only at hSw
        go_simp
        try with_reducible rfl
      try simp only [List.getElem_toArray, List.getElem_cons_zero, List.getElem_cons_succ, Act.put, List.setIfInBounds_toArray, List.set_cons_zero, List.set_cons_succ]
      refine wpAnyH_done (by kernel_rfl) ?_ _
      refine NoPanic.normal ?_
      have hl1 := load_pk H6.out.1
      go_upto_region 5 with fail
      go_wp2_with (refine wpList_loadW _ _ (by rfl) _ _ (by rfl) hl1 (by rfl) ?_)
      refine (pgood_any p HS.out.1.small _ (HL.out.2.chg0 H6.out.2.2)).mono ?_
      rintro e wx ⟨rfl, hc⟩
      rw [HGP.out]
      have HX := Lib.hid (And.intro (H6.out.1.chg hc (by simp)) (And.intro (H6.out.2.1.chg hc (by simp)) (H6.out.2.2.trans hc)))
      clear hc
      clear hl1
      have hl1 := load_pk HX.out.1
      go_wp2_with (refine wpList_loadW _ _ (by rfl) _ _ (by rfl) hl1 (by rfl) ?_)
      refine (kind_any p wx (HL.out.2.chg0 HX.out.2.2)).mono ?_
      rintro e wk ⟨rfl, hc⟩
      have HK := Lib.hid (And.intro (HX.out.1.chg hc (by simp)) (And.intro (HX.out.2.1.chg hc (by simp)) (HX.out.2.2.trans hc)))
      clear hc
      clear hl1
      rcases HKK.out with hk | hk | hk | hk
      all_goals
        rw [hk]
        clear hk
        unfold kindS
        go_wp2_with fail
        refine (lives_any _ (HL.out.chg0 HK.out.2.2)).mono ?_
        rintro e wF ⟨rfl, hc⟩
        have HF := Lib.hid (And.intro (HK.out.1.chg hc (by simp)) (And.intro (HK.out.2.1.chg hc (by simp)) (HK.out.2.2.trans hc)))
        clear hc
        go_wp2
        go_ret
        exact ⟨rfl, HF.out.2.2.end_⟩
end Go.Proofs.YtgnhpjakjoaejaaDoor.packetApart
