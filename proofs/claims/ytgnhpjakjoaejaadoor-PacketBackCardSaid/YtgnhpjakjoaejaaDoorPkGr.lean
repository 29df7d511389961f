/- staithref19.Good. -/
import Derived.Test.YtgnhpjakjoaejaaDoorPkGd
set_option linter.unusedVariables false
set_option linter.unusedSimpArgs false
namespace Go.Proofs.YtgnhpjakjoaejaaDoor
open Go.RowKit
open Go.Proofs.YtgnhpjakjoaejaaDoor.Pk (Pkt)

theorem goodP_in {p : Pkt} (h1 : Pk.siteP p.fr = true) (h2 : Pk.siteP p.dst = true) (h3 : ¬ p.fr = p.dst) {k : Int} (hk : p.kind = k) (h1k : 1 ≤ k) (h4k : k ≤ 4) :
    Pk.goodP p = (((decide (k = 2) || decide (0 < p.ep)) && (!decide (k = 3) || Ac.goodM p.m)) && Pk.sameP p p.part) := by
  rw [goodP_at hk h1k h4k, h1, h2, decide_eq_false h3, Bool.not_false, Bool.true_and, Bool.true_and, Bool.true_and]
theorem goodP_s1 {p : Pkt} (h : Pk.siteP p.fr = false) : Pk.goodP p = false := by
  rw [goodP_may, h, Bool.false_and, Bool.and_false]
theorem goodP_s2 {p : Pkt} (h : Pk.siteP p.dst = false) : Pk.goodP p = false := by
  rw [goodP_may, h, Bool.false_and, Bool.and_false, Bool.and_false]
theorem goodP_ne {p : Pkt} (h : p.fr = p.dst) : Pk.goodP p = false := by
  rw [goodP_may, decide_eq_true h, Bool.not_true, Bool.false_and, Bool.and_false, Bool.and_false, Bool.and_false]
set_option maxRecDepth 100000 in
set_option maxHeartbeats 16000000 in
theorem rgood_any (p : Pkt) (hs : p.m.Small) (w : World) : Calls Tryd.prog 10 #[pkV p] w fun e w' => e = .returned (.bool (Pk.goodP p)) ∧ Chg [] w w' := by
  have hc := (Chg.refl [] w).alloc (.cells (PkS.cells p) 29)
  have H := Lib.hid (And.intro (Blk.new w 29 (PkS.cells p)) hc)
  have HS := Lib.hid hs
  clear hc hs
  unfold pkV
  go_enter Tryd.func10, Tryd.ntmps10
  go_upto_region 1 with fail
  generalize w.alloc (.cells (PkS.cells p) 29) = W at *
  have c0 : W.cell? ⟨w.heap.size, 0, none⟩ = some (.int .i64 p.kind) := H.out.1.cell 0
  have c1 : W.cell? ⟨w.heap.size, 1, none⟩ = some (.int .i64 p.fr) := H.out.1.cell 1
  have c2 : W.cell? ⟨w.heap.size, 2, none⟩ = some (.int .i64 p.dst) := H.out.1.cell 2
  have c3 : W.cell? ⟨w.heap.size, 3, none⟩ = some (.int .u64 p.ep) := H.out.1.cell 3
  go_wp2_with fail
  refine (rsite_any p.fr W).mono ?_
  rintro e w5 ⟨rfl, rfl⟩
  obtain ⟨s1, hs1⟩ : ∃ b, b = Pk.siteP p.fr := ⟨_, rfl⟩
  rw [← hs1]
  have HS1 := Lib.hid hs1.symm
  clear hs1
  cases s1 with
  | false =>
    go_wp2_with fail
    go_ret
    exact ⟨by rw [goodP_s1 HS1.out]; rfl, H.out.2⟩
  | true =>
  go_wp2_with fail
  refine (rsite_any p.dst W).mono ?_
  rintro e w5 ⟨rfl, rfl⟩
  obtain ⟨s2, hs2⟩ : ∃ b, b = Pk.siteP p.dst := ⟨_, rfl⟩
  rw [← hs2]
  have HS2 := Lib.hid hs2.symm
  clear hs2
  cases s2 with
  | false =>
    go_wp2_with fail
    go_ret
    exact ⟨by rw [goodP_s2 HS2.out]; rfl, H.out.2⟩
  | true =>
  by_cases hne : p.fr = p.dst
  · have HG := Lib.hid (goodP_ne hne)
    have t1 : (p.fr == p.dst) = true := by rw [hne]; simp
    clear hne
    go_wp2_with fail
    go_ret
    exact ⟨by rw [HG.out]; rfl, H.out.2⟩
  have t1 : (p.fr == p.dst) = false := by simpa using hne
  have HGI := Lib.hid (fun k hk h1 h4 => goodP_in HS1.out HS2.out hne (k := k) hk h1 h4)
  clear hne
  go_upto_region 4 with fail
  have hzb : w.heap.size < W.heap.size := H.out.1.lt
  have H1 : Hid (AtP w W.heap.size (W.alloc (.cells (PkS.cells p.bare) 29)) p p.bare) := Lib.hid ⟨H.out.1.alloc _, Blk.new W _ _, H.out.2.alloc _, hzb⟩
  clear c0 c1 c2 c3 t1
  change Code.wp _ _ _ _ (W.alloc (.cells (PkS.cells p.bare) 29))
  generalize W.alloc (.cells (PkS.cells p.bare) 29) = w0 at *
  generalize W.heap.size = zb at *
  have hzne : w.heap.size ≠ zb := by omega
  have c0 : w0.cell? ⟨w.heap.size, 0, none⟩ = some (.int .i64 p.kind) := H1.out.a.cell 0
  have hkk : p.kind = 1 ∨ p.kind = 2 ∨ p.kind = 3 ∨ p.kind = 4 ∨ (p.kind < 1 ∨ 4 < p.kind) := by omega
  rcases hkk with hk | hk | hk | hk | hk
  · have HG15 := Lib.hid (show Pk.goodP p = (Pk.sameP p p.bare && decide (0 < p.ep)) by
      rw [HGI.out 1 hk (by omega) (by omega), show p.part = p.bare from by unfold Pk.Pkt.part; rw [if_neg (by omega), if_neg (by omega)]]
      generalize decide (0 < p.ep) = x
      generalize Pk.sameP p p.bare = y
      cases x <;> cases y <;> rfl)
    rw [hk] at c0
    clear hk
    go_upto_region 15 with fail
    have ce : w0.cell? ⟨w.heap.size, 3, none⟩ = some (.int .u64 p.ep) := H1.out.a.cell 3
    have hl1 := load_pk H1.out.a
    have hl2 := load_pk H1.out.z
    have heq := run_eql_pk p p.bare w0
    generalize Pk.sameP p p.bare = sb at *
    cases sb with
    | false =>
      go_wp2_with (first | (refine wpList_loadW _ _ (by rfl) _ _ (by rfl) hl1 (by rfl) ?_) | (refine wpList_loadW _ _ (by rfl) _ _ (by rfl) hl2 (by rfl) ?_) | (refine wpList_eqW _ _ _ _ _ (by rfl) _ _ _ (by rfl) (by rfl) (fun _ _ => eqGuard_agg (by kernel_rfl) _ _ _ _ _) heq (by rfl) ?_))
      go_ret
      exact ⟨by rw [HG15.out]; rfl, H1.out.c⟩
    | true =>
      go_wp2_with (first | (refine wpList_loadW _ _ (by rfl) _ _ (by rfl) hl1 (by rfl) ?_) | (refine wpList_loadW _ _ (by rfl) _ _ (by rfl) hl2 (by rfl) ?_) | (refine wpList_eqW _ _ _ _ _ (by rfl) _ _ _ (by rfl) (by rfl) (fun _ _ => eqGuard_agg (by kernel_rfl) _ _ _ _ _) heq (by rfl) ?_))
      go_ret
      exact ⟨by rw [HG15.out]; rfl, H1.out.c⟩
  · have HG := Lib.hid (show Pk.goodP p = Pk.sameP p p.bare by
      rw [HGI.out 2 hk (by omega) (by omega), show p.part = p.bare from by unfold Pk.Pkt.part; rw [if_neg (by omega), if_neg (by omega)]]
      rfl)
    rw [hk] at c0
    clear hk
    have hl1 := load_pk H1.out.a
    have hl2 := load_pk H1.out.z
    have heq := run_eql_pk p p.bare w0
    go_wp2_with (first | (refine wpList_loadW _ _ (by rfl) _ _ (by rfl) hl1 (by rfl) ?_) | (refine wpList_loadW _ _ (by rfl) _ _ (by rfl) hl2 (by rfl) ?_) | (refine wpList_eqW _ _ _ _ _ (by rfl) _ _ _ (by rfl) (by rfl) (fun _ _ => eqGuard_agg (by kernel_rfl) _ _ _ _ _) heq (by rfl) ?_))
    go_ret
    exact ⟨by rw [HG.out]; rfl, H1.out.c⟩
  · have HGM := Lib.hid (show Pk.goodP p = (Ac.goodM p.m && (Pk.sameP p { p.bare with num := p.num, m := p.m } && decide (0 < p.ep))) by
      rw [HGI.out 3 hk (by omega) (by omega), show p.part = { p.bare with num := p.num, m := p.m } from by unfold Pk.Pkt.part; rw [if_pos hk]]
      generalize decide (0 < p.ep) = x
      generalize Pk.sameP p { p.bare with num := p.num, m := p.m } = y
      generalize Ac.goodM p.m = z
      cases x <;> cases y <;> cases z <;> rfl)
    rw [hk] at c0
    clear hk
    go_upto_region 10 with fail
    go_cut [] (fun wx => AtP w zb wx p { p.bare with num := p.num, m := p.m })
    case first =>
      refine wp_region_noPanic ?_
      refine wp_region_held_drew (S := fun w' => (Instr.loadAt 23 (.pointer (some ⟨w.heap.size, 4, none⟩))).run Tryd.prog w' = .ok (.int .u16 p.num) w' ∧ (Instr.loadAt 27 (.pointer (some ⟨w.heap.size, 6, none⟩))).run Tryd.prog w' = .ok (.agg p.m.cells) w') (by kernel_rfl) ⟨load_pkn (w := w0.drew) H1.out.a, load_pkm (w := w0.drew) H1.out.a⟩ (fun hHeld => ?_)
      have HD := Lib.hid (H1.out.to (wy := w0.drew) ((Chg.refl [] _).drew))
      refine wpAnyH_take (i := 0) (oi := _) (v := ?_) rfl (by kernel_rfl) (by kernel_rfl) (by kernel_rfl) (fun _ _ _ h => h) (Or.inl ⟨by rfl, ?_⟩) (by assumption) ?_
      rotate_left 1
      · intro w hSw
        try dsimp only at hSw
        go_simp
        try with_reducible rfl
      try simp only [List.getElem_toArray, List.getElem_cons_zero, List.getElem_cons_succ, Act.put, List.setIfInBounds_toArray, List.set_cons_zero, List.set_cons_succ]
      refine wpAnyH_take (i := 1) (oi := _) (v := _) rfl (by kernel_rfl) (by kernel_rfl) (by kernel_rfl) (fun _ _ _ h => h) (yields_load (by rfl) _ _ (by rfl) _ (by rfl) _ (fun w h => h.1)) (by assumption) ?_
      try simp only [List.getElem_toArray, List.getElem_cons_zero, List.getElem_cons_succ, Act.put, List.setIfInBounds_toArray, List.set_cons_zero, List.set_cons_succ]
      refine wpAnyH_take (i := 2) (oi := _) (v := ?_) rfl (by kernel_rfl) (by kernel_rfl) (by kernel_rfl) (fun _ _ _ h => h) (Or.inl ⟨by rfl, ?_⟩) (by assumption) ?_
      rotate_left 1
      · intro w hSw
        try dsimp only at hSw
        go_simp
        try with_reducible rfl
      try simp only [List.getElem_toArray, List.getElem_cons_zero, List.getElem_cons_succ, Act.put, List.setIfInBounds_toArray, List.set_cons_zero, List.set_cons_succ]
      refine wpAnyH_take (i := 3) (oi := _) (v := _) rfl (by kernel_rfl) (by kernel_rfl) (by kernel_rfl) (fun _ _ _ h => h) (yields_load (by rfl) _ _ (by rfl) _ (by rfl) _ (fun w h => h.2)) (by assumption) ?_
      try simp only [List.getElem_toArray, List.getElem_cons_zero, List.getElem_cons_succ, Act.put, List.setIfInBounds_toArray, List.set_cons_zero, List.set_cons_succ]
      refine wpAnyH_take (i := 4) (oi := _) (v := ?_) rfl (by kernel_rfl) (by kernel_rfl) (by kernel_rfl) (fun _ _ _ h => h) (Or.inl ⟨by rfl, ?_⟩) (by assumption) ?_
      rotate_left 1
      · intro w hSw
        try dsimp only at hSw
        go_simp
        try with_reducible rfl
      try simp only [List.getElem_toArray, List.getElem_cons_zero, List.getElem_cons_succ, Act.put, List.setIfInBounds_toArray, List.set_cons_zero, List.set_cons_succ]
      refine wpAnyH_ready (rs := [5]) (by kernel_rfl) (by simp) (AllReadyH.cons rfl (fun K hK => ?_) AllReadyH.nil)
      refine step_store rfl _ _ _ (by rfl) _ _ (by rfl) (by rfl) _ (store_pkn HD.out.z p.num) ?_
      have HE1 := Lib.hid (HD.out.setZ (z' := { p.bare with num := p.num }) (set_chg _ zb 4 (.int .u16 p.num)) (HD.out.z.set_ 4 (.int .u16 p.num)))
      refine hK.out _ _ ⟨load_pkn HE1.out.a, load_pkm HE1.out.a⟩ (fun hHeld => ?_)
      clear hK K
      try simp only [List.getElem_toArray, List.getElem_cons_zero, List.getElem_cons_succ, Act.put, List.setIfInBounds_toArray, List.set_cons_zero, List.set_cons_succ]
      refine wpAnyH_take (i := 6) (oi := _) (v := ?_) rfl (by kernel_rfl) (by kernel_rfl) (by kernel_rfl) (fun _ _ _ h => h) (Or.inl ⟨by rfl, ?_⟩) (by assumption) ?_
      rotate_left 1
      · intro w hSw
        try dsimp only at hSw
        go_simp
        try with_reducible rfl
      try simp only [List.getElem_toArray, List.getElem_cons_zero, List.getElem_cons_succ, Act.put, List.setIfInBounds_toArray, List.set_cons_zero, List.set_cons_succ]
      obtain ⟨w9, hst, hb9, hc9⟩ := store_pkm HE1.out.z p.m
      have HE2 := Lib.hid (HE1.out.setZ hc9 hb9)
      clear hb9 hc9
      refine wpAnyH_ready (rs := [7]) (by kernel_rfl) (by simp) (AllReadyH.cons rfl (fun K hK => ?_) AllReadyH.nil)
      refine step_store rfl _ _ _ (by rfl) _ _ (by rfl) (by rfl) _ hst ?_
      refine hK.out _ _ ⟨load_pkn HE2.out.a, load_pkm HE2.out.a⟩ (fun hHeld => ?_)
      clear hK K
      try simp only [List.getElem_toArray, List.getElem_cons_zero, List.getElem_cons_succ, Act.put, List.setIfInBounds_toArray, List.set_cons_zero, List.set_cons_succ]
      refine wpAnyH_done (by kernel_rfl) ?_ _
      refine NoPanic.normal ?_
      go_wp2_with fail
      go_meet
      exact HE2.out
    case rest =>
      have H2 := Lib.hid hcut
      clear hcut
      have hlm := load_pkm H2.out.a
      go_wp2_with (refine wpList_loadW _ _ (by rfl) _ _ (by rfl) hlm (by rfl) ?_)
      refine (rgoodm_any p.m HS.out _).mono ?_
      rintro e w3 ⟨rfl, hc⟩
      have H3 := Lib.hid (H2.out.to hc)
      clear hlm hc
      obtain ⟨gm, hgm⟩ : ∃ b, b = Ac.goodM p.m := ⟨_, rfl⟩
      rw [← hgm]
      have HG0 := Lib.hid (show Pk.goodP p = (gm && (Pk.sameP p { p.bare with num := p.num, m := p.m } && decide (0 < p.ep))) by rw [HGM.out, hgm])
      clear hgm
      cases gm with
      | false =>
        go_wp2_with fail
        try rw [Exit.noGoto_ret]
        go_ret
        exact ⟨by rw [HG0.out]; rfl, H3.out.c⟩
      | true =>
        have HG15 := Lib.hid (show Pk.goodP p = (Pk.sameP p { p.bare with num := p.num, m := p.m } && decide (0 < p.ep)) by rw [HG0.out]; rfl)
        go_upto_region 15 with fail
        have ce : w3.cell? ⟨w.heap.size, 3, none⟩ = some (.int .u64 p.ep) := H3.out.a.cell 3
        have hl1 := load_pk H3.out.a
        have hl2 := load_pk H3.out.z
        have heq := run_eql_pk p { p.bare with num := p.num, m := p.m } w3
        generalize Pk.sameP p { p.bare with num := p.num, m := p.m } = sb at *
        cases sb with
        | false =>
          go_wp2_with (first | (refine wpList_loadW _ _ (by rfl) _ _ (by rfl) hl1 (by rfl) ?_) | (refine wpList_loadW _ _ (by rfl) _ _ (by rfl) hl2 (by rfl) ?_) | (refine wpList_eqW _ _ _ _ _ (by rfl) _ _ _ (by rfl) (by rfl) (fun _ _ => eqGuard_agg (by kernel_rfl) _ _ _ _ _) heq (by rfl) ?_))
          go_ret
          exact ⟨by rw [HG15.out]; rfl, H3.out.c⟩
        | true =>
          go_wp2_with (first | (refine wpList_loadW _ _ (by rfl) _ _ (by rfl) hl1 (by rfl) ?_) | (refine wpList_loadW _ _ (by rfl) _ _ (by rfl) hl2 (by rfl) ?_) | (refine wpList_eqW _ _ _ _ _ (by rfl) _ _ _ (by rfl) (by rfl) (fun _ _ => eqGuard_agg (by kernel_rfl) _ _ _ _ _) heq (by rfl) ?_))
          go_ret
          exact ⟨by rw [HG15.out]; rfl, H3.out.c⟩
  · have HG15 := Lib.hid (show Pk.goodP p = (Pk.sameP p { p.bare with num := p.num, mask := p.mask } && decide (0 < p.ep)) by
      rw [HGI.out 4 hk (by omega) (by omega), show p.part = { p.bare with num := p.num, mask := p.mask } from by unfold Pk.Pkt.part; rw [if_neg (by omega), if_pos hk]]
      generalize decide (0 < p.ep) = x
      generalize Pk.sameP p { p.bare with num := p.num, mask := p.mask } = y
      cases x <;> cases y <;> rfl)
    rw [hk] at c0
    clear hk
    go_upto_region 14 with fail
    refine wp_region_noPanic ?_
    refine wp_region_held_drew (S := fun w' => (Instr.loadAt 23 (.pointer (some ⟨w.heap.size, 4, none⟩))).run Tryd.prog w' = .ok (.int .u16 p.num) w' ∧ (Instr.loadAt 22 (.pointer (some ⟨w.heap.size, 5, none⟩))).run Tryd.prog w' = .ok (.int .u64 p.mask) w') (by kernel_rfl) ⟨load_pkn (w := w0.drew) H1.out.a, load_pkk (w := w0.drew) H1.out.a⟩ (fun hHeld => ?_)
    have HD := Lib.hid (H1.out.to (wy := w0.drew) ((Chg.refl [] _).drew))
    refine wpAnyH_take (i := 0) (oi := _) (v := ?_) rfl (by kernel_rfl) (by kernel_rfl) (by kernel_rfl) (fun _ _ _ h => h) (Or.inl ⟨by rfl, ?_⟩) (by assumption) ?_
    rotate_left 1
    · intro w hSw
      try dsimp only at hSw
      go_simp
      try with_reducible rfl
    try simp only [List.getElem_toArray, List.getElem_cons_zero, List.getElem_cons_succ, Act.put, List.setIfInBounds_toArray, List.set_cons_zero, List.set_cons_succ]
    refine wpAnyH_take (i := 1) (oi := _) (v := _) rfl (by kernel_rfl) (by kernel_rfl) (by kernel_rfl) (fun _ _ _ h => h) (yields_load (by rfl) _ _ (by rfl) _ (by rfl) _ (fun w h => h.1)) (by assumption) ?_
    try simp only [List.getElem_toArray, List.getElem_cons_zero, List.getElem_cons_succ, Act.put, List.setIfInBounds_toArray, List.set_cons_zero, List.set_cons_succ]
    refine wpAnyH_take (i := 2) (oi := _) (v := ?_) rfl (by kernel_rfl) (by kernel_rfl) (by kernel_rfl) (fun _ _ _ h => h) (Or.inl ⟨by rfl, ?_⟩) (by assumption) ?_
    rotate_left 1
    · intro w hSw
      try dsimp only at hSw
      go_simp
      try with_reducible rfl
    try simp only [List.getElem_toArray, List.getElem_cons_zero, List.getElem_cons_succ, Act.put, List.setIfInBounds_toArray, List.set_cons_zero, List.set_cons_succ]
    refine wpAnyH_take (i := 3) (oi := _) (v := _) rfl (by kernel_rfl) (by kernel_rfl) (by kernel_rfl) (fun _ _ _ h => h) (yields_load (by rfl) _ _ (by rfl) _ (by rfl) _ (fun w h => h.2)) (by assumption) ?_
    try simp only [List.getElem_toArray, List.getElem_cons_zero, List.getElem_cons_succ, Act.put, List.setIfInBounds_toArray, List.set_cons_zero, List.set_cons_succ]
    refine wpAnyH_take (i := 4) (oi := _) (v := ?_) rfl (by kernel_rfl) (by kernel_rfl) (by kernel_rfl) (fun _ _ _ h => h) (Or.inl ⟨by rfl, ?_⟩) (by assumption) ?_
    rotate_left 1
    · intro w hSw
      try dsimp only at hSw
      go_simp
      try with_reducible rfl
    try simp only [List.getElem_toArray, List.getElem_cons_zero, List.getElem_cons_succ, Act.put, List.setIfInBounds_toArray, List.set_cons_zero, List.set_cons_succ]
    refine wpAnyH_ready (rs := [5]) (by kernel_rfl) (by simp) (AllReadyH.cons rfl (fun K hK => ?_) AllReadyH.nil)
    refine step_store rfl _ _ _ (by rfl) _ _ (by rfl) (by rfl) _ (store_pkn HD.out.z p.num) ?_
    have HE1 := Lib.hid (HD.out.setZ (z' := { p.bare with num := p.num }) (set_chg _ zb 4 (.int .u16 p.num)) (HD.out.z.set_ 4 (.int .u16 p.num)))
    refine hK.out _ _ ⟨load_pkn HE1.out.a, load_pkk HE1.out.a⟩ (fun hHeld => ?_)
    clear hK K
    try simp only [List.getElem_toArray, List.getElem_cons_zero, List.getElem_cons_succ, Act.put, List.setIfInBounds_toArray, List.set_cons_zero, List.set_cons_succ]
    refine wpAnyH_take (i := 6) (oi := _) (v := ?_) rfl (by kernel_rfl) (by kernel_rfl) (by kernel_rfl) (fun _ _ _ h => h) (Or.inl ⟨by rfl, ?_⟩) (by assumption) ?_
    rotate_left 1
    · intro w hSw
      try dsimp only at hSw
      go_simp
      try with_reducible rfl
    try simp only [List.getElem_toArray, List.getElem_cons_zero, List.getElem_cons_succ, Act.put, List.setIfInBounds_toArray, List.set_cons_zero, List.set_cons_succ]
    obtain ⟨w9, hst, hb9, hc9⟩ := store_pkk HE1.out.z p.mask
    have H2 : Hid (AtP w zb w9 p { p.bare with num := p.num, mask := p.mask }) := Lib.hid (HE1.out.setZ hc9 hb9)
    clear hb9 hc9
    refine wpAnyH_ready (rs := [7]) (by kernel_rfl) (by simp) (AllReadyH.cons rfl (fun K hK => ?_) AllReadyH.nil)
    refine step_store rfl _ _ _ (by rfl) _ _ (by rfl) (by rfl) _ hst ?_
    refine hK.out _ _ ⟨load_pkn H2.out.a, load_pkk H2.out.a⟩ (fun hHeld => ?_)
    clear hK K
    try simp only [List.getElem_toArray, List.getElem_cons_zero, List.getElem_cons_succ, Act.put, List.setIfInBounds_toArray, List.set_cons_zero, List.set_cons_succ]
    refine wpAnyH_done (by kernel_rfl) ?_ _
    refine NoPanic.normal ?_
    clear hst
    go_upto_region 15 with fail
    have ce : w9.cell? ⟨w.heap.size, 3, none⟩ = some (.int .u64 p.ep) := H2.out.a.cell 3
    have hl1 := load_pk H2.out.a
    have hl2 := load_pk H2.out.z
    have heq := run_eql_pk p { p.bare with num := p.num, mask := p.mask } w9
    generalize Pk.sameP p { p.bare with num := p.num, mask := p.mask } = sb at *
    cases sb with
    | false =>
      go_wp2_with (first | (refine wpList_loadW _ _ (by rfl) _ _ (by rfl) hl1 (by rfl) ?_) | (refine wpList_loadW _ _ (by rfl) _ _ (by rfl) hl2 (by rfl) ?_) | (refine wpList_eqW _ _ _ _ _ (by rfl) _ _ _ (by rfl) (by rfl) (fun _ _ => eqGuard_agg (by kernel_rfl) _ _ _ _ _) heq (by rfl) ?_))
      go_ret
      exact ⟨by rw [HG15.out]; rfl, H2.out.c⟩
    | true =>
      go_wp2_with (first | (refine wpList_loadW _ _ (by rfl) _ _ (by rfl) hl1 (by rfl) ?_) | (refine wpList_loadW _ _ (by rfl) _ _ (by rfl) hl2 (by rfl) ?_) | (refine wpList_eqW _ _ _ _ _ (by rfl) _ _ _ (by rfl) (by rfl) (fun _ _ => eqGuard_agg (by kernel_rfl) _ _ _ _ _) heq (by rfl) ?_))
      go_ret
      exact ⟨by rw [HG15.out]; rfl, H2.out.c⟩
  · have HG := Lib.hid (goodP_far hk)
    have k1 : (p.kind == 1) = false := by simp; omega
    have k2 : (p.kind == 2) = false := by simp; omega
    have k3 : (p.kind == 3) = false := by simp; omega
    have k4 : (p.kind == 4) = false := by simp; omega
    clear hk
    go_wp2_with fail
    go_ret
    exact ⟨by rw [HG.out]; rfl, H1.out.c⟩
end Go.Proofs.YtgnhpjakjoaejaaDoor
