/- Texts joined: LkEp. -/
import Derived.Test.YtmiijmiikpmcgaaDoorRLinkEpochsM13
section
/- LinkEpochs: the law walked. -/
set_option linter.unusedVariables false
set_option linter.unusedSimpArgs false
namespace Go.Proofs.YtmiijmiikpmcgaaDoor
open Go.RowKit Go.ChangeShapes Go.WideShapes
open Go.Proofs.YtmiijmiikpmcgaaDoor.Pk (Pkt)

def endC (a b : Int) (x : Set4) (ep : Int) : Array Value := #[.int .i64 a, .int .i64 b, .int .i64 x.win, .int .i64 x.time, .int .i64 x.seg, .int .i64 x.keep, .int .u64 ep]
theorem LAct.ok.chg0 {w w' : World} {y : LAct} (h : y.ok w) (hc : Chg [] w w') : y.ok w' := ⟨h.ms.chg0 hc, h.len, h.wf, h.p⟩
theorem infoS4 : (Tryd.prog.info? 59).map (·.size) = some 4 := by kernel_rfl
theorem ends_held {w : World} {g : Nat} {a b ep : Int} {x : Set4} (h : Blk w g 64 (endC a b x ep)) : w.cell? ⟨g, 0, none⟩ = some (.int .i64 a) ∧ w.cell? ⟨g, 1, none⟩ = some (.int .i64 b) ∧ w.cell? ⟨g, 6, none⟩ = some (.int .u64 ep) ∧ (Instr.loadAt 59 (.pointer (some ⟨g, 2, none⟩))).run Tryd.prog w = .ok (.agg x.cells) w := by
  refine ⟨h.cell 0, h.cell 1, h.cell 6, ?_⟩
  have := run_loadAt_mid (P := Tryd.prog) w g 2 59 x.cells.toList _ (fun j v hv => by
    rw [h.cell, Nat.add_comm]
    have hj := (List.getElem?_eq_some_iff.1 hv).1
    have hj4 : j < 4 := by simpa [Set4.cells] using hj
    have : j = 0 ∨ j = 1 ∨ j = 2 ∨ j = 3 := by omega
    rcases this with rfl | rfl | rfl | rfl <;> exact hv) Tryd.underlying59 rfl (by rw [Array.length_toList]; exact infoS4)
  rwa [Array.toArray_toList] at this
theorem newin_q (a b : Int) (x : Set4) (w : World) : Calls Tryd.prog 17 #[.int .i64 a, .int .i64 b, .agg x.cells] w fun e w' => ∃ q, e = .returned (.pointer q) ∧ Chg [] w w' := by
  cases h : mayB a b x with
  | true => exact (newin_yes w a b x w (Chg.refl _ _) h).mono fun _ _ ⟨ib, _, _, he, _, hc⟩ => ⟨_, he, hc⟩
  | false => exact (newin_no a b x w h).mono fun _ _ ⟨he, hc⟩ => ⟨_, he, hc⟩
end Go.Proofs.YtmiijmiikpmcgaaDoor
namespace Go.Proofs.YtmiijmiikpmcgaaDoor.linkEpochs
open Go.RowKit Go.Proofs.YtmiijmiikpmcgaaDoor
open Go.Proofs.YtmiijmiikpmcgaaDoor.Pk (Pkt)
set_option maxRecDepth 100000 in
set_option maxHeartbeats 16000000 in
theorem walk (a b : Int) (x : Set4) (ep : Int) (hep : 0 ≤ ep ∧ ep < 18446744073709551616) (A : Option Addr) (n c : Nat) (ys : List LAct) (hn : n ≤ 9223372036854775807) (hsm : ∀ y ∈ ys, y.p.m.Small) (W : World) (hA : LaAt W A n c ys) (hok : ∀ y ∈ ys, y.ok W) (hL : LaidL W) :
    Calls Tryd.prog 4 #[.agg (endC a b x ep), .slice A n c] W fun e w' => e = .returned (.bool true) ∧ Below W.heap.size W w' := by
  have HL := Lib.hid hL
  have HA := Lib.hid (And.intro hA (And.intro hok (And.intro hsm hn)))
  have HE := Lib.hid hep
  have H0 := Lib.hid (And.intro (Blk.new W 64 (endC a b x ep)) ((Chg.refl [] W).alloc (.cells (endC a b x ep) 64)))
  clear hL hA hok hsm hn hep
  by_cases hy : mayB a b x = true ∧ ¬ ep = 0
  · have HY := Lib.hid hy
    clear hy
    go_enter Tryd.func4, Tryd.ntmps4
    go_upto_region 1 with fail
    change Code.wp _ _ _ _ (W.alloc (.cells (endC a b x ep) 64))
    generalize W.alloc (.cells (endC a b x ep) 64) = W1 at *
    go_cut [5, 6] (fun s5 s6 wx => ∃ ob op ib ip im, s5 = .pointer (some ⟨ob, 0, none⟩) ∧ s6 = .pointer (some ⟨ib, 0, none⟩) ∧ Hid (Both W wx ob op ib ip im (OS.new a b x ep) (IS.new a b x) ∧ Blk wx W.heap.size 64 (endC a b x ep)))
    case first =>
      as_aux_lemma =>
      refine wp_region_noPanic ?_
      refine wp_region_held_drew (S := fun w' => w'.cell? ⟨W.heap.size, 0, none⟩ = some (.int .i64 a) ∧ w'.cell? ⟨W.heap.size, 1, none⟩ = some (.int .i64 b) ∧ w'.cell? ⟨W.heap.size, 6, none⟩ = some (.int .u64 ep) ∧ (Instr.loadAt 59 (.pointer (some ⟨W.heap.size, 2, none⟩))).run Tryd.prog w' = .ok (.agg x.cells) w') (by kernel_rfl) (ends_held (w := W1.drew) H0.out.1) (fun hHeld => ?_)
      have HD := Lib.hid (And.intro (show Blk W1.drew W.heap.size 64 (endC a b x ep) from H0.out.1) (H0.out.2.drew))
      clear H0
      generalize W1.drew = w1 at *
      refine wpAnyH_take (i := 0) (oi := _) (v := ?_) rfl (by kernel_rfl) (by kernel_rfl) (by kernel_rfl) (fun _ _ _ h => h) (Or.inl ⟨by rfl, ?_⟩) (by assumption) ?_
      rotate_left 1
      · intro w hSw
        try dsimp only at hSw
        go_simp
        try with_reducible rfl
      try simp only [List.getElem_toArray, List.getElem_cons_zero, List.getElem_cons_succ, Act.put, List.setIfInBounds_toArray, List.set_cons_zero, List.set_cons_succ]
      refine wpAnyH_take (i := 1) (oi := _) (v := ?_) rfl (by kernel_rfl) (by kernel_rfl) (by kernel_rfl) (fun _ _ _ h => h) (Or.inl ⟨by rfl, ?_⟩) (by assumption) ?_
      rotate_left 1
      · intro w hSw
        try dsimp only at hSw
        go_simp
        try with_reducible rfl
      try simp only [List.getElem_toArray, List.getElem_cons_zero, List.getElem_cons_succ, Act.put, List.setIfInBounds_toArray, List.set_cons_zero, List.set_cons_succ]
      refine wpAnyH_take (i := 2) (oi := _) (v := ?_) rfl (by kernel_rfl) (by kernel_rfl) (by kernel_rfl) (fun _ _ _ h => h) (Or.inl ⟨by rfl, ?_⟩) (by assumption) ?_
      rotate_left 1
      · intro w hSw
        try dsimp only at hSw
        go_simp
        try with_reducible rfl
      try simp only [List.getElem_toArray, List.getElem_cons_zero, List.getElem_cons_succ, Act.put, List.setIfInBounds_toArray, List.set_cons_zero, List.set_cons_succ]
      refine wpAnyH_take (i := 3) (oi := _) (v := ?_) rfl (by kernel_rfl) (by kernel_rfl) (by kernel_rfl) (fun _ _ _ h => h) (Or.inl ⟨by rfl, ?_⟩) (by assumption) ?_
      rotate_left 1
      · intro w hSw
        try dsimp only at hSw
        go_simp
        try with_reducible rfl
      try simp only [List.getElem_toArray, List.getElem_cons_zero, List.getElem_cons_succ, Act.put, List.setIfInBounds_toArray, List.set_cons_zero, List.set_cons_succ]
      refine wpAnyH_take (i := 4) (oi := _) (v := ?_) rfl (by kernel_rfl) (by kernel_rfl) (by kernel_rfl) (fun _ _ _ h => h) (Or.inl ⟨by rfl, ?_⟩) (by assumption) ?_
      rotate_left 1
      · intro w hSw
        try dsimp only at hSw
        go_simp
        try with_reducible rfl
      try simp only [List.getElem_toArray, List.getElem_cons_zero, List.getElem_cons_succ, Act.put, List.setIfInBounds_toArray, List.set_cons_zero, List.set_cons_succ]
      refine wpAnyH_take (i := 5) (oi := _) (v := _) rfl (by kernel_rfl) (by kernel_rfl) (by kernel_rfl) (fun _ _ _ h => h) (yields_load (by rfl) _ _ (by rfl) _ (by rfl) _ (fun w h => h.2.2.2)) (by assumption) ?_
      try simp only [List.getElem_toArray, List.getElem_cons_zero, List.getElem_cons_succ, Act.put, List.setIfInBounds_toArray, List.set_cons_zero, List.set_cons_succ]
      refine wpAnyH_take (i := 6) (oi := _) (v := ?_) rfl (by kernel_rfl) (by kernel_rfl) (by kernel_rfl) (fun _ _ _ h => h) (Or.inl ⟨by rfl, ?_⟩) (by assumption) ?_
      rotate_left 1
      · intro w hSw
        try dsimp only at hSw
        go_simp
        try with_reducible rfl
      try simp only [List.getElem_toArray, List.getElem_cons_zero, List.getElem_cons_succ, Act.put, List.setIfInBounds_toArray, List.set_cons_zero, List.set_cons_succ]
      refine wpAnyH_take (i := 7) (oi := _) (v := ?_) rfl (by kernel_rfl) (by kernel_rfl) (by kernel_rfl) (fun _ _ _ h => h) (Or.inl ⟨by rfl, ?_⟩) (by assumption) ?_
      rotate_left 1
      · intro w hSw
        try dsimp only at hSw
        go_simp
        try with_reducible rfl
      try simp only [List.getElem_toArray, List.getElem_cons_zero, List.getElem_cons_succ, Act.put, List.setIfInBounds_toArray, List.set_cons_zero, List.set_cons_succ]
      refine wpAnyH_take (i := 9) (oi := _) (v := ?_) rfl (by kernel_rfl) (by kernel_rfl) (by kernel_rfl) (fun _ _ _ h => h) (Or.inl ⟨by rfl, ?_⟩) (by assumption) ?_
      rotate_left 1
      · intro w hSw
        try dsimp only at hSw
        go_simp
        try with_reducible rfl
      try simp only [List.getElem_toArray, List.getElem_cons_zero, List.getElem_cons_succ, Act.put, List.setIfInBounds_toArray, List.set_cons_zero, List.set_cons_succ]
      refine wpAnyH_take (i := 10) (oi := _) (v := ?_) rfl (by kernel_rfl) (by kernel_rfl) (by kernel_rfl) (fun _ _ _ h => h) (Or.inl ⟨by rfl, ?_⟩) (by assumption) ?_
      rotate_left 1
      · intro w hSw
        try dsimp only at hSw
        go_simp
        try with_reducible rfl
      try simp only [List.getElem_toArray, List.getElem_cons_zero, List.getElem_cons_succ, Act.put, List.setIfInBounds_toArray, List.set_cons_zero, List.set_cons_succ]
      refine wpAnyH_take (i := 11) (oi := _) (v := ?_) rfl (by kernel_rfl) (by kernel_rfl) (by kernel_rfl) (fun _ _ _ h => h) (Or.inl ⟨by rfl, ?_⟩) (by assumption) ?_
      rotate_left 1
      · intro w hSw
        try dsimp only at hSw
        go_simp
        try with_reducible rfl
      try simp only [List.getElem_toArray, List.getElem_cons_zero, List.getElem_cons_succ, Act.put, List.setIfInBounds_toArray, List.set_cons_zero, List.set_cons_succ]
      refine wpAnyH_take (i := 12) (oi := _) (v := ?_) rfl (by kernel_rfl) (by kernel_rfl) (by kernel_rfl) (fun _ _ _ h => h) (Or.inl ⟨by rfl, ?_⟩) (by assumption) ?_
      rotate_left 1
      · intro w hSw
        try dsimp only at hSw
        go_simp
        try with_reducible rfl
      try simp only [List.getElem_toArray, List.getElem_cons_zero, List.getElem_cons_succ, Act.put, List.setIfInBounds_toArray, List.set_cons_zero, List.set_cons_succ]
      refine wpAnyH_take (i := 13) (oi := _) (v := ?_) rfl (by kernel_rfl) (by kernel_rfl) (by kernel_rfl) (fun _ _ _ h => h) (Or.inl ⟨by rfl, ?_⟩) (by assumption) ?_
      rotate_left 1
      · intro w hSw
        try dsimp only at hSw
        go_simp
        try with_reducible rfl
      try simp only [List.getElem_toArray, List.getElem_cons_zero, List.getElem_cons_succ, Act.put, List.setIfInBounds_toArray, List.set_cons_zero, List.set_cons_succ]
      refine wpAnyH_take (i := 14) (oi := _) (v := _) rfl (by kernel_rfl) (by kernel_rfl) (by kernel_rfl) (fun _ _ _ h => h) (yields_load (by rfl) _ _ (by rfl) _ (by rfl) _ (fun w h => h.2.2.2)) (by assumption) ?_
      try simp only [List.getElem_toArray, List.getElem_cons_zero, List.getElem_cons_succ, Act.put, List.setIfInBounds_toArray, List.set_cons_zero, List.set_cons_succ]
      refine wpAnyH_ready (rs := [8]) (by kernel_rfl) (by simp) (AllReadyH.cons rfl (fun K hK => ?_) AllReadyH.nil)
      go_simp
      refine (newout_yes W a b x ep w1 HD.out.2 HY.out.1 HY.out.2).mono ?_
      rintro e w2 ⟨ob, op, rfl, ho, hc⟩
      have H2 := Lib.hid (And.intro ho (HD.out.1.chg hc (by simp)))
      clear ho hc HD
      go_wp2_with fail
      refine hK.out _ _ (ends_held H2.out.2) (fun hHeld => ?_)
      clear hK K
      try simp only [List.getElem_toArray, List.getElem_cons_zero, List.getElem_cons_succ, Act.put, List.setIfInBounds_toArray, List.set_cons_zero, List.set_cons_succ]
      refine wpAnyH_ready (rs := [15]) (by kernel_rfl) (by simp) (AllReadyH.cons rfl (fun K hK => ?_) AllReadyH.nil)
      go_simp
      refine (newin_yes W a b x w2 H2.out.1.chg HY.out.1).mono ?_
      rintro e w3 ⟨ib, ip, im, rfl, hi, hc⟩
      have H3 := Lib.hid (And.intro (Both.mk (H2.out.1.to hc) hi) (H2.out.2.chg hc (by simp)))
      clear hi hc H2
      go_wp2_with fail
      refine hK.out _ _ (ends_held H3.out.2) (fun hHeld => ?_)
      clear hK K
      try simp only [List.getElem_toArray, List.getElem_cons_zero, List.getElem_cons_succ, Act.put, List.setIfInBounds_toArray, List.set_cons_zero, List.set_cons_succ]
      refine wpAnyH_take (i := 16) (oi := _) (v := ?_) rfl (by kernel_rfl) (by kernel_rfl) (by kernel_rfl) (fun _ _ _ h => h) (Or.inl ⟨by rfl, ?_⟩) (by assumption) ?_
      rotate_left 1
      · intro w hSw
        try dsimp only at hSw
        go_simp
        try with_reducible rfl
      try simp only [List.getElem_toArray, List.getElem_cons_zero, List.getElem_cons_succ, Act.put, List.setIfInBounds_toArray, List.set_cons_zero, List.set_cons_succ]
      refine wpAnyH_take (i := 17) (oi := _) (v := ?_) rfl (by kernel_rfl) (by kernel_rfl) (by kernel_rfl) (fun _ _ _ h => h) (Or.inl ⟨by rfl, ?_⟩) (by assumption) ?_
      rotate_left 1
      · intro w hSw
        try dsimp only at hSw
        go_simp
        try with_reducible rfl
      try simp only [List.getElem_toArray, List.getElem_cons_zero, List.getElem_cons_succ, Act.put, List.setIfInBounds_toArray, List.set_cons_zero, List.set_cons_succ]
      refine wpAnyH_done (by kernel_rfl) ?_ _
      refine NoPanic.normal ?_
      go_wp2_with fail
      go_meet
      exact ⟨ob, op, ib, ip, im, rfl, rfl, H3⟩
    case rest =>
      obtain ⟨ob, op, ib, ip, im, rfl, rfl, H1⟩ := hcut
      have HLt := Lib.hid (light_any wc A n c ys (HA.out.1.chg0 H1.out.1.chg) (fun y hy => (HA.out.2.1 y hy).chg0 H1.out.1.chg) HA.out.2.2.2)
      go_wp2_with fail
      refine HLt.out.mono ?_
      rintro e w2 ⟨bl, rfl, hbl, hc⟩
      clear HLt
      have H2 := Lib.hid (And.intro (H1.out.1.to hc) (H1.out.2.chg hc (by simp)))
      clear hc H1
      cases bl with
      | false =>
        have hn0 : 0 < n := by
          rcases Nat.eq_zero_or_pos n with h | h
          · have := hbl h
            simp at this
          · exact h
        clear hbl
        go_wp2_with fail
        refine (lives_any _ (HL.out.chg0 H2.out.1.chg)).mono ?_
        rintro e wF ⟨rfl, hc⟩
        have HF := Lib.hid ((H2.out.1.chg).trans hc)
        clear hc
        go_wp2
        go_ret
        exact ⟨rfl, HF.out.below (Nat.le_refl _) (by simp)⟩
      | true =>
        clear hbl
        have hn := HA.out.2.2.2
        go_wp2_with fail
        go_loopw [62] (fun s62 wr => ∃ (k : Nat) (o : OS) (i : IS), k ≤ n ∧ s62 = .int .i64 k ∧ Hid (Both W wr ob op ib ip im o i ∧ Blk wr W.heap.size 64 (endC a b x ep) ∧ o.Inv a b x.win.toNat ∧ i.Inv a b)) (fun s62 _ => n - (intOf s62).toNat)
        case atStart => exact ⟨0, _, _, Nat.zero_le _, rfl, Lib.hid ⟨H2.out.1, H2.out.2, OS.Inv.new HY.out.1 HE.out.1 HE.out.2, IS.Inv.new HY.out.1⟩⟩
        case round =>
          obtain ⟨k, o, i, hk, rfl, hr⟩ := hrel
          by_cases hlt : k < n
          · obtain ⟨y, hy⟩ : ∃ y, ys[k]? = some y := ⟨_, List.getElem?_eq_getElem (by have := HA.out.1.len; omega)⟩
            obtain ⟨g, off, rfl, hl1⟩ := (HA.out.1.chg0 hr.out.1.chg).load hy
            have hym := List.mem_of_getElem? hy
            have HYY := Lib.hid (And.intro (HA.out.2.1 y hym) (HA.out.2.2.1 y hym))
            clear hy hym
            have i1 : (0 : Int) ≤ (k : Int) := by omega
            have i2 : (k : Int) < (n : Int) := by omega
            obtain ⟨w1, hst, hb, hc⟩ := new_la wr y
            have H3 := Lib.hid (And.intro (hr.out.1.to hc) (And.intro (hr.out.2.1.chg hc (by simp)) (And.intro hb hr.out.2.2)))
            clear hb hc
            go_upto_region 7 with (first | (refine wpList_loadW _ _ (by rfl) _ _ (by rfl) hl1 (by rfl) ?_) | (refine wpList_storeR (by rfl) _ _ _ (by rfl) _ _ (by rfl) (by rfl) _ hst ?_))
            clear hl1 hst i1 i2 hr
            generalize wr.heap.size = yb at *
            go_wp2_with fail
            refine (epoch_out H3.out.1.o).mono ?_
            rintro e w4 ⟨rfl, rfl⟩
            go_wp2_with fail
            refine (epoch_in H3.out.1.i).mono ?_
            rintro e w4 ⟨rfl, rfl⟩
            go_wp2_with fail
            refine (up_out H3.out.1.o).mono ?_
            rintro e w4 ⟨rfl, rfl⟩
            obtain ⟨ub, hub⟩ : ∃ u, o.up = u := ⟨_, rfl⟩
            rw [hub]
            have HUB := Lib.hid hub
            clear hub
            obtain ⟨wo, rfl⟩ : ∃ wo : World, wo = wr := ⟨_, rfl⟩
            have d0 : w1.cell? ⟨yb, 0, none⟩ = some (.int .i64 y.kind) := H3.out.2.2.1.cell 0
            by_cases k0 : y.kind = 0
            · rw [k0] at d0
              clear k0
              as_aux_lemma =>
              have d1 : w1.cell? ⟨yb, 1, none⟩ = some (.int .i64 y.now) := H3.out.2.2.1.cell 1
              have d2 : w1.cell? ⟨yb, 2, none⟩ = some (.slice y.A y.ms.length y.c) := H3.out.2.2.1.cell 2
              have hml : y.ms.length ≤ 9223372036854775807 := by have := HYY.out.1.len; omega
              have HT := Lib.hid (tick_out H3.out.1.o y.now H3.out.2.2.2.1.hello.1 H3.out.2.2.2.1.hello.2 y.A y.ms.length y.c y.ms (HYY.out.1.ms.chg0 H3.out.1.chg) (fun xx hx => (HYY.out.1.ms.lt xx hx).imp id (fun h => by have h1 := H3.out.1.o.own; have h2 := H3.out.1.o.win.own; omega)) hml)
              have HP := Lib.hid (H3.out.2.2.2.1.tick y.now y.ms)
              obtain ⟨r, hr⟩ : ∃ r, o.tick y.now y.ms = r := ⟨_, rfl⟩
              rw [hr] at HT HP
              clear hr hml
              go_wp2_with fail
              refine HT.out.mono ?_
              rintro e w4 ⟨B, m, d, rfl, hp, ho, hc⟩
              have H4 := Lib.hid (And.intro (H3.out.1.setO ho hc) (And.intro (H3.out.2.1.chg hc (by have h1 := H3.out.1.o.own; have h2 := H3.out.1.o.win.own; have h3 := H3.out.2.1.lt; have h4 := blk_ne H3.out.2.1 H3.out.1.o.blk (by decide); have h5 := blk_ne H3.out.2.1 H3.out.1.o.win.win (by decide); simp; omega)) hp.at_))
              have HMX := Lib.hid (And.intro hp.own.le hp.own.max)
              clear hp ho hc HT d0 d1 d2
              have hmd := H4.out.2.2.len
              have HX := Lib.hid hmd
              have hm2 : m ≤ 9223372036854775807 := by have h1 := HMX.out.1; have h2 := HMX.out.2; unfold maxLen at h2; omega
              clear hmd
              go_wp2_with fail
              go_loopw [83] (fun s83 wr => ∃ j : Nat, j ≤ m ∧ s83 = .int .i64 j ∧ Hid (Chg [] w4 wr)) (fun s83 _ => m - (intOf s83).toNat)
              case atStart => exact ⟨0, Nat.zero_le _, rfl, Lib.hid (Chg.refl _ _)⟩
              case round =>
                obtain ⟨j, hj, rfl, hr⟩ := hrel
                by_cases hjm : j < m
                · obtain ⟨q, hq⟩ : ∃ q, r.1[j]? = some q := ⟨_, List.getElem?_eq_getElem (by have := HX.out; omega)⟩
                  obtain ⟨g2, off2, rfl, hl1, _⟩ := (H4.out.2.2.chg0 hr.out).load hq
                  have HQ := Lib.hid (HP.out.all q (List.mem_of_getElem? hq))
                  clear hq
                  have i1 : (0 : Int) ≤ (j : Int) := by omega
                  have i2 : (j : Int) < (m : Int) := by omega
                  obtain ⟨w5, hst, hb, hc⟩ := new_pk wr q
                  have H5 := Lib.hid (And.intro hb (hr.out.trans hc))
                  clear hb hc
                  go_upto_region 13 with (first | (refine wpList_loadW _ _ (by rfl) _ _ (by rfl) hl1 (by rfl) ?_) | (refine wpList_storeR (by rfl) _ _ _ (by rfl) _ _ (by rfl) (by rfl) _ hst ?_))
                  clear hl1 hst i1 i2
                  have c1 : w5.cell? ⟨wr.heap.size, 1, none⟩ = some (.int .i64 a) := by rw [← HQ.out.2.2.1]; exact H5.out.1.cell 1
                  have c2 : w5.cell? ⟨wr.heap.size, 2, none⟩ = some (.int .i64 b) := by rw [← HQ.out.2.2.2]; exact H5.out.1.cell 2
                  have c3 : w5.cell? ⟨wr.heap.size, 3, none⟩ = some (.int .u64 o.ep) := by rw [← HQ.out.2.1]; exact H5.out.1.cell 3
                  have e0 : w5.cell? ⟨W.heap.size, 0, none⟩ = some (.int .i64 a) := (H4.out.2.1.chg H5.out.2 (by simp)).cell 0
                  have e1 : w5.cell? ⟨W.heap.size, 1, none⟩ = some (.int .i64 b) := (H4.out.2.1.chg H5.out.2 (by simp)).cell 1
                  cases ub with
                  | true =>
                    have c0 : w5.cell? ⟨wr.heap.size, 0, none⟩ = some (.int .i64 3) := by
                      have h1 := HQ.out.1
                      rw [HUB.out, if_pos rfl] at h1
                      rw [← h1]
                      exact H5.out.1.cell 0
                    go_wp2_with fail
                    exact ⟨⟨j + 1, by omega, by go_num, Lib.hid H5.out.2⟩, by simp [intOf]; omega⟩
                  | false =>
                    have c0 : w5.cell? ⟨wr.heap.size, 0, none⟩ = some (.int .i64 1) := by
                      have h1 := HQ.out.1
                      rw [HUB.out, if_neg (by simp)] at h1
                      rw [← h1]
                      exact H5.out.1.cell 0
                    go_wp2_with fail
                    exact ⟨⟨j + 1, by omega, by go_num, Lib.hid H5.out.2⟩, by simp [intOf]; omega⟩
                · obtain rfl : j = m := by omega
                  have H6 := Lib.hid (And.intro (H4.out.1.to hr.out) (And.intro (H4.out.2.1.chg hr.out (by simp)) (And.intro HP.out.inv H3.out.2.2.2.2)))
                  have HG := Lib.hid (show o.ep ≤ r.2.ep ∧ (¬ r.2.ep = o.ep → r.2.up = false) ∧ i.ep ≤ i.ep from ⟨by rw [HP.out.ep]; exact Int.le_refl _, fun h => absurd HP.out.ep h, Int.le_refl _⟩)
                  clear H3 H4 HP hr HYY hm2
                  go_upto_region 28 with fail
                  obtain ⟨D, hD⟩ : ∃ D, D = World.drew wr := ⟨_, rfl⟩
                  have HS0 : Hid (Chg [] D (World.drew wr)) := Lib.hid (by rw [hD]; exact Chg.refl _ _)
                  have HVD : Hid (Chg [] wr D) := Lib.hid (by rw [hD]; exact (Chg.refl [] wr).drew)
                  have hne : Nonempty (Hold (Chg [] D)) := ⟨⟨_, HS0.out⟩⟩
                  clear hD
                  have HC := Lib.hid (And.intro (H6.out.1.to HVD.out) (H6.out.2.1.chg HVD.out (by simp)))
                  have HEo := Lib.hid (fun x : Hold (Chg [] D) => epoch_out ((HC.out.1.to x.h).o))
                  have HEi := Lib.hid (fun x : Hold (Chg [] D) => epoch_in ((HC.out.1.to x.h).i))
                  have HOp := Lib.hid (fun x : Hold (Chg [] D) => open_out ((HC.out.1.to x.h).o))
                  have HUp := Lib.hid (fun x : Hold (Chg [] D) => up_out ((HC.out.1.to x.h).o))
                  have cw : ∀ z : Hold (Chg [] D), z.W.cell? ⟨W.heap.size, 2, none⟩ = some (.int .i64 x.win) := fun z => z.h.cell_some (HC.out.2.cell 2) (by simp)
                  have t1 : decide ((r.2).ep < o.ep) = false := decide_eq_false (by have := HG.out.1; omega)
                  have t2 : decide ((i).ep < i.ep) = false := decide_eq_false (by have := HG.out.2.2; omega)
                  have t3 : decide (x.win < ((openN (r.2).ws.f 32 : Nat) : Int)) = false := decide_eq_false (by have h1 := openN_le_size H6.out.2.2.1.ok; have h2 := H6.out.2.2.1.size; have h3 := (mayB_facts HY.out.1); omega)
                  by_cases e4 : (r.2).ep = o.ep
                  · have t4 : ((r.2).ep != o.ep) = false := by simpa using e4
                    clear e4
                    refine wp_region_hold (Chg [] D) (by kernel_rfl) (by kernel_rfl) HS0.out ?_
                    repeat (go_big_quiet_step (first | (with_reducible exact Calls.hold (HEo.out _) (fun w' hc => hc ▸ Hold.h _)) | (with_reducible exact Calls.hold (HEi.out _) (fun w' hc => hc ▸ Hold.h _)) | (with_reducible exact Calls.hold (HUp.out _) (fun w' hc => hc ▸ Hold.h _)) | (with_reducible exact Calls.hold (HOp.out _) (fun w' hc => Chg.trans (Hold.h _) hc))))
                    refine wpQuiet_nil ?_
                    rintro wy ⟨⟨wz, hy⟩, hz⟩
                    replace hz : wy = wz := hz
                    subst hz
                    have HY2 := Lib.hid (HVD.out.trans hy)
                    clear hy HS0 HVD hne
                    clear HEo HEi HOp HUp cw t1 t2 t3 t4 HC
                    go_wp2_with fail
                    exact ⟨⟨k + 1, r.2, i, by omega, by go_num, Lib.hid ⟨H6.out.1.to HY2.out, H6.out.2.1.chg HY2.out (by simp), H6.out.2.2⟩⟩, by simp [intOf]; omega⟩
                  · have t4 : ((r.2).ep != o.ep) = true := by simpa using e4
                    rw [HG.out.2.1 e4] at HUp
                    clear e4
                    refine wp_region_hold (Chg [] D) (by kernel_rfl) (by kernel_rfl) HS0.out ?_
                    repeat (go_big_quiet_step (first | (with_reducible exact Calls.hold (HEo.out _) (fun w' hc => hc ▸ Hold.h _)) | (with_reducible exact Calls.hold (HEi.out _) (fun w' hc => hc ▸ Hold.h _)) | (with_reducible exact Calls.hold (HUp.out _) (fun w' hc => hc ▸ Hold.h _)) | (with_reducible exact Calls.hold (HOp.out _) (fun w' hc => Chg.trans (Hold.h _) hc))))
                    refine wpQuiet_nil ?_
                    rintro wy ⟨⟨wz, hy⟩, hz⟩
                    replace hz : wy = wz := hz
                    subst hz
                    have HY2 := Lib.hid (HVD.out.trans hy)
                    clear hy HS0 HVD hne
                    clear HEo HEi HOp HUp cw t1 t2 t3 t4 HC
                    go_wp2_with fail
                    exact ⟨⟨k + 1, r.2, i, by omega, by go_num, Lib.hid ⟨H6.out.1.to HY2.out, H6.out.2.1.chg HY2.out (by simp), H6.out.2.2⟩⟩, by simp [intOf]; omega⟩
            · have t0 : (y.kind == 0) = false := by simpa using k0
              clear k0
              by_cases k1 : y.kind = 1
              · rw [k1] at d0
                clear k1 t0
                as_aux_lemma =>
                have hl3 := load_lact H3.out.2.2.1
                have HT := Lib.hid (hear_out H3.out.1.o HL.out.1 (HL.out.2.chg0 H3.out.1.chg) H3.out.2.2.2.1.ep.1 H3.out.2.2.2.1.ep.2 y.p HYY.out.1.p.ok HYY.out.2)
                have HP := Lib.hid (H3.out.2.2.2.1.hear y.p HYY.out.1.p.ok)
                obtain ⟨r, hr⟩ : ∃ r, o.hear y.p = r := ⟨_, rfl⟩
                rw [hr] at HT HP
                clear hr
                unfold pkV at HT
                go_wp2_with (refine wpList_loadW _ _ (by rfl) _ _ (by rfl) hl3 (by rfl) ?_)
                refine HT.out.mono ?_
                rintro e w4 ⟨rfl, ho, hc⟩
                have H4 := Lib.hid (And.intro (H3.out.1.setO ho hc) (And.intro (H3.out.2.1.chg hc (by have h1 := H3.out.1.o.own; have h2 := H3.out.1.o.win.own; have h3 := H3.out.2.1.lt; have h4 := blk_ne H3.out.2.1 H3.out.1.o.blk (by decide); have h5 := blk_ne H3.out.2.1 H3.out.1.o.win.win (by decide); simp; omega)) (And.intro HP.out.inv H3.out.2.2.2.2)))
                have HG := Lib.hid (show o.ep ≤ r.2.ep ∧ (¬ r.2.ep = o.ep → r.2.up = false) ∧ i.ep ≤ i.ep from ⟨HP.out.ge, HP.out.new, Int.le_refl _⟩)
                clear ho hc HT d0 hl3 H3 HYY
                have e2 : w4.cell? ⟨W.heap.size, 2, none⟩ = some (.int .i64 x.win) := H4.out.2.1.cell 2
                have s1 : decide ((r.1 : Int) < 0) = false := decide_eq_false (by omega)
                have s2 : decide (x.win < (r.1 : Int)) = false := decide_eq_false (by have h1 := HP.out.le; have h3 := (mayB_facts HY.out.1); omega)
                by_cases s0 : 0 < r.1
                · have hu := HP.out.up s0
                  rw [HUB.out] at hu
                  subst hu
                  have s3 : decide ((0 : Int) < (r.1 : Int)) = true := decide_eq_true (by omega)
                  have s4 : decide (0 < r.1) = true := decide_eq_true s0
                  clear s0 HP
                  go_upto_region 28 with fail
                  obtain ⟨D, hD⟩ : ∃ D, D = World.drew w4 := ⟨_, rfl⟩
                  have HS0 : Hid (Chg [] D (World.drew w4)) := Lib.hid (by rw [hD]; exact Chg.refl _ _)
                  have HVD : Hid (Chg [] w4 D) := Lib.hid (by rw [hD]; exact (Chg.refl [] w4).drew)
                  have hne : Nonempty (Hold (Chg [] D)) := ⟨⟨_, HS0.out⟩⟩
                  clear hD
                  have HC := Lib.hid (And.intro (H4.out.1.to HVD.out) (H4.out.2.1.chg HVD.out (by simp)))
                  have HEo := Lib.hid (fun x : Hold (Chg [] D) => epoch_out ((HC.out.1.to x.h).o))
                  have HEi := Lib.hid (fun x : Hold (Chg [] D) => epoch_in ((HC.out.1.to x.h).i))
                  have HOp := Lib.hid (fun x : Hold (Chg [] D) => open_out ((HC.out.1.to x.h).o))
                  have HUp := Lib.hid (fun x : Hold (Chg [] D) => up_out ((HC.out.1.to x.h).o))
                  have cw : ∀ z : Hold (Chg [] D), z.W.cell? ⟨W.heap.size, 2, none⟩ = some (.int .i64 x.win) := fun z => z.h.cell_some (HC.out.2.cell 2) (by simp)
                  have t1 : decide ((r.2).ep < o.ep) = false := decide_eq_false (by have := HG.out.1; omega)
                  have t2 : decide ((i).ep < i.ep) = false := decide_eq_false (by have := HG.out.2.2; omega)
                  have t3 : decide (x.win < ((openN (r.2).ws.f 32 : Nat) : Int)) = false := decide_eq_false (by have h1 := openN_le_size H4.out.2.2.1.ok; have h2 := H4.out.2.2.1.size; have h3 := (mayB_facts HY.out.1); omega)
                  by_cases e4 : (r.2).ep = o.ep
                  · have t4 : ((r.2).ep != o.ep) = false := by simpa using e4
                    clear e4
                    refine wp_region_hold (Chg [] D) (by kernel_rfl) (by kernel_rfl) HS0.out ?_
                    repeat (go_big_quiet_step (first | (with_reducible exact Calls.hold (HEo.out _) (fun w' hc => hc ▸ Hold.h _)) | (with_reducible exact Calls.hold (HEi.out _) (fun w' hc => hc ▸ Hold.h _)) | (with_reducible exact Calls.hold (HUp.out _) (fun w' hc => hc ▸ Hold.h _)) | (with_reducible exact Calls.hold (HOp.out _) (fun w' hc => Chg.trans (Hold.h _) hc))))
                    refine wpQuiet_nil ?_
                    rintro wy ⟨⟨wz, hy⟩, hz⟩
                    replace hz : wy = wz := hz
                    subst hz
                    have HY2 := Lib.hid (HVD.out.trans hy)
                    clear hy HS0 HVD hne
                    clear HEo HEi HOp HUp cw t1 t2 t3 t4 HC
                    go_wp2_with fail
                    exact ⟨⟨k + 1, r.2, i, by omega, by go_num, Lib.hid ⟨H4.out.1.to HY2.out, H4.out.2.1.chg HY2.out (by simp), H4.out.2.2⟩⟩, by simp [intOf]; omega⟩
                  · have t4 : ((r.2).ep != o.ep) = true := by simpa using e4
                    rw [HG.out.2.1 e4] at HUp
                    clear e4
                    refine wp_region_hold (Chg [] D) (by kernel_rfl) (by kernel_rfl) HS0.out ?_
                    repeat (go_big_quiet_step (first | (with_reducible exact Calls.hold (HEo.out _) (fun w' hc => hc ▸ Hold.h _)) | (with_reducible exact Calls.hold (HEi.out _) (fun w' hc => hc ▸ Hold.h _)) | (with_reducible exact Calls.hold (HUp.out _) (fun w' hc => hc ▸ Hold.h _)) | (with_reducible exact Calls.hold (HOp.out _) (fun w' hc => Chg.trans (Hold.h _) hc))))
                    refine wpQuiet_nil ?_
                    rintro wy ⟨⟨wz, hy⟩, hz⟩
                    replace hz : wy = wz := hz
                    subst hz
                    have HY2 := Lib.hid (HVD.out.trans hy)
                    clear hy HS0 HVD hne
                    clear HEo HEi HOp HUp cw t1 t2 t3 t4 HC
                    go_wp2_with fail
                    exact ⟨⟨k + 1, r.2, i, by omega, by go_num, Lib.hid ⟨H4.out.1.to HY2.out, H4.out.2.1.chg HY2.out (by simp), H4.out.2.2⟩⟩, by simp [intOf]; omega⟩
                · have s3 : decide ((0 : Int) < (r.1 : Int)) = false := decide_eq_false (by omega)
                  have s4 : decide (0 < r.1) = false := decide_eq_false s0
                  clear s0 HP
                  go_upto_region 28 with fail
                  obtain ⟨D, hD⟩ : ∃ D, D = World.drew w4 := ⟨_, rfl⟩
                  have HS0 : Hid (Chg [] D (World.drew w4)) := Lib.hid (by rw [hD]; exact Chg.refl _ _)
                  have HVD : Hid (Chg [] w4 D) := Lib.hid (by rw [hD]; exact (Chg.refl [] w4).drew)
                  have hne : Nonempty (Hold (Chg [] D)) := ⟨⟨_, HS0.out⟩⟩
                  clear hD
                  have HC := Lib.hid (And.intro (H4.out.1.to HVD.out) (H4.out.2.1.chg HVD.out (by simp)))
                  have HEo := Lib.hid (fun x : Hold (Chg [] D) => epoch_out ((HC.out.1.to x.h).o))
                  have HEi := Lib.hid (fun x : Hold (Chg [] D) => epoch_in ((HC.out.1.to x.h).i))
                  have HOp := Lib.hid (fun x : Hold (Chg [] D) => open_out ((HC.out.1.to x.h).o))
                  have HUp := Lib.hid (fun x : Hold (Chg [] D) => up_out ((HC.out.1.to x.h).o))
                  have cw : ∀ z : Hold (Chg [] D), z.W.cell? ⟨W.heap.size, 2, none⟩ = some (.int .i64 x.win) := fun z => z.h.cell_some (HC.out.2.cell 2) (by simp)
                  have t1 : decide ((r.2).ep < o.ep) = false := decide_eq_false (by have := HG.out.1; omega)
                  have t2 : decide ((i).ep < i.ep) = false := decide_eq_false (by have := HG.out.2.2; omega)
                  have t3 : decide (x.win < ((openN (r.2).ws.f 32 : Nat) : Int)) = false := decide_eq_false (by have h1 := openN_le_size H4.out.2.2.1.ok; have h2 := H4.out.2.2.1.size; have h3 := (mayB_facts HY.out.1); omega)
                  by_cases e4 : (r.2).ep = o.ep
                  · have t4 : ((r.2).ep != o.ep) = false := by simpa using e4
                    clear e4
                    refine wp_region_hold (Chg [] D) (by kernel_rfl) (by kernel_rfl) HS0.out ?_
                    repeat (go_big_quiet_step (first | (with_reducible exact Calls.hold (HEo.out _) (fun w' hc => hc ▸ Hold.h _)) | (with_reducible exact Calls.hold (HEi.out _) (fun w' hc => hc ▸ Hold.h _)) | (with_reducible exact Calls.hold (HUp.out _) (fun w' hc => hc ▸ Hold.h _)) | (with_reducible exact Calls.hold (HOp.out _) (fun w' hc => Chg.trans (Hold.h _) hc))))
                    refine wpQuiet_nil ?_
                    rintro wy ⟨⟨wz, hy⟩, hz⟩
                    replace hz : wy = wz := hz
                    subst hz
                    have HY2 := Lib.hid (HVD.out.trans hy)
                    clear hy HS0 HVD hne
                    clear HEo HEi HOp HUp cw t1 t2 t3 t4 HC
                    go_wp2_with fail
                    exact ⟨⟨k + 1, r.2, i, by omega, by go_num, Lib.hid ⟨H4.out.1.to HY2.out, H4.out.2.1.chg HY2.out (by simp), H4.out.2.2⟩⟩, by simp [intOf]; omega⟩
                  · have t4 : ((r.2).ep != o.ep) = true := by simpa using e4
                    rw [HG.out.2.1 e4] at HUp
                    clear e4
                    refine wp_region_hold (Chg [] D) (by kernel_rfl) (by kernel_rfl) HS0.out ?_
                    repeat (go_big_quiet_step (first | (with_reducible exact Calls.hold (HEo.out _) (fun w' hc => hc ▸ Hold.h _)) | (with_reducible exact Calls.hold (HEi.out _) (fun w' hc => hc ▸ Hold.h _)) | (with_reducible exact Calls.hold (HUp.out _) (fun w' hc => hc ▸ Hold.h _)) | (with_reducible exact Calls.hold (HOp.out _) (fun w' hc => Chg.trans (Hold.h _) hc))))
                    refine wpQuiet_nil ?_
                    rintro wy ⟨⟨wz, hy⟩, hz⟩
                    replace hz : wy = wz := hz
                    subst hz
                    have HY2 := Lib.hid (HVD.out.trans hy)
                    clear hy HS0 HVD hne
                    clear HEo HEi HOp HUp cw t1 t2 t3 t4 HC
                    go_wp2_with fail
                    exact ⟨⟨k + 1, r.2, i, by omega, by go_num, Lib.hid ⟨H4.out.1.to HY2.out, H4.out.2.1.chg HY2.out (by simp), H4.out.2.2⟩⟩, by simp [intOf]; omega⟩
              · have tk1 : (y.kind == 1) = false := by simpa using k1
                clear k1
                by_cases k2 : y.kind = 2
                · rw [k2] at d0
                  clear k2 t0 tk1
                  as_aux_lemma =>
                  have hl3 := load_lact H3.out.2.2.1
                  have HT := Lib.hid (hear_in H3.out.1.i (HL.out.2.chg0 H3.out.1.chg) y.p HYY.out.2)
                  have HP := Lib.hid (H3.out.2.2.2.2.hear y.p HYY.out.1.p.ok)
                  obtain ⟨r, hr⟩ : ∃ r, i.hear y.p = r := ⟨_, rfl⟩
                  rw [hr] at HT HP
                  clear hr
                  unfold pkV at HT
                  go_wp2_with (refine wpList_loadW _ _ (by rfl) _ _ (by rfl) hl3 (by rfl) ?_)
                  refine HT.out.mono ?_
                  rintro e w4 ⟨B, m, d, rfl, hp, hi, hc⟩
                  have H4 := Lib.hid (And.intro (H3.out.1.setI hi hc) (And.intro (H3.out.2.1.chg hc (by have h3 := H3.out.2.1.lt; have h4 := blk_ne H3.out.2.1 H3.out.1.i.blk (by decide); have h5 := blk_ne H3.out.2.1 H3.out.1.i.box.box.blk (by decide); have h6 := map_ne H3.out.2.1 H3.out.1.i.box.box.map; simp; omega)) (And.intro H3.out.2.2.2.1 (And.intro HP.out.inv hp.at_))))
                  have HMX := Lib.hid (And.intro hp.own.le hp.own.max)
                  have HG := Lib.hid (show o.ep ≤ o.ep ∧ (¬ o.ep = o.ep → o.up = false) ∧ i.ep ≤ r.2.ep from ⟨Int.le_refl _, fun h => absurd rfl h, HP.out.ge⟩)
                  clear hp hi hc HT d0 hl3 H3 HYY
                  have HX := Lib.hid H4.out.2.2.2.2.len
                  have hm2 : m ≤ 9223372036854775807 := by have h1 := HMX.out.1; have h2 := HMX.out.2; unfold maxLen at h2; omega
                  go_wp2_with fail
                  go_loopw [157] (fun s157 wr => ∃ j : Nat, j ≤ m ∧ s157 = .int .i64 j ∧ Hid (Chg [] w4 wr)) (fun s157 _ => m - (intOf s157).toNat)
                  case atStart => exact ⟨0, Nat.zero_le _, rfl, Lib.hid (Chg.refl _ _)⟩
                  case round =>
                    obtain ⟨j, hj, rfl, hr⟩ := hrel
                    by_cases hjm : j < m
                    · obtain ⟨q, hq⟩ : ∃ q, r.1.1[j]? = some q := ⟨_, List.getElem?_eq_getElem (by have := HX.out; omega)⟩
                      obtain ⟨g2, off2, rfl, hl1, _⟩ := (H4.out.2.2.2.2.chg0 hr.out).load hq
                      have HQ := Lib.hid (HP.out.all q (List.mem_of_getElem? hq))
                      clear hq
                      have i1 : (0 : Int) ≤ (j : Int) := by omega
                      have i2 : (j : Int) < (m : Int) := by omega
                      obtain ⟨w5, hst, hb, hc⟩ := new_pk wr q
                      have H5 := Lib.hid (And.intro hb (hr.out.trans hc))
                      clear hb hc
                      go_upto_region 25 with (first | (refine wpList_loadW _ _ (by rfl) _ _ (by rfl) hl1 (by rfl) ?_) | (refine wpList_storeR (by rfl) _ _ _ (by rfl) _ _ (by rfl) (by rfl) _ hst ?_))
                      clear hl1 hst i1 i2
                      generalize wr.heap.size = qb at *
                      obtain ⟨D, hD⟩ : ∃ D, D = World.drew w5 := ⟨_, rfl⟩
                      have HS0 : Hid (Chg [] D (World.drew w5)) := Lib.hid (by rw [hD]; exact Chg.refl _ _)
                      have HVD : Hid (Chg [] w5 D) := Lib.hid (by rw [hD]; exact (Chg.refl [] w5).drew)
                      have hne : Nonempty (Hold (Chg [] D)) := ⟨⟨_, HS0.out⟩⟩
                      clear hD
                      have HC := Lib.hid (And.intro (H4.out.1.to (H5.out.2.trans HVD.out)) (And.intro (H4.out.2.1.chg (H5.out.2.trans HVD.out) (by simp)) (H5.out.1.chg HVD.out (by simp))))
                      have HEi := Lib.hid (fun z : Hold (Chg [] D) => epoch_in ((HC.out.1.to z.h).i))
                      have c0 : ∀ z : Hold (Chg [] D), z.W.cell? ⟨qb, 0, none⟩ = some (.int .i64 2) := fun z => z.h.cell_some (by rw [← HQ.out.1]; exact HC.out.2.2.cell 0) (by simp)
                      have c1 : ∀ z : Hold (Chg [] D), z.W.cell? ⟨qb, 1, none⟩ = some (.int .i64 b) := fun z => z.h.cell_some (by rw [← HQ.out.2.1]; exact HC.out.2.2.cell 1) (by simp)
                      have c2 : ∀ z : Hold (Chg [] D), z.W.cell? ⟨qb, 2, none⟩ = some (.int .i64 a) := fun z => z.h.cell_some (by rw [← HQ.out.2.2.1]; exact HC.out.2.2.cell 2) (by simp)
                      have e0 : ∀ z : Hold (Chg [] D), z.W.cell? ⟨W.heap.size, 0, none⟩ = some (.int .i64 a) := fun z => z.h.cell_some (HC.out.2.1.cell 0) (by simp)
                      have e1 : ∀ z : Hold (Chg [] D), z.W.cell? ⟨W.heap.size, 1, none⟩ = some (.int .i64 b) := fun z => z.h.cell_some (HC.out.2.1.cell 1) (by simp)
                      by_cases q0 : q.ep = 0
                      · have c3 : ∀ z : Hold (Chg [] D), z.W.cell? ⟨qb, 3, none⟩ = some (.int .u64 0) := fun z => z.h.cell_some (by rw [← q0]; exact HC.out.2.2.cell 3) (by simp)
                        clear q0
                        refine wp_region_hold (Chg [] D) (by kernel_rfl) (by kernel_rfl) HS0.out ?_
                        try simp only [List.getElem_toArray, List.getElem_cons_zero, List.getElem_cons_succ, Act.put, List.setIfInBounds_toArray, List.set_cons_zero, List.set_cons_succ]
                        repeat (go_big_quiet_step (first | (with_reducible exact Calls.hold (HEi.out _) (fun w' hc => hc ▸ Hold.h _))))
                        refine wpQuiet_nil ?_
                        rintro wy ⟨⟨wz, hy⟩, hz⟩
                        replace hz : wy = wz := hz
                        subst hz
                        have HY2 := Lib.hid (HVD.out.trans hy)
                        clear hy HS0 HVD hne
                        clear HEi c0 c1 c2 c3 e0 e1 HC
                        go_wp2_with fail
                        exact ⟨⟨j + 1, by omega, by go_num, Lib.hid (H5.out.2.trans HY2.out)⟩, by simp [intOf]; omega⟩
                      · have q1 : q.ep = r.2.ep := HQ.out.2.2.2.resolve_left q0
                        rw [q1] at q0
                        have c3 : ∀ z : Hold (Chg [] D), z.W.cell? ⟨qb, 3, none⟩ = some (.int .u64 r.2.ep) := fun z => z.h.cell_some (by rw [← q1]; exact HC.out.2.2.cell 3) (by simp)
                        have t5 : (r.2.ep != 0) = true := by simpa using q0
                        clear q0 q1
                        refine wp_region_hold (Chg [] D) (by kernel_rfl) (by kernel_rfl) HS0.out ?_
                        try simp only [List.getElem_toArray, List.getElem_cons_zero, List.getElem_cons_succ, Act.put, List.setIfInBounds_toArray, List.set_cons_zero, List.set_cons_succ]
                        repeat (go_big_quiet_step (first | (with_reducible exact Calls.hold (HEi.out _) (fun w' hc => hc ▸ Hold.h _))))
                        refine wpQuiet_nil ?_
                        rintro wy ⟨⟨wz, hy⟩, hz⟩
                        replace hz : wy = wz := hz
                        subst hz
                        have HY2 := Lib.hid (HVD.out.trans hy)
                        clear hy HS0 HVD hne
                        clear HEi c0 c1 c2 c3 e0 e1 HC
                        go_wp2_with fail
                        exact ⟨⟨j + 1, by omega, by go_num, Lib.hid (H5.out.2.trans HY2.out)⟩, by simp [intOf]; omega⟩
                    · obtain rfl : j = m := by omega
                      have H6 := Lib.hid (And.intro (H4.out.1.to hr.out) (And.intro (H4.out.2.1.chg hr.out (by simp)) (And.intro H4.out.2.2.1 H4.out.2.2.2.1)))
                      clear H4 HP hr hm2
                      go_upto_region 28 with fail
                      obtain ⟨D, hD⟩ : ∃ D, D = World.drew wr := ⟨_, rfl⟩
                      have HS0 : Hid (Chg [] D (World.drew wr)) := Lib.hid (by rw [hD]; exact Chg.refl _ _)
                      have HVD : Hid (Chg [] wr D) := Lib.hid (by rw [hD]; exact (Chg.refl [] wr).drew)
                      have hne : Nonempty (Hold (Chg [] D)) := ⟨⟨_, HS0.out⟩⟩
                      clear hD
                      have HC := Lib.hid (And.intro (H6.out.1.to HVD.out) (H6.out.2.1.chg HVD.out (by simp)))
                      have HEo := Lib.hid (fun x : Hold (Chg [] D) => epoch_out ((HC.out.1.to x.h).o))
                      have HEi := Lib.hid (fun x : Hold (Chg [] D) => epoch_in ((HC.out.1.to x.h).i))
                      have HOp := Lib.hid (fun x : Hold (Chg [] D) => open_out ((HC.out.1.to x.h).o))
                      have HUp := Lib.hid (fun x : Hold (Chg [] D) => up_out ((HC.out.1.to x.h).o))
                      have cw : ∀ z : Hold (Chg [] D), z.W.cell? ⟨W.heap.size, 2, none⟩ = some (.int .i64 x.win) := fun z => z.h.cell_some (HC.out.2.cell 2) (by simp)
                      have t1 : decide ((o).ep < o.ep) = false := decide_eq_false (by have := HG.out.1; omega)
                      have t2 : decide ((r.2).ep < i.ep) = false := decide_eq_false (by have := HG.out.2.2; omega)
                      have t3 : decide (x.win < ((openN (o).ws.f 32 : Nat) : Int)) = false := decide_eq_false (by have h1 := openN_le_size H6.out.2.2.1.ok; have h2 := H6.out.2.2.1.size; have h3 := (mayB_facts HY.out.1); omega)
                      have t4 : True := trivial
                      refine wp_region_hold (Chg [] D) (by kernel_rfl) (by kernel_rfl) HS0.out ?_
                      repeat (go_big_quiet_step (first | (with_reducible exact Calls.hold (HEo.out _) (fun w' hc => hc ▸ Hold.h _)) | (with_reducible exact Calls.hold (HEi.out _) (fun w' hc => hc ▸ Hold.h _)) | (with_reducible exact Calls.hold (HUp.out _) (fun w' hc => hc ▸ Hold.h _)) | (with_reducible exact Calls.hold (HOp.out _) (fun w' hc => Chg.trans (Hold.h _) hc))))
                      refine wpQuiet_nil ?_
                      rintro wy ⟨⟨wz, hy⟩, hz⟩
                      replace hz : wy = wz := hz
                      subst hz
                      have HY2 := Lib.hid (HVD.out.trans hy)
                      clear hy HS0 HVD hne
                      clear HEo HEi HOp HUp cw t1 t2 t3 t4 HC
                      go_wp2_with fail
                      exact ⟨⟨k + 1, o, r.2, by omega, by go_num, Lib.hid ⟨H6.out.1.to HY2.out, H6.out.2.1.chg HY2.out (by simp), H6.out.2.2⟩⟩, by simp [intOf]; omega⟩
                · have tk2 : (y.kind == 2) = false := by simpa using k2
                  clear k2
                  have H6 := Lib.hid (And.intro H3.out.1 (And.intro H3.out.2.1 H3.out.2.2.2))
                  have HG := Lib.hid (show o.ep ≤ o.ep ∧ (¬ o.ep = o.ep → o.up = false) ∧ i.ep ≤ i.ep from ⟨Int.le_refl _, fun h => absurd rfl h, Int.le_refl _⟩)
                  clear H3 HYY
                  go_upto_region 28 with fail
                  obtain ⟨D, hD⟩ : ∃ D, D = World.drew w1 := ⟨_, rfl⟩
                  have HS0 : Hid (Chg [] D (World.drew w1)) := Lib.hid (by rw [hD]; exact Chg.refl _ _)
                  have HVD : Hid (Chg [] w1 D) := Lib.hid (by rw [hD]; exact (Chg.refl [] w1).drew)
                  have hne : Nonempty (Hold (Chg [] D)) := ⟨⟨_, HS0.out⟩⟩
                  clear hD
                  have HC := Lib.hid (And.intro (H6.out.1.to HVD.out) (H6.out.2.1.chg HVD.out (by simp)))
                  have HEo := Lib.hid (fun x : Hold (Chg [] D) => epoch_out ((HC.out.1.to x.h).o))
                  have HEi := Lib.hid (fun x : Hold (Chg [] D) => epoch_in ((HC.out.1.to x.h).i))
                  have HOp := Lib.hid (fun x : Hold (Chg [] D) => open_out ((HC.out.1.to x.h).o))
                  have HUp := Lib.hid (fun x : Hold (Chg [] D) => up_out ((HC.out.1.to x.h).o))
                  have cw : ∀ z : Hold (Chg [] D), z.W.cell? ⟨W.heap.size, 2, none⟩ = some (.int .i64 x.win) := fun z => z.h.cell_some (HC.out.2.cell 2) (by simp)
                  have t1 : decide ((o).ep < o.ep) = false := decide_eq_false (by have := HG.out.1; omega)
                  have t2 : decide ((i).ep < i.ep) = false := decide_eq_false (by have := HG.out.2.2; omega)
                  have t3 : decide (x.win < ((openN (o).ws.f 32 : Nat) : Int)) = false := decide_eq_false (by have h1 := openN_le_size H6.out.2.2.1.ok; have h2 := H6.out.2.2.1.size; have h3 := (mayB_facts HY.out.1); omega)
                  have t4 : True := trivial
                  refine wp_region_hold (Chg [] D) (by kernel_rfl) (by kernel_rfl) HS0.out ?_
                  repeat (go_big_quiet_step (first | (with_reducible exact Calls.hold (HEo.out _) (fun w' hc => hc ▸ Hold.h _)) | (with_reducible exact Calls.hold (HEi.out _) (fun w' hc => hc ▸ Hold.h _)) | (with_reducible exact Calls.hold (HUp.out _) (fun w' hc => hc ▸ Hold.h _)) | (with_reducible exact Calls.hold (HOp.out _) (fun w' hc => Chg.trans (Hold.h _) hc))))
                  refine wpQuiet_nil ?_
                  rintro wy ⟨⟨wz, hy⟩, hz⟩
                  replace hz : wy = wz := hz
                  subst hz
                  have HY2 := Lib.hid (HVD.out.trans hy)
                  clear hy HS0 HVD hne
                  clear HEo HEi HOp HUp cw t1 t2 t3 t4 HC
                  go_wp2_with fail
                  exact ⟨⟨k + 1, o, i, by omega, by go_num, Lib.hid ⟨H6.out.1.to HY2.out, H6.out.2.1.chg HY2.out (by simp), H6.out.2.2⟩⟩, by simp [intOf]; omega⟩
          · obtain rfl : k = n := by omega
            go_wp2_with fail
            refine (lives_any _ (HL.out.chg0 hr.out.1.chg)).mono ?_
            rintro e wF ⟨rfl, hc⟩
            have HF := Lib.hid ((hr.out.1.chg).trans hc)
            clear hc
            go_wp2
            go_ret
            exact ⟨rfl, HF.out.below (Nat.le_refl _) (by simp)⟩
  · have HY : Hid (mayB a b x = false ∨ ep = 0) := Lib.hid (by
      rcases Bool.eq_false_or_eq_true (mayB a b x) with h | h
      · exact .inr (Decidable.byContradiction fun h2 => hy ⟨h, h2⟩)
      · exact .inl h)
    clear hy
    go_enter Tryd.func4, Tryd.ntmps4
    go_upto_region 1 with fail
    change Code.wp _ _ _ _ (W.alloc (.cells (endC a b x ep) 64))
    generalize W.alloc (.cells (endC a b x ep) 64) = W1 at *
    refine wp_region_noPanic ?_
    refine wp_region_held_drew (S := fun w' => w'.cell? ⟨W.heap.size, 0, none⟩ = some (.int .i64 a) ∧ w'.cell? ⟨W.heap.size, 1, none⟩ = some (.int .i64 b) ∧ w'.cell? ⟨W.heap.size, 6, none⟩ = some (.int .u64 ep) ∧ (Instr.loadAt 59 (.pointer (some ⟨W.heap.size, 2, none⟩))).run Tryd.prog w' = .ok (.agg x.cells) w') (by kernel_rfl) (ends_held (w := W1.drew) H0.out.1) (fun hHeld => ?_)
    have HD := Lib.hid (And.intro (show Blk W1.drew W.heap.size 64 (endC a b x ep) from H0.out.1) (H0.out.2.drew))
    clear H0
    generalize W1.drew = w1 at *
    refine wpAnyH_take (i := 0) (oi := _) (v := ?_) rfl (by kernel_rfl) (by kernel_rfl) (by kernel_rfl) (fun _ _ _ h => h) (Or.inl ⟨by rfl, ?_⟩) (by assumption) ?_
    rotate_left 1
    · intro w hSw
      try dsimp only at hSw
      go_simp
      try with_reducible rfl
    try simp only [List.getElem_toArray, List.getElem_cons_zero, List.getElem_cons_succ, Act.put, List.setIfInBounds_toArray, List.set_cons_zero, List.set_cons_succ]
    refine wpAnyH_take (i := 1) (oi := _) (v := ?_) rfl (by kernel_rfl) (by kernel_rfl) (by kernel_rfl) (fun _ _ _ h => h) (Or.inl ⟨by rfl, ?_⟩) (by assumption) ?_
    rotate_left 1
    · intro w hSw
      try dsimp only at hSw
      go_simp
      try with_reducible rfl
    try simp only [List.getElem_toArray, List.getElem_cons_zero, List.getElem_cons_succ, Act.put, List.setIfInBounds_toArray, List.set_cons_zero, List.set_cons_succ]
    refine wpAnyH_take (i := 2) (oi := _) (v := ?_) rfl (by kernel_rfl) (by kernel_rfl) (by kernel_rfl) (fun _ _ _ h => h) (Or.inl ⟨by rfl, ?_⟩) (by assumption) ?_
    rotate_left 1
    · intro w hSw
      try dsimp only at hSw
      go_simp
      try with_reducible rfl
    try simp only [List.getElem_toArray, List.getElem_cons_zero, List.getElem_cons_succ, Act.put, List.setIfInBounds_toArray, List.set_cons_zero, List.set_cons_succ]
    refine wpAnyH_take (i := 3) (oi := _) (v := ?_) rfl (by kernel_rfl) (by kernel_rfl) (by kernel_rfl) (fun _ _ _ h => h) (Or.inl ⟨by rfl, ?_⟩) (by assumption) ?_
    rotate_left 1
    · intro w hSw
      try dsimp only at hSw
      go_simp
      try with_reducible rfl
    try simp only [List.getElem_toArray, List.getElem_cons_zero, List.getElem_cons_succ, Act.put, List.setIfInBounds_toArray, List.set_cons_zero, List.set_cons_succ]
    refine wpAnyH_take (i := 4) (oi := _) (v := ?_) rfl (by kernel_rfl) (by kernel_rfl) (by kernel_rfl) (fun _ _ _ h => h) (Or.inl ⟨by rfl, ?_⟩) (by assumption) ?_
    rotate_left 1
    · intro w hSw
      try dsimp only at hSw
      go_simp
      try with_reducible rfl
    try simp only [List.getElem_toArray, List.getElem_cons_zero, List.getElem_cons_succ, Act.put, List.setIfInBounds_toArray, List.set_cons_zero, List.set_cons_succ]
    refine wpAnyH_take (i := 5) (oi := _) (v := _) rfl (by kernel_rfl) (by kernel_rfl) (by kernel_rfl) (fun _ _ _ h => h) (yields_load (by rfl) _ _ (by rfl) _ (by rfl) _ (fun w h => h.2.2.2)) (by assumption) ?_
    try simp only [List.getElem_toArray, List.getElem_cons_zero, List.getElem_cons_succ, Act.put, List.setIfInBounds_toArray, List.set_cons_zero, List.set_cons_succ]
    refine wpAnyH_take (i := 6) (oi := _) (v := ?_) rfl (by kernel_rfl) (by kernel_rfl) (by kernel_rfl) (fun _ _ _ h => h) (Or.inl ⟨by rfl, ?_⟩) (by assumption) ?_
    rotate_left 1
    · intro w hSw
      try dsimp only at hSw
      go_simp
      try with_reducible rfl
    try simp only [List.getElem_toArray, List.getElem_cons_zero, List.getElem_cons_succ, Act.put, List.setIfInBounds_toArray, List.set_cons_zero, List.set_cons_succ]
    refine wpAnyH_take (i := 7) (oi := _) (v := ?_) rfl (by kernel_rfl) (by kernel_rfl) (by kernel_rfl) (fun _ _ _ h => h) (Or.inl ⟨by rfl, ?_⟩) (by assumption) ?_
    rotate_left 1
    · intro w hSw
      try dsimp only at hSw
      go_simp
      try with_reducible rfl
    try simp only [List.getElem_toArray, List.getElem_cons_zero, List.getElem_cons_succ, Act.put, List.setIfInBounds_toArray, List.set_cons_zero, List.set_cons_succ]
    refine wpAnyH_take (i := 9) (oi := _) (v := ?_) rfl (by kernel_rfl) (by kernel_rfl) (by kernel_rfl) (fun _ _ _ h => h) (Or.inl ⟨by rfl, ?_⟩) (by assumption) ?_
    rotate_left 1
    · intro w hSw
      try dsimp only at hSw
      go_simp
      try with_reducible rfl
    try simp only [List.getElem_toArray, List.getElem_cons_zero, List.getElem_cons_succ, Act.put, List.setIfInBounds_toArray, List.set_cons_zero, List.set_cons_succ]
    refine wpAnyH_take (i := 10) (oi := _) (v := ?_) rfl (by kernel_rfl) (by kernel_rfl) (by kernel_rfl) (fun _ _ _ h => h) (Or.inl ⟨by rfl, ?_⟩) (by assumption) ?_
    rotate_left 1
    · intro w hSw
      try dsimp only at hSw
      go_simp
      try with_reducible rfl
    try simp only [List.getElem_toArray, List.getElem_cons_zero, List.getElem_cons_succ, Act.put, List.setIfInBounds_toArray, List.set_cons_zero, List.set_cons_succ]
    refine wpAnyH_take (i := 11) (oi := _) (v := ?_) rfl (by kernel_rfl) (by kernel_rfl) (by kernel_rfl) (fun _ _ _ h => h) (Or.inl ⟨by rfl, ?_⟩) (by assumption) ?_
    rotate_left 1
    · intro w hSw
      try dsimp only at hSw
      go_simp
      try with_reducible rfl
    try simp only [List.getElem_toArray, List.getElem_cons_zero, List.getElem_cons_succ, Act.put, List.setIfInBounds_toArray, List.set_cons_zero, List.set_cons_succ]
    refine wpAnyH_take (i := 12) (oi := _) (v := ?_) rfl (by kernel_rfl) (by kernel_rfl) (by kernel_rfl) (fun _ _ _ h => h) (Or.inl ⟨by rfl, ?_⟩) (by assumption) ?_
    rotate_left 1
    · intro w hSw
      try dsimp only at hSw
      go_simp
      try with_reducible rfl
    try simp only [List.getElem_toArray, List.getElem_cons_zero, List.getElem_cons_succ, Act.put, List.setIfInBounds_toArray, List.set_cons_zero, List.set_cons_succ]
    refine wpAnyH_take (i := 13) (oi := _) (v := ?_) rfl (by kernel_rfl) (by kernel_rfl) (by kernel_rfl) (fun _ _ _ h => h) (Or.inl ⟨by rfl, ?_⟩) (by assumption) ?_
    rotate_left 1
    · intro w hSw
      try dsimp only at hSw
      go_simp
      try with_reducible rfl
    try simp only [List.getElem_toArray, List.getElem_cons_zero, List.getElem_cons_succ, Act.put, List.setIfInBounds_toArray, List.set_cons_zero, List.set_cons_succ]
    refine wpAnyH_take (i := 14) (oi := _) (v := _) rfl (by kernel_rfl) (by kernel_rfl) (by kernel_rfl) (fun _ _ _ h => h) (yields_load (by rfl) _ _ (by rfl) _ (by rfl) _ (fun w h => h.2.2.2)) (by assumption) ?_
    try simp only [List.getElem_toArray, List.getElem_cons_zero, List.getElem_cons_succ, Act.put, List.setIfInBounds_toArray, List.set_cons_zero, List.set_cons_succ]
    refine wpAnyH_ready (rs := [8]) (by kernel_rfl) (by simp) (AllReadyH.cons rfl (fun K hK => ?_) AllReadyH.nil)
    go_simp
    refine (newout_no a b x ep w1 HY.out).mono ?_
    rintro e w2 ⟨rfl, hc⟩
    have H2 := Lib.hid (And.intro (HD.out.2.trans hc) (HD.out.1.chg hc (by simp)))
    clear hc HD
    go_wp2_with fail
    refine hK.out _ _ (ends_held H2.out.2) (fun hHeld => ?_)
    clear hK K
    try simp only [List.getElem_toArray, List.getElem_cons_zero, List.getElem_cons_succ, Act.put, List.setIfInBounds_toArray, List.set_cons_zero, List.set_cons_succ]
    refine wpAnyH_ready (rs := [15]) (by kernel_rfl) (by simp) (AllReadyH.cons rfl (fun K hK => ?_) AllReadyH.nil)
    go_simp
    refine (newin_q a b x w2).mono ?_
    rintro e w3 ⟨q, rfl, hc⟩
    have H3 := Lib.hid (And.intro (H2.out.1.trans hc) (H2.out.2.chg hc (by simp)))
    clear hc H2
    go_wp2_with fail
    refine hK.out _ _ (ends_held H3.out.2) (fun hHeld => ?_)
    clear hK K
    try simp only [List.getElem_toArray, List.getElem_cons_zero, List.getElem_cons_succ, Act.put, List.setIfInBounds_toArray, List.set_cons_zero, List.set_cons_succ]
    refine wpAnyH_take (i := 16) (oi := _) (v := ?_) rfl (by kernel_rfl) (by kernel_rfl) (by kernel_rfl) (fun _ _ _ h => h) (Or.inl ⟨by rfl, ?_⟩) (by assumption) ?_
    rotate_left 1
    · intro w hSw
      try dsimp only at hSw
      go_simp
      try with_reducible rfl
    try simp only [List.getElem_toArray, List.getElem_cons_zero, List.getElem_cons_succ, Act.put, List.setIfInBounds_toArray, List.set_cons_zero, List.set_cons_succ]
    refine wpAnyH_take (i := 17) (oi := _) (v := ?_) rfl (by kernel_rfl) (by kernel_rfl) (by kernel_rfl) (fun _ _ _ h => h) (Or.inl ⟨by rfl, ?_⟩) (by assumption) ?_
    rotate_left 1
    · intro w hSw
      try dsimp only at hSw
      go_simp
      try with_reducible rfl
    try simp only [List.getElem_toArray, List.getElem_cons_zero, List.getElem_cons_succ, Act.put, List.setIfInBounds_toArray, List.set_cons_zero, List.set_cons_succ]
    refine wpAnyH_done (by kernel_rfl) ?_ _
    refine NoPanic.normal ?_
    go_wp2_with fail
    refine (lives_any _ (HL.out.chg0 H3.out.1)).mono ?_
    rintro e wF ⟨rfl, hc⟩
    have HF := Lib.hid ((H3.out.1).trans hc)
    clear hc
    go_wp2
    go_ret
    exact ⟨rfl, HF.out.below (Nat.le_refl _) (by simp)⟩
end Go.Proofs.YtmiijmiikpmcgaaDoor.linkEpochs
end
