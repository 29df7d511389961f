/- Texts joined: PkGd, LHold, LkSt. -/
import Derived.Deep.RegionHeld3
import Derived.Deep.QuietTactic
import Derived.BigQuiet
import Derived.Test.YtmiijmiikpmcgaaDoorRLinkEpochsM1
import Derived.Test.YtmiijmiikpmcgaaDoorRLinkEpochsM3
import Derived.Test.YtmiijmiikpmcgaaDoorRLinkEpochsM4
import Derived.Test.YtmiijmiikpmcgaaDoorRLinkEpochsM7
section
/- packet.Good. -/
set_option linter.unusedVariables false
set_option linter.unusedSimpArgs false
namespace Go.Proofs.YtmiijmiikpmcgaaDoor
open Go.RowKit
open Go.Proofs.YtmiijmiikpmcgaaDoor.Pk (Pkt)

theorem goodP_far {p : Pkt} (h : p.kind < 1 ∨ 4 < p.kind) : Pk.goodP p = false := by
  unfold Pk.goodP
  rcases h with h | h
  · rw [decide_eq_false (by omega : ¬ 1 ≤ p.kind)]
    rfl
  · rw [decide_eq_false (by omega : ¬ p.kind ≤ 4), Bool.false_and, Bool.and_false]
theorem goodP_at {p : Pkt} {k : Int} (hk : p.kind = k) (h1 : 1 ≤ k) (h4 : k ≤ 4) : Pk.goodP p = (((decide (k = 2) || decide (0 < p.ep)) && (!decide (k = 3) || Ac.goodM p.m)) && (Pk.siteP p.fr && (Pk.siteP p.dst && (!decide (p.fr = p.dst) && Pk.sameP p p.part)))) := by
  unfold Pk.goodP
  rw [hk, decide_eq_true h1, decide_eq_true h4, Bool.true_and, Bool.true_and, Bool.and_assoc]
/-- A packet's block, and that of its parts. -/
structure AtP (w : World) (zb : Nat) (wx : World) (p z : Pkt) : Prop where
  a : Blk wx w.heap.size 30 (PkS.cells p)
  z : Blk wx zb 30 (PkS.cells z)
  c : Chg [] w wx
  lt : w.heap.size < zb
theorem AtP.to {w wx wy : World} {zb : Nat} {p z : Pkt} (h : AtP w zb wx p z) (hc : Chg [] wx wy) : AtP w zb wy p z := ⟨h.a.chg hc (by simp), h.z.chg hc (by simp), h.c.trans hc, h.lt⟩
theorem AtP.setZ {w wx wy : World} {zb : Nat} {p z z' : Pkt} (h : AtP w zb wx p z) (hc : Chg [zb] wx wy) (hz : Blk wy zb 30 (PkS.cells z')) : AtP w zb wy p z' :=
  ⟨h.a.chg hc (by have := h.lt; simp; omega), hz, h.c.then_ hc (fun b hb => by have := h.lt; simp at hb; omega), h.lt⟩
def mayP (p : Pkt) : Bool := (decide (1 ≤ p.kind) && decide (p.kind ≤ 4)) && (decide (p.kind = 2) || decide (0 < p.ep))
theorem goodP_may (p : Pkt) : Pk.goodP p = ((mayP p && (!decide (p.kind = 3) || Ac.goodM p.m)) && (Pk.siteP p.fr && (Pk.siteP p.dst && (!decide (p.fr = p.dst) && Pk.sameP p p.part)))) := by
  unfold Pk.goodP mayP
  simp only [Bool.and_assoc]
/-- Behind the switch. -/
def MidP (p : Pkt) (w : World) (zb : Nat) (s : Value) (wx : World) : Prop := ∃ b, s = .bool b ∧ Pk.goodP p = (b && (Pk.siteP p.fr && (Pk.siteP p.dst && (!decide (p.fr = p.dst) && Pk.sameP p p.part)))) ∧ AtP w zb wx p p.part
set_option maxRecDepth 100000 in
set_option maxHeartbeats 16000000 in
theorem pgood_any (p : Pkt) (hs : p.m.Small) (w : World) (hK : KndAt w) : Calls Tryd.prog 41 #[pkV p] w fun e w' => e = .returned (.bool (Pk.goodP p)) ∧ Chg [] w w' := by
  have hc := (Chg.refl [] w).alloc (.cells (PkS.cells p) 30)
  have H := Lib.hid (And.intro (Blk.new w 30 (PkS.cells p)) (And.intro hc hK))
  have HS := Lib.hid hs
  clear hc hK hs
  unfold pkV
  go_enter Tryd.func41, Tryd.ntmps41
  go_upto_region 1 with fail
  generalize w.alloc (.cells (PkS.cells p) 30) = W at *
  have c0 : W.cell? ⟨w.heap.size, 0, none⟩ = some (.int .i64 p.kind) := H.out.1.cell 0
  have c1 : W.cell? ⟨w.heap.size, 1, none⟩ = some (.int .i64 p.fr) := H.out.1.cell 1
  have c2 : W.cell? ⟨w.heap.size, 2, none⟩ = some (.int .i64 p.dst) := H.out.1.cell 2
  have c3 : W.cell? ⟨w.heap.size, 3, none⟩ = some (.int .u64 p.ep) := H.out.1.cell 3
  go_upto_region 2 with fail
  have hzb : w.heap.size < W.heap.size := H.out.1.lt
  have H1 : Hid (AtP w W.heap.size (W.alloc (.cells (PkS.cells p.bare) 30)) p p.bare) := Lib.hid ⟨H.out.1.alloc _, Blk.new W _ _, H.out.2.1.alloc _, hzb⟩
  clear c0 c1 c2 c3
  change Code.wp _ _ _ _ (W.alloc (.cells (PkS.cells p.bare) 30))
  generalize W.alloc (.cells (PkS.cells p.bare) 30) = W1 at *
  generalize W.heap.size = zb at *
  have hne : w.heap.size ≠ zb := by omega
  go_cut [4] (fun s wx => s = .bool (mayP p) ∧ AtP w zb wx p p.bare)
  case first =>
    have hl1 := load_pk H1.out.a
    go_wp2_with (refine wpList_loadW _ _ (by rfl) _ _ (by rfl) hl1 (by rfl) ?_)
    refine (kind_any p W1 (H.out.2.2.chg0 H1.out.c)).mono ?_
    rintro e w2 ⟨rfl, hc⟩
    have H2 := Lib.hid (H1.out.to hc)
    clear hc hl1
    have c3 : w2.cell? ⟨w.heap.size, 3, none⟩ = some (.int .u64 p.ep) := H2.out.a.cell 3
    have c0 : w2.cell? ⟨w.heap.size, 0, none⟩ = some (.int .i64 p.kind) := H2.out.a.cell 0
    have hkk : p.kind = 1 ∨ p.kind = 2 ∨ p.kind = 3 ∨ p.kind = 4 ∨ (p.kind < 1 ∨ 4 < p.kind) := by omega
    rcases hkk with hk | hk | hk | hk | hk
    · have HM := Lib.hid (show mayP p = (false || decide (0 < p.ep)) by unfold mayP; rw [hk]; rfl)
      rw [hk] at c0 ⊢
      clear hk
      by_cases hE : 0 < p.ep
      · have HE := Lib.hid hE
        have t1 : decide (0 < p.ep) = true := decide_eq_true hE
        clear hE
        unfold kindS
        go_wp2_with fail
        go_meet
        exact ⟨by rw [HM.out, decide_eq_true HE.out]; rfl, H2.out⟩
      · have HE := Lib.hid hE
        have t1 : decide (0 < p.ep) = false := decide_eq_false hE
        clear hE
        unfold kindS
        go_wp2_with fail
        go_meet
        exact ⟨by rw [HM.out, show decide (0 < p.ep) = false from decide_eq_false (by have := HE.out; omega)]; rfl, H2.out⟩
    · have HM := Lib.hid (show mayP p = (true || decide (0 < p.ep)) by unfold mayP; rw [hk]; rfl)
      rw [hk] at c0 ⊢
      clear hk
      by_cases hE : 0 < p.ep
      · have HE := Lib.hid hE
        have t1 : decide (0 < p.ep) = true := decide_eq_true hE
        clear hE
        unfold kindS
        go_wp2_with fail
        go_meet
        exact ⟨by rw [HM.out, decide_eq_true HE.out]; rfl, H2.out⟩
      · have HE := Lib.hid hE
        have t1 : decide (0 < p.ep) = false := decide_eq_false hE
        clear hE
        unfold kindS
        go_wp2_with fail
        go_meet
        exact ⟨by rw [HM.out, show decide (0 < p.ep) = false from decide_eq_false (by have := HE.out; omega)]; rfl, H2.out⟩
    · have HM := Lib.hid (show mayP p = (false || decide (0 < p.ep)) by unfold mayP; rw [hk]; rfl)
      rw [hk] at c0 ⊢
      clear hk
      by_cases hE : 0 < p.ep
      · have HE := Lib.hid hE
        have t1 : decide (0 < p.ep) = true := decide_eq_true hE
        clear hE
        unfold kindS
        go_wp2_with fail
        go_meet
        exact ⟨by rw [HM.out, decide_eq_true HE.out]; rfl, H2.out⟩
      · have HE := Lib.hid hE
        have t1 : decide (0 < p.ep) = false := decide_eq_false hE
        clear hE
        unfold kindS
        go_wp2_with fail
        go_meet
        exact ⟨by rw [HM.out, show decide (0 < p.ep) = false from decide_eq_false (by have := HE.out; omega)]; rfl, H2.out⟩
    · have HM := Lib.hid (show mayP p = (false || decide (0 < p.ep)) by unfold mayP; rw [hk]; rfl)
      rw [hk] at c0 ⊢
      clear hk
      by_cases hE : 0 < p.ep
      · have HE := Lib.hid hE
        have t1 : decide (0 < p.ep) = true := decide_eq_true hE
        clear hE
        unfold kindS
        go_wp2_with fail
        go_meet
        exact ⟨by rw [HM.out, decide_eq_true HE.out]; rfl, H2.out⟩
      · have HE := Lib.hid hE
        have t1 : decide (0 < p.ep) = false := decide_eq_false hE
        clear hE
        unfold kindS
        go_wp2_with fail
        go_meet
        exact ⟨by rw [HM.out, show decide (0 < p.ep) = false from decide_eq_false (by have := HE.out; omega)]; rfl, H2.out⟩
    · have HM := Lib.hid (show mayP p = false by
        unfold mayP
        rcases hk with h | h
        · rw [decide_eq_false (by omega : ¬ 1 ≤ p.kind)]
          rfl
        · rw [decide_eq_false (by omega : ¬ p.kind ≤ 4), Bool.and_false, Bool.false_and])
      rw [kindS_far hk]
      clear hk
      go_wp2_with fail
      go_meet
      exact ⟨by rw [HM.out], H2.out⟩
  case rest =>
    obtain ⟨rfl, hat⟩ := hcut
    have HB := Lib.hid hat
    have HGM := Lib.hid (goodP_may p)
    clear hat H1
    generalize mayP p = mb at *
    have c0 : wc.cell? ⟨w.heap.size, 0, none⟩ = some (.int .i64 p.kind) := HB.out.a.cell 0
    generalize wc = w0 at *
    go_upto_block 0 with fail
    go_cut [4] (fun s wx => MidP p w zb s wx)
    case first =>
      clear c0
      have hkk : p.kind = 3 ∨ p.kind = 4 ∨ (¬ p.kind = 3 ∧ ¬ p.kind = 4) := by omega
      rcases hkk with hk | hk | hk
      · have HPT := Lib.hid (show p.part = { p.bare with num := p.num, m := p.m } by unfold Pk.Pkt.part; rw [if_pos hk])
        have HG := Lib.hid (show Pk.goodP p = ((mb && Ac.goodM p.m) && (Pk.siteP p.fr && (Pk.siteP p.dst && (!decide (p.fr = p.dst) && Pk.sameP p p.part)))) by rw [HGM.out, decide_eq_true hk]; rfl)
        have e3 : (p.kind == 3) = true := by rw [hk]; rfl
        clear hk
        go_upto_region 5 with fail
        go_cut [] (fun wx => AtP w zb wx p { p.bare with num := p.num, m := p.m })
        case first =>
          refine wp_region_noPanic ?_
          refine wp_region_held_drew (S := fun w' => (Instr.loadAt 24 (.pointer (some ⟨w.heap.size, 4, none⟩))).run Tryd.prog w' = .ok (.int .u16 p.num) w' ∧ (Instr.loadAt 28 (.pointer (some ⟨w.heap.size, 6, none⟩))).run Tryd.prog w' = .ok (.agg p.m.cells) w') (by kernel_rfl) ⟨load_pkn (w := w0.drew) HB.out.a, load_pkm (w := w0.drew) HB.out.a⟩ (fun hHeld => ?_)
          have HD := Lib.hid (HB.out.to (wy := w0.drew) ((Chg.refl [] _).drew))
          refine wpAnyH_take (i := 0) (oi := _) (v := ?_) rfl (by kernel_rfl) (by kernel_rfl) (by kernel_rfl) (fun _ _ _ h => h) (Or.inl ⟨by rfl, ?_⟩) (by assumption) ?_
          rotate_left 1
          · intro w hSw
            try dsimp only at hSw
            go_simp
            try with_reducible rfl
          try simp only [List.getElem_toArray, List.getElem_cons_zero, List.getElem_cons_succ, Act.put, List.setIfInBounds_toArray, List.set_cons_zero, List.set_cons_succ]
          refine wpAnyH_take (i := 1) (oi := _) (v := _) rfl (by kernel_rfl) (by kernel_rfl) (by kernel_rfl) (fun _ _ _ h => h) (yields_load (by rfl) _ _ (by rfl) _ (by rfl) _ (fun w h => h.1)) (by assumption) ?_
          try simp only [List.getElem_toArray, List.getElem_cons_zero, List.getElem_cons_succ, Act.put, List.setIfInBounds_toArray, List.set_cons_zero, List.set_cons_succ]
          refine wpAnyH_take (i := 2) (oi := _) (v := ?_) rfl (by kernel_rfl) (by kernel_rfl) (by kernel_rfl) (fun _ _ _ h => h) (Or.inl ⟨by rfl, ?_⟩) (by assumption) ?_
          rotate_left 1
          · intro w hSw
            try dsimp only at hSw
            go_simp
            try with_reducible rfl
          try simp only [List.getElem_toArray, List.getElem_cons_zero, List.getElem_cons_succ, Act.put, List.setIfInBounds_toArray, List.set_cons_zero, List.set_cons_succ]
          refine wpAnyH_take (i := 3) (oi := _) (v := _) rfl (by kernel_rfl) (by kernel_rfl) (by kernel_rfl) (fun _ _ _ h => h) (yields_load (by rfl) _ _ (by rfl) _ (by rfl) _ (fun w h => h.2)) (by assumption) ?_
          try simp only [List.getElem_toArray, List.getElem_cons_zero, List.getElem_cons_succ, Act.put, List.setIfInBounds_toArray, List.set_cons_zero, List.set_cons_succ]
          refine wpAnyH_take (i := 4) (oi := _) (v := ?_) rfl (by kernel_rfl) (by kernel_rfl) (by kernel_rfl) (fun _ _ _ h => h) (Or.inl ⟨by rfl, ?_⟩) (by assumption) ?_
          rotate_left 1
          · intro w hSw
            try dsimp only at hSw
            go_simp
            try with_reducible rfl
          try simp only [List.getElem_toArray, List.getElem_cons_zero, List.getElem_cons_succ, Act.put, List.setIfInBounds_toArray, List.set_cons_zero, List.set_cons_succ]
          refine wpAnyH_ready (rs := [5]) (by kernel_rfl) (by simp) (AllReadyH.cons rfl (fun K hK => ?_) AllReadyH.nil)
          refine step_store rfl _ _ _ (by rfl) _ _ (by rfl) (by rfl) _ (store_pkn HD.out.z p.num) ?_
          have HE1 := Lib.hid (HD.out.setZ (z' := { p.bare with num := p.num }) (set_chg _ zb 4 (.int .u16 p.num)) (HD.out.z.set_ 4 (.int .u16 p.num)))
          refine hK.out _ _ ⟨load_pkn HE1.out.a, load_pkm HE1.out.a⟩ (fun hHeld => ?_)
          clear hK K
          try simp only [List.getElem_toArray, List.getElem_cons_zero, List.getElem_cons_succ, Act.put, List.setIfInBounds_toArray, List.set_cons_zero, List.set_cons_succ]
          refine wpAnyH_take (i := 6) (oi := _) (v := ?_) rfl (by kernel_rfl) (by kernel_rfl) (by kernel_rfl) (fun _ _ _ h => h) (Or.inl ⟨by rfl, ?_⟩) (by assumption) ?_
          rotate_left 1
          · intro w hSw
            try dsimp only at hSw
            go_simp
            try with_reducible rfl
          try simp only [List.getElem_toArray, List.getElem_cons_zero, List.getElem_cons_succ, Act.put, List.setIfInBounds_toArray, List.set_cons_zero, List.set_cons_succ]
          obtain ⟨w9, hst, hb9, hc9⟩ := store_pkm HE1.out.z p.m
          have HE2 := Lib.hid (HE1.out.setZ hc9 hb9)
          clear hb9 hc9
          refine wpAnyH_ready (rs := [7]) (by kernel_rfl) (by simp) (AllReadyH.cons rfl (fun K hK => ?_) AllReadyH.nil)
          refine step_store rfl _ _ _ (by rfl) _ _ (by rfl) (by rfl) _ hst ?_
          refine hK.out _ _ ⟨load_pkn HE2.out.a, load_pkm HE2.out.a⟩ (fun hHeld => ?_)
          clear hK K
          try simp only [List.getElem_toArray, List.getElem_cons_zero, List.getElem_cons_succ, Act.put, List.setIfInBounds_toArray, List.set_cons_zero, List.set_cons_succ]
          refine wpAnyH_done (by kernel_rfl) ?_ _
          refine NoPanic.normal ?_
          go_wp2_with fail
          go_meet
          exact HE2.out
        case rest =>
          have H2 := Lib.hid hcut
          clear hcut
          cases mb with
          | false =>
            go_wp2_with fail
            go_meet
            exact ⟨_, rfl, by rw [HG.out]; rfl, by rw [HPT.out]; exact H2.out⟩
          | true =>
            have hlm := load_pkm H2.out.a
            go_wp2_with (refine wpList_loadW _ _ (by rfl) _ _ (by rfl) hlm (by rfl) ?_)
            refine (goodm_any p.m HS.out _).mono ?_
            rintro e w3 ⟨rfl, hc⟩
            have H3 := Lib.hid (H2.out.to hc)
            clear hlm hc
            generalize Ac.goodM p.m = gm at *
            go_wp2_with fail
            go_meet
            exact ⟨_, rfl, by rw [HG.out]; cases gm <;> rfl, by rw [HPT.out]; exact H3.out⟩
      · have HPT := Lib.hid (show p.part = { p.bare with num := p.num, mask := p.mask } by unfold Pk.Pkt.part; rw [if_neg (by omega), if_pos hk])
        have HG := Lib.hid (show Pk.goodP p = (mb && (Pk.siteP p.fr && (Pk.siteP p.dst && (!decide (p.fr = p.dst) && Pk.sameP p p.part)))) by rw [HGM.out, decide_eq_false (by omega : ¬ p.kind = 3), Bool.not_false, Bool.true_or, Bool.and_true])
        have e3 : (p.kind == 3) = false := by rw [hk]; rfl
        have e4 : (p.kind == 4) = true := by rw [hk]; rfl
        clear hk
        have ff := fun i => HB.out.z.frozen i
        have c4 : w0.cell? ⟨w.heap.size, 4, none⟩ = some (.int .u16 p.num) := HB.out.a.cell 4
        have d4 : w0.cell? ⟨zb, 4, none⟩ = some (.int .u16 0) := HB.out.z.cell 4
        have c5 : w0.cell? ⟨w.heap.size, 5, none⟩ = some (.int .u64 p.mask) := HB.out.a.cell 5
        have d5 : w0.cell? ⟨zb, 5, none⟩ = some (.int .u64 0) := HB.out.z.cell 5
        go_upto_region 8 with fail
        go_region
        all_goals
          go_wp2_with fail
          go_meet
          refine ⟨_, rfl, HG.out, ?_⟩
          rw [HPT.out]
          first
          | exact HB.out.setZ ((Chg.refl _ _).drew.trans ((set_chg _ zb 4 _).trans (set_chg _ zb 5 _))) ((HB.out.z.set_ 4 _).set_ 5 _)
          | exact HB.out.setZ ((Chg.refl _ _).drew.trans ((set_chg _ zb 5 _).trans (set_chg _ zb 4 _))) ((HB.out.z.set_ 5 _).set_ 4 _)
      · have HPT := Lib.hid (show p.part = p.bare by unfold Pk.Pkt.part; rw [if_neg hk.1, if_neg hk.2])
        have HG := Lib.hid (show Pk.goodP p = (mb && (Pk.siteP p.fr && (Pk.siteP p.dst && (!decide (p.fr = p.dst) && Pk.sameP p p.part)))) by rw [HGM.out, decide_eq_false hk.1, Bool.not_false, Bool.true_or, Bool.and_true])
        have e3 : (p.kind == 3) = false := by simp; omega
        have e4 : (p.kind == 4) = false := by simp; omega
        clear hk
        go_wp2_with fail
        go_meet
        exact ⟨_, rfl, HG.out, by rw [HPT.out]; exact HB.out⟩
    case rest =>
      obtain ⟨b, rfl, hg, hat⟩ := hcut
      have HA := Lib.hid hat
      have HG := Lib.hid hg
      clear hat hg c0 HB HGM
      generalize wc = wr at *
      have cf : wr.cell? ⟨w.heap.size, 1, none⟩ = some (.int .i64 p.fr) := HA.out.a.cell 1
      have cd : wr.cell? ⟨w.heap.size, 2, none⟩ = some (.int .i64 p.dst) := HA.out.a.cell 2
      cases b with
      | false =>
        go_wp2_with fail
        go_ret
        exact ⟨by rw [HG.out]; rfl, HA.out.c⟩
      | true =>
        go_wp2_with fail
        refine (site_any p.fr wr).mono ?_
        rintro e w5 ⟨rfl, rfl⟩
        have HG1 := Lib.hid (show Pk.goodP p = (Pk.siteP p.fr && (Pk.siteP p.dst && (!decide (p.fr = p.dst) && Pk.sameP p p.part))) by rw [HG.out]; rfl)
        generalize Pk.siteP p.fr = s1 at *
        cases s1 with
        | false =>
          go_wp2_with fail
          go_ret
          exact ⟨by rw [HG1.out]; rfl, HA.out.c⟩
        | true =>
          go_wp2_with fail
          refine (site_any p.dst wr).mono ?_
          rintro e w5 ⟨rfl, rfl⟩
          generalize Pk.siteP p.dst = s2 at *
          cases s2 with
          | false =>
            go_wp2_with fail
            go_ret
            exact ⟨by rw [HG1.out]; rfl, HA.out.c⟩
          | true =>
            by_cases hne : p.fr = p.dst
            · have HG2 := Lib.hid (show Pk.goodP p = false by rw [HG1.out, decide_eq_true hne]; rfl)
              have t1 : (p.fr != p.dst) = false := by rw [hne]; simp
              clear hne
              go_wp2_with fail
              go_ret
              exact ⟨by rw [HG2.out]; rfl, HA.out.c⟩
            · have HG2 := Lib.hid (show Pk.goodP p = Pk.sameP p p.part by rw [HG1.out, decide_eq_false hne]; rfl)
              have t1 : (p.fr != p.dst) = true := by simpa using hne
              have hl1 := load_pk HA.out.a
              have hl2 := load_pk HA.out.z
              have heq := run_eql_pk p p.part wr
              clear hne
              go_wp2_with (first | (refine wpList_loadW _ _ (by rfl) _ _ (by rfl) hl1 (by rfl) ?_) | (refine wpList_loadW _ _ (by rfl) _ _ (by rfl) hl2 (by rfl) ?_) | (refine wpList_eqW _ _ _ _ _ (by rfl) _ _ _ (by rfl) (by rfl) (fun _ _ => eqGuard_agg (by kernel_rfl) _ _ _ _ _) heq (by rfl) ?_))
              go_ret
              exact ⟨by rw [HG2.out]; rfl, HA.out.c⟩
end Go.Proofs.YtmiijmiikpmcgaaDoor
end
section
/- A region that draws its order and whose operations keep a class of worlds: one walk of the text's order serves every order. -/
set_option linter.unusedVariables false
set_option linter.unusedSimpArgs false
namespace Go.Proofs.YtmiijmiikpmcgaaDoor
open Go Go.RowKit

/-- A world of the class. -/
structure Hold (S : World → Prop) where
  W : World
  h : S W
theorem wp_region_hold {P : Program} (S : World → Prop) {id : Nat} {Q : Exit → Act → World → Prop} {a : Act} {w : World} {l : List Oper} (hm : P.follows .mixedOrders = true) (hB : Region.lexB .any l.toArray = true) (hS : S w.drew)
    (h : wpQuiet P l.toArray (fun w' => ∃ x : Hold S, w' = x.W) (fun a' => ∀ w', (∃ x : Hold S, w' = x.W) → Q .normal a' w') l a) : (Code.region id l.toArray true).wp P Q a w :=
  wp_region_quiet (C := fun w' => ∃ x : Hold S, w' = x.W) hm hB ⟨⟨_, hS⟩, rfl⟩ (by simpa using h)
theorem Calls.hold {P : Program} {S : World → Prop} {f : FuncId} {args : Array Value} {w : World} {v : Value} {R : World → Prop}
    (h : Calls P f args w fun e w' => e = .returned v ∧ R w') (hR : ∀ w', R w' → S w') : Calls P f args w fun e w'' => e = .returned v ∧ ∃ x : Hold S, w'' = x.W :=
  h.mono fun _ w' ⟨he, hr⟩ => ⟨he, ⟨w', hR w' hr⟩, rfl⟩
/-- A whole load in such a walk. -/
theorem wpQuiet_loadW {P : Program} {ops : Array Oper} {C : World → Prop} {Q : Act → Prop} {a : Act} {o : Oper} {rest : List Oper} (hw : Region.wanted o (yielded ops a.tmps) = true) (ty : TypeId) (x : Operand) (ho : o.op = .load ty x)
    (p v : Value) (hx : a.eval x = p) (hr : ∀ w, C w → (Instr.loadAt ty p).run P w = .ok v w) (h : wpQuiet P ops C Q rest (a.put o.dst v)) : wpQuiet P ops C Q (o :: rest) a :=
  BigFrame.wpQuiet_want hw fun K hK => ⟨v, fun w hc => by
    unfold Oper.quietAt execOp
    simp only [ho, hx, Sem.run_bind, Sem.run_pure, Result.andThen_ok, hr w hc]
    exact ⟨rfl, rfl⟩, hK _ h⟩
end Go.Proofs.YtmiijmiikpmcgaaDoor
end
section
/- Package link: the ends of links as values; say, hears, made. -/
set_option linter.unusedVariables false
set_option linter.unusedSimpArgs false
namespace Go.Proofs.YtmiijmiikpmcgaaDoor
open Go.RowKit
open Go.Proofs.YtmiijmiikpmcgaaDoor.Pk (Pkt)

theorem blk_other {w : World} {g : Nat} {t t' : TypeId} {cs cs' : Array Value} (h : Blk w g t cs) (hne : t ≠ t') : ¬ Blk w g t' cs' := fun h' => blk_ne h h' hne rfl
/-- What a packet to the other end is. -/
def sayP (self other kind : Int) (ep : Int) : Pkt := { Pk.Pkt.zero with kind := kind, fr := self, dst := other, ep := ep }
def hearsP (self other : Int) (p : Pkt) : Bool := Pk.goodP p && ((p.fr == other) && (p.dst == self))
set_option maxRecDepth 100000 in
set_option maxHeartbeats 4000000 in
theorem say_any (w : World) (b : Nat) (self other kind ep : Int) (h0 : w.cell? ⟨b, 0, none⟩ = some (.int .i64 self)) (h1 : w.cell? ⟨b, 1, none⟩ = some (.int .i64 other)) :
    Calls Tryd.prog 23 #[.pointer (some ⟨b, 0, none⟩), .int .i64 kind, .int .u64 ep] w fun e w' => e = .returned (pkV (sayP self other kind ep)) ∧ Chg [] w w' := by
  have hb := World.block_lt_of_cell? w _ h0
  simp only at hb
  have hne : b ≠ w.heap.size := by omega
  go_enter Tryd.func23, Tryd.ntmps23
  go_upto_region 1 with fail
  have H := Lib.hid (And.intro (Blk.new w 30 (PkS.cells Pk.Pkt.zero)) ((Chg.refl [] w).alloc (.cells (PkS.cells Pk.Pkt.zero) 30)))
  change Code.wp _ _ _ _ (w.alloc (.cells (PkS.cells Pk.Pkt.zero) 30))
  have g0 : (w.alloc (.cells (PkS.cells Pk.Pkt.zero) 30)).cell? ⟨b, 0, none⟩ = some (.int .i64 self) := H.out.2.cell_some h0 (by simp)
  have g1 : (w.alloc (.cells (PkS.cells Pk.Pkt.zero) 30)).cell? ⟨b, 1, none⟩ = some (.int .i64 other) := H.out.2.cell_some h1 (by simp)
  clear h0 h1
  generalize w.alloc (.cells (PkS.cells Pk.Pkt.zero) 30) = W at *
  refine wp_region_noPanic ?_
  refine wp_region_held_drew (S := fun w' => w'.cell? ⟨b, 0, none⟩ = some (.int .i64 self) ∧ w'.cell? ⟨b, 1, none⟩ = some (.int .i64 other)) (by kernel_rfl) ⟨g0, g1⟩ (fun hHeld => ?_)
  have H2 := Lib.hid (And.intro (H.out.1.drewN 1) (H.out.2.drew))
  obtain ⟨w10, hst, hb10, hc10⟩ := store_pk (w := W.drew) (p := sayP self other kind ep) H2.out.1 rfl
  have HF := Lib.hid (And.intro hb10 (H2.out.2.then_ hc10 (fun b hb => by simp at hb; subst hb; exact .inr (Nat.le_refl _))))
  have HK : w10.cell? ⟨b, 0, none⟩ = some (.int .i64 self) ∧ w10.cell? ⟨b, 1, none⟩ = some (.int .i64 other) := ⟨hc10.cell_some g0 (by simpa using hne), hc10.cell_some g1 (by simpa using hne)⟩
  have HK := Lib.hid HK
  clear hb10 hc10 H H2 g0 g1
  refine wpAnyH_take (i := 0) (oi := _) (v := ?_) rfl (by kernel_rfl) (by kernel_rfl) (by kernel_rfl) (fun _ _ _ h => h) (Or.inl ⟨by rfl, ?_⟩) (by assumption) ?_
  rotate_left 1
  · intro w hSw
    try dsimp only at hSw
    go_simp
    try with_reducible rfl
  try simp only [List.getElem_toArray, List.getElem_cons_zero, List.getElem_cons_succ, Act.put, List.setIfInBounds_toArray, List.set_cons_zero, List.set_cons_succ]
  refine wpAnyH_take (i := 1) (oi := _) (v := ?_) rfl (by kernel_rfl) (by kernel_rfl) (by kernel_rfl) (fun _ _ _ h => h) (Or.inl ⟨by rfl, ?_⟩) (by assumption) ?_
  rotate_left 1
  · intro w hSw
    try dsimp only at hSw
    go_simp
    try with_reducible rfl
  try simp only [List.getElem_toArray, List.getElem_cons_zero, List.getElem_cons_succ, Act.put, List.setIfInBounds_toArray, List.set_cons_zero, List.set_cons_succ]
  refine wpAnyH_take (i := 2) (oi := _) (v := ?_) rfl (by kernel_rfl) (by kernel_rfl) (by kernel_rfl) (fun _ _ _ h => h) (Or.inl ⟨by rfl, ?_⟩) (by assumption) ?_
  rotate_left 1
  · intro w hSw
    try dsimp only at hSw
    go_simp
    try with_reducible rfl
  try simp only [List.getElem_toArray, List.getElem_cons_zero, List.getElem_cons_succ, Act.put, List.setIfInBounds_toArray, List.set_cons_zero, List.set_cons_succ]
  refine wpAnyH_take (i := 3) (oi := _) (v := ?_) rfl (by kernel_rfl) (by kernel_rfl) (by kernel_rfl) (fun _ _ _ h => h) (Or.inl ⟨by rfl, ?_⟩) (by assumption) ?_
  rotate_left 1
  · intro w hSw
    try dsimp only at hSw
    go_simp
    try with_reducible rfl
  try simp only [List.getElem_toArray, List.getElem_cons_zero, List.getElem_cons_succ, Act.put, List.setIfInBounds_toArray, List.set_cons_zero, List.set_cons_succ]
  refine wpAnyH_take (i := 4) (oi := _) (v := ?_) rfl (by kernel_rfl) (by kernel_rfl) (by kernel_rfl) (fun _ _ _ h => h) (Or.inl ⟨by rfl, ?_⟩) (by assumption) ?_
  rotate_left 1
  · intro w hSw
    try dsimp only at hSw
    go_simp
    try with_reducible rfl
  try simp only [List.getElem_toArray, List.getElem_cons_zero, List.getElem_cons_succ, Act.put, List.setIfInBounds_toArray, List.set_cons_zero, List.set_cons_succ]
  refine wpAnyH_take (i := 5) (oi := _) (v := ?_) rfl (by kernel_rfl) (by kernel_rfl) (by kernel_rfl) (fun _ _ _ h => h) (Or.inl ⟨by rfl, ?_⟩) (by assumption) ?_
  rotate_left 1
  · intro w hSw
    try dsimp only at hSw
    go_simp
    try with_reducible rfl
  try simp only [List.getElem_toArray, List.getElem_cons_zero, List.getElem_cons_succ, Act.put, List.setIfInBounds_toArray, List.set_cons_zero, List.set_cons_succ]
  refine wpAnyH_take (i := 6) (oi := _) (v := ?_) rfl (by kernel_rfl) (by kernel_rfl) (by kernel_rfl) (fun _ _ _ h => h) (Or.inl ⟨by rfl, ?_⟩) (by assumption) ?_
  rotate_left 1
  · intro w hSw
    try dsimp only at hSw
    go_simp
    try with_reducible rfl
  try simp only [List.getElem_toArray, List.getElem_cons_zero, List.getElem_cons_succ, Act.put, List.setIfInBounds_toArray, List.set_cons_zero, List.set_cons_succ]
  refine wpAnyH_take (i := 7) (oi := _) (v := ?_) rfl (by kernel_rfl) (by kernel_rfl) (by kernel_rfl) (fun _ _ _ h => h) (Or.inl ⟨by rfl, ?_⟩) (by assumption) ?_
  rotate_left 1
  · intro w hSw
    try dsimp only at hSw
    go_simp
    try with_reducible rfl
  try simp only [List.getElem_toArray, List.getElem_cons_zero, List.getElem_cons_succ, Act.put, List.setIfInBounds_toArray, List.set_cons_zero, List.set_cons_succ]
  refine wpAnyH_take (i := 8) (oi := _) (v := ?_) rfl (by kernel_rfl) (by kernel_rfl) (by kernel_rfl) (fun _ _ _ h => h) (Or.inl ⟨by rfl, ?_⟩) (by assumption) ?_
  rotate_left 1
  · intro w hSw
    try dsimp only at hSw
    go_simp
    try with_reducible rfl
  try simp only [List.getElem_toArray, List.getElem_cons_zero, List.getElem_cons_succ, Act.put, List.setIfInBounds_toArray, List.set_cons_zero, List.set_cons_succ]
  refine wpAnyH_take (i := 9) (oi := _) (v := ?_) rfl (by kernel_rfl) (by kernel_rfl) (by kernel_rfl) (fun _ _ _ h => h) (Or.inl ⟨by rfl, ?_⟩) (by assumption) ?_
  rotate_left 1
  · intro w hSw
    try dsimp only at hSw
    go_simp
    try with_reducible rfl
  try simp only [List.getElem_toArray, List.getElem_cons_zero, List.getElem_cons_succ, Act.put, List.setIfInBounds_toArray, List.set_cons_zero, List.set_cons_succ]
  refine wpAnyH_take (i := 10) (oi := _) (v := ?_) rfl (by kernel_rfl) (by kernel_rfl) (by kernel_rfl) (fun _ _ _ h => h) (Or.inl ⟨by rfl, ?_⟩) (by assumption) ?_
  rotate_left 1
  · intro w hSw
    try dsimp only at hSw
    go_simp
    try with_reducible rfl
  try simp only [List.getElem_toArray, List.getElem_cons_zero, List.getElem_cons_succ, Act.put, List.setIfInBounds_toArray, List.set_cons_zero, List.set_cons_succ]
  refine wpAnyH_ready (rs := [11]) (by kernel_rfl) (by simp) (AllReadyH.cons rfl (fun K hK => ?_) AllReadyH.nil)
  refine step_store rfl _ _ _ (by rfl) _ _ (by rfl) (by rfl) _ hst ?_
  refine hK.out _ _ HK.out (fun hHeld => ?_)
  clear hK K
  try simp only [List.getElem_toArray, List.getElem_cons_zero, List.getElem_cons_succ, Act.put, List.setIfInBounds_toArray, List.set_cons_zero, List.set_cons_succ]
  refine wpAnyH_done (by kernel_rfl) ?_ _
  refine NoPanic.normal ?_
  have hlv := lvar_pk HF.out.1
  clear hst
  go_wp2
  exact bodyPost_ret (results_cell Tryd.results23 _ _ _ _ _ (by rfl) hlv) rfl ⟨rfl, HF.out.2⟩
/-- A packet in memory, in whatever world of the class. -/
theorem hold_pk {B : World} {pb : Nat} {p : Pkt} (h : Blk B pb 30 (PkS.cells p)) (w : World) (hw : ∃ x : Hold (Chg [] B), w = x.W) : (Instr.loadAt 30 (.pointer (some ⟨pb, 0, none⟩))).run Tryd.prog w = .ok (.agg (PkS.cells p)) w := by
  obtain ⟨x, rfl⟩ := hw
  exact load_pk (h.chg x.h (by simp))
set_option maxRecDepth 100000 in
set_option maxHeartbeats 4000000 in
theorem hears_any (w : World) (b : Nat) (self other : Int) (p : Pkt) (hs : p.m.Small) (hK : KndAt w) (h0 : w.cell? ⟨b, 0, none⟩ = some (.int .i64 self)) (h1 : w.cell? ⟨b, 1, none⟩ = some (.int .i64 other)) :
    Calls Tryd.prog 25 #[.pointer (some ⟨b, 0, none⟩), pkV p] w fun e w' => e = .returned (.bool (hearsP self other p)) ∧ Chg [] w w' := by
  have HP := Lib.hid (fun (B : World) (hB : KndAt B) (x : Hold (Chg [] B)) => pgood_any p hs x.W (hB.chg0 x.h))
  unfold pkV at HP ⊢
  have hc0 := (Chg.refl [] w).alloc (.cells (PkS.cells p) 30)
  have HB := Lib.hid (And.intro (Blk.new w 30 (PkS.cells p)) (And.intro hc0 (And.intro (hK.chg0 hc0) (And.intro (hc0.cell_some h0 (by simp)) (hc0.cell_some h1 (by simp))))))
  clear hs hK h0 h1 hc0
  unfold hearsP
  obtain ⟨gp, hgp⟩ : ∃ g, g = Pk.goodP p := ⟨_, rfl⟩
  rw [← hgp] at HP ⊢
  obtain ⟨e1, he1⟩ : ∃ e, (p.fr == other) = e := ⟨_, rfl⟩
  obtain ⟨e2, he2⟩ : ∃ e, (p.dst == self) = e := ⟨_, rfl⟩
  rw [he1, he2]
  clear hgp
  go_enter Tryd.func25, Tryd.ntmps25
  go_upto_region 1 with fail
  generalize w.alloc (.cells (PkS.cells p) 30) = B at *
  generalize hpb : w.heap.size = pb at *
  have HD := Lib.hid (And.intro (HB.out.1.drewN 1) (And.intro (HB.out.2.1.drew) (And.intro (HB.out.2.2.1.chg0 ((Chg.refl [] B).drew)) (And.intro (((Chg.refl [] B).drew).cell_some HB.out.2.2.2.1 (by simp)) (((Chg.refl [] B).drew).cell_some HB.out.2.2.2.2 (by simp))))))
  clear HB hpb
  obtain ⟨D, hD⟩ : ∃ D, D = B.drew := ⟨_, rfl⟩
  have hS0 : Chg [] D B.drew := by rw [hD]; exact Chg.refl _ _
  have HD : Hid (Blk D pb 30 (PkS.cells p) ∧ Chg [] w D ∧ KndAt D ∧ D.cell? ⟨b, 0, none⟩ = some (.int .i64 self) ∧ D.cell? ⟨b, 1, none⟩ = some (.int .i64 other)) := Lib.hid (by rw [hD]; exact HD.out)
  have HS0 := Lib.hid hS0
  clear hD hS0
  have hl := Lib.hid (hold_pk HD.out.1)
  have c0 : ∀ x : Hold (Chg [] D), x.W.cell? ⟨b, 0, none⟩ = some (.int .i64 self) := fun x => x.h.cell_some HD.out.2.2.2.1 (by simp)
  have c1 : ∀ x : Hold (Chg [] D), x.W.cell? ⟨b, 1, none⟩ = some (.int .i64 other) := fun x => x.h.cell_some HD.out.2.2.2.2 (by simp)
  have d1 : ∀ x : Hold (Chg [] D), x.W.cell? ⟨pb, 1, none⟩ = some (.int .i64 p.fr) := fun x => x.h.cell_some (HD.out.1.cell 1) (by simp)
  have d2 : ∀ x : Hold (Chg [] D), x.W.cell? ⟨pb, 2, none⟩ = some (.int .i64 p.dst) := fun x => x.h.cell_some (HD.out.1.cell 2) (by simp)
  have HP := Lib.hid (HP.out D HD.out.2.2.1)
  have HC := Lib.hid HD.out.2.1
  have hne : Nonempty (Hold (Chg [] D)) := ⟨⟨_, HS0.out⟩⟩
  clear HD
  cases gp <;> cases e1 <;> cases e2
  all_goals
    refine wp_region_hold (Chg [] D) (by kernel_rfl) (by kernel_rfl) HS0.out ?_
    refine wpQuiet_loadW (by rfl) _ _ (by rfl) _ _ (by rfl) hl.out ?_
    try simp only [List.getElem_toArray, List.getElem_cons_zero, List.getElem_cons_succ, Act.put, List.setIfInBounds_toArray, List.set_cons_zero, List.set_cons_succ]
    repeat (go_big_quiet_step (first | (with_reducible exact Calls.hold (HP.out (Hold.mk _ (Hold.h _))) (fun w' hc => Chg.trans (Hold.h _) hc))))
    refine wpQuiet_nil ?_
    rintro _ ⟨⟨wy, hy⟩, rfl⟩
    go_wp2_with fail
    go_ret
    exact ⟨rfl, HC.out.trans hy⟩
end Go.Proofs.YtmiijmiikpmcgaaDoor
end
