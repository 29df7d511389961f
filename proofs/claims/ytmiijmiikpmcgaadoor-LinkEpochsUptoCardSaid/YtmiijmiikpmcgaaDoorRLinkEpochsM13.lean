/- Texts joined: LkLv, LkEpP, LMsgOpen, LRows, LRowsS, AcOp, PkOb, LkOp, LkLi. -/
import Derived.ChangeArms
import Derived.WideShapes
import Derived.Test.YtmiijmiikpmcgaaDoorProg
import Derived.WalkKit
import Derived.Deep.Slices
import Derived.SizedLaws
import Derived.Test.YtmiijmiikpmcgaaDoorRLinkEpochsM3
import Derived.Test.YtmiijmiikpmcgaaDoorRLinkEpochsM7
import Derived.Test.YtmiijmiikpmcgaaDoorRLinkEpochsM9
import Derived.Test.YtmiijmiikpmcgaaDoorRLinkEpochsM10
import Derived.Test.YtmiijmiikpmcgaaDoorRLinkEpochsM11
import Derived.Test.YtmiijmiikpmcgaaDoorRLinkEpochsM12
section
/- The law package's set, lives (link): true. -/
set_option linter.unusedVariables false
set_option linter.unusedSimpArgs false
namespace Go.Proofs.YtmiijmiikpmcgaaDoor
open Go.RowKit
open Go.Proofs.YtmiijmiikpmcgaaDoor.Pk (Pkt)

def set4 : Set4 := ⟨4, 3, 200, 6⟩
def msg1 : Msg := ⟨1, 1, 1, ⟨#[120]⟩, ⟨#[]⟩, ⟨#[]⟩⟩
def o0 : OS := OS.new 1 2 set4 5
def o1 : OS := { o0 with hello := 1 }
def o2 : OS := { o1 with up := true, ws := WS.new 4 3 }
def o3 : OS := { o2 with ws := wu 4 3 0 1 1 }
def o4 : OS := { o3 with ws := wu 4 3 1 0 0 }
def i0 : IS := IS.new 1 2 set4
def i1 : IS := { i0 with ep := 5, ib := ⟨4, 0, []⟩ }
def i2 : IS := { i1 with ib := ⟨4, 0, [(0, msg1)]⟩ }
def i3 : IS := { i2 with ib := ⟨4, 1, []⟩ }
def p1 : Pkt := sayP 1 2 1 5
def p2 : Pkt := sayP 2 1 2 5
def p3 : Pkt := { sayP 1 2 3 5 with num := 0, m := msg1 }
def p4 : Pkt := { sayP 2 1 4 5 with num := 1, mask := 0 }
theorem small_zero : (Msg.zero).Small := by
  exact ⟨by decide, by decide, by decide⟩
theorem small_msg1 : msg1.Small := ⟨by decide, by decide, by decide⟩
theorem good_of {p : Pkt} (h : p = p.part) (h2 : (decide (1 ≤ p.kind) && (decide (p.kind ≤ 4) && ((decide (p.kind = 2) || decide (0 < p.ep)) && ((!decide (p.kind = 3) || Ac.goodM p.m) && (Pk.siteP p.fr && (Pk.siteP p.dst && !decide (p.fr = p.dst))))))) = true) : Pk.goodP p = true := by
  unfold Pk.goodP
  rw [(Pk.sameP_iff p p.part).2 h]
  simpa using h2
theorem good1 : Pk.goodP p1 = true := good_of rfl rfl
theorem good2 : Pk.goodP p2 = true := good_of rfl rfl
theorem good3 : Pk.goodP p3 = true := good_of rfl (by kernel_rfl)
theorem good4 : Pk.goodP p4 = true := good_of rfl rfl
theorem may12 : mayB 1 2 set4 = true := rfl
theorem tick1 : o0.tick 0 [] = ([p1], o1) := rfl
theorem ihear1 : i0.hear p1 = (([p2], false), i1) := by
  unfold IS.hear hearsP
  rw [good1]
  rfl
theorem ohear2 : o1.hear p2 = (0, o2) := by
  unfold OS.hear hearsP
  rw [good2]
  rfl
theorem tick3 : o2.tick 0 [msg1] = ([p3], o3) := by
  have h1 := send_first 4 3 0 0 1 0 (by omega)
  have e : o2.ws = wu 4 3 0 0 0 := by unfold o2; exact new_wu 4 3
  unfold OS.tick
  rw [if_pos (by rfl), e]
  show ((wu 4 3 0 0 0).sends ((1 : Nat) : Int) ((0 : Nat) : Int) |>.map (dataP o2 [msg1]), ({ o2 with ws := (wu 4 3 0 0 0).send ((1 : Nat) : Int) ((0 : Nat) : Int) } : OS)) = _
  rw [h1.1, h1.2]
  rfl
theorem ihear3 : i1.hear p3 = (([], true), i2) := by
  unfold IS.hear hearsP
  rw [good3]
  rfl
theorem head3 : i2.ib.headM = msg1 ∧ i2.ib.pops = true ∧ i2.ib.pop1 = i3.ib := ⟨rfl, rfl, rfl⟩
theorem ack3 : ackP i3 = p4 := rfl
theorem ohear4 : o3.hear p4 = (1, o4) := by
  have hn : ¬ ackNo (wu 4 3 0 1 1) 1 := by
    rintro (h | h | ⟨i, h1, h2⟩)
    · revert h; decide
    · revert h; decide
    · have e : farZ (wu 4 3 0 1 1).base 1 = 1 := by decide
      rw [e] at h1
      have := sent_wu 4 3 0 1 1 (by omega) i (by omega)
      omega
  have e1 : ackK (wu 4 3 0 1 1) 1 = 1 := by
    unfold ackK
    rw [if_neg hn]
    rfl
  have e2 : ackS (wu 4 3 0 1 1) 1 0 = wu 4 3 1 0 0 := by
    unfold ackS
    rw [if_neg hn]
    exact ack_wu 4 3 0 1 1 1 0
  unfold OS.hear hearsP
  rw [good4]
  show OS.there o3 p4 = _
  unfold OS.there
  rw [if_neg (by rintro (h | h); exact absurd h (by decide); exact h rfl), if_neg (by decide)]
  show (ackK (wu 4 3 0 1 1) 1, ({ o3 with ws := ackS (wu 4 3 0 1 1) 1 0 } : OS)) = _
  rw [e1, e2]
  rfl
theorem open4 : openN o4.ws.f 32 = 0 := open_wu0 4 3 1
theorem ok_p (p : Pkt) (h : (0 ≤ p.ep ∧ p.ep < 18446744073709551616) ∧ (0 ≤ p.num ∧ p.num < 65536) ∧ (0 ≤ p.mask ∧ p.mask < 18446744073709551616)) : PkOk p := ⟨h.1, h.2.1, h.2.2⟩
set_option maxRecDepth 100000 in
set_option maxHeartbeats 2000000 in
theorem set_any (w : World) : Calls Tryd.prog 16 #[] w fun e w' => e = .returned (.agg set4.cells) ∧ Chg [] w w' := by
  go_enter Tryd.func16, Tryd.ntmps16
  go_upto_region 1 with fail
  have hb := Blk.new w 59 (Set4.cells ⟨0, 0, 0, 0⟩)
  change Code.wp _ _ _ _ (w.alloc (.cells (Set4.cells ⟨0, 0, 0, 0⟩) 59))
  obtain ⟨w', hst, hb2, hc⟩ := store_blk (P := Tryd.prog) (ds := set4.cells) hb rfl (by kernel_rfl) (by simp [Set4.cells, Value.oneCell'])
  have H := Lib.hid (And.intro hb2 (((Chg.refl [] w).alloc (.cells (Set4.cells ⟨0, 0, 0, 0⟩) 59)).then_ hc (fun b hb => by simp at hb; subst hb; exact .inr (Nat.le_refl _))))
  clear hb2 hc hb
  go_wp2_with (refine wpList_storeR (by rfl) _ _ _ (by rfl) _ _ (by rfl) (by rfl) _ hst ?_)
  have hlv := lvar_blk H.out.1 Tryd.underlying59 rfl (by kernel_rfl)
  exact bodyPost_ret (results_cell Tryd.results16 _ _ _ _ _ (by rfl) hlv) rfl ⟨rfl, H.out.2⟩
/-- Both ends, of the call's own. -/
structure Both (w0 w : World) (ob op ib ip im : Nat) (o : OS) (i : IS) : Prop where
  o : OSt w0 w ob op o
  i : ISt w0 w ib ip im i
section
variable {w0 w w' : World} {ob op ib ip im : Nat} {o o' : OS} {i i' : IS}
theorem Both.to (h : Both w0 w ob op ib ip im o i) (hc : Chg [] w w') : Both w0 w' ob op ib ip im o i := ⟨h.o.to hc, h.i.to hc⟩
theorem Both.chg (h : Both w0 w ob op ib ip im o i) : Chg [] w0 w := h.o.chg
/-- The Out changes. -/
theorem Both.setO (h : Both w0 w ob op ib ip im o i) (ho : OSt w0 w' ob op o') (hc : Chg [ob, op] w w') : Both w0 w' ob op ib ip im o' i := by
  have a1 := blk_ne h.i.blk h.o.blk (by decide)
  have a2 := blk_ne h.i.blk h.o.win.win (by decide)
  have a3 := blk_ne h.i.box.box.blk h.o.blk (by decide)
  have a4 := blk_ne h.i.box.box.blk h.o.win.win (by decide)
  have a5 := map_ne h.o.blk h.i.box.box.map
  have a6 := map_ne (show Blk w op _ _ from h.o.win.win) h.i.box.box.map
  refine ⟨ho, h.i.blk.chg hc (by simp; omega), ⟨h.i.box.box.chg hc (by simp; omega) (by simp; omega), h.i.box.ne, h.i.box.own1, h.i.box.own2, ho.chg⟩, h.i.own⟩
/-- The In changes. -/
theorem Both.setI (h : Both w0 w ob op ib ip im o i) (hi : ISt w0 w' ib ip im i') (hc : Chg [ib, ip, im] w w') : Both w0 w' ob op ib ip im o i' := by
  have a1 := blk_ne h.i.blk h.o.blk (by decide)
  have a2 := blk_ne h.i.blk h.o.win.win (by decide)
  have a3 := blk_ne h.i.box.box.blk h.o.blk (by decide)
  have a4 := blk_ne h.i.box.box.blk h.o.win.win (by decide)
  have a5 := map_ne h.o.blk h.i.box.box.map
  have a6 := map_ne (show Blk w op _ _ from h.o.win.win) h.i.box.box.map
  refine ⟨⟨h.o.blk.chg hc (by simp; omega), ⟨h.o.win.win.chg hc (by simp; omega), h.o.win.ok, h.o.win.own, hi.chg⟩, h.o.own, h.o.ne⟩, hi⟩
end
set_option maxRecDepth 100000 in
set_option maxHeartbeats 16000000 in
theorem lives_any (w : World) (hL : LaidL w) : Calls Tryd.prog 18 #[] w fun e w' => e = .returned (.bool true) ∧ Chg [] w w' := by
  have HL := Lib.hid hL
  clear hL
  go_enter Tryd.func18, Tryd.ntmps18
  go_wp2_with fail
  refine (set_any w).mono ?_
  rintro e w1 ⟨rfl, hc⟩
  have C1 := Lib.hid hc
  clear hc
  go_wp2_with fail
  refine (newout_yes w 1 2 set4 5 w1 C1.out may12 (by decide)).mono ?_
  rintro e w2 ⟨ob, op, rfl, ho, hc⟩
  have H2 := Lib.hid ho
  clear ho hc
  go_wp2_with fail
  refine (set_any w2).mono ?_
  rintro e w3 ⟨rfl, hc⟩
  have H3 := Lib.hid (H2.out.to hc)
  clear hc H2
  go_wp2_with fail
  refine (newin_yes w 1 2 set4 w3 H3.out.chg may12).mono ?_
  rintro e w4 ⟨ib, ip, im, rfl, hi, hc⟩
  have H4 : Hid (Both w w4 ob op ib ip im o0 i0) := Lib.hid ⟨H3.out.to hc, hi⟩
  clear hi hc H3
  go_wp2_with fail
  refine (tick_out H4.out.o 0 (by decide) (by decide) none 0 0 [] (MsAt.nil _) (fun x hx => by simp [sB] at hx) (by omega)).mono ?_
  rintro e w5 ⟨A, m, c, rfl, hp, ho, hc⟩
  rw [tick1] at hp ho
  obtain rfl : m = 1 := hp.len
  obtain ⟨g, off, rfl, hl1, hcell⟩ := hp.at_.load (i := 0) (x := p1) rfl
  have d0 : w5.cell? ⟨g, off, none⟩ = some (.int .i64 1) := hcell 0 _ rfl
  have H5 := Lib.hid (H4.out.setO ho hc)
  have HQ := Lib.hid hl1
  clear hp ho hc H4 hcell hl1
  go_upto_region 5 with fail
  clear d0
  have hl1 := HQ.out
  go_wp2_with (refine wpList_loadW _ _ (by rfl) _ _ (by rfl) hl1 (by rfl) ?_)
  have HW := hear_in H5.out.i (HL.out.2.chg0 H5.out.chg) p1 small_zero
  unfold pkV at HW
  refine HW.mono ?_
  rintro e w6 ⟨A, m, c2, rfl, hp, hi, hc⟩
  rw [ihear1] at hp hi ⊢
  clear HW hl1 HQ
  obtain rfl : m = 1 := hp.len
  obtain ⟨g2, off2, rfl, hl2, hcell⟩ := hp.at_.load (i := 0) (x := p2) rfl
  have H6 := Lib.hid (H5.out.setI hi hc)
  have HQ := Lib.hid hl2
  clear hp hi hc H5 hcell hl2
  have hl1 := HQ.out
  go_wp2_with (refine wpList_loadW _ _ (by rfl) _ _ (by rfl) hl1 (by rfl) ?_)
  have HW := hear_out H6.out.o (HL.out.1) (HL.out.2.chg0 H6.out.chg) (by decide) (by decide) p2 (ok_p _ (by decide)) small_zero
  unfold pkV at HW
  refine HW.mono ?_
  rintro e w7 ⟨rfl, ho, hc⟩
  rw [ohear2] at ho ⊢
  clear HW hl1 HQ
  have H7 := Lib.hid (H6.out.setO ho hc)
  clear ho hc H6
  go_wp2_with fail
  refine (up_out H7.out.o).mono ?_
  rintro e w8 ⟨rfl, rfl⟩
  rw [show o2.up = true from rfl]
  go_upto_region 9 with fail
  change Code.wp _ _ _ _ (w7.alloc (.cells msg1.cells 28))
  have hc := (Chg.refl [] w7).alloc (.cells msg1.cells 28)
  have H9 := Lib.hid (And.intro (H7.out.to hc) (Blk.new w7 28 msg1.cells))
  clear hc H7
  generalize w7.alloc (.cells msg1.cells 28) = w9 at *
  generalize w7.heap.size = mp at *
  have hl1 := load_blk H9.out.2 Tryd.underlying28 rfl info_msg
  have hca := (Chg.refl [] w9).alloc (.cells msg1.cells 28)
  have HM := Lib.hid (And.intro (H9.out.1.to hca) (And.intro (H9.out.2.chg hca (by simp)) (MsAt.lit w9 msg1)))
  have hbo := H9.out.1.o.lt
  have hbp := H9.out.1.o.win.win.lt
  have HB := Lib.hid (And.intro hbo hbp)
  clear hca H9 hbo hbp
  go_wp2_with (first | (refine wpList_loadW _ _ (by rfl) _ _ (by rfl) hl1 (by rfl) ?_) | (refine wpList_bsMs (by rfl) _ (by rfl) msg1 (by rfl) ?_))
  clear hl1
  refine (tick_out HM.out.1.o 0 (by decide) (by decide) _ 1 1 [msg1] HM.out.2.2 (fun x hx => .inr (by simp [sB] at hx; subst hx; have := HB.out; omega)) (by omega)).mono ?_
  rintro e wa ⟨A, m, c3, rfl, hp, ho, hc⟩
  rw [tick3] at hp ho
  obtain rfl : m = 1 := hp.len
  obtain ⟨g3, off3, rfl, hl1, hcell⟩ := hp.at_.load (i := 0) (x := p3) rfl
  have hmp : mp ≠ ob ∧ mp ≠ op := ⟨blk_ne HM.out.2.1 HM.out.1.o.blk (by decide), blk_ne HM.out.2.1 HM.out.1.o.win.win (by decide)⟩
  have Ha := Lib.hid (And.intro (HM.out.1.setO ho hc) (HM.out.2.1.chg hc (by simp; omega)))
  have HQ := Lib.hid hl1
  clear hp ho hc HM hcell hl1 hmp HB
  go_upto_region 12 with fail
  have hl1 := HQ.out
  go_wp2_with (refine wpList_loadW _ _ (by rfl) _ _ (by rfl) hl1 (by rfl) ?_)
  have HW := hear_in Ha.out.1.i (HL.out.2.chg0 Ha.out.1.chg) p3 small_msg1
  unfold pkV at HW
  refine HW.mono ?_
  rintro e wb ⟨A, m, c4, rfl, hp, hi, hc⟩
  rw [ihear3] at hp hi ⊢
  clear HW hl1 HQ hp
  have hmp : mp ≠ ib ∧ mp ≠ ip ∧ mp ≠ im := ⟨blk_ne Ha.out.2 Ha.out.1.i.blk (by decide), blk_ne Ha.out.2 Ha.out.1.i.box.box.blk (by decide), map_ne Ha.out.2 Ha.out.1.i.box.box.map⟩
  have Hb := Lib.hid (And.intro (Ha.out.1.setI hi hc) (Ha.out.2.chg hc (by simp; omega)))
  clear hi hc hmp Ha
  go_wp2_with fail
  refine (head_in Hb.out.1.i).mono ?_
  rintro e wc ⟨rfl, hc⟩
  rw [head3.1, head3.2.1]
  have Hc := Lib.hid (And.intro (Hb.out.1.to hc) (Hb.out.2.chg hc (by simp)))
  clear hc Hb
  unfold msgV
  obtain ⟨wd, hst, hb, hc⟩ := new_ms wc msg1
  have Hd := Lib.hid (And.intro (Hc.out.1.to hc) (And.intro (Hc.out.2.chg hc (by simp)) hb))
  clear hb hc Hc
  go_upto_region 14 with (refine wpList_storeR (by rfl) _ _ _ (by rfl) _ _ (by rfl) (by rfl) _ hst ?_)
  clear hst
  generalize wc.heap.size = mq at *
  have hl1 := load_blk Hd.out.2.2 Tryd.underlying28 rfl info_msg
  have hl2 := load_blk Hd.out.2.1 Tryd.underlying28 rfl info_msg
  have heq := run_neq_msg msg1 msg1 wd
  rw [(sameM_iff msg1 msg1).2 rfl] at heq
  unfold msgV at heq
  go_wp2_with (first | (refine wpList_loadW _ _ (by rfl) _ _ (by rfl) hl1 (by rfl) ?_) | (refine wpList_loadW _ _ (by rfl) _ _ (by rfl) hl2 (by rfl) ?_) | (refine wpList_eqW _ _ _ _ _ (by rfl) _ _ _ (by rfl) (by rfl) (fun _ _ => eqGuard_agg (by kernel_rfl) _ _ _ _ _) heq (by rfl) ?_))
  clear hl1 hl2 heq
  refine (pop_in Hd.out.1.i (by decide) (by decide)).mono ?_
  rintro e we ⟨rfl, hi, hc⟩
  rw [head3.2.1]
  rw [head3.2.2] at hi
  have He := Lib.hid (Hd.out.1.setI (i' := i3) hi (hc.mono (by simp)))
  clear hi hc Hd
  go_wp2_with fail
  refine (ack_in He.out.i).mono ?_
  rintro e wf ⟨rfl, hc⟩
  rw [if_neg (by decide), ack3, show (!(i3.ep == 0)) = true from rfl]
  have Hf := Lib.hid (He.out.to hc)
  clear hc He
  obtain ⟨wg, hst, hb, hc⟩ := new_pk wf p4
  have Hg := Lib.hid (And.intro (Hf.out.to hc) hb)
  clear hb hc Hf
  go_upto_region 17 with (refine wpList_storeR (by rfl) _ _ _ (by rfl) _ _ (by rfl) (by rfl) _ hst ?_)
  clear hst
  generalize wf.heap.size = mr at *
  have hl1 := load_pk Hg.out.2
  have d4 : wg.cell? ⟨mr, 4, none⟩ = some (.int .u16 1) := Hg.out.2.cell 4
  go_wp2_with (refine wpList_loadW _ _ (by rfl) _ _ (by rfl) hl1 (by rfl) ?_)
  have HW := hear_out Hg.out.1.o (HL.out.1) (HL.out.2.chg0 Hg.out.1.chg) (by decide) (by decide) p4 (ok_p _ (by decide)) small_zero
  unfold pkV at HW
  refine HW.mono ?_
  rintro e wh ⟨rfl, ho, hc⟩
  rw [ohear4] at ho ⊢
  clear HW hl1 d4
  have Hh := Lib.hid (Hg.out.1.setO ho hc)
  clear ho hc Hg
  go_wp2_with fail
  refine (open_out Hh.out.o).mono ?_
  rintro e wi ⟨rfl, hc⟩
  rw [open4]
  have Hi := Lib.hid (Hh.out.to hc)
  clear hc Hh
  go_wp2_with fail
  refine (epoch_in Hi.out.i).mono ?_
  rintro e wj ⟨rfl, rfl⟩
  rw [show i3.ep = 5 from rfl]
  go_wp2
  go_ret
  exact ⟨rfl, Hi.out.chg⟩
end Go.Proofs.YtmiijmiikpmcgaaDoor
end
section
/- Epochs, plainly: what ticks and packets do to the ends. -/
set_option linter.unusedVariables false
set_option linter.unusedSimpArgs false
namespace Go.Proofs.YtmiijmiikpmcgaaDoor
open Go.RowKit
open Go.Proofs.YtmiijmiikpmcgaaDoor.Pk (Pkt)

structure OS.Inv (o : OS) (a b : Int) (win : Nat) : Prop where
  self : o.self = a
  other : o.other = b
  ep : 0 ≤ o.ep ∧ o.ep < 18446744073709551616
  hello : 0 ≤ o.hello ∧ o.hello ≤ 1125899906842625
  ok : o.ws.Ok
  size : o.ws.size = win
structure IS.Inv (i : IS) (a b : Int) : Prop where
  self : i.self = b
  other : i.other = a
  ep : 0 ≤ i.ep ∧ i.ep < 18446744073709551616
  ok : i.ib.Ok
theorem OS.Inv.new {a b : Int} {x : Set4} {ep : Int} (h : mayB a b x = true) (h0 : 0 ≤ ep) (h1 : ep < 18446744073709551616) : (OS.new a b x ep).Inv a b x.win.toNat := by
  have hf := mayB_facts h
  exact ⟨rfl, rfl, ⟨h0, h1⟩, ⟨Int.le_refl _, show (0 : Int) ≤ 1125899906842625 by decide⟩, WS.new_ok (by omega) (by omega) (by omega) (by omega), rfl⟩
theorem IS.Inv.new {a b : Int} {x : Set4} (h : mayB a b x = true) : (IS.new a b x).Inv a b := by
  have hf := mayB_facts h
  exact ⟨rfl, rfl, ⟨Int.le_refl _, show (0 : Int) < 18446744073709551616 by decide⟩, IB.Ok.new (by omega) (by omega)⟩
/-- What a tick gives. -/
structure TickOk (o o' : OS) (l : List Pkt) (a b : Int) (win : Nat) : Prop where
  inv : o'.Inv a b win
  ep : o'.ep = o.ep
  up : o'.up = o.up
  all : ∀ p ∈ l, p.kind = (if o.up then 3 else 1) ∧ p.ep = o.ep ∧ p.fr = a ∧ p.dst = b
theorem OS.Inv.tick {o : OS} {a b : Int} {win : Nat} (h : o.Inv a b win) (now : Int) (ms : List Msg) : TickOk o (o.tick now ms).2 (o.tick now ms).1 a b win := by
  have hn := nowN_le now
  unfold OS.tick
  cases hu : o.up with
  | true =>
    rw [if_pos rfl]
    refine ⟨⟨h.self, h.other, h.ep, h.hello, WS.send_ok h.ok _ _, h.size⟩, rfl, hu.symm, fun p hp => ?_⟩
    obtain ⟨v, _, rfl⟩ := List.mem_map.1 hp
    exact ⟨by rw [hu]; rfl, rfl, h.self, h.other⟩
  | false =>
    rw [if_neg (by simp)]
    split
    · exact ⟨h, rfl, rfl, fun p hp => by simp at hp⟩
    · refine ⟨⟨h.self, h.other, h.ep, ⟨by show (0 : Int) ≤ _ + 1; omega, by show (_ : Int) + 1 ≤ _; omega⟩, h.ok, h.size⟩, rfl, hu.symm, fun p hp => ?_⟩
      simp at hp
      subst hp
      exact ⟨by rw [hu]; rfl, rfl, h.self, h.other⟩
/-- What a packet does to the end that sends. -/
structure HearOk (o o' : OS) (n : Nat) (a b : Int) (win : Nat) : Prop where
  inv : o'.Inv a b win
  ge : o.ep ≤ o'.ep
  new : ¬ o'.ep = o.ep → o'.up = false
  le : n ≤ win
  up : 0 < n → o.up = true
theorem OS.Inv.again {o : OS} {a b : Int} {win : Nat} (h : o.Inv a b win) : HearOk o o.again 0 a b win := by
  obtain ⟨h1, h2⟩ := h.ep
  refine ⟨⟨h.self, h.other, ?_, ⟨Int.le_refl _, show (0 : Int) ≤ 1125899906842625 by decide⟩, h.ok, h.size⟩, ?_, fun _ => rfl, Nat.zero_le _, fun h => by omega⟩
  · unfold OS.again
    simp only
    split <;> omega
  · unfold OS.again
    simp only
    split <;> omega
theorem OS.Inv.hear {o : OS} {a b : Int} {win : Nat} (h : o.Inv a b win) (q : Pkt) (hq : PkOk q) : HearOk o (o.hear q).2 (o.hear q).1 a b win := by
  have same : HearOk o o 0 a b win := ⟨h, Int.le_refl _, fun hh => absurd rfl hh, Nat.zero_le _, fun h => by omega⟩
  unfold OS.hear
  split
  · split
    · show HearOk o (o.welcome q) 0 a b win
      unfold OS.welcome
      split
      · exact h.again
      · split
        · refine ⟨⟨h.self, h.other, h.ep, h.hello, WS.reset_ok h.ok, h.size⟩, Int.le_refl _, fun hh => absurd rfl hh, Nat.zero_le _, fun h => by omega⟩
        · exact same
    · split
      · unfold OS.there
        split
        · exact same
        · rename_i hup
          split
          · exact h.again
          · have hu : o.up = true := by
              cases hh : o.up with
              | true => rfl
              | false => exact absurd (Or.inl hh) hup
            refine ⟨⟨h.self, h.other, h.ep, h.hello, ?_, ?_⟩, Int.le_refl _, fun hh => absurd rfl hh, ?_, fun _ => hu⟩
            · show (ackS o.ws q.num q.mask.toNat).Ok
              unfold ackS
              split
              · exact h.ok
              · rename_i hn
                obtain ⟨n, e, h2, _⟩ := ack_yes_of hn
                have : (farZ o.ws.base q.num).toNat = n := by omega
                rw [this]
                exact WS.ack_ok h.ok _ _ h2 hq.num.1 hq.num.2
            · show (ackS o.ws q.num q.mask.toNat).size = win
              rw [ackS_size]
              exact h.size
            · have := ackK_le (s := o.ws) q.num
              rw [h.size] at this
              exact this
      · exact same
  · exact same
/-- What a packet does to the end that takes in. -/
structure TakeOk (i i' : IS) (l : List Pkt) (a b : Int) : Prop where
  inv : i'.Inv a b
  ge : i.ep ≤ i'.ep
  all : ∀ p ∈ l, p.kind = 2 ∧ p.fr = b ∧ p.dst = a ∧ (p.ep = 0 ∨ p.ep = i'.ep)
theorem IS.Inv.hear {i : IS} {a b : Int} (h : i.Inv a b) (q : Pkt) (hq : PkOk q) : TakeOk i (i.hear q).2 (i.hear q).1.1 a b := by
  have same : TakeOk i i [] a b := ⟨h, Int.le_refl _, fun p hp => by simp at hp⟩
  unfold IS.hear
  split
  · split
    · exact same
    · split
      · split
        · refine ⟨⟨h.self, h.other, hq.ep, IB.Ok.new h.ok.s1 h.ok.s2⟩, by show i.ep ≤ q.ep; omega, fun p hp => ?_⟩
          simp at hp
          subst hp
          exact ⟨rfl, h.self, h.other, .inr rfl⟩
        · refine ⟨h, Int.le_refl _, fun p hp => ?_⟩
          simp at hp
          subst hp
          exact ⟨rfl, h.self, h.other, .inr rfl⟩
      · split
        · split
          · refine ⟨h, Int.le_refl _, fun p hp => ?_⟩
            simp at hp
            subst hp
            exact ⟨rfl, h.self, h.other, .inl rfl⟩
          · exact ⟨⟨h.self, h.other, h.ep, h.ok.take hq.num.1 hq.num.2 q.m⟩, Int.le_refl _, fun p hp => by simp at hp⟩
        · exact same
  · exact same
end Go.Proofs.YtmiijmiikpmcgaaDoor
end
section
/- A message among a law's arguments, opened to its cells. -/
set_option linter.unusedVariables false
set_option linter.unusedSimpArgs false
namespace Go.Proofs.YtmiijmiikpmcgaaDoor
open Go.RowKit Go.ChangeShapes Go.WideShapes
section
variable {H : Type} {enc : TypeId × Value → H} {w : World} {base : Nat} {spare : Nat → Bool} {held : Bool} {fuel : Nat} {cs : List Value} {x : DataW H × List MemPlace}
theorem cellsIdent : Tryd.prog.cellsOf 26 = 2 := by kernel_rfl
theorem cellsMsg : Tryd.prog.cellsOf 28 = 6 := by kernel_rfl
theorem cellsInt : Tryd.prog.cellsOf 3 = 1 := by kernel_rfl
theorem cellsU64 : Tryd.prog.cellsOf 23 = 1 := by kernel_rfl
theorem cellsStr : Tryd.prog.cellsOf 9 = 1 := by kernel_rfl
theorem some_at {α : Type} {xs : List α} {n : Nat} (h : xs.length = n) (i : Nat) (hi : i < n) : ∃ y, xs[i]? = some y := ⟨xs[i]'(by omega), List.getElem?_eq_getElem (by omega)⟩

set_option maxRecDepth 100000 in
theorem trod_ident (h : DataW.trod enc Tryd.prog w base spare held fuel 26 cs = some x) :
    ∃ (o s : Int), cs = [.int .i64 o, .int .u64 s] ∧ (Lit.int .i64 o).wf = true ∧ (Lit.int .u64 s).wf = true := by
  obtain ⟨xs, n, rfl, _, hlen, hxl, hg⟩ := DataW.trod_struct Tryd.underlying26 h
  rw [cellsIdent] at hlen
  match cs, hlen with
  | [c0, c1], _ =>
    obtain ⟨y0, e0⟩ := some_at hxl 0 (by decide)
    obtain ⟨y1, e1⟩ := some_at hxl 1 (by decide)
    have h0 : DataW.trod enc Tryd.prog w base spare held n 3 (([c0, c1].drop 0).take (Tryd.prog.cellsOf 3)) = some y0 := (hg 0 _ rfl).trans e0
    have h1 : DataW.trod enc Tryd.prog w base spare held n 23 (([c0, c1].drop 1).take (Tryd.prog.cellsOf 23)) = some y1 := (hg 1 _ rfl).trans e1
    rw [cellsInt] at h0
    rw [cellsU64] at h1
    obtain ⟨a, ha, _, wa⟩ := DataW.trod_int Tryd.underlying3 h0
    obtain ⟨b, hb, _, wb⟩ := DataW.trod_int Tryd.underlying23 h1
    simp at ha hb
    subst ha hb
    exact ⟨a, b, rfl, wa, wb⟩

structure Msg.Wf (m : Msg) : Prop where
  org : (Lit.int .i64 m.org).wf = true
  seq : (Lit.int .u64 m.seq).wf = true
  hop : (Lit.int .i64 m.hop).wf = true
  ex : m.ex.size ≤ maxLen
  key : m.key.size ≤ maxLen
  body : m.body.size ≤ maxLen
set_option maxRecDepth 100000 in
theorem trod_msg (h : DataW.trod enc Tryd.prog w base spare held fuel 28 cs = some x) : ∃ m : Msg, cs = m.cells.toList ∧ m.Wf := by
  obtain ⟨xs, n, rfl, _, hlen, hxl, hg⟩ := DataW.trod_struct Tryd.underlying28 h
  rw [cellsMsg] at hlen
  match cs, hlen with
  | [c0, c1, c2, c3, c4, c5], _ =>
    obtain ⟨y0, e0⟩ := some_at hxl 0 (by decide)
    obtain ⟨y1, e1⟩ := some_at hxl 1 (by decide)
    obtain ⟨y2, e2⟩ := some_at hxl 2 (by decide)
    obtain ⟨y3, e3⟩ := some_at hxl 3 (by decide)
    obtain ⟨y4, e4⟩ := some_at hxl 4 (by decide)
    have h0 : DataW.trod enc Tryd.prog w base spare held n 26 (([c0, c1, c2, c3, c4, c5].drop 0).take (Tryd.prog.cellsOf 26)) = some y0 := (hg 0 _ rfl).trans e0
    have h1 : DataW.trod enc Tryd.prog w base spare held n 3 (([c0, c1, c2, c3, c4, c5].drop 2).take (Tryd.prog.cellsOf 3)) = some y1 := (hg 1 _ rfl).trans e1
    have h2 : DataW.trod enc Tryd.prog w base spare held n 9 (([c0, c1, c2, c3, c4, c5].drop 3).take (Tryd.prog.cellsOf 9)) = some y2 := (hg 2 _ rfl).trans e2
    have h3 : DataW.trod enc Tryd.prog w base spare held n 9 (([c0, c1, c2, c3, c4, c5].drop 4).take (Tryd.prog.cellsOf 9)) = some y3 := (hg 3 _ rfl).trans e3
    have h4 : DataW.trod enc Tryd.prog w base spare held n 9 (([c0, c1, c2, c3, c4, c5].drop 5).take (Tryd.prog.cellsOf 9)) = some y4 := (hg 4 _ rfl).trans e4
    rw [cellsIdent] at h0
    rw [cellsInt] at h1
    rw [cellsStr] at h2 h3 h4
    obtain ⟨o, s, k0, w0, w0'⟩ := trod_ident h0
    obtain ⟨a, ha, _, wa⟩ := DataW.trod_int Tryd.underlying3 h1
    obtain ⟨s2, k2, _, w2⟩ := DataW.trod_string Tryd.underlying9 h2
    obtain ⟨s3, k3, _, w3⟩ := DataW.trod_string Tryd.underlying9 h3
    obtain ⟨s4, k4, _, w4⟩ := DataW.trod_string Tryd.underlying9 h4
    simp at k0 ha k2 k3 k4
    obtain ⟨rfl, rfl⟩ := k0
    subst ha k2 k3 k4
    exact ⟨⟨o, s, a, s2, s3, s4⟩, rfl, w0, w0', wa, w2, w3, w4⟩
end
end Go.Proofs.YtmiijmiikpmcgaaDoor
end
section
/- A slice of structs among a law's arguments, opened to its cells. -/
set_option linter.unusedVariables false
set_option linter.unusedSimpArgs false
namespace Go.Proofs.YtmiijmiikpmcgaaDoor
open Go.RowKit Go.ChangeShapes Go.WideShapes Go.Deep

/-- The elements of a row, sz cells each. -/
def RowsAt {α : Type} (w : World) (A : Option Addr) (sz : Nat) (cells : α → List Value) (ys : List α) : Prop :=
  (A = none ∧ ys = []) ∨ ∃ a, A = some a ∧ ∀ i y, ys[i]? = some y → ∀ j u, (cells y)[j]? = some u → w.cell? (a.add (i * sz + j)) = some u
theorem RowsAt.get {α : Type} {w : World} {A : Option Addr} {sz : Nat} {cells : α → List Value} {ys : List α} (h : RowsAt w A sz cells ys) {i : Nat} (hi : i < ys.length) :
    ∃ a, A = some a ∧ ∀ j u, (cells ys[i])[j]? = some u → w.cell? (a.add (i * sz + j)) = some u := by
  rcases h with ⟨_, rfl⟩ | ⟨a, rfl, hx⟩
  · simp at hi
  · exact ⟨a, rfl, hx i ys[i] (List.getElem?_eq_getElem hi)⟩
/-- A field's address as the walk writes it. -/
theorem add_fld (a : Addr) (i j : Nat) (hj : 0 < j) : a.add (i + j) = ⟨(a.add i).block, (a.add i).off + j, none⟩ := by
  unfold Addr.add
  rw [if_neg (by omega)]
  split
  · rename_i h; simp [h]
  · simp; omega
theorem list_of {α : Type} (p : Nat → α → Prop) : ∀ (n : Nat), (∀ i, i < n → ∃ y, p i y) → ∃ ys : List α, ys.length = n ∧ ∀ i y, ys[i]? = some y → p i y
  | 0, _ => ⟨[], rfl, fun i y h => by simp at h⟩
  | n + 1, h => by
    obtain ⟨ys, hl, hy⟩ := list_of p n fun i hi => h i (by omega)
    obtain ⟨y, hyn⟩ := h n (by omega)
    refine ⟨ys ++ [y], by simp [hl], fun i z hz => ?_⟩
    rcases Nat.lt_or_ge i n with hi | hi
    · rw [List.getElem?_append_left (by omega)] at hz
      exact hy i z hz
    · rw [List.getElem?_append_right (by omega)] at hz
      have : i - ys.length = 0 := by
        rcases Nat.eq_zero_or_pos (i - ys.length) with h0 | h0
        · exact h0
        · rw [List.getElem?_eq_none (by simp; omega)] at hz; cases hz
      rw [this] at hz
      simp at hz
      subst hz
      have : i = n := by omega
      subst this
      exact hyn
section
variable {H : Type} {enc : TypeId × Value → H} {P : Program} {w : World} {base : Nat} {spare : Nat → Bool} {held : Bool}
theorem open_structs {α : Type} {r : Reach} {b0 : Nat} {t e : TypeId} {sz : Nat} (cells : α → List Value) (ok : α → Prop) (ht : P.underlying t = some (.slice e)) (ce : P.cellsOf e = sz)
    (elem : ∀ (fuel : Nat) (cs : List Value) (x : DataW H × List MemPlace), DataW.trod enc P w base spare held fuel e cs = some x → ∃ y, cs = cells y ∧ ok y)
    {v : Value} {d : DataW H} {p : List MemPlace} (hv : Value.okWide P w r b0 t v) (h : DataW.Trod enc P w base spare held t v d p) :
    ∃ (A : Option Addr) (c : Nat) (ys : List α), v = .slice A ys.length c ∧ ys.length ≤ c ∧ c ≤ maxLen ∧ RowsAt w A sz cells ys ∧ (∀ y ∈ ys, ok y) := by
  obtain ⟨a, len, cap, rfl⟩ := okWide_slice ht hv
  obtain ⟨fuel, hf⟩ := h
  rcases open_slice ht hf with ⟨hcs, _⟩ | ⟨a', len', cap', m, n, D, Pl, hcs, _, hl, hm, hmm, _, hel⟩
  · simp [Value.cells] at hcs
    obtain ⟨rfl, rfl, rfl⟩ := hcs
    exact ⟨none, 0, [], rfl, Nat.le_refl _, by decide, .inl ⟨rfl, rfl⟩, fun y hy => by cases hy⟩
  · simp [Value.cells] at hcs
    obtain ⟨rfl, rfl, rfl⟩ := hcs
    have hlm : len ≤ m := by rw [hmm]; split <;> omega
    obtain ⟨ys, hyl, hy⟩ := list_of (fun i y => ok y ∧ ∀ j u, (cells y)[j]? = some u → w.cell? (a'.add (i * sz + j)) = some u) len fun i hi => by
      obtain ⟨cs', h1, h2⟩ := hel i (by omega)
      obtain ⟨y, hyc, hok⟩ := elem _ _ _ h2
      refine ⟨y, hok, fun j u hu => ?_⟩
      obtain ⟨_, hlen, hcell⟩ := World.cells?_some h1
      rw [← hyc] at hu
      have hj : j < P.cellsOf e := by rw [← hlen]; exact (List.getElem?_eq_some_iff.1 hu).1
      have e0 := hcell j (by omega)
      rw [Go.Deep.add_add, ce] at e0
      exact e0.trans hu
    refine ⟨some a', cap, ys, by rw [hyl], by omega, hm, .inr ⟨a', rfl, fun i y hi => (hy i y hi).2⟩, fun y hm' => ?_⟩
    obtain ⟨i, hi⟩ := List.mem_iff_getElem?.1 hm'
    exact (hy i y hi).1
end
end Go.Proofs.YtmiijmiikpmcgaaDoor
end
section
/- Structs and slices of structs among a law's arguments, with what their sizes are at most. -/
set_option linter.unusedVariables false
set_option linter.unusedSimpArgs false
namespace Go.Proofs.YtmiijmiikpmcgaaDoor
open Go.RowKit Go.ChangeShapes Go.WideShapes Go.Deep

/-- No part is larger than any machine's memory. -/
def Small {H : Type} (P : Program) (t : TypeId) (d : DataW H) : Prop := ∀ n ∈ d.weights P t, n ≤ reachBytes
section
variable {H : Type} {P : Program}
theorem weightsAll_mem {e : TypeId} : ∀ {ds : List (DataW H)} {d : DataW H} {n : Nat}, d ∈ ds → n ∈ d.weights P e → n ∈ DataW.weightsAll P e ds
  | d0 :: ds, d, n, hd, hn => by
    simp only [DataW.weightsAll, List.mem_append]
    rcases List.mem_cons.1 hd with rfl | h
    · exact .inl hn
    · exact .inr (weightsAll_mem h hn)
theorem Small.of {ts : List TypeId} {ds : List (DataW H)} (h : (DataW.weightsEach P ts ds).all (· ≤ reachBytes) = true) {j : Nat} {t : TypeId} {d : DataW H} (ht : ts[j]? = some t) (hd : ds[j]? = some d) : Small P t d :=
  fun n hn => by simpa using List.all_eq_true.1 h n (DataW.weights_mem_each ht hd n hn)
theorem Small.slice {t e : TypeId} {elems spare : List (DataW H)} (h : Small P t (.slice elems spare)) (hu : P.underlying t = some (.slice e)) :
    (elems.length + spare.length) * P.bytesOf e ≤ reachBytes ∧ ∀ d ∈ elems, Small P e d := by
  refine ⟨h _ (by simp [DataW.weights, hu]), fun d hd n hn => h n ?_⟩
  simp only [DataW.weights, hu, List.mem_cons, List.mem_append]
  exact .inr (.inl (weightsAll_mem hd hn))
theorem Small.struct {t : TypeId} {fs : Array Field} {parts : List (DataW H)} (h : Small P t (.agg parts)) (hu : P.underlying t = some (.struct fs)) {i : Nat} {f : Field} {d : DataW H} (hf : fs[i]? = some f) (hd : parts[i]? = some d) : Small P f.type d := by
  intro n hn
  refine h n ?_
  simp only [DataW.weights, hu]
  refine DataW.weights_mem_each (j := i) ?_ hd n hn
  rw [List.getElem?_map, Array.getElem?_toList, hf]
  rfl
theorem Small.string {t : TypeId} {bytes : List UInt8} (h : Small P t (.lit (.string bytes) : DataW H)) : bytes.length ≤ reachBytes := h _ (by simp [DataW.weights])
end
section
variable {H : Type} {enc : TypeId × Value → H} {P : Program} {w : World} {base : Nat} {spare : Nat → Bool} {held : Bool}
theorem trod_structs_s {α : Type} {fuel : Nat} {cs : List Value} {x : DataW H × List MemPlace} {t e : TypeId} {sz : Nat} (cells : α → List Value) (ok : α → Prop) (ht : P.underlying t = some (.slice e)) (ce : P.cellsOf e = sz)
    (elem : ∀ (fuel : Nat) (cs : List Value) (x : DataW H × List MemPlace), DataW.trod enc P w base spare held fuel e cs = some x → Small P e x.1 → ∃ y, cs = cells y ∧ ok y)
    (hf : DataW.trod enc P w base spare held fuel t cs = some x) (hs : Small P t x.1) :
    ∃ (A : Option Addr) (c : Nat) (ys : List α), cs = [.slice A ys.length c] ∧ ys.length ≤ c ∧ c ≤ maxLen ∧ ys.length * P.bytesOf e ≤ reachBytes ∧ RowsAt w A sz cells ys ∧ (∀ y ∈ ys, ok y) ∧ (A = none → c = 0) := by
  rcases open_slice ht hf with ⟨rfl, _⟩ | ⟨a', len, cap, m, n, D, Pl, rfl, _, hl, hm, hmm, rfl, hel⟩
  · exact ⟨none, 0, [], rfl, Nat.le_refl _, by decide, by simp, .inl ⟨rfl, rfl⟩, fun y hy => (by cases hy), fun _ => rfl⟩
  · have hlm : len ≤ m := by rw [hmm]; split <;> omega
    obtain ⟨s1, s2⟩ := hs.slice ht
    simp only [List.length_map, List.length_range] at s1
    obtain ⟨ys, hyl, hy⟩ := list_of (fun i y => ok y ∧ ∀ j u, (cells y)[j]? = some u → w.cell? (a'.add (i * sz + j)) = some u) len fun i hi => by
      obtain ⟨cs', h1, h2⟩ := hel i (by omega)
      obtain ⟨y, hyc, hok⟩ := elem _ _ _ h2 (s2 _ (List.mem_map.2 ⟨i, by simpa using hi, rfl⟩))
      refine ⟨y, hok, fun j u hu => ?_⟩
      obtain ⟨_, hlen, hcell⟩ := World.cells?_some h1
      rw [← hyc] at hu
      have hj : j < P.cellsOf e := by rw [← hlen]; exact (List.getElem?_eq_some_iff.1 hu).1
      have e0 := hcell j (by omega)
      rw [Go.Deep.add_add, ce] at e0
      exact e0.trans hu
    refine ⟨some a', cap, ys, by rw [hyl], by omega, hm, ?_, .inr ⟨a', rfl, fun i y hi => (hy i y hi).2⟩, fun y hm' => ?_, fun h => by cases h⟩
    · rw [hyl]; exact Nat.le_trans (Nat.mul_le_mul_right _ (Nat.le_add_right _ _)) s1
    · obtain ⟨i, hi⟩ := List.mem_iff_getElem?.1 hm'
      exact (hy i y hi).1
theorem open_structs_s {α : Type} {r : Reach} {b0 : Nat} {t e : TypeId} {sz : Nat} (cells : α → List Value) (ok : α → Prop) (ht : P.underlying t = some (.slice e)) (ce : P.cellsOf e = sz)
    (elem : ∀ (fuel : Nat) (cs : List Value) (x : DataW H × List MemPlace), DataW.trod enc P w base spare held fuel e cs = some x → Small P e x.1 → ∃ y, cs = cells y ∧ ok y)
    {v : Value} {d : DataW H} {p : List MemPlace} (hv : Value.okWide P w r b0 t v) (h : DataW.Trod enc P w base spare held t v d p) (hs : Small P t d) :
    ∃ (A : Option Addr) (c : Nat) (ys : List α), v = .slice A ys.length c ∧ ys.length ≤ c ∧ c ≤ maxLen ∧ ys.length * P.bytesOf e ≤ reachBytes ∧ RowsAt w A sz cells ys ∧ (∀ y ∈ ys, ok y) ∧ (A = none → c = 0) := by
  obtain ⟨a, len, cap, rfl⟩ := okWide_slice ht hv
  obtain ⟨fuel, hf⟩ := h
  obtain ⟨A, c, ys, hcs, r⟩ := trod_structs_s cells ok ht ce elem hf hs
  simp [Value.cells] at hcs
  obtain ⟨rfl, rfl, rfl⟩ := hcs
  exact ⟨_, _, ys, rfl, r⟩
end
end Go.Proofs.YtmiijmiikpmcgaaDoor
end
section
/- An act among a law's arguments, opened to its cells. -/
set_option linter.unusedVariables false
set_option linter.unusedSimpArgs false
namespace Go.Proofs.YtmiijmiikpmcgaaDoor
open Go.RowKit Go.ChangeShapes Go.WideShapes
open Go.Proofs.YtmiijmiikpmcgaaDoor.Ac (ActS)
section
variable {H : Type} {enc : TypeId × Value → H} {w : World} {base : Nat} {spare : Nat → Bool} {held : Bool} {fuel : Nat} {cs : List Value} {x : DataW H × List MemPlace}
theorem reach_eq : reachBytes = 140737488351232 := by decide
theorem trod_str_s (h : DataW.trod enc Tryd.prog w base spare held fuel 9 cs = some x) (hs : Small Tryd.prog 9 x.1) : ∃ s : ByteArray, cs = [.string s] ∧ s.size ≤ 140737488351232 := by
  obtain ⟨s, k, rfl, _⟩ := DataW.trod_string Tryd.underlying9 h
  have := hs.string
  rw [reach_eq] at this
  exact ⟨s, k, this⟩
/-- What is known of a message among the arguments. -/
structure Msg.WfS (m : Msg) : Prop where
  org : (Lit.int .i64 m.org).wf = true
  seq : (Lit.int .u64 m.seq).wf = true
  hop : (Lit.int .i64 m.hop).wf = true
  ex : m.ex.size ≤ 140737488351232
  key : m.key.size ≤ 140737488351232
  body : m.body.size ≤ 140737488351232
set_option maxRecDepth 100000 in
theorem trod_msg_s (h : DataW.trod enc Tryd.prog w base spare held fuel 28 cs = some x) (hs : Small Tryd.prog 28 x.1) : ∃ m : Msg, cs = m.cells.toList ∧ m.WfS := by
  obtain ⟨xs, n, rfl, rfl, hlen, hxl, hg⟩ := DataW.trod_struct Tryd.underlying28 h
  rw [cellsMsg] at hlen
  match cs, hlen with
  | [c0, c1, c2, c3, c4, c5], _ =>
    obtain ⟨y0, e0⟩ := some_at hxl 0 (by decide)
    obtain ⟨y1, e1⟩ := some_at hxl 1 (by decide)
    obtain ⟨y2, e2⟩ := some_at hxl 2 (by decide)
    obtain ⟨y3, e3⟩ := some_at hxl 3 (by decide)
    obtain ⟨y4, e4⟩ := some_at hxl 4 (by decide)
    have h0 : DataW.trod enc Tryd.prog w base spare held n 26 (([c0, c1, c2, c3, c4, c5].drop 0).take (Tryd.prog.cellsOf 26)) = some y0 := (hg 0 _ rfl).trans e0
    have h1 : DataW.trod enc Tryd.prog w base spare held n 3 (([c0, c1, c2, c3, c4, c5].drop 2).take (Tryd.prog.cellsOf 3)) = some y1 := (hg 1 _ rfl).trans e1
    have h2 : DataW.trod enc Tryd.prog w base spare held n 9 (([c0, c1, c2, c3, c4, c5].drop 3).take (Tryd.prog.cellsOf 9)) = some y2 := (hg 2 _ rfl).trans e2
    have h3 : DataW.trod enc Tryd.prog w base spare held n 9 (([c0, c1, c2, c3, c4, c5].drop 4).take (Tryd.prog.cellsOf 9)) = some y3 := (hg 3 _ rfl).trans e3
    have h4 : DataW.trod enc Tryd.prog w base spare held n 9 (([c0, c1, c2, c3, c4, c5].drop 5).take (Tryd.prog.cellsOf 9)) = some y4 := (hg 4 _ rfl).trans e4
    rw [cellsIdent] at h0
    rw [cellsInt] at h1
    rw [cellsStr] at h2 h3 h4
    obtain ⟨o, s, k0, w0, w0'⟩ := trod_ident h0
    obtain ⟨a, ha, _, wa⟩ := DataW.trod_int Tryd.underlying3 h1
    obtain ⟨s2, k2, w2⟩ := trod_str_s h2 (hs.struct Tryd.underlying28 (i := 2) rfl (by rw [List.getElem?_map, e2]; rfl))
    obtain ⟨s3, k3, w3⟩ := trod_str_s h3 (hs.struct Tryd.underlying28 (i := 3) rfl (by rw [List.getElem?_map, e3]; rfl))
    obtain ⟨s4, k4, w4⟩ := trod_str_s h4 (hs.struct Tryd.underlying28 (i := 4) rfl (by rw [List.getElem?_map, e4]; rfl))
    simp at k0 ha k2 k3 k4
    obtain ⟨rfl, rfl⟩ := k0
    subst ha k2 k3 k4
    exact ⟨⟨o, s, a, s2, s3, s4⟩, rfl, w0, w0', wa, w2, w3, w4⟩
set_option maxRecDepth 100000 in
theorem open_msgA {r : Reach} {b0 : Nat} {v : Value} {d : DataW H} {p : List MemPlace} (hv : Value.okWide Tryd.prog w r b0 28 v) (h : DataW.Trod enc Tryd.prog w base spare held 28 v d p) (hs : Small Tryd.prog 28 d) :
    ∃ m : Msg, v = msgV m ∧ m.WfS := by
  obtain ⟨cs, rfl, hsz⟩ := okWide_struct Tryd.underlying28 hv
  obtain ⟨fuel, hf⟩ := h
  obtain ⟨a, hc, r⟩ := trod_msg_s hf hs
  refine ⟨a, ?_, r⟩
  obtain ⟨l⟩ := cs
  simp only [Value.cells] at hc
  unfold msgV
  rw [show l = a.cells.toList from hc]
end
end Go.Proofs.YtmiijmiikpmcgaaDoor
end
section
/- A packet among a law's arguments, opened to its cells. -/
set_option linter.unusedVariables false
set_option linter.unusedSimpArgs false
namespace Go.Proofs.YtmiijmiikpmcgaaDoor
open Go.RowKit Go.ChangeShapes Go.WideShapes
open Go.Proofs.YtmiijmiikpmcgaaDoor.Pk (Pkt)
section
variable {H : Type} {enc : TypeId × Value → H} {w : World} {base : Nat} {spare : Nat → Bool} {held : Bool} {fuel : Nat} {cs : List Value} {x : DataW H × List MemPlace}
theorem cellsPk : Tryd.prog.cellsOf 30 = 12 := by kernel_rfl
theorem cellsU16 : Tryd.prog.cellsOf 24 = 1 := by kernel_rfl
/-- What is known of a packet among the arguments. -/
structure PkWf (p : Pkt) : Prop where
  ep : (Lit.int .u64 p.ep).wf = true
  num : (Lit.int .u16 p.num).wf = true
  mask : (Lit.int .u64 p.mask).wf = true
  m : p.m.WfS
theorem list12 {α : Type} {l : List α} (h : l.length = 12) : ∃ a0 a1 a2 a3 a4 a5 a6 a7 a8 a9 b0 b1, l = [a0, a1, a2, a3, a4, a5, a6, a7, a8, a9, b0, b1] := by
  match l, h with
  | [a0, a1, a2, a3, a4, a5, a6, a7, a8, a9, b0, b1], _ => exact ⟨_, _, _, _, _, _, _, _, _, _, _, _, rfl⟩
set_option maxRecDepth 100000 in
theorem trod_pk (h : DataW.trod enc Tryd.prog w base spare held fuel 30 cs = some x) (hs : Small Tryd.prog 30 x.1) : ∃ p : Pkt, cs = (PkS.cells p).toList ∧ PkWf p := by
  obtain ⟨xs, n, rfl, rfl, hlen, hxl, hg⟩ := DataW.trod_struct Tryd.underlying30 h
  rw [cellsPk] at hlen
  obtain ⟨a0, a1, a2, a3, a4, a5, a6, a7, a8, a9, b0, b1, rfl⟩ := list12 hlen
  obtain ⟨y0, e0⟩ := some_at hxl 0 (by decide)
  obtain ⟨y1, e1⟩ := some_at hxl 1 (by decide)
  obtain ⟨y2, e2⟩ := some_at hxl 2 (by decide)
  obtain ⟨y3, e3⟩ := some_at hxl 3 (by decide)
  obtain ⟨y4, e4⟩ := some_at hxl 4 (by decide)
  obtain ⟨y5, e5⟩ := some_at hxl 5 (by decide)
  obtain ⟨y6, e6⟩ := some_at hxl 6 (by decide)
  have h0 : DataW.trod enc Tryd.prog w base spare held n 3 (List.take (Tryd.prog.cellsOf 3) (List.drop 0 _)) = some y0 := (hg 0 _ rfl).trans e0
  have h1 : DataW.trod enc Tryd.prog w base spare held n 3 (List.take (Tryd.prog.cellsOf 3) (List.drop 1 _)) = some y1 := (hg 1 _ rfl).trans e1
  have h2 : DataW.trod enc Tryd.prog w base spare held n 3 (List.take (Tryd.prog.cellsOf 3) (List.drop 2 _)) = some y2 := (hg 2 _ rfl).trans e2
  have h3 : DataW.trod enc Tryd.prog w base spare held n 23 (List.take (Tryd.prog.cellsOf 23) (List.drop 3 _)) = some y3 := (hg 3 _ rfl).trans e3
  have h4 : DataW.trod enc Tryd.prog w base spare held n 24 (List.take (Tryd.prog.cellsOf 24) (List.drop 4 _)) = some y4 := (hg 4 _ rfl).trans e4
  have h5 : DataW.trod enc Tryd.prog w base spare held n 23 (List.take (Tryd.prog.cellsOf 23) (List.drop 5 _)) = some y5 := (hg 5 _ rfl).trans e5
  have h6 : DataW.trod enc Tryd.prog w base spare held n 28 (List.take (Tryd.prog.cellsOf 28) (List.drop 6 _)) = some y6 := (hg 6 _ rfl).trans e6
  rw [cellsInt] at h0 h1 h2
  rw [cellsU64] at h3 h5
  rw [cellsU16] at h4
  rw [cellsMsg] at h6
  obtain ⟨z0, k0, _, w0⟩ := DataW.trod_int Tryd.underlying3 h0
  obtain ⟨z1, k1, _, w1⟩ := DataW.trod_int Tryd.underlying3 h1
  obtain ⟨z2, k2, _, w2⟩ := DataW.trod_int Tryd.underlying3 h2
  obtain ⟨z3, k3, _, w3⟩ := DataW.trod_int Tryd.underlying23 h3
  obtain ⟨z4, k4, _, w4⟩ := DataW.trod_int Tryd.underlying24 h4
  obtain ⟨z5, k5, _, w5⟩ := DataW.trod_int Tryd.underlying23 h5
  obtain ⟨m, k6, w6⟩ := trod_msg_s h6 (hs.struct Tryd.underlying30 (i := 6) rfl (by rw [List.getElem?_map, e6]; rfl))
  simp at k0 k1 k2 k3 k4 k5
  simp [Msg.cells] at k6
  obtain ⟨rfl, rfl, rfl, rfl, rfl, rfl⟩ := k6
  subst k0 k1 k2 k3 k4 k5
  exact ⟨⟨z0, z1, z2, z3, z4, z5, m⟩, rfl, w3, w4, w5, w6⟩
set_option maxRecDepth 100000 in
theorem open_pk {r : Reach} {b0 : Nat} {v : Value} {d : DataW H} {p : List MemPlace} (hv : Value.okWide Tryd.prog w r b0 30 v) (h : DataW.Trod enc Tryd.prog w base spare held 30 v d p) (hs : Small Tryd.prog 30 d) :
    ∃ a : Pkt, v = pkV a ∧ PkWf a := by
  obtain ⟨cs, rfl, hsz⟩ := okWide_struct Tryd.underlying30 hv
  obtain ⟨fuel, hf⟩ := h
  obtain ⟨a, hc, r⟩ := trod_pk hf hs
  refine ⟨a, ?_, r⟩
  obtain ⟨l⟩ := cs
  simp only [Value.cells] at hc
  unfold pkV
  rw [show l = (PkS.cells a).toList from hc]
end
theorem u16_of {z : Int} (h : (Lit.int .u16 z).wf = true) : 0 ≤ z ∧ z < 65536 := by
  simp only [Lit.wf, Bool.and_eq_true, decide_eq_true_eq] at h
  have e1 : IntKind.u16.min = 0 := by decide
  have e2 : IntKind.u16.max = 65535 := by decide
  rw [e1, e2] at h
  omega
theorem u64_of' {z : Int} (h : (Lit.int .u64 z).wf = true) : 0 ≤ z ∧ z < 18446744073709551616 := by
  simp only [Lit.wf, Bool.and_eq_true, decide_eq_true_eq] at h
  have e1 : IntKind.u64.min = 0 := by decide
  have e2 : IntKind.u64.max = 18446744073709551615 := by decide
  rw [e1, e2] at h
  omega
end Go.Proofs.YtmiijmiikpmcgaaDoor
end
section
/- Acts (link) among a law's arguments, opened to their cells. -/
set_option linter.unusedVariables false
set_option linter.unusedSimpArgs false
namespace Go.Proofs.YtmiijmiikpmcgaaDoor
open Go.RowKit Go.ChangeShapes Go.WideShapes Go.Deep
open Go.Proofs.YtmiijmiikpmcgaaDoor.Pk (Pkt)

structure LAct where
  kind : Int
  now : Int
  A : Option Addr
  c : Nat
  ms : List Msg
  p : Pkt
def LAct.cells (y : LAct) : List Value := [.int .i64 y.kind, .int .i64 y.now, .slice y.A y.ms.length y.c] ++ (PkS.cells y.p).toList
def lactV (y : LAct) : Value := .agg y.cells.toArray
/-- What is known of an act. -/
structure LAct.ok (w : World) (y : LAct) : Prop where
  ms : MsAt w y.A y.ms.length y.c y.ms
  len : y.ms.length * 72 ≤ 140737488351232
  wf : ∀ m ∈ y.ms, m.WfS
  p : PkWf y.p
theorem PkWf.ok {p : Pkt} (h : PkWf p) : PkOk p := ⟨u64_of' h.ep, u16_of h.num, u64_of' h.mask⟩
section
variable {H : Type} {enc : TypeId × Value → H} {w : World} {base : Nat} {spare : Nat → Bool} {held : Bool} {fuel : Nat} {cs : List Value} {x : DataW H × List MemPlace}
theorem cellsLA : Tryd.prog.cellsOf 32 = 15 := by kernel_rfl
theorem cellsMss : Tryd.prog.cellsOf 22 = 1 := by kernel_rfl
theorem bytesMsg : Tryd.prog.bytesOf 28 = 72 := by kernel_rfl
theorem reachM : reachBytes = 140737488351232 := by decide
theorem msAt_of {A : Option Addr} {c : Nat} {l : List Msg} (h : RowsAt w A 6 (fun m => m.cells.toList) l) (hl : l.length ≤ c) : MsAt w A l.length c l := by
  refine ⟨rfl, hl, fun i x hx => ?_⟩
  rcases h with ⟨_, rfl⟩ | ⟨a, rfl, hg⟩
  · simp at hx
  · have hi := (List.getElem?_eq_some_iff.1 hx).1
    have h0 := hg 0 l[0] (List.getElem?_eq_getElem (by omega)) 0 _ rfl
    have hsp := World.cell?_spot h0
    have hsp2 : a.spot = none := by
      unfold Addr.add at hsp
      simpa using hsp
    obtain ⟨g, off, sp⟩ := a
    obtain rfl : sp = none := hsp2
    refine ⟨g, off, rfl, fun t u hu => ?_⟩
    have := hg i x hx t u (by rw [Array.getElem?_toList]; exact hu)
    rw [add_none, ← Nat.add_assoc] at this
    exact this
theorem list15 {α : Type} {l : List α} (h : l.length = 15) : ∃ a0 a1 a2 r, l = a0 :: a1 :: a2 :: r ∧ r.length = 12 := by
  match l, h with
  | a0 :: a1 :: a2 :: r, h => exact ⟨a0, a1, a2, r, rfl, by simpa using h⟩
set_option maxRecDepth 100000 in
theorem trod_lact (h : DataW.trod enc Tryd.prog w base spare held fuel 32 cs = some x) (hs : Small Tryd.prog 32 x.1) : ∃ y : LAct, cs = y.cells ∧ y.ok w := by
  obtain ⟨xs, n, rfl, rfl, hlen, hxl, hg⟩ := DataW.trod_struct Tryd.underlying32 h
  rw [cellsLA] at hlen
  obtain ⟨a0, a1, a2, r, rfl, hr⟩ := list15 hlen
  obtain ⟨y0, e0⟩ := some_at hxl 0 (by decide)
  obtain ⟨y1, e1⟩ := some_at hxl 1 (by decide)
  obtain ⟨y2, e2⟩ := some_at hxl 2 (by decide)
  obtain ⟨y3, e3⟩ := some_at hxl 3 (by decide)
  have h0 : DataW.trod enc Tryd.prog w base spare held n 3 (List.take (Tryd.prog.cellsOf 3) (List.drop 0 (a0 :: a1 :: a2 :: r))) = some y0 := (hg 0 _ rfl).trans e0
  have h1 : DataW.trod enc Tryd.prog w base spare held n 3 (List.take (Tryd.prog.cellsOf 3) (List.drop 1 (a0 :: a1 :: a2 :: r))) = some y1 := (hg 1 _ rfl).trans e1
  have h2 : DataW.trod enc Tryd.prog w base spare held n 22 (List.take (Tryd.prog.cellsOf 22) (List.drop 2 (a0 :: a1 :: a2 :: r))) = some y2 := (hg 2 _ rfl).trans e2
  have h3 : DataW.trod enc Tryd.prog w base spare held n 30 (List.take (Tryd.prog.cellsOf 30) (List.drop 3 (a0 :: a1 :: a2 :: r))) = some y3 := (hg 3 _ rfl).trans e3
  have hs2 : Small Tryd.prog 22 y2.1 := hs.struct Tryd.underlying32 (i := 2) rfl (by rw [List.getElem?_map, e2]; rfl)
  have hs3 : Small Tryd.prog 30 y3.1 := hs.struct Tryd.underlying32 (i := 3) rfl (by rw [List.getElem?_map, e3]; rfl)
  rw [cellsInt] at h0 h1
  rw [cellsMss] at h2
  rw [cellsPk] at h3
  obtain ⟨z0, k0, _, w0⟩ := DataW.trod_int Tryd.underlying3 h0
  obtain ⟨z1, k1, _, w1⟩ := DataW.trod_int Tryd.underlying3 h1
  obtain ⟨A, c, ms, k2, hl, _, hz, hra, hok, _⟩ := trod_structs_s (fun m : Msg => m.cells.toList) Msg.WfS Tryd.underlying22 cellsMsg (fun fuel cs x h hs => trod_msg_s h hs) h2 hs2
  obtain ⟨p, k3, w3⟩ := trod_pk h3 hs3
  rw [bytesMsg, reachM] at hz
  simp at k0 k1 k2
  subst k0 k1 k2
  have k3' : r = (PkS.cells p).toList := by
    rw [← k3]
    show r = List.take 12 r
    rw [List.take_of_length_le (by omega)]
  subst k3'
  exact ⟨⟨z0, z1, A, c, ms, p⟩, rfl, ⟨msAt_of hra hl, hz, hok, w3⟩⟩
set_option maxRecDepth 100000 in
theorem open_lact {r : Reach} {b0 : Nat} {v : Value} {d : DataW H} {p : List MemPlace} (hv : Value.okWide Tryd.prog w r b0 32 v) (h : DataW.Trod enc Tryd.prog w base spare held 32 v d p) (hs : Small Tryd.prog 32 d) : ∃ y : LAct, v = lactV y ∧ y.ok w := by
  obtain ⟨cs, rfl, hsz⟩ := okWide_struct Tryd.underlying32 hv
  obtain ⟨fuel, hf⟩ := h
  obtain ⟨y, hc, r⟩ := trod_lact hf hs
  refine ⟨y, ?_, r⟩
  obtain ⟨l⟩ := cs
  simp only [Value.cells] at hc
  unfold lactV
  rw [show l = y.cells from hc]
set_option maxRecDepth 100000 in
theorem open_lacts {r : Reach} {b0 : Nat} {v : Value} {d : DataW H} {p : List MemPlace} (hv : Value.okWide Tryd.prog w r b0 65 v) (h : DataW.Trod enc Tryd.prog w base spare held 65 v d p) (hs : Small Tryd.prog 65 d) :
    ∃ (A : Option Addr) (c : Nat) (ys : List LAct), v = .slice A ys.length c ∧ ys.length ≤ c ∧ c ≤ maxLen ∧ RowsAt w A 15 LAct.cells ys ∧ (∀ y ∈ ys, y.ok w) := by
  obtain ⟨A, c, ys, h1, h2, h3, _, h4, h5, _⟩ := open_structs_s LAct.cells (LAct.ok w) Tryd.underlying65 cellsLA (fun fuel cs x h => trod_lact h) hv h hs
  exact ⟨A, c, ys, h1, h2, h3, h4, h5⟩
end
/-- The packet in an act's block is read whole. -/
theorem load_lact {w : World} {b : Nat} {y : LAct} (h : Blk w b 32 y.cells.toArray) : (Instr.loadAt 30 (.pointer (some ⟨b, 3, none⟩))).run Tryd.prog w = .ok (.agg (PkS.cells y.p)) w := by
  have := run_loadAt_mid (P := Tryd.prog) w b 3 30 (PkS.cells y.p).toList _ (fun j v hv => by
    rw [h.cell, List.getElem?_toArray]
    unfold LAct.cells
    rw [List.getElem?_append_right (by simp)]
    simpa using hv) Tryd.underlying30 rfl (by rw [Array.length_toList]; exact info_pk)
  rwa [Array.toArray_toList] at this
end Go.Proofs.YtmiijmiikpmcgaaDoor
end
section
/- The law package's light (link): it answers. -/
set_option linter.unusedVariables false
set_option linter.unusedSimpArgs false
namespace Go.Proofs.YtmiijmiikpmcgaaDoor
open Go.RowKit Go.Deep
open Go.Proofs.YtmiijmiikpmcgaaDoor.Pk (Pkt)

/-- Acts that can be read. -/
structure LaAt (w : World) (A : Option Addr) (n c : Nat) (ys : List LAct) : Prop where
  len : n = ys.length
  le : n ≤ c
  at_ : ∀ i y, ys[i]? = some y → ∃ g off, A = some ⟨g, off, none⟩ ∧ ∀ t u, y.cells[t]? = some u → w.cell? ⟨g, off + i * 15 + t, none⟩ = some u
theorem laAt_of {w : World} {A : Option Addr} {c : Nat} {l : List LAct} (h : RowsAt w A 15 LAct.cells l) (hl : l.length ≤ c) : LaAt w A l.length c l := by
  refine ⟨rfl, hl, fun i x hx => ?_⟩
  rcases h with ⟨_, rfl⟩ | ⟨a, rfl, hg⟩
  · simp at hx
  · have hi := (List.getElem?_eq_some_iff.1 hx).1
    have h0 := hg 0 l[0] (List.getElem?_eq_getElem (by omega)) 0 _ rfl
    have hsp := World.cell?_spot h0
    have hsp2 : a.spot = none := by
      unfold Addr.add at hsp
      simpa using hsp
    obtain ⟨g, off, sp⟩ := a
    obtain rfl : sp = none := hsp2
    refine ⟨g, off, rfl, fun t u hu => ?_⟩
    have := hg i x hx t u hu
    rw [add_none, ← Nat.add_assoc] at this
    exact this
theorem LaAt.chg0 {w w' : World} {A : Option Addr} {n c : Nat} {l : List LAct} (h : LaAt w A n c l) (hc : Chg [] w w') : LaAt w' A n c l :=
  ⟨h.len, h.le, fun i x hx => by
    obtain ⟨g, off, rfl, hg⟩ := h.at_ i x hx
    exact ⟨g, off, rfl, fun t u hu => hc.cell_some (hg t u hu) (by simp)⟩⟩
theorem laC_len (y : LAct) : y.cells.length = 15 := by simp [LAct.cells, PkS.cells]
theorem infoLA : (Tryd.prog.info? 32).map (·.size) = some 15 := by kernel_rfl
theorem LaAt.load {w : World} {A : Option Addr} {n c : Nat} {l : List LAct} (h : LaAt w A n c l) {i : Nat} {x : LAct} (hx : l[i]? = some x) :
    ∃ g off, A = some ⟨g, off, none⟩ ∧ (Instr.loadAt 32 (.pointer (some ⟨g, off + i * 15, none⟩))).run Tryd.prog w = .ok (.agg x.cells.toArray) w := by
  obtain ⟨g, off, rfl, hg⟩ := h.at_ i x hx
  exact ⟨g, off, rfl, run_loadAt_mid (P := Tryd.prog) w g (off + i * 15) 32 x.cells _ (fun j v hv => hg j v hv) Tryd.underlying32 rfl (by rw [laC_len]; exact infoLA)⟩
def zLA : Array Value := #[.int .i64 0, .int .i64 0, .slice none 0 0, .int .i64 0, .int .i64 0, .int .i64 0, .int .u64 0, .int .u16 0, .int .u64 0, .int .i64 0, .int .u64 0, .int .i64 0, .string ⟨#[]⟩, .string ⟨#[]⟩, .string ⟨#[]⟩]
theorem new_la (w : World) (y : LAct) : ∃ w', (Instr.storeAt 32 (.pointer (some ⟨w.heap.size, 0, none⟩)) (.agg y.cells.toArray)).run Tryd.prog (w.alloc (.cells zLA 32)) = .ok () w' ∧ Blk w' w.heap.size 32 y.cells.toArray ∧ Chg [] w w' := by
  obtain ⟨w', h1, h2, h3⟩ := store_blk (P := Tryd.prog) (ds := y.cells.toArray) (Blk.new w 32 zLA) (by rw [List.size_toArray, laC_len]; rfl) (by rw [List.size_toArray, laC_len]; exact infoLA) (by simp [LAct.cells, PkS.cells, Value.oneCell'])
  exact ⟨w', h1, h2, ((Chg.refl [] w).alloc _).then_ h3 (fun b hb => by simp at hb; subst hb; exact .inr (Nat.le_refl _))⟩
theorem new_ml (w : World) (m : Msg) : ∃ w', (Instr.storeAt 28 (.pointer (some ⟨w.heap.size, 0, none⟩)) (.agg m.cells)).run Tryd.prog (w.alloc (.cells Msg.zero.cells 28)) = .ok () w' ∧ Blk w' w.heap.size 28 m.cells ∧ Chg [] w w' := by
  obtain ⟨w', h1, h2, h3⟩ := store_msg (m := m) (Blk.new w 28 Msg.zero.cells) rfl
  exact ⟨w', h1, h2, ((Chg.refl [] w).alloc _).then_ h3 (fun b hb => by simp at hb; subst hb; exact .inr (Nat.le_refl _))⟩
set_option maxRecDepth 100000 in
set_option maxHeartbeats 8000000 in
theorem light_any (w : World) (A : Option Addr) (n c : Nat) (ys : List LAct) (h : LaAt w A n c ys) (hok : ∀ y ∈ ys, y.ok w) (hn : n ≤ 9223372036854775807) : Calls Tryd.prog 19 #[.slice A n c] w fun e w' => ∃ b, e = .returned (.bool b) ∧ (n = 0 → b = true) ∧ Chg [] w w' := by
  have H := Lib.hid (And.intro h hok)
  clear h hok
  go_enter Tryd.func19, Tryd.ntmps19
  go_wp2_with fail
  go_loopw [10, 3] (fun s10 s3 wr => ∃ (k : Nat) (z : Int), k ≤ n ∧ s10 = .int .i64 k ∧ s3 = .int .i64 z ∧ (k = 0 → z = 0) ∧ Hid (Chg [] w wr)) (fun s10 _ _ => n - (intOf s10).toNat)
  case atStart => exact ⟨0, 0, Nat.zero_le _, rfl, rfl, fun _ => rfl, Lib.hid (Chg.refl _ _)⟩
  case round =>
    obtain ⟨k, z, hk, rfl, rfl, hz, hr⟩ := hrel
    have HZ := Lib.hid hz
    clear hz
    by_cases hlt : k < n
    · obtain ⟨y, hy⟩ : ∃ y, ys[k]? = some y := ⟨_, List.getElem?_eq_getElem (by have := H.out.1.len; omega)⟩
      obtain ⟨g, off, rfl, hl1⟩ := (H.out.1.chg0 hr.out).load hy
      have HY := Lib.hid (H.out.2 y (List.mem_of_getElem? hy))
      clear hy
      have i1 : (0 : Int) ≤ (k : Int) := by omega
      have i2 : (k : Int) < (n : Int) := by omega
      obtain ⟨ml, hml⟩ : ∃ ml, y.ms.length = ml := ⟨_, rfl⟩
      have hml2 : ml ≤ 140737488351232 := by have := HY.out.len; omega
      have HML := Lib.hid hml
      clear hml
      obtain ⟨w1, hst, hb, hc⟩ := new_la wr y
      have H1 := Lib.hid (And.intro hb (hr.out.trans hc))
      clear hb hc
      go_upto_region 5 with (first | (refine wpList_loadW _ _ (by rfl) _ _ (by rfl) hl1 (by rfl) ?_) | (refine wpList_storeR (by rfl) _ _ _ (by rfl) _ _ (by rfl) (by rfl) _ hst ?_))
      clear hl1 hst i1 i2
      have c2 : w1.cell? ⟨wr.heap.size, 2, none⟩ = some (.slice y.A ml y.c) := by rw [← HML.out]; exact H1.out.1.cell 2
      have c12 : w1.cell? ⟨wr.heap.size, 12, none⟩ = some (.string y.p.m.ex) := H1.out.1.cell 12
      have c13 : w1.cell? ⟨wr.heap.size, 13, none⟩ = some (.string y.p.m.key) := H1.out.1.cell 13
      have c14 : w1.cell? ⟨wr.heap.size, 14, none⟩ = some (.string y.p.m.body) := H1.out.1.cell 14
      have s1 := HY.out.p.m.ex
      have s2 := HY.out.p.m.key
      have s3 := HY.out.p.m.body
      go_wp2_with fail
      clear c2 c12 c13 c14 s1 s2 s3
      obtain ⟨wo, rfl⟩ : ∃ wo : World, wo = wr := ⟨_, rfl⟩
      go_loopw [38, 3] (fun s38 s3 wr => ∃ (j : Nat) (z : Int), j ≤ ml ∧ s38 = .int .i64 j ∧ s3 = .int .i64 z ∧ Hid (Chg [] w wr)) (fun s38 _ _ => ml - (intOf s38).toNat)
      case atStart => exact ⟨0, _, Nat.zero_le _, rfl, rfl, Lib.hid H1.out.2⟩
      case round =>
        obtain ⟨j, z, hj, rfl, rfl, hr2⟩ := hrel
        by_cases hjl : j < ml
        · obtain ⟨m, hm⟩ : ∃ m, y.ms[j]? = some m := ⟨_, List.getElem?_eq_getElem (by rw [HML.out]; exact hjl)⟩
          obtain ⟨g2, off2, hA, hld⟩ := HY.out.ms.load hm
          have hl1 := hld wr hr2.out
          have hmw := HY.out.wf m (List.mem_of_getElem? hm)
          have HM := Lib.hid hmw
          clear hm hmw hld
          rw [hA]
          clear hA
          have i1 : (0 : Int) ≤ (j : Int) := by omega
          have i2 : (j : Int) < (ml : Int) := by omega
          obtain ⟨w2, hst, hb, hc⟩ := new_ml wr m
          have H2 := Lib.hid (And.intro hb (hr2.out.trans hc))
          clear hb hc
          go_upto_region 9 with (first | (refine wpList_loadW _ _ (by rfl) _ _ (by rfl) hl1 (by rfl) ?_) | (refine wpList_storeR (by rfl) _ _ _ (by rfl) _ _ (by rfl) (by rfl) _ hst ?_))
          clear hl1 hst i1 i2
          have c3 : w2.cell? ⟨wr.heap.size, 3, none⟩ = some (.string m.ex) := H2.out.1.cell 3
          have c4 : w2.cell? ⟨wr.heap.size, 4, none⟩ = some (.string m.key) := H2.out.1.cell 4
          have c5 : w2.cell? ⟨wr.heap.size, 5, none⟩ = some (.string m.body) := H2.out.1.cell 5
          have s1 := HM.out.ex
          have s2 := HM.out.key
          have s3 := HM.out.body
          go_wp2_with fail
          · go_ret
            exact ⟨false, rfl, fun h => by omega, H2.out.2⟩
          · clear c3 c4 c5 s1 s2 s3
            exact ⟨⟨j + 1, _, by omega, by go_num, rfl, Lib.hid H2.out.2⟩, by simp [intOf]; omega⟩
        · obtain rfl : j = ml := by omega
          go_wp2_with fail
          exact ⟨⟨k + 1, z, by omega, by go_num, rfl, fun h => by omega, hr2⟩, by simp [intOf]; omega⟩
    · obtain rfl : k = n := by omega
      go_wp2_with fail
      go_ret
      exact ⟨decide (z ≤ 400), rfl, fun h => by rw [HZ.out h]; rfl, hr.out⟩
end Go.Proofs.YtmiijmiikpmcgaaDoor
end
