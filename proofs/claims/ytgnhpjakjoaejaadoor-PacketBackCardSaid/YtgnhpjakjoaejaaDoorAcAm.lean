/- Package act: text, yes, done, message of what goes along bytes. -/
import Derived.Test.YtgnhpjakjoaejaaDoorAcAl
import Derived.Test.YtgnhpjakjoaejaaDoorAcPlain
set_option linter.unusedVariables false
set_option linter.unusedSimpArgs false
namespace Go.Proofs.YtgnhpjakjoaejaaDoor
open Go.RowKit

set_option maxRecDepth 100000 in
set_option maxHeartbeats 4000000 in
theorem atext_any {w : World} {p n c : Nat} {A : Option Addr} {l : Bs} {r : Ac.R} (h : Al w p A n c l r) (hT : WidAt w) (hp : p ≠ 1) :
    Calls Tryd.prog 56 #[.pointer (some ⟨p, 0, none⟩)] w (Rd w p n c A l (.string (strB (Ac.txtR r).1)) (Ac.txtR r).2) := by
  have hN := anum_any h hT hp 2 (by unfold WidK; omega)
  have hv := Ac.numR_lt 2 r
  unfold Ac.txtR
  generalize (Ac.numR 2 r).1 = v at *
  generalize (Ac.numR 2 r).2 = r1 at *
  have HN := Lib.hid hN
  have hv2 : (v : Int) ≤ 65535 := by omega
  have hv3 : v ≤ 1000000 := by omega
  clear hN hv h hT
  go_enter Tryd.func56, Tryd.ntmps56
  go_wp2_with fail
  refine HN.out.mono ?_
  rintro e w1 ⟨rfl, ha, hc⟩
  have H1 := Lib.hid (And.intro ha hc)
  clear ha hc
  go_wp2_with fail
  refine (anext_any H1.out.1 v hv3).mono ?_
  rintro e w2 ⟨A2, n2, c2, rfl, hb, ha, hc⟩
  have hcv := conv_str hb
  have H2 := Lib.hid (And.intro ha (H1.out.2.trans hc))
  clear hb ha hc
  go_wp2
  go_ret
  exact ⟨rfl, H2.out⟩
/-- A message's block while it is read. -/
structure Am (w0 w : World) (p n c : Nat) (A : Option Addr) (l : Bs) (r : Ac.R) (rb mb : Nat) (m : Msg) : Prop where
  al : Al w p A n c l r
  rB : Blk w rb 27 Msg.zero.cells
  mB : Blk w mb 27 m.cells
  chg : Chg [p] w0 w
  tab : WidAt w
  ne1 : p ≠ rb
  ne2 : p ≠ mb
  ne3 : rb ≠ mb
  new1 : w0.heap.size ≤ rb
  new2 : w0.heap.size ≤ mb
theorem Am.rd {w0 w w' : World} {p n c : Nat} {A : Option Addr} {l : Bs} {r r' : Ac.R} {rb mb : Nat} {m : Msg} (h : Am w0 w p n c A l r rb mb m) (ha : Al w' p A n c l r') (hc : Chg [p] w w') (hp : p ≠ 1) : Am w0 w' p n c A l r' rb mb m :=
  ⟨ha, h.rB.chg hc (by simp; exact Ne.symm h.ne1), h.mB.chg hc (by simp; exact Ne.symm h.ne2), h.chg.trans hc, h.tab.chg hc (by simp; omega), h.ne1, h.ne2, h.ne3, h.new1, h.new2⟩
theorem msg_nobyte (m : Msg) : ∀ (i : Nat) (b : UInt8), m.cells[i]? ≠ some (bv b) := by
  intro i b h
  unfold Msg.cells bv at h
  match i, h with
  | 0, h => simp at h
  | 1, h => simp at h
  | 2, h => simp at h
  | 3, h => simp at h
  | 4, h => simp at h
  | 5, h => simp at h
  | i + 6, h => simp at h
theorem Al.far {w w' : World} {p n c q : Nat} {A : Option Addr} {l : Bs} {r : Ac.R} (h : Al w p A n c l r) {t : TypeId} {cs : Array Value} (hb : Blk w q t cs) (hcs : ∀ (i : Nat) (b : UInt8), cs[i]? ≠ some (bv b)) (hc : Chg [q] w w') (hq : p ≠ q) : Al w' p A n c l r := by
  obtain ⟨k, hk, hr⟩ := h.blk
  exact ⟨⟨k, hk.chg hc (by simpa using hq), hr⟩, h.bt.keep hb hcs hc, h.le⟩
theorem Am.set {w0 w : World} {p n c : Nat} {A : Option Addr} {l : Bs} {r : Ac.R} {rb mb : Nat} {m m' : Msg} (h : Am w0 w p n c A l r rb mb m) (i : Nat) (v : Value) (hm : m.cells.setIfInBounds i v = m'.cells) (hmw : mb ≠ 1) : Am w0 (w.setCell ⟨mb, i, none⟩ v) p n c A l r rb mb m' :=
  ⟨h.al.far h.mB (msg_nobyte m) (set_chg w mb i v) h.ne2, h.rB.far (by simpa using h.ne3) v, by rw [← hm]; exact h.mB.set_ i v, h.chg.then_ (set_chg w mb i v) (fun b hb => by simp at hb; subst hb; exact .inr h.new2), h.tab.chg (set_chg w mb i v) (by simp; omega), h.ne1, h.ne2, h.ne3, h.new1, h.new2⟩
theorem info_msg : (Tryd.prog.info? 27).map (·.size) = some 6 := by kernel_rfl
theorem load_msg {w : World} {b : Nat} {m : Msg} (h : Blk w b 27 m.cells) : (Instr.loadAt 27 (.pointer (some ⟨b, 0, none⟩))).run Tryd.prog w = .ok (.agg m.cells) w :=
  load_blk h Tryd.underlying27 rfl info_msg
theorem store_msg {w : World} {b : Nat} {m : Msg} {cs : Array Value} (h : Blk w b 27 cs) (hs : cs.size = 6) : ∃ w', (Instr.storeAt 27 (.pointer (some ⟨b, 0, none⟩)) (.agg m.cells)).run Tryd.prog w = .ok () w' ∧ Blk w' b 27 m.cells ∧ Chg [b] w w' :=
  store_blk h (by rw [hs]; rfl) info_msg (by simp [Msg.cells, Value.oneCell'])
set_option maxRecDepth 100000 in
set_option maxHeartbeats 8000000 in
theorem amessage_any {w : World} {p n c : Nat} {A : Option Addr} {l : Bs} {r : Ac.R} (h : Al w p A n c l r) (hT : WidAt w) (hp : p ≠ 1) :
    Calls Tryd.prog 47 #[.pointer (some ⟨p, 0, none⟩)] w (Rd w p n c A l (msgV (Ac.rdMsg r).1) (Ac.rdMsg r).2) := by
  have hpl := h.lt
  have hwl := hT.lt
  have hc0 := (Chg.refl [] w).alloc (.cells Msg.zero.cells 27)
  have H0 := Lib.hid (And.intro (h.to hc0) (And.intro (Blk.new w 27 Msg.zero.cells) (And.intro hc0 (hT.chg0 hc0))))
  have v1 : ((Ac.numR 1 r).1 : Int) ≤ 255 := by have := Ac.numR_lt 1 r; omega
  have v3 : ((Ac.numR 1 (Ac.numR 8 (Ac.numR 1 r).2).2).1 : Int) ≤ 255 := by have := Ac.numR_lt 1 (Ac.numR 8 (Ac.numR 1 r).2).2; omega
  clear h hT hc0
  go_enter Tryd.func47, Tryd.ntmps47
  go_upto_region 1 with fail
  change Code.wp _ _ _ _ (w.alloc (.cells Msg.zero.cells 27))
  have hsz : (w.alloc (.cells Msg.zero.cells 27)).heap.size = w.heap.size + 1 := by simp
  generalize w.alloc (.cells Msg.zero.cells 27) = W at *
  have HZ := Lib.hid hsz
  clear hsz
  go_wp2_with fail
  refine (anum_any H0.out.1 H0.out.2.2.2 hp 1 (by unfold WidK; omega)).mono ?_
  rintro e w1 ⟨rfl, ha, hc⟩
  have H1 := Lib.hid (And.intro ha (And.intro hc (H0.out.2.2.2.chg hc (by simp; omega))))
  clear ha hc
  go_wp2_with fail
  refine (anum_any H1.out.1 H1.out.2.2 hp 8 (by unfold WidK; omega)).mono ?_
  rintro e w2 ⟨rfl, ha, hc⟩
  have H2 := Lib.hid (And.intro ha (And.intro (H1.out.2.1.trans hc) (H1.out.2.2.chg hc (by simp; omega))))
  clear ha hc
  go_wp2_with fail
  refine (anum_any H2.out.1 H2.out.2.2 hp 1 (by unfold WidK; omega)).mono ?_
  rintro e w3 ⟨rfl, ha, hc⟩
  have H3 := Lib.hid (And.intro ha (And.intro (H2.out.2.1.trans hc) (H2.out.2.2.chg hc (by simp; omega))))
  clear ha hc
  generalize hn1 : (Ac.numR 1 r).1 = n1 at *
  generalize hn3 : (Ac.numR 1 (Ac.numR 8 (Ac.numR 1 r).2).2).1 = n3 at *
  generalize hn2 : (Ac.numR 8 (Ac.numR 1 r).2).1 = n2 at *
  have HN := Lib.hid (And.intro hn1 (And.intro hn2 hn3))
  clear hn1 hn2 hn3
  go_upto_region 3 with fail
  have hm0 := Blk.new w3 27 (⟨n1, n2, n3, ByteArray.empty, ByteArray.empty, ByteArray.empty⟩ : Msg).cells
  have hch := (Chg.refl [] w3).alloc (.cells (⟨n1, n2, n3, ByteArray.empty, ByteArray.empty, ByteArray.empty⟩ : Msg).cells 27)
  have hsz3 : w.heap.size + 1 ≤ w3.heap.size := by have := H3.out.2.1.size; have := HZ.out; omega
  have HM := Lib.hid (show Am w (w3.alloc (.cells (⟨n1, n2, n3, ByteArray.empty, ByteArray.empty, ByteArray.empty⟩ : Msg).cells 27)) p n c A l (Ac.numR 1 (Ac.numR 8 (Ac.numR 1 r).2).2).2 w.heap.size w3.heap.size ⟨n1, n2, n3, ByteArray.empty, ByteArray.empty, ByteArray.empty⟩ from
    ⟨H3.out.1.to hch, (H0.out.2.1.chg H3.out.2.1 (by simp; omega)).chg hch (by simp), hm0, ((H0.out.2.2.1.mono (by simp)).trans H3.out.2.1).trans (hch.mono (by simp)), H3.out.2.2.chg0 hch, by omega, by omega, by omega, Nat.le_refl _, by omega⟩)
  clear hm0 hch
  change Code.wp _ _ _ _ (w3.alloc (.cells (⟨n1, n2, n3, ByteArray.empty, ByteArray.empty, ByteArray.empty⟩ : Msg).cells 27))
  generalize w3.alloc (.cells (⟨n1, n2, n3, ByteArray.empty, ByteArray.empty, ByteArray.empty⟩ : Msg).cells 27) = W3 at *
  have hmb : w3.heap.size ≠ 1 := by omega
  generalize w3.heap.size = mb at *
  generalize hr3 : (Ac.numR 1 (Ac.numR 8 (Ac.numR 1 r).2).2).2 = r3 at *
  have HR3 := Lib.hid hr3
  clear hr3
  go_wp2_with fail
  refine (atext_any HM.out.al HM.out.tab hp).mono ?_
  rintro e w4 ⟨rfl, ha, hc⟩
  have H4 := Lib.hid (HM.out.rd ha hc hp)
  clear ha hc
  generalize hx1 : strB (Ac.txtR r3).1 = x1 at *
  generalize hr4 : (Ac.txtR r3).2 = r4 at *
  have d3 : w4.cell? ⟨mb, 3, none⟩ = some (.string .empty) := H4.out.mB.cell 3
  have f3 := H4.out.mB.frozen 3
  have HX1 := Lib.hid (And.intro hx1 hr4)
  clear hx1 hr4
  go_upto_region 4 with fail
  have H5 := Lib.hid (H4.out.set (m' := ⟨n1, n2, n3, x1, ByteArray.empty, ByteArray.empty⟩) 3 (.string x1) rfl hmb)
  clear d3 f3
  generalize w4.setCell ⟨mb, 3, none⟩ (.string x1) = w5 at *
  go_wp2_with fail
  refine (atext_any H5.out.al H5.out.tab hp).mono ?_
  rintro e w6 ⟨rfl, ha, hc⟩
  have H6 := Lib.hid (H5.out.rd ha hc hp)
  clear ha hc
  generalize hx2 : strB (Ac.txtR r4).1 = x2 at *
  generalize hr5 : (Ac.txtR r4).2 = r5 at *
  have d3 : w6.cell? ⟨mb, 4, none⟩ = some (.string .empty) := H6.out.mB.cell 4
  have f3 := H6.out.mB.frozen 4
  have HX2 := Lib.hid (And.intro hx2 hr5)
  clear hx2 hr5
  go_upto_region 5 with fail
  have H7 := Lib.hid (H6.out.set (m' := ⟨n1, n2, n3, x1, x2, ByteArray.empty⟩) 4 (.string x2) rfl hmb)
  clear d3 f3
  generalize w6.setCell ⟨mb, 4, none⟩ (.string x2) = w7 at *
  go_wp2_with fail
  refine (atext_any H7.out.al H7.out.tab hp).mono ?_
  rintro e w8 ⟨rfl, ha, hc⟩
  have H8 := Lib.hid (H7.out.rd ha hc hp)
  clear ha hc
  generalize hx3 : strB (Ac.txtR r5).1 = x3 at *
  generalize hr6 : (Ac.txtR r5).2 = r6 at *
  have d3 : w8.cell? ⟨mb, 5, none⟩ = some (.string .empty) := H8.out.mB.cell 5
  have f3 := H8.out.mB.frozen 5
  have HX3 := Lib.hid (And.intro hx3 hr6)
  clear hx3 hr6
  go_upto_region 6 with fail
  have H9 := Lib.hid (H8.out.set (m' := ⟨n1, n2, n3, x1, x2, x3⟩) 5 (.string x3) rfl hmb)
  clear d3 f3
  generalize w8.setCell ⟨mb, 5, none⟩ (.string x3) = w9 at *
  have hl := load_msg H9.out.mB
  obtain ⟨w10, hst, hb10, hc10⟩ := store_msg (m := ⟨n1, n2, n3, x1, x2, x3⟩) H9.out.rB rfl
  have HF := Lib.hid (And.intro hb10 hc10)
  clear hb10 hc10
  go_wp2_with (first | (refine wpList_loadW _ _ (by rfl) _ _ (by rfl) hl (by rfl) ?_) | (refine wpList_storeR (by rfl) _ _ _ (by rfl) _ _ (by rfl) (by rfl) _ hst ?_))
  have hlv := lvar_blk HF.out.1 Tryd.underlying27 rfl info_msg
  refine bodyPost_ret (results_cell Tryd.results47 _ _ _ _ _ (by rfl) hlv) rfl ⟨?_, ?_, ?_⟩
  · have e : (Ac.rdMsg r).1 = ⟨n1, n2, n3, x1, x2, x3⟩ := by
      unfold Ac.rdMsg
      rw [← HN.out.1, ← HN.out.2.1, ← HN.out.2.2, ← HX3.out.1, ← HX2.out.1, ← HX1.out.1, ← HX2.out.2, ← HX1.out.2, ← HR3.out]
    rw [e]
    rfl
  · have e : (Ac.rdMsg r).2 = r6 := by
      unfold Ac.rdMsg
      rw [← HX3.out.2, ← HX2.out.2, ← HX1.out.2, ← HR3.out]
    rw [e]
    exact H9.out.al.far H9.out.rB (msg_nobyte _) HF.out.2 H9.out.ne1
  · exact H9.out.chg.then_ HF.out.2 (fun b hb => by simp at hb; subst hb; exact .inr (Nat.le_refl _))
end Go.Proofs.YtgnhpjakjoaejaaDoor
