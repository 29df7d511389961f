/- staithref13's Reader: Exchange, Binding, Message. -/
import Derived.Test.YtmfaooihigphgaaDoorAcRr
set_option linter.unusedVariables false
set_option linter.unusedSimpArgs false
namespace Go.Proofs.YtmfaooihigphgaaDoor
open Go.RowKit

/-- A struct of the call's own while it is read, and the one for the answer. -/
structure Rx (w0 w : World) (p : Nat) (r : Ac.R) (ty : TypeId) (rb xb : Nat) (z cs : Array Value) : Prop where
  al : Rl w p r
  rB : Blk w rb ty z
  xB : Blk w xb ty cs
  chg : Chg [p] w0 w
  ne1 : p ≠ rb
  ne2 : p ≠ xb
  ne3 : rb ≠ xb
  new1 : w0.heap.size ≤ rb
  new2 : w0.heap.size ≤ xb
section
variable {w0 w w' : World} {p : Nat} {r r' : Ac.R} {ty : TypeId} {rb xb : Nat} {z cs : Array Value}
theorem Rx.rd (h : Rx w0 w p r ty rb xb z cs) (ha : Rl w' p r') (hc : Chg [p] w w') : Rx w0 w' p r' ty rb xb z cs :=
  ⟨ha, h.rB.chg hc (by simp; exact Ne.symm h.ne1), h.xB.chg hc (by simp; exact Ne.symm h.ne2), h.chg.trans hc, h.ne1, h.ne2, h.ne3, h.new1, h.new2⟩
theorem Rx.set {cs' : Array Value} (h : Rx w0 w p r ty rb xb z cs) (i : Nat) (v : Value) (hcs : ∀ (i : Nat) (b : UInt8), cs[i]? ≠ some (bv b)) (hm : cs.setIfInBounds i v = cs') : Rx w0 (w.setCell ⟨xb, i, none⟩ v) p r ty rb xb z cs' :=
  ⟨h.al.far h.xB hcs (set_chg w xb i v) h.ne2, h.rB.far (by simpa using h.ne3) v, by rw [← hm]; exact h.xB.set_ i v, h.chg.then_ (set_chg w xb i v) (fun b hb => by simp at hb; subst hb; exact .inr h.new2), h.ne1, h.ne2, h.ne3, h.new1, h.new2⟩
end
def exA3 (n : ByteArray) (k : Int) (f : Bool) : Array Value := #[.string n, .int .i64 k, .bool f]
def bdA3 (e q p : ByteArray) : Array Value := #[.string e, .string q, .string p]
theorem exA3_no (n : ByteArray) (k : Int) (f : Bool) : ∀ (i : Nat) (b : UInt8), (exA3 n k f)[i]? ≠ some (bv b) := by
  intro i x h
  unfold exA3 at h
  match i, h with
  | 0, h => simp [bv] at h
  | 1, h => simp [bv] at h
  | 2, h => simp [bv] at h
  | i + 3, h => simp at h
theorem bdA3_no (e q p : ByteArray) : ∀ (i : Nat) (b : UInt8), (bdA3 e q p)[i]? ≠ some (bv b) := by
  intro i x h
  unfold bdA3 at h
  match i, h with
  | 0, h => simp [bv] at h
  | 1, h => simp [bv] at h
  | 2, h => simp [bv] at h
  | i + 3, h => simp at h
theorem info_ex : (Tryd.prog.info? 24).map (·.size) = some 3 := by kernel_rfl
theorem info_bd : (Tryd.prog.info? 26).map (·.size) = some 3 := by kernel_rfl
set_option maxRecDepth 100000 in
set_option maxHeartbeats 4000000 in
theorem rexR_any {w : World} {p : Nat} {r : Ac.R} (h : Rl w p r) :
    Calls Tryd.prog 50 #[.pointer (some ⟨p, 0, none⟩)] w
      (Rn w p (.agg (exA3 (strB (Ac.txtR r).1) (Ac.numR 1 (Ac.txtR r).2).1 (Ac.yesR (Ac.numR 1 (Ac.txtR r).2).2).1)) (Ac.yesR (Ac.numR 1 (Ac.txtR r).2).2).2) := by
  have hpl := h.lt
  have hc0 := (Chg.refl [] w).alloc (.cells (exA3 .empty 0 false) 24)
  have H0 := Lib.hid (And.intro (h.to hc0) (And.intro (Blk.new w 24 (exA3 .empty 0 false)) hc0))
  have hv : ((Ac.numR 1 (Ac.txtR r).2).1 : Int) ≤ 255 := by have := Ac.numR_lt 1 (Ac.txtR r).2; omega
  clear h hc0
  go_enter Tryd.func50, Tryd.ntmps50
  go_upto_region 1 with fail
  change Code.wp _ _ _ _ (w.alloc (.cells (exA3 .empty 0 false) 24))
  have HZ := Lib.hid (show (w.alloc (.cells (exA3 .empty 0 false) 24)).heap.size = w.heap.size + 1 by simp)
  generalize w.alloc (.cells (exA3 .empty 0 false) 24) = W at *
  go_wp2_with fail
  refine (rtextR_any H0.out.1).mono ?_
  rintro e w1 ⟨rfl, ha, hc⟩
  have H1 := Lib.hid (And.intro ha hc)
  clear ha hc
  generalize hx : strB (Ac.txtR r).1 = x at *
  generalize hr1 : (Ac.txtR r).2 = r1 at *
  go_upto_region 2 with fail
  have hch := (Chg.refl [] w1).alloc (.cells (exA3 x 0 false) 24)
  have hsz : w.heap.size + 1 ≤ w1.heap.size := by have := H1.out.2.size; have := HZ.out; omega
  have H2 := Lib.hid (show Rx w (w1.alloc (.cells (exA3 x 0 false) 24)) p r1 24 w.heap.size w1.heap.size (exA3 .empty 0 false) (exA3 x 0 false) from
    ⟨H1.out.1.to hch, (H0.out.2.1.chg H1.out.2 (by simp; omega)).chg hch (by simp), Blk.new _ _ _, ((H0.out.2.2.mono (by simp)).trans H1.out.2).trans (hch.mono (by simp)), by omega, by omega, by omega, Nat.le_refl _, by omega⟩)
  clear hch
  change Code.wp _ _ _ _ (w1.alloc (.cells (exA3 x 0 false) 24))
  generalize w1.alloc (.cells (exA3 x 0 false) 24) = w2 at *
  generalize w1.heap.size = xb at *
  go_wp2_with fail
  refine (rnum_any H2.out.al 1 (by unfold WidK; omega)).mono ?_
  rintro e w3 ⟨rfl, ha, hc⟩
  have H3 := Lib.hid (H2.out.rd ha hc)
  clear ha hc
  generalize hk : (Ac.numR 1 r1).1 = k at *
  generalize hr2 : (Ac.numR 1 r1).2 = r2 at *
  have d1 : w3.cell? ⟨xb, 1, none⟩ = some (.int .i64 0) := H3.out.xB.cell 1
  have f1 := H3.out.xB.frozen 1
  go_upto_region 3 with fail
  have H4 := Lib.hid (H3.out.set (cs' := exA3 x k false) 1 (.int .i64 k) (exA3_no _ _ _) rfl)
  clear d1 f1
  generalize w3.setCell ⟨xb, 1, none⟩ (.int .i64 k) = w4 at *
  go_wp2_with fail
  refine (ryesR_any H4.out.al).mono ?_
  rintro e w5 ⟨rfl, ha, hc⟩
  have H5 := Lib.hid (H4.out.rd ha hc)
  clear ha hc
  generalize hf : (Ac.yesR r2).1 = f at *
  generalize hr3 : (Ac.yesR r2).2 = r3 at *
  have d1 : w5.cell? ⟨xb, 2, none⟩ = some (.bool false) := H5.out.xB.cell 2
  have f1 := H5.out.xB.frozen 2
  go_upto_region 4 with fail
  have H6 := Lib.hid (H5.out.set (cs' := exA3 x k f) 2 (.bool f) (exA3_no _ _ _) rfl)
  clear d1 f1
  generalize w5.setCell ⟨xb, 2, none⟩ (.bool f) = w6 at *
  have hl := load_blk H6.out.xB Tryd.underlying24 rfl info_ex
  obtain ⟨w7, hst, hb7, hc7⟩ := store_blk (ds := exA3 x k f) H6.out.rB rfl info_ex (by simp [exA3, Value.oneCell'])
  have HF := Lib.hid (And.intro hb7 hc7)
  clear hb7 hc7
  go_wp2_with (first | (refine wpList_loadW _ _ (by rfl) _ _ (by rfl) hl (by rfl) ?_) | (refine wpList_storeR (by rfl) _ _ _ (by rfl) _ _ (by rfl) (by rfl) _ hst ?_))
  have hlv := lvar_blk HF.out.1 Tryd.underlying24 rfl info_ex
  refine bodyPost_ret (results_cell Tryd.results50 _ _ _ _ _ (by rfl) hlv) rfl ⟨rfl, H6.out.al.far H6.out.rB (exA3_no _ _ _) HF.out.2 H6.out.ne1, H6.out.chg.then_ HF.out.2 (fun b hb => by simp at hb; subst hb; exact .inr (Nat.le_refl _))⟩
set_option maxRecDepth 100000 in
set_option maxHeartbeats 4000000 in
theorem rbdR_any {w : World} {p : Nat} {r : Ac.R} (h : Rl w p r) :
    Calls Tryd.prog 51 #[.pointer (some ⟨p, 0, none⟩)] w
      (Rn w p (.agg (bdA3 (strB (Ac.txtR r).1) (strB (Ac.txtR (Ac.txtR r).2).1) (strB (Ac.txtR (Ac.txtR (Ac.txtR r).2).2).1))) (Ac.txtR (Ac.txtR (Ac.txtR r).2).2).2) := by
  have hpl := h.lt
  have hc0 := (Chg.refl [] w).alloc (.cells (bdA3 .empty .empty .empty) 26)
  have H0 := Lib.hid (And.intro (h.to hc0) (And.intro (Blk.new w 26 (bdA3 .empty .empty .empty)) hc0))
  clear h hc0
  go_enter Tryd.func51, Tryd.ntmps51
  go_upto_region 1 with fail
  change Code.wp _ _ _ _ (w.alloc (.cells (bdA3 .empty .empty .empty) 26))
  have HZ := Lib.hid (show (w.alloc (.cells (bdA3 .empty .empty .empty) 26)).heap.size = w.heap.size + 1 by simp)
  generalize w.alloc (.cells (bdA3 .empty .empty .empty) 26) = W at *
  go_wp2_with fail
  refine (rtextR_any H0.out.1).mono ?_
  rintro e w1 ⟨rfl, ha, hc⟩
  have H1 := Lib.hid (And.intro ha hc)
  clear ha hc
  generalize hx : strB (Ac.txtR r).1 = x at *
  generalize hr1 : (Ac.txtR r).2 = r1 at *
  go_upto_region 2 with fail
  have hch := (Chg.refl [] w1).alloc (.cells (bdA3 x .empty .empty) 26)
  have hsz : w.heap.size + 1 ≤ w1.heap.size := by have := H1.out.2.size; have := HZ.out; omega
  have H2 := Lib.hid (show Rx w (w1.alloc (.cells (bdA3 x .empty .empty) 26)) p r1 26 w.heap.size w1.heap.size (bdA3 .empty .empty .empty) (bdA3 x .empty .empty) from
    ⟨H1.out.1.to hch, (H0.out.2.1.chg H1.out.2 (by simp; omega)).chg hch (by simp), Blk.new _ _ _, ((H0.out.2.2.mono (by simp)).trans H1.out.2).trans (hch.mono (by simp)), by omega, by omega, by omega, Nat.le_refl _, by omega⟩)
  clear hch
  change Code.wp _ _ _ _ (w1.alloc (.cells (bdA3 x .empty .empty) 26))
  generalize w1.alloc (.cells (bdA3 x .empty .empty) 26) = w2 at *
  generalize w1.heap.size = xb at *
  go_wp2_with fail
  refine (rtextR_any H2.out.al).mono ?_
  rintro e w3 ⟨rfl, ha, hc⟩
  have H3 := Lib.hid (H2.out.rd ha hc)
  clear ha hc
  generalize hk : strB (Ac.txtR r1).1 = k at *
  generalize hr2 : (Ac.txtR r1).2 = r2 at *
  have d1 : w3.cell? ⟨xb, 1, none⟩ = some (.string .empty) := H3.out.xB.cell 1
  have f1 := H3.out.xB.frozen 1
  go_upto_region 3 with fail
  have H4 := Lib.hid (H3.out.set (cs' := bdA3 x k .empty) 1 (.string k) (bdA3_no _ _ _) rfl)
  clear d1 f1
  generalize w3.setCell ⟨xb, 1, none⟩ (.string k) = w4 at *
  go_wp2_with fail
  refine (rtextR_any H4.out.al).mono ?_
  rintro e w5 ⟨rfl, ha, hc⟩
  have H5 := Lib.hid (H4.out.rd ha hc)
  clear ha hc
  generalize hf : strB (Ac.txtR r2).1 = f at *
  generalize hr3 : (Ac.txtR r2).2 = r3 at *
  have d1 : w5.cell? ⟨xb, 2, none⟩ = some (.string .empty) := H5.out.xB.cell 2
  have f1 := H5.out.xB.frozen 2
  go_upto_region 4 with fail
  have H6 := Lib.hid (H5.out.set (cs' := bdA3 x k f) 2 (.string f) (bdA3_no _ _ _) rfl)
  clear d1 f1
  generalize w5.setCell ⟨xb, 2, none⟩ (.string f) = w6 at *
  have hl := load_blk H6.out.xB Tryd.underlying26 rfl info_bd
  obtain ⟨w7, hst, hb7, hc7⟩ := store_blk (ds := bdA3 x k f) H6.out.rB rfl info_bd (by simp [bdA3, Value.oneCell'])
  have HF := Lib.hid (And.intro hb7 hc7)
  clear hb7 hc7
  go_wp2_with (first | (refine wpList_loadW _ _ (by rfl) _ _ (by rfl) hl (by rfl) ?_) | (refine wpList_storeR (by rfl) _ _ _ (by rfl) _ _ (by rfl) (by rfl) _ hst ?_))
  have hlv := lvar_blk HF.out.1 Tryd.underlying26 rfl info_bd
  refine bodyPost_ret (results_cell Tryd.results51 _ _ _ _ _ (by rfl) hlv) rfl ⟨rfl, H6.out.al.far H6.out.rB (bdA3_no _ _ _) HF.out.2 H6.out.ne1, H6.out.chg.then_ HF.out.2 (fun b hb => by simp at hb; subst hb; exact .inr (Nat.le_refl _))⟩
set_option maxRecDepth 100000 in
set_option maxHeartbeats 8000000 in
theorem rmsgR_any {w : World} {p : Nat} {r : Ac.R} (h : Rl w p r) :
    Calls Tryd.prog 52 #[.pointer (some ⟨p, 0, none⟩)] w (Rn w p (msgV (Ac.rdMsg r).1) (Ac.rdMsg r).2) := by
  have hpl := h.lt
  have hc0 := (Chg.refl [] w).alloc (.cells Msg.zero.cells 30)
  have hc1 := hc0.alloc (.cells Msg.zero.cells 30)
  have hsz : (w.alloc (.cells Msg.zero.cells 30)).heap.size = w.heap.size + 1 := by simp
  have hb2 := Blk.new (w.alloc (.cells Msg.zero.cells 30)) 30 Msg.zero.cells
  rw [hsz] at hb2
  have H0 := Lib.hid (show Rx w ((w.alloc (.cells Msg.zero.cells 30)).alloc (.cells Msg.zero.cells 30)) p r 30 w.heap.size (w.heap.size + 1) Msg.zero.cells Msg.zero.cells from
    ⟨h.to hc1, (Blk.new w _ _).alloc _, hb2, hc1.mono (by simp), by omega, by omega, by omega, Nat.le_refl _, by omega⟩)
  clear h hc0 hc1 hsz hb2
  have v1 : ((Ac.numR 1 r).1 : Int) ≤ 255 := by have := Ac.numR_lt 1 r; omega
  have v3 : ((Ac.numR 1 (Ac.numR 8 (Ac.numR 1 r).2).2).1 : Int) ≤ 255 := by have := Ac.numR_lt 1 (Ac.numR 8 (Ac.numR 1 r).2).2; omega
  unfold Ac.rdMsg
  go_enter Tryd.func52, Tryd.ntmps52
  go_upto_region 2 with fail
  change Code.wp _ _ _ _ ((w.alloc (.cells Msg.zero.cells 30)).alloc (.cells Msg.zero.cells 30))
  generalize (w.alloc (.cells Msg.zero.cells 30)).alloc (.cells Msg.zero.cells 30) = W at *
  go_wp2_with fail
  refine (rnum_any H0.out.al 1 (by unfold WidK; omega)).mono ?_
  rintro e w1 ⟨rfl, ha, hc⟩
  have HS := Lib.hid (H0.out.rd ha hc)
  clear ha hc
  generalize hg1 : (Ac.numR 1 r).1 = n1 at *
  generalize hg2 : (Ac.numR 1 r).2 = r1 at *
  have d1 : w1.cell? ⟨w.heap.size + 1, 0, none⟩ = some (.int .i64 0) := HS.out.xB.cell 0
  have f1 := HS.out.xB.frozen 0
  go_upto_region 3 with fail
  have H2 := Lib.hid (HS.out.set (cs' := (⟨n1, 0, 0, .empty, .empty, .empty⟩ : Msg).cells) 0 (.int .i64 n1) (msg_nobyte _) rfl)
  clear d1 f1 HS hg1 hg2
  generalize w1.setCell ⟨w.heap.size + 1, 0, none⟩ (.int .i64 n1) = w2 at *
  go_wp2_with fail
  refine (rnum_any H2.out.al 8 (by unfold WidK; omega)).mono ?_
  rintro e w3 ⟨rfl, ha, hc⟩
  have HS := Lib.hid (H2.out.rd ha hc)
  clear ha hc
  generalize hg1 : (Ac.numR 8 r1).1 = n2 at *
  generalize hg2 : (Ac.numR 8 r1).2 = r2 at *
  have d1 : w3.cell? ⟨w.heap.size + 1, 1, none⟩ = some (.int .u64 0) := HS.out.xB.cell 1
  have f1 := HS.out.xB.frozen 1
  go_upto_region 4 with fail
  have H4 := Lib.hid (HS.out.set (cs' := (⟨n1, n2, 0, .empty, .empty, .empty⟩ : Msg).cells) 1 (.int .u64 n2) (msg_nobyte _) rfl)
  clear d1 f1 HS hg1 hg2
  generalize w3.setCell ⟨w.heap.size + 1, 1, none⟩ (.int .u64 n2) = w4 at *
  go_wp2_with fail
  refine (rnum_any H4.out.al 1 (by unfold WidK; omega)).mono ?_
  rintro e w5 ⟨rfl, ha, hc⟩
  have HS := Lib.hid (H4.out.rd ha hc)
  clear ha hc
  generalize hg1 : (Ac.numR 1 r2).1 = n3 at *
  generalize hg2 : (Ac.numR 1 r2).2 = r3 at *
  have d1 : w5.cell? ⟨w.heap.size + 1, 2, none⟩ = some (.int .i64 0) := HS.out.xB.cell 2
  have f1 := HS.out.xB.frozen 2
  go_upto_region 5 with fail
  have H6 := Lib.hid (HS.out.set (cs' := (⟨n1, n2, n3, .empty, .empty, .empty⟩ : Msg).cells) 2 (.int .i64 n3) (msg_nobyte _) rfl)
  clear d1 f1 HS hg1 hg2
  generalize w5.setCell ⟨w.heap.size + 1, 2, none⟩ (.int .i64 n3) = w6 at *
  go_wp2_with fail
  refine (rtextR_any H6.out.al ).mono ?_
  rintro e w7 ⟨rfl, ha, hc⟩
  have HS := Lib.hid (H6.out.rd ha hc)
  clear ha hc
  generalize hg1 : strB (Ac.txtR r3).1 = x1 at *
  generalize hg2 : (Ac.txtR r3).2 = r4 at *
  have d1 : w7.cell? ⟨w.heap.size + 1, 3, none⟩ = some (.string .empty) := HS.out.xB.cell 3
  have f1 := HS.out.xB.frozen 3
  go_upto_region 6 with fail
  have H8 := Lib.hid (HS.out.set (cs' := (⟨n1, n2, n3, x1, .empty, .empty⟩ : Msg).cells) 3 (.string x1) (msg_nobyte _) rfl)
  clear d1 f1 HS hg1 hg2
  generalize w7.setCell ⟨w.heap.size + 1, 3, none⟩ (.string x1) = w8 at *
  go_wp2_with fail
  refine (rtextR_any H8.out.al ).mono ?_
  rintro e w9 ⟨rfl, ha, hc⟩
  have HS := Lib.hid (H8.out.rd ha hc)
  clear ha hc
  generalize hg1 : strB (Ac.txtR r4).1 = x2 at *
  generalize hg2 : (Ac.txtR r4).2 = r5 at *
  have d1 : w9.cell? ⟨w.heap.size + 1, 4, none⟩ = some (.string .empty) := HS.out.xB.cell 4
  have f1 := HS.out.xB.frozen 4
  go_upto_region 7 with fail
  have Ha := Lib.hid (HS.out.set (cs' := (⟨n1, n2, n3, x1, x2, .empty⟩ : Msg).cells) 4 (.string x2) (msg_nobyte _) rfl)
  clear d1 f1 HS hg1 hg2
  generalize w9.setCell ⟨w.heap.size + 1, 4, none⟩ (.string x2) = wa at *
  go_wp2_with fail
  refine (rtextR_any Ha.out.al ).mono ?_
  rintro e wb ⟨rfl, ha, hc⟩
  have HS := Lib.hid (Ha.out.rd ha hc)
  clear ha hc
  generalize hg1 : strB (Ac.txtR r5).1 = x3 at *
  generalize hg2 : (Ac.txtR r5).2 = r6 at *
  have d1 : wb.cell? ⟨w.heap.size + 1, 5, none⟩ = some (.string .empty) := HS.out.xB.cell 5
  have f1 := HS.out.xB.frozen 5
  go_upto_region 8 with fail
  have Hc := Lib.hid (HS.out.set (cs' := (⟨n1, n2, n3, x1, x2, x3⟩ : Msg).cells) 5 (.string x3) (msg_nobyte _) rfl)
  clear d1 f1 HS hg1 hg2
  generalize wb.setCell ⟨w.heap.size + 1, 5, none⟩ (.string x3) = wc at *
  have hl := load_msg Hc.out.xB
  obtain ⟨wd, hst, hbd, hcd⟩ := store_msg (m := ⟨n1, n2, n3, x1, x2, x3⟩) Hc.out.rB rfl
  have HF := Lib.hid (And.intro hbd hcd)
  clear hbd hcd
  go_wp2_with (first | (refine wpList_loadW _ _ (by rfl) _ _ (by rfl) hl (by rfl) ?_) | (refine wpList_storeR (by rfl) _ _ _ (by rfl) _ _ (by rfl) (by rfl) _ hst ?_))
  have hlv := lvar_blk HF.out.1 Tryd.underlying30 rfl info_msg
  refine bodyPost_ret (results_cell Tryd.results52 _ _ _ _ _ (by rfl) hlv) rfl ⟨rfl, Hc.out.al.far Hc.out.rB (msg_nobyte _) HF.out.2 Hc.out.ne1, Hc.out.chg.then_ HF.out.2 (fun b hb => by simp at hb; subst hb; exact .inr (Nat.le_refl _))⟩
theorem rdAct_small (l : Bs) : (Ac.rdAct (some l)).1.Small := rdParts_small _ _ _ (bare_small _)
theorem rdParts7 (a : Ac.ActS) (r : Ac.R) : Ac.rdParts (Ac.shapeL (7 : Nat)) a r = ({ a with m := (Ac.rdMsg r).1 }, (Ac.rdMsg r).2) := by
  generalize hg : Ac.rdMsg r = g
  have : Ac.shapeL ((7 : Nat) : Int) = [109] := by rfl
  rw [this]
  unfold Ac.rdParts
  simp only [List.foldl_cons, List.foldl_nil]
  unfold Ac.rdPart
  rw [if_neg (by decide), if_neg (by decide), if_neg (by decide), if_neg (by decide), if_neg (by decide), if_neg (by decide)]
  simp only [hg]
end Go.Proofs.YtmfaooihigphgaaDoor
