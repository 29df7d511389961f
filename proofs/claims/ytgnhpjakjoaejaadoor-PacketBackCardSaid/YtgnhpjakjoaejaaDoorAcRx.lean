/- staithref13's Reader: Exchange, Binding, Message. -/
import Derived.Test.YtgnhpjakjoaejaaDoorAcRr
set_option linter.unusedVariables false
set_option linter.unusedSimpArgs false
namespace Go.Proofs.YtgnhpjakjoaejaaDoor
open Go.RowKit

/-- A struct of the call's own while it is read, and the one for the answer. -/
structure Rx (w0 w : World) (p : Nat) (r : Ac.R) (ty : TypeId) (rb xb : Nat) (z cs : Array Value) : Prop where
  al : Rl w p r
  rB : Blk w rb ty z
  xB : Blk w xb ty cs
  chg : Chg [p] w0 w
  ne1 : p ≠ rb
  ne2 : p ≠ xb
  ne3 : rb ≠ xb
  new1 : w0.heap.size ≤ rb
  new2 : w0.heap.size ≤ xb
section
variable {w0 w w' : World} {p : Nat} {r r' : Ac.R} {ty : TypeId} {rb xb : Nat} {z cs : Array Value}
theorem Rx.rd (h : Rx w0 w p r ty rb xb z cs) (ha : Rl w' p r') (hc : Chg [p] w w') : Rx w0 w' p r' ty rb xb z cs :=
  ⟨ha, h.rB.chg hc (by simp; exact Ne.symm h.ne1), h.xB.chg hc (by simp; exact Ne.symm h.ne2), h.chg.trans hc, h.ne1, h.ne2, h.ne3, h.new1, h.new2⟩
theorem Rx.set {cs' : Array Value} (h : Rx w0 w p r ty rb xb z cs) (i : Nat) (v : Value) (hcs : ∀ (i : Nat) (b : UInt8), cs[i]? ≠ some (bv b)) (hm : cs.setIfInBounds i v = cs') : Rx w0 (w.setCell ⟨xb, i, none⟩ v) p r ty rb xb z cs' :=
  ⟨h.al.far h.xB hcs (set_chg w xb i v) h.ne2, h.rB.far (by simpa using h.ne3) v, by rw [← hm]; exact h.xB.set_ i v, h.chg.then_ (set_chg w xb i v) (fun b hb => by simp at hb; subst hb; exact .inr h.new2), h.ne1, h.ne2, h.ne3, h.new1, h.new2⟩
end
def exA3 (n : ByteArray) (k : Int) (f : Bool) : Array Value := #[.string n, .int .i64 k, .bool f]
def bdA3 (e q p : ByteArray) : Array Value := #[.string e, .string q, .string p]
theorem exA3_no (n : ByteArray) (k : Int) (f : Bool) : ∀ (i : Nat) (b : UInt8), (exA3 n k f)[i]? ≠ some (bv b) := by
  intro i x h
  unfold exA3 at h
  match i, h with
  | 0, h => simp [bv] at h
  | 1, h => simp [bv] at h
  | 2, h => simp [bv] at h
  | i + 3, h => simp at h
theorem bdA3_no (e q p : ByteArray) : ∀ (i : Nat) (b : UInt8), (bdA3 e q p)[i]? ≠ some (bv b) := by
  intro i x h
  unfold bdA3 at h
  match i, h with
  | 0, h => simp [bv] at h
  | 1, h => simp [bv] at h
  | 2, h => simp [bv] at h
  | i + 3, h => simp at h
set_option maxRecDepth 100000 in
set_option maxHeartbeats 8000000 in
theorem rmsgR_any {w : World} {p : Nat} {r : Ac.R} (h : Rl w p r) :
    Calls Tryd.prog 36 #[.pointer (some ⟨p, 0, none⟩)] w (Rn w p (msgV (Ac.rdMsg r).1) (Ac.rdMsg r).2) := by
  have hpl := h.lt
  have hc0 := (Chg.refl [] w).alloc (.cells Msg.zero.cells 27)
  have hc1 := hc0.alloc (.cells Msg.zero.cells 27)
  have hsz : (w.alloc (.cells Msg.zero.cells 27)).heap.size = w.heap.size + 1 := by simp
  have hb2 := Blk.new (w.alloc (.cells Msg.zero.cells 27)) 27 Msg.zero.cells
  rw [hsz] at hb2
  have H0 := Lib.hid (show Rx w ((w.alloc (.cells Msg.zero.cells 27)).alloc (.cells Msg.zero.cells 27)) p r 27 w.heap.size (w.heap.size + 1) Msg.zero.cells Msg.zero.cells from
    ⟨h.to hc1, (Blk.new w _ _).alloc _, hb2, hc1.mono (by simp), by omega, by omega, by omega, Nat.le_refl _, by omega⟩)
  clear h hc0 hc1 hsz hb2
  have v1 : ((Ac.numR 1 r).1 : Int) ≤ 255 := by have := Ac.numR_lt 1 r; omega
  have v3 : ((Ac.numR 1 (Ac.numR 8 (Ac.numR 1 r).2).2).1 : Int) ≤ 255 := by have := Ac.numR_lt 1 (Ac.numR 8 (Ac.numR 1 r).2).2; omega
  unfold Ac.rdMsg
  go_enter Tryd.func36, Tryd.ntmps36
  go_upto_region 2 with fail
  change Code.wp _ _ _ _ ((w.alloc (.cells Msg.zero.cells 27)).alloc (.cells Msg.zero.cells 27))
  generalize (w.alloc (.cells Msg.zero.cells 27)).alloc (.cells Msg.zero.cells 27) = W at *
  go_wp2_with fail
  refine (rnum_any H0.out.al 1 (by unfold WidK; omega)).mono ?_
  rintro e w1 ⟨rfl, ha, hc⟩
  have HS := Lib.hid (H0.out.rd ha hc)
  clear ha hc
  generalize hg1 : (Ac.numR 1 r).1 = n1 at *
  generalize hg2 : (Ac.numR 1 r).2 = r1 at *
  have d1 : w1.cell? ⟨w.heap.size + 1, 0, none⟩ = some (.int .i64 0) := HS.out.xB.cell 0
  have f1 := HS.out.xB.frozen 0
  go_upto_region 3 with fail
  have H2 := Lib.hid (HS.out.set (cs' := (⟨n1, 0, 0, .empty, .empty, .empty⟩ : Msg).cells) 0 (.int .i64 n1) (msg_nobyte _) rfl)
  clear d1 f1 HS hg1 hg2
  generalize w1.setCell ⟨w.heap.size + 1, 0, none⟩ (.int .i64 n1) = w2 at *
  go_wp2_with fail
  refine (rnum_any H2.out.al 8 (by unfold WidK; omega)).mono ?_
  rintro e w3 ⟨rfl, ha, hc⟩
  have HS := Lib.hid (H2.out.rd ha hc)
  clear ha hc
  generalize hg1 : (Ac.numR 8 r1).1 = n2 at *
  generalize hg2 : (Ac.numR 8 r1).2 = r2 at *
  have d1 : w3.cell? ⟨w.heap.size + 1, 1, none⟩ = some (.int .u64 0) := HS.out.xB.cell 1
  have f1 := HS.out.xB.frozen 1
  go_upto_region 4 with fail
  have H4 := Lib.hid (HS.out.set (cs' := (⟨n1, n2, 0, .empty, .empty, .empty⟩ : Msg).cells) 1 (.int .u64 n2) (msg_nobyte _) rfl)
  clear d1 f1 HS hg1 hg2
  generalize w3.setCell ⟨w.heap.size + 1, 1, none⟩ (.int .u64 n2) = w4 at *
  go_wp2_with fail
  refine (rnum_any H4.out.al 1 (by unfold WidK; omega)).mono ?_
  rintro e w5 ⟨rfl, ha, hc⟩
  have HS := Lib.hid (H4.out.rd ha hc)
  clear ha hc
  generalize hg1 : (Ac.numR 1 r2).1 = n3 at *
  generalize hg2 : (Ac.numR 1 r2).2 = r3 at *
  have d1 : w5.cell? ⟨w.heap.size + 1, 2, none⟩ = some (.int .i64 0) := HS.out.xB.cell 2
  have f1 := HS.out.xB.frozen 2
  go_upto_region 5 with fail
  have H6 := Lib.hid (HS.out.set (cs' := (⟨n1, n2, n3, .empty, .empty, .empty⟩ : Msg).cells) 2 (.int .i64 n3) (msg_nobyte _) rfl)
  clear d1 f1 HS hg1 hg2
  generalize w5.setCell ⟨w.heap.size + 1, 2, none⟩ (.int .i64 n3) = w6 at *
  go_wp2_with fail
  refine (rtextR_any H6.out.al ).mono ?_
  rintro e w7 ⟨rfl, ha, hc⟩
  have HS := Lib.hid (H6.out.rd ha hc)
  clear ha hc
  generalize hg1 : strB (Ac.txtR r3).1 = x1 at *
  generalize hg2 : (Ac.txtR r3).2 = r4 at *
  have d1 : w7.cell? ⟨w.heap.size + 1, 3, none⟩ = some (.string .empty) := HS.out.xB.cell 3
  have f1 := HS.out.xB.frozen 3
  go_upto_region 6 with fail
  have H8 := Lib.hid (HS.out.set (cs' := (⟨n1, n2, n3, x1, .empty, .empty⟩ : Msg).cells) 3 (.string x1) (msg_nobyte _) rfl)
  clear d1 f1 HS hg1 hg2
  generalize w7.setCell ⟨w.heap.size + 1, 3, none⟩ (.string x1) = w8 at *
  go_wp2_with fail
  refine (rtextR_any H8.out.al ).mono ?_
  rintro e w9 ⟨rfl, ha, hc⟩
  have HS := Lib.hid (H8.out.rd ha hc)
  clear ha hc
  generalize hg1 : strB (Ac.txtR r4).1 = x2 at *
  generalize hg2 : (Ac.txtR r4).2 = r5 at *
  have d1 : w9.cell? ⟨w.heap.size + 1, 4, none⟩ = some (.string .empty) := HS.out.xB.cell 4
  have f1 := HS.out.xB.frozen 4
  go_upto_region 7 with fail
  have Ha := Lib.hid (HS.out.set (cs' := (⟨n1, n2, n3, x1, x2, .empty⟩ : Msg).cells) 4 (.string x2) (msg_nobyte _) rfl)
  clear d1 f1 HS hg1 hg2
  generalize w9.setCell ⟨w.heap.size + 1, 4, none⟩ (.string x2) = wa at *
  go_wp2_with fail
  refine (rtextR_any Ha.out.al ).mono ?_
  rintro e wb ⟨rfl, ha, hc⟩
  have HS := Lib.hid (Ha.out.rd ha hc)
  clear ha hc
  generalize hg1 : strB (Ac.txtR r5).1 = x3 at *
  generalize hg2 : (Ac.txtR r5).2 = r6 at *
  have d1 : wb.cell? ⟨w.heap.size + 1, 5, none⟩ = some (.string .empty) := HS.out.xB.cell 5
  have f1 := HS.out.xB.frozen 5
  go_upto_region 8 with fail
  have Hc := Lib.hid (HS.out.set (cs' := (⟨n1, n2, n3, x1, x2, x3⟩ : Msg).cells) 5 (.string x3) (msg_nobyte _) rfl)
  clear d1 f1 HS hg1 hg2
  generalize wb.setCell ⟨w.heap.size + 1, 5, none⟩ (.string x3) = wc at *
  have hl := load_msg Hc.out.xB
  obtain ⟨wd, hst, hbd, hcd⟩ := store_msg (m := ⟨n1, n2, n3, x1, x2, x3⟩) Hc.out.rB rfl
  have HF := Lib.hid (And.intro hbd hcd)
  clear hbd hcd
  go_wp2_with (first | (refine wpList_loadW _ _ (by rfl) _ _ (by rfl) hl (by rfl) ?_) | (refine wpList_storeR (by rfl) _ _ _ (by rfl) _ _ (by rfl) (by rfl) _ hst ?_))
  have hlv := lvar_blk HF.out.1 Tryd.underlying27 rfl info_msg
  refine bodyPost_ret (results_cell Tryd.results36 _ _ _ _ _ (by rfl) hlv) rfl ⟨rfl, Hc.out.al.far Hc.out.rB (msg_nobyte _) HF.out.2 Hc.out.ne1, Hc.out.chg.then_ HF.out.2 (fun b hb => by simp at hb; subst hb; exact .inr (Nat.le_refl _))⟩
end Go.Proofs.YtgnhpjakjoaejaaDoor
