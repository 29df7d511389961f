/- The law's great, lives; ActTells walked. -/
import Derived.Test.YtmfaooihigphgaaDoorAcRb
import Derived.Test.YtmfaooihigphgaaDoorAcOp
import Derived.Test.YtmfaooihigphgaaDoorAcLaid
set_option linter.unusedVariables false
set_option linter.unusedSimpArgs false
namespace Go.Proofs.YtmfaooihigphgaaDoor
open Go.RowKit
open Go.Proofs.YtmfaooihigphgaaDoor.Ac (ActS)

theorem ret_bool {a b : Bool} (h : a = b) : Ending.returned (.bool a) = .returned (.bool b) := by rw [h]
def sumA (a : ActS) : Nat := a.name.size + a.xn.size + a.be.size + a.bq.size + a.bp.size + a.m.ex.size + a.m.key.size + a.m.body.size
structure Ac.ActS.Size (a : ActS) : Prop where
  name : a.name.size ≤ 140737488351232
  xn : a.xn.size ≤ 140737488351232
  be : a.be.size ≤ 140737488351232
  bq : a.bq.size ≤ 140737488351232
  bp : a.bp.size ≤ 140737488351232
  ex : a.m.ex.size ≤ 140737488351232
  key : a.m.key.size ≤ 140737488351232
  body : a.m.body.size ≤ 140737488351232
theorem Ac.ActS.Wf.size {a : ActS} (h : a.Wf) : a.Size := ⟨h.name, h.xn, h.be, h.bq, h.bp, h.m.ex, h.m.key, h.m.body⟩
theorem Ac.ActS.Wf.fitA {a : ActS} (h : a.Wf) (hs : sumA a ≤ 3000) : a.FitA := by
  unfold sumA at hs
  exact ⟨⟨by omega, by omega, by omega, by omega, by omega, ⟨by omega, by omega, by omega⟩⟩, seqOk_of h.m.seq, seqOk_of h.tag⟩
theorem Msg.WfS.fit {m : Msg} (h : m.WfS) : m.Fit := ⟨seqOk_of h.seq, by have := h.ex; unfold maxLen; omega, by have := h.key; unfold maxLen; omega, by have := h.body; unfold maxLen; omega⟩
set_option maxRecDepth 100000 in
set_option maxHeartbeats 4000000 in
theorem great_any (a : ActS) (hs : a.Size) (w : World) : Calls Tryd.prog 8 #[actV a] w fun e w' => e = .returned (.bool (decide (3000 < sumA a))) ∧ Chg [] w w' := by
  obtain ⟨s1, s2, s3, s4, s5, s6, s7, s8⟩ := hs
  have hc0 := (Chg.refl [] w).alloc (.cells (ActS.cells a) 32)
  have H := Lib.hid (And.intro (Blk.new w 32 (ActS.cells a)) hc0)
  clear hc0
  unfold actV
  go_enter Tryd.func8, Tryd.ntmps8
  go_upto_region 1 with fail
  generalize w.alloc (.cells (ActS.cells a) 32) = W at *
  have c1 : W.cell? ⟨w.heap.size, 1, none⟩ = some (.string a.name) := H.out.1.cell 1
  have c5 : W.cell? ⟨w.heap.size, 5, none⟩ = some (.string a.xn) := H.out.1.cell 5
  have c8 : W.cell? ⟨w.heap.size, 8, none⟩ = some (.string a.be) := H.out.1.cell 8
  have c9 : W.cell? ⟨w.heap.size, 9, none⟩ = some (.string a.bq) := H.out.1.cell 9
  have c10 : W.cell? ⟨w.heap.size, 10, none⟩ = some (.string a.bp) := H.out.1.cell 10
  have c11 : W.cell? ⟨w.heap.size, 11, none⟩ = some (.int .i64 a.m.org) := H.out.1.cell 11
  have c12 : W.cell? ⟨w.heap.size, 12, none⟩ = some (.int .u64 a.m.seq) := H.out.1.cell 12
  have c13 : W.cell? ⟨w.heap.size, 13, none⟩ = some (.int .i64 a.m.hop) := H.out.1.cell 13
  have c14 : W.cell? ⟨w.heap.size, 14, none⟩ = some (.string a.m.ex) := H.out.1.cell 14
  have c15 : W.cell? ⟨w.heap.size, 15, none⟩ = some (.string a.m.key) := H.out.1.cell 15
  have c16 : W.cell? ⟨w.heap.size, 16, none⟩ = some (.string a.m.body) := H.out.1.cell 16
  have hlt := H.out.1.lt
  go_wp2
  go_ret
  unfold sumA
  exact ⟨ret_bool (by rw [decide_eq_decide]; omega), H.out.2.alloc _⟩
/-- The example's acts. -/
def exA : ActS := { Ac.ActS.zero with kind := 8, name := ⟨#[113]⟩ }
def exB : ActS := { Ac.ActS.zero with kind := 11, n := 3, dst := 2 }
theorem exA_good : Ac.goodA exA = true := by
  rw [goodA_k [110] 8 rfl (by decide) (by decide) rfl]
  have e : Ac.sameS exA (List.foldl (Ac.partZ exA) (Ac.ActS.bare exA.kind) [110]) = true := (Ac.sameS_iff _ _).2 rfl
  rw [e]
  rfl
theorem exB_good : Ac.goodA exB = true := by
  rw [goodA_k [111, 99] 11 rfl (by decide) (by decide) rfl]
  have e : Ac.sameS exB (List.foldl (Ac.partZ exB) (Ac.ActS.bare exB.kind) [111, 99]) = true := (Ac.sameS_iff _ _).2 rfl
  rw [e]
  rfl
theorem exA_bytes : Ac.bytesA exA = [8, 0, 1, 113] := by
  rw [bytesA_k [110] 8 rfl rfl exA_good]
  rfl
theorem exB_bytes : Ac.bytesA exB = [11, 2, 0, 3] := by
  rw [bytesA_k [111, 99] 11 rfl rfl exB_good]
  rfl
theorem small_empty : (ByteArray.empty).size ≤ 100000 := by decide
theorem exA_fit : exA.FitA := ⟨⟨by decide, by decide, by decide, by decide, by decide, ⟨by decide, by decide, by decide⟩⟩, by unfold SeqOk; decide, by unfold SeqOk; decide⟩
theorem exB_fit : exB.FitA := ⟨⟨by decide, by decide, by decide, by decide, by decide, ⟨by decide, by decide, by decide⟩⟩, by unfold SeqOk; decide, by unfold SeqOk; decide⟩
theorem Bt.lit (w : World) (l : Bs) (n : Nat) (hn : n = l.length) : Bt (w.alloc (.cells (bvs l).toArray 5)) (some ⟨w.heap.size, 0, none⟩) n n l :=
  ⟨hn, ⟨by rw [bvs_len, hn]; exact Nat.le_refl _, fun i u hu => ⟨_, rfl, by rw [add_none, Nat.zero_add, (Blk.new w 5 (bvs l).toArray).cell i]; simpa using hu⟩⟩, fun a ha => by cases ha; rfl⟩
theorem Laid.chg0 {w w' : World} (h : Laid w) (hc : Chg [] w w') : Laid w' := ⟨h.1.chg0 hc, h.2.chg0 hc⟩
set_option maxRecDepth 100000 in
set_option maxHeartbeats 4000000 in
theorem lives_any (w : World) (hL : Laid w) : Calls Tryd.prog 9 #[] w fun e w' => e = .returned (.bool true) ∧ Chg [] w w' := by
  have HL := Lib.hid hL
  have H := Lib.hid (And.intro ((Blk.new w 32 (ActS.cells exA)).alloc (.cells (ActS.cells exB) 32)) (And.intro (Blk.new (w.alloc (.cells (ActS.cells exA) 32)) 32 (ActS.cells exB)) (((Chg.refl [] w).alloc (.cells (ActS.cells exA) 32)).alloc (.cells (ActS.cells exB) 32))))
  rw [World.size_alloc] at H
  clear hL
  go_enter Tryd.func9, Tryd.ntmps9
  go_upto_region 3 with fail
  change Code.wp _ _ _ _ ((w.alloc (.cells (ActS.cells exA) 32)).alloc (.cells (ActS.cells exB) 32))
  generalize (w.alloc (.cells (ActS.cells exA) 32)).alloc (.cells (ActS.cells exB) 32) = W at *
  have hl1 := load_act H.out.1
  go_wp2_with (refine wpList_loadW _ _ (by rfl) _ _ (by rfl) hl1 (by rfl) ?_)
  refine (good_any exA exA_fit.small W (HL.out.2.chg0 H.out.2.2)).mono ?_
  rintro e W1 ⟨rfl, hc⟩
  rw [exA_good]
  have H1 := Lib.hid (And.intro (H.out.1.chg hc (by simp)) (And.intro (H.out.2.1.chg hc (by simp)) (H.out.2.2.trans hc)))
  clear hc hl1
  have hl1 := load_act H1.out.1
  go_wp2_with (refine wpList_loadW _ _ (by rfl) _ _ (by rfl) hl1 (by rfl) ?_)
  refine (bytes_any exA exA_fit W1 (HL.out.1.chg0 H1.out.2.2) (HL.out.2.chg0 H1.out.2.2)).mono ?_
  rintro e W2 ⟨A, n, c, rfl, ho, hc⟩
  rw [exA_bytes] at ho
  have H2 := Lib.hid (And.intro ho (And.intro (H1.out.2.1.chg hc (by simp)) (H1.out.2.2.trans hc)))
  clear hc hl1 ho
  go_wp2_with fail
  have hcl := (Chg.refl [] W2).alloc (.cells (bvs [8, 0, 1, 113]).toArray 5)
  refine (same_any _ _ _ _ _ _ _ [8, 0, 1, 113] [8, 0, 1, 113] (H2.out.1.bt.chg0 hcl) (Bt.lit W2 [8, 0, 1, 113] 4 rfl)).mono ?_
  rintro e W3 ⟨rfl, rfl⟩
  have H3 := Lib.hid (And.intro (H2.out.2.1.chg hcl (by simp)) (H2.out.2.2.trans hcl))
  clear hcl
  have hl2 := load_act H3.out.1
  have e1 : (([8, 0, 1, 113] : Bs) == [8, 0, 1, 113]) = true := by decide
  rw [e1]
  clear e1
  go_wp2_with (refine wpList_loadW _ _ (by rfl) _ _ (by rfl) hl2 (by rfl) ?_)
  refine (bytes_any exB exB_fit _ (HL.out.1.chg0 H3.out.2) (HL.out.2.chg0 H3.out.2)).mono ?_
  rintro e W4 ⟨A4, n4, c4, rfl, ho, hc⟩
  rw [exB_bytes] at ho
  have H4 := Lib.hid (And.intro ho (H3.out.2.trans hc))
  clear hc hl2 ho
  go_wp2_with fail
  have hcl := (Chg.refl [] W4).alloc (.cells (bvs [11, 2, 0, 3]).toArray 5)
  refine (same_any _ _ _ _ _ _ _ [11, 2, 0, 3] [11, 2, 0, 3] (H4.out.1.bt.chg0 hcl) (Bt.lit W4 [11, 2, 0, 3] 4 rfl)).mono ?_
  rintro e W5 ⟨rfl, rfl⟩
  have H5 := Lib.hid (H4.out.2.trans hcl)
  clear hcl
  have e1 : (([11, 2, 0, 3] : Bs) == [11, 2, 0, 3]) = true := by decide
  rw [e1]
  clear e1
  go_wp2
  go_ret
  exact ⟨rfl, H5.out⟩
end Go.Proofs.YtmfaooihigphgaaDoor
