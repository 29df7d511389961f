/- A packet among a law's arguments, opened to its cells. -/
import Derived.Test.YtgnhpjakjoaejaaDoorAcOp
import Derived.Test.YtgnhpjakjoaejaaDoorPkBr
set_option linter.unusedVariables false
set_option linter.unusedSimpArgs false
namespace Go.Proofs.YtgnhpjakjoaejaaDoor
open Go.RowKit Go.ChangeShapes Go.WideShapes
open Go.Proofs.YtgnhpjakjoaejaaDoor.Pk (Pkt)
section
variable {H : Type} {enc : TypeId × Value → H} {w : World} {base : Nat} {spare : Nat → Bool} {held : Bool} {fuel : Nat} {cs : List Value} {x : DataW H × List MemPlace}
theorem cellsPk : Tryd.prog.cellsOf 29 = 12 := by kernel_rfl
theorem cellsU16 : Tryd.prog.cellsOf 23 = 1 := by kernel_rfl
/-- What is known of a packet among the arguments. -/
structure PkWf (p : Pkt) : Prop where
  ep : (Lit.int .u64 p.ep).wf = true
  num : (Lit.int .u16 p.num).wf = true
  mask : (Lit.int .u64 p.mask).wf = true
  m : p.m.WfS
theorem list12 {α : Type} {l : List α} (h : l.length = 12) : ∃ a0 a1 a2 a3 a4 a5 a6 a7 a8 a9 b0 b1, l = [a0, a1, a2, a3, a4, a5, a6, a7, a8, a9, b0, b1] := by
  match l, h with
  | [a0, a1, a2, a3, a4, a5, a6, a7, a8, a9, b0, b1], _ => exact ⟨_, _, _, _, _, _, _, _, _, _, _, _, rfl⟩
set_option maxRecDepth 100000 in
theorem trod_pk (h : DataW.trod enc Tryd.prog w base spare held fuel 29 cs = some x) (hs : Small Tryd.prog 29 x.1) : ∃ p : Pkt, cs = (PkS.cells p).toList ∧ PkWf p := by
  obtain ⟨xs, n, rfl, rfl, hlen, hxl, hg⟩ := DataW.trod_struct Tryd.underlying29 h
  rw [cellsPk] at hlen
  obtain ⟨a0, a1, a2, a3, a4, a5, a6, a7, a8, a9, b0, b1, rfl⟩ := list12 hlen
  obtain ⟨y0, e0⟩ := some_at hxl 0 (by decide)
  obtain ⟨y1, e1⟩ := some_at hxl 1 (by decide)
  obtain ⟨y2, e2⟩ := some_at hxl 2 (by decide)
  obtain ⟨y3, e3⟩ := some_at hxl 3 (by decide)
  obtain ⟨y4, e4⟩ := some_at hxl 4 (by decide)
  obtain ⟨y5, e5⟩ := some_at hxl 5 (by decide)
  obtain ⟨y6, e6⟩ := some_at hxl 6 (by decide)
  have h0 : DataW.trod enc Tryd.prog w base spare held n 3 (List.take (Tryd.prog.cellsOf 3) (List.drop 0 _)) = some y0 := (hg 0 _ rfl).trans e0
  have h1 : DataW.trod enc Tryd.prog w base spare held n 3 (List.take (Tryd.prog.cellsOf 3) (List.drop 1 _)) = some y1 := (hg 1 _ rfl).trans e1
  have h2 : DataW.trod enc Tryd.prog w base spare held n 3 (List.take (Tryd.prog.cellsOf 3) (List.drop 2 _)) = some y2 := (hg 2 _ rfl).trans e2
  have h3 : DataW.trod enc Tryd.prog w base spare held n 22 (List.take (Tryd.prog.cellsOf 22) (List.drop 3 _)) = some y3 := (hg 3 _ rfl).trans e3
  have h4 : DataW.trod enc Tryd.prog w base spare held n 23 (List.take (Tryd.prog.cellsOf 23) (List.drop 4 _)) = some y4 := (hg 4 _ rfl).trans e4
  have h5 : DataW.trod enc Tryd.prog w base spare held n 22 (List.take (Tryd.prog.cellsOf 22) (List.drop 5 _)) = some y5 := (hg 5 _ rfl).trans e5
  have h6 : DataW.trod enc Tryd.prog w base spare held n 27 (List.take (Tryd.prog.cellsOf 27) (List.drop 6 _)) = some y6 := (hg 6 _ rfl).trans e6
  rw [cellsInt] at h0 h1 h2
  rw [cellsU64] at h3 h5
  rw [cellsU16] at h4
  rw [cellsMsg] at h6
  obtain ⟨z0, k0, _, w0⟩ := DataW.trod_int Tryd.underlying3 h0
  obtain ⟨z1, k1, _, w1⟩ := DataW.trod_int Tryd.underlying3 h1
  obtain ⟨z2, k2, _, w2⟩ := DataW.trod_int Tryd.underlying3 h2
  obtain ⟨z3, k3, _, w3⟩ := DataW.trod_int Tryd.underlying22 h3
  obtain ⟨z4, k4, _, w4⟩ := DataW.trod_int Tryd.underlying23 h4
  obtain ⟨z5, k5, _, w5⟩ := DataW.trod_int Tryd.underlying22 h5
  obtain ⟨m, k6, w6⟩ := trod_msg_s h6 (hs.struct Tryd.underlying29 (i := 6) rfl (by rw [List.getElem?_map, e6]; rfl))
  simp at k0 k1 k2 k3 k4 k5
  simp [Msg.cells] at k6
  obtain ⟨rfl, rfl, rfl, rfl, rfl, rfl⟩ := k6
  subst k0 k1 k2 k3 k4 k5
  exact ⟨⟨z0, z1, z2, z3, z4, z5, m⟩, rfl, w3, w4, w5, w6⟩
set_option maxRecDepth 100000 in
theorem open_pk {r : Reach} {b0 : Nat} {v : Value} {d : DataW H} {p : List MemPlace} (hv : Value.okWide Tryd.prog w r b0 29 v) (h : DataW.Trod enc Tryd.prog w base spare held 29 v d p) (hs : Small Tryd.prog 29 d) :
    ∃ a : Pkt, v = pkV a ∧ PkWf a := by
  obtain ⟨cs, rfl, hsz⟩ := okWide_struct Tryd.underlying29 hv
  obtain ⟨fuel, hf⟩ := h
  obtain ⟨a, hc, r⟩ := trod_pk hf hs
  refine ⟨a, ?_, r⟩
  obtain ⟨l⟩ := cs
  simp only [Value.cells] at hc
  unfold pkV
  rw [show l = (PkS.cells a).toList from hc]
end
theorem u16_of {z : Int} (h : (Lit.int .u16 z).wf = true) : 0 ≤ z ∧ z < 65536 := by
  simp only [Lit.wf, Bool.and_eq_true, decide_eq_true_eq] at h
  have e1 : IntKind.u16.min = 0 := by decide
  have e2 : IntKind.u16.max = 65535 := by decide
  rw [e1, e2] at h
  omega
def sumP (p : Pkt) : Nat := p.m.ex.size + p.m.key.size + p.m.body.size
theorem PkWf.fit {p : Pkt} (h : PkWf p) (hs : sumP p ≤ 3000) : PkFit p := by
  unfold sumP at hs
  have h1 := seqOk_of h.ep
  have h2 := u16_of h.num
  have h3 := seqOk_of h.mask
  have h4 := seqOk_of h.m.seq
  exact ⟨⟨by omega, by omega, by omega⟩, ⟨h4, by unfold maxLen; omega, by unfold maxLen; omega, by unfold maxLen; omega⟩, ⟨h1, h2, h3, h4.2⟩⟩
set_option maxRecDepth 100000 in
set_option maxHeartbeats 4000000 in
theorem great_any (p : Pkt) (hw : PkWf p) (w : World) : Calls Tryd.prog 7 #[pkV p] w fun e w' => e = .returned (.bool (decide (3000 < sumP p))) ∧ Chg [] w w' := by
  have s1 := hw.m.ex
  have s2 := hw.m.key
  have s3 := hw.m.body
  have H := Lib.hid (And.intro (Blk.new w 29 (PkS.cells p)) ((Chg.refl [] w).alloc (.cells (PkS.cells p) 29)))
  unfold pkV
  go_enter Tryd.func7, Tryd.ntmps7
  go_upto_region 1 with fail
  generalize w.alloc (.cells (PkS.cells p) 29) = W at *
  have c9 : W.cell? ⟨w.heap.size, 9, none⟩ = some (.string p.m.ex) := H.out.1.cell 9
  have c10 : W.cell? ⟨w.heap.size, 10, none⟩ = some (.string p.m.key) := H.out.1.cell 10
  have c11 : W.cell? ⟨w.heap.size, 11, none⟩ = some (.string p.m.body) := H.out.1.cell 11
  go_wp2
  go_ret
  unfold sumP
  exact ⟨congrArg (fun b => Ending.returned (.bool b)) (by rw [decide_eq_decide]; omega), H.out.2⟩
end Go.Proofs.YtgnhpjakjoaejaaDoor
