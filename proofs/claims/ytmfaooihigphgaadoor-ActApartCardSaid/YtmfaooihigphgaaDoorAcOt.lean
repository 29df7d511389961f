/- Two messages among a law's arguments. -/
import Derived.Test.YtmfaooihigphgaaDoorAcAp
set_option linter.unusedVariables false
set_option linter.unusedSimpArgs false
namespace Go.Proofs.YtmfaooihigphgaaDoor
open Go.RowKit Go.ChangeShapes Go.WideShapes
section
variable {H : Type} {enc : TypeId × Value → H} {w : World} {base : Nat} {spare : Nat → Bool} {held : Bool} {fuel : Nat} {cs : List Value} {x : DataW H × List MemPlace}
theorem cellsTwo : Tryd.prog.cellsOf 43 = 12 := by kernel_rfl
theorem list12 {α : Type} {l : List α} (h : l.length = 12) : ∃ a0 a1 a2 a3 a4 a5 a6 a7 a8 a9 b0 b1, l = [a0, a1, a2, a3, a4, a5, a6, a7, a8, a9, b0, b1] := by
  match l, h with
  | [a0, a1, a2, a3, a4, a5, a6, a7, a8, a9, b0, b1], _ => exact ⟨_, _, _, _, _, _, _, _, _, _, _, _, rfl⟩
set_option maxRecDepth 100000 in
theorem trod_two (h : DataW.trod enc Tryd.prog w base spare held fuel 43 cs = some x) (hs : Small Tryd.prog 43 x.1) : ∃ y : TwoM, cs = y.cells.toList ∧ y.M.WfS ∧ y.N.WfS := by
  obtain ⟨xs, n, rfl, rfl, hlen, hxl, hg⟩ := DataW.trod_struct Tryd.underlying43 h
  rw [cellsTwo] at hlen
  obtain ⟨a0, a1, a2, a3, a4, a5, a6, a7, a8, a9, b0, b1, rfl⟩ := list12 hlen
  obtain ⟨y0, e0⟩ := some_at hxl 0 (by decide)
  obtain ⟨y1, e1⟩ := some_at hxl 1 (by decide)
  have h0 : DataW.trod enc Tryd.prog w base spare held n 30 (List.take (Tryd.prog.cellsOf 30) (List.drop 0 _)) = some y0 := (hg 0 _ rfl).trans e0
  have h1 : DataW.trod enc Tryd.prog w base spare held n 30 (List.take (Tryd.prog.cellsOf 30) (List.drop 6 _)) = some y1 := (hg 1 _ rfl).trans e1
  rw [cellsMsg] at h0 h1
  obtain ⟨m, k0, w0⟩ := trod_msg_s h0 (hs.struct Tryd.underlying43 (i := 0) rfl (by rw [List.getElem?_map, e0]; rfl))
  obtain ⟨q, k1, w1⟩ := trod_msg_s h1 (hs.struct Tryd.underlying43 (i := 1) rfl (by rw [List.getElem?_map, e1]; rfl))
  simp [Msg.cells] at k0 k1
  obtain ⟨rfl, rfl, rfl, rfl, rfl, rfl⟩ := k0
  obtain ⟨rfl, rfl, rfl, rfl, rfl, rfl⟩ := k1
  exact ⟨⟨m, q⟩, rfl, w0, w1⟩
set_option maxRecDepth 100000 in
theorem open_two {r : Reach} {b0 : Nat} {v : Value} {d : DataW H} {p : List MemPlace} (hv : Value.okWide Tryd.prog w r b0 43 v) (h : DataW.Trod enc Tryd.prog w base spare held 43 v d p) (hs : Small Tryd.prog 43 d) :
    ∃ y : TwoM, v = .agg y.cells ∧ y.M.WfS ∧ y.N.WfS := by
  obtain ⟨cs, rfl, hsz⟩ := okWide_struct Tryd.underlying43 hv
  obtain ⟨fuel, hf⟩ := h
  obtain ⟨a, hc, r⟩ := trod_two hf hs
  refine ⟨a, ?_, r⟩
  obtain ⟨l⟩ := cs
  simp only [Value.cells] at hc
  rw [show l = a.cells.toList from hc]
end
end Go.Proofs.YtmfaooihigphgaaDoor
