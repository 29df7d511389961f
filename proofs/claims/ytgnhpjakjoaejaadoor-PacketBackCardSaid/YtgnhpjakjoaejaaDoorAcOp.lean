/- An act among a law's arguments, opened to its cells. -/
import Derived.Test.YtgnhpjakjoaejaaDoorLMsgOpen
import Derived.Test.YtgnhpjakjoaejaaDoorLRowsS
import Derived.Test.YtgnhpjakjoaejaaDoorAcBy
set_option linter.unusedVariables false
set_option linter.unusedSimpArgs false
namespace Go.Proofs.YtgnhpjakjoaejaaDoor
open Go.RowKit Go.ChangeShapes Go.WideShapes
open Go.Proofs.YtgnhpjakjoaejaaDoor.Ac (ActS)
section
variable {H : Type} {enc : TypeId × Value → H} {w : World} {base : Nat} {spare : Nat → Bool} {held : Bool} {fuel : Nat} {cs : List Value} {x : DataW H × List MemPlace}
theorem reach_eq : reachBytes = 140737488351232 := by decide
theorem trod_str_s (h : DataW.trod enc Tryd.prog w base spare held fuel 9 cs = some x) (hs : Small Tryd.prog 9 x.1) : ∃ s : ByteArray, cs = [.string s] ∧ s.size ≤ 140737488351232 := by
  obtain ⟨s, k, rfl, _⟩ := DataW.trod_string Tryd.underlying9 h
  have := hs.string
  rw [reach_eq] at this
  exact ⟨s, k, this⟩
/-- What is known of a message among the arguments. -/
structure Msg.WfS (m : Msg) : Prop where
  org : (Lit.int .i64 m.org).wf = true
  seq : (Lit.int .u64 m.seq).wf = true
  hop : (Lit.int .i64 m.hop).wf = true
  ex : m.ex.size ≤ 140737488351232
  key : m.key.size ≤ 140737488351232
  body : m.body.size ≤ 140737488351232
set_option maxRecDepth 100000 in
theorem trod_msg_s (h : DataW.trod enc Tryd.prog w base spare held fuel 27 cs = some x) (hs : Small Tryd.prog 27 x.1) : ∃ m : Msg, cs = m.cells.toList ∧ m.WfS := by
  obtain ⟨xs, n, rfl, rfl, hlen, hxl, hg⟩ := DataW.trod_struct Tryd.underlying27 h
  rw [cellsMsg] at hlen
  match cs, hlen with
  | [c0, c1, c2, c3, c4, c5], _ =>
    obtain ⟨y0, e0⟩ := some_at hxl 0 (by decide)
    obtain ⟨y1, e1⟩ := some_at hxl 1 (by decide)
    obtain ⟨y2, e2⟩ := some_at hxl 2 (by decide)
    obtain ⟨y3, e3⟩ := some_at hxl 3 (by decide)
    obtain ⟨y4, e4⟩ := some_at hxl 4 (by decide)
    have h0 : DataW.trod enc Tryd.prog w base spare held n 25 (([c0, c1, c2, c3, c4, c5].drop 0).take (Tryd.prog.cellsOf 25)) = some y0 := (hg 0 _ rfl).trans e0
    have h1 : DataW.trod enc Tryd.prog w base spare held n 3 (([c0, c1, c2, c3, c4, c5].drop 2).take (Tryd.prog.cellsOf 3)) = some y1 := (hg 1 _ rfl).trans e1
    have h2 : DataW.trod enc Tryd.prog w base spare held n 9 (([c0, c1, c2, c3, c4, c5].drop 3).take (Tryd.prog.cellsOf 9)) = some y2 := (hg 2 _ rfl).trans e2
    have h3 : DataW.trod enc Tryd.prog w base spare held n 9 (([c0, c1, c2, c3, c4, c5].drop 4).take (Tryd.prog.cellsOf 9)) = some y3 := (hg 3 _ rfl).trans e3
    have h4 : DataW.trod enc Tryd.prog w base spare held n 9 (([c0, c1, c2, c3, c4, c5].drop 5).take (Tryd.prog.cellsOf 9)) = some y4 := (hg 4 _ rfl).trans e4
    rw [cellsIdent] at h0
    rw [cellsInt] at h1
    rw [cellsStr] at h2 h3 h4
    obtain ⟨o, s, k0, w0, w0'⟩ := trod_ident h0
    obtain ⟨a, ha, _, wa⟩ := DataW.trod_int Tryd.underlying3 h1
    obtain ⟨s2, k2, w2⟩ := trod_str_s h2 (hs.struct Tryd.underlying27 (i := 2) rfl (by rw [List.getElem?_map, e2]; rfl))
    obtain ⟨s3, k3, w3⟩ := trod_str_s h3 (hs.struct Tryd.underlying27 (i := 3) rfl (by rw [List.getElem?_map, e3]; rfl))
    obtain ⟨s4, k4, w4⟩ := trod_str_s h4 (hs.struct Tryd.underlying27 (i := 4) rfl (by rw [List.getElem?_map, e4]; rfl))
    simp at k0 ha k2 k3 k4
    obtain ⟨rfl, rfl⟩ := k0
    subst ha k2 k3 k4
    exact ⟨⟨o, s, a, s2, s3, s4⟩, rfl, w0, w0', wa, w2, w3, w4⟩
set_option maxRecDepth 100000 in
theorem open_msgA {r : Reach} {b0 : Nat} {v : Value} {d : DataW H} {p : List MemPlace} (hv : Value.okWide Tryd.prog w r b0 27 v) (h : DataW.Trod enc Tryd.prog w base spare held 27 v d p) (hs : Small Tryd.prog 27 d) :
    ∃ m : Msg, v = msgV m ∧ m.WfS := by
  obtain ⟨cs, rfl, hsz⟩ := okWide_struct Tryd.underlying27 hv
  obtain ⟨fuel, hf⟩ := h
  obtain ⟨a, hc, r⟩ := trod_msg_s hf hs
  refine ⟨a, ?_, r⟩
  obtain ⟨l⟩ := cs
  simp only [Value.cells] at hc
  unfold msgV
  rw [show l = a.cells.toList from hc]
end
theorem seqOk_of {z : Int} (h : (Lit.int .u64 z).wf = true) : SeqOk z := by
  simp only [Lit.wf, Bool.and_eq_true, decide_eq_true_eq] at h
  have e1 : IntKind.u64.min = 0 := by decide
  have e2 : IntKind.u64.max = 18446744073709551615 := by decide
  rw [e1, e2] at h
  unfold SeqOk
  omega
end Go.Proofs.YtgnhpjakjoaejaaDoor
