/- An act among a law's arguments, opened to its cells. -/
import Derived.Test.YtmfaooihigphgaaDoorLMsgOpen
import Derived.Test.YtmfaooihigphgaaDoorLRowsS
import Derived.Test.YtmfaooihigphgaaDoorAcBy
set_option linter.unusedVariables false
set_option linter.unusedSimpArgs false
namespace Go.Proofs.YtmfaooihigphgaaDoor
open Go.RowKit Go.ChangeShapes Go.WideShapes
open Go.Proofs.YtmfaooihigphgaaDoor.Ac (ActS)
section
variable {H : Type} {enc : TypeId × Value → H} {w : World} {base : Nat} {spare : Nat → Bool} {held : Bool} {fuel : Nat} {cs : List Value} {x : DataW H × List MemPlace}
theorem reach_eq : reachBytes = 140737488351232 := by decide
theorem trod_str_s (h : DataW.trod enc Tryd.prog w base spare held fuel 9 cs = some x) (hs : Small Tryd.prog 9 x.1) : ∃ s : ByteArray, cs = [.string s] ∧ s.size ≤ 140737488351232 := by
  obtain ⟨s, k, rfl, _⟩ := DataW.trod_string Tryd.underlying9 h
  have := hs.string
  rw [reach_eq] at this
  exact ⟨s, k, this⟩
theorem cellsEx : Tryd.prog.cellsOf 24 = 3 := by kernel_rfl
theorem cellsBd : Tryd.prog.cellsOf 26 = 3 := by kernel_rfl
theorem cellsActA : Tryd.prog.cellsOf 32 = 17 := by kernel_rfl
theorem cellsBool : Tryd.prog.cellsOf 4 = 1 := by kernel_rfl
set_option maxRecDepth 100000 in
theorem trod_exch (h : DataW.trod enc Tryd.prog w base spare held fuel 24 cs = some x) (hs : Small Tryd.prog 24 x.1) :
    ∃ (s : ByteArray) (k : Int) (b : Bool), cs = [.string s, .int .i64 k, .bool b] ∧ s.size ≤ 140737488351232 ∧ (Lit.int .i64 k).wf = true := by
  obtain ⟨xs, n, rfl, rfl, hlen, hxl, hg⟩ := DataW.trod_struct Tryd.underlying24 h
  rw [cellsEx] at hlen
  match cs, hlen with
  | [c0, c1, c2], _ =>
    obtain ⟨y0, e0⟩ := some_at hxl 0 (by decide)
    obtain ⟨y1, e1⟩ := some_at hxl 1 (by decide)
    obtain ⟨y2, e2⟩ := some_at hxl 2 (by decide)
    have h0 : DataW.trod enc Tryd.prog w base spare held n 9 (([c0, c1, c2].drop 0).take (Tryd.prog.cellsOf 9)) = some y0 := (hg 0 _ rfl).trans e0
    have h1 : DataW.trod enc Tryd.prog w base spare held n 3 (([c0, c1, c2].drop 1).take (Tryd.prog.cellsOf 3)) = some y1 := (hg 1 _ rfl).trans e1
    have h2 : DataW.trod enc Tryd.prog w base spare held n 4 (([c0, c1, c2].drop 2).take (Tryd.prog.cellsOf 4)) = some y2 := (hg 2 _ rfl).trans e2
    rw [cellsStr] at h0
    rw [cellsInt] at h1
    rw [cellsBool] at h2
    obtain ⟨s, k0, w0⟩ := trod_str_s h0 (hs.struct Tryd.underlying24 (i := 0) rfl (by rw [List.getElem?_map, e0]; rfl))
    obtain ⟨k, k1, _, w1⟩ := DataW.trod_int Tryd.underlying3 h1
    obtain ⟨b, k2, _⟩ := DataW.trod_bool Tryd.underlying4 h2
    simp at k0 k1 k2
    subst k0 k1 k2
    exact ⟨s, k, b, rfl, w0, w1⟩
set_option maxRecDepth 100000 in
theorem trod_bind (h : DataW.trod enc Tryd.prog w base spare held fuel 26 cs = some x) (hs : Small Tryd.prog 26 x.1) :
    ∃ (s t u : ByteArray), cs = [.string s, .string t, .string u] ∧ s.size ≤ 140737488351232 ∧ t.size ≤ 140737488351232 ∧ u.size ≤ 140737488351232 := by
  obtain ⟨xs, n, rfl, rfl, hlen, hxl, hg⟩ := DataW.trod_struct Tryd.underlying26 h
  rw [cellsBd] at hlen
  match cs, hlen with
  | [c0, c1, c2], _ =>
    obtain ⟨y0, e0⟩ := some_at hxl 0 (by decide)
    obtain ⟨y1, e1⟩ := some_at hxl 1 (by decide)
    obtain ⟨y2, e2⟩ := some_at hxl 2 (by decide)
    have h0 : DataW.trod enc Tryd.prog w base spare held n 9 (([c0, c1, c2].drop 0).take (Tryd.prog.cellsOf 9)) = some y0 := (hg 0 _ rfl).trans e0
    have h1 : DataW.trod enc Tryd.prog w base spare held n 9 (([c0, c1, c2].drop 1).take (Tryd.prog.cellsOf 9)) = some y1 := (hg 1 _ rfl).trans e1
    have h2 : DataW.trod enc Tryd.prog w base spare held n 9 (([c0, c1, c2].drop 2).take (Tryd.prog.cellsOf 9)) = some y2 := (hg 2 _ rfl).trans e2
    rw [cellsStr] at h0 h1 h2
    obtain ⟨s, k0, w0⟩ := trod_str_s h0 (hs.struct Tryd.underlying26 (i := 0) rfl (by rw [List.getElem?_map, e0]; rfl))
    obtain ⟨t, k1, w1⟩ := trod_str_s h1 (hs.struct Tryd.underlying26 (i := 1) rfl (by rw [List.getElem?_map, e1]; rfl))
    obtain ⟨u, k2, w2⟩ := trod_str_s h2 (hs.struct Tryd.underlying26 (i := 2) rfl (by rw [List.getElem?_map, e2]; rfl))
    simp at k0 k1 k2
    subst k0 k1 k2
    exact ⟨s, t, u, rfl, w0, w1, w2⟩
/-- What is known of a message among the arguments. -/
structure Msg.WfS (m : Msg) : Prop where
  org : (Lit.int .i64 m.org).wf = true
  seq : (Lit.int .u64 m.seq).wf = true
  hop : (Lit.int .i64 m.hop).wf = true
  ex : m.ex.size ≤ 140737488351232
  key : m.key.size ≤ 140737488351232
  body : m.body.size ≤ 140737488351232
set_option maxRecDepth 100000 in
theorem trod_msg_s (h : DataW.trod enc Tryd.prog w base spare held fuel 30 cs = some x) (hs : Small Tryd.prog 30 x.1) : ∃ m : Msg, cs = m.cells.toList ∧ m.WfS := by
  obtain ⟨xs, n, rfl, rfl, hlen, hxl, hg⟩ := DataW.trod_struct Tryd.underlying30 h
  rw [cellsMsg] at hlen
  match cs, hlen with
  | [c0, c1, c2, c3, c4, c5], _ =>
    obtain ⟨y0, e0⟩ := some_at hxl 0 (by decide)
    obtain ⟨y1, e1⟩ := some_at hxl 1 (by decide)
    obtain ⟨y2, e2⟩ := some_at hxl 2 (by decide)
    obtain ⟨y3, e3⟩ := some_at hxl 3 (by decide)
    obtain ⟨y4, e4⟩ := some_at hxl 4 (by decide)
    have h0 : DataW.trod enc Tryd.prog w base spare held n 28 (([c0, c1, c2, c3, c4, c5].drop 0).take (Tryd.prog.cellsOf 28)) = some y0 := (hg 0 _ rfl).trans e0
    have h1 : DataW.trod enc Tryd.prog w base spare held n 3 (([c0, c1, c2, c3, c4, c5].drop 2).take (Tryd.prog.cellsOf 3)) = some y1 := (hg 1 _ rfl).trans e1
    have h2 : DataW.trod enc Tryd.prog w base spare held n 9 (([c0, c1, c2, c3, c4, c5].drop 3).take (Tryd.prog.cellsOf 9)) = some y2 := (hg 2 _ rfl).trans e2
    have h3 : DataW.trod enc Tryd.prog w base spare held n 9 (([c0, c1, c2, c3, c4, c5].drop 4).take (Tryd.prog.cellsOf 9)) = some y3 := (hg 3 _ rfl).trans e3
    have h4 : DataW.trod enc Tryd.prog w base spare held n 9 (([c0, c1, c2, c3, c4, c5].drop 5).take (Tryd.prog.cellsOf 9)) = some y4 := (hg 4 _ rfl).trans e4
    rw [cellsIdent] at h0
    rw [cellsInt] at h1
    rw [cellsStr] at h2 h3 h4
    obtain ⟨o, s, k0, w0, w0'⟩ := trod_ident h0
    obtain ⟨a, ha, _, wa⟩ := DataW.trod_int Tryd.underlying3 h1
    obtain ⟨s2, k2, w2⟩ := trod_str_s h2 (hs.struct Tryd.underlying30 (i := 2) rfl (by rw [List.getElem?_map, e2]; rfl))
    obtain ⟨s3, k3, w3⟩ := trod_str_s h3 (hs.struct Tryd.underlying30 (i := 3) rfl (by rw [List.getElem?_map, e3]; rfl))
    obtain ⟨s4, k4, w4⟩ := trod_str_s h4 (hs.struct Tryd.underlying30 (i := 4) rfl (by rw [List.getElem?_map, e4]; rfl))
    simp at k0 ha k2 k3 k4
    obtain ⟨rfl, rfl⟩ := k0
    subst ha k2 k3 k4
    exact ⟨⟨o, s, a, s2, s3, s4⟩, rfl, w0, w0', wa, w2, w3, w4⟩
/-- What is known of an act among the arguments. -/
structure Ac.ActS.Wf (a : ActS) : Prop where
  kind : (Lit.int .i64 a.kind).wf = true
  name : a.name.size ≤ 140737488351232
  n : (Lit.int .i64 a.n).wf = true
  tag : (Lit.int .u64 a.tag).wf = true
  dst : (Lit.int .i64 a.dst).wf = true
  xn : a.xn.size ≤ 140737488351232
  be : a.be.size ≤ 140737488351232
  bq : a.bq.size ≤ 140737488351232
  bp : a.bp.size ≤ 140737488351232
  m : a.m.WfS
theorem list17 {α : Type} {l : List α} (h : l.length = 17) : ∃ a0 a1 a2 a3 a4 a5 a6 a7 a8 a9 b0 b1 b2 b3 b4 b5 b6, l = [a0, a1, a2, a3, a4, a5, a6, a7, a8, a9, b0, b1, b2, b3, b4, b5, b6] := by
  match l, h with
  | [a0, a1, a2, a3, a4, a5, a6, a7, a8, a9, b0, b1, b2, b3, b4, b5, b6], _ => exact ⟨_, _, _, _, _, _, _, _, _, _, _, _, _, _, _, _, _, rfl⟩
set_option maxRecDepth 100000 in
theorem trod_actA (h : DataW.trod enc Tryd.prog w base spare held fuel 32 cs = some x) (hs : Small Tryd.prog 32 x.1) : ∃ a : ActS, cs = (ActS.cells a).toList ∧ a.Wf := by
  obtain ⟨xs, n, rfl, rfl, hlen, hxl, hg⟩ := DataW.trod_struct Tryd.underlying32 h
  rw [cellsActA] at hlen
  obtain ⟨a0, a1, a2, a3, a4, a5, a6, a7, a8, a9, b0, b1, b2, b3, b4, b5, b6, rfl⟩ := list17 hlen
  obtain ⟨y0, e0⟩ := some_at hxl 0 (by decide)
  obtain ⟨y1, e1⟩ := some_at hxl 1 (by decide)
  obtain ⟨y2, e2⟩ := some_at hxl 2 (by decide)
  obtain ⟨y3, e3⟩ := some_at hxl 3 (by decide)
  obtain ⟨y4, e4⟩ := some_at hxl 4 (by decide)
  obtain ⟨y5, e5⟩ := some_at hxl 5 (by decide)
  obtain ⟨y6, e6⟩ := some_at hxl 6 (by decide)
  obtain ⟨y7, e7⟩ := some_at hxl 7 (by decide)
  have h0 : DataW.trod enc Tryd.prog w base spare held n 3 (List.take (Tryd.prog.cellsOf 3) (List.drop 0 _)) = some y0 := (hg 0 _ rfl).trans e0
  have h1 : DataW.trod enc Tryd.prog w base spare held n 9 (List.take (Tryd.prog.cellsOf 9) (List.drop 1 _)) = some y1 := (hg 1 _ rfl).trans e1
  have h2 : DataW.trod enc Tryd.prog w base spare held n 3 (List.take (Tryd.prog.cellsOf 3) (List.drop 2 _)) = some y2 := (hg 2 _ rfl).trans e2
  have h3 : DataW.trod enc Tryd.prog w base spare held n 22 (List.take (Tryd.prog.cellsOf 22) (List.drop 3 _)) = some y3 := (hg 3 _ rfl).trans e3
  have h4 : DataW.trod enc Tryd.prog w base spare held n 3 (List.take (Tryd.prog.cellsOf 3) (List.drop 4 _)) = some y4 := (hg 4 _ rfl).trans e4
  have h5 : DataW.trod enc Tryd.prog w base spare held n 24 (List.take (Tryd.prog.cellsOf 24) (List.drop 5 _)) = some y5 := (hg 5 _ rfl).trans e5
  have h6 : DataW.trod enc Tryd.prog w base spare held n 26 (List.take (Tryd.prog.cellsOf 26) (List.drop 8 _)) = some y6 := (hg 6 _ rfl).trans e6
  have h7 : DataW.trod enc Tryd.prog w base spare held n 30 (List.take (Tryd.prog.cellsOf 30) (List.drop 11 _)) = some y7 := (hg 7 _ rfl).trans e7
  rw [cellsInt] at h0 h2 h4
  rw [cellsStr] at h1
  rw [cellsU64] at h3
  rw [cellsEx] at h5
  rw [cellsBd] at h6
  rw [cellsMsg] at h7
  obtain ⟨z0, k0, _, w0⟩ := DataW.trod_int Tryd.underlying3 h0
  obtain ⟨z1, k1, w1⟩ := trod_str_s h1 (hs.struct Tryd.underlying32 (i := 1) rfl (by rw [List.getElem?_map, e1]; rfl))
  obtain ⟨z2, k2, _, w2⟩ := DataW.trod_int Tryd.underlying3 h2
  obtain ⟨z3, k3, _, w3⟩ := DataW.trod_int Tryd.underlying22 h3
  obtain ⟨z4, k4, _, w4⟩ := DataW.trod_int Tryd.underlying3 h4
  obtain ⟨s5, t5, u5, k5, w5, w5'⟩ := trod_exch h5 (hs.struct Tryd.underlying32 (i := 5) rfl (by rw [List.getElem?_map, e5]; rfl))
  obtain ⟨s6, t6, u6, k6, w6, w6', w6''⟩ := trod_bind h6 (hs.struct Tryd.underlying32 (i := 6) rfl (by rw [List.getElem?_map, e6]; rfl))
  obtain ⟨m, k7, w7⟩ := trod_msg_s h7 (hs.struct Tryd.underlying32 (i := 7) rfl (by rw [List.getElem?_map, e7]; rfl))
  simp at k0 k1 k2 k3 k4 k5 k6
  simp [Msg.cells] at k7
  obtain ⟨rfl, rfl, rfl⟩ := k5
  obtain ⟨rfl, rfl, rfl⟩ := k6
  obtain ⟨rfl, rfl, rfl, rfl, rfl, rfl⟩ := k7
  subst k0 k1 k2 k3 k4
  exact ⟨⟨z0, z1, z2, z3, z4, s5, t5, u5, s6, t6, u6, m⟩, rfl, w0, w1, w2, w3, w4, w5, w6, w6', w6'', w7⟩
set_option maxRecDepth 100000 in
theorem open_actA {r : Reach} {b0 : Nat} {v : Value} {d : DataW H} {p : List MemPlace} (hv : Value.okWide Tryd.prog w r b0 32 v) (h : DataW.Trod enc Tryd.prog w base spare held 32 v d p) (hs : Small Tryd.prog 32 d) :
    ∃ a : ActS, v = actV a ∧ a.Wf := by
  obtain ⟨cs, rfl, hsz⟩ := okWide_struct Tryd.underlying32 hv
  obtain ⟨fuel, hf⟩ := h
  obtain ⟨a, hc, r⟩ := trod_actA hf hs
  refine ⟨a, ?_, r⟩
  obtain ⟨l⟩ := cs
  simp only [Value.cells] at hc
  unfold actV
  rw [show l = (ActS.cells a).toList from hc]
set_option maxRecDepth 100000 in
theorem open_msgA {r : Reach} {b0 : Nat} {v : Value} {d : DataW H} {p : List MemPlace} (hv : Value.okWide Tryd.prog w r b0 30 v) (h : DataW.Trod enc Tryd.prog w base spare held 30 v d p) (hs : Small Tryd.prog 30 d) :
    ∃ m : Msg, v = msgV m ∧ m.WfS := by
  obtain ⟨cs, rfl, hsz⟩ := okWide_struct Tryd.underlying30 hv
  obtain ⟨fuel, hf⟩ := h
  obtain ⟨a, hc, r⟩ := trod_msg_s hf hs
  refine ⟨a, ?_, r⟩
  obtain ⟨l⟩ := cs
  simp only [Value.cells] at hc
  unfold msgV
  rw [show l = a.cells.toList from hc]
end
theorem seqOk_of {z : Int} (h : (Lit.int .u64 z).wf = true) : SeqOk z := by
  simp only [Lit.wf, Bool.and_eq_true, decide_eq_true_eq] at h
  have e1 : IntKind.u64.min = 0 := by decide
  have e2 : IntKind.u64.max = 18446744073709551615 := by decide
  rw [e1, e2] at h
  unfold SeqOk
  omega
end Go.Proofs.YtmfaooihigphgaaDoor
