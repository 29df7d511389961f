/- A message among a law's arguments, opened to its cells. -/
import Derived.Test.YtgnhpjakjoaejaaDoorLMsg
import Derived.ChangeArms
import Derived.WideShapes
set_option linter.unusedVariables false
set_option linter.unusedSimpArgs false
namespace Go.Proofs.YtgnhpjakjoaejaaDoor
open Go.RowKit Go.ChangeShapes Go.WideShapes
section
variable {H : Type} {enc : TypeId × Value → H} {w : World} {base : Nat} {spare : Nat → Bool} {held : Bool} {fuel : Nat} {cs : List Value} {x : DataW H × List MemPlace}
theorem cellsIdent : Tryd.prog.cellsOf 25 = 2 := by kernel_rfl
theorem cellsMsg : Tryd.prog.cellsOf 27 = 6 := by kernel_rfl
theorem cellsInt : Tryd.prog.cellsOf 3 = 1 := by kernel_rfl
theorem cellsU64 : Tryd.prog.cellsOf 22 = 1 := by kernel_rfl
theorem cellsStr : Tryd.prog.cellsOf 9 = 1 := by kernel_rfl
theorem some_at {α : Type} {xs : List α} {n : Nat} (h : xs.length = n) (i : Nat) (hi : i < n) : ∃ y, xs[i]? = some y := ⟨xs[i]'(by omega), List.getElem?_eq_getElem (by omega)⟩

set_option maxRecDepth 100000 in
theorem trod_ident (h : DataW.trod enc Tryd.prog w base spare held fuel 25 cs = some x) :
    ∃ (o s : Int), cs = [.int .i64 o, .int .u64 s] ∧ (Lit.int .i64 o).wf = true ∧ (Lit.int .u64 s).wf = true := by
  obtain ⟨xs, n, rfl, _, hlen, hxl, hg⟩ := DataW.trod_struct Tryd.underlying25 h
  rw [cellsIdent] at hlen
  match cs, hlen with
  | [c0, c1], _ =>
    obtain ⟨y0, e0⟩ := some_at hxl 0 (by decide)
    obtain ⟨y1, e1⟩ := some_at hxl 1 (by decide)
    have h0 : DataW.trod enc Tryd.prog w base spare held n 3 (([c0, c1].drop 0).take (Tryd.prog.cellsOf 3)) = some y0 := (hg 0 _ rfl).trans e0
    have h1 : DataW.trod enc Tryd.prog w base spare held n 22 (([c0, c1].drop 1).take (Tryd.prog.cellsOf 22)) = some y1 := (hg 1 _ rfl).trans e1
    rw [cellsInt] at h0
    rw [cellsU64] at h1
    obtain ⟨a, ha, _, wa⟩ := DataW.trod_int Tryd.underlying3 h0
    obtain ⟨b, hb, _, wb⟩ := DataW.trod_int Tryd.underlying22 h1
    simp at ha hb
    subst ha hb
    exact ⟨a, b, rfl, wa, wb⟩

structure Msg.Wf (m : Msg) : Prop where
  org : (Lit.int .i64 m.org).wf = true
  seq : (Lit.int .u64 m.seq).wf = true
  hop : (Lit.int .i64 m.hop).wf = true
  ex : m.ex.size ≤ maxLen
  key : m.key.size ≤ maxLen
  body : m.body.size ≤ maxLen
set_option maxRecDepth 100000 in
theorem trod_msg (h : DataW.trod enc Tryd.prog w base spare held fuel 27 cs = some x) : ∃ m : Msg, cs = m.cells.toList ∧ m.Wf := by
  obtain ⟨xs, n, rfl, _, hlen, hxl, hg⟩ := DataW.trod_struct Tryd.underlying27 h
  rw [cellsMsg] at hlen
  match cs, hlen with
  | [c0, c1, c2, c3, c4, c5], _ =>
    obtain ⟨y0, e0⟩ := some_at hxl 0 (by decide)
    obtain ⟨y1, e1⟩ := some_at hxl 1 (by decide)
    obtain ⟨y2, e2⟩ := some_at hxl 2 (by decide)
    obtain ⟨y3, e3⟩ := some_at hxl 3 (by decide)
    obtain ⟨y4, e4⟩ := some_at hxl 4 (by decide)
    have h0 : DataW.trod enc Tryd.prog w base spare held n 25 (([c0, c1, c2, c3, c4, c5].drop 0).take (Tryd.prog.cellsOf 25)) = some y0 := (hg 0 _ rfl).trans e0
    have h1 : DataW.trod enc Tryd.prog w base spare held n 3 (([c0, c1, c2, c3, c4, c5].drop 2).take (Tryd.prog.cellsOf 3)) = some y1 := (hg 1 _ rfl).trans e1
    have h2 : DataW.trod enc Tryd.prog w base spare held n 9 (([c0, c1, c2, c3, c4, c5].drop 3).take (Tryd.prog.cellsOf 9)) = some y2 := (hg 2 _ rfl).trans e2
    have h3 : DataW.trod enc Tryd.prog w base spare held n 9 (([c0, c1, c2, c3, c4, c5].drop 4).take (Tryd.prog.cellsOf 9)) = some y3 := (hg 3 _ rfl).trans e3
    have h4 : DataW.trod enc Tryd.prog w base spare held n 9 (([c0, c1, c2, c3, c4, c5].drop 5).take (Tryd.prog.cellsOf 9)) = some y4 := (hg 4 _ rfl).trans e4
    rw [cellsIdent] at h0
    rw [cellsInt] at h1
    rw [cellsStr] at h2 h3 h4
    obtain ⟨o, s, k0, w0, w0'⟩ := trod_ident h0
    obtain ⟨a, ha, _, wa⟩ := DataW.trod_int Tryd.underlying3 h1
    obtain ⟨s2, k2, _, w2⟩ := DataW.trod_string Tryd.underlying9 h2
    obtain ⟨s3, k3, _, w3⟩ := DataW.trod_string Tryd.underlying9 h3
    obtain ⟨s4, k4, _, w4⟩ := DataW.trod_string Tryd.underlying9 h4
    simp at k0 ha k2 k3 k4
    obtain ⟨rfl, rfl⟩ := k0
    subst ha k2 k3 k4
    exact ⟨⟨o, s, a, s2, s3, s4⟩, rfl, w0, w0', wa, w2, w3, w4⟩
end
end Go.Proofs.YtgnhpjakjoaejaaDoor
