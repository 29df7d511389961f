/- An act among a law's arguments, opened to its cells. -/
import Derived.Test.YtkfpooljbpijhaaLMsgOpen
set_option linter.unusedVariables false
set_option linter.unusedSimpArgs false
namespace Go.Proofs.Ytkfpooljbpijhaa
open Go.RowKit Go.ChangeShapes Go.WideShapes
section
variable {H : Type} {enc : TypeId × Value → H} {w : World} {base : Nat} {spare : Nat → Bool} {held : Bool} {fuel : Nat} {cs : List Value} {x : DataW H × List MemPlace}
theorem cellsAct : Try.prog.cellsOf 49 = 8 := by kernel_rfl
theorem cellsU16 : Try.prog.cellsOf 28 = 1 := by kernel_rfl
theorem trod_act (h : DataW.trod enc Try.prog w base spare held fuel 49 cs = some x) :
    ∃ (k q : Int) (m : Msg), cs = .int .i64 k :: .int .u16 q :: m.cells.toList ∧ (Lit.int .i64 k).wf = true ∧ (Lit.int .u16 q).wf = true ∧ m.Wf := by
  obtain ⟨xs, n, rfl, _, hlen, hxl, hg⟩ := DataW.trod_struct Try.underlying49 h
  rw [cellsAct] at hlen
  match cs, hlen with
  | [c0, c1, c2, c3, c4, c5, c6, c7], _ =>
    obtain ⟨y0, e0⟩ := some_at hxl 0 (by decide)
    obtain ⟨y1, e1⟩ := some_at hxl 1 (by decide)
    obtain ⟨y2, e2⟩ := some_at hxl 2 (by decide)
    have h0 : DataW.trod enc Try.prog w base spare held n 3 (([c0, c1, c2, c3, c4, c5, c6, c7].drop 0).take (Try.prog.cellsOf 3)) = some y0 := (hg 0 _ rfl).trans e0
    have h1 : DataW.trod enc Try.prog w base spare held n 28 (([c0, c1, c2, c3, c4, c5, c6, c7].drop 1).take (Try.prog.cellsOf 28)) = some y1 := (hg 1 _ rfl).trans e1
    have h2 : DataW.trod enc Try.prog w base spare held n 34 (([c0, c1, c2, c3, c4, c5, c6, c7].drop 2).take (Try.prog.cellsOf 34)) = some y2 := (hg 2 _ rfl).trans e2
    rw [cellsInt] at h0
    rw [cellsU16] at h1
    rw [cellsMsg] at h2
    obtain ⟨a, ha, _, wa⟩ := DataW.trod_int Try.underlying3 h0
    obtain ⟨b, hb, _, wb⟩ := DataW.trod_int Try.underlying28 h1
    obtain ⟨m, hm, wm⟩ := trod_msg h2
    simp at ha hb hm
    subst ha hb
    exact ⟨a, b, m, by simp [hm], wa, wb, wm⟩
theorem open_act {r : Reach} {b0 : Nat} {v : Value} {d : DataW H} {p : List MemPlace} (hv : Value.okWide Try.prog w r b0 49 v) (h : DataW.Trod enc Try.prog w base spare held 49 v d p) :
    ∃ (k q : Int) (m : Msg), v = .agg #[.int .i64 k, .int .u16 q, .int .i64 m.org, .int .u64 m.seq, .int .i64 m.hop, .string m.ex, .string m.key, .string m.body] ∧ (Lit.int .i64 k).wf = true ∧ (Lit.int .u16 q).wf = true ∧ m.Wf := by
  obtain ⟨cs, rfl, hsz⟩ := okWide_struct Try.underlying49 hv
  obtain ⟨fuel, hf⟩ := h
  obtain ⟨k, q, m, hc, r⟩ := trod_act hf
  refine ⟨k, q, m, ?_, r⟩
  obtain ⟨l⟩ := cs
  simp [Value.cells, Msg.cells] at hc
  rw [hc]
end
end Go.Proofs.Ytkfpooljbpijhaa
