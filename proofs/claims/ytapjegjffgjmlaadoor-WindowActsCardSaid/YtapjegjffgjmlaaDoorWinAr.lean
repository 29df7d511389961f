/- Package window: a law's arguments, opened. -/
import Derived.Test.YtapjegjffgjmlaaDoorWinSt
import Derived.Test.YtapjegjffgjmlaaDoorLRows
import Derived.ChangeArms
import Derived.WideShapes
set_option linter.unusedVariables false
set_option linter.unusedSimpArgs false
namespace Go.Proofs.YtapjegjffgjmlaaDoor
open Go.RowKit Go.Shelf Go.ChangeShapes Go.WideShapes

section
variable {H : Type} {enc : TypeId × Value → H} {w : World} {base : Nat} {spare : Nat → Bool} {held : Bool}
theorem some_at {α : Type} {xs : List α} {n : Nat} (h : xs.length = n) (i : Nat) (hi : i < n) : ∃ y, xs[i]? = some y := ⟨xs[i]'(by omega), List.getElem?_eq_getElem (by omega)⟩
theorem nat_u64 {b : Int} (wb : (Lit.int .u64 b).wf = true) : ∃ n : Nat, b = (n : Int) ∧ n < 18446744073709551616 := by
  simp only [Lit.wf, Bool.and_eq_true, decide_eq_true_eq] at wb
  have e1 : IntKind.u64.min = 0 := by decide
  have e2 : IntKind.u64.max = 18446744073709551615 := by decide
  rw [e1, e2] at wb
  exact ⟨b.toNat, by omega, by omega⟩
theorem bd_u16 {b : Int} (wb : (Lit.int .u16 b).wf = true) : 0 ≤ b ∧ b < 65536 := by
  simp only [Lit.wf, Bool.and_eq_true, decide_eq_true_eq] at wb
  have e1 : IntKind.u16.min = 0 := by decide
  have e2 : IntKind.u16.max = 65535 := by decide
  rw [e1, e2] at wb
  omega
theorem cellsDims : Tryd.prog.cellsOf 24 = 3 := by kernel_rfl
theorem cellsAct : Tryd.prog.cellsOf 40 = 5 := by kernel_rfl
theorem cellsInt : Tryd.prog.cellsOf 3 = 1 := by kernel_rfl
theorem cellsUint : Tryd.prog.cellsOf 22 = 1 := by kernel_rfl
theorem cellsU16 : Tryd.prog.cellsOf 31 = 1 := by kernel_rfl
theorem cellsU64 : Tryd.prog.cellsOf 32 = 1 := by kernel_rfl
theorem trod_dims (fuel : Nat) (cs : List Value) (x : DataW H × List MemPlace) (h : DataW.trod enc Tryd.prog w base spare held fuel 24 cs = some x) :
    ∃ a b c : Nat, cs = [.int .u64 (a : Nat), .int .u64 (b : Nat), .int .u64 (c : Nat)] ∧ a < 18446744073709551616 ∧ b < 18446744073709551616 ∧ c < 18446744073709551616 := by
  obtain ⟨xs, n, rfl, _, hlen, hxl, hg⟩ := DataW.trod_struct Tryd.underlying24 h
  rw [cellsDims] at hlen
  match cs, hlen with
  | [c0, c1, c2], _ =>
    obtain ⟨y0, e0⟩ := some_at hxl 0 (by decide)
    obtain ⟨y1, e1⟩ := some_at hxl 1 (by decide)
    obtain ⟨y2, e2⟩ := some_at hxl 2 (by decide)
    have h0 : DataW.trod enc Tryd.prog w base spare held n 22 (([c0, c1, c2].drop 0).take (Tryd.prog.cellsOf 22)) = some y0 := (hg 0 _ rfl).trans e0
    have h1 : DataW.trod enc Tryd.prog w base spare held n 22 (([c0, c1, c2].drop 1).take (Tryd.prog.cellsOf 22)) = some y1 := (hg 1 _ rfl).trans e1
    have h2 : DataW.trod enc Tryd.prog w base spare held n 22 (([c0, c1, c2].drop 2).take (Tryd.prog.cellsOf 22)) = some y2 := (hg 2 _ rfl).trans e2
    rw [cellsUint] at h0 h1 h2
    obtain ⟨a, ha, _, wa⟩ := DataW.trod_int Tryd.underlying22 h0
    obtain ⟨b, hb, _, wb⟩ := DataW.trod_int Tryd.underlying22 h1
    obtain ⟨c, hc, _, wc⟩ := DataW.trod_int Tryd.underlying22 h2
    simp at ha hb hc
    subst ha hb hc
    obtain ⟨a, rfl, ha⟩ := nat_u64 wa
    obtain ⟨b, rfl, hb⟩ := nat_u64 wb
    obtain ⟨c, rfl, hc⟩ := nat_u64 wc
    exact ⟨a, b, c, rfl, ha, hb, hc⟩
theorem open_dims {r : Reach} {b0 : Nat} {v : Value} {d : DataW H} {p : List MemPlace} (hv : Value.okWide Tryd.prog w r b0 24 v) (h : DataW.Trod enc Tryd.prog w base spare held 24 v d p) :
    ∃ a b c : Nat, v = .agg #[.int .u64 (a : Nat), .int .u64 (b : Nat), .int .u64 (c : Nat)] ∧ a < 18446744073709551616 ∧ b < 18446744073709551616 ∧ c < 18446744073709551616 := by
  obtain ⟨cs, rfl, hsz⟩ := okWide_struct Tryd.underlying24 hv
  obtain ⟨fuel, hf⟩ := h
  obtain ⟨a, b, c, hc, hok⟩ := trod_dims _ _ _ hf
  refine ⟨a, b, c, ?_, hok⟩
  obtain ⟨l⟩ := cs
  simp [Value.cells] at hc
  rw [hc]
structure WAct where
  kind : Int
  hv : Int
  now : Int
  num : Int
  mask : Nat
def WAct.cells (a : WAct) : List Value := [.int .i64 a.kind, .int .i64 a.hv, .int .i64 a.now, .int .u16 a.num, .int .u64 (a.mask : Nat)]
structure WAct.Wf (a : WAct) : Prop where
  kind : (Lit.int .i64 a.kind).wf = true
  hv : (Lit.int .i64 a.hv).wf = true
  now : (Lit.int .i64 a.now).wf = true
  num0 : 0 ≤ a.num
  num1 : a.num < 65536
  mask : a.mask < 18446744073709551616
theorem trod_act (fuel : Nat) (cs : List Value) (x : DataW H × List MemPlace) (h : DataW.trod enc Tryd.prog w base spare held fuel 40 cs = some x) : ∃ y : WAct, cs = y.cells ∧ y.Wf := by
  obtain ⟨xs, n, rfl, _, hlen, hxl, hg⟩ := DataW.trod_struct Tryd.underlying40 h
  rw [cellsAct] at hlen
  match cs, hlen with
  | [c0, c1, c2, c3, c4], _ =>
    obtain ⟨y0, e0⟩ := some_at hxl 0 (by decide)
    obtain ⟨y1, e1⟩ := some_at hxl 1 (by decide)
    obtain ⟨y2, e2⟩ := some_at hxl 2 (by decide)
    obtain ⟨y3, e3⟩ := some_at hxl 3 (by decide)
    obtain ⟨y4, e4⟩ := some_at hxl 4 (by decide)
    have h0 : DataW.trod enc Tryd.prog w base spare held n 3 (([c0, c1, c2, c3, c4].drop 0).take (Tryd.prog.cellsOf 3)) = some y0 := (hg 0 _ rfl).trans e0
    have h1 : DataW.trod enc Tryd.prog w base spare held n 3 (([c0, c1, c2, c3, c4].drop 1).take (Tryd.prog.cellsOf 3)) = some y1 := (hg 1 _ rfl).trans e1
    have h2 : DataW.trod enc Tryd.prog w base spare held n 3 (([c0, c1, c2, c3, c4].drop 2).take (Tryd.prog.cellsOf 3)) = some y2 := (hg 2 _ rfl).trans e2
    have h3 : DataW.trod enc Tryd.prog w base spare held n 31 (([c0, c1, c2, c3, c4].drop 3).take (Tryd.prog.cellsOf 31)) = some y3 := (hg 3 _ rfl).trans e3
    have h4 : DataW.trod enc Tryd.prog w base spare held n 32 (([c0, c1, c2, c3, c4].drop 4).take (Tryd.prog.cellsOf 32)) = some y4 := (hg 4 _ rfl).trans e4
    rw [cellsInt] at h0 h1 h2
    rw [cellsU16] at h3
    rw [cellsU64] at h4
    obtain ⟨a, ha, _, wa⟩ := DataW.trod_int Tryd.underlying3 h0
    obtain ⟨b, hb, _, wb⟩ := DataW.trod_int Tryd.underlying3 h1
    obtain ⟨c, hc, _, wc⟩ := DataW.trod_int Tryd.underlying3 h2
    obtain ⟨d, hd, _, wd⟩ := DataW.trod_int Tryd.underlying31 h3
    obtain ⟨e, he, _, we⟩ := DataW.trod_int Tryd.underlying32 h4
    simp at ha hb hc hd he
    subst ha hb hc hd he
    obtain ⟨e, rfl, he⟩ := nat_u64 we
    have hd := bd_u16 wd
    exact ⟨⟨a, b, c, d, e⟩, rfl, wa, wb, wc, hd.1, hd.2, he⟩
theorem open_act {r : Reach} {b0 : Nat} {v : Value} {d : DataW H} {p : List MemPlace} (hv : Value.okWide Tryd.prog w r b0 40 v) (h : DataW.Trod enc Tryd.prog w base spare held 40 v d p) :
    ∃ y : WAct, v = .agg #[.int .i64 y.kind, .int .i64 y.hv, .int .i64 y.now, .int .u16 y.num, .int .u64 (y.mask : Nat)] ∧ y.Wf := by
  obtain ⟨cs, rfl, hsz⟩ := okWide_struct Tryd.underlying40 hv
  obtain ⟨fuel, hf⟩ := h
  obtain ⟨y, hc, hok⟩ := trod_act _ _ _ hf
  refine ⟨y, ?_, hok⟩
  obtain ⟨l⟩ := cs
  simp [Value.cells, WAct.cells] at hc
  rw [hc]
theorem open_acts {r : Reach} {b0 : Nat} {v : Value} {d : DataW H} {p : List MemPlace} (hv : Value.okWide Tryd.prog w r b0 36 v) (h : DataW.Trod enc Tryd.prog w base spare held 36 v d p) :
    ∃ (A : Option Addr) (c : Nat) (ys : List WAct), v = .slice A ys.length c ∧ ys.length ≤ c ∧ c ≤ maxLen ∧ RowsAt w A 5 WAct.cells ys ∧ (∀ y ∈ ys, y.Wf) :=
  open_structs WAct.cells WAct.Wf Tryd.underlying36 cellsAct (fun fuel cs x h => trod_act fuel cs x h) hv h
end
end Go.Proofs.YtapjegjffgjmlaaDoor
