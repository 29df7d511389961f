/- What the rows' listed variables give the walks: word's widths, packet's kinds. -/
import Derived.Test.YtgnhpjakjoaejaaDoorRows
import Derived.Test.YtgnhpjakjoaejaaDoorPkVa
import Derived.Test.YtgnhpjakjoaejaaDoorWPg
import Derived.Lib.LaidTab
set_option linter.unusedVariables false
set_option linter.unusedSimpArgs false
namespace Go.Proofs.YtgnhpjakjoaejaaDoor
open Go.RowKit Go.Lib

theorem cells_of_strs {H : Type} {enc : TypeId × Value → H} {P : Program} {w : World} {base : Nat} {sp : Nat → Bool} {held : Bool} {fuel : Nat} {t e : TypeId} {n : Nat} {cs : List Value} {ss : List (List UInt8)} {p : List MemPlace}
    (ht : P.underlying t = some (.array n e)) (he : P.underlying e = some .string) (hce : P.cellsOf e = 1) (hct : P.cellsOf t = n)
    (h : DataW.trod enc P w base sp held fuel t cs = some (.agg (ss.map fun s => .lit (.string s)), p)) : cs = ss.map fun s => Value.string ⟨s.toArray⟩ := by
  cases fuel with
  | zero => simp [DataW.trod] at h
  | succ fuel =>
    simp only [DataW.trod, ht, hce, hct, Nat.mul_one] at h
    split at h
    · rename_i hl
      obtain ⟨xs, hm, hx⟩ := Option.map_eq_some_iff.1 h
      have hxs : xs.map (·.1) = ss.map fun s => (DataW.lit (.string s) : DataW H) := by
        have := congrArg Prod.fst hx
        simpa using this
      have hxl : xs.length = n := by simpa using mapM_length hm
      have hzl : ss.length = n := by
        have := congrArg List.length hxs
        simp at this
        omega
      apply List.ext_getElem?
      intro i
      by_cases hi : i < n
      · obtain ⟨b, hb, hf⟩ := mapM_at hm i i (by simp [hi])
        obtain ⟨s, hc, rfl, _⟩ := DataW.trod_string he hf
        have h1 : cs[i]? = some (.string s) := by
          have := congrArg (·[0]?) hc
          simpa [List.getElem?_take, List.getElem?_drop] using this
        have h2 : (xs.map (·.1))[i]? = some (DataW.lit (.string s.data.toList) : DataW H) := by simp [hb]
        rw [hxs] at h2
        simp only [List.getElem?_map, Option.map_eq_some_iff, DataW.lit.injEq, Lit.string.injEq] at h2
        obtain ⟨z', hz', e⟩ := h2
        have : (⟨z'.toArray⟩ : ByteArray) = s := by rw [e]
        simp [h1, hz', this]
      · rw [List.getElem?_eq_none (by omega), List.getElem?_eq_none (by simp; omega)]
    · cases h
/-- The listed variables lie as their initialisers lay them. -/
def Laid (W : World) : Prop := WidAt W ∧ KndAt W
theorem gWid : Tryd.prog.globalNamed "staith/word.widths" = some 1 := by kernel_rfl
theorem gKnd : Tryd.prog.globalNamed "staith/packet.kinds" = some 0 := by kernel_rfl
def kndL : List (List UInt8) := [[], [104, 101, 108, 108, 111], [119, 101, 108, 99, 111, 109, 101], [100, 97, 116, 97], [97, 99, 107]]
theorem Laid.of_met {W : World} (h : laidMet Tryd.prog Rows.packetReadsRow.laid W) : Laid W := by
  have hh := h
  have e : (Rows.laid_staith_word_widths : DataW Unit) = tabData .i64 [1, 2, 4, 8] := rfl
  have e2 : (Rows.laid_staith_packet_kinds : DataW Unit) = .agg (kndL.map fun s => .lit (.string s)) := rfl
  obtain ⟨ps, ⟨g1, t1, cs1, f1, p1, q1, hg1, ht1, hv1, hd1, ⟨g2, t2, cs2, f2, p2, q2, hg2, ht2, hv2, hd2, ⟨g3, t3, cs3, f3, p3, q3, hg3, ht3, hv3, hd3, _, _⟩, _⟩, _⟩, _⟩ := h
  constructor
  · have h' : laidMet Tryd.prog (("staith/word.widths", tabData .i64 [1, 2, 4, 8]) :: _) W := hh
    have ht := tabIs_of_head gWid (t := 81) (e := 3) (n := 4) (by kernel_rfl) Tryd.underlying81 Tryd.underlying3 (by kernel_rfl) (by kernel_rfl) h'
    intro j hj
    exact ht.cell gWid j hj
  · obtain rfl := Option.some.inj (gKnd.symm.trans hg3)
    obtain rfl : 49 = t3 := Option.some.inj ((show (Tryd.prog.globals[0]?).map (·.type) = some 49 by kernel_rfl).symm.trans ht3)
    rw [e2] at hd3
    have hc := cells_of_strs (n := 5) Tryd.underlying49 Tryd.underlying9 (by kernel_rfl) (by kernel_rfl) hd3
    intro j h2
    have h3 := World.var?_cell gKnd hv3 j
    rw [← Array.getElem?_toList, hc] at h3
    rw [h3]
    have hj : j = 0 ∨ j = 1 ∨ j = 2 ∨ j = 3 ∨ j = 4 := by omega
    rcases hj with rfl | rfl | rfl | rfl | rfl <;> rfl
end Go.Proofs.YtgnhpjakjoaejaaDoor
