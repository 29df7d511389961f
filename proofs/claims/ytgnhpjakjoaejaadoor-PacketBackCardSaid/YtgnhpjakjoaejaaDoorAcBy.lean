/- Package act: MessageBytes, Bytes. -/
import Derived.Test.YtgnhpjakjoaejaaDoorAcWm
set_option linter.unusedVariables false
set_option linter.unusedSimpArgs false
namespace Go.Proofs.YtgnhpjakjoaejaaDoor
open Go.RowKit
open Go.Proofs.YtgnhpjakjoaejaaDoor.Ac (ActS)

theorem Wr.down {w0 w w' : World} {base p n c : Nat} {A A' : Option Addr} {l : Bs} (h : Wr w base p A n c l) (ht : WTo w w' p A A') (hc : Chg [] w0 w) (hb : w0.heap.size ≤ base) : Chg [] w0 w' :=
  hc.then_ ht.chg fun b hb' => by
    simp at hb'
    have := h.ge
    rcases hb' with rfl | hb'
    · exact .inr (by omega)
    · exact .inr (by have := h.own.own.ge b hb'; omega)
/-- A new writer. -/
theorem Wr.new (w : World) (base : Nat) (hb : base ≤ w.heap.size) : Wr (w.alloc (.cells #[.slice none 0 0] 71)) base w.heap.size none 0 0 [] :=
  ⟨Blk.new _ _ _, Ob.nil _ _, hb, by simp; omega⟩
set_option maxRecDepth 100000 in
set_option maxHeartbeats 4000000 in
theorem mbytes_any (m : Msg) (hm : m.Fit) (w : World) (hT : WidAt w) : Calls Tryd.prog 25 #[msgV m] w fun e w' => ∃ A n c, e = .returned (.slice A n c) ∧ Ob w' w.heap.size A n c (Ac.msgB m) ∧ Chg [] w w' := by
  have hg : 1 < w.heap.size := hT.lt
  have hc0 := (Chg.refl [] w).alloc (.cells m.cells 27)
  have H := Lib.hid (And.intro (Blk.new w 27 m.cells) hc0)
  have HT := Lib.hid (And.intro hT hm)
  clear hT hc0 hm
  unfold msgV
  go_enter Tryd.func25, Tryd.ntmps25
  go_upto_region 1 with fail
  have hsz : w.heap.size + 1 = (w.alloc (.cells m.cells 27)).heap.size := by simp
  generalize w.alloc (.cells m.cells 27) = W at *
  go_upto_region 2 with fail
  have hle := H.out.2.size
  have HW := Lib.hid (Wr.new W w.heap.size hle)
  have hcw := (Chg.refl [] W).alloc (.cells #[.slice none 0 0] 71)
  have HB := Lib.hid (And.intro (H.out.1.chg hcw (by simp)) (H.out.2.trans hcw))
  clear hcw
  generalize W.alloc (.cells #[.slice none 0 0] 71) = W2 at *
  generalize W.heap.size = p at *
  have c0 : W2.cell? ⟨w.heap.size, 0, none⟩ = some (.int .i64 m.org) := HB.out.1.cell 0
  have c1 : W2.cell? ⟨w.heap.size, 1, none⟩ = some (.int .u64 m.seq) := HB.out.1.cell 1
  have c2 : W2.cell? ⟨w.heap.size, 2, none⟩ = some (.int .i64 m.hop) := HB.out.1.cell 2
  have c3 : W2.cell? ⟨w.heap.size, 3, none⟩ = some (.string m.ex) := HB.out.1.cell 3
  have c4 : W2.cell? ⟨w.heap.size, 4, none⟩ = some (.string m.key) := HB.out.1.cell 4
  have c5 : W2.cell? ⟨w.heap.size, 5, none⟩ = some (.string m.body) := HB.out.1.cell 5
  go_wp2_with fail
  refine (wmessage_any HW.out (HT.out.1.chg0 HB.out.2) hg m HT.out.2 (by omega)).mono ?_
  rintro e w3 ⟨rfl, A3, n3, k3, hw, ht⟩
  have H3 := Lib.hid (And.intro hw (HW.out.down ht HB.out.2 (Nat.le_refl _)))
  have d0 : w3.cell? ⟨p, 0, none⟩ = some (.slice A3 n3 k3) := hw.blk.cell 0
  clear hw ht c0 c1 c2 c3 c4 c5
  go_wp2
  go_ret
  exact ⟨A3, n3, k3, rfl, by simpa using H3.out.1.own, H3.out.2⟩
end Go.Proofs.YtgnhpjakjoaejaaDoor
