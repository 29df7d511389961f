/- InboxNone: its walk: true for every input. -/
import Derived.Test.YtkfpooljbpijhaaIbNone
import Derived.Test.YtkfpooljbpijhaaIbActOpen
import Derived.Test.YtkfpooljbpijhaaWWords
namespace Go.Proofs.Ytkfpooljbpijhaa.inboxNone
open Go.RowKit Go.Proofs.YtkfpooljbpijhaaW.PrintWords

def actC (k q : Int) (m : Msg) : Array Value := #[.int .i64 k, .int .u16 q, .int .i64 m.org, .int .u64 m.seq, .int .i64 m.hop, .string m.ex, .string m.key, .string m.body]
def noneC : Array Value := #[.int .i64 0, .int .u16 0, .map none]

set_option maxRecDepth 100000 in
set_option maxHeartbeats 8000000 in
theorem walk (k q : Int) (m : Msg) (_wf : (Lit.int .i64 k).wf = true ∧ (Lit.int .u16 q).wf = true ∧ m.Wf) (W : World) :
    Calls Try.prog 6 #[.agg #[.int .i64 k, .int .u16 q, .int .i64 m.org, .int .u64 m.seq, .int .i64 m.hop, .string m.ex, .string m.key, .string m.body]] W fun e w' => e = .returned (.bool true) ∧ Below W.heap.size W w' := by
  go_enter Try.func6, Try.ntmps6
  go_wp2_with fail
  go_loopw [11] (fun i wr => ∃ j : Nat, j ≤ 2 ∧ i = .int .i64 j ∧ Chg [] ((W.alloc (.cells (actC k q m) 49)).alloc (.cells noneC 57)) wr)
    (fun i _ => 2 - (intOf i).toNat)
  case atStart => exact ⟨0, by omega, rfl, Chg.refl _ _⟩
  case round =>
    obtain ⟨j, hj, rfl, hcg⟩ := hrel
    have hA : Blk wr W.heap.size 49 (actC k q m) := ((Blk.new W _ _).alloc _).chg hcg (by simp)
    have hZ : Blk wr (W.heap.size + 1) 57 noneC := by
      have := Blk.new (W.alloc (.cells (actC k q m) 49)) 57 noneC
      rw [World.size_alloc] at this
      exact this.chg hcg (by simp)
    rcases (by omega : j = 0 ∨ j = 1 ∨ j = 2) with rfl | rfl | rfl
    · have hU : Unmade wr none := .inl rfl
      have hidx : ∀ w : World, (Instr.index 58 (.agg #[.pointer none, .pointer (some ⟨W.heap.size + 1, 0, none⟩)]) (.int .i64 0)).run Try.prog w = .ok (.pointer none) w := fun w => by kernel_rfl
      clear hZ
      have h0 := hA.cell 0
      have h1 := hA.cell 1
      have h2 := hA.cell 2
      have h3 := hA.cell 3
      have h4 := hA.cell 4
      have h5 := hA.cell 5
      have h6 := hA.cell 6
      have h7 := hA.cell 7
      simp only [actC, List.getElem?_toArray, List.getElem?_cons_succ, List.getElem?_cons_zero] at h0 h1 h2 h3 h4 h5 h6 h7
      have HU := Lib.hid hU
      have HCG := Lib.hid hcg
      clear hA hU hcg
      go_wp2_with (first
        | (go_at_call 21; refine (reset_no _ _ HU.out).mono ?_; rintro e w2 ⟨⟨v, rfl⟩, rfl⟩)
        | (go_at_call 11; refine (head_no_made _ _ HU.out).mono ?_; rintro e w3 ⟨rfl, hc⟩; simp only [msgV, Msg.cells, Msg.zero]; have HC3 := Lib.hid (hc.alloc (.cells #[.int .i64 0, .int .u64 0, .int .i64 0, .string ByteArray.empty, .string ByteArray.empty, .string ByteArray.empty] 34)); clear hc)
        | (go_at_call 14; refine (ack_no_made _ _ (HU.out.chg HC3.out)).mono ?_; rintro e w4 ⟨rfl, hc⟩; have HC4 := Lib.hid (HC3.out.trans hc); clear hc;
           have g0 := HC4.out.cell_some h0 (by simp); have g1 := HC4.out.cell_some h1 (by simp); have g2 := HC4.out.cell_some h2 (by simp); have g3 := HC4.out.cell_some h3 (by simp); have g4 := HC4.out.cell_some h4 (by simp); have g5 := HC4.out.cell_some h5 (by simp); have g6 := HC4.out.cell_some h6 (by simp); have g7 := HC4.out.cell_some h7 (by simp))
        | (go_at_call 9; refine (take_no_made _ _ (HU.out.chg HC4.out) q m).mono ?_; rintro e w5 ⟨rfl, hc⟩; have HC5 := Lib.hid (HC4.out.trans hc); clear hc)
        | (go_at_call 12; refine (pop_no_made _ _ (HU.out.chg HC5.out)).mono ?_; rintro e w6 ⟨rfl, hc⟩; have HC6 := Lib.hid (HC5.out.trans hc); clear hc)
        | (go_at_call 15; refine (held_no _ _ (HU.out.chg HC6.out)).mono ?_; rintro e w7 ⟨rfl, rfl⟩)
        | (go_at_call 13; refine (next_no _ _ (HU.out.chg HC6.out)).mono ?_; rintro e w8 ⟨rfl, rfl⟩))
      go_roundw
      case rel => first | exact ⟨1, by omega, rfl, HCG.out.trans HC6.out⟩ | exact ⟨2, by omega, rfl, HCG.out.trans HC6.out⟩
      case measure => simp [intOf]
    · have hU : Unmade wr (some ⟨W.heap.size + 1, 0, none⟩) := .inr ⟨_, rfl, by rw [hZ.cell]; rfl⟩
      have hidx : ∀ w : World, (Instr.index 58 (.agg #[.pointer none, .pointer (some ⟨W.heap.size + 1, 0, none⟩)]) (.int .i64 1)).run Try.prog w = .ok (.pointer (some ⟨W.heap.size + 1, 0, none⟩)) w := fun w => by kernel_rfl
      clear hZ
      have h0 := hA.cell 0
      have h1 := hA.cell 1
      have h2 := hA.cell 2
      have h3 := hA.cell 3
      have h4 := hA.cell 4
      have h5 := hA.cell 5
      have h6 := hA.cell 6
      have h7 := hA.cell 7
      simp only [actC, List.getElem?_toArray, List.getElem?_cons_succ, List.getElem?_cons_zero] at h0 h1 h2 h3 h4 h5 h6 h7
      have HU := Lib.hid hU
      have HCG := Lib.hid hcg
      clear hA hU hcg
      go_wp2_with (first
        | (go_at_call 21; refine (reset_no _ _ HU.out).mono ?_; rintro e w2 ⟨⟨v, rfl⟩, rfl⟩)
        | (go_at_call 11; refine (head_no_made _ _ HU.out).mono ?_; rintro e w3 ⟨rfl, hc⟩; simp only [msgV, Msg.cells, Msg.zero]; have HC3 := Lib.hid (hc.alloc (.cells #[.int .i64 0, .int .u64 0, .int .i64 0, .string ByteArray.empty, .string ByteArray.empty, .string ByteArray.empty] 34)); clear hc)
        | (go_at_call 14; refine (ack_no_made _ _ (HU.out.chg HC3.out)).mono ?_; rintro e w4 ⟨rfl, hc⟩; have HC4 := Lib.hid (HC3.out.trans hc); clear hc;
           have g0 := HC4.out.cell_some h0 (by simp); have g1 := HC4.out.cell_some h1 (by simp); have g2 := HC4.out.cell_some h2 (by simp); have g3 := HC4.out.cell_some h3 (by simp); have g4 := HC4.out.cell_some h4 (by simp); have g5 := HC4.out.cell_some h5 (by simp); have g6 := HC4.out.cell_some h6 (by simp); have g7 := HC4.out.cell_some h7 (by simp))
        | (go_at_call 9; refine (take_no_made _ _ (HU.out.chg HC4.out) q m).mono ?_; rintro e w5 ⟨rfl, hc⟩; have HC5 := Lib.hid (HC4.out.trans hc); clear hc)
        | (go_at_call 12; refine (pop_no_made _ _ (HU.out.chg HC5.out)).mono ?_; rintro e w6 ⟨rfl, hc⟩; have HC6 := Lib.hid (HC5.out.trans hc); clear hc)
        | (go_at_call 15; refine (held_no _ _ (HU.out.chg HC6.out)).mono ?_; rintro e w7 ⟨rfl, rfl⟩)
        | (go_at_call 13; refine (next_no _ _ (HU.out.chg HC6.out)).mono ?_; rintro e w8 ⟨rfl, rfl⟩))
      go_roundw
      case rel => first | exact ⟨1, by omega, rfl, HCG.out.trans HC6.out⟩ | exact ⟨2, by omega, rfl, HCG.out.trans HC6.out⟩
      case measure => simp [intOf]
    · go_wp2_with (go_at_call 8; refine (lives_any _).mono ?_; rintro e w2 ⟨rfl, hb⟩)
      go_ret
      exact ⟨rfl, ((((Below.refl _ W).alloc (Nat.le_refl _) _).alloc (by simp) _).trans (hcg.below (by simp; omega) (by simp))).trans (hb.mono (by have := hZ.lt; omega))⟩
end Go.Proofs.Ytkfpooljbpijhaa.inboxNone
