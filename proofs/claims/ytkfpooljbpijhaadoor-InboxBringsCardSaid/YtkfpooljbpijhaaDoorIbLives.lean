/- The law package's lives (inbox): true. -/
import Derived.Test.YtkfpooljbpijhaaDoorIbAck
import Derived.Deep.RegionHeld3
set_option linter.unusedVariables false
set_option linter.unusedSimpArgs false
namespace Go.Proofs.YtkfpooljbpijhaaDoor
open Go.RowKit

/-- A message that tells a number. -/
theorem msg_any (n : Int) (w : World) : Calls Tryd.prog 10 #[.int .i64 n] w fun e w' =>
    e = .returned (.agg #[.int .i64 0, .int .u64 0, .int .i64 n, .string ByteArray.empty, .string ByteArray.empty, .string ByteArray.empty]) ∧ w.alloc (.cells #[.int .i64 0, .int .u64 0, .int .i64 n, .string ByteArray.empty, .string ByteArray.empty, .string ByteArray.empty] 39) = w' := by
  go_enter Tryd.func10, Tryd.ntmps10
  go_wp2
  refine bodyPost_ret (v := .agg #[.int .i64 0, .int .u64 0, .int .i64 n, .string ByteArray.empty, .string ByteArray.empty, .string ByteArray.empty]) (by simp [results, Tryd.results10, go_sem]; rfl) rfl ⟨rfl, rfl⟩

theorem below_chg {B : Nat} {L : List Nat} {w w1 w2 : World} (hB : Below B w w1) (hs : B ≤ w1.heap.size) (hc : Chg L w1 w2) (hL : ∀ b ∈ L, B ≤ b) : Below B w w2 := hB.trans (hc.below hs hL)
theorem below_alloc_ {B : Nat} {w w1 : World} (hB : Below B w w1) (hs : B ≤ w1.heap.size) (o : Obj) : Below B w (w1.alloc o) := hB.alloc hs o

def st1 : IB := ⟨4, 0, [(1, hopM 1)]⟩
def st2 : IB := ⟨4, 0, [(1, hopM 1), (0, hopM 0)]⟩
def st3 : IB := ⟨4, 1, [(1, hopM 1)]⟩
set_option maxRecDepth 100000 in
set_option maxHeartbeats 4000000 in
theorem lives_any (w : World) : Calls Tryd.prog 6 #[] w fun e w' => e = .returned (.bool true) ∧ Below w.heap.size w w' := by
  have tokA : True := trivial
  have tokB : True := trivial
  have tokK : True := trivial
  have m1 : st1.mask = 1 := by decide
  have m2 : st3.mask = 0 := by decide
  go_enter Tryd.func6, Tryd.ntmps6
  go_wp2_with (first
    | (go_at_call 5; refine (new_yes 4 w (by omega) (by omega)).mono ?_; rintro e w1 ⟨rfl, hi, hc, hs1⟩; have hI1 := Lib.hid hi; have hB1 := Lib.hid (hc.below (Nat.le_refl _) (by simp)); clear hi hc)
    | (go_at_call 10; refine (msg_any _ _).mono ?_; rintro e w2 ⟨rfl, rfl⟩)
    | (have _t := tokA; go_at_call 9; refine (take_yes _ (w.heap.size + 1) w.heap.size ⟨4, 0, []⟩ ?_ (by omega) 1 (hopM 1) rfl (by decide) (by decide)).mono ?_; exact hI1.out.chg ((Chg.refl [] _).alloc _) (by simp) (by simp); rintro e w3 ⟨rfl, hi, hc⟩; have hI3 : Hid (InboxAt w3 (w.heap.size + 1) w.heap.size st1) := hi; have hB3 := Lib.hid (below_chg (below_alloc_ hB1.out (by omega) _) (by simp; omega) hc (by simp)); have hs3 : w.heap.size + 1 < w3.heap.size := Nat.lt_of_lt_of_le (by simp; omega) hc.size; clear hi hc tokA)
    | (have _t := tokK; go_at_call 14; refine (ack_any w3 (w.heap.size + 1) w.heap.size st1 hI3.out).mono ?_; rintro e w4 ⟨rfl, hb⟩; rw [m1]; have hI4 := Lib.hid (hI3.out.chg (Chg.of_below (L := []) hb) (by simp) (by simp)); have hB4 := Lib.hid (below_chg hB3.out (by omega) (Chg.of_below (L := []) hb) (by simp)); have hs4 : w.heap.size + 1 < w4.heap.size := Nat.lt_of_lt_of_le hs3 hb.size; clear hb tokK)
    | (have _t := tokB; go_at_call 9; refine (take_yes _ (w.heap.size + 1) w.heap.size st1 ?_ (by omega) 0 (hopM 0) rfl (by decide) (by decide)).mono ?_; exact hI4.out.chg ((Chg.refl [] _).alloc _) (by simp) (by simp); rintro e w5 ⟨rfl, hi, hc⟩; have hI5 : Hid (InboxAt w5 (w.heap.size + 1) w.heap.size st2) := hi; have hB5 := Lib.hid (below_chg (below_alloc_ hB4.out (by omega) _) (by simp; omega) hc (by simp)); have hs5 : w.heap.size + 1 < w5.heap.size := Nat.lt_of_lt_of_le (by simp; omega) hc.size; clear hi hc tokB)
    | (go_at_call 9; refine (take_no _ (w.heap.size + 1) w.heap.size st2 ?_ 0 (hopM 0) (.inl ⟨hopM 0, rfl⟩)).mono ?_; exact hI5.out.chg ((Chg.refl [] _).alloc _) (by simp) (by simp); rintro e w6 ⟨rfl, hc⟩; have hI6 := Lib.hid (hI5.out.chg (((Chg.refl [] w5).alloc _).trans hc) (by simp) (by simp)); have hB6 := Lib.hid (below_chg (below_alloc_ hB5.out (by omega) _) (by simp; omega) hc (by simp)); have hs6 : w.heap.size + 1 < w6.heap.size := Nat.lt_of_lt_of_le (by simp; omega) hc.size; clear hc)
    | (go_at_call 11; refine (head_yes w6 (w.heap.size + 1) w.heap.size st2 hI6.out (hopM 0) rfl).mono ?_; rintro e w7 ⟨rfl, hc⟩; simp only [msgV, Msg.cells, hopM]; have hI7 := Lib.hid (hI6.out.chg hc (by simp) (by simp)); have hB7 := Lib.hid (below_chg hB6.out (by omega) hc (by simp)); have hs7 : w.heap.size + 1 < w7.heap.size := Nat.lt_of_lt_of_le hs6 hc.size; clear hc)
    | (go_at_call 12; refine (pop_yes _ (w.heap.size + 1) w.heap.size st2 ?_ (by omega) (hopM 0) rfl (by decide) (by decide)).mono ?_; exact hI7.out.chg ((Chg.refl [] _).alloc _) (by simp) (by simp); rintro e w8 ⟨rfl, hi, hc⟩; have hI8 : Hid (InboxAt w8 (w.heap.size + 1) w.heap.size st3) := hi; have hB8 := Lib.hid (below_chg (below_alloc_ hB7.out (by omega) _) (by simp; omega) hc (by simp)); have hs8 : w.heap.size + 1 < w8.heap.size := Nat.lt_of_lt_of_le (by simp; omega) hc.size; clear hi; have HC8 := Lib.hid hc; clear hc)
    | (go_at_call 14; refine (ack_any w8 (w.heap.size + 1) w.heap.size st3 hI8.out).mono ?_; rintro e w9 ⟨rfl, hb⟩; rw [m2]; have hI9 := Lib.hid (hI8.out.chg (Chg.of_below (L := []) hb) (by simp) (by simp)); have hB9 := Lib.hid (below_chg hB8.out (by omega) (Chg.of_below (L := []) hb) (by simp)); have hs9 : w.heap.size + 1 < w9.heap.size := Nat.lt_of_lt_of_le hs8 hb.size; have HC9 := Lib.hid hb; clear hb))
  have hbx : Blk w9 w7.heap.size 39 (hopM 0).cells := (((Blk.new w7 39 (hopM 0).cells).chg HC8.out (by simp; omega)).below HC9.out (Blk.lt ((Blk.new w7 39 (hopM 0).cells).chg HC8.out (by simp; omega))))
  have hb0 := hbx.cell 0
  have hb1 := hbx.cell 1
  have hb2 := hbx.cell 2
  have hb3 := hbx.cell 3
  have hb4 := hbx.cell 4
  have hb5 := hbx.cell 5
  simp only [hopM, Msg.cells, List.getElem?_toArray, List.getElem?_cons_succ, List.getElem?_cons_zero] at hb0 hb1 hb2 hb3 hb4 hb5
  have hlt9 := hbx.lt
  clear hbx
  have heq : ∀ W : World, (binOp .eql 39 (.agg #[.int .i64 0, .int .u64 0, .int .i64 0, .string ByteArray.empty, .string ByteArray.empty, .string ByteArray.empty]) (.agg #[.int .i64 0, .int .u64 0, .int .i64 0, .string ByteArray.empty, .string ByteArray.empty, .string ByteArray.empty])).run Tryd.prog W = .ok (.bool true) W := fun W => by
    have := run_eql_msg (hopM 0) (hopM 0) W
    rw [(sameM_iff _ _).2 rfl] at this
    exact this
  go_region_held3 (fun w' => w'.cell? ⟨w7.heap.size, 0, none⟩ = some (.int .i64 0) ∧ w'.cell? ⟨w7.heap.size, 1, none⟩ = some (.int .u64 0) ∧ w'.cell? ⟨w7.heap.size, 2, none⟩ = some (.int .i64 0) ∧
      w'.cell? ⟨w7.heap.size, 3, none⟩ = some (.string ByteArray.empty) ∧ w'.cell? ⟨w7.heap.size, 4, none⟩ = some (.string ByteArray.empty) ∧ w'.cell? ⟨w7.heap.size, 5, none⟩ = some (.string ByteArray.empty))
    (go_keep)
    (first
      | (go_at_call 10; refine (msg_any _ _).mono ?_; rintro e w10 ⟨rfl, rfl⟩)
      | (go_at_call 15; refine (held_any _ (w.heap.size + 1) w.heap.size st3 ?_).mono ?_; exact hI9.out.chg (((Chg.refl [] w9).drew).alloc _) (by simp) (by simp); rintro e w10 ⟨rfl, rfl⟩)
      | (go_at_call 16; refine (next_any _ (w.heap.size + 1) w.heap.size st3 ?_).mono ?_; exact hI9.out.chg (((Chg.refl [] w9).drew).alloc _) (by simp) (by simp); rintro e w10 ⟨rfl, rfl⟩))
  go_wp2
  go_ret
  have hfin := ((((Chg.refl [] w9).drew).alloc (.cells #[.int .i64 0, .int .u64 0, .int .i64 0, .string ByteArray.empty, .string ByteArray.empty, .string ByteArray.empty] 39)))
  exact ⟨rfl, below_chg hB9.out (by omega) hfin (by simp)⟩
end Go.Proofs.YtkfpooljbpijhaaDoor
