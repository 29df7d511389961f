/- Package topic: plain, Name, and what Words needs of package strings. -/
import Derived.Test.YtgnhpjakjoaejaaDoorProg
import Derived.Test.YtgnhpjakjoaejaaDoorLChg
import Derived.Test.YtgnhpjakjoaejaaDoorTpPlain
import Derived.WalkSpells
import Derived.Lib.Hide
import Derived.Lib.Strings
import Derived.Laws.RangeAny
import Derived.Laws.Externs
import Derived.WalkLawsBesides
set_option linter.unusedVariables false
set_option linter.unusedSimpArgs false
namespace Go.Proofs.YtgnhpjakjoaejaaDoor
open Go.RowKit
open Go.Proofs.YtgnhpjakjoaejaaDoor.Tp (okB plainL nameL)

theorem iter_chg (w : World) (s : ByteArray) (pos : Nat) : Chg [] w (w.iter s pos) := (Chg.refl [] w).alloc _
def byt (s : ByteArray) (i : Nat) : UInt8 := s.data.toList.getD i 0
theorem byt_eq (s : ByteArray) (i : Nat) (h : i < s.size) : s[i]'h = byt s i := by
  unfold byt
  have : i < s.data.toList.length := by rw [Array.length_toList]; exact h
  rw [List.getD_eq_getElem?_getD, List.getElem?_eq_getElem this]
  rfl
theorem plainL_of {s : ByteArray} (h0 : 0 < s.size) (h : ∀ i, i < s.size → okB (byt s i) = true) : plainL s.data.toList = true := by
  unfold plainL
  have hl : s.data.toList.length = s.size := Array.length_toList
  have h1 : s.data.toList.isEmpty = false := by
    rw [List.isEmpty_eq_false_iff]
    intro e
    rw [e] at hl
    simp at hl
    omega
  rw [h1, Bool.not_false, Bool.true_and, List.all_eq_true]
  intro c hc
  obtain ⟨i, hi⟩ := List.mem_iff_getElem?.1 hc
  have hlt : i < s.size := by rw [← hl]; exact (List.getElem?_eq_some_iff.1 hi).1
  have := h i hlt
  unfold byt at this
  rw [List.getD_eq_getElem?_getD, hi] at this
  exact this
theorem plainL_not {s : ByteArray} {i : Nat} (hi : i < s.size) (h : okB (byt s i) = false) : plainL s.data.toList = false := by
  unfold plainL
  rw [Bool.and_eq_false_iff]
  right
  rw [List.all_eq_false]
  have hl : i < s.data.toList.length := by rw [Array.length_toList]; exact hi
  refine ⟨byt s i, ?_, by rw [h]; simp⟩
  unfold byt
  rw [List.getD_eq_getElem?_getD, List.getElem?_eq_getElem hl]
  exact List.getElem_mem hl
theorem plainL_nil {s : ByteArray} (h : s.size = 0) : plainL s.data.toList = false := by
  have : s.data.toList = [] := List.eq_nil_of_length_eq_zero (by rw [Array.length_toList]; exact h)
  rw [this]; rfl
/-- A rune at a byte that is no good one. -/
def okR (r : Nat) : Bool := (decide (97 ≤ r) && decide (r ≤ 122)) || ((decide (48 ≤ r) && decide (r ≤ 57)) || (r == 45 || r == 95))
theorem okB_R (c : UInt8) : okB c = okR c.toNat := rfl
theorem okR_high {r : Nat} (h : 128 ≤ r) : okR r = false := by
  unfold okR
  rw [decide_eq_false (by omega : ¬ r ≤ 122), decide_eq_false (by omega : ¬ r ≤ 57)]
  have h1 : (r == 45) = false := by rw [beq_eq_false_iff_ne]; omega
  have h2 : (r == 95) = false := by rw [beq_eq_false_iff_ne]; omega
  rw [h1, h2]
  simp
set_option maxHeartbeats 4000000 in
theorem plain_any (s : ByteArray) (hs : s.size ≤ maxLen) (w : World) : Calls Tryd.prog 50 #[.string s] w fun e w' => e = .returned (.bool (plainL s.data.toList)) ∧ Chg [] w w' := by
  unfold maxLen at hs
  go_enter Tryd.func50, Tryd.ntmps50
  go_wp2
  go_loopw [7] (fun _ wr => ∃ pos : Nat, pos ≤ s.size ∧ wr = w.iter s pos ∧ ∀ i, i < pos → okB (byt s i) = true) (fun _ wr => s.size - wr.iterPos w.heap.size)
  case atStart => exact ⟨0, Nat.zero_le _, rfl, fun i hi => absurd hi (by omega)⟩
  case round =>
    obtain ⟨pos, hpos, rfl, hall⟩ := hrel
    have HAll := Lib.hid hall
    clear hall
    by_cases hp : pos < s.size
    · have hnx : ∀ ty, (Instr.next (.pointer (some ⟨w.heap.size, 0, none⟩)) true ty).run Tryd.prog (w.iter s pos) = _ := fun ty => run_next_any w s pos ty hp
      have hl := decode_le s pos
      obtain ⟨r, hr⟩ : ∃ r, r = (Utf8.decode s pos).1 := ⟨_, rfl⟩
      obtain ⟨d, hd⟩ : ∃ d, d = (Utf8.decode s pos).2 := ⟨_, rfl⟩
      rw [← hr, ← hd] at hnx
      rw [← hr] at hl
      by_cases hb : (byt s pos).toNat < 128
      · have hdec := decode_ascii s pos hp (by rw [byt_eq s pos hp]; exact hb)
        rw [byt_eq s pos hp] at hdec
        have hrb : r = (byt s pos).toNat := by rw [hr, hdec]
        have HD1 : Hid (d = 1) := Lib.hid (by rw [hd, hdec])
        have HOR : Hid (okB (byt s pos) = okR r) := Lib.hid (by rw [okB_R, ← hrb])
        clear hdec hr hd hrb hb
        by_cases a1 : 97 ≤ r ∧ r ≤ 122
        · obtain ⟨b1, b2⟩ := a1
          have HOK : Hid (okB (byt s pos) = true) := Lib.hid (by rw [HOR.out]; unfold okR; simp [b1, b2])
          have c1 : decide ((97 : Int) ≤ (r : Int)) = true := decide_eq_true (by omega)
          have c2 : decide ((r : Int) ≤ 122) = true := decide_eq_true (by omega)
          go_wp2
          go_roundw
          case rel =>
            refine ⟨pos + 1, by omega, by rw [HD1.out], fun i hi => ?_⟩
            by_cases e : i = pos
            · subst e; exact HOK.out
            · exact HAll.out i (by omega)
          case measure => rw [HD1.out]; simp; omega
        · by_cases a2 : 48 ≤ r ∧ r ≤ 57
          · obtain ⟨b1, b2⟩ := a2
            have HOK : Hid (okB (byt s pos) = true) := Lib.hid (by rw [HOR.out]; unfold okR; simp [b1, b2])
            have c1 : decide ((97 : Int) ≤ (r : Int)) = false := decide_eq_false (by omega)
            have c2 : decide ((48 : Int) ≤ (r : Int)) = true := decide_eq_true (by omega)
            have c3 : decide ((r : Int) ≤ 57) = true := decide_eq_true (by omega)
            clear a1
            go_wp2
            go_roundw
            case rel =>
              refine ⟨pos + 1, by omega, by rw [HD1.out], fun i hi => ?_⟩
              by_cases e : i = pos
              · subst e; exact HOK.out
              · exact HAll.out i (by omega)
            case measure => rw [HD1.out]; simp; omega
          · by_cases a3 : r = 45
            · have HOK : Hid (okB (byt s pos) = true) := Lib.hid (by rw [HOR.out, a3]; decide)
              have c1 : ((r : Int) == 45) = true := by rw [beq_iff_eq]; omega
              have c2 : decide ((97 : Int) ≤ (r : Int)) = false := decide_eq_false (by omega)
              have c3 : decide ((48 : Int) ≤ (r : Int)) = false := decide_eq_false (by omega)
              clear a1 a2 a3
              go_wp2
              go_roundw
              case rel =>
                refine ⟨pos + 1, by omega, by rw [HD1.out], fun i hi => ?_⟩
                by_cases e : i = pos
                · subst e; exact HOK.out
                · exact HAll.out i (by omega)
              case measure => rw [HD1.out]; simp; omega
            · by_cases a4 : r = 95
              · have HOK : Hid (okB (byt s pos) = true) := Lib.hid (by rw [HOR.out, a4]; decide)
                have c1 : ((r : Int) == 45) = false := by rw [beq_eq_false_iff_ne]; omega
                have c4 : ((r : Int) == 95) = true := by rw [beq_iff_eq]; omega
                have c2 : decide ((97 : Int) ≤ (r : Int)) = false := decide_eq_false (by omega)
                have c3 : decide ((48 : Int) ≤ (r : Int)) = true := decide_eq_true (by omega)
                have c5 : decide ((r : Int) ≤ 57) = false := decide_eq_false (by omega)
                clear a1 a2 a3 a4
                go_wp2
                go_roundw
                case rel =>
                  refine ⟨pos + 1, by omega, by rw [HD1.out], fun i hi => ?_⟩
                  by_cases e : i = pos
                  · subst e; exact HOK.out
                  · exact HAll.out i (by omega)
                case measure => rw [HD1.out]; simp; omega
              · have hno : okR r = false := by
                  unfold okR
                  have h1 : (r == 45) = false := by rw [beq_eq_false_iff_ne]; exact a3
                  have h2 : (r == 95) = false := by rw [beq_eq_false_iff_ne]; exact a4
                  rw [h1, h2]
                  simp only [Bool.or_false, Bool.or_eq_false_iff, Bool.and_eq_false_iff, decide_eq_false_iff_not]
                  omega
                have HNO : Hid (plainL s.data.toList = false) := Lib.hid (plainL_not hp (by rw [HOR.out]; exact hno))
                have c1 : ((r : Int) == 45) = false := by rw [beq_eq_false_iff_ne]; omega
                have c4 : ((r : Int) == 95) = false := by rw [beq_eq_false_iff_ne]; omega
                clear a3 a4 hno
                by_cases d1 : 97 ≤ r
                · have c2 : decide ((97 : Int) ≤ (r : Int)) = true := decide_eq_true (by omega)
                  have c3 : decide ((r : Int) ≤ 122) = false := decide_eq_false (by omega)
                  have c5 : decide ((48 : Int) ≤ (r : Int)) = true := decide_eq_true (by omega)
                  have c6 : decide ((r : Int) ≤ 57) = false := decide_eq_false (by omega)
                  clear a1 a2
                  go_wp2
                  go_ret
                  rw [HNO.out]
                  exact ⟨rfl, iter_chg _ _ _⟩
                · have c2 : decide ((97 : Int) ≤ (r : Int)) = false := decide_eq_false (by omega)
                  by_cases d2 : 48 ≤ r
                  · have c5 : decide ((48 : Int) ≤ (r : Int)) = true := decide_eq_true (by omega)
                    have c6 : decide ((r : Int) ≤ 57) = false := decide_eq_false (by omega)
                    clear a1 a2
                    go_wp2
                    go_ret
                    rw [HNO.out]
                    exact ⟨rfl, iter_chg _ _ _⟩
                  · have c5 : decide ((48 : Int) ≤ (r : Int)) = false := decide_eq_false (by omega)
                    clear a1 a2
                    go_wp2
                    go_ret
                    rw [HNO.out]
                    exact ⟨rfl, iter_chg _ _ _⟩
      · have hh := decode_high s pos hp (by rw [byt_eq s pos hp]; omega)
        rw [← hr] at hh
        have hr128 := hh.1
        have HNO : Hid (plainL s.data.toList = false) := Lib.hid (plainL_not hp (by rw [okB_R]; exact okR_high (by omega)))
        have c1 : ((r : Int) == 45) = false := by rw [beq_eq_false_iff_ne]; omega
        have c4 : ((r : Int) == 95) = false := by rw [beq_eq_false_iff_ne]; omega
        have c2 : decide ((97 : Int) ≤ (r : Int)) = true := decide_eq_true (by omega)
        have c3 : decide ((r : Int) ≤ 122) = false := decide_eq_false (by omega)
        have c5 : decide ((48 : Int) ≤ (r : Int)) = true := decide_eq_true (by omega)
        have c6 : decide ((r : Int) ≤ 57) = false := decide_eq_false (by omega)
        clear hh hr hd hb
        go_wp2
        go_ret
        rw [HNO.out]
        exact ⟨rfl, iter_chg _ _ _⟩
    · have hnx : ∀ ty, (Instr.next (.pointer (some ⟨w.heap.size, 0, none⟩)) true ty).run Tryd.prog (w.iter s pos) = _ := fun ty => run_next_end w s pos ty hp
      obtain rfl : pos = s.size := by omega
      by_cases h0 : s.size = 0
      · have HE := Lib.hid (plainL_nil h0)
        have e1 : s.toList.isEmpty = true := by rw [Lib.toList_data, List.isEmpty_iff]; exact List.eq_nil_of_length_eq_zero (by rw [Array.length_toList]; exact h0)
        clear h0
        go_wp2
        go_ret
        rw [HE.out]
        exact ⟨rfl, iter_chg _ _ _⟩
      · have HE := Lib.hid (plainL_of (by omega) HAll.out)
        have e1 : s.toList.isEmpty = false := by rw [Lib.toList_data, List.isEmpty_eq_false_iff]; intro e; exact h0 (by have := congrArg List.length e; rwa [Array.length_toList] at this)
        clear h0
        go_wp2
        go_ret
        rw [HE.out]
        exact ⟨rfl, iter_chg _ _ _⟩
theorem name_any (s : ByteArray) (hs : s.size ≤ maxLen) (w : World) : Calls Tryd.prog 37 #[.string s] w fun e w' => e = .returned (.bool (nameL s.data.toList)) ∧ Chg [] w w' := by
  have HP := Lib.hid (plain_any s hs w)
  have hl : s.data.toList.length = s.size := Array.length_toList
  unfold maxLen at hs
  obtain ⟨b, hb⟩ : ∃ b, b = plainL s.data.toList := ⟨_, rfl⟩
  rw [← hb] at HP
  by_cases h : s.size ≤ 20
  · have e : nameL s.data.toList = b := by unfold nameL; rw [hl, decide_eq_true h, Bool.true_and, hb]
    rw [e]
    clear e hb
    have t1 : decide (s.size ≤ 20) = true := decide_eq_true h
    have t2 : decide ((s.size : Int) ≤ 20) = true := decide_eq_true (by omega)
    go_enter Tryd.func37, Tryd.ntmps37
    go_wp2_with fail
    refine HP.out.mono ?_
    rintro e w1 ⟨rfl, hc⟩
    have HC := Lib.hid hc
    clear hc
    go_wp2
    go_ret
    exact ⟨rfl, HC.out⟩
  · have e : nameL s.data.toList = false := by unfold nameL; rw [hl, decide_eq_false h, Bool.false_and]
    rw [e]
    clear e hb
    have t1 : decide (s.size ≤ 20) = false := decide_eq_false h
    have t2 : decide ((s.size : Int) ≤ 20) = false := decide_eq_false (by omega)
    go_enter Tryd.func37, Tryd.ntmps37
    go_wp2
    go_ret
    exact ⟨rfl, Chg.refl _ _⟩

/-! ### strings.Index of a dot; strings.SplitSeq -/
def dotS : ByteArray := ⟨#[46]⟩
theorem slIndexByte_any (s : ByteArray) (w : World) : Calls Tryd.prog 72 #[.string s, .int .u8 46] w fun e w' => e = .returned (.int .i64 (Lib.indexByte s.data.toList 46)) ∧ w = w' := by
  go_enter Tryd.func72, Tryd.ntmps72
  go_wp2
  rw [run_callFunc_extern Tryd.func76 (by kernel_rfl) (by kernel_rfl) (by kernel_rfl) (e := Extern.BytealgIndexByte.indexByte) (by kernel_rfl), Lib.run_indexByteString]
  simp only [Result.andThen]
  rw [Oper.upon_value]
  go_wp2
  go_ret
  exact ⟨rfl, rfl⟩
theorem slIndex_any (s : ByteArray) (w : World) : Calls Tryd.prog 71 #[.string s, .string dotS] w fun e w' => e = .returned (.int .i64 (Lib.indexByte s.data.toList 46)) ∧ w = w' := by
  have HI := Lib.hid (slIndexByte_any s w)
  unfold dotS
  by_cases h : ([46] == s.toList) = true
  · have e : Lib.indexByte s.data.toList 46 = 0 := by rw [← Lib.toList_data, ← eq_of_beq h]; rfl
    rw [e]
    go_enter Tryd.func71, Tryd.ntmps71
    go_wp2
    go_ret
    exact ⟨rfl, rfl⟩
  · have h' : ([46] == s.toList) = false := by simpa using h
    clear h
    go_enter Tryd.func71, Tryd.ntmps71
    go_wp2_with fail
    change Calls _ _ #[.string s, .int .u8 46] _ _
    refine HI.out.mono ?_
    rintro e w1 ⟨rfl, rfl⟩
    go_wp2
    go_ret
    exact ⟨rfl, rfl⟩
theorem index_any (s : ByteArray) (w : World) : Calls Tryd.prog 69 #[.string s, .string dotS] w fun e w' => e = .returned (.int .i64 (Lib.indexByte s.data.toList 46)) ∧ w = w' := by
  have HI := Lib.hid (slIndex_any s w)
  unfold dotS at *
  go_enter Tryd.func69, Tryd.ntmps69
  go_wp2_with fail
  refine HI.out.mono ?_
  rintro e w1 ⟨rfl, rfl⟩
  go_wp2
  go_ret
  exact ⟨rfl, rfl⟩
/-- The iterator of a text's words: its separator, the text and 0 are boxed. -/
def boxesC (w : World) (s : ByteArray) : World := ((w.alloc (.cells #[.string s] 9)).alloc (.cells #[.string dotS] 9)).alloc (.cells #[.int .i64 0] 3)
theorem splitSeq_any (s : ByteArray) (w : World) : Calls Tryd.prog 64 #[.string s, .string dotS] w fun e w' =>
    e = .returned (.func (.func 67) #[] #[.pointer (some ⟨w.heap.size + 1, 0, none⟩), .pointer (some ⟨w.heap.size, 0, none⟩), .pointer (some ⟨w.heap.size + 2, 0, none⟩)]) ∧ boxesC w s = w' := by
  have h1 : Calls Tryd.prog 66 #[.string s, .string dotS, .int .i64 0] w fun e w' =>
    e = .returned (.func (.func 67) #[] #[.pointer (some ⟨w.heap.size + 1, 0, none⟩), .pointer (some ⟨w.heap.size, 0, none⟩), .pointer (some ⟨w.heap.size + 2, 0, none⟩)]) ∧ boxesC w s = w' := by
    go_enter Tryd.func66, Tryd.ntmps66
    go_wp2
    go_ret
    exact ⟨rfl, rfl⟩
  have H1 := Lib.hid h1
  clear h1
  go_enter Tryd.func64, Tryd.ntmps64
  go_wp2_with fail
  refine H1.out.mono ?_
  rintro e w1 ⟨rfl, rfl⟩
  go_wp2
  go_ret
  exact ⟨rfl, rfl⟩
end Go.Proofs.YtgnhpjakjoaejaaDoor
