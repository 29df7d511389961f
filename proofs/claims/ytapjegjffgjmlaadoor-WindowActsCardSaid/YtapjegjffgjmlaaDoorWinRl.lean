/- The document's list of a mask's numbers (staithref02 Has, List), walked. -/
import Derived.Test.YtapjegjffgjmlaaDoorLOwnS
import Derived.Test.YtapjegjffgjmlaaDoorMkPlain
import Derived.Test.YtapjegjffgjmlaaDoorLOwn
import Derived.Test.YtapjegjffgjmlaaDoorProg
import Derived.Test.YtapjegjffgjmlaaDoorMkTz
import Derived.Laws.BitsAllLaws
import Derived.WalkSpells
set_option linter.unusedVariables false
set_option linter.unusedSimpArgs false
namespace Go.Proofs.YtapjegjffgjmlaaDoor
open Go.RowKit Go.Shelf

theorem shr_bit (m n : Nat) (hm : m < 18446744073709551616) : (Go.bits .and .u64 ((m : Int) / 2 ^ n) 1 == 1) = m.testBit n := by
  have e2 : (m : Int) / 2 ^ n = ((m / 2 ^ n : Nat) : Int) := by simp
  have hlt : m / 2 ^ n < 18446744073709551616 := Nat.lt_of_le_of_lt (Nat.div_le_self _ _) hm
  rw [e2]
  have h := bits_and_u64_nat (m / 2 ^ n) 1 hlt (by omega)
  rw [show ((1 : Nat) : Int) = 1 from rfl] at h
  rw [h, Nat.and_one_is_mod, Nat.testBit_eq_decide_div_mod_eq]
  rw [Bool.eq_iff_iff]
  simp
  omega
theorem rhas_bit (m n : Nat) (h1 : n < 64) (hm : m < 18446744073709551616) (w : World) : Calls Tryd.prog 33 #[.int .u64 (m : Nat), .int .i64 (n : Nat)] w fun e w' => e = .returned (.bool (m.testBit n)) ∧ w = w' := by
  have HS := Lib.hid (shr_bit m n hm)
  have i1 : (0 : Int) ≤ (n : Int) := by omega
  have i2 : (n : Int) < 64 := by omega
  have hq : ∀ q : IntKind, q = .u64 → q.wrap (n : Int) = (n : Int) := fun q hq => by rw [hq, IntKind.wrap_u64]; omega
  go_enter Tryd.func33, Tryd.ntmps33
  go_wp2
  go_ret
  exact ⟨by rw [← HS.out]; rfl, rfl⟩
theorem infoIntL : (Tryd.prog.info? 3).map (fun i => (i.zero, i.size, i.bytes)) = some (some (.int .i64 0), 1, 8) := by kernel_rfl
def bitsTo (m k : Nat) : List Nat := (List.range k).filter fun i => m.testBit i
theorem bitsTo_succ (m k : Nat) : bitsTo m (k + 1) = bitsTo m k ++ if m.testBit k = true then [k] else [] := by
  unfold bitsTo
  rw [List.range_succ, List.filter_append]
  congr 1
  by_cases h : m.testBit k = true <;> simp [h]
theorem bitsTo_len (m k : Nat) : (bitsTo m k).length ≤ k := by
  have := List.length_filter_le (fun i => m.testBit i) (List.range k)
  simpa [bitsTo] using this
def encL (k : Nat) : Value := .int .i64 (k : Int)
set_option maxHeartbeats 4000000 in
theorem rlist_any (m : Nat) (hm : m < 18446744073709551616) (w : World) : Calls Tryd.prog 29 #[.int .u64 (m : Nat)] w fun e w' =>
    ∃ A c, e = .returned (.slice A (Bt.bitsL m).length c) ∧ OwnS w' w.heap.size 3 1 A (Bt.bitsL m).length c ((Bt.bitsL m).map encL) ∧ Chg [] w w' := by
  obtain ⟨i0, hi, hz0, hz1, hz2⟩ := info_parts infoIntL
  have HI := Lib.hid (And.intro hi (And.intro hz0 (And.intro hz1 hz2)))
  have HM := Lib.hid hm
  clear hi hz0 hz1 hz2 hm
  go_enter Tryd.func29, Tryd.ntmps29
  go_wp2
  go_loopw [4, 3] (fun i s3 wr => ∃ (k n : Nat) (A : Option Addr) (c : Nat), k ≤ 64 ∧ i = .int .i64 k ∧ n ≤ 64 ∧ s3 = .slice A n c ∧ Hid (n = (bitsTo m k).length ∧ OwnS wr w.heap.size 3 1 A n c ((bitsTo m k).map encL) ∧ Chg [] w wr)) (fun i _ _ => 64 - (intOf i).toNat)
  case atStart => exact ⟨0, 0, none, 0, by omega, rfl, by omega, rfl, Lib.hid ⟨rfl, OwnS.nil _ _ _ _, Chg.refl _ _⟩⟩
  case round =>
    obtain ⟨k, n, A, c, hk, rfl, hn, rfl, H⟩ := hrel
    by_cases hlt : k < 64
    · have hst := bitsTo_succ m k
      have hln := bitsTo_len m (k + 1)
      cases hb : m.testBit k with
      | true =>
        rw [hb, if_pos rfl] at hst
        have HST := Lib.hid (And.intro hst hln)
        obtain ⟨A', c', w2, hrun, hown, hch, _⟩ := (H.out.2.1.chg0 ((Chg.refl [] wr).alloc (.cells #[.int .i64 (k : Nat)] 3))).append (P := Tryd.prog) 27 27 27 i0 (.int .i64 0) 8 Tryd.underlying27 HI.out.1 HI.out.2.1 HI.out.2.2.1 HI.out.2.2.2 rfl
          (.slice (some ⟨wr.heap.size, 0, none⟩) 1 1) 1 [.int .i64 (k : Nat)] (Src.ofSlice _ Tryd.underlying27 _ 1 1 _ rfl (cell_one_new _ _ _) (by simp [Value.oneCell'])) (by simp only [maxLen]; omega) (by omega) (by have := H.out.2.2.size; simp; omega)
        have H2 := Lib.hid (And.intro hown ((H.out.2.2.alloc (.cells #[.int .i64 (k : Nat)] 3)).then_ hch (fun b hb => .inr (H.out.2.1.ge b hb))))
        have hcall := Lib.hid (rhas_bit m k hlt HM.out wr)
        rw [hb] at hcall
        clear hst hln hown hch hb
        go_wp2_with fail
        refine hcall.out.mono ?_
        rintro e w1 ⟨rfl, rfl⟩
        go_wp2_with (at_builtin; refine wpList_appR (by rfl) _ _ _ _ (by rfl) _ _ _ _ (by rfl) (by rfl) hrun ?_)
        go_roundw
        case rel => exact ⟨k + 1, n + 1, A', c', by omega, by go_num, by have := HST.out.2; rw [HST.out.1, List.length_append, ← H.out.1] at this; simp at this; omega, rfl, Lib.hid ⟨by rw [HST.out.1, List.length_append, ← H.out.1]; rfl, by rw [HST.out.1, List.map_append]; exact H2.out.1, H2.out.2⟩⟩
        case measure => simp [intOf]; omega
      | false =>
        rw [hb, if_neg (by simp), List.append_nil] at hst
        have HST := Lib.hid hst
        have hcall := Lib.hid (rhas_bit m k hlt HM.out wr)
        rw [hb] at hcall
        clear hst hln hb
        go_wp2_with fail
        refine hcall.out.mono ?_
        rintro e w1 ⟨rfl, rfl⟩
        go_wp2
        go_roundw
        case rel => exact ⟨k + 1, n, A, c, by omega, by go_num, by omega, rfl, Lib.hid ⟨by rw [HST.out]; exact H.out.1, by rw [HST.out]; exact H.out.2.1, H.out.2.2⟩⟩
        case measure => simp [intOf]; omega
    · obtain rfl : k = 64 := by omega
      go_wp2
      go_ret
      obtain ⟨h1, h2, h3⟩ := H.out
      rw [show Bt.bitsL m = bitsTo m 64 from rfl, ← h1]
      exact ⟨A, c, rfl, h2, h3⟩
end Go.Proofs.YtapjegjffgjmlaaDoor
