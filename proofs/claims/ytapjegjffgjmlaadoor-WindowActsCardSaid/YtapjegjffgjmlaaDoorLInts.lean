/- staithref01.Ints: are two lists of whole numbers the same? -/
import Derived.Test.YtapjegjffgjmlaaDoorProg
import Derived.Test.YtapjegjffgjmlaaDoorLOwn
import Derived.WalkSpells
import Derived.Deep.QuietTactic
import Derived.BigQuiet
set_option linter.unusedVariables false
set_option linter.unusedSimpArgs false
namespace Go.Proofs.YtapjegjffgjmlaaDoor
open Go.RowKit

def encI (x : Int) : Value := .int .i64 x
theorem intsAt {w : World} {A : Option Addr} {c : Nat} {l : List Int} (h : SlAt w A (l.map encI) c) {k : Nat} (hk : k < l.length) : ∃ a, A = some a ∧ w.cell? (a.add k) = some (.int .i64 (l.getD k 0)) :=
  h.2 k _ (by rw [List.getElem?_map, List.getD_eq_getElem?_getD, List.getElem?_eq_getElem hk]; rfl)
theorem take_eq_of {l1 l2 : List Int} {k : Nat} (h1 : k < l1.length) (h2 : k < l2.length) (h : l1.take k = l2.take k) (he : l1.getD k 0 = l2.getD k 0) : l1.take (k + 1) = l2.take (k + 1) := by
  rw [List.take_add_one, List.take_add_one, h]
  congr 1
  rw [List.getD_eq_getElem?_getD, List.getD_eq_getElem?_getD, List.getElem?_eq_getElem h1, List.getElem?_eq_getElem h2] at he
  rw [List.getElem?_eq_getElem h1, List.getElem?_eq_getElem h2]
  simpa using he
set_option maxHeartbeats 2000000 in
theorem ints_any (w : World) (A1 A2 : Option Addr) (c1 c2 : Nat) (l1 l2 : List Int) (h1 : SlAt w A1 (l1.map encI) c1) (h2 : SlAt w A2 (l2.map encI) c2) (hl : l1.length ≤ 1000000) (hl2 : l2.length ≤ 1000000) :
    Calls Tryd.prog 15 #[.slice A1 l1.length c1, .slice A2 l2.length c2] w fun e w' => e = .returned (.bool (decide (l1 = l2))) ∧ Chg [] w w' := by
  obtain ⟨n, hn⟩ : ∃ n, n = l1.length := ⟨_, rfl⟩
  obtain ⟨m, hm⟩ : ∃ m, m = l2.length := ⟨_, rfl⟩
  have hnb : n ≤ 1000000 := by omega
  have hmb : m ≤ 1000000 := by omega
  rw [← hn, ← hm]
  have HN := Lib.hid (And.intro hn hm)
  have H1 := Lib.hid h1
  have H2 := Lib.hid h2
  clear hn hm h1 h2 hl hl2
  by_cases hne : n = m
  · have t1 : ((n : Int) != (m : Int)) = false := by simp; omega
    have t2 : (n != m) = false := by simp; omega
    obtain rfl : n = m := hne
    go_enter Tryd.func15, Tryd.ntmps15
    go_wp2_with fail
    go_loopw [13] (fun i wr => ∃ k : Nat, k ≤ n ∧ i = .int .i64 k ∧ Chg [] w wr ∧ l1.take k = l2.take k) (fun i _ => n - (intOf i).toNat)
    case atStart => exact ⟨0, Nat.zero_le _, rfl, Chg.refl _ _, rfl⟩
    case round =>
      obtain ⟨k, hk, rfl, hc, ht⟩ := hrel
      have HC := Lib.hid (And.intro hc ht)
      clear hc ht
      by_cases hlt : k < n
      · obtain ⟨a1, rfl, x1⟩ := intsAt H1.out (k := k) (by rw [← HN.out.1]; exact hlt)
        obtain ⟨a2, rfl, x2⟩ := intsAt H2.out (k := k) (by rw [← HN.out.2]; exact hlt)
        have y1 := HC.out.1.cell_some x1 (by simp)
        have y2 := HC.out.1.cell_some x2 (by simp)
        obtain ⟨z1, hz1⟩ : ∃ z, z = l1.getD k 0 := ⟨_, rfl⟩
        obtain ⟨z2, hz2⟩ : ∃ z, z = l2.getD k 0 := ⟨_, rfl⟩
        rw [← hz1] at y1
        rw [← hz2] at y2
        have HZ := Lib.hid (And.intro hz1 hz2)
        have i1 : (0 : Int) ≤ (k : Int) := by omega
        have i2 : (k : Int) < (n : Int) := by omega
        clear x1 x2 hz1 hz2
        by_cases he : z1 = z2
        · have t3 : (z1 != z2) = false := by simpa using he
          have HE := Lib.hid he
          clear he
          go_wp2_with fail
          go_quiet (fail)
          go_wp2
          go_roundw
          case rel => exact ⟨k + 1, by omega, by go_num, HC.out.1.drewN _, take_eq_of (by rw [← HN.out.1]; exact hlt) (by rw [← HN.out.2]; exact hlt) HC.out.2 (by rw [← HZ.out.1, ← HZ.out.2]; exact HE.out)⟩
          case measure => simp [intOf]; omega
        · have t3 : (z1 != z2) = true := by simpa using he
          have HE := Lib.hid he
          clear he
          go_wp2_with fail
          go_quiet (fail)
          go_wp2
          go_ret
          have : l1 ≠ l2 := fun e => HE.out (by rw [HZ.out.1, HZ.out.2, e])
          exact ⟨by rw [decide_eq_false this]; rfl, HC.out.1.drewN _⟩
      · obtain rfl : n = k := by omega
        go_wp2
        go_ret
        have : l1 = l2 := by
          have h := HC.out.2
          rwa [List.take_of_length_le (by rw [← HN.out.1]; omega), List.take_of_length_le (by rw [← HN.out.2]; omega)] at h
        exact ⟨by rw [decide_eq_true this]; rfl, HC.out.1⟩
  · have t1 : ((n : Int) != (m : Int)) = true := by simp; omega
    have t2 : (n != m) = true := by simp; omega
    go_enter Tryd.func15, Tryd.ntmps15
    go_wp2
    go_ret
    have : l1 ≠ l2 := fun e => hne (by rw [HN.out.1, HN.out.2, e])
    exact ⟨by rw [decide_eq_false this]; rfl, Chg.refl _ _⟩
end Go.Proofs.YtapjegjffgjmlaaDoor
