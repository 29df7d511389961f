/- staithref01: Good, Put, Get, Same. -/
import Derived.Test.YtgnhpjakjoaejaaDoorWPg
import Derived.Test.YtgnhpjakjoaejaaDoorTpWords
import Derived.Laws.BytesString
import Derived.Laws.IdiomStrings
set_option linter.unusedVariables false
set_option linter.unusedSimpArgs false
namespace Go.Proofs.YtgnhpjakjoaejaaDoor
open Go.RowKit

theorem strB_toList (l : Bs) : (strB l).toList = l := by rw [ByteArray.toList_eq]; simp [strB]
set_option maxHeartbeats 2000000 in
theorem rgood (k : Nat) (hk : WidK k) (w : World) : Calls Tryd.prog 44 #[.int .i64 (k : Nat)] w fun e w' => e = .returned (.bool true) ∧ w = w' := by
  rcases hk with rfl | rfl | rfl | rfl
  all_goals
    go_enter Tryd.func44, Tryd.ntmps44
    go_wp2
    go_ret
    exact ⟨rfl, rfl⟩
set_option maxRecDepth 100000 in
set_option maxHeartbeats 2000000 in
theorem rput_any (k : Nat) (hk : WidK k) (v : Nat) (hv : v < 18446744073709551616) (w : World) (A : Option Addr) (n c : Nat) (l : Bs) (hl : Bt w A n c l) (hn : n ≤ 1000000) :
    Calls Tryd.prog 27 #[.slice A n c, .int .i64 (k : Nat), .int .u64 (v : Nat)] w fun e w' => ∃ A' n' c', e = .returned (.slice A' n' c') ∧ Ob w' w.heap.size A' n' c' (l ++ Ac.be k v) ∧ Chg [] w w' := by
  have hk8 : 1 ≤ k ∧ k ≤ 8 := by rcases hk with rfl | rfl | rfl | rfl <;> omega
  obtain ⟨A1, c1, w1, hap, ho1, hc1⟩ := app_lit w 34 (.slice A n c) n l hl.len ((hl.chg0 ((Chg.refl [] w).alloc _)).src) (by omega)
  have HC := Lib.hid (And.intro ho1 hc1)
  have HL := Lib.hid (And.intro hl.len hk)
  have HV := Lib.hid hv
  clear ho1 hc1 hl hk hv
  go_enter Tryd.func27, Tryd.ntmps27
  go_wp2_with (at_builtin; refine wpList_appR (by rfl) _ _ _ _ (by rfl) _ _ _ _ (by rfl) (by rfl) hap ?_)
  refine (rgood k HL.out.2 w1).mono ?_
  rintro e w' ⟨rfl, rfl⟩
  go_wp2_with fail
  go_loopw [7, 8] (fun x i wr => ∃ (j : Nat) (A' : Option Addr) (n' c' : Nat), j ≤ k ∧ i = .int .i64 ((k : Int) - 1 - j) ∧ x = .slice A' n' c' ∧ Ob wr w.heap.size A' n' c' (l ++ (Ac.be k v).take j) ∧ Chg [] w wr) (fun _ i _ => (intOf i + 1).toNat)
  case atStart => exact ⟨0, _, _, _, by omega, by simp, rfl, by simpa using HC.out.1, HC.out.2⟩
  case round =>
    obtain ⟨j, A', n', c', hj, rfl, rfl, ho, hc⟩ := hrel
    have HO := Lib.hid (And.intro ho hc)
    clear ho hc
    by_cases hlt : j < k
    · have hsz := HO.out.2.size
      have hn' : n' ≤ 1000008 := by
        have h1 := HO.out.1.len
        rw [List.length_append, List.length_take, Ac.be_len] at h1
        have := HL.out.1
        omega
      obtain ⟨A2, c2, w5, hrun, ho5, hc5⟩ := app_one HO.out.1 hsz (by omega) (UInt8.ofNat (v / 256 ^ (k - 1 - j)))
      have HR := Lib.hid (And.intro ho5 (HO.out.2.then_ hc5 (fun b hb => .inr (HO.out.1.own.ge b hb))))
      rw [byte_at] at hrun
      clear ho5 hc5 hsz
      have i1 : (0 : Int) ≤ (k : Int) - 1 - (j : Int) := by omega
      go_wp2_with (at_builtin; refine wpList_appR (by rfl) _ _ _ _ (by rfl) _ _ _ _ (by rfl) (by rfl) hrun ?_)
      go_roundw
      case rel => exact ⟨j + 1, _, _, _, by omega, by go_num, rfl, by rw [be_take k v j hlt, ← List.append_assoc]; exact HR.out.1, HR.out.2⟩
      case measure => simp [intOf]; omega
    · obtain rfl : k = j := by omega
      have i1 : ¬ ((0 : Int) ≤ (k : Int) - 1 - (k : Int)) := by omega
      go_wp2
      go_ret
      have := HO.out.1
      rw [List.take_of_length_le (by rw [Ac.be_len]; omega)] at this
      exact ⟨_, _, _, rfl, this, HO.out.2⟩
theorem val_step' {n k j : Nat} {l : Bs} {b : UInt8} (hn : n = l.length) (hk : k ≤ 8) (hj : j < k) (hb : l[j]? = some b) : IntKind.u64.wrap (IntKind.u64.wrap (((Ac.val (l.take j) : Nat) : Int) * 256) + IntKind.u64.wrap (b.toNat : Int)) = ((Ac.val (l.take (j + 1)) : Nat) : Int) := by
  have h1 : Ac.val (l.take (j + 1)) = Ac.val (l.take j) * 256 + b.toNat := by rw [List.take_add_one, hb]; exact Ac.val_snoc _ _
  have h2 := Ac.val_lt (l.take j)
  have h3 : (l.take j).length ≤ 7 := by rw [List.length_take]; omega
  have h4 : 256 ^ (l.take j).length ≤ 256 ^ 7 := Nat.pow_le_pow_right (by decide) h3
  have h5 := b.toNat_lt
  rw [h1, IntKind.wrap_u64, IntKind.wrap_u64, IntKind.wrap_u64]
  omega
set_option maxRecDepth 100000 in
set_option maxHeartbeats 2000000 in
theorem rget_any (k : Nat) (hk : WidK k) (w : World) (A : Option Addr) (n c : Nat) (l : Bs) (hl : Bt w A n c l) (hn : n ≤ 1000000) :
    Calls Tryd.prog 48 #[.slice A n c, .int .i64 (k : Nat)] w fun e w' => e = .returned (.tuple #[.int .u64 ((Ac.numR k (some l)).1 : Nat), .bool (decide (k ≤ n))]) ∧ w = w' := by
  have hk8 : 1 ≤ k ∧ k ≤ 8 := by rcases hk with rfl | rfl | rfl | rfl <;> omega
  have HL := Lib.hid (And.intro hl hk)
  have hln := hl.len
  by_cases h : k ≤ n
  · have t1 : decide ((n : Int) < (k : Int)) = false := decide_eq_false (by omega)
    have t2 : decide (n < k) = false := decide_eq_false (by omega)
    have e1 : (Ac.numR k (some l)).1 = Ac.val (l.take k) := by unfold Ac.numR; simp only; rw [if_pos (by omega)]
    rw [e1, decide_eq_true h]
    have HN := Lib.hid hln
    clear hl hk hln e1
    go_enter Tryd.func48, Tryd.ntmps48
    go_wp2_with fail
    refine (rgood k HL.out.2 w).mono ?_
    rintro e w' ⟨rfl, rfl⟩
    go_wp2_with fail
    go_loopw [6, 7] (fun x i wr => ∃ j : Nat, j ≤ k ∧ i = .int .i64 j ∧ x = .int .u64 (Ac.val (l.take j) : Nat) ∧ w = wr) (fun _ i _ => k - (intOf i).toNat)
    case atStart => exact ⟨0, by omega, rfl, rfl, rfl⟩
    case round =>
      obtain ⟨j, hj, rfl, rfl, rfl⟩ := hrel
      by_cases hlt : j < k
      · obtain ⟨b, hb⟩ : ∃ b, l[j]? = some b := ⟨_, List.getElem?_eq_getElem (by have := HN.out; omega)⟩
        obtain ⟨a, rfl, hcell⟩ := HL.out.1.cell hb
        have HB := Lib.hid hb
        have i1 : (0 : Int) ≤ (j : Int) := by omega
        have i2 : (j : Int) < (n : Int) := by omega
        unfold bv at hcell
        clear hb
        have hv := val_step' (k := k) HL.out.1.len (by omega) (by omega) HB.out
        have HV := Lib.hid hv
        clear hv
        go_wp2_with fail
        go_roundw
        case rel => exact ⟨j + 1, by omega, by go_num, by rw [← HV.out], trivial⟩
        case measure => simp [intOf]; omega
      · obtain rfl : k = j := by omega
        go_wp2
        go_ret2
        exact ⟨rfl, rfl⟩
  · have t1 : decide ((n : Int) < (k : Int)) = true := decide_eq_true (by omega)
    have t2 : decide (n < k) = true := decide_eq_true (by omega)
    have e1 : (Ac.numR k (some l)).1 = 0 := by unfold Ac.numR; simp only; rw [if_neg (by omega)]
    rw [e1, decide_eq_false h]
    clear hl hk hln e1
    go_enter Tryd.func48, Tryd.ntmps48
    go_wp2_with fail
    refine (rgood k HL.out.2 w).mono ?_
    rintro e w' ⟨rfl, rfl⟩
    go_wp2
    go_ret2
    exact ⟨rfl, rfl⟩
/-- Bytes as a text. -/
theorem conv_str {w : World} {A : Option Addr} {n c : Nat} {l : Bs} (h : Bt w A n c l) : (convert 34 9 (.slice A n c)).run Tryd.prog w = .ok (.string (strB l)) w := by
  have hn := h.len
  subst hn
  cases l with
  | nil =>
    rw [List.length_nil, run_convert_bytes_string (P := Tryd.prog) w 34 9 5 A 0 c Tryd.underlying34 Tryd.underlying5 Tryd.underlying9]
    cases A with
    | none => rfl
    | some a => exact run_bytesToString (P := Tryd.prog) w a 0 c [] rfl
  | cons b r =>
    obtain ⟨a, rfl, _⟩ := h.at_.2 0 (bv b) rfl
    exact run_convert_bytes_back (P := Tryd.prog) w 34 9 5 a c (b :: r) Tryd.underlying34 Tryd.underlying5 Tryd.underlying9 (fun j hj => by
      obtain ⟨a', ha, hc⟩ := h.cell (List.getElem?_eq_getElem hj)
      cases ha
      exact hc)
set_option maxHeartbeats 2000000 in
theorem same_any (w : World) (A B : Option Addr) (n c m d : Nat) (x y : Bs) (hx : Bt w A n c x) (hy : Bt w B m d y) :
    Calls Tryd.prog 13 #[.slice A n c, .slice B m d] w fun e w' => e = .returned (.bool (x == y)) ∧ w = w' := by
  have h1 := conv_str hx
  have h2 := conv_str hy
  have e : ((strB x).toList == (strB y).toList) = (x == y) := by rw [strB_toList, strB_toList]
  have HE := Lib.hid e
  clear hx hy e
  go_enter Tryd.func13, Tryd.ntmps13
  go_wp2
  go_ret
  exact ⟨by first | rfl | (rw [HE.out]; rfl), rfl⟩
end Go.Proofs.YtgnhpjakjoaejaaDoor
