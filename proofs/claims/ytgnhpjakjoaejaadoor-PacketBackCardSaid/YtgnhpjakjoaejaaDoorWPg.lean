/- Package word: Good, Put, Get. -/
import Derived.Test.YtgnhpjakjoaejaaDoorLByt
import Derived.Test.YtgnhpjakjoaejaaDoorAcBytes
import Derived.Deep.QuietTactic
import Derived.BigQuiet
import Derived.Lib.Hide
import Derived.Laws.Bits64b
set_option linter.unusedVariables false
set_option linter.unusedSimpArgs false
namespace Go.Proofs.YtgnhpjakjoaejaaDoor
open Go.RowKit

/-- word's table of widths. -/
def WidAt (w : World) : Prop := ∀ j, j < 4 → w.cell? ⟨1, j, none⟩ = some (.int .i64 (([1, 2, 4, 8] : List Int).getD j 0))
theorem WidAt.chg {L : List Nat} {w w' : World} (h : WidAt w) (hc : Chg L w w') (hL : 1 ∉ L) : WidAt w' := fun j hj => hc.cell_some (h j hj) hL
theorem WidAt.chg0 {w w' : World} (h : WidAt w) (hc : Chg [] w w') : WidAt w' := h.chg hc (by simp)
theorem WidAt.lt {w : World} (h : WidAt w) : 1 < w.heap.size := World.block_lt_of_cell? w ⟨1, 0, none⟩ (h 0 (by decide))
def WidK (k : Nat) : Prop := k = 1 ∨ k = 2 ∨ k = 4 ∨ k = 8
set_option maxHeartbeats 2000000 in
theorem wgood (k : Nat) (hk : WidK k) (w : World) (hT : WidAt w) : Calls Tryd.prog 41 #[.int .i64 (k : Nat)] w fun e w' => e = .returned (.bool true) ∧ w = w' := by
  have c0 : w.cell? ⟨1, 0, none⟩ = some (.int .i64 1) := hT 0 (by decide)
  have c1 : w.cell? ⟨1, 1, none⟩ = some (.int .i64 2) := hT 1 (by decide)
  have c2 : w.cell? ⟨1, 2, none⟩ = some (.int .i64 4) := hT 2 (by decide)
  have c3 : w.cell? ⟨1, 3, none⟩ = some (.int .i64 8) := hT 3 (by decide)
  have x0 : ∀ w, (Instr.index 81 (.agg #[.int .i64 1, .int .i64 2, .int .i64 4, .int .i64 8]) (.int .i64 0)).run Tryd.prog w = .ok (.int .i64 1) w := fun _ => by kernel_rfl
  have x1 : ∀ w, (Instr.index 81 (.agg #[.int .i64 1, .int .i64 2, .int .i64 4, .int .i64 8]) (.int .i64 1)).run Tryd.prog w = .ok (.int .i64 2) w := fun _ => by kernel_rfl
  have x2 : ∀ w, (Instr.index 81 (.agg #[.int .i64 1, .int .i64 2, .int .i64 4, .int .i64 8]) (.int .i64 2)).run Tryd.prog w = .ok (.int .i64 4) w := fun _ => by kernel_rfl
  have x3 : ∀ w, (Instr.index 81 (.agg #[.int .i64 1, .int .i64 2, .int .i64 4, .int .i64 8]) (.int .i64 3)).run Tryd.prog w = .ok (.int .i64 8) w := fun _ => by kernel_rfl
  clear hT
  rcases hk with rfl | rfl | rfl | rfl
  · skip
    go_enter Tryd.func41, Tryd.ntmps41
    go_wp2_with fail
    go_loopw [6] (fun i wr => ∃ j : Nat, j ≤ 0 ∧ i = .int .i64 j ∧ w = wr) (fun i _ => 4 - (intOf i).toNat)
    case atStart => exact ⟨0, by omega, rfl, rfl⟩
    obtain ⟨j, hj, rfl, rfl⟩ := hrel
    obtain rfl : j = 0 := by omega
    go_wp2
    go_ret
    exact ⟨rfl, rfl⟩
  · skip
    go_enter Tryd.func41, Tryd.ntmps41
    go_wp2_with fail
    go_loopw [6] (fun i wr => ∃ j : Nat, j ≤ 1 ∧ i = .int .i64 j ∧ w = wr) (fun i _ => 4 - (intOf i).toNat)
    case atStart => exact ⟨0, by omega, rfl, rfl⟩
    obtain ⟨j, hj, rfl, rfl⟩ := hrel
    have h3 : j = 0 ∨ j = 1 := by omega
    rcases h3 with rfl | rfl
    · skip
      go_wp2
      go_roundw
      case rel => exact ⟨1, by omega, by go_num, trivial⟩
      case measure => simp [intOf]
    · skip
      go_wp2
      go_ret
      exact ⟨rfl, rfl⟩
  · skip
    go_enter Tryd.func41, Tryd.ntmps41
    go_wp2_with fail
    go_loopw [6] (fun i wr => ∃ j : Nat, j ≤ 2 ∧ i = .int .i64 j ∧ w = wr) (fun i _ => 4 - (intOf i).toNat)
    case atStart => exact ⟨0, by omega, rfl, rfl⟩
    obtain ⟨j, hj, rfl, rfl⟩ := hrel
    have h3 : j = 0 ∨ j = 1 ∨ j = 2 := by omega
    rcases h3 with rfl | rfl | rfl
    · skip
      go_wp2
      go_roundw
      case rel => exact ⟨1, by omega, by go_num, trivial⟩
      case measure => simp [intOf]
    · skip
      go_wp2
      go_roundw
      case rel => exact ⟨2, by omega, by go_num, trivial⟩
      case measure => simp [intOf]
    · skip
      go_wp2
      go_ret
      exact ⟨rfl, rfl⟩
  · skip
    go_enter Tryd.func41, Tryd.ntmps41
    go_wp2_with fail
    go_loopw [6] (fun i wr => ∃ j : Nat, j ≤ 3 ∧ i = .int .i64 j ∧ w = wr) (fun i _ => 4 - (intOf i).toNat)
    case atStart => exact ⟨0, by omega, rfl, rfl⟩
    obtain ⟨j, hj, rfl, rfl⟩ := hrel
    have h3 : j = 0 ∨ j = 1 ∨ j = 2 ∨ j = 3 := by omega
    rcases h3 with rfl | rfl | rfl | rfl
    · skip
      go_wp2
      go_roundw
      case rel => exact ⟨1, by omega, by go_num, trivial⟩
      case measure => simp [intOf]
    · skip
      go_wp2
      go_roundw
      case rel => exact ⟨2, by omega, by go_num, trivial⟩
      case measure => simp [intOf]
    · skip
      go_wp2
      go_roundw
      case rel => exact ⟨3, by omega, by go_num, trivial⟩
      case measure => simp [intOf]
    · skip
      go_wp2
      go_ret
      exact ⟨rfl, rfl⟩

/-- One byte more, out of a literal. -/
theorem app_one {w : World} {base : Nat} {A : Option Addr} {n c : Nat} {l : Bs} (h : Ob w base A n c l) (hb : base ≤ w.heap.size) (hn : n ≤ 1000000000) (x : UInt8) :
    ∃ A' c' w', AppR Tryd.prog 34 34 34 (.slice A n c) (.slice (some ⟨w.heap.size, 0, none⟩) 1 1) (w.alloc (.cells #[bv x] 5)) (.slice A' (n + 1) c') w' ∧ Ob w' base A' (n + 1) c' (l ++ [x]) ∧ Chg (sB A) w w' := by
  obtain ⟨A2, c2, w5, hrun, ho5, hc5, _⟩ := (h.chg0 ((Chg.refl [] w).alloc (.cells #[bv x] 5))).app 34 (.slice (some ⟨w.heap.size, 0, none⟩) 1 1) 1 [x] rfl
    (Src.ofSlice _ Tryd.underlying34 ⟨w.heap.size, 0, none⟩ 1 1 _ rfl (fun i u hu => by rw [add_none, Nat.zero_add]; rw [(Blk.new w 5 #[bv x]).cell i, ← Array.getElem?_toList]; exact hu) (bvs_one _)) (by omega) (by simp; omega)
  exact ⟨A2, c2, w5, hrun, ho5, ((Chg.refl (sB A) w).alloc _).trans hc5⟩
theorem byte_at (k v j : Nat) : bv (UInt8.ofNat (v / 256 ^ (k - 1 - j))) = .int .u8 ((v : Int) / 2 ^ (8 * (k - 1 - j)) % 256) := by
  have e : (2 : Int) ^ (8 * (k - 1 - j)) = ((256 ^ (k - 1 - j) : Nat) : Int) := by rw [Int.pow_mul]; simp
  unfold bv
  rw [e, Ac.toNat_ofNat]
  simp
theorem be_take (k v i : Nat) (h : i < k) : (Ac.be k v).take (i + 1) = (Ac.be k v).take i ++ [UInt8.ofNat (v / 256 ^ (k - 1 - i))] := by
  have : ∀ (k i : Nat), i < k → (Ac.be k v)[i]? = some (UInt8.ofNat (v / 256 ^ (k - 1 - i))) := by
    intro k
    induction k with
    | zero => intro i h; omega
    | succ k ih =>
      intro i h
      cases i with
      | zero => simp [Ac.be]
      | succ i => rw [Ac.be, List.getElem?_cons_succ, ih i (by omega)]; congr 4; omega
  rw [List.take_add_one, this k i h]
  rfl
set_option maxRecDepth 100000 in
set_option maxHeartbeats 2000000 in
theorem put_any (k : Nat) (hk : WidK k) (v : Nat) (hv : v < 18446744073709551616) (w : World) (hT : WidAt w) (A : Option Addr) (n c : Nat) (l : Bs) (hl : Bt w A n c l) (hn : n ≤ 1000000) :
    Calls Tryd.prog 24 #[.slice A n c, .int .i64 (k : Nat), .int .u64 (v : Nat)] w fun e w' => ∃ A' n' c', e = .returned (.slice A' n' c') ∧ Ob w' w.heap.size A' n' c' (l ++ Ac.be k v) ∧ Chg [] w w' := by
  have hk8 : 1 ≤ k ∧ k ≤ 8 := by rcases hk with rfl | rfl | rfl | rfl <;> omega
  have hmk := make_bytes n (n + 8) (by omega) (by omega) w
  have e8 : ((n + 8 : Nat) : Int) = (n : Int) + 8 := by omega
  rw [e8] at hmk
  have h0 : Ob (w.alloc (.cells (bvs (List.replicate (n + 8) 0)).toArray 5)) w.heap.size (some ⟨w.heap.size, 0, none⟩) n (n + 8) (List.replicate n 0) := by
    have := (OwnS.lit w w.heap.size (Nat.le_refl _) 5 1 (n + 8) (bvs (List.replicate (n + 8) 0)) (by rw [bvs_len, List.length_replicate, Nat.mul_one]) (by unfold maxLen; omega)).take (k := n) (by omega)
    rw [Nat.mul_one, ← bvs_take, List.take_replicate, Nat.min_eq_left (by omega)] at this
    exact ⟨by rw [List.length_replicate], this⟩
  obtain ⟨w2, hcp, ho2, hc2⟩ := copy_bytes h0 3 A c l (hl.chg0 ((Chg.refl [] w).alloc _))
  have HC := Lib.hid (And.intro ho2 (((Chg.refl [] w).alloc _).then_ hc2 (fun b hb => by simp at hb; subst hb; exact .inr (Nat.le_refl _))))
  have HT := Lib.hid hT
  have HL := Lib.hid (And.intro hl.len hk)
  have HV := Lib.hid hv
  clear h0 ho2 hc2 hT hl hk e8 hv
  obtain ⟨Z, hZ⟩ : ∃ Z, Z = (bvs (List.replicate (n + 8) 0)).toArray := ⟨_, rfl⟩
  rw [← hZ] at hmk hcp
  clear hZ
  go_enter Tryd.func24, Tryd.ntmps24
  go_wp2_with (refine wpList_copyR (by rfl) _ _ _ _ (by rfl) _ _ _ _ (by rfl) (by rfl) hcp ?_)
  refine (wgood k HL.out.2 w2 (HT.out.chg0 HC.out.2)).mono ?_
  rintro e w' ⟨rfl, rfl⟩
  go_wp2_with fail
  go_loopw [7, 23] (fun x i wr => ∃ (j : Nat) (A' : Option Addr) (n' c' : Nat), j ≤ k ∧ i = .int .i64 j ∧ x = .slice A' n' c' ∧ Ob wr w.heap.size A' n' c' (l ++ (Ac.be k v).take j) ∧ Chg [] w wr) (fun _ i _ => k - (intOf i).toNat)
  case atStart => exact ⟨0, _, _, _, by omega, rfl, rfl, by simpa using HC.out.1, HC.out.2⟩
  case round =>
    obtain ⟨j, A', n', c', hj, rfl, rfl, ho, hc⟩ := hrel
    have HO := Lib.hid (And.intro ho hc)
    clear ho hc
    by_cases hlt : j < k
    · have hsz := HO.out.2.size
      have hn' : n' ≤ 1000008 := by
        have h1 := HO.out.1.len
        rw [List.length_append, List.length_take, Ac.be_len] at h1
        have := HL.out.1
        omega
      obtain ⟨A2, c2, w5, hrun, ho5, hc5⟩ := app_one HO.out.1 hsz (by omega) (UInt8.ofNat (v / 256 ^ (k - 1 - j)))
      have HR := Lib.hid (And.intro ho5 (HO.out.2.then_ hc5 (fun b hb => .inr (HO.out.1.own.ge b hb))))
      rw [byte_at] at hrun
      clear ho5 hc5 hsz
      go_wp2_with (at_builtin; refine wpList_appR (by rfl) _ _ _ _ (by rfl) _ _ _ _ (by rfl) (by rfl) hrun ?_)
      go_roundw
      case rel => exact ⟨j + 1, _, _, _, by omega, by go_num, rfl, by rw [be_take k v j hlt, ← List.append_assoc]; exact HR.out.1, HR.out.2⟩
      case measure => simp [intOf]; omega
    · obtain rfl : k = j := by omega
      go_wp2
      go_ret
      have := HO.out.1
      rw [List.take_of_length_le (by rw [Ac.be_len]; omega)] at this
      exact ⟨_, _, _, rfl, this, HO.out.2⟩

theorem or_step (v b : Nat) (hv : v * 256 < 18446744073709551616) (hb : b < 256) : bits .or .u64 (IntKind.u64.wrap ((v : Int) * 256)) (IntKind.u64.wrap (b : Int)) = ((v * 256 + b : Nat) : Int) := by
  have e1 : IntKind.u64.wrap ((v : Int) * 256) = ((v * 256 : Nat) : Int) := by rw [IntKind.wrap_u64]; omega
  have e2 : IntKind.u64.wrap (b : Int) = (b : Int) := by rw [IntKind.wrap_u64]; omega
  rw [e1, e2, bits_or_u64_nat _ _ hv (by omega)]
  have := Nat.two_pow_add_eq_or_of_lt (i := 8) hb v
  rw [show v * 256 = 2 ^ 8 * v by omega, this]
theorem val_step {n k j : Nat} {l : Bs} {b : UInt8} (hn : n = l.length) (hk : k ≤ 8) (hj : j < k) (hb : l[j]? = some b) : bits .or .u64 (IntKind.u64.wrap (((Ac.val (l.take j) : Nat) : Int) * 256)) (IntKind.u64.wrap (b.toNat : Int)) = ((Ac.val (l.take (j + 1)) : Nat) : Int) := by
  have h1 : Ac.val (l.take (j + 1)) = Ac.val (l.take j) * 256 + b.toNat := by rw [List.take_add_one, hb]; exact Ac.val_snoc _ _
  have h2 := Ac.val_lt (l.take j)
  have h3 : (l.take j).length ≤ 7 := by rw [List.length_take]; omega
  have h4 : 256 ^ (l.take j).length ≤ 256 ^ 7 := Nat.pow_le_pow_right (by decide) h3
  rw [h1, or_step _ _ (by omega) b.toNat_lt]
set_option maxRecDepth 100000 in
set_option maxHeartbeats 2000000 in
theorem get_any (k : Nat) (hk : WidK k) (w : World) (hT : WidAt w) (A : Option Addr) (n c : Nat) (l : Bs) (hl : Bt w A n c l) (hn : n ≤ 1000000) :
    Calls Tryd.prog 32 #[.slice A n c, .int .i64 (k : Nat)] w fun e w' => e = .returned (.tuple #[.int .u64 ((Ac.numR k (some l)).1 : Nat), .bool (decide (k ≤ n))]) ∧ w = w' := by
  have hk8 : 1 ≤ k ∧ k ≤ 8 := by rcases hk with rfl | rfl | rfl | rfl <;> omega
  have HT := Lib.hid hT
  have HL := Lib.hid (And.intro hl hk)
  have hln := hl.len
  by_cases h : k ≤ n
  · have t1 : decide ((n : Int) < (k : Int)) = false := decide_eq_false (by omega)
    have t2 : decide (n < k) = false := decide_eq_false (by omega)
    have e1 : (Ac.numR k (some l)).1 = Ac.val (l.take k) := by unfold Ac.numR; simp only; rw [if_pos (by omega)]
    rw [e1, decide_eq_true h]
    have HN := Lib.hid hln
    clear hT hl hk hln e1
    go_enter Tryd.func32, Tryd.ntmps32
    go_wp2_with fail
    refine (wgood k HL.out.2 w HT.out).mono ?_
    rintro e w' ⟨rfl, rfl⟩
    go_wp2_with fail
    go_loopw [6, 18] (fun x i wr => ∃ j : Nat, j ≤ k ∧ i = .int .i64 j ∧ x = .int .u64 (Ac.val (l.take j) : Nat) ∧ w = wr) (fun _ i _ => k - (intOf i).toNat)
    case atStart => exact ⟨0, by omega, rfl, rfl, rfl⟩
    case round =>
      obtain ⟨j, hj, rfl, rfl, rfl⟩ := hrel
      by_cases hlt : j < k
      · obtain ⟨b, hb⟩ : ∃ b, l[j]? = some b := ⟨_, List.getElem?_eq_getElem (by have := HN.out; omega)⟩
        obtain ⟨a, rfl, hcell⟩ := HL.out.1.cell hb
        have HB := Lib.hid hb
        have i1 : (0 : Int) ≤ (j : Int) := by omega
        have i2 : (j : Int) < (n : Int) := by omega
        unfold bv at hcell
        clear hb
        have hv := val_step (k := k) HL.out.1.len (by omega) (by omega) HB.out
        have HV := Lib.hid hv
        clear hv
        go_wp2_with fail
        go_roundw
        case rel => exact ⟨j + 1, by omega, by go_num, by rw [HV.out], trivial⟩
        case measure => simp [intOf]; omega
      · obtain rfl : k = j := by omega
        go_wp2
        go_ret2
        exact ⟨rfl, rfl⟩
  · have t1 : decide ((n : Int) < (k : Int)) = true := decide_eq_true (by omega)
    have t2 : decide (n < k) = true := decide_eq_true (by omega)
    have e1 : (Ac.numR k (some l)).1 = 0 := by unfold Ac.numR; simp only; rw [if_neg (by omega)]
    rw [e1, decide_eq_false h]
    clear hT hl hk hln e1
    go_enter Tryd.func32, Tryd.ntmps32
    go_wp2_with fail
    refine (wgood k HL.out.2 w HT.out).mono ?_
    rintro e w' ⟨rfl, rfl⟩
    go_wp2
    go_ret2
    exact ⟨rfl, rfl⟩
end Go.Proofs.YtgnhpjakjoaejaaDoor
