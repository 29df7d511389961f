/- Ranges in memory; sort.Search; near. -/
import Derived.Test.YthgejgfdpmbpaaaProg
import Derived.Test.YthgejgfdpmbpaaaLChg
import Derived.WalkSpells
import Derived.RegionTactic
import Derived.ChangeAlike
import Derived.Laws.Rows
import Derived.Deep.LoopGhost
import Derived.Lib.Hide
import Derived.Deep.RegionHeld3
set_option linter.unusedVariables false
set_option linter.unusedSimpArgs false
namespace Go.Proofs.Ythgejgfdpmbpaaa
open Go.RowKit

abbrev Rng := Nat × Nat
def rngV (r : Rng) : List Value := [.int .u64 (r.1 : Nat), .int .u64 (r.2 : Nat)]
def cellsR (R : List Rng) : List Value := R.flatMap rngV
theorem cellsR_len (R : List Rng) : (cellsR R).length = R.length * 2 := by
  induction R with
  | nil => rfl
  | cons r R ih => simp only [cellsR, List.flatMap_cons, List.length_append, rngV, List.length_cons, List.length_nil] at ih ⊢; omega
theorem cellsR_append (A B : List Rng) : cellsR (A ++ B) = cellsR A ++ cellsR B := by simp [cellsR]
theorem cellsR_cons (r : Rng) (R : List Rng) : cellsR (r :: R) = .int .u64 (r.1 : Nat) :: .int .u64 (r.2 : Nat) :: cellsR R := rfl
theorem cellsR_lo : ∀ (R : List Rng) (i : Nat) (r : Rng), R[i]? = some r → (cellsR R)[i * 2]? = some (.int .u64 (r.1 : Nat)) ∧ (cellsR R)[i * 2 + 1]? = some (.int .u64 (r.2 : Nat))
  | [], i, r, h => by simp at h
  | x :: R, 0, r, h => by simp at h; subst h; exact ⟨rfl, rfl⟩
  | x :: R, i + 1, r, h => by
    have := cellsR_lo R i r (by simpa using h)
    rw [cellsR_cons, show (i + 1) * 2 = i * 2 + 1 + 1 by omega]
    simpa using this
theorem cellsR_one (R : List Rng) : ∀ u ∈ cellsR R, u.oneCell' = true := by
  intro u hu
  simp only [cellsR, List.mem_flatMap, rngV] at hu
  obtain ⟨r, _, hr⟩ := hu
  simp at hr
  rcases hr with rfl | rfl <;> rfl
theorem cellsR_take (R : List Rng) (k : Nat) : (cellsR R).take (k * 2) = cellsR (R.take k) := by
  by_cases h : k ≤ R.length
  · have e : R = R.take k ++ R.drop k := (List.take_append_drop k R).symm
    have hl : (cellsR (R.take k)).length = k * 2 := by rw [cellsR_len, List.length_take]; omega
    calc (cellsR R).take (k * 2) = (cellsR (R.take k ++ R.drop k)).take (k * 2) := by rw [← e]
      _ = cellsR (R.take k) := by rw [cellsR_append, ← hl, List.take_left]
  · rw [List.take_of_length_le (by rw [cellsR_len]; omega), List.take_of_length_le (by omega)]
theorem cellsR_drop (R : List Rng) (k : Nat) : (cellsR R).drop (k * 2) = cellsR (R.drop k) := by
  by_cases h : k ≤ R.length
  · have e : R = R.take k ++ R.drop k := (List.take_append_drop k R).symm
    have hl : (cellsR (R.take k)).length = k * 2 := by rw [cellsR_len, List.length_take]; omega
    calc (cellsR R).drop (k * 2) = (cellsR (R.take k ++ R.drop k)).drop (k * 2) := by rw [← e]
      _ = cellsR (R.drop k) := by rw [cellsR_append, ← hl, List.drop_left]
  · rw [List.drop_of_length_le (by rw [cellsR_len]; omega), List.drop_of_length_le (by omega)]; rfl

/-- The cells of a row of ranges. -/
def RowAt (w : World) (A : Option Addr) (cap : Nat) (R : List Rng) : Prop :=
  (A = none ∧ R = [] ∧ cap = 0) ∨ ∃ b, A = some ⟨b, 0, none⟩ ∧ b < w.heap.size ∧ R.length ≤ cap ∧ (∀ j u, (cellsR R)[j]? = some u → w.cell? ⟨b, j, none⟩ = some u) ∧ ∃ cs, w.heap[b]? = some (.cells cs 64 (0, 0))
def rowIn (A : Option Addr) (L : List Nat) : Prop := ∀ b, A = some ⟨b, 0, none⟩ → b ∉ L
theorem RowAt.chg {L : List Nat} {w w' : World} {A : Option Addr} {cap : Nat} {R : List Rng} (h : RowAt w A cap R) (hc : Chg L w w') (hn : rowIn A L) : RowAt w' A cap R := by
  rcases h with h | ⟨b, rfl, hb, hl, hx, cs, hty⟩
  · exact .inl h
  · exact .inr ⟨b, rfl, Nat.lt_of_lt_of_le hb hc.size, hl, fun j u hu => hc.cell_some (hx j u hu) (hn b rfl), cs, (hc.block b hb (hn b rfl)).trans hty⟩
theorem RowAt.chg0 {w w' : World} {A : Option Addr} {cap : Nat} {R : List Rng} (h : RowAt w A cap R) (hc : Chg [] w w') : RowAt w' A cap R := h.chg hc fun _ _ => by simp
theorem RowAt.at_ {w : World} {A : Option Addr} {cap : Nat} {R : List Rng} (h : RowAt w A cap R) {i : Nat} (hi : i < R.length) :
    ∃ b, A = some ⟨b, 0, none⟩ ∧ R.length ≤ cap ∧ w.cell? ⟨b, i * 2, none⟩ = some (.int .u64 (R[i].1 : Nat)) ∧ w.cell? ⟨b, i * 2 + 1, none⟩ = some (.int .u64 (R[i].2 : Nat)) := by
  rcases h with ⟨_, rfl, _⟩ | ⟨b, rfl, hb, hl, hx, _⟩
  · simp at hi
  · have := cellsR_lo R i R[i] (List.getElem?_eq_getElem hi)
    exact ⟨b, rfl, hl, hx _ _ this.1, hx _ _ this.2⟩

/-- A set as New makes it. -/
structure SetAt (w : World) (p : Nat) (R : List Rng) : Prop where
  row : ∃ A cap, Blk w p 80 #[.slice A R.length cap, .bool true] ∧ RowAt w A cap R ∧ rowIn A [p]
theorem SetAt.chg {w w' : World} {p : Nat} {R : List Rng} (h : SetAt w p R) (hc : Chg [] w w') : SetAt w' p R := by
  obtain ⟨A, cap, h1, h2, h3⟩ := h
  exact ⟨A, cap, h1.chg hc (by simp), h2.chg0 hc, h3⟩
/-- Another set has changed. -/
theorem SetAt.other {w w' : World} {p q : Nat} {R S : List Rng} (h : SetAt w p R) (k : SetAt w q S) (hne : p ≠ q) (hc : Chg [q] w w') : SetAt w' p R := by
  obtain ⟨A, cap, h1, h2, h3⟩ := h
  obtain ⟨B, cap', k1, _⟩ := k
  refine ⟨A, cap, h1.chg hc (by simpa using hne), h2.chg hc ?_, h3⟩
  intro b hb hm
  rcases h2 with ⟨h0, _⟩ | ⟨b', hb', _, _, _, cs, hty⟩
  · rw [h0] at hb; cases hb
  · rw [hb'] at hb
    cases hb
    simp at hm
    subst hm
    unfold Blk at k1
    rw [hty] at k1
    injection k1 with k1
    injection k1 with _ k2
    cases k2
theorem SetAt.lt {w : World} {p : Nat} {R : List Rng} (h : SetAt w p R) : p < w.heap.size := by
  obtain ⟨A, cap, h1, _⟩ := h
  exact h1.lt

theorem new_any (w : World) : Calls Try.prog 24 #[] w fun e w' => e = .returned (.pointer (some ⟨w.heap.size, 0, none⟩)) ∧ SetAt w' w.heap.size [] ∧ Chg [] w w' := by
  go_enter Try.func24, Try.ntmps24
  go_wp2
  go_ret
  exact ⟨rfl, ⟨_, _, Blk.new _ _ _, .inl ⟨rfl, rfl, rfl⟩, fun _ h => by cases h⟩, (Chg.refl _ _).alloc _⟩
theorem ranges_any (w : World) (p : Nat) (v b : Value) (h : Blk w p 80 #[v, b]) (hv : ∃ A l c, v = .slice A l c) : Calls Try.prog 44 #[.pointer (some ⟨p, 0, none⟩)] w fun e w' => e = .returned v ∧ w = w' := by
  obtain ⟨A, l, c, rfl⟩ := hv
  have h0 := h.cell 0
  simp only [List.getElem?_toArray, List.getElem?_cons_succ, List.getElem?_cons_zero] at h0
  clear h
  go_enter Try.func44, Try.ntmps44
  go_wp2
  go_ret
  exact ⟨rfl, rfl⟩

/-- How many places below n are still false: the count. -/
theorem search_any (g : Nat) (cb : Array Value) (n cnt : Nat) (p : Nat → Bool) (w : World) (eg : ∀ args w, (callFunc g args).run Try.prog w = .ok (.enter g args) w) (hsz : n < 4611686018427387904)
    (hf : ∀ (W : World) (i : Nat), Chg [] w W → i < n → Calls Try.prog g (#[.int .i64 i] ++ cb) W fun e w' => e = .returned (.bool (p i)) ∧ Chg [] W w')
    (hcn : cnt ≤ n) (hlo : ∀ t, t < cnt → p t = false) (hhi : ∀ t, cnt ≤ t → t < n → p t = true) :
    Calls Try.prog 49 #[.int .i64 n, .func (.func g) #[] cb] w fun e w' => e = .returned (.int .i64 (cnt : Nat)) ∧ Chg [] w w' := by
  have HF := Lib.hid hf
  have HL := Lib.hid hlo
  have HH := Lib.hid hhi
  have CN := Lib.hid hcn
  clear hf hlo hhi hcn
  go_enter Try.func49, Try.ntmps49
  go_wp2
  go_loopg [5, 6] n (fun kx s5 s6 wr => ∃ (lo hi : Nat), s5 = .int .i64 lo ∧ s6 = .int .i64 hi ∧ lo ≤ hi ∧ hi ≤ n ∧ hi - lo ≤ kx ∧ Chg [] w wr ∧ Hid (lo ≤ cnt ∧ cnt ≤ hi))
  case atStart => exact ⟨0, n, rfl, rfl, Nat.zero_le _, Nat.le_refl _, by omega, Chg.refl _ _, (⟨Nat.zero_le _, CN.out⟩ : 0 ≤ cnt ∧ cnt ≤ n)⟩
  case round =>
    obtain ⟨lo, hi, rfl, rfl, hlh, hin, hg, hcg, I⟩ := hrel
    have HC := Lib.hid hcg
    clear hcg
    by_cases hlt : lo < hi
    · have hc := HF.out wr ((lo + hi) / 2) HC.out (by omega)
      rw [show (((lo + hi) / 2 : Nat) : Int) = ((lo : Int) + (hi : Int)) / 2 by omega] at hc
      cases hp : p ((lo + hi) / 2) <;> rw [hp] at hc
      · have HP := Lib.hid hp
        clear hp
        go_wp2_with (refine hc.mono ?_; rintro e w' ⟨rfl, hcw⟩; have HW := Lib.hid hcw; clear hcw)
        go_roundg (hi - ((lo + hi) / 2 + 1))
        case measure => omega
        case rel =>
          have I2 : Hid ((lo + hi) / 2 + 1 ≤ cnt ∧ cnt ≤ hi) := by
            have hI := I.out
            refine (⟨?_, hI.2⟩ : (lo + hi) / 2 + 1 ≤ cnt ∧ cnt ≤ hi)
            rcases Nat.lt_or_ge ((lo + hi) / 2) cnt with h | h
            · omega
            · have := HH.out ((lo + hi) / 2) h (by omega); rw [HP.out] at this; cases this
          exact ⟨(lo + hi) / 2 + 1, hi, by rw [show ((lo : Int) + (hi : Int)) / 2 + 1 = (((lo + hi) / 2 + 1 : Nat) : Int) by omega], rfl, by omega, hin, Nat.le_refl _, HC.out.trans HW.out, I2⟩
      · have HP := Lib.hid hp
        clear hp
        go_wp2_with (refine hc.mono ?_; rintro e w' ⟨rfl, hcw⟩; have HW := Lib.hid hcw; clear hcw)
        go_roundg ((lo + hi) / 2 - lo)
        case measure => omega
        case rel =>
          have I2 : Hid (lo ≤ cnt ∧ cnt ≤ (lo + hi) / 2) := by
            have hI := I.out
            refine (⟨hI.1, ?_⟩ : lo ≤ cnt ∧ cnt ≤ (lo + hi) / 2)
            rcases Nat.lt_or_ge ((lo + hi) / 2) cnt with h | h
            · have := HL.out ((lo + hi) / 2) h; rw [HP.out] at this; cases this
            · exact h
          exact ⟨lo, (lo + hi) / 2, rfl, by rw [show ((lo : Int) + (hi : Int)) / 2 = (((lo + hi) / 2 : Nat) : Int) by omega], by omega, by omega, Nat.le_refl _, HC.out.trans HW.out, I2⟩
    · obtain rfl : hi = lo := by omega
      obtain rfl : cnt = hi := by have := I.out; omega
      go_wp2
      go_ret
      exact ⟨rfl, HC.out⟩
end Go.Proofs.Ythgejgfdpmbpaaa
