/- Package window: Ack whatever the number; the law package's num. -/
import Derived.Test.YtapjegjffgjmlaaDoorWinAr
set_option linter.unusedVariables false
set_option linter.unusedSimpArgs false
namespace Go.Proofs.YtapjegjffgjmlaaDoor
open Go.RowKit

open Classical in
noncomputable def ackK (s : WS) (num : Int) : Nat := if ackNo s num then 0 else (farZ s.base num).toNat
open Classical in
noncomputable def ackS (s : WS) (num : Int) (m : Nat) : WS := if ackNo s num then s else s.ack (farZ s.base num).toNat num m
theorem ack_yes_of {s : WS} {num : Int} (h : ¬ ackNo s num) : ∃ n : Nat, farZ s.base num = (n : Int) ∧ n ≤ s.size ∧ (∀ i, i < n → 0 < (s.f i).1) := by
  refine ⟨(farZ s.base num).toNat, ?_, ?_, fun i hi => ?_⟩
  · have : ¬ farZ s.base num < 0 := fun hh => h (.inl hh)
    omega
  · have : ¬ (s.size : Int) < farZ s.base num := fun hh => h (.inr (.inl hh))
    omega
  · rcases Nat.eq_zero_or_pos (s.f i).1 with h0 | h0
    · exact absurd (Or.inr (Or.inr ⟨i, by omega, h0⟩)) h
    · exact h0
theorem WSt.ackAny {w0 w : World} {p : Nat} {s : WS} (h : WSt w0 w p s) (hL : Laid w0) (num : Int) (m : Nat) (hm : m < 18446744073709551616) (h0 : 0 ≤ num) (h1 : num < 65536) :
    Calls Tryd.prog 11 #[.pointer (some ⟨p, 0, none⟩), .int .u16 num, .int .u64 (m : Nat)] w fun e w' => e = .returned (.int .i64 (ackK s num : Nat)) ∧ WSt w0 w' p (ackS s num m) ∧ Chg [p] w w' := by
  unfold ackK ackS
  by_cases hn : Go.Proofs.YtapjegjffgjmlaaDoor.ackNo s num
  · rw [if_pos hn, if_pos hn]
    exact (h.ackNo num m hn).mono fun _ _ ⟨he, hw, hc⟩ => ⟨he, hw, hc.mono (by simp)⟩
  · rw [if_neg hn, if_neg hn]
    obtain ⟨n, e, h2, h3⟩ := ack_yes_of hn
    have : (farZ s.base num).toNat = n := by omega
    rw [this]
    exact h.ack hL num m n hm e h2 h3 h0 h1
theorem ackK_le {s : WS} (num : Int) : ackK s num ≤ s.size := by
  unfold ackK
  split
  · omega
  · rename_i h
    obtain ⟨n, e, h2, _⟩ := ack_yes_of h
    omega
theorem ackK_far {s : WS} (num : Int) (m : Nat) (h : 0 < ackK s num) : farZ s.base (ackS s num m).base = (ackK s num : Nat) := by
  unfold ackK ackS at *
  by_cases hn : ackNo s num
  · rw [if_pos hn] at h; omega
  · rw [if_neg hn, if_neg hn]
    obtain ⟨n, e, _, _⟩ := ack_yes_of hn
    show farZ s.base num = _
    omega
theorem ackS_size (s : WS) (num : Int) (m : Nat) : (ackS s num m).size = s.size := by unfold ackS; split <;> rfl

/-- Which number an Ack says. -/
def numOf (y : WAct) (b : Int) : Int := if y.kind = 2 then (b + y.num % 40) % 65536 else y.num
theorem numOf_bd {y : WAct} (hy : y.Wf) (b : Int) : 0 ≤ numOf y b ∧ numOf y b < 65536 := by
  unfold numOf
  have := hy.num0
  have := hy.num1
  split <;> omega
theorem num_any (y : WAct) (hy : y.Wf) (b : Int) (h0 : 0 ≤ b) (h1 : b < 65536) (w : World) :
    Calls Tryd.prog 17 #[.agg #[.int .i64 y.kind, .int .i64 y.hv, .int .i64 y.now, .int .u16 y.num, .int .u64 (y.mask : Nat)], .int .u16 b] w fun e w' => e = .returned (.int .u16 (numOf y b)) ∧ Chg [] w w' := by
  have n0 := hy.num0
  have n1 := hy.num1
  unfold numOf
  by_cases hk : y.kind = 2
  · rw [if_pos hk]
    have t1 : (y.kind == 2) = true := by simpa using hk
    clear hk
    have hq : ∀ q : IntKind, q = .u16 → q.wrap (b + y.num % 40) = (b + y.num % 40) % 65536 := fun q hq => by rw [hq, IntKind.wrap_u16]
    go_enter Tryd.func17, Tryd.ntmps17
    go_wp2
    go_ret
    exact ⟨rfl, (Chg.refl [] w).alloc _⟩
  · rw [if_neg hk]
    have t1 : (y.kind == 2) = false := by simpa using hk
    clear hk
    go_enter Tryd.func17, Tryd.ntmps17
    go_wp2
    go_ret
    exact ⟨rfl, (Chg.refl [] w).alloc _⟩

/-! ### What a Send hands back -/
theorem sends_at (s : WS) (hv now : Int) {i v : Nat} (h : (s.sends hv now)[i]? = some v) : v < s.size ∧ (v : Int) < hv := by
  have hm : v ∈ s.sends hv now := List.mem_of_getElem? h
  unfold WS.sends sentL sendK at hm
  rw [List.mem_filter, List.mem_range] at hm
  omega
theorem range_filter_sorted (p : Nat → Bool) (k : Nat) : ((List.range k).filter p).Pairwise (· < ·) := (List.pairwise_lt_range (n := k)).filter p
theorem sends_rise (s : WS) (hv now : Int) {i u v : Nat} (h1 : (s.sends hv now)[i]? = some u) (h2 : (s.sends hv now)[i + 1]? = some v) : u < v := by
  have hp : (s.sends hv now).Pairwise (· < ·) := range_filter_sorted _ _
  obtain ⟨a1, e1⟩ := List.getElem?_eq_some_iff.1 h1
  obtain ⟨a2, e2⟩ := List.getElem?_eq_some_iff.1 h2
  have := List.pairwise_iff_getElem.1 hp i (i + 1) a1 a2 (by omega)
  omega
theorem sends_len (s : WS) (hv now : Int) : (s.sends hv now).length ≤ s.size := by
  unfold WS.sends
  have := sentL_le s (nowN now) (sendK s hv)
  unfold sendK at this ⊢
  omega
end Go.Proofs.YtapjegjffgjmlaaDoor
