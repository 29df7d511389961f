/- WindowAgain: a place that is not there is sent again as soon as its time is over, and not ahead of it. -/
import Derived.Test.YtapjegjffgjmlaaDoorWinAr
import Derived.Test.YtapjegjffgjmlaaDoorWinUn
set_option linter.unusedVariables false
set_option linter.unusedSimpArgs false
namespace Go.Proofs.YtapjegjffgjmlaaDoor.windowAgain
open Go.RowKit Go.Shelf Go.Proofs.YtapjegjffgjmlaaDoor

set_option maxRecDepth 100000 in
set_option maxHeartbeats 4000000 in
theorem core (a b c d : Nat) (ha : a < 18446744073709551616) (hb : b < 18446744073709551616) (hc : c < 18446744073709551616) (hd : d < 18446744073709551616) (W : World) (hL : Laid W) :
    Calls Tryd.prog 3 #[.agg #[.int .u64 (a : Nat), .int .u64 (b : Nat), .int .u64 (c : Nat)], .int .u64 (d : Nat)] W fun e w' => e = .returned (.bool true) ∧ Chg [] W w' := by
  have HL := Lib.hid hL
  clear hL
  obtain ⟨n, hn⟩ : ∃ n : Nat, 1 + (a : Int) % 32 = (n : Int) := ⟨1 + a % 32, by omega⟩
  obtain ⟨t, ht⟩ : ∃ n : Nat, 1 + (b : Int) % 50 = (n : Int) := ⟨1 + b % 50, by omega⟩
  obtain ⟨h, hh⟩ : ∃ n : Nat, (c : Int) % 40 = (n : Int) := ⟨c % 40, by omega⟩
  obtain ⟨at_, hat⟩ : ∃ n : Nat, (d : Int) % 1000 = (n : Int) := ⟨d % 1000, by omega⟩
  have n1 : 1 ≤ n := by omega
  have n2 : n ≤ 32 := by omega
  have t1 : 1 ≤ t := by omega
  have t2 : t ≤ 50 := by omega
  have h1 : h < 40 := by omega
  have a1 : at_ < 1000 := by omega
  have HV := Lib.hid (And.intro hn (And.intro ht (And.intro hh hat)))
  clear hn ht hh hat
  obtain ⟨wt, hwt⟩ : ∃ wt, wt = min h n := ⟨_, rfl⟩
  have w1 : wt ≤ 32 := by omega
  have F := And.intro (send_first n t 0 0 h at_ (by omega)) (And.intro (send_early n t 0 (at_ + 1) h (at_ + t - 1) (by omega) (by omega) (by omega)) (And.intro (send_late n t 0 (at_ + 1) h (at_ + t) (by omega) (by omega)) (And.intro (send_early n t 0 (at_ + t + 1) h at_ (by omega) (by omega) (by omega)) (send_first n t (wt : Nat) 0 h (at_ + t) (by omega)))))
  rw [← hwt] at F
  have HF := Lib.hid F
  have HO := Lib.hid (And.intro (open_wu n t 0 wt (at_ + 1) (by omega) w1) (And.intro (show farZ (wu n t 0 wt (at_ + t + 1)).base (wt : Nat) = ((wt : Nat) : Int) by have := far_small 0 wt (by omega); rwa [Nat.zero_add] at this) (And.intro (show wt ≤ (wu n t 0 wt (at_ + t + 1)).size by show wt ≤ n; omega) (sent_wu n t 0 wt (at_ + t + 1) (by omega)))))
  have HAT1 : Hid (((at_ : Int) + (t : Int) - 1) = ((at_ + t - 1 : Nat) : Int)) := Lib.hid (by omega)
  have HAT2 : Hid (((at_ : Int) + (t : Int)) = ((at_ + t : Nat) : Int)) := Lib.hid (by omega)
  have hgt : wt = h ∨ wt = n := by omega
  have HGT := Lib.hid hwt
  clear F hwt
  go_enter Tryd.func3, Tryd.ntmps3
  go_wp2_with fail
  go_quiet (fail)
  go_wp2_with fail
  rw [HV.out.1, HV.out.2.1, HV.out.2.2.1, HV.out.2.2.2]
  have hc0 := ((Chg.refl [] W).alloc (.cells #[.int .u64 (a : Nat), .int .u64 (b : Nat), .int .u64 (c : Nat)] 24)).drewN nq
  generalize (W.alloc (.cells #[.int .u64 (a : Nat), .int .u64 (b : Nat), .int .u64 (c : Nat)] 24)).drewN nq = wz at *
  refine (WSt.new W wz hc0 n t n1 n2 t1 (by omega)).mono ?_
  rintro e w1 ⟨rfl, hs, _⟩
  obtain ⟨p, hp⟩ : ∃ p, p = wz.heap.size := ⟨_, rfl⟩
  rw [← hp, new_wu] at hs
  rw [← hp]
  have H1 := Lib.hid hs
  clear hs hp hc0 ha hb hc hd
  by_cases hlt : n < h
  · obtain rfl : n = wt := by have := HGT.out; omega
    have x1 : decide ((n : Int) < (h : Int)) = true := decide_eq_true (by omega)
    have x2 : decide (n < h) = true := decide_eq_true hlt
    go_wp2_with fail
    refine (H1.out.send h at_).mono ?_
    rintro e w2 ⟨_, _, rfl, _, hs, _, _⟩
    rw [HF.out.1.2] at hs
    rw [show (wu n t 0 0 0).sends h at_ = List.range n from HF.out.1.1]
    have H2 := Lib.hid hs
    clear hs
    rw [List.length_range]
    go_wp2_with fail
    refine (H2.out.open_).mono ?_
    rintro e w3 ⟨rfl, hs, _⟩
    rw [HO.out.1]
    have H3 := Lib.hid hs
    clear hs
    go_wp2_with fail
    rw [HAT1.out]
    go_wp2_with fail
    refine (H3.out.send h ((at_ + t - 1 : Nat) : Int)).mono ?_
    rintro e w4 ⟨_, _, rfl, _, hs, _, _⟩
    rw [HF.out.2.1.2] at hs
    rw [HF.out.2.1.1]
    have H4 := Lib.hid hs
    clear hs
    go_wp2_with fail
    rw [HAT2.out]
    go_wp2_with fail
    refine (H4.out.send h ((at_ + t : Nat) : Int)).mono ?_
    rintro e w5 ⟨_, _, rfl, _, hs, _, _⟩
    rw [HF.out.2.2.1.2] at hs
    rw [HF.out.2.2.1.1]
    have H5 := Lib.hid hs
    clear hs
    rw [List.length_range]
    go_wp2_with fail
    refine (H5.out.send h at_).mono ?_
    rintro e w6 ⟨_, _, rfl, _, hs, _, _⟩
    rw [HF.out.2.2.2.1.2] at hs
    rw [HF.out.2.2.2.1.1]
    have H6 := Lib.hid hs
    clear hs
    go_wp2_with fail
    refine (H6.out.ack HL.out (n : Nat) 0 n (by decide) HO.out.2.1 HO.out.2.2.1 HO.out.2.2.2 (by omega) (by omega)).mono ?_
    rintro e w7 ⟨rfl, hs, _⟩
    rw [ack_wu] at hs
    have H7 := Lib.hid hs
    clear hs
    go_wp2_with fail
    refine (H7.out.open_).mono ?_
    rintro e w8 ⟨rfl, hs, _⟩
    rw [open_wu0]
    have H8 := Lib.hid hs
    clear hs
    go_wp2_with fail
    refine (H8.out.base).mono ?_
    rintro e w9 ⟨rfl, rfl⟩
    rw [show (wu n t (n : Nat) 0 0).base = ((n : Nat) : Int) from rfl]
    go_wp2_with fail
    rw [HAT2.out]
    go_wp2_with fail
    refine (H8.out.send h ((at_ + t : Nat) : Int)).mono ?_
    rintro e w9 ⟨_, _, rfl, _, hs, _, _⟩
    rw [HF.out.2.2.2.2.2] at hs
    rw [HF.out.2.2.2.2.1]
    have H9 := Lib.hid hs
    clear hs
    rw [List.length_range]
    go_wp2_with fail
    refine (lives_any _ (HL.out.to H9.out.chg)).mono ?_
    rintro e wE ⟨rfl, hc⟩
    have HE := Lib.hid (H9.out.chg.trans hc)
    clear hc
    go_wp2
    go_ret
    exact ⟨rfl, HE.out⟩
  · obtain rfl : h = wt := by have := HGT.out; omega
    have x1 : decide ((n : Int) < (h : Int)) = false := decide_eq_false (by omega)
    have x2 : decide (n < h) = false := decide_eq_false hlt
    go_wp2_with fail
    refine (H1.out.send h at_).mono ?_
    rintro e w2 ⟨_, _, rfl, _, hs, _, _⟩
    rw [HF.out.1.2] at hs
    rw [show (wu n t 0 0 0).sends h at_ = List.range h from HF.out.1.1]
    have H2 := Lib.hid hs
    clear hs
    rw [List.length_range]
    go_wp2_with fail
    refine (H2.out.open_).mono ?_
    rintro e w3 ⟨rfl, hs, _⟩
    rw [HO.out.1]
    have H3 := Lib.hid hs
    clear hs
    go_wp2_with fail
    rw [HAT1.out]
    go_wp2_with fail
    refine (H3.out.send h ((at_ + t - 1 : Nat) : Int)).mono ?_
    rintro e w4 ⟨_, _, rfl, _, hs, _, _⟩
    rw [HF.out.2.1.2] at hs
    rw [HF.out.2.1.1]
    have H4 := Lib.hid hs
    clear hs
    go_wp2_with fail
    rw [HAT2.out]
    go_wp2_with fail
    refine (H4.out.send h ((at_ + t : Nat) : Int)).mono ?_
    rintro e w5 ⟨_, _, rfl, _, hs, _, _⟩
    rw [HF.out.2.2.1.2] at hs
    rw [HF.out.2.2.1.1]
    have H5 := Lib.hid hs
    clear hs
    rw [List.length_range]
    go_wp2_with fail
    refine (H5.out.send h at_).mono ?_
    rintro e w6 ⟨_, _, rfl, _, hs, _, _⟩
    rw [HF.out.2.2.2.1.2] at hs
    rw [HF.out.2.2.2.1.1]
    have H6 := Lib.hid hs
    clear hs
    go_wp2_with fail
    refine (H6.out.ack HL.out (h : Nat) 0 h (by decide) HO.out.2.1 HO.out.2.2.1 HO.out.2.2.2 (by omega) (by omega)).mono ?_
    rintro e w7 ⟨rfl, hs, _⟩
    rw [ack_wu] at hs
    have H7 := Lib.hid hs
    clear hs
    go_wp2_with fail
    refine (H7.out.open_).mono ?_
    rintro e w8 ⟨rfl, hs, _⟩
    rw [open_wu0]
    have H8 := Lib.hid hs
    clear hs
    go_wp2_with fail
    refine (H8.out.base).mono ?_
    rintro e w9 ⟨rfl, rfl⟩
    rw [show (wu n t (h : Nat) 0 0).base = ((h : Nat) : Int) from rfl]
    go_wp2_with fail
    rw [HAT2.out]
    go_wp2_with fail
    refine (H8.out.send h ((at_ + t : Nat) : Int)).mono ?_
    rintro e w9 ⟨_, _, rfl, _, hs, _, _⟩
    rw [HF.out.2.2.2.2.2] at hs
    rw [HF.out.2.2.2.2.1]
    have H9 := Lib.hid hs
    clear hs
    rw [List.length_range]
    go_wp2_with fail
    refine (lives_any _ (HL.out.to H9.out.chg)).mono ?_
    rintro e wE ⟨rfl, hc⟩
    have HE := Lib.hid (H9.out.chg.trans hc)
    clear hc
    go_wp2
    go_ret
    exact ⟨rfl, HE.out⟩
theorem walk (a b c : Nat) (hok : a < 18446744073709551616 ∧ b < 18446744073709551616 ∧ c < 18446744073709551616) (d : Int) (wd : (Lit.int .u64 d).wf = true) (W : World) (hL : Laid W) :
    Calls Tryd.prog 3 #[.agg #[.int .u64 (a : Nat), .int .u64 (b : Nat), .int .u64 (c : Nat)], .int .u64 d] W fun e w' => e = .returned (.bool true) ∧ Below W.heap.size W w' := by
  obtain ⟨d, rfl, hd⟩ := nat_u64 wd
  exact (core a b c d hok.1 hok.2.1 hok.2.2 hd W hL).mono fun _ _ ⟨he, hc⟩ => ⟨he, hc.below (Nat.le_refl _) (by simp)⟩
end Go.Proofs.YtapjegjffgjmlaaDoor.windowAgain
