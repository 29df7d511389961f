/- WindowStays: an ack of what was not sent, or lies behind, changes nothing; one of all that was sent closes all. -/
import Derived.Test.YtapjegjffgjmlaaDoorWinAr
import Derived.Test.YtapjegjffgjmlaaDoorWinUn
set_option linter.unusedVariables false
set_option linter.unusedSimpArgs false
namespace Go.Proofs.YtapjegjffgjmlaaDoor.windowStays
open Go.RowKit Go.Shelf Go.Proofs.YtapjegjffgjmlaaDoor

theorem no_ack (n t k v : Nat) (num : Int) (hn : n ≤ 32) (hk : k ≤ n) (h0 : 0 ≤ num) (h1 : num < 65536) (h : (k : Int) < num) : ackNo (wu n t 0 k v) num := by
  by_cases h2 : farZ 0 num < 0
  · exact .inl h2
  · by_cases h3 : (n : Int) < farZ 0 num
    · exact .inr (.inl h3)
    · refine .inr (.inr ⟨k, ?_, ?_⟩)
      · show (k : Int) < farZ 0 num
        unfold farZ at h2 ⊢
        omega
      · show (uni k v k).1 = 0
        unfold uni
        rw [if_neg (by omega)]
set_option maxRecDepth 100000 in
set_option maxHeartbeats 8000000 in
theorem core (a b c m : Nat) (num : Int) (ha : a < 18446744073709551616) (hb : b < 18446744073709551616) (hc : c < 18446744073709551616) (hm : m < 18446744073709551616) (u0 : 0 ≤ num) (u1 : num < 65536) (W : World) (hL : Laid W) :
    Calls Tryd.prog 7 #[.agg #[.int .u64 (a : Nat), .int .u64 (b : Nat), .int .u64 (c : Nat)], .int .u16 num, .int .u64 (m : Nat)] W fun e w' => e = .returned (.bool true) ∧ Chg [] W w' := by
  have HL := Lib.hid hL
  have HM := Lib.hid hm
  clear hL hm
  obtain ⟨n, hn⟩ : ∃ n : Nat, 1 + (a : Int) % 32 = (n : Int) := ⟨1 + a % 32, by omega⟩
  obtain ⟨t, ht⟩ : ∃ n : Nat, 1 + (b : Int) % 50 = (n : Int) := ⟨1 + b % 50, by omega⟩
  obtain ⟨h, hh⟩ : ∃ n : Nat, (c : Int) % 40 = (n : Int) := ⟨c % 40, by omega⟩
  have n1 : 1 ≤ n := by omega
  have n2 : n ≤ 32 := by omega
  have t1 : 1 ≤ t := by omega
  have t2 : t ≤ 50 := by omega
  have h1 : h < 40 := by omega
  have HV := Lib.hid (And.intro hn (And.intro ht hh))
  clear hn ht hh
  obtain ⟨k, hk⟩ : ∃ k, k = min h n := ⟨_, rfl⟩
  have w1 : k ≤ 32 := by omega
  have kn : k ≤ n := by omega
  have F : ((wu n t 0 0 0).sends h 5 = List.range (min h n) ∧ (wu n t 0 0 0).send h 5 = wu n t 0 (min h n) 6) ∧ ((wu n t 0 0 0).sends h 0 = List.range (min h n) ∧ (wu n t 0 0 0).send h 0 = wu n t 0 (min h n) 1) := And.intro (send_first n t 0 0 h 5 (by omega)) (send_first n t 0 0 h 0 (by omega))
  rw [← hk] at F
  have HF := Lib.hid F
  have HO := Lib.hid (And.intro (open_wu n t 0 k 6 (by omega) w1) (And.intro (show farZ (wu n t 0 k 6).base (k : Nat) = ((k : Nat) : Int) by have := far_small 0 k (by omega); rwa [Nat.zero_add] at this) (And.intro (show k ≤ (wu n t 0 k 6).size by show k ≤ n; omega) (sent_wu n t 0 k 6 (by omega)))))
  have HU := Lib.hid (And.intro u0 u1)
  clear F hk
  go_enter Tryd.func7, Tryd.ntmps7
  go_wp2_with fail
  go_quiet (fail)
  go_wp2_with fail
  rw [HV.out.1, HV.out.2.1, HV.out.2.2]
  have hc0 := ((Chg.refl [] W).alloc (.cells #[.int .u64 (a : Nat), .int .u64 (b : Nat), .int .u64 (c : Nat)] 24)).drewN nq
  generalize (W.alloc (.cells #[.int .u64 (a : Nat), .int .u64 (b : Nat), .int .u64 (c : Nat)] 24)).drewN nq = wz at *
  refine (WSt.new W wz hc0 n t n1 n2 t1 (by omega)).mono ?_
  rintro e w1 ⟨rfl, hs, _⟩
  obtain ⟨p, hp⟩ : ∃ p, p = wz.heap.size := ⟨_, rfl⟩
  rw [← hp, new_wu] at hs
  rw [← hp]
  have H1 := Lib.hid hs
  clear hs hp hc0 ha hb hc
  go_wp2_with fail
  refine (H1.out.send h 5).mono ?_
  rintro e w2 ⟨_, _, rfl, _, hs, _, _⟩
  rw [HF.out.1.2] at hs
  rw [HF.out.1.1]
  have H2 := Lib.hid hs
  clear hs
  rw [List.length_range]
  by_cases hgt : (k : Int) < num
  · have x1 : decide ((k : Int) < num) = true := decide_eq_true hgt
    go_wp2_with fail
    refine (H2.out.ackNo num m (no_ack n t k 6 num n2 kn HU.out.1 HU.out.2 hgt)).mono ?_
    rintro e w3 ⟨rfl, hs, _⟩
    have H3 := Lib.hid hs
    clear hs
    go_wp2_with fail
    refine (H3.out.base).mono ?_
    rintro e w4 ⟨rfl, rfl⟩
    rw [show (wu n t 0 k 6).base = 0 from rfl]
    go_wp2_with fail
    refine (H3.out.open_).mono ?_
    rintro e w4 ⟨rfl, hs, _⟩
    rw [HO.out.1]
    have H4 := Lib.hid hs
    clear hs
    go_wp2_with fail
    refine (H4.out.ack HL.out (k : Nat) m k HM.out HO.out.2.1 HO.out.2.2.1 HO.out.2.2.2 (by omega) (by omega)).mono ?_
    rintro e w7 ⟨rfl, hs, _⟩
    rw [ack_wu] at hs
    have H7 := Lib.hid hs
    clear hs
    go_wp2_with fail
    refine (H7.out.open_).mono ?_
    rintro e w8 ⟨rfl, hs, _⟩
    rw [open_wu0]
    have H8 := Lib.hid hs
    clear hs
    go_wp2_with fail
    refine (H8.out.base).mono ?_
    rintro e w9 ⟨rfl, rfl⟩
    rw [show (wu n t (k : Nat) 0 0).base = ((k : Nat) : Int) from rfl]
    by_cases hk0 : 0 < k
    · have y1 : decide ((0 : Int) < (k : Int)) = true := decide_eq_true (by omega)
      have y2 : decide (0 < k) = true := decide_eq_true hk0
      go_wp2_with fail
      refine (H8.out.ackNo ((k : Int) - 1) m (Or.inl (show farZ (k : Nat) ((k : Int) - 1) < 0 by unfold farZ; omega))).mono ?_
      rintro e w9 ⟨rfl, hs, _⟩
      have H9 := Lib.hid hs
      clear hs
      go_wp2_with fail
      refine (H9.out.base).mono ?_
      rintro e w10 ⟨rfl, rfl⟩
      rw [show (wu n t (k : Nat) 0 0).base = ((k : Nat) : Int) from rfl]
      go_wp2_with fail
      refine (H9.out.reset).mono ?_
      rintro e wB ⟨⟨v, rfl⟩, hs, _⟩
      rw [show WS.new (wu n t (k : Nat) 0 0).size (wu n t (k : Nat) 0 0).wait = wu n t 0 0 0 from new_wu n t] at hs
      have HB := Lib.hid hs
      clear hs
      go_wp2_with fail
      refine (HB.out.base).mono ?_
      rintro e wC ⟨rfl, rfl⟩
      rw [show (wu n t 0 0 0).base = 0 from rfl]
      go_wp2_with fail
      refine (HB.out.open_).mono ?_
      rintro e wC ⟨rfl, hs, _⟩
      rw [open_wu0]
      have HC := Lib.hid hs
      clear hs
      go_wp2_with fail
      refine (HC.out.send h 0).mono ?_
      rintro e wD ⟨_, _, rfl, _, hs, _, _⟩
      rw [HF.out.2.2] at hs
      rw [HF.out.2.1]
      have HD := Lib.hid hs
      clear hs
      rw [List.length_range]
      go_wp2_with fail
      refine (lives_any _ (HL.out.to HD.out.chg)).mono ?_
      rintro e wE ⟨rfl, hc⟩
      have HE := Lib.hid (HD.out.chg.trans hc)
      clear hc
      go_wp2
      go_ret
      exact ⟨rfl, HE.out⟩
    · have y1 : decide ((0 : Int) < (k : Int)) = false := decide_eq_false (by omega)
      have y2 : decide (0 < k) = false := decide_eq_false hk0
      go_wp2_with fail
      refine (H8.out.reset).mono ?_
      rintro e wB ⟨⟨v, rfl⟩, hs, _⟩
      rw [show WS.new (wu n t (k : Nat) 0 0).size (wu n t (k : Nat) 0 0).wait = wu n t 0 0 0 from new_wu n t] at hs
      have HB := Lib.hid hs
      clear hs
      go_wp2_with fail
      refine (HB.out.base).mono ?_
      rintro e wC ⟨rfl, rfl⟩
      rw [show (wu n t 0 0 0).base = 0 from rfl]
      go_wp2_with fail
      refine (HB.out.open_).mono ?_
      rintro e wC ⟨rfl, hs, _⟩
      rw [open_wu0]
      have HC := Lib.hid hs
      clear hs
      go_wp2_with fail
      refine (HC.out.send h 0).mono ?_
      rintro e wD ⟨_, _, rfl, _, hs, _, _⟩
      rw [HF.out.2.2] at hs
      rw [HF.out.2.1]
      have HD := Lib.hid hs
      clear hs
      rw [List.length_range]
      go_wp2_with fail
      refine (lives_any _ (HL.out.to HD.out.chg)).mono ?_
      rintro e wE ⟨rfl, hc⟩
      have HE := Lib.hid (HD.out.chg.trans hc)
      clear hc
      go_wp2
      go_ret
      exact ⟨rfl, HE.out⟩
  · have x1 : decide ((k : Int) < num) = false := decide_eq_false hgt
    go_wp2_with fail
    refine (H2.out.ack HL.out (k : Nat) m k HM.out HO.out.2.1 HO.out.2.2.1 HO.out.2.2.2 (by omega) (by omega)).mono ?_
    rintro e w7 ⟨rfl, hs, _⟩
    rw [ack_wu] at hs
    have H7 := Lib.hid hs
    clear hs
    go_wp2_with fail
    refine (H7.out.open_).mono ?_
    rintro e w8 ⟨rfl, hs, _⟩
    rw [open_wu0]
    have H8 := Lib.hid hs
    clear hs
    go_wp2_with fail
    refine (H8.out.base).mono ?_
    rintro e w9 ⟨rfl, rfl⟩
    rw [show (wu n t (k : Nat) 0 0).base = ((k : Nat) : Int) from rfl]
    by_cases hk0 : 0 < k
    · have y1 : decide ((0 : Int) < (k : Int)) = true := decide_eq_true (by omega)
      have y2 : decide (0 < k) = true := decide_eq_true hk0
      go_wp2_with fail
      refine (H8.out.ackNo ((k : Int) - 1) m (Or.inl (show farZ (k : Nat) ((k : Int) - 1) < 0 by unfold farZ; omega))).mono ?_
      rintro e w9 ⟨rfl, hs, _⟩
      have H9 := Lib.hid hs
      clear hs
      go_wp2_with fail
      refine (H9.out.base).mono ?_
      rintro e w10 ⟨rfl, rfl⟩
      rw [show (wu n t (k : Nat) 0 0).base = ((k : Nat) : Int) from rfl]
      go_wp2_with fail
      refine (H9.out.reset).mono ?_
      rintro e wB ⟨⟨v, rfl⟩, hs, _⟩
      rw [show WS.new (wu n t (k : Nat) 0 0).size (wu n t (k : Nat) 0 0).wait = wu n t 0 0 0 from new_wu n t] at hs
      have HB := Lib.hid hs
      clear hs
      go_wp2_with fail
      refine (HB.out.base).mono ?_
      rintro e wC ⟨rfl, rfl⟩
      rw [show (wu n t 0 0 0).base = 0 from rfl]
      go_wp2_with fail
      refine (HB.out.open_).mono ?_
      rintro e wC ⟨rfl, hs, _⟩
      rw [open_wu0]
      have HC := Lib.hid hs
      clear hs
      go_wp2_with fail
      refine (HC.out.send h 0).mono ?_
      rintro e wD ⟨_, _, rfl, _, hs, _, _⟩
      rw [HF.out.2.2] at hs
      rw [HF.out.2.1]
      have HD := Lib.hid hs
      clear hs
      rw [List.length_range]
      go_wp2_with fail
      refine (lives_any _ (HL.out.to HD.out.chg)).mono ?_
      rintro e wE ⟨rfl, hc⟩
      have HE := Lib.hid (HD.out.chg.trans hc)
      clear hc
      go_wp2
      go_ret
      exact ⟨rfl, HE.out⟩
    · have y1 : decide ((0 : Int) < (k : Int)) = false := decide_eq_false (by omega)
      have y2 : decide (0 < k) = false := decide_eq_false hk0
      go_wp2_with fail
      refine (H8.out.reset).mono ?_
      rintro e wB ⟨⟨v, rfl⟩, hs, _⟩
      rw [show WS.new (wu n t (k : Nat) 0 0).size (wu n t (k : Nat) 0 0).wait = wu n t 0 0 0 from new_wu n t] at hs
      have HB := Lib.hid hs
      clear hs
      go_wp2_with fail
      refine (HB.out.base).mono ?_
      rintro e wC ⟨rfl, rfl⟩
      rw [show (wu n t 0 0 0).base = 0 from rfl]
      go_wp2_with fail
      refine (HB.out.open_).mono ?_
      rintro e wC ⟨rfl, hs, _⟩
      rw [open_wu0]
      have HC := Lib.hid hs
      clear hs
      go_wp2_with fail
      refine (HC.out.send h 0).mono ?_
      rintro e wD ⟨_, _, rfl, _, hs, _, _⟩
      rw [HF.out.2.2] at hs
      rw [HF.out.2.1]
      have HD := Lib.hid hs
      clear hs
      rw [List.length_range]
      go_wp2_with fail
      refine (lives_any _ (HL.out.to HD.out.chg)).mono ?_
      rintro e wE ⟨rfl, hc⟩
      have HE := Lib.hid (HD.out.chg.trans hc)
      clear hc
      go_wp2
      go_ret
      exact ⟨rfl, HE.out⟩
theorem walk (a b c : Nat) (hok : a < 18446744073709551616 ∧ b < 18446744073709551616 ∧ c < 18446744073709551616) (num : Int) (wn : (Lit.int .u16 num).wf = true) (m : Int) (wm : (Lit.int .u64 m).wf = true) (W : World) (hL : Laid W) :
    Calls Tryd.prog 7 #[.agg #[.int .u64 (a : Nat), .int .u64 (b : Nat), .int .u64 (c : Nat)], .int .u16 num, .int .u64 m] W fun e w' => e = .returned (.bool true) ∧ Below W.heap.size W w' := by
  obtain ⟨m, rfl, hm⟩ := nat_u64 wm
  have hu := bd_u16 wn
  exact (core a b c m num hok.1 hok.2.1 hok.2.2 hm hu.1 hu.2 W hL).mono fun _ _ ⟨he, hc⟩ => ⟨he, hc.below (Nat.le_refl _) (by simp)⟩
end Go.Proofs.YtapjegjffgjmlaaDoor.windowStays
