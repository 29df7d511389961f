/- mask.Run, and the law package's lives: true. -/
import Derived.Test.YthcedodfedfkgaaDoorMkOf
import Derived.Test.YthcedodfedfkgaaDoorPMaskListsx
namespace Go.Proofs.YthcedodfedfkgaaDoor
open Go.RowKit Go.Shelf Go.Proofs.YthcedodfedfkgaaDoorW.PrintWords

theorem xor_max (x : Nat) (hx : x < 18446744073709551616) : bits BinOp.xor IntKind.u64 IntKind.u64.max (x : Int) = ((18446744073709551615 - x : Nat) : Int) := by
  have h := bits_xor_u64_nat 18446744073709551615 x (by omega) hx
  have e : IntKind.u64.max = ((18446744073709551615 : Nat) : Int) := by rfl
  rw [e, h]
  congr 1
  apply Nat.eq_of_testBit_eq
  intro i
  have h1 := Nat.testBit_two_pow_sub_succ (x := x) (n := 64) (by simpa using hx) i
  have h2 := Nat.testBit_two_pow_sub_one 64 i
  rw [show (2 : Nat) ^ 64 - (x + 1) = 18446744073709551615 - x from by omega] at h1
  rw [show (2 : Nat) ^ 64 - 1 = 18446744073709551615 from by omega] at h2
  rw [Nat.testBit_xor, h1, h2]
  by_cases hi : i < 64
  · simp [hi]
  · have : x.testBit i = false := Nat.testBit_lt_two_pow (Nat.lt_of_lt_of_le hx (by have := Nat.pow_le_pow_right (n := 2) (by omega) (show 64 ≤ i from by omega); omega))
    simp [hi, this]

set_option maxHeartbeats 1000000 in
theorem run_any (x : Nat) (hx : x < 18446744073709551616) (w : World) (hT : TabAt 0 Lib.deBruijn64tab w) :
    Calls Tryd.prog 18 #[.int .u64 x] w fun e w' => e = .returned (.int .i64 (Lib.ctz 64 (18446744073709551615 - x))) ∧ w = w' := by
  have HT := Lib.hid hT
  clear hT
  have hm : Hid (bits BinOp.xor IntKind.u64 (if IntKind.u64.signed = true then -1 else IntKind.u64.max) (x : Int) = ((18446744073709551615 - x : Nat) : Int)) := xor_max x hx
  go_enter Tryd.func18, Tryd.ntmps18
  go_wp2_with (go_at_call 32; rw [hm.out]; refine (tz64 _ (by omega) w HT.out).mono ?_; rintro e w' ⟨rfl, rfl⟩)
  go_ret
  exact ⟨rfl, rfl⟩

theorem C_two (w : World) (b : Nat) (x y : Int) (h0 : w.cell? ⟨b, 0, none⟩ = some (.int .i64 x)) (h1 : w.cell? ⟨b, 1, none⟩ = some (.int .i64 y)) : Kd.C (Kd.int .i64) w (some ⟨b, 0, none⟩) 2 [x, y] := by
  refine ⟨rfl, by omega, fun _ => ⟨_, rfl, fun j p hp => ⟨[.int .i64 p], rfl, rfl, fun i u hu => ?_⟩⟩⟩
  rw [add_plain]
  match i, hu with
  | 0, hu =>
    simp at hu
    subst hu
    match j, hp with
    | 0, hp => simp at hp; subst hp; simpa using h0
    | 1, hp => simp at hp; subst hp; exact h1

set_option maxRecDepth 100000 in
set_option maxHeartbeats 1000000 in
theorem lives_any (w : World) (hg : 0 < w.heap.size) (hT : TabAt 0 Lib.deBruijn64tab w) :
    Calls Tryd.prog 9 #[] w fun e w' => e = .returned (.bool true) ∧ Below w.heap.size w w' := by
  have hI := C_two (w.alloc (.cells #[.int .i64 1, .int .i64 3] 3)) w.heap.size 1 3 (by rw [World.cell?_alloc_new]; rfl) (by rw [World.cell?_alloc_new]; rfl)
  have HI := Lib.hid hI
  have HT := Lib.hid hT
  clear hI hT
  have hB0 := (Below.refl _ w).alloc (Nat.le_refl _) (.cells #[.int .i64 1, .int .i64 3] 3)
  have e1 : ofL [1, 3] = 10 := by decide
  have e2 : PMaskLists.mask_Slide.f 10 1 = some 5 := by decide
  have e3 : Lib.ctz 64 (18446744073709551615 - 23) = 3 := by decide
  have e4 : PMaskLists.mask_Size.f 7 = some 3 := by decide +kernel
  go_enter Tryd.func9, Tryd.ntmps9
  go_wp2_with (first
    | (go_at_call 12; refine (of_any _ _ [1, 3] _ HI.out (by simp)).mono ?_; rintro e w1 ⟨rfl, hb1⟩; rw [e1]; have hbw := Lib.hid (hB0.trans (hb1.mono (by simp))))
    | (go_at_call 10; refine (PMaskLists.mask_Slide.calls 10 1 5 _ e2).mono ?_; rintro e w2 ⟨rfl, ⟨n2, rfl⟩⟩)
    | (go_at_call 18; refine (run_any 23 (by omega) _ ?_).mono ?_; exact (HT.out.below (pw_below_drewN hbw.out _) hg); rintro e w3 ⟨rfl, rfl⟩; rw [e3])
    | (go_at_call 17; refine (PMaskLists.mask_Size.calls 7 3 _ e4).mono ?_; rintro e w4 ⟨rfl, ⟨n4, rfl⟩⟩))
  go_ret
  exact ⟨rfl, by repeat (first | exact hbw.out | apply pw_below_drewN)⟩

end Go.Proofs.YthcedodfedfkgaaDoor
