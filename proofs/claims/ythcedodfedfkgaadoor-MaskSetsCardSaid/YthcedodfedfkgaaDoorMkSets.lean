/- MaskSets: its walk: true for every input. -/
import Derived.Test.YthcedodfedfkgaaDoorMkSetsP
import Derived.Test.YthcedodfedfkgaaDoorMkLives
import Derived.Test.YthcedodfedfkgaaDoorMkLaid
namespace Go.Proofs.YthcedodfedfkgaaDoor.maskSets
open Go.RowKit Go.Shelf Go.Proofs.YthcedodfedfkgaaDoorW.PrintWords Go.Proofs.YthcedodfedfkgaaDoor.PMaskSets

set_option maxRecDepth 100000 in
set_option maxHeartbeats 4000000 in
theorem core (m : Nat) (n : Int) (hm : m < 18446744073709551616) (W : World) (hL : Laid W) :
    Calls Tryd.prog 6 #[.int .u64 m, .int .i64 n] W fun e w' => e = .returned (.bool true) ∧ Below W.heap.size W w' := by
  have HL := Lib.hid hL
  have hlt := Lib.hid hL.lt
  have h1 := Lib.hid (refHas m n hm)
  have h2 := Lib.hid (refWith m n hm)
  have h3 := Lib.hid (refWithout m n hm)
  have h4 := Lib.hid (refBelow n)
  clear hL
  go_enter Tryd.func6, Tryd.ntmps6
  go_wp2_with (first
    | (go_at_call 16; refine (has_nat m n hm _).mono ?_; rintro e w1 ⟨rfl, rfl⟩)
    | (go_at_call 20; refine (staithref02_Has.calls m n _ _ h1.out).mono ?_; rintro e w1 ⟨rfl, ⟨n1, rfl⟩⟩)
    | (go_at_call 14; refine (with_natB m n hm _).mono ?_; rintro e w2 ⟨rfl, hb2⟩; have hB2 : Hid (Below W.heap.size W w2) := (pw_below_drewN (Below.refl _ _) _).trans (hb2.mono (by simp)); clear hb2)
    | (go_at_call 21; refine (staithref02_With.calls m n _ _ h2.out).mono ?_; rintro e w3 ⟨rfl, ⟨n3, rfl⟩⟩)
    | (go_at_call 15; refine (without_nat m n hm _).mono ?_; rintro e w3 ⟨rfl, rfl⟩)
    | (go_at_call 22; refine (staithref02_Without.calls 100 m n _ _ h3.out).mono ?_; rintro e w4 ⟨rfl, hb4⟩; have hB4 : Hid (Below W.heap.size W w4) := below_then (pw_below_drewN hB2.out _) (pw_below_drewN hB2.out _).size hb4; clear hb4)
    | (go_at_call 19; refine (below_any n _).mono ?_; rintro e w5 ⟨rfl, rfl⟩)
    | (go_at_call 23; refine (staithref02_Below.calls 100 n _ _ h4.out).mono ?_; rintro e w5 ⟨rfl, ⟨n5, rfl⟩⟩)
    | (go_at_call 9; refine (lives_any _ ?_ ?_).mono ?_; exact Nat.lt_of_lt_of_le hlt.out (pw_below_drewN hB4.out _).size; exact HL.out.below (pw_below_drewN hB4.out _) hlt.out; rintro e w6 ⟨rfl, hb6⟩))
  go_ret
  exact ⟨rfl, below_then (pw_below_drewN hB4.out _) (pw_below_drewN hB4.out _).size hb6⟩

theorem walk (a0 : Int) (w0 : (Lit.int .u64 a0).wf = true) (a1 : Int) (_w1 : (Lit.int .i64 a1).wf = true) (W : World) (hL : Laid W) :
    Calls Tryd.prog 6 #[.int .u64 a0, .int .i64 a1] W fun e w' => e = .returned (.bool true) ∧ Below W.heap.size W w' := by
  obtain ⟨m, rfl, hm⟩ := nat_of_u64 w0
  exact core m a1 hm W hL

end Go.Proofs.YthcedodfedfkgaaDoor.maskSets
