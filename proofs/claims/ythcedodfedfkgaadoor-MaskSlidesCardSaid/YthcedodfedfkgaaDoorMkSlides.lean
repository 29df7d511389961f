/- MaskSlides: its walk: true for every input. -/
import Derived.Test.YthcedodfedfkgaaDoorMkSlidesP
import Derived.Test.YthcedodfedfkgaaDoorMkLives
import Derived.Test.YthcedodfedfkgaaDoorMkLaid
namespace Go.Proofs.YthcedodfedfkgaaDoor.maskSlides
open Go.RowKit Go.Shelf Go.Proofs.YthcedodfedfkgaaDoorW.PrintWords Go.Proofs.YthcedodfedfkgaaDoor.PMaskSlides

set_option maxRecDepth 100000 in
set_option maxHeartbeats 4000000 in
theorem long (m : Nat) (n : Int) (A : Option Addr) (c : Nat) (l : List Int) (h : 1000 < l.length) (hl : l.length * 8 ≤ 140737488351232) (W : World) (hL : Laid W) :
    Calls Tryd.prog 3 #[.int .u64 m, .int .i64 n, .slice A l.length c] W fun e w' => e = .returned (.bool true) ∧ Below W.heap.size W w' := by
  have HL := Lib.hid hL
  have hlt := Lib.hid hL.lt
  clear hL
  go_enter Tryd.func3, Tryd.ntmps3
  go_wp2_with (go_at_call 9; refine (lives_any _ hlt.out HL.out).mono ?_; rintro e w6 ⟨rfl, hb6⟩)
  go_ret
  exact ⟨rfl, hb6⟩

set_option maxRecDepth 100000 in
set_option maxHeartbeats 4000000 in
theorem core (m : Nat) (n : Int) (hm : m < 18446744073709551616) (hn1 : -9223372036854775808 ≤ n) (hn2 : n < 9223372036854775808) (A : Option Addr) (c : Nat) (l : List Int) (hlen : l.length ≤ 1000) (hc : l.length ≤ c) (W : World) (hC : Kd.C (Kd.int .i64) W A l.length l) (hL : Laid W) :
    Calls Tryd.prog 3 #[.int .u64 m, .int .i64 n, .slice A l.length c] W fun e w' => e = .returned (.bool true) ∧ Below W.heap.size W w' := by
  have HL := Lib.hid hL
  have HC := Lib.hid hC
  have hlt := Lib.hid hL.lt
  have h1 := Lib.hid (refSlide m n hm)
  have h2 := Lib.hid (refOf l hlen)
  have hb := Lib.hid (And.intro hn1 hn2)
  clear hL hC hn1 hn2
  go_enter Tryd.func3, Tryd.ntmps3
  go_wp2_with (first
    | (go_at_call 10; refine (slide_any m n _ hm hb.out.1 hb.out.2).mono ?_; rintro e w1 ⟨rfl, rfl⟩)
    | (go_at_call 11; refine (staithref02_Slide.calls 101 m n _ _ h1.out).mono ?_; rintro e w4 ⟨rfl, hb4⟩; have hB4 := Lib.hid hb4; clear hb4)
    | (go_at_call 12; refine (of_any A c l _ (Kd.C_below HC.out hB4.out) (by omega)).mono ?_; rintro e w5 ⟨rfl, hb5⟩; have hB5 : Hid (Below W.heap.size W w5) := below_then hB4.out hB4.out.size hb5; clear hb5)
    | (go_at_call 13; refine (staithref02_Of.calls 1001 A c l _ _ (Kd.C_below HC.out hB5.out) hc h2.out).mono ?_; rintro e w5 ⟨rfl, ⟨n5, rfl⟩⟩)
    | (go_at_call 9; refine (lives_any _ ?_ ?_).mono ?_; exact Nat.lt_of_lt_of_le hlt.out (pw_below_drewN hB5.out _).size; exact HL.out.below (pw_below_drewN hB5.out _) hlt.out; rintro e w6 ⟨rfl, hb6⟩))
  go_ret
  exact ⟨rfl, below_then (pw_below_drewN hB5.out _) (pw_below_drewN hB5.out _).size hb6⟩

theorem walk (a0 : Int) (w0 : (Lit.int .u64 a0).wf = true) (a1 : Int) (w1 : (Lit.int .i64 a1).wf = true) (A : Option Addr) (c : Nat) (l : List Int) (hc : l.length ≤ c) (hr : l.length * 8 ≤ 140737488351232) (_hw : ∀ x ∈ l, (Lit.int .i64 x).wf = true) (W : World) (hC : Kd.C (Kd.int .i64) W A l.length l) (hL : Laid W) :
    Calls Tryd.prog 3 #[.int .u64 a0, .int .i64 a1, .slice A l.length c] W fun e w' => e = .returned (.bool true) ∧ Below W.heap.size W w' := by
  obtain ⟨m, rfl, hm⟩ := nat_of_u64 w0
  have := bounds_i64 w1
  by_cases h : l.length ≤ 1000
  · exact core m a1 hm this.1 (by omega) A c l h hc W hC hL
  · exact long m a1 A c l (by omega) hr W hL

end Go.Proofs.YthcedodfedfkgaaDoor.maskSlides
