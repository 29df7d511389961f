/- MaskLists: its walk: true for every input. -/
import Derived.Test.YthcedodfedfkgaaDoorMkListsP
import Derived.Test.YthcedodfedfkgaaDoorMkList
import Derived.Test.YthcedodfedfkgaaDoorMkLives
import Derived.Test.YthcedodfedfkgaaDoorMkLaid
namespace Go.Proofs.YthcedodfedfkgaaDoor.maskLists
open Go.RowKit Go.Shelf Go.Proofs.YthcedodfedfkgaaDoorW.PrintWords Go.Proofs.YthcedodfedfkgaaDoor.PMaskLists

theorem R_of_own {w : World} {base e n : Nat} {v : Value} {L : List Int} {k : IntKind} (hn : L.length = n) (h : w.ownsRow base e 1 v n (L.map (Value.int k))) : (Kd.int k).R e w base (fun _ => True) v L := by
  subst hn
  refine ⟨fun _ _ => trivial, L.map (Value.int k), h, by simp [Kd.int, Kd.scalar], fun j p hp => ?_⟩
  have : j < L.length := (List.getElem?_eq_some_iff.1 hp).1
  show _ = [Value.int k p]
  rw [show (Kd.int k).sz = 1 from rfl, Nat.mul_one, List.take_one]
  simp [List.head?_drop, hp]
theorem C_take {w : World} {A : Option Addr} {L : List Int} {k : IntKind} {s : Nat} (h : Kd.C (Kd.int k) w A L.length L) (hs : s ≤ L.length) : Kd.C (Kd.int k) w A s (L.take s) := by
  refine ⟨by simp; omega, by have := Kd.C_max h; omega, fun h0 => ?_⟩
  obtain ⟨ad, e, hc⟩ := h.2.2 (by omega)
  refine ⟨ad, e, fun j p hp => hc j p ?_⟩
  have : j < s := by
    have := (List.getElem?_eq_some_iff.1 hp).1
    simp at this; omega
  simpa [List.getElem?_take, this] using hp

/-- The numbers of a set, up to a count, as ints. -/
def listI (m : Nat) (stop : Int) : List Int := (upTo (Bt.bitsL m) stop).map fun j : Nat => (j : Int)
theorem list_C (m : Nat) (hm : m < 18446744073709551616) (stop : Int) (w : World) (hL : Laid w) :
    Calls Tryd.prog 26 #[.int .u64 m, .int .i64 stop] w fun e w' => ∃ A c, e = .returned (.slice A (listI m stop).length c) ∧ (listI m stop).length ≤ c ∧ Kd.C (Kd.int .i64) w' A (listI m stop).length (listI m stop) ∧ Below w.heap.size w w' := by
  refine (list_any m hm stop w hL.lt hL).mono ?_
  rintro e w' ⟨v, rfl, ho, hb⟩
  have hr : (Kd.int .i64).R 3 w' w.heap.size (fun _ => True) v (listI m stop) := R_of_own (n := (upTo (Bt.bitsL m) stop).length) (by simp [listI]) (by
    rw [show (listI m stop).map (Value.int .i64) = (upTo (Bt.bitsL m) stop).map encN from by simp [listI, encN]]; exact ho)
  obtain ⟨A, c, rfl, hl, hc⟩ := Kd.R_reads hr
  exact ⟨A, c, rfl, hl, hc, hb⟩
def bitsI (m : Nat) : List Int := (Bt.bitsL m).map fun j : Nat => (j : Int)
theorem bitsI_le (m : Nat) : (bitsI m).length ≤ 64 := by unfold bitsI; rw [List.length_map]; exact Bt.bitsL_length m
theorem refList_C (m : Nat) (hm : m < 18446744073709551616) (w : World) :
    Calls Tryd.prog 24 #[.int .u64 m] w fun e w' => ∃ A c, e = .returned (.slice A (bitsI m).length c) ∧ (bitsI m).length ≤ c ∧ Kd.C (Kd.int .i64) w' A (bitsI m).length (bitsI m) ∧ Below w.heap.size w w' := by
  refine (staithref02_List.calls 100 m _ w (refList m hm 100 (by omega))).mono ?_
  rintro e w' ⟨v, rfl, hr, hb⟩
  obtain ⟨A, c, rfl, hl, hc⟩ := Kd.R_reads hr
  exact ⟨A, c, rfl, hl, hc, hb⟩
theorem ints_any (n0 n1 : Nat) (A0 : Option Addr) (c0 : Nat) (A1 : Option Addr) (c1 : Nat) (l : List Int) (h0 : l.length = n0) (h1 : l.length = n1) (hl : l.length ≤ 1000) (w : World) (hr0 : Kd.C (Kd.int .i64) w A0 l.length l) (hc0 : l.length ≤ c0) (hr1 : Kd.C (Kd.int .i64) w A1 l.length l) (hc1 : l.length ≤ c1) :
    Calls Tryd.prog 25 #[.slice A0 n0 c0, .slice A1 n1 c1] w fun e w' => e = .returned (.bool true) ∧ Drawn0 w w' := by
  subst h0; subst h1
  exact staithref01_Ints.calls 1001 A0 c0 l A1 c1 l true w hr0 hc0 hr1 hc1 (refInts l hl)

theorem listI_all (m : Nat) (stop : Int) (h : stop < 0 ∨ (bitsI m).length ≤ stop) : listI m stop = bitsI m := by
  unfold listI bitsI upTo
  split
  · rw [List.take_of_length_le]
    rcases h with h | h
    · omega
    · unfold bitsI at h; rw [List.length_map] at h; omega
  · rfl
theorem listI_take (m s : Nat) : listI m (s : Int) = (bitsI m).take s := by
  unfold listI bitsI upTo
  rw [if_pos (by omega), show ((s : Int)).toNat = s from by omega, List.map_take]



set_option maxRecDepth 100000 in
set_option maxHeartbeats 4000000 in
theorem core_all (m : Nat) (stop : Int) (hm : m < 18446744073709551616) (W : World) (hL : Laid W) (h : stop < 0 ∨ (0 ≤ stop ∧ (bitsI m).length ≤ stop)) :
    Calls Tryd.prog 7 #[.int .u64 m, .int .i64 stop] W fun e w' => e = .returned (.bool true) ∧ Below W.heap.size W w' := by
  have HL := Lib.hid hL
  have hlt := Lib.hid hL.lt
  have hrun := Lib.hid (refRun m hm)
  have hsz : (((Bt.bitsL m).length : Int) == ((bitsI m).length : Int)) = true := by simp [bitsI]
  have hrr : (((Lib.ctz 64 (18446744073709551615 - m) : Nat) : Int) == ((maskRuns.runN m : Nat) : Int)) = true := by simp [maskRuns.runN]
  have tok1 : True := trivial
  clear hL
  have hli := Lib.hid (listI_all m stop (by omega))
  rcases h with h | ⟨h, h'⟩
  · have h0 : ¬ 0 ≤ stop := by omega
    go_enter Tryd.func7, Tryd.ntmps7
    go_wp2_with (first
      | (have _t := tok1; go_at_call 24; refine (refList_C m hm _).mono ?_; rintro e w1 ⟨A1, c1, rfl, hc1, hC1, hb1⟩; have HC1 := Lib.hid hC1; have hB1 := Lib.hid hb1; clear hC1 hb1 tok1; have hle1 := bitsI_le m)
      | (go_at_call 26; refine (list_C m hm _ _ (HL.out.below hB1.out hlt.out)).mono ?_; rintro e w2 ⟨A2, c2, rfl, hc2, hC2, hb2⟩; have HC2 := Lib.hid hC2; have hB2 : Hid (Below W.heap.size W w2) := below_then hB1.out hB1.out.size hb2; have HB2 := Lib.hid hb2; clear hC2 hb2)
      | (go_at_call 25; refine (ints_any (listI m stop).length (bitsI m).length A2 c2 A1 c1 (bitsI m) (by rw [hli.out]) rfl (by have := bitsI_le m; omega) _ (by have := HC2.out; rwa [hli.out] at this) (by rw [← hli.out]; exact hc2) (Kd.C_below HC1.out HB2.out) hc1).mono ?_; rintro e w3 ⟨rfl, ⟨n3, rfl⟩⟩)
      | (go_at_call 17; refine (size_any m hm _).mono ?_; rintro e w3 ⟨rfl, rfl⟩)
      | (go_at_call 24; refine (refList_C m hm _).mono ?_; rintro e w4 ⟨A4, c4, rfl, hc4, _, hb4⟩; have hB4 : Hid (Below W.heap.size W w4) := below_then (pw_below_drewN hB2.out _) (pw_below_drewN hB2.out _).size hb4; clear hb4)
      | (go_at_call 18; refine (run_any m hm _ ?_).mono ?_; exact HL.out.below hB4.out hlt.out; rintro e w5 ⟨rfl, rfl⟩)
      | (go_at_call 27; refine (staithref02_Run.calls 100 m _ _ hrun.out).mono ?_; rintro e w5 ⟨rfl, ⟨n5, rfl⟩⟩)
      | (go_at_call 9; refine (lives_any _ ?_ ?_).mono ?_; exact Nat.lt_of_lt_of_le hlt.out (pw_below_drewN hB4.out _).size; exact HL.out.below (pw_below_drewN hB4.out _) hlt.out; rintro e w6 ⟨rfl, hb6⟩))
    go_ret
    exact ⟨rfl, below_then (pw_below_drewN hB4.out _) (pw_below_drewN hB4.out _).size hb6⟩
  · have h0 : ¬ stop < ((bitsI m).length : Int) := by omega
    go_enter Tryd.func7, Tryd.ntmps7
    go_wp2_with (first
      | (have _t := tok1; go_at_call 24; refine (refList_C m hm _).mono ?_; rintro e w1 ⟨A1, c1, rfl, hc1, hC1, hb1⟩; have HC1 := Lib.hid hC1; have hB1 := Lib.hid hb1; clear hC1 hb1 tok1; have hle1 := bitsI_le m)
      | (go_at_call 26; refine (list_C m hm _ _ (HL.out.below hB1.out hlt.out)).mono ?_; rintro e w2 ⟨A2, c2, rfl, hc2, hC2, hb2⟩; have HC2 := Lib.hid hC2; have hB2 : Hid (Below W.heap.size W w2) := below_then hB1.out hB1.out.size hb2; have HB2 := Lib.hid hb2; clear hC2 hb2)
      | (go_at_call 25; refine (ints_any (listI m stop).length (bitsI m).length A2 c2 A1 c1 (bitsI m) (by rw [hli.out]) rfl (by have := bitsI_le m; omega) _ (by have := HC2.out; rwa [hli.out] at this) (by rw [← hli.out]; exact hc2) (Kd.C_below HC1.out HB2.out) hc1).mono ?_; rintro e w3 ⟨rfl, ⟨n3, rfl⟩⟩)
      | (go_at_call 17; refine (size_any m hm _).mono ?_; rintro e w3 ⟨rfl, rfl⟩)
      | (go_at_call 24; refine (refList_C m hm _).mono ?_; rintro e w4 ⟨A4, c4, rfl, hc4, _, hb4⟩; have hB4 : Hid (Below W.heap.size W w4) := below_then (pw_below_drewN hB2.out _) (pw_below_drewN hB2.out _).size hb4; clear hb4)
      | (go_at_call 18; refine (run_any m hm _ ?_).mono ?_; exact HL.out.below hB4.out hlt.out; rintro e w5 ⟨rfl, rfl⟩)
      | (go_at_call 27; refine (staithref02_Run.calls 100 m _ _ hrun.out).mono ?_; rintro e w5 ⟨rfl, ⟨n5, rfl⟩⟩)
      | (go_at_call 9; refine (lives_any _ ?_ ?_).mono ?_; exact Nat.lt_of_lt_of_le hlt.out (pw_below_drewN hB4.out _).size; exact HL.out.below (pw_below_drewN hB4.out _) hlt.out; rintro e w6 ⟨rfl, hb6⟩))
    go_ret
    exact ⟨rfl, below_then (pw_below_drewN hB4.out _) (pw_below_drewN hB4.out _).size hb6⟩
set_option maxRecDepth 100000 in
set_option maxHeartbeats 4000000 in
theorem core_some (m s : Nat) (hm : m < 18446744073709551616) (W : World) (hL : Laid W) (h : s < (bitsI m).length) :
    Calls Tryd.prog 7 #[.int .u64 m, .int .i64 (s : Int)] W fun e w' => e = .returned (.bool true) ∧ Below W.heap.size W w' := by
  have HL := Lib.hid hL
  have hlt := Lib.hid hL.lt
  have hrun := Lib.hid (refRun m hm)
  have hsz : (((Bt.bitsL m).length : Int) == ((bitsI m).length : Int)) = true := by simp [bitsI]
  have hrr : (((Lib.ctz 64 (18446744073709551615 - m) : Nat) : Int) == ((maskRuns.runN m : Nat) : Int)) = true := by simp [maskRuns.runN]
  have tok1 : True := trivial
  clear hL
  have hli := Lib.hid (listI_take m s)
  go_enter Tryd.func7, Tryd.ntmps7
  go_wp2_with (first
    | (have _t := tok1; go_at_call 24; refine (refList_C m hm _).mono ?_; rintro e w1 ⟨A1, c1, rfl, hc1, hC1, hb1⟩; have HC1 := Lib.hid hC1; have hB1 := Lib.hid hb1; clear hC1 hb1 tok1; have hle1 := bitsI_le m)
    | (go_at_call 26; refine (list_C m hm _ _ (HL.out.below hB1.out hlt.out)).mono ?_; rintro e w2 ⟨A2, c2, rfl, hc2, hC2, hb2⟩; have HC2 := Lib.hid hC2; have hB2 : Hid (Below W.heap.size W w2) := below_then hB1.out hB1.out.size hb2; have HB2 := Lib.hid hb2; clear hC2 hb2)
    | (go_at_call 25; refine (ints_any (listI m s).length s A2 c2 A1 c1 ((bitsI m).take s) (by rw [hli.out]) (by simp; omega) (by have := bitsI_le m; simp; omega) _ (by have := HC2.out; rwa [hli.out] at this) (by rw [← hli.out]; exact hc2) (by have := C_take (s := s) (Kd.C_below HC1.out HB2.out) (by omega); rwa [show ((bitsI m).take s).length = s from by simp; omega]) (by simp; omega)).mono ?_; rintro e w3 ⟨rfl, ⟨n3, rfl⟩⟩)
    | (go_at_call 17; refine (size_any m hm _).mono ?_; rintro e w3 ⟨rfl, rfl⟩)
    | (go_at_call 24; refine (refList_C m hm _).mono ?_; rintro e w4 ⟨A4, c4, rfl, hc4, _, hb4⟩; have hB4 : Hid (Below W.heap.size W w4) := below_then (pw_below_drewN hB2.out _) (pw_below_drewN hB2.out _).size hb4; clear hb4)
    | (go_at_call 18; refine (run_any m hm _ ?_).mono ?_; exact HL.out.below hB4.out hlt.out; rintro e w5 ⟨rfl, rfl⟩)
    | (go_at_call 27; refine (staithref02_Run.calls 100 m _ _ hrun.out).mono ?_; rintro e w5 ⟨rfl, ⟨n5, rfl⟩⟩)
    | (go_at_call 9; refine (lives_any _ ?_ ?_).mono ?_; exact Nat.lt_of_lt_of_le hlt.out (pw_below_drewN hB4.out _).size; exact HL.out.below (pw_below_drewN hB4.out _) hlt.out; rintro e w6 ⟨rfl, hb6⟩))
  go_ret
  exact ⟨rfl, below_then (pw_below_drewN hB4.out _) (pw_below_drewN hB4.out _).size hb6⟩

theorem walk (a0 : Int) (w0 : (Lit.int .u64 a0).wf = true) (a1 : Int) (_w1 : (Lit.int .i64 a1).wf = true) (W : World) (hL : Laid W) :
    Calls Tryd.prog 7 #[.int .u64 a0, .int .i64 a1] W fun e w' => e = .returned (.bool true) ∧ Below W.heap.size W w' := by
  obtain ⟨m, rfl, hm⟩ := nat_of_u64 w0
  rcases (by omega : (a1 < 0 ∨ (0 ≤ a1 ∧ (bitsI m).length ≤ a1)) ∨ (0 ≤ a1 ∧ a1 < (bitsI m).length)) with h | ⟨h0, h1⟩
  · exact core_all m a1 hm W hL h
  · obtain ⟨s, rfl⟩ := Int.eq_ofNat_of_zero_le h0
    exact core_some m s hm W hL (by omega)

end Go.Proofs.YthcedodfedfkgaaDoor.maskLists
