/- seal.Seal, seal.Open; staithref03.Seal, Open. -/
import Derived.Test.YtgnhpjakjoaejaaDoorPkSu
import Derived.Test.YtgnhpjakjoaejaaDoorPkPl
set_option linter.unusedVariables false
set_option linter.unusedSimpArgs false
namespace Go.Proofs.YtgnhpjakjoaejaaDoor
open Go.RowKit
set_option maxRecDepth 100000 in
set_option maxHeartbeats 4000000 in
theorem aseal_any {w : World} {A : Option Addr} {n c : Nat} {l : Bs} (h : Bt w A n c l) (hn : n ≤ 900000) (hT : WidAt w) :
    Calls Tryd.prog 26 #[.slice A n c] w fun e w' => ∃ B m d, e = .returned (.slice B m d) ∧ Ob w' w.heap.size B m d (Pk.sealL l) ∧ Chg [] w w' := by
  have HL := Lib.hid (And.intro h hT)
  clear h
  have hn2 : (n : Int) ≤ 900000 := by omega
  go_enter Tryd.func26, Tryd.ntmps26
  go_wp2_with fail
  refine (put_any 4 (by unfold WidK; omega) n (by omega) w HL.out.2 none 0 0 [] (Bt.nil w) (by omega)).mono ?_
  rintro e w1 ⟨A1, n1, c1, rfl, ho, hc⟩
  obtain rfl : n1 = 4 := by have := ho.len; rw [List.nil_append, Ac.be_len] at this; exact this
  rw [List.nil_append] at ho
  obtain ⟨A2, c2, w2, hap, ho2, hc2, _⟩ := ho.app 34 (.slice A n c) n l HL.out.1.len (HL.out.1.chg0 hc).src (by omega) hc.size
  have hge := ho.own.ge
  have H2 := Lib.hid (And.intro ho2 (hc.then_ hc2 (fun b hb => .inr (hge b hb))))
  clear ho hc ho2 hc2 hge
  go_wp2_with (at_builtin; refine wpList_appR (by rfl) _ _ _ _ (by rfl) _ _ _ _ (by rfl) (by rfl) hap ?_)
  clear hap
  refine (asum_any H2.out.1.bt (by omega)).mono ?_
  rintro e w3 ⟨rfl, rfl⟩
  have hlt := Pk.crc_lt (Ac.be 4 n ++ l)
  obtain ⟨s, hs⟩ : ∃ s, s = (Crc.crc (Ac.be 4 n ++ l)).toNat := ⟨_, rfl⟩
  rw [← hs] at hlt ⊢
  have HS := Lib.hid hs
  clear hs
  go_wp2_with fail
  refine (put_any 4 (by unfold WidK; omega) s (by omega) w2 (HL.out.2.chg0 H2.out.2) A2 (4 + n) c2 _ H2.out.1.bt (by omega)).mono ?_
  rintro e w3 ⟨A3, n3, c3, rfl, ho, hc⟩
  have H3 := Lib.hid (And.intro ho (H2.out.2.trans hc))
  clear ho hc
  have hsz := H2.out.2.size
  go_wp2
  go_ret
  refine ⟨A3, n3, c3, rfl, ?_, H3.out.2⟩
  have h1 := H3.out.1.lower hsz
  unfold Pk.sealL
  have hl := HL.out.1.len
  rw [if_pos (by omega), ← hl, ← HS.out]
  exact h1
set_option maxRecDepth 100000 in
set_option maxHeartbeats 4000000 in
theorem rseal_any {w : World} {A : Option Addr} {n c : Nat} {l : Bs} (h : Bt w A n c l) (hn : n ≤ 900000) :
    Calls Tryd.prog 29 #[.slice A n c] w fun e w' => ∃ B m d, e = .returned (.slice B m d) ∧ Ob w' w.heap.size B m d (Pk.sealL l) ∧ Chg [] w w' := by
  have HL := Lib.hid (And.intro h trivial)
  clear h
  have hn2 : (n : Int) ≤ 900000 := by omega
  go_enter Tryd.func29, Tryd.ntmps29
  go_wp2_with fail
  refine (rput_any 4 (by unfold WidK; omega) n (by omega) w none 0 0 [] (Bt.nil w) (by omega)).mono ?_
  rintro e w1 ⟨A1, n1, c1, rfl, ho, hc⟩
  obtain rfl : n1 = 4 := by have := ho.len; rw [List.nil_append, Ac.be_len] at this; exact this
  rw [List.nil_append] at ho
  obtain ⟨A2, c2, w2, hap, ho2, hc2, _⟩ := ho.app 34 (.slice A n c) n l HL.out.1.len (HL.out.1.chg0 hc).src (by omega) hc.size
  have hge := ho.own.ge
  have H2 := Lib.hid (And.intro ho2 (hc.then_ hc2 (fun b hb => .inr (hge b hb))))
  clear ho hc ho2 hc2 hge
  go_wp2_with (at_builtin; refine wpList_appR (by rfl) _ _ _ _ (by rfl) _ _ _ _ (by rfl) (by rfl) hap ?_)
  clear hap
  refine (rsum_any H2.out.1.bt (by omega)).mono ?_
  rintro e w3 ⟨rfl, rfl⟩
  have hlt := Pk.crc_lt (Ac.be 4 n ++ l)
  obtain ⟨s, hs⟩ : ∃ s, s = (Crc.crc (Ac.be 4 n ++ l)).toNat := ⟨_, rfl⟩
  rw [← hs] at hlt ⊢
  have HS := Lib.hid hs
  clear hs
  go_wp2_with fail
  refine (rput_any 4 (by unfold WidK; omega) s (by omega) w2 A2 (4 + n) c2 _ H2.out.1.bt (by omega)).mono ?_
  rintro e w3 ⟨A3, n3, c3, rfl, ho, hc⟩
  have H3 := Lib.hid (And.intro ho (H2.out.2.trans hc))
  clear ho hc
  have hsz := H2.out.2.size
  go_wp2
  go_ret
  refine ⟨A3, n3, c3, rfl, ?_, H3.out.2⟩
  have h1 := H3.out.1.lower hsz
  unfold Pk.sealL
  have hl := HL.out.1.len
  rw [if_pos (by omega), ← hl, ← HS.out]
  exact h1
end Go.Proofs.YtgnhpjakjoaejaaDoor
