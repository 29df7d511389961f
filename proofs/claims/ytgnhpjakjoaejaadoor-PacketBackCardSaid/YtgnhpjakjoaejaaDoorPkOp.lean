/- seal.Open; staithref03.Open. -/
import Derived.Test.YtgnhpjakjoaejaaDoorPkSe
import Derived.OwnWalk
set_option linter.unusedVariables false
set_option linter.unusedSimpArgs false
namespace Go.Proofs.YtgnhpjakjoaejaaDoor
open Go.RowKit
/-- Bytes appended to nothing, and to an empty literal. -/
theorem app_nilB {w : World} {A : Option Addr} {k c : Nat} {m : Bs} (h : Bt w A k c m) (hk : k ≤ 1000000) :
    ∃ A' c' w', AppR Tryd.prog 34 34 34 (.slice none 0 0) (.slice A k c) w (.slice A' k c') w' ∧ Bt w' A' k c' m ∧ Chg [] w w' := by
  obtain ⟨A5, c5, w5, hap, ho5, hc5, _⟩ := (Ob.nil w w.heap.size).app 34 (.slice A k c) k m h.len h.src (by omega) (Nat.le_refl _)
  rw [Nat.zero_add] at hap ho5
  exact ⟨A5, c5, w5, hap, ho5.bt, hc5⟩
theorem app_litB {w : World} {A : Option Addr} {k c : Nat} {m : Bs} (h : Bt w A k c m) (hk : k ≤ 1000000) :
    ∃ A' c' w', AppR Tryd.prog 34 34 34 (.slice (some ⟨w.heap.size, 0, none⟩) 0 0) (.slice A k c) (w.alloc (.cells #[] 5)) (.slice A' k c') w' ∧ Bt w' A' k c' m ∧ Chg [] w w' := by
  obtain ⟨A5, c5, w5, hap, ho5, hc5⟩ := app_lit w 34 (.slice A k c) k m h.len (h.chg0 ((Chg.refl [] w).alloc _)).src (by omega)
  exact ⟨A5, c5, w5, hap, ho5.bt, hc5⟩
/-- What Open comes to. -/
def Opened (w : World) (l : Bs) (e : Ending) (w' : World) : Prop :=
  ∃ B m d k err, e = .returned (.tuple #[.slice B m d, .int .i64 (k : Nat), .int .i64 err]) ∧ Chg [] w w' ∧ ((Pk.openL l = none ∧ err ≠ 0) ∨ ∃ x, Pk.openL l = some x ∧ err = 0 ∧ k = x.length + 8 ∧ Bt w' B m d x)
set_option maxRecDepth 100000 in
set_option maxHeartbeats 4000000 in
theorem aopen_any {w : World} {A : Option Addr} {n c : Nat} {l : Bs} (h : Bt w A n c l) (hn : n ≤ 900000) (hT : WidAt w) :
    Calls Tryd.prog 30 #[.slice A n c] w (Opened w l) := by
  have HL := Lib.hid (And.intro h hT)
  have HN := Lib.hid h.len
  have hnc := h.le
  clear h
  have hn2 : (n : Int) ≤ 900000 := by omega
  go_enter Tryd.func30, Tryd.ntmps30
  go_wp2_with fail
  refine (get_any 4 (by unfold WidK; omega) w HL.out.2 A n c l HL.out.1 (by omega)).mono ?_
  rintro e w1 ⟨rfl, rfl⟩
  by_cases h4 : 4 ≤ n
  · rw [decide_eq_true h4]
    obtain ⟨b0, hA, hc0⟩ := HL.out.1.cell (k := 0) (b := l[0]'(by rw [← HN.out]; omega)) (List.getElem?_eq_getElem _)
    have hsp := HL.out.1.plain b0 hA
    clear hc0
    obtain ⟨g, off, sp⟩ := b0
    simp only at hsp
    subst hsp
    subst hA
    have hv : (Ac.numR 4 (some l)).1 = Ac.val (l.take 4) := by
      unfold Ac.numR
      simp only
      rw [if_pos (by rw [← HN.out]; exact h4)]
    rw [hv]
    clear hv
    have hvl := Ac.val_lt (l.take 4)
    rw [List.length_take, Nat.min_eq_left (by rw [← HN.out]; exact h4)] at hvl
    obtain ⟨v, hve⟩ : ∃ v, v = Ac.val (l.take 4) := ⟨_, rfl⟩
    rw [← hve] at hvl ⊢
    have HV := Lib.hid hve
    clear hve
    have hv2 : (v : Int) < 4294967296 := by omega
    by_cases hbig : 1048576 < v
    · have t1 : decide ((1048576 : Int) < (v : Int)) = true := decide_eq_true (by omega)
      have e1 : Pk.openL l = none := by
        unfold Pk.openL
        rw [if_neg (by rw [← HN.out]; omega), ← HV.out, if_pos hbig]
      have HE := Lib.hid e1
      clear e1
      go_wp2
      go_ret3
      exact ⟨none, 0, 0, 0, _, rfl, Chg.refl _ _, .inl ⟨HE.out, by decide⟩⟩
    · have t1 : decide ((1048576 : Int) < (v : Int)) = false := decide_eq_false (by omega)
      by_cases hsh : n < v + 8
      · have t2 : decide ((n : Int) < (v : Int) + 8) = true := decide_eq_true (by omega)
        have e1 : Pk.openL l = none := by
          unfold Pk.openL
          rw [if_neg (by rw [← HN.out]; omega), ← HV.out, if_neg hbig, if_pos (by rw [← HN.out]; exact hsh)]
        have HE := Lib.hid e1
        clear e1
        go_wp2
        go_ret3
        exact ⟨none, 0, 0, 0, _, rfl, Chg.refl _ _, .inl ⟨HE.out, by decide⟩⟩
      · have t2 : decide ((n : Int) < (v : Int) + 8) = false := decide_eq_false (by omega)
        have hv3 : (v : Int) ≤ 900000 := by omega
        have i1 : (0 : Int) ≤ 4 + (v : Int) := by omega
        have i2 : 4 + (v : Int) ≤ (n : Int) := by omega
        have i3 : 4 + (v : Int) ≤ (c : Int) := by omega
        have HB := Lib.hid (And.intro (HL.out.1.drop (4 + v) (n - (4 + v)) (by omega) rfl) (HL.out.1.take (4 + v) (by omega)))
        have e2 : cutA (some ⟨g, off, none⟩) c (4 + v) 1 = some ⟨g, off + (4 + v), none⟩ := by unfold cutA; rw [if_neg (by omega), Nat.mul_one, Option.map_some, add_none]
        have e3 : cutA (some ⟨g, off, none⟩) c 4 1 = some ⟨g, off + 4, none⟩ := by unfold cutA; rw [if_neg (by omega), Nat.mul_one, Option.map_some, add_none]
        have hb4 := (HL.out.1.take (4 + v) (by omega)).drop 4 (4 + v - 4) (by omega) rfl
        have e5 : (l.drop 4).take (4 + v - 4) = (l.drop 4).take v := by rw [show 4 + v - 4 = v from by omega]
        rw [e3, List.drop_take, e5] at hb4
        clear e5
        rw [e2] at HB
        have HB4 := Lib.hid hb4
        clear e2 e3 hb4
        go_wp2_with fail
        refine (get_any 4 (by unfold WidK; omega) w HL.out.2 _ _ _ _ HB.out.1 (by omega)).mono ?_
        rintro e w1 ⟨rfl, rfl⟩
        have hs : (Ac.numR 4 (some (l.drop (4 + v)))).1 = Ac.val ((l.drop (4 + v)).take 4) := by
          unfold Ac.numR
          simp only
          rw [if_pos (by rw [List.length_drop, ← HN.out]; omega)]
        rw [hs, decide_eq_true (by omega : 4 ≤ n - (4 + v))]
        clear hs
        have hsl := Ac.val_lt ((l.drop (4 + v)).take 4)
        rw [List.length_take, Nat.min_eq_left (by rw [List.length_drop, ← HN.out]; omega)] at hsl
        obtain ⟨s, hse⟩ : ∃ s, s = Ac.val ((l.drop (4 + v)).take 4) := ⟨_, rfl⟩
        rw [← hse] at hsl ⊢
        have HS := Lib.hid hse
        clear hse
        have hs2 : (s : Int) < 4294967296 := by omega
        go_wp2_with fail
        refine (asum_any HB.out.2 (by omega)).mono ?_
        rintro e w1 ⟨rfl, rfl⟩
        have hql := Pk.crc_lt (l.take (4 + v))
        obtain ⟨q, hq⟩ : ∃ q, q = (Crc.crc (l.take (4 + v))).toNat := ⟨_, rfl⟩
        rw [← hq] at hql ⊢
        have HQ := Lib.hid hq
        clear hq
        have hq2 : (q : Int) < 4294967296 := by omega
        by_cases hsq : s = q
        · have e1 : Pk.openL l = some ((l.drop 4).take v) := by
            unfold Pk.openL
            rw [if_neg (by rw [← HN.out]; omega), ← HV.out, if_neg hbig, if_neg (by rw [← HN.out]; exact hsh), ← HS.out, ← HQ.out, if_pos hsq]
          have HE := Lib.hid e1
          clear e1
          have hc4 : ¬ c = 4 := by omega
          have t3 : ((s : Int) != (q : Int)) = false := by simp; omega
          clear hsq hql hsl hvl hv2 t1 t2 hs2 hbig hsh hn2
          have j1 : (4 : Int) ≤ 4 + (v : Int) := by omega
          obtain ⟨A5, c5, w5, hap, ho5, hc5⟩ := app_nilB HB4.out (by omega)
          have H5 := Lib.hid (And.intro ho5 hc5)
          clear ho5 hc5
          go_wp2_with (at_builtin; refine wpList_appR (by rfl) _ _ _ _ (by rfl) _ _ _ _ (by rfl) (by rfl) hap ?_)
          go_ret3
          refine ⟨A5, v, c5, v + 8, 0, ?_, H5.out.2, .inr ⟨_, HE.out, rfl, ?_, ?_⟩⟩
          · show Ending.returned (Value.tuple #[.slice A5 v c5, .int .i64 (4 + (v : Int) + 4), .int .i64 0]) = _
            rw [show (4 + (v : Int) + 4 : Int) = ((v + 8 : Nat) : Int) from by omega]
          · rw [← HB4.out.len]
            omega
          · have h5 := H5.out.1
            rwa [show 4 + v - 4 = v from by omega] at h5
        · have t3 : ((s : Int) != (q : Int)) = true := by simp; omega
          have HSQ := Lib.hid hsq
          have HBG := Lib.hid (And.intro hbig (And.intro hsh h4))
          clear hql hsl hvl hsq hv2 hv3 i1 i2 i3 t1 t2 hs2 hn hn2 hnc hbig hsh h4
          have e1 : Pk.openL l = none := by
            unfold Pk.openL
            rw [if_neg (by have := HBG.out.2.2; rw [← HN.out]; omega), ← HV.out, if_neg HBG.out.1, if_neg (by rw [← HN.out]; exact HBG.out.2.1), ← HS.out, ← HQ.out, if_neg HSQ.out]
          have HE := Lib.hid e1
          clear e1
          go_wp2
          go_ret3
          exact ⟨none, 0, 0, 0, _, rfl, Chg.refl _ _, .inl ⟨HE.out, by decide⟩⟩
  · rw [decide_eq_false h4]
    have e1 : Pk.openL l = none := by
      unfold Pk.openL
      rw [if_pos (by rw [← HN.out]; omega)]
    have HE := Lib.hid e1
    clear e1
    go_wp2
    go_ret3
    exact ⟨none, 0, 0, 0, _, rfl, Chg.refl _ _, .inl ⟨HE.out, by decide⟩⟩
set_option maxRecDepth 100000 in
set_option maxHeartbeats 4000000 in
theorem ropen_any {w : World} {A : Option Addr} {n c : Nat} {l : Bs} (h : Bt w A n c l) (hn : n ≤ 900000) :
    Calls Tryd.prog 34 #[.slice A n c] w (Opened w l) := by
  have HL := Lib.hid (And.intro h trivial)
  have HN := Lib.hid h.len
  have hnc := h.le
  clear h
  have hn2 : (n : Int) ≤ 900000 := by omega
  go_enter Tryd.func34, Tryd.ntmps34
  go_wp2_with fail
  refine (rget_any 4 (by unfold WidK; omega) w A n c l HL.out.1 (by omega)).mono ?_
  rintro e w1 ⟨rfl, rfl⟩
  by_cases h4 : 4 ≤ n
  · rw [decide_eq_true h4]
    obtain ⟨b0, hA, hc0⟩ := HL.out.1.cell (k := 0) (b := l[0]'(by rw [← HN.out]; omega)) (List.getElem?_eq_getElem _)
    have hsp := HL.out.1.plain b0 hA
    clear hc0
    obtain ⟨g, off, sp⟩ := b0
    simp only at hsp
    subst hsp
    subst hA
    have hv : (Ac.numR 4 (some l)).1 = Ac.val (l.take 4) := by
      unfold Ac.numR
      simp only
      rw [if_pos (by rw [← HN.out]; exact h4)]
    rw [hv]
    clear hv
    have hvl := Ac.val_lt (l.take 4)
    rw [List.length_take, Nat.min_eq_left (by rw [← HN.out]; exact h4)] at hvl
    obtain ⟨v, hve⟩ : ∃ v, v = Ac.val (l.take 4) := ⟨_, rfl⟩
    rw [← hve] at hvl ⊢
    have HV := Lib.hid hve
    clear hve
    have hv2 : (v : Int) < 4294967296 := by omega
    by_cases hbig : 1048576 < v
    · have t1 : decide ((1048576 : Int) < (v : Int)) = true := decide_eq_true (by omega)
      have e1 : Pk.openL l = none := by
        unfold Pk.openL
        rw [if_neg (by rw [← HN.out]; omega), ← HV.out, if_pos hbig]
      have HE := Lib.hid e1
      clear e1
      go_wp2
      go_ret3
      exact ⟨none, 0, 0, 0, _, rfl, Chg.refl _ _, .inl ⟨HE.out, by decide⟩⟩
    · have t1 : decide ((1048576 : Int) < (v : Int)) = false := decide_eq_false (by omega)
      by_cases hsh : n < v + 8
      · have t2 : decide ((n : Int) < (v : Int) + 8) = true := decide_eq_true (by omega)
        have e1 : Pk.openL l = none := by
          unfold Pk.openL
          rw [if_neg (by rw [← HN.out]; omega), ← HV.out, if_neg hbig, if_pos (by rw [← HN.out]; exact hsh)]
        have HE := Lib.hid e1
        clear e1
        go_wp2
        go_ret3
        exact ⟨none, 0, 0, 0, _, rfl, Chg.refl _ _, .inl ⟨HE.out, by decide⟩⟩
      · have t2 : decide ((n : Int) < (v : Int) + 8) = false := decide_eq_false (by omega)
        have hv3 : (v : Int) ≤ 900000 := by omega
        have i1 : (0 : Int) ≤ 4 + (v : Int) := by omega
        have i2 : 4 + (v : Int) ≤ (n : Int) := by omega
        have i3 : 4 + (v : Int) ≤ (c : Int) := by omega
        have HB := Lib.hid (And.intro (HL.out.1.drop (4 + v) (n - (4 + v)) (by omega) rfl) (HL.out.1.take (4 + v) (by omega)))
        have e2 : cutA (some ⟨g, off, none⟩) c (4 + v) 1 = some ⟨g, off + (4 + v), none⟩ := by unfold cutA; rw [if_neg (by omega), Nat.mul_one, Option.map_some, add_none]
        have e3 : cutA (some ⟨g, off, none⟩) c 4 1 = some ⟨g, off + 4, none⟩ := by unfold cutA; rw [if_neg (by omega), Nat.mul_one, Option.map_some, add_none]
        have hb4 := (HL.out.1.take (4 + v) (by omega)).drop 4 (4 + v - 4) (by omega) rfl
        have e5 : (l.drop 4).take (4 + v - 4) = (l.drop 4).take v := by rw [show 4 + v - 4 = v from by omega]
        rw [e3, List.drop_take, e5] at hb4
        clear e5
        rw [e2] at HB
        have HB4 := Lib.hid hb4
        clear e2 e3 hb4
        go_wp2_with fail
        refine (rget_any 4 (by unfold WidK; omega) w _ _ _ _ HB.out.1 (by omega)).mono ?_
        rintro e w1 ⟨rfl, rfl⟩
        have hs : (Ac.numR 4 (some (l.drop (4 + v)))).1 = Ac.val ((l.drop (4 + v)).take 4) := by
          unfold Ac.numR
          simp only
          rw [if_pos (by rw [List.length_drop, ← HN.out]; omega)]
        rw [hs, decide_eq_true (by omega : 4 ≤ n - (4 + v))]
        clear hs
        have hsl := Ac.val_lt ((l.drop (4 + v)).take 4)
        rw [List.length_take, Nat.min_eq_left (by rw [List.length_drop, ← HN.out]; omega)] at hsl
        obtain ⟨s, hse⟩ : ∃ s, s = Ac.val ((l.drop (4 + v)).take 4) := ⟨_, rfl⟩
        rw [← hse] at hsl ⊢
        have HS := Lib.hid hse
        clear hse
        have hs2 : (s : Int) < 4294967296 := by omega
        go_wp2_with fail
        refine (rsum_any HB.out.2 (by omega)).mono ?_
        rintro e w1 ⟨rfl, rfl⟩
        have hql := Pk.crc_lt (l.take (4 + v))
        obtain ⟨q, hq⟩ : ∃ q, q = (Crc.crc (l.take (4 + v))).toNat := ⟨_, rfl⟩
        rw [← hq] at hql ⊢
        have HQ := Lib.hid hq
        clear hq
        have hq2 : (q : Int) < 4294967296 := by omega
        by_cases hsq : s = q
        · have e1 : Pk.openL l = some ((l.drop 4).take v) := by
            unfold Pk.openL
            rw [if_neg (by rw [← HN.out]; omega), ← HV.out, if_neg hbig, if_neg (by rw [← HN.out]; exact hsh), ← HS.out, ← HQ.out, if_pos hsq]
          have HE := Lib.hid e1
          clear e1
          have hc4 : ¬ c = 4 := by omega
          have t3 : ((s : Int) != (q : Int)) = false := by simp; omega
          clear hsq hql hsl hvl hv2 t1 t2 hs2 hbig hsh hn2
          have j1 : (4 : Int) ≤ 4 + (v : Int) := by omega
          obtain ⟨A5, c5, w5, hap, ho5, hc5⟩ := app_litB HB4.out (by omega)
          have H5 := Lib.hid (And.intro ho5 hc5)
          clear ho5 hc5
          go_wp2_with (at_builtin; refine wpList_appR (by rfl) _ _ _ _ (by rfl) _ _ _ _ (by rfl) (by rfl) hap ?_)
          go_ret3
          refine ⟨A5, v, c5, v + 8, 0, ?_, H5.out.2, .inr ⟨_, HE.out, rfl, ?_, ?_⟩⟩
          · show Ending.returned (Value.tuple #[.slice A5 v c5, .int .i64 ((v : Int) + 8), .int .i64 0]) = _
            rw [show ((v : Int) + 8 : Int) = ((v + 8 : Nat) : Int) from by omega]
          · rw [← HB4.out.len]
            omega
          · have h5 := H5.out.1
            rwa [show 4 + v - 4 = v from by omega] at h5
        · have t3 : ((s : Int) != (q : Int)) = true := by simp; omega
          have HSQ := Lib.hid hsq
          have HBG := Lib.hid (And.intro hbig (And.intro hsh h4))
          clear hql hsl hvl hsq hv2 hv3 i1 i2 i3 t1 t2 hs2 hn hn2 hnc hbig hsh h4
          have e1 : Pk.openL l = none := by
            unfold Pk.openL
            rw [if_neg (by have := HBG.out.2.2; rw [← HN.out]; omega), ← HV.out, if_neg HBG.out.1, if_neg (by rw [← HN.out]; exact HBG.out.2.1), ← HS.out, ← HQ.out, if_neg HSQ.out]
          have HE := Lib.hid e1
          clear e1
          go_wp2
          go_ret3
          exact ⟨none, 0, 0, 0, _, rfl, Chg.refl _ _, .inl ⟨HE.out, by decide⟩⟩
  · rw [decide_eq_false h4]
    have e1 : Pk.openL l = none := by
      unfold Pk.openL
      rw [if_pos (by rw [← HN.out]; omega)]
    have HE := Lib.hid e1
    clear e1
    go_wp2
    go_ret3
    exact ⟨none, 0, 0, 0, _, rfl, Chg.refl _ _, .inl ⟨HE.out, by decide⟩⟩
end Go.Proofs.YtgnhpjakjoaejaaDoor
