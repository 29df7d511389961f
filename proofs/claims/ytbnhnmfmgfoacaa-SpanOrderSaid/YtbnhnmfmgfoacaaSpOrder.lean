/- SpanOrder: the order in which numbers are added does not matter. -/
import Derived.Test.YtbnhnmfmgfoacaaSpArgs
set_option linter.unusedVariables false
set_option linter.unusedSimpArgs false
namespace Go.Proofs.Ytbnhnmfmgfoacaa.spanOrder
open Go.RowKit Go.Shelf Go.Proofs.Ytbnhnmfmgfoacaa Go.Proofs.YtbnhnmfmgfoacaaW.PrintWords

/-- What both sets are, after k rounds. -/
structure I (w wr : World) (pa pb : Nat) (l : List Int) (k : Nat) (Ra Rb : List Rng) : Prop where
  a : St w wr pa Ra
  b : St w wr pb Rb
  ha : Holds Ra (l.take k) k
  hb : Holds Rb (l.drop (l.length - k)) k

theorem size_take {R : List Rng} {k : Nat} {r : Rng} (h : R[k]? = some r) : sizeR (R.take (k + 1)) = sizeR (R.take k) + (r.2 + 1 - r.1) := by
  rw [List.take_add_one, h, sizeR_append]; simp [sizeR]
theorem size_take_le (R : List Rng) (k : Nat) : sizeR (R.take k) ≤ sizeR R := by
  have := sizeR_append (R.take k) (R.drop k)
  rw [List.take_append_drop] at this
  omega

set_option maxRecDepth 100000 in
set_option maxHeartbeats 8000000 in
theorem core (A : Option Addr) (c : Nat) (l : List Int) (hw : ∀ x ∈ l, (Lit.int .u64 x).wf = true) (W : World) (hC : Kd.C (Kd.int .u64) W A l.length l) (hr : l.length * 8 ≤ 140737488351232) :
    Calls Try.prog 4 #[.slice A l.length c] W fun e w' => e = .returned (.bool true) ∧ Chg [] W w' := by
  have HC := Lib.hid hC
  have HW := Lib.hid hw
  clear hC hw
  by_cases hlen : 200 < l.length
  · go_enter Try.func4, Try.ntmps4
    go_wp2_with fail
    refine (lives_any _).mono ?_
    rintro e w' ⟨rfl, hc⟩
    have HH := Lib.hid hc
    clear hc
    go_wp2
    go_ret
    exact ⟨rfl, HH.out⟩
  obtain ⟨n, hn⟩ : ∃ n, n = l.length := ⟨_, rfl⟩
  have HN := Lib.hid hn
  rw [← hn] at hlen hr
  rw [← hn]
  clear hn
  go_enter Try.func4, Try.ntmps4
  go_wp2_with fail
  refine (St.new W W (Chg.refl _ _)).mono ?_
  rintro e w1 ⟨rfl, hs, hc, hlt⟩
  have HS1 := Lib.hid (And.intro hs (And.intro hc hlt))
  clear hs hc hlt
  go_wp2_with fail
  refine (St.new W w1 HS1.out.2.1).mono ?_
  rintro e w2 ⟨rfl, hs, hc, hlt⟩
  have hne : W.heap.size ≠ w1.heap.size := by have := HS1.out.2.2; omega
  have hI0 : I W w2 W.heap.size w1.heap.size l 0 [] [] := ⟨HS1.out.1.to hc, hs, Holds.nil, by rw [Nat.sub_zero, List.drop_length]; exact Holds.nil⟩
  have HI0 := Lib.hid (And.intro hI0 hne)
  clear hs hc hlt hI0 hne
  obtain ⟨pa, hpa⟩ : ∃ pa, pa = W.heap.size := ⟨_, rfl⟩
  obtain ⟨pb, hpb⟩ : ∃ pb, pb = w1.heap.size := ⟨_, rfl⟩
  rw [← hpa, ← hpb] at HI0
  rw [← hpa, ← hpb]
  clear hpa hpb
  go_wp2
  go_loopw [25, 5, 6] (fun i s5 s6 wr => ∃ (k : Nat) (Ra Rb : List Rng), k ≤ n ∧ i = .int .i64 k ∧ s5 = .int .i64 (sizeR Ra : Nat) ∧ s6 = .int .i64 (sizeR Rb : Nat) ∧ I W wr pa pb l k Ra Rb) (fun i _ _ _ => n - (intOf i).toNat)
  case atStart => exact ⟨0, [], [], Nat.zero_le _, rfl, rfl, rfl, HI0.out.1⟩
  case round =>
    obtain ⟨k, Ra, Rb, hk, rfl, rfl, rfl, hI⟩ := hrel
    have HI := Lib.hid hI
    have sa := hI.ha.size
    have sb := hI.hb.size
    obtain ⟨fa, hfa⟩ : ∃ fa, fa = sizeR Ra := ⟨_, rfl⟩
    obtain ⟨fb, hfb⟩ : ∃ fb, fb = sizeR Rb := ⟨_, rfl⟩
    rw [← hfa] at sa
    rw [← hfb] at sb
    rw [← hfa, ← hfb]
    have HF := Lib.hid (And.intro hfa hfb)
    clear hfa hfb hI
    by_cases hlt : k < n
    · have hltl : k < l.length := by rw [← HN.out]; exact hlt
      have hltl2 : n - 1 - k < l.length := by rw [← HN.out]; omega
      obtain ⟨ad, x, hAx, hx, hcx, hlx⟩ := u64_at HC.out HW.out hltl
      obtain ⟨ad2, y, hAy, hy, hcy, hly⟩ := u64_at HC.out HW.out hltl2
      subst hAx
      obtain rfl : ad = ad2 := Option.some.inj hAy
      clear hAy
      have hcx' := HI.out.a.chg.cell_some hcx (by simp)
      have hcy' := HI.out.a.chg.cell_some hcy (by simp)
      rw [HN.out] at hly
      have HX := Lib.hid (And.intro hlx (And.intro hly (And.intro hx hy)))
      clear hcx hlx hly hltl hltl2 hx hy
      have i1 : (0 : Int) ≤ (k : Int) := by omega
      have i2 : (k : Int) < (n : Int) := by omega
      have i3 : (0 : Int) ≤ (n : Int) - 1 - (k : Int) := by omega
      have i4 : (n : Int) - 1 - (k : Int) < (n : Int) := by omega
      have i5 : ((n : Int) - 1 - (k : Int)).toNat = n - 1 - k := by omega
      obtain ⟨b1, hb1⟩ : ∃ b1, (decide (0 < x) && !memR Ra x) = b1 := ⟨_, rfl⟩
      obtain ⟨b2, hb2⟩ : ∃ b2, (decide (0 < y) && !memR Rb y) = b2 := ⟨_, rfl⟩
      have h1a := HI.out.ha.add HX.out.2.2.1 (mem_take_succ HX.out.1)
      have h1b := HI.out.hb.add HX.out.2.2.2 (mem_drop_pred (by rw [← HN.out]; exact hlt) HX.out.2.1)
      rw [hb1, ← HF.out.1] at h1a
      rw [hb2, ← HF.out.2] at h1b
      have HB := Lib.hid (And.intro hb1 hb2)
      have H1 := Lib.hid (And.intro h1a h1b)
      clear hb1 hb2 h1a h1b
      cases b1 <;> cases b2
      all_goals
        go_wp2_with fail
        refine (St.add HI.out.a x _ _ HI.out.ha.wf HX.out.2.2.1 (by have := HI.out.ha.len; omega) HB.out.1 rfl).mono ?_
        rintro e w3 ⟨rfl, hs, hc⟩
        have HS3 := Lib.hid (And.intro hs (HI.out.b.other HI.out.a (Ne.symm HI0.out.2) hc))
        have hcy3 := hs.chg.cell_some hcy (by simp)
        clear hs hc
        go_wp2_with fail
        refine (St.add HS3.out.2 y _ _ HI.out.hb.wf HX.out.2.2.2 (by have := HI.out.hb.len; omega) HB.out.2 rfl).mono ?_
        rintro e w4 ⟨rfl, hs, hc⟩
        have HS4 := Lib.hid (And.intro hs (HS3.out.1.other HS3.out.2 HI0.out.2 hc))
        clear hs hc
        go_wp2
        go_roundw
        case rel =>
          refine ⟨k + 1, _, _, by omega, by go_num, ?_, ?_, HS4.out.2, HS4.out.1, H1.out.1.1, H1.out.2.1⟩
          · rw [H1.out.1.2]; rfl
          · rw [H1.out.2.2]; rfl
        case measure => simp [intOf]; omega
    · obtain rfl : k = n := by omega
      have heq : Ra = Rb := by
        refine HI.out.ha.uniq HI.out.hb fun m => ?_
        rw [HN.out, List.take_length, Nat.sub_self, List.drop_zero]
      subst heq
      obtain rfl : fa = fb := by rw [HF.out.1, HF.out.2]
      have HA : Hid (St W wr pa Ra) := HI.out.a
      have hla : Ra.length ≤ k := HI.out.ha.len
      have hla2 : Ra.length ≤ 1000000 := by omega
      obtain ⟨ln, hln⟩ : ∃ ln, ln = Ra.length := ⟨_, rfl⟩
      have hwf := HI.out.ha.wf
      have HWF := Lib.hid hwf
      have hgap : gapsR Ra ≤ (fa : Int) := by
        have := sizeR_len hwf
        have h2 := HF.out.1
        unfold gapsR
        split <;> omega
      have HGAP := Lib.hid hgap
      obtain ⟨G, hG⟩ : ∃ G, G = gapsR Ra := ⟨_, rfl⟩
      rw [← hG] at hgap
      have HG := Lib.hid hG
      have HLN := Lib.hid hln
      have HFA := Lib.hid HF.out.1
      have HBR : Hid (St W wr pb Ra) := HI.out.b
      have hlnk : ln ≤ 200 := by omega
      clear HI HF hwf hla hln hG HGAP
      go_wp2_with fail
      refine (St.ranges HA.out hla2).mono ?_
      rintro e wA ⟨A1, c1, rfl, hr1, hc1, hs1⟩
      have HA1 := Lib.hid (And.intro hr1 (And.intro hc1 hs1))
      clear hr1 hc1 hs1
      rw [← HLN.out]
      go_wp2
      go_loopw [52, 8] (fun i s8 wx => ∃ j : Nat, j ≤ ln ∧ i = .int .i64 j ∧ s8 = .int .u64 (sizeR (Ra.take j) : Nat) ∧ Chg [] wA wx) (fun i _ _ => ln - (intOf i).toNat)
      case atStart => exact ⟨0, Nat.zero_le _, rfl, rfl, Chg.refl _ _⟩
      case round =>
        obtain ⟨j, hj, rfl, rfl, hcx⟩ := hrel
        have HX := Lib.hid hcx
        clear hcx
        by_cases hjl : j < ln
        · have hjr : j < Ra.length := by rw [← HLN.out]; exact hjl
          obtain ⟨b, rfl, hcap, x0, x1⟩ := HA1.out.1.at_ hjr
          have x0' := HX.out.cell_some x0 (by simp)
          have x1' := HX.out.cell_some x1 (by simp)
          have hs1 := size_take (List.getElem?_eq_getElem hjr)
          have hs2 := size_take_le Ra (j + 1)
          have hwr := HWF.out.mem Ra[j] (List.getElem_mem hjr)
          rw [← HFA.out] at hs2
          obtain ⟨r, hrr⟩ : ∃ r, r = Ra[j] := ⟨_, rfl⟩
          rw [← hrr] at x0' x1' hs1 hwr
          obtain ⟨lo, hi⟩ := r
          simp only at x0' x1' hs1 hwr
          obtain ⟨s, hs⟩ : ∃ s, s = sizeR (Ra.take j) := ⟨_, rfl⟩
          rw [← hs] at hs1
          rw [← hs]
          obtain ⟨d, hd⟩ : ∃ d, d = hi - lo := ⟨_, rfl⟩
          have hdl : s + (d + 1) ≤ 200 := by omega
          have w1 : ∀ q : IntKind, q = .u64 → q.wrap ((hi : Int) - (lo : Int)) = (d : Int) := fun q hq => by rw [hq, IntKind.wrap_u64]; omega
          have w2 : ∀ q : IntKind, q = .u64 → q.wrap ((d : Int) + 1) = (d : Int) + 1 := fun q hq => by rw [hq, IntKind.wrap_u64]; omega
          have w3 : ∀ q : IntKind, q = .u64 → q.wrap ((s : Int) + ((d : Int) + 1)) = (s : Int) + ((d : Int) + 1) := fun q hq => by rw [hq, IntKind.wrap_u64]; omega
          have HS : Hid (sizeR (Ra.take (j + 1)) = s + (d + 1)) := Lib.hid (show sizeR (Ra.take (j + 1)) = s + (d + 1) by omega)
          have i1 : (0 : Int) ≤ (j : Int) := by omega
          have i2 : (j : Int) < (ln : Int) := by omega
          clear hs1 hs2 hwr hrr hs hd x0 x1 hjr hcap
          go_wp2
          go_roundw
          case rel =>
            refine ⟨j + 1, by omega, by go_num, ?_, HX.out.alloc _⟩
            rw [HS.out]; rfl
          case measure => simp [intOf]; omega
        · obtain rfl : j = ln := by omega
          have e1 : sizeR (Ra.take j) = fa := by rw [HFA.out, HLN.out, List.take_length]
          rw [e1]
          clear e1
          have HA2 := Lib.hid (HA1.out.2.2.to HX.out)
          have HB2 := Lib.hid (HBR.out.to (HA1.out.2.1.trans HX.out))
          have hfz : (fa : Int) ≤ 200 := by omega
          have w4 : ∀ q : IntKind, q = .u64 → q.wrap (fa : Int) = (fa : Int) := fun q hq => by rw [hq, IntKind.wrap_u64]; omega
          clear hla2
          go_wp2_with fail
          refine (St.ranges HA2.out (by rw [← HLN.out]; omega)).mono ?_
          rintro e wB ⟨A2, c2, rfl, hr2, hc2, hs2⟩
          have HA3 := Lib.hid (And.intro hr2 (And.intro hc2 hs2))
          have HB3 := Lib.hid (HB2.out.to hc2)
          clear hr2 hc2 hs2
          go_wp2_with fail
          refine (St.ranges HB3.out (by rw [← HLN.out]; omega)).mono ?_
          rintro e wC ⟨A3, c3, rfl, hr3, hc3, hs3⟩
          have HA4 := Lib.hid (And.intro (HA3.out.1.chg0 hc3) (And.intro hr3 (HA3.out.2.2.to hc3)))
          clear hr3 hc3 hs3
          go_wp2_with fail
          refine (same_any _ _ _ _ _ Ra Ra HA4.out.1 HA4.out.2.1 (by rw [← HLN.out]; omega) (by rw [← HLN.out]; omega)).mono ?_
          rintro e wD ⟨rfl, hc4⟩
          have HA5 := Lib.hid (HA4.out.2.2.to hc4)
          clear hc4
          rw [decide_eq_true (rfl : Ra = Ra)]
          go_wp2_with fail
          refine (gaps_any _ _ _ HA5.out.set_ (by rw [← HLN.out]; omega)).mono ?_
          rintro e wE ⟨rfl, rfl⟩
          rw [← HG.out]
          go_wp2_with fail
          refine (lives_any _).mono ?_
          rintro e wF ⟨rfl, hc5⟩
          have HF5 := Lib.hid (HA5.out.chg.trans hc5)
          clear hc5
          go_wp2
          go_ret
          exact ⟨rfl, HF5.out⟩

theorem walk (A : Option Addr) (c : Nat) (l : List Int) (_hc : l.length ≤ c) (hr : l.length * 8 ≤ 140737488351232) (hw : ∀ x ∈ l, (Lit.int .u64 x).wf = true) (W : World) (hC : Kd.C (Kd.int .u64) W A l.length l) :
    Calls Try.prog 4 #[.slice A l.length c] W fun e w' => e = .returned (.bool true) ∧ Below W.heap.size W w' :=
  (core A c l hw W hC hr).mono fun _ _ ⟨he, hc⟩ => ⟨he, hc.below (Nat.le_refl _) (by simp)⟩
end Go.Proofs.Ytbnhnmfmgfoacaa.spanOrder
