/- SpanHoles: ranges rise and do not touch; gaps are not more than numbers that lack. -/
import Derived.Test.YtbnhnmfmgfoacaaSpHolesP
import Derived.Test.YtbnhnmfmgfoacaaLHold
set_option linter.unusedVariables false
set_option linter.unusedSimpArgs false
namespace Go.Proofs.Ytbnhnmfmgfoacaa.spanHoles
open Go.RowKit Go.Shelf Go.Proofs.Ytbnhnmfmgfoacaa Go.Proofs.YtbnhnmfmgfoacaaW.PrintWords

set_option maxRecDepth 100000 in
set_option maxHeartbeats 8000000 in
theorem core (A : Option Addr) (c : Nat) (l : List Int) (hw : ∀ x ∈ l, (Lit.int .u64 x).wf = true) (W : World) (hC : Kd.C (Kd.int .u64) W A l.length l) (hr : l.length * 8 ≤ 140737488351232) :
    Calls Try.prog 5 #[.slice A l.length c] W fun e w' => e = .returned (.bool true) ∧ Chg [] W w' := by
  have HC := Lib.hid hC
  have HW := Lib.hid hw
  clear hC hw
  by_cases hlen : 200 < l.length
  · go_enter Try.func5, Try.ntmps5
    go_wp2_with fail
    refine (lives_any _).mono ?_
    rintro e w' ⟨rfl, hc⟩
    have HH := Lib.hid hc
    clear hc
    go_wp2
    go_ret
    exact ⟨rfl, HH.out⟩
  obtain ⟨n, hn⟩ : ∃ n, n = l.length := ⟨_, rfl⟩
  have HN := Lib.hid hn
  rw [← hn] at hlen hr
  rw [← hn]
  clear hn
  go_enter Try.func5, Try.ntmps5
  go_wp2_with fail
  refine (St.new W W (Chg.refl _ _)).mono ?_
  rintro e w1 ⟨rfl, hs, hc, hlt⟩
  have HS1 := Lib.hid hs
  clear hs hc hlt
  obtain ⟨p, hp⟩ : ∃ p, p = W.heap.size := ⟨_, rfl⟩
  rw [← hp] at HS1
  rw [← hp]
  clear hp
  go_wp2
  go_loopw [19] (fun i wr => ∃ (k : Nat) (R : List Rng), k ≤ n ∧ i = .int .i64 k ∧ St W wr p R ∧ Holds R (l.take k) k) (fun i _ => n - (intOf i).toNat)
  case atStart => exact ⟨0, [], Nat.zero_le _, rfl, HS1.out, Holds.nil⟩
  case round =>
    obtain ⟨k, R, hk, rfl, hs, hh⟩ := hrel
    have HS := Lib.hid hs
    have HH := Lib.hid hh
    clear hs hh
    by_cases hlt : k < n
    · have hltl : k < l.length := by rw [← HN.out]; exact hlt
      obtain ⟨ad, x, rfl, hx, hcx, hlx⟩ := u64_at HC.out HW.out hltl
      have hcx' := HS.out.chg.cell_some hcx (by simp)
      have HX := Lib.hid (And.intro hlx hx)
      clear hcx hlx hltl hx
      have i1 : (0 : Int) ≤ (k : Int) := by omega
      have i2 : (k : Int) < (n : Int) := by omega
      go_wp2_with fail
      refine (St.add HS.out x _ _ HH.out.wf HX.out.2 (by have := HH.out.len; omega) rfl rfl).mono ?_
      rintro e w3 ⟨rfl, hs, hc⟩
      have HS3 := Lib.hid hs
      clear hs hc
      go_wp2
      go_roundw
      case rel => exact ⟨k + 1, _, by omega, by go_num, HS3.out, (HH.out.add HX.out.2 (mem_take_succ HX.out.1)).1⟩
      case measure => simp [intOf]; omega
    · obtain rfl : k = n := by omega
      have hla : R.length ≤ 1000000 := by have := HH.out.len; omega
      obtain ⟨ln, hln⟩ : ∃ ln, ln = R.length := ⟨_, rfl⟩
      have hwf := HH.out.wf
      have HWF := Lib.hid hwf
      have HLN := Lib.hid hln
      have hsz : sizeR R ≤ 200 := by have := HH.out.size; omega
      have hlnk : ln ≤ 200 := by have := HH.out.len; omega
      have HSZ := Lib.hid hsz
      clear hwf hln hsz
      go_wp2_with fail
      refine (St.ranges HS.out hla).mono ?_
      rintro e wA ⟨A1, c1, rfl, hr1, hc1, hs1⟩
      have HA := Lib.hid (And.intro hr1 (And.intro hc1 hs1))
      clear hr1 hc1 hs1 hla
      rw [← HLN.out]
      go_wp2
      go_loopw [31, 7] (fun i s7 wx => ∃ j : Nat, j ≤ ln ∧ i = .int .i64 j ∧ s7 = .int .u64 (sizeR (R.take j) : Nat) ∧ Chg [] wA wx) (fun i _ _ => ln - (intOf i).toNat)
      case atStart => exact ⟨0, Nat.zero_le _, rfl, rfl, Chg.refl _ _⟩
      case round =>
        obtain ⟨j, hj, rfl, rfl, hcx⟩ := hrel
        have HX := Lib.hid hcx
        clear hcx
        by_cases hjl : j < ln
        · have hjr : j < R.length := by rw [← HLN.out]; exact hjl
          obtain ⟨b, rfl, hcap, x0, x1⟩ := HA.out.1.at_ hjr
          have y0 := HX.out.cell_some x0 (by simp)
          have y1 := HX.out.cell_some x1 (by simp)
          have hs1 := size_take (List.getElem?_eq_getElem hjr)
          have hs2 := size_take_le R (j + 1)
          have hat := HWF.out.at_ (List.getElem?_eq_getElem hjr)
          have hlo := HWF.out.holds_lo (List.getElem?_eq_getElem hjr)
          have hna := HWF.out.not_ahead (List.getElem?_eq_getElem hjr) hat.1
          obtain ⟨r, hrr⟩ : ∃ r, r = R[j] := ⟨_, rfl⟩
          rw [← hrr] at y0 y1 hs1 hat hlo hna
          obtain ⟨lo, hi⟩ := r
          simp only at y0 y1 hs1 hat hlo hna
          have hszl := HSZ.out
          obtain ⟨s, hs⟩ : ∃ s, s = sizeR (R.take j) := ⟨_, rfl⟩
          rw [← hs] at hs1
          rw [← hs]
          obtain ⟨d, hd⟩ : ∃ d, d = hi - lo := ⟨_, rfl⟩
          obtain ⟨lm, hlm⟩ : ∃ lm, lm = lo - 1 := ⟨_, rfl⟩
          rw [← hlm] at hna
          have hdl : s + (d + 1) ≤ 200 := by omega
          have w1 : ∀ q : IntKind, q = .u64 → q.wrap ((hi : Int) - (lo : Int)) = (d : Int) := fun q hq => by rw [hq, IntKind.wrap_u64]; unfold M64 at hat; omega
          have w2 : ∀ q : IntKind, q = .u64 → q.wrap ((d : Int) + 1) = (d : Int) + 1 := fun q hq => by rw [hq, IntKind.wrap_u64]; omega
          have w3 : ∀ q : IntKind, q = .u64 → q.wrap ((s : Int) + ((d : Int) + 1)) = (s : Int) + ((d : Int) + 1) := fun q hq => by rw [hq, IntKind.wrap_u64]; omega
          have w4 : ∀ q : IntKind, q = .u64 → q.wrap ((lo : Int) - 1) = (lm : Int) := fun q hq => by rw [hq, IntKind.wrap_u64]; unfold M64 at hat; omega
          have HSN : Hid (sizeR (R.take (j + 1)) = s + (d + 1)) := Lib.hid (show sizeR (R.take (j + 1)) = s + (d + 1) by omega)
          have i1 : (0 : Int) ≤ (j : Int) := by omega
          have i2 : (j : Int) < (ln : Int) := by omega
          have t1 : decide ((lo : Int) < 1) = false := by simp; omega
          have t2 : decide ((hi : Int) < (lo : Int)) = false := by simp; omega
          have t1a : decide (lo < 1) = false := by simp; omega
          have t1b : decide (lo = 0) = false := by simp; omega
          have t2a : decide (hi < lo) = false := by simp; omega
          have HHAS : Hid (∀ W1 : World, Chg [] wA W1 → (Calls Try.prog 15 #[.pointer (some ⟨p, 0, none⟩), .int .u64 (lo : Nat)] W1 fun e w' => e = .returned (.bool true) ∧ Chg [] W1 w') ∧
              (Calls Try.prog 15 #[.pointer (some ⟨p, 0, none⟩), .int .u64 (hi : Nat)] W1 fun e w' => e = .returned (.bool true) ∧ Chg [] W1 w') ∧
              (Calls Try.prog 15 #[.pointer (some ⟨p, 0, none⟩), .int .u64 (lm : Nat)] W1 fun e w' => e = .returned (.bool false) ∧ Chg [] W1 w')) := by
            intro W1 hW1
            have hset := (HA.out.2.2.to hW1).set_
            have hl2 : R.length ≤ 1000000 := by rw [← HLN.out]; omega
            refine ⟨?_, ?_, ?_⟩
            · rw [← hlo.1]; exact has2_any W1 p R lo hset HWF.out hl2
            · rw [← hlo.2]; exact has2_any W1 p R hi hset HWF.out hl2
            · rw [← hna]; exact has2_any W1 p R lm hset HWF.out hl2
          clear hs1 hs2 hrr hs hd hlm hszl hcap
          go_upto_region 16 with fail
          obtain ⟨B, hB⟩ : ∃ B, B = wr.alloc (.cells #[.int .u64 (lo : Nat), .int .u64 (hi : Nat)] 36) := ⟨_, rfl⟩
          have hBC : Chg [] wr B := by rw [hB]; exact (Chg.refl [] wr).alloc _
          have hBB : Blk B wr.heap.size 36 #[.int .u64 (lo : Nat), .int .u64 (hi : Nat)] := by rw [hB]; exact Blk.new _ _ _
          rw [← hB]
          have HB := Lib.hid (And.intro hBC hBB)
          clear hB
          have z0 := hBB.cell 0
          have z1 := hBB.cell 1
          simp only [List.getElem?_toArray, List.getElem?_cons_succ, List.getElem?_cons_zero] at z0 z1
          have HHAS2 : Hid (∀ W1 : World, Chg [] B W1 → (Calls Try.prog 15 #[.pointer (some ⟨p, 0, none⟩), .int .u64 (lo : Nat)] W1 fun e w' => e = .returned (.bool true) ∧ Chg [] W1 w') ∧
              (Calls Try.prog 15 #[.pointer (some ⟨p, 0, none⟩), .int .u64 (hi : Nat)] W1 fun e w' => e = .returned (.bool true) ∧ Chg [] W1 w') ∧
              (Calls Try.prog 15 #[.pointer (some ⟨p, 0, none⟩), .int .u64 (lm : Nat)] W1 fun e w' => e = .returned (.bool false) ∧ Chg [] W1 w')) :=
            Lib.hid (fun W1 hW1 => HHAS.out W1 ((HX.out.trans hBC).trans hW1))
          have HBZ := Lib.hid (And.intro z0 z1)
          clear hBC hBB HHAS y0 y1 x0 x1
          go_cut [97] (fun s97 wy => s97 = .bool false ∧ Chg [] B wy)
          case first =>
            have hS0 : Chg [] B B.drew := (Chg.refl [] B).drew
            have c0 : ∀ x : Hold (Chg [] B), x.W.cell? ⟨wr.heap.size, 0, none⟩ = some (.int .u64 (lo : Nat)) := fun x => x.h.cell_some HBZ.out.1 (by simp)
            have c1 : ∀ x : Hold (Chg [] B), x.W.cell? ⟨wr.heap.size, 1, none⟩ = some (.int .u64 (hi : Nat)) := fun x => x.h.cell_some HBZ.out.2 (by simp)
            by_cases hj0 : j = 0
            · subst hj0
              clear hat hlo hna
              rw [show ((0 : Nat) : Int) = (0 : Int) from rfl]
              have hne : Nonempty (Hold (Chg [] B)) := ⟨⟨_, hS0⟩⟩
              refine wp_region_hold (Chg [] B) (by kernel_rfl) (by kernel_rfl) hS0 ?_
              repeat (go_big_quiet_step (first
                    | (with_reducible exact Calls.hold ((HHAS2.out _ (Hold.h _)).1) (fun w' hc => Chg.trans (Hold.h _) hc))
                    | (with_reducible exact Calls.hold ((HHAS2.out _ (Hold.h _)).2.1) (fun w' hc => Chg.trans (Hold.h _) hc))
                    | (with_reducible exact Calls.hold ((HHAS2.out _ (Hold.h _)).2.2) (fun w' hc => Chg.trans (Hold.h _) hc))))
              refine wpQuiet_nil ?_
              rintro _ ⟨⟨wy, hy⟩, rfl⟩
              go_wp2_with fail
              go_meet
              exact ⟨rfl, hy⟩
            · obtain ⟨j, rfl⟩ : ∃ m, j = m + 1 := ⟨j - 1, by omega⟩
              have hjm : j < R.length := by omega
              obtain ⟨b2, hb2, _, p0, p1⟩ := HA.out.1.at_ hjm
              simp only [Option.some.injEq, Addr.mk.injEq] at hb2
              obtain ⟨rfl, _⟩ := hb2
              have hsep := hat.2.2.2 R[j] (by omega) (List.getElem?_eq_getElem hjm)
              have q1 := (HX.out.trans HB.out.1).cell_some p1 (by simp)
              obtain ⟨ph, hph⟩ : ∃ ph, ph = (R[j]).2 := ⟨_, rfl⟩
              rw [← hph] at q1 hsep
              have w5 : ∀ z : Int, z = (j : Int) → wrap64 z = (j : Int) := fun z hz => by rw [hz]; unfold wrap64; omega
              have w5b : ∀ q : IntKind, q = .i64 → q.wrap (j : Int) = (j : Int) := fun q hq => by rw [hq, IntKind.wrap_i64]; omega
              obtain ⟨X, hXX⟩ : ∃ X : Int, X = (lo : Int) - (ph : Int) := ⟨_, rfl⟩
              have w6 : ∀ q : IntKind, q = .u64 → q.wrap ((lo : Int) - (ph : Int)) = X := fun q hq => by rw [hq, IntKind.wrap_u64]; unfold M64 at hat; omega
              have t3 : decide (X < 2) = false := by simp; omega
              have t4 : decide ((lo : Int) ≤ (ph : Int)) = false := by simp; omega
              have t4a : decide (lo ≤ ph) = false := by simp; omega
              have i3 : (0 : Int) ≤ (j : Int) := by omega
              have i4 : (j : Int) < (ln : Int) := by omega
              have HQ := Lib.hid q1
              have c2 : ∀ x : Hold (Chg [] B), x.W.cell? ⟨b, j * 2 + 1, none⟩ = some (.int .u64 (ph : Nat)) := fun x => x.h.cell_some HQ.out (by simp)
              clear hXX hsep hph p0 p1 hat hlo hna
              have hne : Nonempty (Hold (Chg [] B)) := ⟨⟨_, hS0⟩⟩
              refine wp_region_hold (Chg [] B) (by kernel_rfl) (by kernel_rfl) hS0 ?_
              repeat (go_big_quiet_step (first
                    | (with_reducible exact Calls.hold ((HHAS2.out _ (Hold.h _)).1) (fun w' hc => Chg.trans (Hold.h _) hc))
                    | (with_reducible exact Calls.hold ((HHAS2.out _ (Hold.h _)).2.1) (fun w' hc => Chg.trans (Hold.h _) hc))
                    | (with_reducible exact Calls.hold ((HHAS2.out _ (Hold.h _)).2.2) (fun w' hc => Chg.trans (Hold.h _) hc))))
              refine wpQuiet_nil ?_
              rintro _ ⟨⟨wy, hy⟩, rfl⟩
              go_wp2_with fail
              go_meet
              exact ⟨rfl, hy⟩
          case rest =>
            obtain ⟨rfl, hcy⟩ := hcut
            have HY := Lib.hid hcy
            have r0 := HY.out.cell_some HBZ.out.1 (by simp)
            have r1 := HY.out.cell_some HBZ.out.2 (by simp)
            clear hcy hat hlo hna z0 z1
            go_wp2
            go_roundw
            case rel =>
              refine ⟨j + 1, by omega, by go_num, ?_, HX.out.trans (HB.out.1.trans HY.out)⟩
              rw [HSN.out]; rfl
            case measure => simp [intOf]; omega
        · obtain rfl : j = ln := by omega
          have e1 : sizeR (R.take j) = sizeR R := by rw [HLN.out, List.take_length]
          rw [e1]
          clear e1
          have HS2 := Lib.hid (HA.out.2.2.to HX.out)
          obtain ⟨sz, hsz⟩ : ∃ sz, sz = sizeR R := ⟨_, rfl⟩
          obtain ⟨tp, htp⟩ : ∃ tp, tp = topR R := ⟨_, rfl⟩
          obtain ⟨gp, hgp⟩ : ∃ gp, gp = gapsR R := ⟨_, rfl⟩
          obtain ⟨lw, hlw⟩ : ∃ lw, lw = lowR R := ⟨_, rfl⟩
          rw [← hsz]
          have g1 := gaps_top HWF.out
          have g2 := gaps_zero HWF.out
          have g3 := gaps_nonneg (R := R)
          have hsz2 := HSZ.out
          have htp2 : tp < M64 := by
            rw [htp]
            unfold topR
            cases hg : R.getLast? with
            | none => simp [M64]
            | some r => exact (HWF.out.mem r (List.mem_of_getLast? hg)).2.2
          rw [← hgp, ← htp] at g1 g2
          rw [← hgp] at g3
          rw [← hsz] at g1 hsz2
          rw [← hlw] at g2
          have hgl : gp ≤ 200 := by
            rw [hgp]; unfold gapsR
            have := HLN.out
            split <;> omega
          obtain ⟨df, hdf⟩ : ∃ df : Int, df = (tp : Int) - (sz : Int) := ⟨_, rfl⟩
          have w1 : ∀ q : IntKind, q = .u64 → q.wrap ((tp : Int) - (sz : Int)) = df := fun q hq => by rw [hq, IntKind.wrap_u64]; unfold M64 at htp2; omega
          have w2 : ∀ q : IntKind, q = .u64 → q.wrap gp = gp := fun q hq => by rw [hq, IntKind.wrap_u64]; omega
          have d1 : decide (gp ≤ df) = true := by simp; omega
          have HG2 := Lib.hid g2
          have g2a : ((gp == 0) == ((lw : Int) == (tp : Int))) = true := by rw [g2]; simp
          have g2b : ((lw : Int) == (tp : Int)) = (lw == tp) := by rw [Bool.eq_iff_iff]; simp; omega
          rw [g2b] at g2a
          have HV := Lib.hid (And.intro htp (And.intro hgp hlw))
          have hl2 : R.length < 4611686018427387904 := by rw [← HLN.out]; omega
          have HL2 := Lib.hid hl2
          clear hsz htp hgp hlw g1 g2 g3 hsz2 htp2 hdf g2b hl2
          go_wp2_with fail
          refine (gaps_any _ _ _ HS2.out.set_ HL2.out).mono ?_
          rintro e wE ⟨rfl, rfl⟩
          rw [← HV.out.2.1]
          go_wp2_with fail
          refine (top_any _ _ _ HS2.out.set_ HL2.out).mono ?_
          rintro e wE ⟨rfl, rfl⟩
          rw [← HV.out.1]
          go_wp2_with fail
          refine (gaps_any _ _ _ HS2.out.set_ HL2.out).mono ?_
          rintro e wE ⟨rfl, rfl⟩
          rw [← HV.out.2.1]
          go_wp2_with fail
          refine (low_any _ _ _ HS2.out.set_).mono ?_
          rintro e wE ⟨rfl, rfl⟩
          rw [← HV.out.2.2]
          go_wp2_with fail
          refine (top_any _ _ _ HS2.out.set_ HL2.out).mono ?_
          rintro e wE ⟨rfl, rfl⟩
          rw [← HV.out.1]
          go_wp2_with fail
          refine (lives_any _).mono ?_
          rintro e wF ⟨rfl, hc5⟩
          have HF5 := Lib.hid (HS2.out.chg.trans hc5)
          clear hc5
          go_wp2
          all_goals
            go_ret
            exact ⟨rfl, HF5.out⟩

theorem walk (A : Option Addr) (c : Nat) (l : List Int) (_hc : l.length ≤ c) (hr : l.length * 8 ≤ 140737488351232) (hw : ∀ x ∈ l, (Lit.int .u64 x).wf = true) (W : World) (hC : Kd.C (Kd.int .u64) W A l.length l) :
    Calls Try.prog 5 #[.slice A l.length c] W fun e w' => e = .returned (.bool true) ∧ Below W.heap.size W w' :=
  (core A c l hw W hC hr).mono fun _ _ ⟨he, hc⟩ => ⟨he, hc.below (Nat.le_refl _) (by simp)⟩
end Go.Proofs.Ytbnhnmfmgfoacaa.spanHoles
