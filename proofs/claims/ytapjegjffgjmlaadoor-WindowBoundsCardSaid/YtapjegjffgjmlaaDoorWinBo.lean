/- WindowBounds: never more places are open than the window has; places that are sent are within it, rising; what is done was sent. -/
import Derived.Test.YtapjegjffgjmlaaDoorWinAa
set_option linter.unusedVariables false
set_option linter.unusedSimpArgs false
namespace Go.Proofs.YtapjegjffgjmlaaDoor.windowBounds
open Go.RowKit Go.Shelf Go.Proofs.YtapjegjffgjmlaaDoor

set_option maxRecDepth 100000 in
set_option maxHeartbeats 16000000 in
theorem core (a b : Nat) (ha : a < 18446744073709551616) (hb : b < 18446744073709551616) (A : Option Addr) (c : Nat) (ys : List WAct) (W : World) (hr : RowsAt W A 5 WAct.cells ys) (hy : ∀ y ∈ ys, y.Wf) (hlen : ys.length ≤ maxLen) (hL : Laid W) :
    Calls Tryd.prog 5 #[.int .u64 (a : Nat), .int .u64 (b : Nat), .slice A ys.length c] W fun e w' => e = .returned (.bool true) ∧ Chg [] W w' := by
  have HL := Lib.hid hL
  have HR := Lib.hid (And.intro hr hy)
  clear hL hr hy
  unfold maxLen at hlen
  obtain ⟨n, hn⟩ : ∃ n : Nat, 1 + (a : Int) % 32 = (n : Int) := ⟨1 + a % 32, by omega⟩
  obtain ⟨t, ht⟩ : ∃ n : Nat, 1 + (b : Int) % 50 = (n : Int) := ⟨1 + b % 50, by omega⟩
  have n1 : 1 ≤ n := by omega
  have n2 : n ≤ 32 := by omega
  have t1 : 1 ≤ t := by omega
  have t2 : t ≤ 50 := by omega
  have HV := Lib.hid (And.intro hn ht)
  obtain ⟨m, hm⟩ : ∃ m, m = ys.length := ⟨_, rfl⟩
  rw [← hm] at hlen
  rw [← hm]
  have HN := Lib.hid hm
  clear hn ht hm
  go_enter Tryd.func5, Tryd.ntmps5
  go_wp2_with fail
  rw [HV.out.1, HV.out.2]
  refine (WSt.new W W (Chg.refl _ _) n t n1 n2 t1 (by omega)).mono ?_
  rintro e w1 ⟨rfl, hs, _⟩
  obtain ⟨p, hp⟩ : ∃ p, p = W.heap.size := ⟨_, rfl⟩
  rw [← hp] at hs
  rw [← hp]
  have H1 := Lib.hid hs
  clear hs ha hb
  have HP := Lib.hid hp
  clear hp
  by_cases hl3 : 300 < m
  · have x1 : decide ((300 : Int) < (m : Int)) = true := decide_eq_true (by omega)
    have x2 : decide (300 < m) = true := decide_eq_true hl3
    go_wp2_with fail
    refine (lives_any _ (HL.out.to H1.out.chg)).mono ?_
    rintro e w2 ⟨rfl, hc⟩
    have HE := Lib.hid (H1.out.chg.trans hc)
    clear hc
    go_wp2
    go_ret
    exact ⟨rfl, HE.out⟩
  have x1 : decide ((300 : Int) < (m : Int)) = false := decide_eq_false (by omega)
  have x2 : decide (300 < m) = false := decide_eq_false hl3
  go_wp2_with fail
  go_loopw [42] (fun i wr => ∃ (k : Nat) (s : WS), k ≤ m ∧ i = .int .i64 k ∧ WSt W wr p s ∧ s.size = n) (fun i _ => m - (intOf i).toNat)
  case atStart => exact ⟨0, WS.new n t, Nat.zero_le _, rfl, H1.out, rfl⟩
  case round =>
    obtain ⟨k, s, hk, rfl, hs, hsn⟩ := hrel
    have HS := Lib.hid (And.intro hs hsn)
    have hpl : p < wr.heap.size := hs.win.lt
    clear hs hsn x1 x2
    by_cases hlt : k < m
    · have hkl : k < ys.length := by rw [← HN.out]; exact hlt
      obtain ⟨a, rfl, hcell⟩ := HR.out.1.get hkl
      have hyok := HR.out.2 ys[k] (List.getElem_mem hkl)
      obtain ⟨y, hy⟩ : ∃ y, y = ys[k] := ⟨_, rfl⟩
      rw [← hy] at hcell hyok
      obtain ⟨yk, yh, yw, yn, ym⟩ := y
      have y0 := HS.out.1.chg.cell_some (hcell 0 _ rfl) (by simp)
      have y1 := HS.out.1.chg.cell_some (hcell 1 _ rfl) (by simp)
      have y2 := HS.out.1.chg.cell_some (hcell 2 _ rfl) (by simp)
      have y3 := HS.out.1.chg.cell_some (hcell 3 _ rfl) (by simp)
      have y4 := HS.out.1.chg.cell_some (hcell 4 _ rfl) (by simp)
      rw [Nat.add_zero] at y0
      rw [add_fld _ _ _ (by omega)] at y1 y2 y3 y4
      have HY := Lib.hid hyok
      have i1 : (0 : Int) ≤ (k : Int) := by omega
      have i2 : (k : Int) < (m : Int) := by omega
      clear hcell hyok hy hkl
      go_upto_region 8 with fail
      have hbb : Blk (wr.alloc (.cells #[.int .i64 yk, .int .i64 yh, .int .i64 yw, .int .u16 yn, .int .u64 (ym : Nat)] 40)) wr.heap.size 40 #[.int .i64 yk, .int .i64 yh, .int .i64 yw, .int .u16 yn, .int .u64 (ym : Nat)] := Blk.new _ _ _
      have HB := Lib.hid (And.intro (HS.out.1.to ((Chg.refl [] wr).alloc (.cells #[.int .i64 yk, .int .i64 yh, .int .i64 yw, .int .u16 yn, .int .u64 (ym : Nat)] 40))) HS.out.2)
      have hszb : wr.heap.size < (wr.alloc (.cells #[.int .i64 yk, .int .i64 yh, .int .i64 yw, .int .u16 yn, .int .u64 (ym : Nat)] 40)).heap.size := by simp
      generalize wr.alloc (.cells #[.int .i64 yk, .int .i64 yh, .int .i64 yw, .int .u16 yn, .int .u64 (ym : Nat)] 40) = wb at *
      have u0 := hbb.cell 0
      have u1 := hbb.cell 1
      have u2 := hbb.cell 2
      have u3 := hbb.cell 3
      have u4 := hbb.cell 4
      simp only [List.getElem?_toArray, List.getElem?_cons_succ, List.getElem?_cons_zero] at u0 u1 u2 u3 u4
      have HU := Lib.hid (And.intro u0 (And.intro u1 (And.intro u2 (And.intro u3 u4))))
      have HBB := Lib.hid hbb
      clear y0 y1 y2 y3 y4 HS hbb
      by_cases k0 : yk = 0
      · have q0 : (yk == 0) = true := by simpa using k0
        clear k0
        go_wp2_with fail
        refine (HB.out.1.send yh yw).mono ?_
        rintro e w3 ⟨A3, c3, rfl, hsl, hs, hc3, _⟩
        have hb3 := HBB.out.chg hc3 (by simp; omega)
        have H3 := Lib.hid (And.intro hs (And.intro hsl (And.intro hb3 HB.out.2)))
        obtain ⟨l, hl⟩ : ∃ l, l = (s.sends yh yw) := ⟨_, rfl⟩
        obtain ⟨ln, hln⟩ : ∃ ln, ln = l.length := ⟨_, rfl⟩
        have hlnn : ln ≤ 32 := by rw [hln, hl]; have := sends_len s yh yw; rw [HB.out.2] at this; omega
        rw [← hl] at H3
        rw [← hl, ← hln]
        have HLL := Lib.hid (And.intro hl hln)
        clear hsl hs hc3 hb3 hl hln u0 u1 u2 u3 u4
        obtain ⟨wo, rfl⟩ : ∃ wo : World, wo = wr := ⟨_, rfl⟩
        go_wp2_with fail
        go_loopw [60] (fun i wx => ∃ j : Nat, j ≤ ln ∧ i = .int .i64 j ∧ Chg [] w3 wx) (fun i _ => ln - (intOf i).toNat)
        case atStart => exact ⟨0, Nat.zero_le _, rfl, Chg.refl _ _⟩
        case round =>
          obtain ⟨j, hj, rfl, hcx⟩ := hrel
          have HCX := Lib.hid hcx
          clear hcx
          by_cases hlj : j < ln
          · have hjl : j < l.length := by rw [← HLL.out.2]; exact hlj
            obtain ⟨v, hv⟩ : ∃ v, l[j]? = some v := ⟨_, List.getElem?_eq_getElem hjl⟩
            obtain ⟨a3, rfl, x3⟩ := H3.out.2.1.2 j (encN v) (by rw [List.getElem?_map, hv]; rfl)
            replace x3 := HCX.out.cell_some x3 (by simp)
            have hvv := sends_at s yh yw (show (s.sends yh yw)[j]? = some v by rw [← HLL.out.1]; exact hv)
            rw [HB.out.2] at hvv
            have u1 := (H3.out.2.2.1.chg HCX.out (by simp)).cell 1
            simp only [List.getElem?_toArray, List.getElem?_cons_succ, List.getElem?_cons_zero] at u1
            unfold encN at x3
            have j1 : (0 : Int) ≤ (j : Int) := by omega
            have j2 : (j : Int) < (ln : Int) := by omega
            have j3 : decide ((n : Int) ≤ (v : Int)) = false := decide_eq_false (by omega)
            have j4 : decide (n ≤ v) = false := decide_eq_false (by omega)
            have j5 : decide (yh ≤ (v : Int)) = false := decide_eq_false (by omega)
            by_cases hj0 : 0 < j
            · obtain ⟨i, hi⟩ : ∃ i, j = i + 1 := ⟨j - 1, by omega⟩
              obtain ⟨u, hu⟩ : ∃ u, l[i]? = some u := ⟨_, List.getElem?_eq_getElem (by omega)⟩
              obtain ⟨a4, ha4, x4⟩ := H3.out.2.1.2 i (encN u) (by rw [List.getElem?_map, hu]; rfl)
              replace x4 := HCX.out.cell_some x4 (by simp)
              simp only [Option.some.injEq] at ha4
              subst ha4
              have huv := sends_rise s yh yw (show (s.sends yh yw)[i]? = some u by rw [← HLL.out.1]; exact hu) (show (s.sends yh yw)[i + 1]? = some v by rw [← HLL.out.1, ← hi]; exact hv)
              unfold encN at x4
              have j6 : decide ((v : Int) ≤ (u : Int)) = false := decide_eq_false (by omega)
              have j7 : decide (v ≤ u) = false := decide_eq_false (by omega)
              have j8 : decide ((0 : Int) < (j : Int)) = true := decide_eq_true (by omega)
              have j9 : decide (0 < j) = true := decide_eq_true hj0
              have i3 : (0 : Int) ≤ (i : Int) := by omega
              have i4 : (i : Int) < (ln : Int) := by omega
              have v1 : ∀ q : IntKind, q = .i64 → q.wrap ((j : Int) - 1) = (i : Int) := fun q hq => by rw [hq]; rw [show (j : Int) - 1 = i from by omega]; exact IntWalk.i64_in _ (by omega)
              have v2 : ∀ z : Int, z = (j : Int) - 1 → wrap64 z = (i : Int) := fun z hz => by rw [hz]; unfold wrap64; omega
              have hjji : (j : Int) - 1 = (i : Int) := by omega
              clear hv hu huv hvv hjl hi
              go_wp2
              go_roundw
              case rel => exact ⟨j + 1, by omega, by go_num, HCX.out⟩
              case measure => simp [intOf]; omega
            · have j8 : decide ((0 : Int) < (j : Int)) = false := decide_eq_false (by omega)
              have j9 : decide (0 < j) = false := decide_eq_false hj0
              clear hv hvv hjl
              go_wp2
              go_roundw
              case rel => exact ⟨j + 1, by omega, by go_num, HCX.out⟩
              case measure => simp [intOf]; omega
          · obtain rfl : ln = j := by omega
            have HX := Lib.hid (And.intro (H3.out.1.to HCX.out) (show (s.send yh yw).size = n from HB.out.2))
            go_wp2_with fail
            refine (HX.out.1.open_).mono ?_
            rintro e wO ⟨rfl, hs, _⟩
            have hle : openN (s.send yh yw).f 32 ≤ n := by rw [← HX.out.2]; exact openN_le_size HX.out.1.ok
            obtain ⟨o, ho⟩ : ∃ o, o = openN (s.send yh yw).f 32 := ⟨_, rfl⟩
            rw [← ho] at hle
            rw [← ho]
            have HO := Lib.hid (And.intro hs HX.out.2)
            have z1 : decide ((n : Int) < (o : Int)) = false := decide_eq_false (by omega)
            have z2 : decide (n < o) = false := decide_eq_false (by omega)
            clear hs ho
            go_wp2
            go_roundw
            case rel => exact ⟨k + 1, _, by omega, by go_num, HO.out.1, HO.out.2⟩
            case measure => simp [intOf]; omega
      · have q0 : (yk == 0) = false := by simpa using k0
        clear k0
        by_cases k1 : yk = 1
        · have q1 : (yk == 1) = true := by simpa using k1
          clear k1
          go_wp2_with fail
          refine (HB.out.1.base).mono ?_
          rintro e wa ⟨rfl, rfl⟩
          obtain ⟨b, hb⟩ : ∃ b, b = s.base := ⟨_, rfl⟩
          rw [← hb]
          have hb0 : 0 ≤ b := by rw [hb]; exact HB.out.1.ok.base0
          have hb1 : b < 65536 := by rw [hb]; exact HB.out.1.ok.base1
          have hnb := numOf_bd HY.out b
          obtain ⟨kk, hkk⟩ : ∃ kk, kk = ackK s (numOf ⟨yk, yh, yw, yn, ym⟩ b) := ⟨_, rfl⟩
          obtain ⟨s2, hs2⟩ : ∃ s2, s2 = ackS s (numOf ⟨yk, yh, yw, yn, ym⟩ b) ym := ⟨_, rfl⟩
          have hle : kk ≤ n := by rw [hkk, ← HB.out.2]; exact ackK_le _
          have hsz2 : s2.size = n := by rw [hs2, ackS_size]; exact HB.out.2
          have hfar : 0 < kk → farZ b s2.base = (kk : Nat) := by rw [hkk, hs2, hb]; exact ackK_far _ _
          obtain ⟨b2, hb2⟩ : ∃ b2, b2 = s2.base := ⟨_, rfl⟩
          rw [← hb2] at hfar
          obtain ⟨z, hz⟩ : ∃ z, z = farZ b b2 := ⟨_, rfl⟩
          rw [← hz] at hfar
          have HK := Lib.hid (And.intro hkk (And.intro hs2 (And.intro hb2 (And.intro hz hsz2))))
          have HNB := Lib.hid (And.intro hb0 (And.intro hb1 hnb))
          clear hb hkk hs2 hb2 hz hsz2 hb0 hb1 hnb
          go_wp2_with fail
          go_region_held3 (fun w' => w'.cell? ⟨wr.heap.size, 0, none⟩ = some (.int .i64 yk) ∧ w'.cell? ⟨wr.heap.size, 1, none⟩ = some (.int .i64 yh) ∧ w'.cell? ⟨wr.heap.size, 2, none⟩ = some (.int .i64 yw) ∧ w'.cell? ⟨wr.heap.size, 3, none⟩ = some (.int .u16 yn) ∧ w'.cell? ⟨wr.heap.size, 4, none⟩ = some (.int .u64 (ym : Nat)))
            (first | exact HU.out | assumption | go_keep)
            (first
              | (go_at_call 17; refine (num_any ⟨yk, yh, yw, yn, ym⟩ HY.out b HNB.out.1 HNB.out.2.1 _).mono ?_; rintro e w4 ⟨rfl, hc⟩;
                  have k4 := And.intro (hc.cell_some (p := ⟨wr.heap.size, 0, none⟩) HU.out.1 (by simp)) (And.intro (hc.cell_some (p := ⟨wr.heap.size, 1, none⟩) HU.out.2.1 (by simp)) (And.intro (hc.cell_some (p := ⟨wr.heap.size, 2, none⟩) HU.out.2.2.1 (by simp)) (And.intro (hc.cell_some (p := ⟨wr.heap.size, 3, none⟩) HU.out.2.2.2.1 (by simp)) (hc.cell_some (p := ⟨wr.heap.size, 4, none⟩) HU.out.2.2.2.2 (by simp)))));
                  have H4 := Lib.hid (And.intro (HB.out.1.to (((Chg.refl [] wb).drew).trans hc)) k4); clear hc)
              | (go_at_call 11; refine (H4.out.1.ackAny HL.out _ ym HY.out.mask HNB.out.2.2.1 HNB.out.2.2.2).mono ?_; rintro e w5 ⟨rfl, hs, hc⟩; rw [← HK.out.1]; rw [← HK.out.2.1] at hs;
                  have k5 := And.intro (hc.cell_some (p := ⟨wr.heap.size, 0, none⟩) H4.out.2.1 (by simp; omega)) (And.intro (hc.cell_some (p := ⟨wr.heap.size, 1, none⟩) H4.out.2.2.1 (by simp; omega)) (And.intro (hc.cell_some (p := ⟨wr.heap.size, 2, none⟩) H4.out.2.2.2.1 (by simp; omega)) (And.intro (hc.cell_some (p := ⟨wr.heap.size, 3, none⟩) H4.out.2.2.2.2.1 (by simp; omega)) (hc.cell_some (p := ⟨wr.heap.size, 4, none⟩) H4.out.2.2.2.2.2 (by simp; omega)))));
                  have H5 := Lib.hid (And.intro hs k5); clear hs hc))
          have H6 := Lib.hid (And.intro H5.out.1 HK.out.2.2.2.2)
          have x1 : decide ((n : Int) < (kk : Int)) = false := decide_eq_false (by omega)
          have x2 : decide (n < kk) = false := decide_eq_false (by omega)
          go_wp2_with fail
          refine (H6.out.1.base).mono ?_
          rintro e wa ⟨rfl, rfl⟩
          rw [← HK.out.2.2.1]
          go_wp2_with fail
          refine (far_any b b2 _).mono ?_
          rintro e wa ⟨rfl, rfl⟩
          rw [← HK.out.2.2.2.1]
          by_cases hk0 : 0 < kk
          · have x3 : (z != (kk : Int)) = false := by simpa using hfar hk0
            have x4 : decide (0 < kk) = true := decide_eq_true hk0
            have x5 : decide ((0 : Int) < (kk : Int)) = true := decide_eq_true (by omega)
            clear hfar
            go_wp2_with fail
            refine (H6.out.1.open_).mono ?_
            rintro e wO ⟨rfl, hs, _⟩
            have hle : openN (s2).f 32 ≤ n := by rw [← H6.out.2]; exact openN_le_size H6.out.1.ok
            obtain ⟨o, ho⟩ : ∃ o, o = openN (s2).f 32 := ⟨_, rfl⟩
            rw [← ho] at hle
            rw [← ho]
            have HO := Lib.hid (And.intro hs H6.out.2)
            have z1 : decide ((n : Int) < (o : Int)) = false := decide_eq_false (by omega)
            have z2 : decide (n < o) = false := decide_eq_false (by omega)
            clear hs ho
            go_wp2
            go_roundw
            case rel => exact ⟨k + 1, _, by omega, by go_num, HO.out.1, HO.out.2⟩
            case measure => simp [intOf]; omega
          · have x4 : decide (0 < kk) = false := decide_eq_false hk0
            have x5 : decide ((0 : Int) < (kk : Int)) = false := decide_eq_false (by omega)
            clear hfar
            by_cases hzk : z = (kk : Int)
            · have x3 : (z != (kk : Int)) = false := by simpa using hzk
              have HZK := Lib.hid hzk
              clear hzk
              go_wp2_with fail
              refine (H6.out.1.open_).mono ?_
              rintro e wO ⟨rfl, hs, _⟩
              have hle : openN (s2).f 32 ≤ n := by rw [← H6.out.2]; exact openN_le_size H6.out.1.ok
              obtain ⟨o, ho⟩ : ∃ o, o = openN (s2).f 32 := ⟨_, rfl⟩
              rw [← ho] at hle
              rw [← ho]
              have HO := Lib.hid (And.intro hs H6.out.2)
              have z1 : decide ((n : Int) < (o : Int)) = false := decide_eq_false (by omega)
              have z2 : decide (n < o) = false := decide_eq_false (by omega)
              clear hs ho
              go_wp2
              go_roundw
              case rel => exact ⟨k + 1, _, by omega, by go_num, HO.out.1, HO.out.2⟩
              case measure => simp [intOf]; omega
            · have x3 : (z != (kk : Int)) = true := by simpa using hzk
              clear hzk
              go_wp2_with fail
              refine (H6.out.1.open_).mono ?_
              rintro e wO ⟨rfl, hs, _⟩
              have hle : openN (s2).f 32 ≤ n := by rw [← H6.out.2]; exact openN_le_size H6.out.1.ok
              obtain ⟨o, ho⟩ : ∃ o, o = openN (s2).f 32 := ⟨_, rfl⟩
              rw [← ho] at hle
              rw [← ho]
              have HO := Lib.hid (And.intro hs H6.out.2)
              have z1 : decide ((n : Int) < (o : Int)) = false := decide_eq_false (by omega)
              have z2 : decide (n < o) = false := decide_eq_false (by omega)
              clear hs ho
              go_wp2
              go_roundw
              case rel => exact ⟨k + 1, _, by omega, by go_num, HO.out.1, HO.out.2⟩
              case measure => simp [intOf]; omega
        · have q1 : (yk == 1) = false := by simpa using k1
          clear k1
          by_cases k2 : yk = 2
          · have q2 : (yk == 2) = true := by simpa using k2
            clear k2
            go_wp2_with fail
            refine (HB.out.1.base).mono ?_
            rintro e wa ⟨rfl, rfl⟩
            obtain ⟨b, hb⟩ : ∃ b, b = s.base := ⟨_, rfl⟩
            rw [← hb]
            have hb0 : 0 ≤ b := by rw [hb]; exact HB.out.1.ok.base0
            have hb1 : b < 65536 := by rw [hb]; exact HB.out.1.ok.base1
            have hnb := numOf_bd HY.out b
            obtain ⟨kk, hkk⟩ : ∃ kk, kk = ackK s (numOf ⟨yk, yh, yw, yn, ym⟩ b) := ⟨_, rfl⟩
            obtain ⟨s2, hs2⟩ : ∃ s2, s2 = ackS s (numOf ⟨yk, yh, yw, yn, ym⟩ b) ym := ⟨_, rfl⟩
            have hle : kk ≤ n := by rw [hkk, ← HB.out.2]; exact ackK_le _
            have hsz2 : s2.size = n := by rw [hs2, ackS_size]; exact HB.out.2
            have hfar : 0 < kk → farZ b s2.base = (kk : Nat) := by rw [hkk, hs2, hb]; exact ackK_far _ _
            obtain ⟨b2, hb2⟩ : ∃ b2, b2 = s2.base := ⟨_, rfl⟩
            rw [← hb2] at hfar
            obtain ⟨z, hz⟩ : ∃ z, z = farZ b b2 := ⟨_, rfl⟩
            rw [← hz] at hfar
            have HK := Lib.hid (And.intro hkk (And.intro hs2 (And.intro hb2 (And.intro hz hsz2))))
            have HNB := Lib.hid (And.intro hb0 (And.intro hb1 hnb))
            clear hb hkk hs2 hb2 hz hsz2 hb0 hb1 hnb
            go_wp2_with fail
            go_region_held3 (fun w' => w'.cell? ⟨wr.heap.size, 0, none⟩ = some (.int .i64 yk) ∧ w'.cell? ⟨wr.heap.size, 1, none⟩ = some (.int .i64 yh) ∧ w'.cell? ⟨wr.heap.size, 2, none⟩ = some (.int .i64 yw) ∧ w'.cell? ⟨wr.heap.size, 3, none⟩ = some (.int .u16 yn) ∧ w'.cell? ⟨wr.heap.size, 4, none⟩ = some (.int .u64 (ym : Nat)))
              (first | exact HU.out | assumption | go_keep)
              (first
                | (go_at_call 17; refine (num_any ⟨yk, yh, yw, yn, ym⟩ HY.out b HNB.out.1 HNB.out.2.1 _).mono ?_; rintro e w4 ⟨rfl, hc⟩;
                    have k4 := And.intro (hc.cell_some (p := ⟨wr.heap.size, 0, none⟩) HU.out.1 (by simp)) (And.intro (hc.cell_some (p := ⟨wr.heap.size, 1, none⟩) HU.out.2.1 (by simp)) (And.intro (hc.cell_some (p := ⟨wr.heap.size, 2, none⟩) HU.out.2.2.1 (by simp)) (And.intro (hc.cell_some (p := ⟨wr.heap.size, 3, none⟩) HU.out.2.2.2.1 (by simp)) (hc.cell_some (p := ⟨wr.heap.size, 4, none⟩) HU.out.2.2.2.2 (by simp)))));
                    have H4 := Lib.hid (And.intro (HB.out.1.to (((Chg.refl [] wb).drew).trans hc)) k4); clear hc)
                | (go_at_call 11; refine (H4.out.1.ackAny HL.out _ ym HY.out.mask HNB.out.2.2.1 HNB.out.2.2.2).mono ?_; rintro e w5 ⟨rfl, hs, hc⟩; rw [← HK.out.1]; rw [← HK.out.2.1] at hs;
                    have k5 := And.intro (hc.cell_some (p := ⟨wr.heap.size, 0, none⟩) H4.out.2.1 (by simp; omega)) (And.intro (hc.cell_some (p := ⟨wr.heap.size, 1, none⟩) H4.out.2.2.1 (by simp; omega)) (And.intro (hc.cell_some (p := ⟨wr.heap.size, 2, none⟩) H4.out.2.2.2.1 (by simp; omega)) (And.intro (hc.cell_some (p := ⟨wr.heap.size, 3, none⟩) H4.out.2.2.2.2.1 (by simp; omega)) (hc.cell_some (p := ⟨wr.heap.size, 4, none⟩) H4.out.2.2.2.2.2 (by simp; omega)))));
                    have H5 := Lib.hid (And.intro hs k5); clear hs hc))
            have H6 := Lib.hid (And.intro H5.out.1 HK.out.2.2.2.2)
            have x1 : decide ((n : Int) < (kk : Int)) = false := decide_eq_false (by omega)
            have x2 : decide (n < kk) = false := decide_eq_false (by omega)
            go_wp2_with fail
            refine (H6.out.1.base).mono ?_
            rintro e wa ⟨rfl, rfl⟩
            rw [← HK.out.2.2.1]
            go_wp2_with fail
            refine (far_any b b2 _).mono ?_
            rintro e wa ⟨rfl, rfl⟩
            rw [← HK.out.2.2.2.1]
            by_cases hk0 : 0 < kk
            · have x3 : (z != (kk : Int)) = false := by simpa using hfar hk0
              have x4 : decide (0 < kk) = true := decide_eq_true hk0
              have x5 : decide ((0 : Int) < (kk : Int)) = true := decide_eq_true (by omega)
              clear hfar
              go_wp2_with fail
              refine (H6.out.1.open_).mono ?_
              rintro e wO ⟨rfl, hs, _⟩
              have hle : openN (s2).f 32 ≤ n := by rw [← H6.out.2]; exact openN_le_size H6.out.1.ok
              obtain ⟨o, ho⟩ : ∃ o, o = openN (s2).f 32 := ⟨_, rfl⟩
              rw [← ho] at hle
              rw [← ho]
              have HO := Lib.hid (And.intro hs H6.out.2)
              have z1 : decide ((n : Int) < (o : Int)) = false := decide_eq_false (by omega)
              have z2 : decide (n < o) = false := decide_eq_false (by omega)
              clear hs ho
              go_wp2
              go_roundw
              case rel => exact ⟨k + 1, _, by omega, by go_num, HO.out.1, HO.out.2⟩
              case measure => simp [intOf]; omega
            · have x4 : decide (0 < kk) = false := decide_eq_false hk0
              have x5 : decide ((0 : Int) < (kk : Int)) = false := decide_eq_false (by omega)
              clear hfar
              by_cases hzk : z = (kk : Int)
              · have x3 : (z != (kk : Int)) = false := by simpa using hzk
                have HZK := Lib.hid hzk
                clear hzk
                go_wp2_with fail
                refine (H6.out.1.open_).mono ?_
                rintro e wO ⟨rfl, hs, _⟩
                have hle : openN (s2).f 32 ≤ n := by rw [← H6.out.2]; exact openN_le_size H6.out.1.ok
                obtain ⟨o, ho⟩ : ∃ o, o = openN (s2).f 32 := ⟨_, rfl⟩
                rw [← ho] at hle
                rw [← ho]
                have HO := Lib.hid (And.intro hs H6.out.2)
                have z1 : decide ((n : Int) < (o : Int)) = false := decide_eq_false (by omega)
                have z2 : decide (n < o) = false := decide_eq_false (by omega)
                clear hs ho
                go_wp2
                go_roundw
                case rel => exact ⟨k + 1, _, by omega, by go_num, HO.out.1, HO.out.2⟩
                case measure => simp [intOf]; omega
              · have x3 : (z != (kk : Int)) = true := by simpa using hzk
                clear hzk
                go_wp2_with fail
                refine (H6.out.1.open_).mono ?_
                rintro e wO ⟨rfl, hs, _⟩
                have hle : openN (s2).f 32 ≤ n := by rw [← H6.out.2]; exact openN_le_size H6.out.1.ok
                obtain ⟨o, ho⟩ : ∃ o, o = openN (s2).f 32 := ⟨_, rfl⟩
                rw [← ho] at hle
                rw [← ho]
                have HO := Lib.hid (And.intro hs H6.out.2)
                have z1 : decide ((n : Int) < (o : Int)) = false := decide_eq_false (by omega)
                have z2 : decide (n < o) = false := decide_eq_false (by omega)
                clear hs ho
                go_wp2
                go_roundw
                case rel => exact ⟨k + 1, _, by omega, by go_num, HO.out.1, HO.out.2⟩
                case measure => simp [intOf]; omega
          · have q2 : (yk == 2) = false := by simpa using k2
            clear k2
            go_wp2_with fail
            refine (HB.out.1.reset).mono ?_
            rintro e w3 ⟨⟨v, rfl⟩, hs, _⟩
            have HX := Lib.hid (And.intro hs (show (WS.new s.size s.wait).size = n from HB.out.2))
            clear hs
            go_wp2_with fail
            refine (HX.out.1.open_).mono ?_
            rintro e wO ⟨rfl, hs, _⟩
            have hle : openN (WS.new s.size s.wait).f 32 ≤ n := by rw [← HX.out.2]; exact openN_le_size HX.out.1.ok
            obtain ⟨o, ho⟩ : ∃ o, o = openN (WS.new s.size s.wait).f 32 := ⟨_, rfl⟩
            rw [← ho] at hle
            rw [← ho]
            have HO := Lib.hid (And.intro hs HX.out.2)
            have z1 : decide ((n : Int) < (o : Int)) = false := decide_eq_false (by omega)
            have z2 : decide (n < o) = false := decide_eq_false (by omega)
            clear hs ho
            go_wp2
            go_roundw
            case rel => exact ⟨k + 1, _, by omega, by go_num, HO.out.1, HO.out.2⟩
            case measure => simp [intOf]; omega
    · obtain rfl : m = k := by omega
      go_wp2_with fail
      refine (lives_any _ (HL.out.to HS.out.1.chg)).mono ?_
      rintro e w2 ⟨rfl, hc⟩
      have HE := Lib.hid (HS.out.1.chg.trans hc)
      clear hc
      go_wp2
      go_ret
      exact ⟨rfl, HE.out⟩
theorem walk (a : Int) (wa : (Lit.int .u64 a).wf = true) (b : Int) (wb : (Lit.int .u64 b).wf = true) (A : Option Addr) (c : Nat) (ys : List WAct) (W : World) (h : ys.length ≤ c ∧ c ≤ maxLen ∧ RowsAt W A 5 WAct.cells ys ∧ (∀ y ∈ ys, y.Wf)) (hL : Laid W) :
    Calls Tryd.prog 5 #[.int .u64 a, .int .u64 b, .slice A ys.length c] W fun e w' => e = .returned (.bool true) ∧ Below W.heap.size W w' := by
  obtain ⟨a, rfl, ha⟩ := nat_u64 wa
  obtain ⟨b, rfl, hb⟩ := nat_u64 wb
  exact (core a b ha hb A c ys W h.2.2.1 h.2.2.2 (Nat.le_trans h.1 h.2.1) hL).mono fun _ _ ⟨he, hc⟩ => ⟨he, hc.below (Nat.le_refl _) (by simp)⟩
end Go.Proofs.YtapjegjffgjmlaaDoor.windowBounds
