/- InboxBrings: a window and an inbox bring all that waits, in order, whatever is lost, doubled and late: the walk. -/
import Derived.Test.YtkfpooljbpijhaaDoorIbTw
import Derived.Test.YtkfpooljbpijhaaDoorWWords
import Derived.Deep.RegionHeld3
import Derived.Deep.DeepCutAuto
import Derived.Deep.QuietTactic
import Derived.BigQuiet
set_option linter.unusedVariables false
set_option linter.unusedSimpArgs false
namespace Go.Proofs.YtkfpooljbpijhaaDoor.inboxBrings
open Go.RowKit Go.Shelf Go.Proofs.YtkfpooljbpijhaaDoor Go.Proofs.YtkfpooljbpijhaaDoorW.PrintWords

local notation "tU16" => 32
local notation "tInt" => 3
theorem luck_at {W : World} {A : Option Addr} {l : List Int} (hC : Kd.C (Kd.int .u64) W A l.length l) (hw : ∀ x ∈ l, (Lit.int .u64 x).wf = true) {a : Nat} (h : a < l.length) (hl : l.length < 9223372036854775808) :
    ∃ (ad : Addr) (x : Nat), A = some ad ∧ W.cell? (ad.add a) = some (.int .u64 x) := by
  obtain ⟨ad, rfl, hcx⟩ := Kd.at_int hC (a : Int) (by omega) (by omega)
  have hm : rd l (a : Int) ∈ l := by simp [rd, List.getD, List.getElem?_eq_getElem h]
  have hx := hw _ hm
  simp only [Lit.wf, Bool.and_eq_true, decide_eq_true_eq] at hx
  have e1 : IntKind.u64.min = 0 := by decide
  rw [e1] at hx
  refine ⟨ad, (rd l (a : Int)).toNat, rfl, ?_⟩
  rw [Int.toNat_natCast] at hcx
  rw [hcx, Int.toNat_of_nonneg (by omega)]

/-- What is late, and the state. -/
structure Ld (W w3 w : World) (pw p mb : Nat) (s1 : WS) (b : IB) (A1 : Option Addr) (c1 : Nat) (A2 : Option Addr) (c2 j : Nat) (D : List Nat) : Prop where
  o1 : OwnS w w3.heap.size 32 1 A1 j c1 (D.map u16V)
  o2 : OwnS w w3.heap.size 3 1 A2 j c2 (D.map intV)
  d : DSt W w pw p mb s1 b
theorem Ld.took {W w3 w wz w7 : World} {pw p mb : Nat} {s1 : WS} {b b' : IB} {A1 : Option Addr} {c1 : Nat} {A2 : Option Addr} {c2 j : Nat} {D : List Nat} (h : Ld W w3 w pw p mb s1 b A1 c1 A2 c2 j D) (hB : mb < w3.heap.size) (hz : Chg [] w wz) (hi : InboxAt w7 p mb b') (hc : Chg [mb] wz w7) : Ld W w3 w7 pw p mb s1 b' A1 c1 A2 c2 j D :=
  ⟨(h.o1.chg0 hz).chg hc (fun q hq hm => by simp at hm; have := h.o1.ge q hq; omega), (h.o2.chg0 hz).chg hc (fun q hq hm => by simp at hm; have := h.o2.ge q hq; omega), (h.d.to hz).stepB hi (hc.mono (by simp))⟩

set_option maxRecDepth 100000 in
set_option maxHeartbeats 16000000 in
theorem core (a b : Nat) (A : Option Addr) (c : Nat) (l : List Int) (W : World) (hC : Kd.C (Kd.int .u64) W A l.length l) (hw : ∀ x ∈ l, (Lit.int .u64 x).wf = true) (hl : l.length < 9223372036854775808) (hL : Laid W) :
    Calls Tryd.prog 3 #[.int .u64 (a : Nat), .int .u64 (b : Nat), .slice A l.length c] W fun e w' => e = .returned (.bool true) ∧ Below W.heap.size W w' := by
  have HL := Lib.hid hL
  have HLK := Lib.hid (fun k (hk : k < l.length) => luck_at hC hw hk hl)
  clear hL hC hw
  obtain ⟨n, hn⟩ : ∃ n : Nat, 1 + (a : Int) % 8 = (n : Int) := ⟨1 + a % 8, by omega⟩
  obtain ⟨tt, ht⟩ : ∃ n : Nat, (b : Int) % 30 = (n : Int) := ⟨b % 30, by omega⟩
  have n1 : 1 ≤ n := by omega
  have n8 : n ≤ 8 := by omega
  have t29 : tt ≤ 29 := by omega
  have HV := Lib.hid (And.intro hn ht)
  obtain ⟨m, hm⟩ : ∃ m, m = l.length := ⟨_, rfl⟩
  rw [← hm] at hl
  rw [← hm]
  have HN := Lib.hid hm
  clear hn ht hm
  go_enter Tryd.func3, Tryd.ntmps3
  go_wp2_with fail
  rw [HV.out.1, HV.out.2]
  refine (WSt.new W W (Chg.refl _ _) n 2 n1 (by omega) (by omega) (by omega)).mono ?_
  rintro e w1 ⟨rfl, hs, _⟩
  obtain ⟨pw, hpw⟩ : ∃ p, p = W.heap.size := ⟨_, rfl⟩
  rw [← hpw] at hs
  rw [← hpw]
  have H1 := Lib.hid hs
  have hwl := hs.win.lt
  have HP := Lib.hid hpw
  clear hs hpw
  go_wp2_with fail
  refine (new_yes (n : Int) w1 (by omega) (by omega)).mono ?_
  rintro e w2 ⟨rfl, hi, hc, _⟩
  obtain ⟨p, hp⟩ : ∃ p, p = w1.heap.size + 1 := ⟨_, rfl⟩
  obtain ⟨mb, hmb⟩ : ∃ p, p = w1.heap.size := ⟨_, rfl⟩
  have H2 : Hid (DSt W w2 pw p mb (WS.new n 2) ⟨(n : Int), 0, []⟩) := Lib.hid ⟨H1.out.to hc, by rw [hp, hmb]; exact hi, by omega, by omega, by omega, by have := H1.out.chg.size; omega, by have := H1.out.chg.size; omega⟩
  rw [← hp]
  clear hi hc hp hmb hwl
  by_cases hl2 : 200 < m
  · have x1 : decide ((200 : Int) < (m : Int)) = true := decide_eq_true (by omega)
    have x2 : decide (200 < m) = true := decide_eq_true hl2
    go_wp2_with fail
    refine (lives_any _).mono ?_
    rintro e w3 ⟨rfl, hb⟩
    have HE := Lib.hid (H2.out.win.chg.trans (Chg.of_below hb))
    clear hb
    go_wp2
    go_ret
    exact ⟨rfl, HE.out.below (Nat.le_refl _) (by simp)⟩
  have x1 : decide ((200 : Int) < (m : Int)) = false := decide_eq_false (by omega)
  have x2 : decide (200 < m) = false := decide_eq_false hl2
  go_wp2_with fail
  obtain ⟨M, hM⟩ : ∃ M, M = m + 3 * tt + 10 := ⟨_, rfl⟩
  go_loopw [15, 11, 12, 13, 14] (fun nw dn gt lt wt wr => ∃ (now done got : Nat) (s : WS) (b : IB), now ≤ M ∧ nw = .int .i64 now ∧ dn = .int .i64 done ∧ gt = .int .i64 got ∧ lt = .slice none 0 0 ∧ wt = .slice none 0 0 ∧ Hid (DSt W wr pw p mb s b ∧ Rd n tt m now s b done got))
    (fun nw _ _ _ _ _ => M - (intOf nw).toNat)
  case atStart => exact ⟨0, 0, 0, WS.new n 2, ⟨n, 0, []⟩, Nat.zero_le _, rfl, rfl, rfl, rfl, rfl, Lib.hid ⟨H2.out, Rd.init n1 n8 t29⟩⟩
  case round =>
    obtain ⟨now, done, got, s, b, hnow, rfl, rfl, rfl, rfl, rfl, H⟩ := hrel
    clear x1 x2
    by_cases hlt : now < M
    · have y1 : decide (((now : Nat) : Int) < (m : Int) + 3 * (tt : Int) + 10) = true := decide_eq_true (by omega)
      have hdt : done ≤ tt := Nat.le_trans H.out.2.co.dg H.out.2.co.gt
      have HM := Lib.hid hM
      clear hM
      go_upto_if 66 with fail
      go_cut [16] (fun s16 wx => ∃ k : Nat, s16 = .int .u64 k ∧ (m ≤ now → k = 0) ∧ wr = wx)
      case first =>
        by_cases hk : now < m
        · obtain ⟨ad, x, rfl, hcx⟩ := HLK.out now (by rw [← HN.out]; exact hk)
          replace hcx := H.out.1.win.chg.cell_some hcx (by simp)
          have i1 : (0 : Int) ≤ (now : Int) := by omega
          have i2 : (now : Int) < (m : Int) := by omega
          go_wp2
          go_meet
          exact ⟨x, rfl, fun h => by omega, rfl⟩
        · go_wp2
          go_meet
          exact ⟨0, rfl, fun h => rfl, rfl⟩
      case rest =>
        obtain ⟨k, rfl, hk0, rfl⟩ := hcut
        go_wp2_with fail
        refine (H.out.1.win.send ((tt : Int) - done) now).mono ?_
        rintro e w3 ⟨A3, c3, rfl, hsl, hs, hc3, _⟩
        have hmid := H.out.2.send (by have := HM.out; omega)
        have hnum : ∀ v ∈ s.sends ((tt : Int) - done) now, v < n := fun v hv => by
          have := (hmid.pendOk _ (List.mem_map.2 ⟨v, hv, rfl⟩)).2.2.1
          omega
        have hlen : (s.sends ((tt : Int) - done) now).length ≤ 8 := by
          refine Nat.le_trans (sentL_le s _ _) ?_
          unfold sendK
          rw [H.out.2.co.size]
          omega
        have hds := H.out.1.stepW hs hc3
        obtain ⟨l2, hl2e⟩ : ∃ x, x = s.sends ((tt : Int) - done) now := ⟨_, rfl⟩
        obtain ⟨s1, hs1⟩ : ∃ x, x = s.send ((tt : Int) - done) now := ⟨_, rfl⟩
        rw [← hl2e, ← hs1] at hmid
        rw [← hl2e] at hsl hnum hlen
        rw [← hs1] at hds
        rw [← hl2e]
        obtain ⟨ln, hln⟩ : ∃ x, x = l2.length := ⟨_, rfl⟩
        rw [← hln]
        have H3 := Lib.hid (And.intro hds (And.intro hmid (And.intro hsl (And.intro hln hnum))))
        have hlb : ln ≤ 8 := by rw [hln]; exact hlen
        have hd29 : done ≤ 29 := by omega
        clear hmid hds hs hsl hc3 hl2e hs1 hln hnum hlen H
        go_wp2_with fail
        obtain ⟨wo, rfl⟩ : ∃ wo : World, wo = wr := ⟨_, rfl⟩
        go_loopw [78, 13, 14] (fun i lt wt wx => ∃ (j c1 c2 : Nat) (A1 A2 : Option Addr), j ≤ ln ∧ i = .int .i64 j ∧ lt = .slice A1 j c1 ∧ wt = .slice A2 j c2 ∧ Hid (Two w3 wx A1 j c1 ((l2.take j).map fun v => u16V (done + v)) A2 j c2 ((l2.take j).map fun v => intV (done + v)))) (fun i _ _ _ => ln - (intOf i).toNat)
        case atStart => exact ⟨0, 0, 0, none, none, Nat.zero_le _, rfl, rfl, rfl, Lib.hid (Two.nil (Chg.refl _ _))⟩
        case round =>
          obtain ⟨j, c1, c2, A1, A2, hj, rfl, rfl, rfl, HT⟩ := hrel
          by_cases hlj : j < ln
          · obtain ⟨v, hv⟩ : ∃ v, l2[j]? = some v := ⟨_, List.getElem?_eq_getElem (by rw [← H3.out.2.2.2.1]; exact hlj)⟩
            obtain ⟨a3, rfl, x3⟩ := H3.out.2.2.1.2 j (encN v) (by rw [List.getElem?_map, hv]; rfl)
            replace x3 := HT.out.chg.cell_some x3 (by simp)
            have hvn := H3.out.2.2.2.2 v (List.mem_of_getElem? hv)
            unfold encN at x3
            obtain ⟨q, hq⟩ : ∃ q, q = done + v := ⟨_, rfl⟩
            have hq1 : (done : Int) + (v : Int) = (q : Int) := by omega
            have hq2 : moveN s1.base (v : Int) = (q : Int) := by
              rw [H3.out.2.1.co.base]
              unfold moveN
              omega
            have htk : l2.take (j + 1) = l2.take j ++ [v] := by rw [List.take_add_one, hv]; rfl
            have j1 : (0 : Int) ≤ (j : Int) := by omega
            have j2 : (j : Int) < (ln : Int) := by omega
            obtain ⟨B1, d1, w4, hrun1, T4, _, _⟩ := (HT.out.to ((Chg.refl [] wr).alloc (.cells #[.int .u16 (q : Int)] 32))).push1 wr.heap.size q (by
              have := (Blk.new wr 32 #[.int .u16 (q : Int)]).cell 0
              exact this) (by omega)
            obtain ⟨B2, d2, w5, hrun2, T5, _, _⟩ := (T4.to ((Chg.refl [] w4).alloc (.cells #[.int .i64 (q : Int)] 3))).push2 w4.heap.size q (by
              have := (Blk.new w4 3 #[.int .i64 (q : Int)]).cell 0
              exact this) (by omega)
            have HR := Lib.hid (And.intro htk (And.intro hq T5))
            have HN2 := Lib.hid ((H3.out.1.to HT.out.chg).win.num (v : Int))
            rw [hq2] at HN2
            clear hv htk hq2 T4 T5 hq
            go_wp2_with fail
            refine HN2.out.mono ?_
            rintro e w6 ⟨rfl, rfl⟩
            go_wp2_with (first
              | (at_builtin; refine wpList_appR (by rfl) _ _ _ _ (by rfl) _ _ _ _ (by rfl) (by rfl) hrun1 ?_)
              | (at_builtin; refine wpList_appR (by rfl) _ _ _ _ (by rfl) _ _ _ _ (by rfl) (by rfl) hrun2 ?_))
            go_roundw
            case rel => exact ⟨j + 1, d1, d2, B1, B2, by omega, by go_num, rfl, rfl, Lib.hid (by rw [HR.out.1, List.map_append, List.map_append]; have := HR.out.2.2; rw [HR.out.2.1] at this; exact this)⟩
            case measure => simp [intOf]; omega
          · obtain rfl : j = ln := by omega
            obtain ⟨D, hD⟩ : ∃ D, D = l2.map (done + ·) := ⟨_, rfl⟩
            have HD : Hid (Two w3 wr A1 j c1 (D.map u16V) A2 j c2 (D.map intV) ∧ Mid n tt m now s1 b done got D ∧ j = D.length) := Lib.hid (by
              have h1 := HT.out
              have h2 := H3.out.2.1
              have h3 := H3.out.2.2.2.1
              rw [← hD] at h2
              rw [List.take_of_length_le (by omega)] at h1
              refine ⟨?_, h2, by rw [hD, List.length_map]; exact h3⟩
              rw [hD, List.map_map, List.map_map]
              exact h1)
            have H4 := Lib.hid H3.out.1
            clear HT H3 hD hj hlj
            go_upto_region 20 with fail
            go_cut [102] (fun s102 wx => s102 = .bool (decide (k % 4 = 1) && decide (0 < j)) ∧ wr = wx)
            case first =>
              by_cases hk4 : k % 4 = 1
              · have e1 : ((k : Int) % 4 == 1) = true := by simp; omega
                have e2 : (k % 4 == 1) = true := by simpa using hk4
                by_cases hj0 : 0 < j
                · have e3 : decide ((0 : Int) < (j : Int)) = true := decide_eq_true (by omega)
                  have e4 : decide (0 < j) = true := decide_eq_true hj0
                  go_wp2
                  go_meet
                  exact ⟨by simp [hk4, hj0], rfl⟩
                · have e3 : decide ((0 : Int) < (j : Int)) = false := decide_eq_false (by omega)
                  have e4 : decide (0 < j) = false := decide_eq_false hj0
                  go_wp2
                  go_meet
                  exact ⟨by simp [hj0], rfl⟩
              · have e1 : ((k : Int) % 4 == 1) = false := by simp; omega
                have e2 : (k % 4 == 1) = false := by simpa using hk4
                go_wp2
                go_meet
                exact ⟨by simp [hk4], rfl⟩
            case rest =>
              obtain ⟨rfl, rfl⟩ := hcut
              obtain ⟨q1, hq1⟩ : ∃ q, q = (decide (k % 4 = 1) && decide (0 < j)) := ⟨_, rfl⟩
              rw [← hq1]
              go_upto_if 102 with fail
              go_cut [13, 14] (fun lt wt wx => ∃ (D : List Nat) (j c1 c2 : Nat) (A1 A2 : Option Addr), lt = .slice A1 j c1 ∧ wt = .slice A2 j c2 ∧ j ≤ 8 ∧ Hid (Two w3 wx A1 j c1 (D.map u16V) A2 j c2 (D.map intV) ∧ Mid n tt m now s1 b done got D ∧ j = D.length))
              case first =>
                cases q1 with
                | false =>
                  go_wp2
                  go_meet
                  exact ⟨D, j, c1, c2, A1, A2, rfl, rfl, hlb, HD⟩
                | true =>
                  have hqq : k % 4 = 1 ∧ 0 < j := by
                    have := hq1.symm
                    simpa using this
                  have hnm : now < m := by
                    refine Nat.lt_of_not_le fun h => ?_
                    have := hk0 h
                    subst this
                    omega
                  clear hq1
                  have i1 : (1 : Int) ≤ (j : Int) := by omega
                  obtain ⟨g1, o1, rfl, hg1, _⟩ := HD.out.1.form1 (by omega)
                  obtain ⟨g2, o2, rfl, hg2, _⟩ := HD.out.1.form2 (by omega)
                  go_upto_region 21 with fail
                  go_region
                  obtain ⟨X1, hX1⟩ : ∃ X, X = (if c1 = 1 then some (⟨g1, o1, none⟩ : Addr) else some ⟨g1, o1 + 1, none⟩) := ⟨_, rfl⟩
                  obtain ⟨X2, hX2⟩ : ∃ X, X = (if c2 = 1 then some (⟨g2, o2, none⟩ : Addr) else some ⟨g2, o2 + 1, none⟩) := ⟨_, rfl⟩
                  rw [← hX1, ← hX2]
                  have HX1 : Hid (X1 = cutA (some ⟨g1, o1, none⟩) c1 1 1) := Lib.hid hX1
                  have HX2 : Hid (X2 = cutA (some ⟨g2, o2, none⟩) c2 1 1) := Lib.hid hX2
                  clear hX1 hX2
                  go_wp2
                  go_meet
                  refine ⟨D.drop 1, j - 1, c1 - 1, c2 - 1, X1, X2, rfl, rfl, by omega, Lib.hid ⟨?_, HD.out.2.1.sub (by omega) (fun q hq => List.mem_of_mem_drop hq), by rw [List.length_drop]; have := HD.out.2.2; omega⟩⟩
                  rw [List.map_drop, List.map_drop, HX1.out, HX2.out]
                  exact ((HD.out.1.drop (by omega) (by omega)).to ((Chg.refl [] _).drew))
              case rest =>
                clear hq1 q1 HD hlb
                as_aux_lemma =>
                  obtain ⟨D, j, c1, c2, A1, A2, rfl, rfl, hlb, HD⟩ := hcut
                  obtain ⟨wr, rfl⟩ : ∃ w, w = wc := ⟨_, rfl⟩
                  go_upto_region 22 with fail
                  go_cut [114] (fun s114 wx => s114 = .bool (decide (k % 4 = 2) && decide (0 < j)) ∧ wr = wx)
                  case first =>
                    by_cases hk4 : k % 4 = 2
                    · have e1 : ((k : Int) % 4 == 2) = true := by simp; omega
                      have e2 : (k % 4 == 2) = true := by simpa using hk4
                      by_cases hj0 : 0 < j
                      · have e3 : decide ((0 : Int) < (j : Int)) = true := decide_eq_true (by omega)
                        have e4 : decide (0 < j) = true := decide_eq_true hj0
                        go_wp2
                        go_meet
                        exact ⟨by simp [hk4, hj0], rfl⟩
                      · have e3 : decide ((0 : Int) < (j : Int)) = false := decide_eq_false (by omega)
                        have e4 : decide (0 < j) = false := decide_eq_false hj0
                        go_wp2
                        go_meet
                        exact ⟨by simp [hj0], rfl⟩
                    · have e1 : ((k : Int) % 4 == 2) = false := by simp; omega
                      have e2 : (k % 4 == 2) = false := by simpa using hk4
                      go_wp2
                      go_meet
                      exact ⟨by simp [hk4], rfl⟩
                  case rest =>
                    obtain ⟨rfl, rfl⟩ := hcut
                    obtain ⟨q2, hq2⟩ : ∃ q, q = (decide (k % 4 = 2) && decide (0 < j)) := ⟨_, rfl⟩
                    rw [← hq2]
                    go_upto_if 114 with fail
                    go_cut [13, 14] (fun lt wt wx => ∃ (D : List Nat) (j c1 c2 : Nat) (A1 A2 : Option Addr), lt = .slice A1 j c1 ∧ wt = .slice A2 j c2 ∧ j ≤ 8 ∧ Hid (Two w3 wx A1 j c1 (D.map u16V) A2 j c2 (D.map intV) ∧ Mid n tt m now s1 b done got D ∧ j = D.length))
                    case first =>
                      cases q2 with
                      | false =>
                        go_wp2
                        go_meet
                        exact ⟨D, j, c1, c2, A1, A2, rfl, rfl, hlb, HD⟩
                      | true =>
                        have hqq : k % 4 = 2 ∧ 0 < j := by
                          have := hq2.symm
                          simpa using this
                        have hnm : now < m := by
                          refine Nat.lt_of_not_le fun h => ?_
                          have := hk0 h
                          subst this
                          omega
                        clear hq2
                        have i1 : (1 : Int) ≤ (j : Int) := by omega
                        obtain ⟨g1, o1, rfl, hg1, _⟩ := HD.out.1.form1 (by omega)
                        obtain ⟨g2, o2, rfl, hg2, _⟩ := HD.out.1.form2 (by omega)
                        have hgne := HD.out.1.ne
                        obtain ⟨q0, D', rfl⟩ : ∃ q0 D', D = q0 :: D' := by
                          cases D with
                          | nil => have := HD.out.2.2; simp at this; omega
                          | cons x y => exact ⟨x, y, rfl⟩
                        have u1 : wr.cell? ⟨g1, o1, none⟩ = some (.int .u16 (q0 : Int)) := HD.out.1.o1.reads 0 _ rfl
                        have u2 : wr.cell? ⟨g2, o2, none⟩ = some (.int .i64 (q0 : Int)) := HD.out.1.o2.reads 0 _ rfl
                        go_upto_region 23 with fail
                        as_aux_lemma =>
                          refine wp_region_noPanic ?_
                          refine wp_region_held_drew (S := fun w' => w'.cell? ⟨g1, o1, none⟩ = some (.int .u16 (q0 : Int)) ∧ w'.cell? ⟨g2, o2, none⟩ = some (.int .i64 (q0 : Int))) (by kernel_rfl) ⟨u1, u2⟩ (fun hHeld => ?_)
                          refine wpAnyH_take (i := 0) (oi := _) (v := ?_) rfl (by kernel_rfl) (by kernel_rfl) (by kernel_rfl) (fun _ _ _ h => h) (Or.inl ⟨by rfl, ?_⟩) (by assumption) ?_
                          rotate_left 1
                          · intro w hSw
                            try dsimp only at hSw
                            go_simp
                            try with_reducible rfl
                          try simp only [List.getElem_toArray, List.getElem_cons_zero, List.getElem_cons_succ, Act.put, List.setIfInBounds_toArray, List.set_cons_zero, List.set_cons_succ]
                          refine wpAnyH_take (i := 1) (oi := _) (v := ?_) rfl (by kernel_rfl) (by kernel_rfl) (by kernel_rfl) (fun _ _ _ h => h) (Or.inl ⟨by rfl, ?_⟩) (by assumption) ?_
                          rotate_left 1
                          · intro w hSw
                            try dsimp only at hSw
                            go_simp
                            try with_reducible rfl
                          try simp only [List.getElem_toArray, List.getElem_cons_zero, List.getElem_cons_succ, Act.put, List.setIfInBounds_toArray, List.set_cons_zero, List.set_cons_succ]
                          refine wpAnyH_take (i := 2) (oi := _) (v := ?_) rfl (by kernel_rfl) (by kernel_rfl) (by kernel_rfl) (fun _ _ _ h => h) (Or.inl ⟨by rfl, ?_⟩) (by assumption) ?_
                          rotate_left 1
                          · intro w hSw
                            try dsimp only at hSw
                            go_simp
                            try with_reducible rfl
                          try simp only [List.getElem_toArray, List.getElem_cons_zero, List.getElem_cons_succ, Act.put, List.setIfInBounds_toArray, List.set_cons_zero, List.set_cons_succ]
                          refine wpAnyH_take (i := 3) (oi := _) (v := ?_) rfl (by kernel_rfl) (by kernel_rfl) (by kernel_rfl) (fun _ _ _ h => h) (Or.inl ⟨by rfl, ?_⟩) (by assumption) ?_
                          rotate_left 1
                          · intro w hSw
                            try dsimp only at hSw
                            go_simp
                            try with_reducible rfl
                          try simp only [List.getElem_toArray, List.getElem_cons_zero, List.getElem_cons_succ, Act.put, List.setIfInBounds_toArray, List.set_cons_zero, List.set_cons_succ]
                          refine wpAnyH_take (i := 4) (oi := _) (v := ?_) rfl (by kernel_rfl) (by kernel_rfl) (by kernel_rfl) (fun _ _ _ h => h) (Or.inl ⟨by rfl, ?_⟩) (by assumption) ?_
                          rotate_left 1
                          · intro w hSw
                            try dsimp only at hSw
                            go_simp
                            try with_reducible rfl
                          try simp only [List.getElem_toArray, List.getElem_cons_zero, List.getElem_cons_succ, Act.put, List.setIfInBounds_toArray, List.set_cons_zero, List.set_cons_succ]
                          refine wpAnyH_take (i := 7) (oi := _) (v := ?_) rfl (by kernel_rfl) (by kernel_rfl) (by kernel_rfl) (fun _ _ _ h => h) (Or.inl ⟨by rfl, ?_⟩) (by assumption) ?_
                          rotate_left 1
                          · intro w hSw
                            try dsimp only at hSw
                            go_simp
                            try with_reducible rfl
                          try simp only [List.getElem_toArray, List.getElem_cons_zero, List.getElem_cons_succ, Act.put, List.setIfInBounds_toArray, List.set_cons_zero, List.set_cons_succ]
                          refine wpAnyH_take (i := 8) (oi := _) (v := ?_) rfl (by kernel_rfl) (by kernel_rfl) (by kernel_rfl) (fun _ _ _ h => h) (Or.inl ⟨by rfl, ?_⟩) (by assumption) ?_
                          rotate_left 1
                          · intro w hSw
                            try dsimp only at hSw
                            go_simp
                            try with_reducible rfl
                          try simp only [List.getElem_toArray, List.getElem_cons_zero, List.getElem_cons_succ, Act.put, List.setIfInBounds_toArray, List.set_cons_zero, List.set_cons_succ]
                          refine wpAnyH_take (i := 9) (oi := _) (v := ?_) rfl (by kernel_rfl) (by kernel_rfl) (by kernel_rfl) (fun _ _ _ h => h) (Or.inl ⟨by rfl, ?_⟩) (by assumption) ?_
                          rotate_left 1
                          · intro w hSw
                            try dsimp only at hSw
                            go_simp
                            try with_reducible rfl
                          try simp only [List.getElem_toArray, List.getElem_cons_zero, List.getElem_cons_succ, Act.put, List.setIfInBounds_toArray, List.set_cons_zero, List.set_cons_succ]
                          refine wpAnyH_take (i := 10) (oi := _) (v := ?_) rfl (by kernel_rfl) (by kernel_rfl) (by kernel_rfl) (fun _ _ _ h => h) (Or.inl ⟨by rfl, ?_⟩) (by assumption) ?_
                          rotate_left 1
                          · intro w hSw
                            try dsimp only at hSw
                            go_simp
                            try with_reducible rfl
                          try simp only [List.getElem_toArray, List.getElem_cons_zero, List.getElem_cons_succ, Act.put, List.setIfInBounds_toArray, List.set_cons_zero, List.set_cons_succ]
                          refine wpAnyH_take (i := 11) (oi := _) (v := ?_) rfl (by kernel_rfl) (by kernel_rfl) (by kernel_rfl) (fun _ _ _ h => h) (Or.inl ⟨by rfl, ?_⟩) (by assumption) ?_
                          rotate_left 1
                          · intro w hSw
                            try dsimp only at hSw
                            go_simp
                            try with_reducible rfl
                          try simp only [List.getElem_toArray, List.getElem_cons_zero, List.getElem_cons_succ, Act.put, List.setIfInBounds_toArray, List.set_cons_zero, List.set_cons_succ]
                          obtain ⟨X1, hX1⟩ : ∃ X, X = (if c1 = 1 then some (⟨g1, o1, none⟩ : Addr) else some ⟨g1, o1 + 1, none⟩) := ⟨_, rfl⟩
                          obtain ⟨X2, hX2⟩ : ∃ X, X = (if c2 = 1 then some (⟨g2, o2, none⟩ : Addr) else some ⟨g2, o2 + 1, none⟩) := ⟨_, rfl⟩
                          rw [← hX1, ← hX2]
                          have HX1 : Hid (X1 = cutA (some ⟨g1, o1, none⟩) c1 1 1) := Lib.hid hX1
                          have HX2 : Hid (X2 = cutA (some ⟨g2, o2, none⟩) c2 1 1) := Lib.hid hX2
                          clear hX1 hX2
                          have HT : Hid (Two w3 wr.drew X1 (j - 1) (c1 - 1) (D'.map u16V) X2 (j - 1) (c2 - 1) (D'.map intV)) := Lib.hid (by
                            rw [HX1.out, HX2.out]
                            exact (HD.out.1.drop (by omega) (by omega)).to ((Chg.refl [] _).drew))
                          have HG : Hid (g1 < wr.drew.heap.size ∧ g2 < wr.drew.heap.size) := Lib.hid ⟨hg1, hg2⟩
                          have HJ := Lib.hid (And.intro HD.out.1.o1.le HD.out.1.o2.le)
                          have HM2 := Lib.hid HD.out.2
                          clear HD u1 u2 hg1 hg2
                          generalize wr.drew = wq at *
                          refine wpAnyH_ready (rs := [5, 12]) (by kernel_rfl) (by simp) (AllReadyH.cons rfl (fun K hK => ?_) (AllReadyH.cons rfl (fun K hK => ?_) AllReadyH.nil))
                          · skip
                            go_simp
                            refine hK.out _ _ ⟨((Chg.refl [] wq).alloc _).cell_some hHeld.1 (by simp), ((Chg.refl [] wq).alloc _).cell_some hHeld.2 (by simp)⟩ (fun hHeld => ?_)
                            clear hK K
                            try simp only [List.getElem_toArray, List.getElem_cons_zero, List.getElem_cons_succ, Act.put, List.setIfInBounds_toArray, List.set_cons_zero, List.set_cons_succ]
                            replace HT := Lib.hid (HT.out.to ((Chg.refl [] wq).alloc (.cells #[.int .u16 (q0 : Int)] tU16)))
                            try replace HL2 := Lib.hid (And.intro (((Chg.refl [] wq).alloc (.cells #[.int .u16 (q0 : Int)] tU16)).cell_some HL2.out.1 (by simp)) HL2.out.2)
                            have HL1 := Lib.hid (And.intro (show (wq.alloc (.cells #[.int .u16 (q0 : Int)] tU16)).cell? ⟨wq.heap.size, 0, none⟩ = some (.int .u16 (q0 : Int)) by have := (Blk.new wq tU16 #[.int .u16 (q0 : Int)]).cell 0; exact this) HG.out)
                            replace HG := Lib.hid (And.intro (Nat.lt_of_lt_of_le HG.out.1 ((Chg.refl [] wq).alloc (.cells #[.int .u16 (q0 : Int)] tU16)).size) (Nat.lt_of_lt_of_le HG.out.2 ((Chg.refl [] wq).alloc (.cells #[.int .u16 (q0 : Int)] tU16)).size))
                            generalize wq.alloc (.cells #[.int .u16 (q0 : Int)] tU16) = wx at *
                            generalize wq.heap.size = la1 at *
                            refine wpAnyH_ready (rs := [6, 12]) (by kernel_rfl) (by simp) (AllReadyH.cons rfl (fun K hK => ?_) (AllReadyH.cons rfl (fun K hK => ?_) AllReadyH.nil))
                            · skip
                              have hT := HT.out
                              rw [HX1.out] at hT
                              obtain ⟨B1, d1, wy, hrun, hT2, hch, hkeep⟩ := hT.rot1 HG.out.1 (by omega) HJ.out.1 la1 q0 HL1.out.1 (by omega)
                              rw [← HX1.out] at hrun
                              clear hT
                              refine step_appR (by rfl) _ _ _ _ (by rfl) _ _ _ _ (by rfl) (by rfl) hrun ?_
                              refine hK.out _ _ ⟨hkeep.trans hHeld.1, hch.cell_some hHeld.2 (by simpa using Ne.symm hgne)⟩ (fun hHeld => ?_)
                              clear hK K
                              try simp only [List.getElem_toArray, List.getElem_cons_zero, List.getElem_cons_succ, Act.put, List.setIfInBounds_toArray, List.set_cons_zero, List.set_cons_succ]
                              replace HT := Lib.hid hT2
                              replace HG := Lib.hid (And.intro (Nat.lt_of_lt_of_le HG.out.1 hch.size) (Nat.lt_of_lt_of_le HG.out.2 hch.size))
                              try replace HL2 := Lib.hid (And.intro (hch.cell_some HL2.out.1 (by have := HL2.out.2; simp; omega)) HL2.out.2)
                              clear hrun hch hkeep hT2
                              refine wpAnyH_ready (rs := [12]) (by kernel_rfl) (by simp) (AllReadyH.cons rfl (fun K hK => ?_) AllReadyH.nil)
                              go_simp
                              refine hK.out _ _ ⟨((Chg.refl [] wy).alloc _).cell_some hHeld.1 (by simp), ((Chg.refl [] wy).alloc _).cell_some hHeld.2 (by simp)⟩ (fun hHeld => ?_)
                              clear hK K
                              try simp only [List.getElem_toArray, List.getElem_cons_zero, List.getElem_cons_succ, Act.put, List.setIfInBounds_toArray, List.set_cons_zero, List.set_cons_succ]
                              replace HT := Lib.hid (HT.out.to ((Chg.refl [] wy).alloc (.cells #[.int .i64 (q0 : Int)] tInt)))
                              try replace HL1 := Lib.hid (And.intro (((Chg.refl [] wy).alloc (.cells #[.int .i64 (q0 : Int)] tInt)).cell_some HL1.out.1 (by simp)) HL1.out.2)
                              have HL2 := Lib.hid (And.intro (show (wy.alloc (.cells #[.int .i64 (q0 : Int)] tInt)).cell? ⟨wy.heap.size, 0, none⟩ = some (.int .i64 (q0 : Int)) by have := (Blk.new wy tInt #[.int .i64 (q0 : Int)]).cell 0; exact this) HG.out)
                              replace HG := Lib.hid (And.intro (Nat.lt_of_lt_of_le HG.out.1 ((Chg.refl [] wy).alloc (.cells #[.int .i64 (q0 : Int)] tInt)).size) (Nat.lt_of_lt_of_le HG.out.2 ((Chg.refl [] wy).alloc (.cells #[.int .i64 (q0 : Int)] tInt)).size))
                              generalize wy.alloc (.cells #[.int .i64 (q0 : Int)] tInt) = wz at *
                              generalize wy.heap.size = la2 at *
                              refine wpAnyH_ready (rs := [13]) (by kernel_rfl) (by simp) (AllReadyH.cons rfl (fun K hK => ?_) AllReadyH.nil)
                              have hT := HT.out
                              rw [HX2.out] at hT
                              obtain ⟨B2, d2, wv, hrun, hT2, hch, hkeep⟩ := hT.rot2 HG.out.2 (by omega) HJ.out.2 la2 q0 HL2.out.1 (by omega)
                              rw [← HX2.out] at hrun
                              clear hT
                              refine step_appR (by rfl) _ _ _ _ (by rfl) _ _ _ _ (by rfl) (by rfl) hrun ?_
                              refine hK.out _ _ ⟨hch.cell_some hHeld.1 (by simpa using hgne), hkeep.trans hHeld.2⟩ (fun hHeld => ?_)
                              clear hK K
                              try simp only [List.getElem_toArray, List.getElem_cons_zero, List.getElem_cons_succ, Act.put, List.setIfInBounds_toArray, List.set_cons_zero, List.set_cons_succ]
                              replace HT := Lib.hid hT2
                              replace HG := Lib.hid (And.intro (Nat.lt_of_lt_of_le HG.out.1 hch.size) (Nat.lt_of_lt_of_le HG.out.2 hch.size))
                              try replace HL1 := Lib.hid (And.intro (hch.cell_some HL1.out.1 (by have := HL1.out.2; simp; omega)) HL1.out.2)
                              clear hrun hch hkeep hT2
                              refine wpAnyH_take (i := 14) (oi := _) (v := ?_) rfl (by kernel_rfl) (by kernel_rfl) (by kernel_rfl) (fun _ _ _ h => h) (Or.inl ⟨by rfl, ?_⟩) (by assumption) ?_
                              rotate_left 1
                              · intro w hSw
                                try dsimp only at hSw
                                go_simp
                                try with_reducible rfl
                              try simp only [List.getElem_toArray, List.getElem_cons_zero, List.getElem_cons_succ, Act.put, List.setIfInBounds_toArray, List.set_cons_zero, List.set_cons_succ]
                              refine wpAnyH_take (i := 15) (oi := _) (v := ?_) rfl (by kernel_rfl) (by kernel_rfl) (by kernel_rfl) (fun _ _ _ h => h) (Or.inl ⟨by rfl, ?_⟩) (by assumption) ?_
                              rotate_left 1
                              · intro w hSw
                                try dsimp only at hSw
                                go_simp
                                try with_reducible rfl
                              try simp only [List.getElem_toArray, List.getElem_cons_zero, List.getElem_cons_succ, Act.put, List.setIfInBounds_toArray, List.set_cons_zero, List.set_cons_succ]
                              refine wpAnyH_done (by kernel_rfl) ?_ _
                              refine NoPanic.normal ?_
                              go_wp2_with fail
                              go_meet
                              refine ⟨D' ++ [q0], j, d1, d2, B1, B2, rfl, rfl, by omega, Lib.hid ⟨by rw [List.map_append, List.map_append]; exact HT.out, HM2.out.1.sub (by omega) (fun q hq => by simpa [or_comm] using hq), ?_⟩⟩
                              have := HM2.out.2
                              simp only [List.length_cons] at this
                              simp only [List.length_append, List.length_cons, List.length_nil]
                              omega
                            · skip
                              go_simp
                              refine hK.out _ _ ⟨((Chg.refl [] wx).alloc _).cell_some hHeld.1 (by simp), ((Chg.refl [] wx).alloc _).cell_some hHeld.2 (by simp)⟩ (fun hHeld => ?_)
                              clear hK K
                              try simp only [List.getElem_toArray, List.getElem_cons_zero, List.getElem_cons_succ, Act.put, List.setIfInBounds_toArray, List.set_cons_zero, List.set_cons_succ]
                              replace HT := Lib.hid (HT.out.to ((Chg.refl [] wx).alloc (.cells #[.int .i64 (q0 : Int)] tInt)))
                              try replace HL1 := Lib.hid (And.intro (((Chg.refl [] wx).alloc (.cells #[.int .i64 (q0 : Int)] tInt)).cell_some HL1.out.1 (by simp)) HL1.out.2)
                              have HL2 := Lib.hid (And.intro (show (wx.alloc (.cells #[.int .i64 (q0 : Int)] tInt)).cell? ⟨wx.heap.size, 0, none⟩ = some (.int .i64 (q0 : Int)) by have := (Blk.new wx tInt #[.int .i64 (q0 : Int)]).cell 0; exact this) HG.out)
                              replace HG := Lib.hid (And.intro (Nat.lt_of_lt_of_le HG.out.1 ((Chg.refl [] wx).alloc (.cells #[.int .i64 (q0 : Int)] tInt)).size) (Nat.lt_of_lt_of_le HG.out.2 ((Chg.refl [] wx).alloc (.cells #[.int .i64 (q0 : Int)] tInt)).size))
                              generalize wx.alloc (.cells #[.int .i64 (q0 : Int)] tInt) = wy at *
                              generalize wx.heap.size = la2 at *
                              refine wpAnyH_ready (rs := [6]) (by kernel_rfl) (by simp) (AllReadyH.cons rfl (fun K hK => ?_) AllReadyH.nil)
                              have hT := HT.out
                              rw [HX1.out] at hT
                              obtain ⟨B1, d1, wz, hrun, hT2, hch, hkeep⟩ := hT.rot1 HG.out.1 (by omega) HJ.out.1 la1 q0 HL1.out.1 (by omega)
                              rw [← HX1.out] at hrun
                              clear hT
                              refine step_appR (by rfl) _ _ _ _ (by rfl) _ _ _ _ (by rfl) (by rfl) hrun ?_
                              refine hK.out _ _ ⟨hkeep.trans hHeld.1, hch.cell_some hHeld.2 (by simpa using Ne.symm hgne)⟩ (fun hHeld => ?_)
                              clear hK K
                              try simp only [List.getElem_toArray, List.getElem_cons_zero, List.getElem_cons_succ, Act.put, List.setIfInBounds_toArray, List.set_cons_zero, List.set_cons_succ]
                              replace HT := Lib.hid hT2
                              replace HG := Lib.hid (And.intro (Nat.lt_of_lt_of_le HG.out.1 hch.size) (Nat.lt_of_lt_of_le HG.out.2 hch.size))
                              try replace HL2 := Lib.hid (And.intro (hch.cell_some HL2.out.1 (by have := HL2.out.2; simp; omega)) HL2.out.2)
                              clear hrun hch hkeep hT2
                              refine wpAnyH_ready (rs := [13]) (by kernel_rfl) (by simp) (AllReadyH.cons rfl (fun K hK => ?_) AllReadyH.nil)
                              have hT := HT.out
                              rw [HX2.out] at hT
                              obtain ⟨B2, d2, wv, hrun, hT2, hch, hkeep⟩ := hT.rot2 HG.out.2 (by omega) HJ.out.2 la2 q0 HL2.out.1 (by omega)
                              rw [← HX2.out] at hrun
                              clear hT
                              refine step_appR (by rfl) _ _ _ _ (by rfl) _ _ _ _ (by rfl) (by rfl) hrun ?_
                              refine hK.out _ _ ⟨hch.cell_some hHeld.1 (by simpa using hgne), hkeep.trans hHeld.2⟩ (fun hHeld => ?_)
                              clear hK K
                              try simp only [List.getElem_toArray, List.getElem_cons_zero, List.getElem_cons_succ, Act.put, List.setIfInBounds_toArray, List.set_cons_zero, List.set_cons_succ]
                              replace HT := Lib.hid hT2
                              replace HG := Lib.hid (And.intro (Nat.lt_of_lt_of_le HG.out.1 hch.size) (Nat.lt_of_lt_of_le HG.out.2 hch.size))
                              try replace HL1 := Lib.hid (And.intro (hch.cell_some HL1.out.1 (by have := HL1.out.2; simp; omega)) HL1.out.2)
                              clear hrun hch hkeep hT2
                              refine wpAnyH_take (i := 14) (oi := _) (v := ?_) rfl (by kernel_rfl) (by kernel_rfl) (by kernel_rfl) (fun _ _ _ h => h) (Or.inl ⟨by rfl, ?_⟩) (by assumption) ?_
                              rotate_left 1
                              · intro w hSw
                                try dsimp only at hSw
                                go_simp
                                try with_reducible rfl
                              try simp only [List.getElem_toArray, List.getElem_cons_zero, List.getElem_cons_succ, Act.put, List.setIfInBounds_toArray, List.set_cons_zero, List.set_cons_succ]
                              refine wpAnyH_take (i := 15) (oi := _) (v := ?_) rfl (by kernel_rfl) (by kernel_rfl) (by kernel_rfl) (fun _ _ _ h => h) (Or.inl ⟨by rfl, ?_⟩) (by assumption) ?_
                              rotate_left 1
                              · intro w hSw
                                try dsimp only at hSw
                                go_simp
                                try with_reducible rfl
                              try simp only [List.getElem_toArray, List.getElem_cons_zero, List.getElem_cons_succ, Act.put, List.setIfInBounds_toArray, List.set_cons_zero, List.set_cons_succ]
                              refine wpAnyH_done (by kernel_rfl) ?_ _
                              refine NoPanic.normal ?_
                              go_wp2_with fail
                              go_meet
                              refine ⟨D' ++ [q0], j, d1, d2, B1, B2, rfl, rfl, by omega, Lib.hid ⟨by rw [List.map_append, List.map_append]; exact HT.out, HM2.out.1.sub (by omega) (fun q hq => by simpa [or_comm] using hq), ?_⟩⟩
                              have := HM2.out.2
                              simp only [List.length_cons] at this
                              simp only [List.length_append, List.length_cons, List.length_nil]
                              omega
                          · skip
                            go_simp
                            refine hK.out _ _ ⟨((Chg.refl [] wq).alloc _).cell_some hHeld.1 (by simp), ((Chg.refl [] wq).alloc _).cell_some hHeld.2 (by simp)⟩ (fun hHeld => ?_)
                            clear hK K
                            try simp only [List.getElem_toArray, List.getElem_cons_zero, List.getElem_cons_succ, Act.put, List.setIfInBounds_toArray, List.set_cons_zero, List.set_cons_succ]
                            replace HT := Lib.hid (HT.out.to ((Chg.refl [] wq).alloc (.cells #[.int .i64 (q0 : Int)] tInt)))
                            try replace HL1 := Lib.hid (And.intro (((Chg.refl [] wq).alloc (.cells #[.int .i64 (q0 : Int)] tInt)).cell_some HL1.out.1 (by simp)) HL1.out.2)
                            have HL2 := Lib.hid (And.intro (show (wq.alloc (.cells #[.int .i64 (q0 : Int)] tInt)).cell? ⟨wq.heap.size, 0, none⟩ = some (.int .i64 (q0 : Int)) by have := (Blk.new wq tInt #[.int .i64 (q0 : Int)]).cell 0; exact this) HG.out)
                            replace HG := Lib.hid (And.intro (Nat.lt_of_lt_of_le HG.out.1 ((Chg.refl [] wq).alloc (.cells #[.int .i64 (q0 : Int)] tInt)).size) (Nat.lt_of_lt_of_le HG.out.2 ((Chg.refl [] wq).alloc (.cells #[.int .i64 (q0 : Int)] tInt)).size))
                            generalize wq.alloc (.cells #[.int .i64 (q0 : Int)] tInt) = wx at *
                            generalize wq.heap.size = la2 at *
                            refine wpAnyH_ready (rs := [5]) (by kernel_rfl) (by simp) (AllReadyH.cons rfl (fun K hK => ?_) AllReadyH.nil)
                            go_simp
                            refine hK.out _ _ ⟨((Chg.refl [] wx).alloc _).cell_some hHeld.1 (by simp), ((Chg.refl [] wx).alloc _).cell_some hHeld.2 (by simp)⟩ (fun hHeld => ?_)
                            clear hK K
                            try simp only [List.getElem_toArray, List.getElem_cons_zero, List.getElem_cons_succ, Act.put, List.setIfInBounds_toArray, List.set_cons_zero, List.set_cons_succ]
                            replace HT := Lib.hid (HT.out.to ((Chg.refl [] wx).alloc (.cells #[.int .u16 (q0 : Int)] tU16)))
                            try replace HL2 := Lib.hid (And.intro (((Chg.refl [] wx).alloc (.cells #[.int .u16 (q0 : Int)] tU16)).cell_some HL2.out.1 (by simp)) HL2.out.2)
                            have HL1 := Lib.hid (And.intro (show (wx.alloc (.cells #[.int .u16 (q0 : Int)] tU16)).cell? ⟨wx.heap.size, 0, none⟩ = some (.int .u16 (q0 : Int)) by have := (Blk.new wx tU16 #[.int .u16 (q0 : Int)]).cell 0; exact this) HG.out)
                            replace HG := Lib.hid (And.intro (Nat.lt_of_lt_of_le HG.out.1 ((Chg.refl [] wx).alloc (.cells #[.int .u16 (q0 : Int)] tU16)).size) (Nat.lt_of_lt_of_le HG.out.2 ((Chg.refl [] wx).alloc (.cells #[.int .u16 (q0 : Int)] tU16)).size))
                            generalize wx.alloc (.cells #[.int .u16 (q0 : Int)] tU16) = wy at *
                            generalize wx.heap.size = la1 at *
                            refine wpAnyH_ready (rs := [6]) (by kernel_rfl) (by simp) (AllReadyH.cons rfl (fun K hK => ?_) AllReadyH.nil)
                            have hT := HT.out
                            rw [HX1.out] at hT
                            obtain ⟨B1, d1, wz, hrun, hT2, hch, hkeep⟩ := hT.rot1 HG.out.1 (by omega) HJ.out.1 la1 q0 HL1.out.1 (by omega)
                            rw [← HX1.out] at hrun
                            clear hT
                            refine step_appR (by rfl) _ _ _ _ (by rfl) _ _ _ _ (by rfl) (by rfl) hrun ?_
                            refine hK.out _ _ ⟨hkeep.trans hHeld.1, hch.cell_some hHeld.2 (by simpa using Ne.symm hgne)⟩ (fun hHeld => ?_)
                            clear hK K
                            try simp only [List.getElem_toArray, List.getElem_cons_zero, List.getElem_cons_succ, Act.put, List.setIfInBounds_toArray, List.set_cons_zero, List.set_cons_succ]
                            replace HT := Lib.hid hT2
                            replace HG := Lib.hid (And.intro (Nat.lt_of_lt_of_le HG.out.1 hch.size) (Nat.lt_of_lt_of_le HG.out.2 hch.size))
                            try replace HL2 := Lib.hid (And.intro (hch.cell_some HL2.out.1 (by have := HL2.out.2; simp; omega)) HL2.out.2)
                            clear hrun hch hkeep hT2
                            refine wpAnyH_ready (rs := [13]) (by kernel_rfl) (by simp) (AllReadyH.cons rfl (fun K hK => ?_) AllReadyH.nil)
                            have hT := HT.out
                            rw [HX2.out] at hT
                            obtain ⟨B2, d2, wv, hrun, hT2, hch, hkeep⟩ := hT.rot2 HG.out.2 (by omega) HJ.out.2 la2 q0 HL2.out.1 (by omega)
                            rw [← HX2.out] at hrun
                            clear hT
                            refine step_appR (by rfl) _ _ _ _ (by rfl) _ _ _ _ (by rfl) (by rfl) hrun ?_
                            refine hK.out _ _ ⟨hch.cell_some hHeld.1 (by simpa using hgne), hkeep.trans hHeld.2⟩ (fun hHeld => ?_)
                            clear hK K
                            try simp only [List.getElem_toArray, List.getElem_cons_zero, List.getElem_cons_succ, Act.put, List.setIfInBounds_toArray, List.set_cons_zero, List.set_cons_succ]
                            replace HT := Lib.hid hT2
                            replace HG := Lib.hid (And.intro (Nat.lt_of_lt_of_le HG.out.1 hch.size) (Nat.lt_of_lt_of_le HG.out.2 hch.size))
                            try replace HL1 := Lib.hid (And.intro (hch.cell_some HL1.out.1 (by have := HL1.out.2; simp; omega)) HL1.out.2)
                            clear hrun hch hkeep hT2
                            refine wpAnyH_take (i := 14) (oi := _) (v := ?_) rfl (by kernel_rfl) (by kernel_rfl) (by kernel_rfl) (fun _ _ _ h => h) (Or.inl ⟨by rfl, ?_⟩) (by assumption) ?_
                            rotate_left 1
                            · intro w hSw
                              try dsimp only at hSw
                              go_simp
                              try with_reducible rfl
                            try simp only [List.getElem_toArray, List.getElem_cons_zero, List.getElem_cons_succ, Act.put, List.setIfInBounds_toArray, List.set_cons_zero, List.set_cons_succ]
                            refine wpAnyH_take (i := 15) (oi := _) (v := ?_) rfl (by kernel_rfl) (by kernel_rfl) (by kernel_rfl) (fun _ _ _ h => h) (Or.inl ⟨by rfl, ?_⟩) (by assumption) ?_
                            rotate_left 1
                            · intro w hSw
                              try dsimp only at hSw
                              go_simp
                              try with_reducible rfl
                            try simp only [List.getElem_toArray, List.getElem_cons_zero, List.getElem_cons_succ, Act.put, List.setIfInBounds_toArray, List.set_cons_zero, List.set_cons_succ]
                            refine wpAnyH_done (by kernel_rfl) ?_ _
                            refine NoPanic.normal ?_
                            go_wp2_with fail
                            go_meet
                            refine ⟨D' ++ [q0], j, d1, d2, B1, B2, rfl, rfl, by omega, Lib.hid ⟨by rw [List.map_append, List.map_append]; exact HT.out, HM2.out.1.sub (by omega) (fun q hq => by simpa [or_comm] using hq), ?_⟩⟩
                            have := HM2.out.2
                            simp only [List.length_cons] at this
                            simp only [List.length_append, List.length_cons, List.length_nil]
                            omega
                    case rest =>
                      clear hq2 q2 HD hlb
                      as_aux_lemma =>
                        obtain ⟨D, j, c1, c2, A1, A2, rfl, rfl, hlb, HD⟩ := hcut
                        obtain ⟨wr, rfl⟩ : ∃ w, w = wc := ⟨_, rfl⟩
                        have HB := Lib.hid H4.out.lts
                        have HLD : Hid (Ld W w3 wr pw p mb s1 b A1 c1 A2 c2 j D) := Lib.hid ⟨HD.out.1.o1, HD.out.1.o2, H4.out.to HD.out.1.chg⟩
                        have HMD := Lib.hid HD.out.2
                        clear HD H4
                        obtain ⟨wo, rfl⟩ : ∃ wo : World, wo = wr := ⟨_, rfl⟩
                        go_wp2_with fail
                        go_loopw [131] (fun i wx => ∃ (i' : Nat) (b' : IB), i' ≤ j ∧ i = .int .i64 i' ∧ Hid (Ld W w3 wx pw p mb s1 b' A1 c1 A2 c2 j D ∧ Mid n tt m now s1 b' done got (D.drop i'))) (fun i _ => j - (intOf i).toNat)
                        case atStart => exact ⟨0, b, Nat.zero_le _, rfl, Lib.hid ⟨HLD.out, HMD.out.1⟩⟩
                        case round =>
                          obtain ⟨i', b', hij, rfl, HH⟩ := hrel
                          by_cases hlj : i' < j
                          · have hget : i' < D.length := by rw [← HMD.out.2]; exact hlj
                            obtain ⟨q, hq⟩ : ∃ q, D[i']? = some q := ⟨_, List.getElem?_eq_getElem hget⟩
                            obtain ⟨a1, rfl, x1⟩ := HH.out.1.o1.cell (j := i') (u := .int .u16 (q : Int)) (by rw [List.getElem?_map, hq]; rfl)
                            obtain ⟨a2, rfl, x2⟩ := HH.out.1.o2.cell (j := i') (u := .int .i64 (q : Int)) (by rw [List.getElem?_map, hq]; rfl)
                            have hdr : D.drop i' = q :: D.drop (i' + 1) := by
                              rw [List.drop_eq_getElem_cons hget]
                              congr 1
                              rw [List.getElem?_eq_getElem hget] at hq
                              exact Option.some.inj hq
                            have hout := HH.out.2.pendOk q (by rw [hdr]; simp)
                            have HQ := Lib.hid (And.intro hdr hout)
                            have j1 : (0 : Int) ≤ (i' : Int) := by omega
                            have j2 : (i' : Int) < (j : Int) := by omega
                            have hb1 : (a1.add i').block ≠ mb := by
                              have e : (a1.add i').block = a1.block := by unfold Addr.add; split <;> rfl
                              have := HH.out.1.o1.ge a1.block (by simp [sB])
                              have := HB.out.2.2
                              omega
                            have hb2 : (a2.add i').block ≠ mb := by
                              have e : (a2.add i').block = a2.block := by unfold Addr.add; split <;> rfl
                              have := HH.out.1.o2.ge a2.block (by simp [sB])
                              have := HB.out.2.2
                              omega
                            have HBB := Lib.hid (And.intro hb1 hb2)
                            have HNX : Hid (∀ b2, Mid n tt m now s1 b2 done got (D.drop i') → Mid n tt m now s1 (b2.take q (hopM q)) done got (D.drop (i' + 1))) := Lib.hid (fun b2 h2 => h2.take hout (fun x hx => by rw [hdr] at hx; simpa using hx) (fun x hx => by rw [hdr]; simp [hx]))
                            clear hget hq hdr hout hb1 hb2
                            have HX := Lib.hid (And.intro x1 x2)
                            clear x1 x2
                            as_aux_lemma =>
                              go_upto_region 27 with fail
                              have HX71 := HX.out.1
                              have HX72 := HX.out.2
                              go_region_held3 (fun w' => w'.cell? (a1.add i') = some (.int .u16 (q : Int)) ∧ w'.cell? (a2.add i') = some (.int .i64 (q : Int)))
                                (first | exact HX.out | assumption | go_keep)
                                (first
                                  | (go_at_call 10; refine (msg_any (q : Int) _).mono ?_; rintro e w6 ⟨rfl, rfl⟩)
                                  | (go_at_call 9; refine (take_any _ p mb b' (HH.out.1.d.to ?_).box HH.out.1.d.ne (q : Int) (hopM (q : Int))).mono ?_; exact ((Chg.refl [] wr).alloc _).drew; rintro e w7 ⟨rfl, hi, hc⟩;
                                      have HX7a := hc.cell_some (((Chg.refl [] wr).alloc _).drew.cell_some HX71 (by simp)) (by simpa using HBB.out.1);
                                      have HX7b := hc.cell_some (((Chg.refl [] wr).alloc _).drew.cell_some HX72 (by simp)) (by simpa using HBB.out.2);
                                      have H7 := Lib.hid (HH.out.1.took HB.out.2.2 (((Chg.refl [] wr).alloc _).drew) hi hc);
                                      clear hi hc))
                              clear HX
                              by_cases hk3 : k % 4 = 3
                              · have e1 : ((k : Int) % 4 != 3) = false := by simp; omega
                                have e2 : (k % 4 != 3) = false := by simp; omega
                                have HH7 := Lib.hid (And.intro H7.out (HNX.out _ HH.out.2))
                                have HX7 := Lib.hid (And.intro HX7a HX7b)
                                clear HX71 HX72 HX7a HX7b H7 HH
                                go_upto_region 29 with fail
                                have HX81 := HX7.out.1
                                have HX82 := HX7.out.2
                                go_region_held3 (fun w' => w'.cell? (a1.add i') = some (.int .u16 (q : Int)) ∧ w'.cell? (a2.add i') = some (.int .i64 (q : Int)))
                                  (first | exact HX7.out | assumption | go_keep)
                                  (first
                                    | (go_at_call 10; refine (msg_any (q : Int) _).mono ?_; rintro e w6 ⟨rfl, rfl⟩)
                                    | (go_at_call 9; refine (take_any _ p mb (b'.take q (hopM q)) (HH7.out.1.d.to ?_).box HH7.out.1.d.ne (q : Int) (hopM (q : Int))).mono ?_; exact ((Chg.refl [] w7).alloc _).drew; rintro e w8 ⟨rfl, hi, hc⟩;
                                        have HX8a := hc.cell_some (((Chg.refl [] w7).alloc _).drew.cell_some HX81 (by simp)) (by simpa using HBB.out.1);
                                        have HX8b := hc.cell_some (((Chg.refl [] w7).alloc _).drew.cell_some HX82 (by simp)) (by simpa using HBB.out.2);
                                        have H8 := Lib.hid (HH7.out.1.took HB.out.2.2 (((Chg.refl [] w7).alloc _).drew) hi hc);
                                        clear hi hc))
                                go_wp2
                                go_roundw
                                case rel => exact ⟨i' + 1, (b'.take q (hopM q)).take q (hopM q), by omega, by go_num, Lib.hid ⟨H8.out, HH7.out.2.take HQ.out.2 (fun x hx => .inr hx) (fun x hx => hx)⟩⟩
                                case measure => simp [intOf]; omega
                              · have e1 : ((k : Int) % 4 != 3) = true := by simp; omega
                                have e2 : (k % 4 != 3) = true := by simp; omega
                                go_wp2
                                go_roundw
                                case rel => exact ⟨i' + 1, b'.take q (hopM q), by omega, by go_num, Lib.hid ⟨H7.out, HNX.out _ HH.out.2⟩⟩
                                case measure => simp [intOf]; omega
                          · obtain rfl : j = i' := by omega
                            have HS : Hid (DSt W wr pw p mb s1 b' ∧ Mid n tt m now s1 b' done got []) := Lib.hid ⟨HH.out.1.d, by
                              have := HH.out.2
                              rwa [List.drop_of_length_le (by rw [HMD.out.2]; exact Nat.le_refl _)] at this⟩
                            clear HH HLD hij hlj HMD
                            as_aux_lemma =>
                              obtain ⟨wo2, rfl⟩ : ∃ wo : World, wo = wr := ⟨_, rfl⟩
                              go_wp2_with fail
                              go_loopw [12] (fun gt wx => ∃ (g : Nat) (b' : IB), gt = .int .i64 g ∧ Hid (DSt W wx pw p mb s1 b' ∧ Mid n tt m now s1 b' done g [])) (fun gt _ => 30 - (intOf gt).toNat)
                              case atStart => exact ⟨got, b', rfl, HS⟩
                              case round =>
                                obtain ⟨g, b', rfl, HH⟩ := hrel
                                clear HS
                                have hgt := HH.out.2.co.gt
                                have hdg := HH.out.2.co.dg
                                go_wp2_with fail
                                refine (head_any _ p mb b' HH.out.1.box).mono ?_
                                rintro e w8 ⟨rfl, hc⟩
                                have H8 := Lib.hid (HH.out.1.to hc)
                                obtain ⟨pp, hpp⟩ : ∃ x, x = b'.pops := ⟨_, rfl⟩
                                obtain ⟨hm, hhm⟩ : ∃ x, x = b'.headM := ⟨_, rfl⟩
                                rw [← hpp, ← hhm]
                                have HPP := Lib.hid (And.intro hpp hhm)
                                clear hc hpp hhm
                                cases pp with
                                | false =>
                                  simp only [msgV, Msg.cells]
                                  go_upto_region 37 with fail
                                  as_aux_lemma =>
                                    have H9 := Lib.hid (H8.out.to ((Chg.refl [] w8).alloc (.cells #[.int .i64 hm.org, .int .u64 hm.seq, .int .i64 hm.hop, .string hm.ex, .string hm.key, .string hm.body] 39)))
                                    generalize w8.alloc (.cells #[.int .i64 hm.org, .int .u64 hm.seq, .int .i64 hm.hop, .string hm.ex, .string hm.key, .string hm.body] 39) = w9 at *
                                    by_cases hk8 : k % 8 = 4
                                    · have e1 : ((k : Int) % 8 != 4) = false := by simp; omega
                                      have e2 : (k % 8 != 4) = false := by simp; omega
                                      have f1 : decide ((g : Int) < (done : Int)) = false := decide_eq_false (by omega)
                                      have f2 : decide (g < done) = false := decide_eq_false (by omega)
                                      have hnm : now < m := by
                                        refine Nat.lt_of_not_le fun h => ?_
                                        have := hk0 h
                                        subst this
                                        omega
                                      go_wp2
                                      go_roundw
                                      case rel => exact ⟨now + 1, done, g, s1, b', by omega, by go_num, rfl, rfl, rfl, rfl, Lib.hid ⟨H9.out, HH.out.2.lost HPP.out.1.symm hnm⟩⟩
                                      case measure => simp [intOf]; omega
                                    · have e1 : ((k : Int) % 8 != 4) = true := by simp; omega
                                      have e2 : (k % 8 != 4) = true := by simp; omega
                                      go_wp2_with fail
                                      refine (ack_any w9 p mb b' H9.out.box).mono ?_
                                      rintro e w10 ⟨rfl, hb⟩
                                      have H10 := Lib.hid (H9.out.to (Chg.of_below hb))
                                      clear hb
                                      go_wp2_with fail
                                      refine (H10.out.win.ack HL.out b'.next b'.mask (g - done) (ackM_lt _) HH.out.2.co.far HH.out.2.co.acks.1 HH.out.2.co.acks.2 HH.out.2.co.bok.n1 HH.out.2.co.bok.n2).mono ?_
                                      rintro e w11 ⟨rfl, hs, hc⟩
                                      have H11 := Lib.hid (And.intro (H10.out.stepW hs hc) (HH.out.2.ack HPP.out.1.symm))
                                      obtain ⟨s3, hs3⟩ : ∃ x, x = s1.ack (g - done) b'.next b'.mask := ⟨_, rfl⟩
                                      rw [← hs3] at H11
                                      obtain ⟨dd, hdd⟩ : ∃ x, x = g - done := ⟨_, rfl⟩
                                      rw [← hdd]
                                      have f0 : (done : Int) + (dd : Int) = (g : Int) := by omega
                                      have hM9 : M ≤ 400 := by have := HM.out; omega
                                      clear hs hc hs3 hdd
                                      go_wp2
                                      go_roundw
                                      case rel => exact ⟨now + 1, g, g, s3, b', by omega, by go_num, rfl, rfl, rfl, rfl, H11⟩
                                      case measure => simp [intOf]; omega
                                | true =>
                                  as_aux_lemma =>
                                    obtain ⟨hh, hout⟩ := HH.out.2.co.headM HPP.out.1.symm
                                    obtain rfl : hm = hopM (g : Int) := by rw [HPP.out.2, hh]
                                    simp only [msgV, Msg.cells, hopM]
                                    have HB8 := Lib.hid (And.intro (Blk.new w8 39 (hopM (g : Int)).cells) (H8.out.to ((Chg.refl [] w8).alloc (.cells (hopM (g : Int)).cells 39))))
                                    have hlt8 := H8.out.lts
                                    have HL8 := Lib.hid hlt8
                                    have hg29 : g < tt := hout.2.1
                                    clear hh hout hlt8 H8
                                    simp only [hopM, Msg.cells] at HB8
                                    go_upto_region 34 with fail
                                    generalize w8.alloc (.cells #[.int .i64 0, .int .u64 0, .int .i64 (g : Int), .string ByteArray.empty, .string ByteArray.empty, .string ByteArray.empty] 39) = w9 at *
                                    generalize w8.heap.size = m8 at *
                                    have u0 := HB8.out.1.cell 0
                                    have u1 := HB8.out.1.cell 1
                                    have u2 := HB8.out.1.cell 2
                                    have u3 := HB8.out.1.cell 3
                                    have u4 := HB8.out.1.cell 4
                                    have u5 := HB8.out.1.cell 5
                                    simp only [List.getElem?_toArray, List.getElem?_cons_succ, List.getElem?_cons_zero] at u0 u1 u2 u3 u4 u5
                                    have HU := Lib.hid (And.intro u0 (And.intro u1 (And.intro u2 (And.intro u3 (And.intro u4 u5)))))
                                    have heq : ∀ W : World, (binOp .neq 39 (.agg #[.int .i64 0, .int .u64 0, .int .i64 (g : Int), .string ByteArray.empty, .string ByteArray.empty, .string ByteArray.empty]) (.agg #[.int .i64 0, .int .u64 0, .int .i64 (g : Int), .string ByteArray.empty, .string ByteArray.empty, .string ByteArray.empty])).run Tryd.prog W = .ok (.bool false) W := fun W => by
                                      have := run_neq_msg (hopM (g : Int)) (hopM (g : Int)) W
                                      rw [(sameM_iff _ _).2 rfl] at this
                                      exact this
                                    go_region_held3 (fun w' => w'.cell? ⟨m8, 0, none⟩ = some (.int .i64 0) ∧ w'.cell? ⟨m8, 1, none⟩ = some (.int .u64 0) ∧ w'.cell? ⟨m8, 2, none⟩ = some (.int .i64 (g : Int)) ∧ w'.cell? ⟨m8, 3, none⟩ = some (.string ByteArray.empty) ∧ w'.cell? ⟨m8, 4, none⟩ = some (.string ByteArray.empty) ∧ w'.cell? ⟨m8, 5, none⟩ = some (.string ByteArray.empty))
                                      (first | exact HU.out | assumption | go_keep)
                                      (first
                                        | (go_at_call 10; refine (msg_any (g : Int) _).mono ?_; rintro e w6 ⟨rfl, rfl⟩)
                                        | (go_at_call 12; refine (pop_any _ p mb b' (HB8.out.2.to ?_).box HB8.out.2.ne HH.out.2.co.bok.n1 HH.out.2.co.bok.n2).mono ?_; exact ((Chg.refl [] w9).alloc _).drew; rintro e w10 ⟨rfl, hi, hc⟩; rw [← HPP.out.1];
                                            have hq : ∀ i, (⟨m8, i, none⟩ : Addr).block ∉ [p, mb] := (fun i => by have := HL8.out; simp; omega);
                                            have k10 : _ ∧ _ ∧ _ ∧ _ ∧ _ ∧ _ := ⟨hc.cell_some (((Chg.refl [] w9).alloc _).drew.cell_some u0 (by simp)) (hq 0), hc.cell_some (((Chg.refl [] w9).alloc _).drew.cell_some u1 (by simp)) (hq 1), hc.cell_some (((Chg.refl [] w9).alloc _).drew.cell_some u2 (by simp)) (hq 2), hc.cell_some (((Chg.refl [] w9).alloc _).drew.cell_some u3 (by simp)) (hq 3), hc.cell_some (((Chg.refl [] w9).alloc _).drew.cell_some u4 (by simp)) (hq 4), hc.cell_some (((Chg.refl [] w9).alloc _).drew.cell_some u5 (by simp)) (hq 5)⟩;
                                            have H10 := Lib.hid ((HB8.out.2.to (((Chg.refl [] w9).alloc _).drew)).stepB hi hc); clear hi hc hq))
                                    all_goals
                                      go_wp2
                                      go_roundw
                                      case rel => exact ⟨g + 1, b'.pop1, by go_num, Lib.hid ⟨H10.out, HH.out.2.pop HPP.out.1.symm⟩⟩
                                      case measure => simp [intOf]; omega
    · obtain rfl : now = M := by omega
      have hend := (show Rd n tt m (m + 3 * tt + 10) s b done got by rw [← hM]; exact H.out.2).end_
      obtain ⟨rfl, rfl⟩ := hend
      have y1 : decide (((now : Nat) : Int) < (m : Int) + 3 * (got : Int) + 10) = false := decide_eq_false (by omega)
      have HM := Lib.hid hM
      clear hM hlt hnow
      have g1 : ((got : Int) == (got : Int)) = true := by simp
      go_wp2_with fail
      refine (lives_any _).mono ?_
      rintro e w3 ⟨rfl, hb⟩
      have HE := Lib.hid (H.out.1.win.chg.trans (Chg.of_below hb))
      clear hb
      go_wp2
      go_ret
      exact ⟨rfl, HE.out.below (Nat.le_refl _) (by simp)⟩
theorem walk (a0 : Int) (w0 : (Lit.int .u64 a0).wf = true) (a1 : Int) (w1 : (Lit.int .u64 a1).wf = true) (A : Option Addr) (c : Nat) (l : List Int) (_hc : l.length ≤ c) (hr : l.length * 8 ≤ 140737488351232) (hw : ∀ x ∈ l, (Lit.int .u64 x).wf = true) (W : World) (hC : Kd.C (Kd.int .u64) W A l.length l) (hL : Laid W) :
    Calls Tryd.prog 3 #[.int .u64 a0, .int .u64 a1, .slice A l.length c] W fun e w' => e = .returned (.bool true) ∧ Below W.heap.size W w' := by
  have e1 : IntKind.u64.min = 0 := by decide
  simp only [Lit.wf, Bool.and_eq_true, decide_eq_true_eq, e1] at w0 w1
  obtain ⟨x, rfl⟩ : ∃ n : Nat, a0 = (n : Int) := ⟨a0.toNat, by omega⟩
  obtain ⟨y, rfl⟩ : ∃ n : Nat, a1 = (n : Int) := ⟨a1.toNat, by omega⟩
  exact core x y A c l W hC hw (by omega) hL
end Go.Proofs.YtkfpooljbpijhaaDoor.inboxBrings
