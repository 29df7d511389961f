/- The document's answer (package staithref09): Origins; staithref01.Ints; the law package's alike. -/
import Derived.Test.YthgejgfdpmbpaaaSnRef
set_option linter.unusedVariables false
set_option linter.unusedSimpArgs false
namespace Go.Proofs.Ythgejgfdpmbpaaa
open Go.RowKit Go.Shelf

theorem top_pos {R : List Rng} {a : Nat} (h : WF a R) (ha : 1 ≤ a) : (0 < topR R) ↔ (0 < R.length) := by
  cases hR : R.getLast? with
  | none =>
    have : R = [] := List.getLast?_eq_none_iff.1 hR
    subst this
    simp [topR]
  | some r =>
    have hm := List.mem_of_getLast? hR
    have h1 := h.mem r hm
    have : 0 < R.length := List.length_pos_of_mem hm
    unfold topR
    rw [hR]
    simp only
    omega

/-- A row of whole numbers. -/
def IntsAt (w : World) (A : Option Addr) (xs : List Value) : Prop := xs = [] ∨ ∃ b, A = some ⟨b, 0, none⟩ ∧ b < w.heap.size ∧ ∀ j u, xs[j]? = some u → w.cell? ⟨b, j, none⟩ = some u
theorem IntsAt.of_owns {w : World} {base n c : Nat} {A : Option Addr} {xs : List Value} (h : w.ownsRow base 3 1 (.slice A n c) n xs) : IntsAt w A xs := by
  rcases h.2 with ⟨h1, h2⟩ | ⟨g, cap', cur, h1, hb, hg, hnc, _, hcs, ht⟩
  · exact .inl (List.eq_nil_of_length_eq_zero (by rw [h.1, h2]))
  · simp only [Value.slice.injEq] at h1
    obtain ⟨rfl, _, rfl⟩ := h1
    refine .inr ⟨g, rfl, (Array.getElem?_eq_some_iff.1 hg).1, fun j u hu => ?_⟩
    have := h.cells (g := g) rfl j u hu
    rwa [add_zero_] at this
theorem IntsAt.chg {w w' : World} {A : Option Addr} {xs : List Value} (h : IntsAt w A xs) (hc : Chg [] w w') : IntsAt w' A xs := by
  rcases h with h | ⟨b, rfl, hb, hx⟩
  · exact .inl h
  · exact .inr ⟨b, rfl, Nat.lt_of_lt_of_le hb hc.size, fun j u hu => hc.cell_some (hx j u hu) (by simp)⟩
set_option maxHeartbeats 4000000 in
theorem ints_any (w : World) (A B : Option Addr) (c d : Nat) (xs : List Nat) (hA : IntsAt w A (xs.map encN)) (hB : IntsAt w B (xs.map encN)) (hsz : xs.length ≤ 1000000) :
    Calls Try.prog 30 #[.slice A xs.length c, .slice B xs.length d] w fun e w' => e = .returned (.bool true) ∧ Chg [] w w' := by
  obtain ⟨n, hn⟩ : ∃ n, n = xs.length := ⟨_, rfl⟩
  have HN := Lib.hid (And.intro hn (And.intro hA hB))
  rw [← hn] at hsz
  rw [← hn]
  have t0 : ((n : Int) != (n : Int)) = false := by simp
  have t0' : (n != n) = false := by simp
  clear hn hA hB
  go_enter Try.func30, Try.ntmps30
  go_wp2
  go_loopw [13] (fun i wr => ∃ k : Nat, k ≤ n ∧ i = .int .i64 k ∧ Chg [] w wr) (fun i _ => n - (intOf i).toNat)
  case atStart => exact ⟨0, Nat.zero_le _, rfl, Chg.refl _ _⟩
  case round =>
    obtain ⟨k, hk, rfl, hcg⟩ := hrel
    have HC := Lib.hid hcg
    clear hcg
    by_cases hlt : k < n
    · have hkl : k < xs.length := by rw [← HN.out.1]; exact hlt
      have hne : xs.map encN ≠ [] := fun h => by
        have := congrArg List.length h
        simp at this
        subst this
        simp at hkl
      obtain ⟨ba, rfl, _, hxa⟩ := HN.out.2.1.resolve_left hne
      obtain ⟨bb, rfl, _, hxb⟩ := HN.out.2.2.resolve_left hne
      have x0 := HC.out.cell_some (hxa k (encN xs[k]) (by simp [hkl])) (by simp)
      have x1 := HC.out.cell_some (hxb k (encN xs[k]) (by simp [hkl])) (by simp)
      obtain ⟨v, hv⟩ : ∃ v, v = xs[k] := ⟨_, rfl⟩
      rw [← hv] at x0 x1
      unfold encN at x0 x1
      have i1 : (0 : Int) ≤ (k : Int) := by omega
      have i2 : (k : Int) < (n : Int) := by omega
      have t1 : ((v : Int) != (v : Int)) = false := by simp
      have t2 : (v != v) = false := by simp
      clear hv hxa hxb hne
      go_wp2
      go_region
      go_wp2
      go_roundw
      case rel => exact ⟨k + 1, by omega, by go_num, HC.out.drew⟩
      case measure => simp [intOf]; omega
    · obtain rfl : k = n := by omega
      go_wp2
      go_ret
      exact ⟨rfl, HC.out⟩

set_option maxRecDepth 100000 in
set_option maxHeartbeats 4000000 in
theorem ref_origins (w W : World) (rb : Nat) (R : Nat → List Rng) (h : RefSt w W rb R) {l : Nat} (hs : Sound R l) :
    Calls Try.prog 31 #[.pointer (some ⟨rb, 0, none⟩)] W fun e w' => ∃ A c, e = .returned (.slice A (orgs R).length c) ∧ IntsAt w' A ((orgs R).map encN) ∧ Chg [] W w' := by
  obtain ⟨i0, hi, hz0, hz1, hz2⟩ := info_parts infoInt
  have HI := Lib.hid (And.intro hi (And.intro hz0 (And.intro hz1 hz2)))
  have HB := Lib.hid (And.intro h hs)
  clear hi hz0 hz1 hz2 h hs
  go_enter Try.func31, Try.ntmps31
  go_wp2
  go_loopw [4, 3] (fun i s3 wr => ∃ (k : Nat) (vA : Option Addr) (vC : Nat), 1 ≤ k ∧ k ≤ 9 ∧ i = .int .i64 k ∧ s3 = .slice vA (orgsTo R k).length vC ∧ wr.ownsRow W.heap.size 3 1 (.slice vA (orgsTo R k).length vC) (orgsTo R k).length ((orgsTo R k).map encN) ∧ Chg [] W wr) (fun i _ _ => 9 - (intOf i).toNat)
  case atStart => exact ⟨1, none, 0, by omega, by omega, rfl, rfl, by rw [orgsTo_one]; exact World.ownsRow_nil _ _ _ _, Chg.refl _ _⟩
  case round =>
    obtain ⟨k, vA, vC, hk1, hk, rfl, rfl, hown, hcg⟩ := hrel
    have HOW := Lib.hid (And.intro hown hcg)
    have hol := orgsTo_len R k
    obtain ⟨ol, hole⟩ : ∃ ol, ol = (orgsTo R k).length := ⟨_, rfl⟩
    rw [← hole] at HOW hol
    rw [← hole]
    have HOLE := Lib.hid hole
    clear hown hcg hole
    by_cases hlt : k < 9
    · obtain ⟨A, c, hblk, hrs⟩ := (HB.out.1.to HOW.out.2).blk
      have d0 := hblk.cell k
      rw [refC_at _ _ _ (by omega)] at d0
      have hst := orgsTo_succ R hk1
      have htp := top_pos (HB.out.2 k).1 (by omega)
      obtain ⟨n, hn⟩ : ∃ n, n = (R k).length := ⟨_, rfl⟩
      rw [← hn] at d0 htp
      have i1 : (0 : Int) ≤ (k : Int) := by omega
      have i2 : (k : Int) < 9 := by omega
      clear hblk hrs hn
      by_cases ht : 0 < n
      · rw [if_pos (htp.2 ht)] at hst
        have HST := Lib.hid hst
        have t1 : decide (0 < n) = true := decide_eq_true ht
        clear hst htp
        go_wp2_with (at_builtin; refine wpList_append_own _ (by rfl) _ _ 41 (by rfl) W.heap.size 3 i0 (.int .i64 0) 1 8 Try.underlying41 HI.out.1 HI.out.2.1 HI.out.2.2.1 HI.out.2.2.2 rfl (by decide) (.slice vA ol vC) ol ((orgsTo R k).map encN) (by rfl) (HOW.out.1.alloc _) ⟨wr.heap.size, 0, none⟩ 1 1 [.int .i64 (k : Nat)] (by rfl) (by rfl) (cell_one_new _ _ _) (by simp [Value.oneCell']) (by simp only [maxLen]; omega) (by omega) (by have := HOW.out.2.size; simp; omega) ?_; intro v1 w2 hown hgrow _; obtain ⟨vA2, vC2, hv2, _⟩ := own_form hown; subst hv2)
        have hcX := (HOW.out.2.alloc (.cells #[.int .i64 (k : Nat)] 3)).grown hgrow (fun g hg => .inr (HOW.out.1.lt g hg).1)
        have HR2 := Lib.hid (And.intro hown hcX)
        clear hown hgrow hcX
        go_wp2
        go_roundw
        case rel =>
          refine ⟨k + 1, vA2, vC2, by omega, by omega, by go_num, ?_, ?_, HR2.out.2⟩
          · rw [HST.out, List.length_append, ← HOLE.out]; rfl
          · rw [HST.out, List.length_append, ← HOLE.out]
            have := HR2.out.1
            simpa [encN] using this
        case measure => simp [intOf]; omega
      · rw [if_neg (fun hh => ht (htp.1 hh)), List.append_nil] at hst
        have HST := Lib.hid hst
        have t1 : decide (0 < n) = false := decide_eq_false ht
        clear hst htp
        go_wp2
        go_roundw
        case rel =>
          refine ⟨k + 1, vA, vC, by omega, by omega, by go_num, ?_, ?_, HOW.out.2⟩
          · rw [HST.out, ← HOLE.out]
          · rw [HST.out, ← HOLE.out]; exact HOW.out.1
        case measure => simp [intOf]; omega
    · obtain rfl : k = 9 := by omega
      go_wp2
      go_ret
      refine ⟨vA, vC, ?_, IntsAt.of_owns HOW.out.1, HOW.out.2⟩
      unfold orgs
      rw [← HOLE.out]
      rfl

set_option maxRecDepth 100000 in
set_option maxHeartbeats 4000000 in
theorem alike_any (w W : World) (bp rb : Nat) (f : Nat → Nat) (R : Nat → List Rng) (h : BookSt w W bp f R) (hr : RefSt w W rb R) {l : Nat} (hs : Sound R l) (hl : l ≤ 1000) :
    Calls Try.prog 15 #[.pointer (some ⟨bp, 0, none⟩), .pointer (some ⟨rb, 0, none⟩)] W fun e w' => e = .returned (.bool true) ∧ Chg [] W w' := by
  have hol := orgsTo_len R 9
  have HB := Lib.hid (And.intro h (And.intro hr hs))
  clear h hr hs
  obtain ⟨on, hon⟩ : ∃ on, on = (orgs R).length := ⟨_, rfl⟩
  have HON := Lib.hid hon
  have hon9 : on ≤ 9 := by rw [hon]; exact hol
  clear hon hol
  go_enter Try.func15, Try.ntmps15
  go_wp2_with fail
  refine (origins_any w W bp f R HB.out.1 HB.out.2.2 (by omega)).mono ?_
  rintro e w1 ⟨A, c, rfl, hown, hc⟩
  rw [← HON.out] at hown
  rw [← HON.out]
  have H1 := Lib.hid (And.intro (IntsAt.of_owns hown) hc)
  clear hown hc
  go_wp2_with fail
  refine (ref_origins w w1 rb R (HB.out.2.1.to H1.out.2) HB.out.2.2).mono ?_
  rintro e w2 ⟨A2, c2, rfl, hi2, hc⟩
  rw [← HON.out]
  have H2 := Lib.hid (And.intro (H1.out.1.chg hc) (And.intro hi2 (H1.out.2.trans hc)))
  clear hi2 hc
  go_wp2_with fail
  rw [HON.out]
  refine (ints_any w2 A A2 c c2 (orgs R) H2.out.1 H2.out.2.1 (by rw [← HON.out]; omega)).mono ?_
  rintro e w3 ⟨rfl, hc⟩
  rw [← HON.out]
  have H3 := Lib.hid (H2.out.2.2.trans hc)
  clear hc
  go_wp2
  go_loopw [5] (fun i wr => ∃ z : Int, -1 ≤ z ∧ z ≤ 10 ∧ i = .int .i64 z ∧ Chg [] W wr) (fun i _ => (10 - intOf i).toNat)
  case atStart => exact ⟨-1, by omega, by omega, rfl, H3.out⟩
  case round =>
    obtain ⟨z, hz1, hz2, rfl, hcg⟩ := hrel
    have HC := Lib.hid (And.intro (HB.out.1.to hcg) (And.intro (HB.out.2.1.to hcg) hcg))
    clear hcg
    by_cases hlt : z ≤ 9
    · have t1 : decide (z ≤ 9) = true := decide_eq_true hlt
      obtain ⟨L, hL⟩ : ∃ L, L = getR R z := ⟨_, rfl⟩
      have hLs := HB.out.2.2.get z
      rw [← hL] at hLs
      have HL := Lib.hid (And.intro hL hLs)
      obtain ⟨n, hn⟩ : ∃ n, n = L.length := ⟨_, rfl⟩
      have hnl : n ≤ 1000 := by rw [hn]; have := hLs.2; omega
      have HNL := Lib.hid hn
      have hzb : L.length ≤ 1000000 := by omega
      have HZB := Lib.hid hzb
      obtain ⟨lw, hlw⟩ : ∃ lw, lw = lowR L := ⟨_, rfl⟩
      obtain ⟨gp, hgp⟩ : ∃ gp, gp = gapsR L := ⟨_, rfl⟩
      have HV := Lib.hid (And.intro hlw hgp)
      have t2 : (gp != gp) = false := by simp
      have t3 : ((lw : Int) != (lw : Int)) = false := by simp
      have t4 : (lw != lw) = false := by simp
      clear hL hLs hn hzb hlw hgp
      go_wp2_with fail
      refine (ref_ranges w wr rb R HC.out.2.1 z).mono ?_
      rintro e w4 ⟨A3, c3, rfl, hrow, rfl⟩
      rw [← HL.out.1] at hrow
      rw [← HL.out.1, ← HNL.out]
      have H4 := Lib.hid hrow
      clear hrow
      go_wp2_with fail
      refine (book_ranges w wr bp f R HC.out.1 z HB.out.2.2 (by omega)).mono ?_
      rintro e w5 ⟨A4, c4, rfl, hrow, hc⟩
      rw [← HL.out.1] at hrow
      rw [← HL.out.1, ← HNL.out]
      have H5 := Lib.hid (And.intro hrow (And.intro (H4.out.chg0 hc) (And.intro (HC.out.1.to hc) (HC.out.2.2.trans hc))))
      clear hrow hc
      go_wp2_with fail
      rw [HNL.out]
      refine (same_any w5 A4 A3 c4 c3 L L H5.out.1 H5.out.2.1 HZB.out HZB.out).mono ?_
      rintro e w6 ⟨rfl, hc⟩
      rw [decide_eq_true (rfl : L = L), ← HNL.out]
      have H6 := Lib.hid (And.intro (H5.out.2.1.chg0 hc) (And.intro (H5.out.2.2.1.to hc) (H5.out.2.2.2.trans hc)))
      clear hc
      go_wp2_with fail
      refine (book_low w w6 bp f R H6.out.2.1 z).mono ?_
      rintro e w7 ⟨rfl, rfl⟩
      rw [← HL.out.1, ← HV.out.1]
      go_wp2_with fail
      rw [HNL.out]
      refine (rlow_any w6 A3 c3 L H6.out.1 HZB.out).mono ?_
      rintro e w8 ⟨rfl, hc⟩
      rw [← HV.out.1, ← HNL.out]
      have H8 := Lib.hid (And.intro (H6.out.1.chg0 hc) (And.intro (H6.out.2.1.to hc) (H6.out.2.2.trans hc)))
      clear hc
      go_wp2_with fail
      refine (book_gaps w w8 bp f R H8.out.2.1 z HB.out.2.2 (by omega)).mono ?_
      rintro e w9 ⟨rfl, rfl⟩
      rw [← HL.out.1, ← HV.out.2]
      go_wp2_with fail
      rw [HNL.out]
      refine (rgaps_any w8 A3 c3 L H8.out.1 HZB.out).mono ?_
      rintro e w10 ⟨rfl, hc⟩
      rw [cnt1_gaps HL.out.2.1, ← HV.out.2, ← HNL.out]
      have H10 := Lib.hid (H8.out.2.2.trans hc)
      clear hc
      go_wp2
      go_roundw
      case rel => exact ⟨z + 1, by omega, by omega, rfl, H10.out⟩
      case measure => simp [intOf]; omega
    · have t1 : decide (z ≤ 9) = false := decide_eq_false hlt
      go_wp2
      go_ret
      exact ⟨rfl, HC.out.2.2⟩
end Go.Proofs.Ythgejgfdpmbpaaa
