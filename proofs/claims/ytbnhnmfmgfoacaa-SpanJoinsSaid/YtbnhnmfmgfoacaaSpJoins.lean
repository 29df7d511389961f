/- SpanJoins: the walk. -/
import Derived.Test.YtbnhnmfmgfoacaaSpJoinP
import Derived.Test.YtbnhnmfmgfoacaaSpLaw
import Derived.Test.YtbnhnmfmgfoacaaSpArgs
set_option linter.unusedVariables false
set_option linter.unusedSimpArgs false
namespace Go.Proofs.Ytbnhnmfmgfoacaa.spanJoins
open Go.RowKit Go.Shelf Go.Proofs.Ytbnhnmfmgfoacaa Go.Proofs.YtbnhnmfmgfoacaaW.PrintWords

theorem infoU : (Try.prog.info? 23).map (fun i => (i.zero, i.size, i.bytes)) = some (some (.int .u64 0), 1, 8) := by kernel_rfl
def encU (x : Int) : Value := .int .u64 x
/-- A list of the caller's behind a row of one's own. -/
theorem app_ints (w w0 : World) (base : Nat) (A : Option Addr) (n C : Nat) (xs : List Value) (hown : w.ownsRow base 23 1 (.slice A n C) n xs) (hbase : base ≤ w.heap.size) (hc : Chg [] w0 w) (hw0 : w0.heap.size ≤ base) (A2 : Option Addr) (c2 : Nat) (T : List Int)
    (hv : Kd.C (Kd.int .u64) w A2 T.length T) (hT : ∀ x ∈ T, (Lit.int .u64 x).wf = true) (hn : n ≤ 1000001) (hTl : T.length ≤ 1000000) :
    ∃ A' cap' w', AppRun Try.prog 22 22 (.slice A n C) (.slice A2 T.length c2) w (.slice A' (n + T.length) cap') w' ∧
      w'.ownsRow base 23 1 (.slice A' (n + T.length) cap') (n + T.length) (xs ++ T.map encU) ∧ Chg [] w0 w' := by
  obtain ⟨i0, hi, hz0, hz1, hz2⟩ := info_parts infoU
  cases A2 with
  | none =>
    have h0 : T = [] := by
      cases T with
      | nil => rfl
      | cons x T => obtain ⟨ad, _, h, _⟩ := u64_at hv hT (a := 0) (by simp); cases h
    subst h0
    refine ⟨A, C, w, AppRun.of ?_, by simpa using hown, hc⟩
    rcases hown.2 with ⟨h1, rfl⟩ | ⟨g, cap, cur, h1, _, _, hnc, _⟩
    · cases h1
      simp [Builtin.append_, run_underlying Try.underlying22, sizeOf, typeInfo, hi, Builtin.lenOf, Builtin.firstCells]
    · cases h1
      simp [Builtin.append_, run_underlying Try.underlying22, sizeOf, typeInfo, hi, Builtin.lenOf, Builtin.firstCells, hnc, storeCells]
  | some ad =>
    obtain ⟨v', w', hr, h2, h3, _⟩ := run_append_own (P := Try.prog) w base 22 22 23 i0 (.int .u64 0) 1 8 Try.underlying22 hi hz0 hz1 hz2 rfl (by decide) _ n xs hown ad T.length c2 (T.map encU) (by simp) (fun j u hu => by
      rw [List.getElem?_map] at hu
      have hj : j < T.length := by
        rcases Nat.lt_or_ge j T.length with h | h
        · exact h
        · rw [List.getElem?_eq_none h] at hu; cases hu
      obtain ⟨ad', x, h, _, hcx, hx⟩ := u64_at hv hT hj
      cases h
      rw [hx] at hu
      rw [hcx]
      exact hu) (fun u hu => by obtain ⟨x, _, rfl⟩ := List.mem_map.1 hu; rfl) (by simp only [maxLen]; omega) (by omega) hbase
    obtain ⟨A', cap', rfl, hfr⟩ := own_form h2
    exact ⟨A', cap', w', AppRun.of hr, h2, hc.grown h3 (fun k hk => .inr (by have := (hown.lt k hk.symm.symm).1; omega))⟩
theorem own_cells {w : World} {base : Nat} {A : Option Addr} {n C : Nat} {T : List Int} (h : w.ownsRow base 23 1 (.slice A n C) n (T.map encU)) (hn : 0 < n) :
    ∃ g, A = some ⟨g, 0, none⟩ ∧ ∀ i, i < n → ∃ x, T[i]? = some x ∧ w.cell? ⟨g, i, none⟩ = some (.int .u64 x) := by
  have hl : T.length = n := by have := h.1; simpa using this
  rcases h.2 with ⟨h1, h2⟩ | ⟨g, cap, cur, h1, hb, hg, _⟩
  · omega
  · cases h1
    refine ⟨g, rfl, fun i hi => ⟨T[i], List.getElem?_eq_getElem (by omega), ?_⟩⟩
    rw [World.ownsRow.cellAt h i (by omega), List.getElem?_map, List.getElem?_eq_getElem (by omega)]
    rfl
set_option maxRecDepth 100000 in
set_option maxHeartbeats 8000000 in
theorem core (A : Option Addr) (c : Nat) (l : List Int) (hw : ∀ x ∈ l, (Lit.int .u64 x).wf = true) (A' : Option Addr) (c' : Nat) (m : List Int) (hw' : ∀ x ∈ m, (Lit.int .u64 x).wf = true) (ask : Nat) (hask : ask < M64) (W : World) (hC : Kd.C (Kd.int .u64) W A l.length l) (hC' : Kd.C (Kd.int .u64) W A' m.length m)
    (hr : l.length * 8 ≤ 140737488351232) (hr' : m.length * 8 ≤ 140737488351232) :
    Calls Try.prog 7 #[.slice A l.length c, .slice A' m.length c', .int .u64 (ask : Nat)] W fun e w' => e = .returned (.bool true) ∧ Chg [] W w' := by
  have HC := Lib.hid hC
  have HW := Lib.hid hw
  have HC' := Lib.hid hC'
  have HW' := Lib.hid hw'
  have HASK := Lib.hid hask
  clear hC hw hC' hw' hask
  obtain ⟨n, hn⟩ : ∃ n, n = l.length := ⟨_, rfl⟩
  obtain ⟨q, hq⟩ : ∃ q, q = m.length := ⟨_, rfl⟩
  rw [← hn] at hr
  rw [← hq] at hr'
  rw [← hn, ← hq]
  have HN := Lib.hid (And.intro hn hq)
  clear hn hq
  by_cases hlen : 200 < n + q
  · have t0 : decide ((200 : Int) < (n : Int) + (q : Int)) = true := decide_eq_true (by omega)
    have t1 : decide (200 < n + q) = true := decide_eq_true hlen
    clear hlen
    go_enter Try.func7, Try.ntmps7
    go_wp2_with fail
    refine (lives_any _).mono ?_
    rintro e w' ⟨rfl, hc⟩
    have HH := Lib.hid hc
    clear hc
    go_wp2
    go_ret
    exact ⟨rfl, HH.out⟩
  have t0 : decide ((200 : Int) < (n : Int) + (q : Int)) = false := decide_eq_false (by omega)
  go_enter Try.func7, Try.ntmps7
  go_wp2_with fail
  refine (St.new W W (Chg.refl _ _)).mono ?_
  rintro e w1 ⟨rfl, hs, hc, hlt⟩
  have HS1 := Lib.hid (And.intro hs (And.intro hc hlt))
  clear hs hc hlt
  go_wp2_with fail
  refine (St.new W w1 HS1.out.2.1).mono ?_
  rintro e w2 ⟨rfl, hs, hc, hlt⟩
  have hne : W.heap.size ≠ w1.heap.size := by have := HS1.out.2.2; omega
  have HI0 := Lib.hid (And.intro (HS1.out.1.to hc) (And.intro hs hne))
  clear hs hc hlt hne
  obtain ⟨pa, hpa⟩ : ∃ pa, pa = W.heap.size := ⟨_, rfl⟩
  obtain ⟨pb, hpb⟩ : ∃ pb, pb = w1.heap.size := ⟨_, rfl⟩
  rw [← hpa, ← hpb] at HI0
  rw [← hpa, ← hpb]
  clear hpa hpb
  go_wp2
  go_loopw [10, 37] (fun _ i wr => ∃ (k : Nat) (Ra : List Rng), k ≤ n ∧ i = .int .i64 (k : Nat) ∧ St W wr pa Ra ∧ Holds Ra (l.take k) k ∧ St W wr pb []) (fun _ i _ => n - (intOf i).toNat)
  case atStart => exact ⟨0, [], Nat.zero_le _, rfl, HI0.out.1, Holds.nil, HI0.out.2.1⟩
  case round =>
    obtain ⟨k, Ra, hk, rfl, hsa, hha, hsb⟩ := hrel
    have HI := Lib.hid (And.intro hsa (And.intro hha hsb))
    clear hsa hha hsb
    by_cases hlt : k < n
    · have hltl : k < l.length := by rw [← HN.out.1]; exact hlt
      obtain ⟨ad, x, hAx, hx, hcx, hlx⟩ := u64_at HC.out HW.out hltl
      subst hAx
      have hcx' := HI.out.1.chg.cell_some hcx (by simp)
      have HX := Lib.hid (And.intro hlx hx)
      clear hcx hlx hltl hx
      have i1 : (0 : Int) ≤ (k : Int) := by omega
      have i2 : (k : Int) < (n : Int) := by omega
      obtain ⟨b1, hb1⟩ : ∃ b1, (decide (0 < x) && !memR Ra x) = b1 := ⟨_, rfl⟩
      have HB := Lib.hid hb1
      clear hb1
      go_wp2_with fail
      refine (St.add HI.out.1 x _ _ HI.out.2.1.wf HX.out.2 (by have := HI.out.2.1.len; omega) HB.out rfl).mono ?_
      rintro e w3 ⟨rfl, hs, hc⟩
      have HS3 := Lib.hid (And.intro hs (HI.out.2.2.other HI.out.1 (Ne.symm HI0.out.2.2) hc))
      clear hs hc
      go_wp2_with fail
      go_roundw
      case rel => exact ⟨k + 1, _, by omega, by go_num, HS3.out.1, (HI.out.2.1.add HX.out.2 (mem_take_succ HX.out.1)).1, HS3.out.2⟩
      case measure => simp [intOf]; omega
    · obtain rfl : k = n := by omega
      have HA : Hid (Holds Ra l k) := Lib.hid (by
        have := HI.out.2.1
        have e : l.take k = l := by rw [HN.out.1, List.take_length]
        rwa [e] at this)
      have HI1 := Lib.hid (And.intro HI.out.1 HI.out.2.2)
      clear HI hlt
      go_wp2_with fail
      go_loopw [12, 47] (fun _ i wx => ∃ (j : Nat) (Rb : List Rng), j ≤ q ∧ i = .int .i64 (j : Nat) ∧ St W wx pb Rb ∧ Holds Rb (m.take j) j ∧ St W wx pa Ra) (fun _ i _ => q - (intOf i).toNat)
      case atStart => exact ⟨0, [], Nat.zero_le _, rfl, HI1.out.2, Holds.nil, HI1.out.1⟩
      case round =>
        obtain ⟨j, Rb, hj, rfl, hsb, hhb, hsa⟩ := hrel
        have HI := Lib.hid (And.intro hsb (And.intro hhb hsa))
        clear hsa hhb hsb
        by_cases hlt : j < q
        · have hltl : j < m.length := by rw [← HN.out.2]; exact hlt
          obtain ⟨ad, x, hAx, hx, hcx, hlx⟩ := u64_at HC'.out HW'.out hltl
          subst hAx
          have hcx' := HI.out.1.chg.cell_some hcx (by simp)
          have HX := Lib.hid (And.intro hlx hx)
          clear hcx hlx hltl hx
          have i1 : (0 : Int) ≤ (j : Int) := by omega
          have i2 : (j : Int) < (q : Int) := by omega
          obtain ⟨b1, hb1⟩ : ∃ b1, (decide (0 < x) && !memR Rb x) = b1 := ⟨_, rfl⟩
          have HB := Lib.hid hb1
          clear hb1
          go_wp2_with fail
          refine (St.add HI.out.1 x _ _ HI.out.2.1.wf HX.out.2 (by have := HI.out.2.1.len; omega) HB.out rfl).mono ?_
          rintro e w3 ⟨rfl, hs, hc⟩
          have HS3 := Lib.hid (And.intro hs (HI.out.2.2.other HI.out.1 HI0.out.2.2 hc))
          clear hs hc
          go_wp2_with fail
          go_roundw
          case rel => exact ⟨j + 1, _, by omega, by go_num, HS3.out.1, (HI.out.2.1.add HX.out.2 (mem_take_succ HX.out.1)).1, HS3.out.2⟩
          case measure => simp [intOf]; omega
        · obtain rfl : j = q := by omega
          have HBm : Hid (Holds Rb m j) := Lib.hid (by
            have := HI.out.2.1
            have e : m.take j = m := by rw [HN.out.2, List.take_length]
            rwa [e] at this)
          have HI2 := Lib.hid (And.intro HI.out.2.2 HI.out.1)
          clear HI hlt
          go_wp2_with fail
          refine (St.join HI2.out.1 HI2.out.2 HA.out.wf HBm.out.wf (by have := HA.out.len; have := HBm.out.len; omega)).mono ?_
          rintro e w4 ⟨px, X, rfl, hpx, hsx, wfx, mx, lx, hc⟩
          have H4 := Lib.hid (And.intro hsx (And.intro (HI2.out.1.to hc) (And.intro (HI2.out.2.to hc) (And.intro wfx (And.intro mx (And.intro lx (show pa < px ∧ pb < px from ⟨Nat.lt_of_lt_of_le HI2.out.1.set_.lt hpx, Nat.lt_of_lt_of_le HI2.out.2.set_.lt hpx⟩)))))))
          clear hpx hsx wfx mx lx hc HI2
          go_wp2_with fail
          refine (St.join H4.out.2.2.1 H4.out.2.1 HBm.out.wf HA.out.wf (by have := HA.out.len; have := HBm.out.len; omega)).mono ?_
          rintro e w5 ⟨py, Y, rfl, hpy, hsy, wfy, my, ly, hc⟩
          have hYX : Y = X := wfy.uniq H4.out.2.2.2.1 (fun i => by rw [my, H4.out.2.2.2.2.1, Bool.or_comm])
          subst hYX
          have H5 := Lib.hid (And.intro (H4.out.1.to hc) (And.intro (H4.out.2.1.to hc) (And.intro (H4.out.2.2.1.to hc) hsy)))
          clear hpy hsy wfy my ly hc
          go_wp2_with fail
          refine (St.join H5.out.2.1 H5.out.2.1 HA.out.wf HA.out.wf (by have := HA.out.len; omega)).mono ?_
          rintro e w6 ⟨pz, Z, rfl, hpz, hsz, wfz, mz, lz, hc⟩
          have hZ : Z = Ra := wfz.uniq HA.out.wf (fun i => by rw [mz, Bool.or_self])
          subst hZ
          have H6 := Lib.hid (And.intro (H5.out.1.to hc) (And.intro (H5.out.2.1.to hc) (And.intro (H5.out.2.2.1.to hc) (And.intro (H5.out.2.2.2.to hc) hsz))))
          clear hpz hsz wfz mz lz hc
          have HXL : Hid (Y.length ≤ 1000000 ∧ Z.length ≤ 1000000) := Lib.hid ⟨by have := H4.out.2.2.2.2.2.1; have := HA.out.len; have := HBm.out.len; omega, by have := HA.out.len; omega⟩
          go_wp2_with fail
          refine (St.ranges H6.out.1 HXL.out.1).mono ?_
          rintro e w7 ⟨A1, c1, rfl, hr1, hc1, hs1⟩
          have H7 := Lib.hid (And.intro hr1 hc1)
          clear hr1 hc1 hs1
          go_wp2_with fail
          refine (St.ranges (H6.out.2.2.2.1.to H7.out.2) HXL.out.1).mono ?_
          rintro e w8 ⟨A2, c2, rfl, hr2, hc2, hs2⟩
          have H8 := Lib.hid (And.intro (H7.out.1.chg0 hc2) (And.intro hr2 (H7.out.2.trans hc2)))
          clear hr2 hc2 hs2
          go_wp2_with fail
          refine (same_any _ _ _ _ _ Y Y H8.out.1 H8.out.2.1 HXL.out.1 HXL.out.1).mono ?_
          rintro e w9 ⟨rfl, hc4⟩
          have H9 := Lib.hid (H8.out.2.2.trans hc4)
          clear hc4 H7 H8
          rw [decide_eq_true (rfl : Y = Y)]
          go_wp2_with fail
          refine (St.ranges (H6.out.2.2.2.2.to H9.out) HXL.out.2).mono ?_
          rintro e w10 ⟨A3, c3, rfl, hr1, hc1, hs1⟩
          have H10 := Lib.hid (And.intro hr1 (H9.out.trans hc1))
          clear hr1 hc1 hs1
          go_wp2_with fail
          refine (St.ranges (H6.out.2.1.to H10.out.2) HXL.out.2).mono ?_
          rintro e w11 ⟨A4, c4, rfl, hr2, hc2, hs2⟩
          have H11 := Lib.hid (And.intro (H10.out.1.chg0 hc2) (And.intro hr2 (H10.out.2.trans hc2)))
          clear hr2 hc2 hs2
          go_wp2_with fail
          refine (same_any _ _ _ _ _ Z Z H11.out.1 H11.out.2.1 HXL.out.2 HXL.out.2).mono ?_
          rintro e w12 ⟨rfl, hc4⟩
          have H12 := Lib.hid (H11.out.2.2.trans hc4)
          clear hc4 H9 H10 H11
          rw [decide_eq_true (rfl : Z = Z)]
          have hW12 := (H6.out.2.1.to H12.out).chg
          have hlit := World.ownsRow_lit (base := w12.heap.size) (e := 23) (size := 1) w12 #[.int .u64 (ask : Nat)] 1 (Nat.le_refl _) (by decide) rfl
          obtain ⟨A5, C5, w13, hrun1, ho13, hc13⟩ := app_ints (w12.alloc (.cells #[.int .u64 (ask : Nat)] 23)) w12 w12.heap.size _ 1 1 _ hlit (by simp) ((Chg.refl [] w12).alloc _) (Nat.le_refl _) A c l (Kd.C_below HC.out ((hW12.alloc _).below (Nat.le_refl _) (by simp))) HW.out (by omega) (by rw [← HN.out.1]; omega)
          obtain ⟨A6, C6, w14, hrun2, ho14, hc14⟩ := app_ints w13 w12 w12.heap.size _ (1 + l.length) C5 _ ho13 hc13.size hc13 (Nat.le_refl _) A' c' m (Kd.C_below HC'.out ((hW12.trans hc13).below (Nat.le_refl _) (by simp))) HW'.out (by rw [← HN.out.1]; omega) (by rw [← HN.out.2]; omega)
          have ho : w14.ownsRow w12.heap.size 23 1 (.slice A6 (1 + l.length + m.length) C6) (1 + l.length + m.length) (((ask : Int) :: (l ++ m)).map encU) := by
            have e : ((ask : Int) :: (l ++ m)).map encU = #[Value.int .u64 (ask : Nat)].toList ++ l.map encU ++ m.map encU := by simp [encU]
            rw [e]; exact ho14
          obtain ⟨g, hA6, hg⟩ := own_cells ho (by omega)
          subst hA6
          rw [← HN.out.1, ← HN.out.2] at hrun2 hg
          rw [← HN.out.1] at hrun1
          obtain ⟨N, hNN⟩ : ∃ N, N = 1 + k + j := ⟨_, rfl⟩
          rw [← hNN] at hrun2 hg
          have hNb : N ≤ 201 := by omega
          have hx64 : ∀ i, i < N → ∃ x : Nat, x < M64 ∧ w14.cell? ⟨g, i, none⟩ = some (.int .u64 (x : Nat)) := by
            intro i hi
            obtain ⟨x, hx, hcx⟩ := hg i hi
            have hm : x = (ask : Int) ∨ (Lit.int .u64 x).wf = true := by
              rcases List.mem_cons.1 (List.mem_of_getElem? hx) with h | h
              · exact .inl h
              · rcases List.mem_append.1 h with h | h
                · exact .inr (HW.out x h)
                · exact .inr (HW'.out x h)
            rcases hm with rfl | hm
            · exact ⟨ask, HASK.out, hcx⟩
            · obtain ⟨y, rfl, hy⟩ := nat_u64 hm
              exact ⟨y, hy, hcx⟩
          have H14 := Lib.hid (And.intro hx64 (And.intro (H12.out.trans hc14) hNN))
          clear hW12 hlit ho13 hc13 ho14 hc14 ho hg hNN hx64
          go_wp2_with (first
            | (at_builtin; refine wpList_app_run (by rfl) _ _ _ (by rfl) _ _ _ _ (by rfl) (by rfl) hrun1 ?_)
            | (at_builtin; refine wpList_app_run (by rfl) _ _ _ (by rfl) _ _ _ _ (by rfl) (by rfl) hrun2 ?_))
          clear hrun1 hrun2
          go_loopw [17, 97] (fun _ i wr => ∃ o : Nat, o ≤ N ∧ i = .int .i64 (o : Nat) ∧ Chg [] w14 wr) (fun _ i _ => N - (intOf i).toNat)
          case atStart => exact ⟨0, Nat.zero_le _, rfl, Chg.refl _ _⟩
          case round =>
            obtain ⟨o, ho, rfl, hcr⟩ := hrel
            have HR := Lib.hid hcr
            clear hcr
            by_cases hlt : o < N
            · obtain ⟨x, hx, hcx⟩ := H14.out.1 o hlt
              have hcx' := HR.out.cell_some hcx (by simp)
              have HX := Lib.hid hx
              clear hcx hx
              have i1 : (0 : Int) ≤ (o : Int) := by omega
              have i2 : (o : Int) < (N : Int) := by omega
              have HT := Lib.hid (H14.out.2.1.trans HR.out)
              have hmx := H4.out.2.2.2.2.1 x
              obtain ⟨ma, hma⟩ : ∃ b, memR Z x = b := ⟨_, rfl⟩
              obtain ⟨mb, hmb⟩ : ∃ b, memR Rb x = b := ⟨_, rfl⟩
              rw [hma, hmb] at hmx
              have HM := Lib.hid (And.intro hma (And.intro hmb hmx))
              clear hma hmb hmx
              cases ma
              · go_wp2_with fail
                refine (St.has (H6.out.1.to HT.out) x _ H4.out.2.2.2.1 HXL.out.1 HM.out.2.2).mono ?_
                rintro e w15 ⟨rfl, hc15, hs15⟩
                have H15 := Lib.hid hc15
                clear hc15 hs15
                go_wp2_with fail
                refine (St.has (H6.out.2.1.to (HT.out.trans H15.out)) x _ HA.out.wf HXL.out.2 HM.out.1).mono ?_
                rintro e w16 ⟨rfl, hc16, hs16⟩
                have H16 := Lib.hid (H15.out.trans hc16)
                clear hc16 hs16
                go_wp2_with fail
                refine (St.has (H6.out.2.2.1.to (HT.out.trans H16.out)) x _ HBm.out.wf (by have := HBm.out.len; omega) HM.out.2.1).mono ?_
                rintro e w17 ⟨rfl, hc17, hs17⟩
                have H17 := Lib.hid (H16.out.trans hc17)
                clear hc17 hs17
                cases mb
                all_goals
                  go_wp2_with fail
                  go_roundw
                  case rel => exact ⟨o + 1, by omega, by go_num, HR.out.trans H17.out⟩
                  case measure => simp [intOf]; omega
              · go_wp2_with fail
                refine (St.has (H6.out.1.to HT.out) x true H4.out.2.2.2.1 HXL.out.1 (by have := HM.out.2.2; rwa [Bool.true_or] at this)).mono ?_
                rintro e w15 ⟨rfl, hc15, hs15⟩
                have H15 := Lib.hid hc15
                clear hc15 hs15
                go_wp2_with fail
                refine (St.has (H6.out.2.1.to (HT.out.trans H15.out)) x _ HA.out.wf HXL.out.2 HM.out.1).mono ?_
                rintro e w16 ⟨rfl, hc16, hs16⟩
                have H16 := Lib.hid (H15.out.trans hc16)
                clear hc16 hs16
                go_wp2_with fail
                go_roundw
                case rel => exact ⟨o + 1, by omega, by go_num, HR.out.trans H16.out⟩
                case measure => simp [intOf]; omega
            · obtain rfl : o = N := by omega
              have HT := Lib.hid (H14.out.2.1.trans HR.out)
              have HI4 := Lib.hid (And.intro (H6.out.2.1.to HT.out) (H6.out.1.to HT.out))
              clear hlt
              go_wp2_with fail
              go_loopw [19, 116] (fun _ i wv => ∃ (r : Nat) (Rc : List Rng), r ≤ j ∧ i = .int .i64 (r : Nat) ∧ St W wv pa Rc ∧ Holds Rc (l ++ m.take r) (k + r) ∧ St W wv px Y) (fun _ i _ => j - (intOf i).toNat)
              case atStart => exact ⟨0, Z, Nat.zero_le _, rfl, HI4.out.1, by rw [List.take_zero, List.append_nil]; exact HA.out, HI4.out.2⟩
              case round =>
                obtain ⟨r, Rc, hr4, rfl, hsa, hha, hsx⟩ := hrel
                have HI := Lib.hid (And.intro hsa (And.intro hha hsx))
                clear hsa hha hsx
                by_cases hlt : r < j
                · have hltl : r < m.length := by rw [← HN.out.2]; exact hlt
                  obtain ⟨ad, x, hAx, hx, hcx, hlx⟩ := u64_at HC'.out HW'.out hltl
                  subst hAx
                  have hcx' := HI.out.1.chg.cell_some hcx (by simp)
                  have HX := Lib.hid (And.intro hlx hx)
                  clear hcx hlx hltl hx
                  have i1 : (0 : Int) ≤ (r : Int) := by omega
                  have i2 : (r : Int) < (j : Int) := by omega
                  obtain ⟨b1, hb1⟩ : ∃ b1, (decide (0 < x) && !memR Rc x) = b1 := ⟨_, rfl⟩
                  have HB := Lib.hid hb1
                  clear hb1
                  go_wp2_with fail
                  refine (St.add HI.out.1 x _ _ HI.out.2.1.wf HX.out.2 (by have := HI.out.2.1.len; omega) HB.out rfl).mono ?_
                  rintro e w3 ⟨rfl, hs, hc⟩
                  have HS3 := Lib.hid (And.intro hs (HI.out.2.2.other HI.out.1 (by have := H4.out.2.2.2.2.2.2.1; omega) hc))
                  clear hs hc
                  go_wp2_with fail
                  go_roundw
                  case rel =>
                    refine ⟨r + 1, _, by omega, by go_num, HS3.out.1, (HI.out.2.1.add HX.out.2 (fun i => ?_)).1, HS3.out.2⟩
                    rw [List.mem_append, List.mem_append, mem_take_succ HX.out.1]
                    exact or_assoc.symm
                  case measure => simp [intOf]; omega
                · obtain rfl : r = j := by omega
                  have hRY : Rc = Y := by
                    refine HI.out.2.1.wf.uniq H4.out.2.2.2.1 fun i => ?_
                    have e : m.take r = m := by rw [HN.out.2, List.take_length]
                    rw [HI.out.2.1.mem, H4.out.2.2.2.2.1, HA.out.mem, HBm.out.mem, e]
                    rw [Bool.eq_iff_iff]
                    simp only [Bool.or_eq_true, Bool.and_eq_true, decide_eq_true_eq, List.mem_append]
                    constructor
                    · rintro ⟨h1, h2 | h2⟩
                      · exact .inl ⟨h1, h2⟩
                      · exact .inr ⟨h1, h2⟩
                    · rintro (⟨h1, h2⟩ | ⟨h1, h2⟩)
                      · exact ⟨h1, .inl h2⟩
                      · exact ⟨h1, .inr h2⟩
                  subst hRY
                  clear hlt
                  go_wp2_with fail
                  refine (St.ranges HI.out.1 HXL.out.1).mono ?_
                  rintro e w20 ⟨A7, c7, rfl, hr1, hc1, hs1⟩
                  have H20 := Lib.hid (And.intro hr1 (HI.out.2.2.to hc1))
                  clear hr1 hc1 hs1
                  go_wp2_with fail
                  refine (St.ranges H20.out.2 HXL.out.1).mono ?_
                  rintro e w21 ⟨A8, c8, rfl, hr2, hc2, hs2⟩
                  have H21 := Lib.hid (And.intro (H20.out.1.chg0 hc2) (And.intro hr2 hs2))
                  clear hr2 hc2 hs2
                  go_wp2_with fail
                  refine (same_any _ _ _ _ _ Rc Rc H21.out.1 H21.out.2.1 HXL.out.1 HXL.out.1).mono ?_
                  rintro e w22 ⟨rfl, hc4⟩
                  have H22 := Lib.hid (H21.out.2.2.to hc4)
                  clear hc4
                  rw [decide_eq_true (rfl : Rc = Rc)]
                  go_wp2_with fail
                  refine (lives_any _).mono ?_
                  rintro e w23 ⟨rfl, hc5⟩
                  have H23 := Lib.hid (H22.out.chg.trans hc5)
                  clear hc5
                  go_wp2
                  go_ret
                  exact ⟨rfl, H23.out⟩
theorem walk (A : Option Addr) (c : Nat) (l : List Int) (_hc : l.length ≤ c) (hr : l.length * 8 ≤ 140737488351232) (hw : ∀ x ∈ l, (Lit.int .u64 x).wf = true) (A' : Option Addr) (c' : Nat) (m : List Int) (_hc' : m.length ≤ c') (hr' : m.length * 8 ≤ 140737488351232) (hw' : ∀ x ∈ m, (Lit.int .u64 x).wf = true) (a2 : Int) (w2 : (Lit.int .u64 a2).wf = true)
    (W : World) (hC : Kd.C (Kd.int .u64) W A l.length l) (hC' : Kd.C (Kd.int .u64) W A' m.length m) :
    Calls Try.prog 7 #[.slice A l.length c, .slice A' m.length c', .int .u64 a2] W fun e w' => e = .returned (.bool true) ∧ Below W.heap.size W w' := by
  obtain ⟨ask, rfl, hask⟩ := nat_u64 w2
  exact (core A c l hw A' c' m hw' ask hask W hC hC' hr hr').mono fun _ _ ⟨he, hc⟩ => ⟨he, hc.below (Nat.le_refl _) (by simp)⟩
end Go.Proofs.Ytbnhnmfmgfoacaa.spanJoins
