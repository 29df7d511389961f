/- The document's window: Open, Reset, Ack. -/
import Derived.Test.YtapjegjffgjmlaaDoorWinRs
import Derived.Test.YtapjegjffgjmlaaDoorWinRl
import Derived.Deep.RegionLaw
set_option linter.unusedVariables false
set_option linter.unusedSimpArgs false
namespace Go.Proofs.YtapjegjffgjmlaaDoor
open Go.RowKit Go.Shelf

section
variable {w0 w w' : World} {rp p : Nat} {s : WS}
theorem RSt.remake (h : RSt w0 w rp s) {s' : WS} (hs : s'.size = s.size) (hw : s'.wait = s.wait) (ho' : s'.Ok) {w3 : World} (hc : Chg [rp] w w3) {A' : Option Addr} {c' : Nat} (hr : OwnS w3 w0.heap.size 66 3 A' s.size c' (plR s'.f s.size))
    (hb : Blk w3 rp 45 #[.int .i64 (s.size : Nat), .int .i64 (s.wait : Nat), .int .u16 s'.base, .slice A' s.size c']) : RSt w0 w3 rp s' ∧ Chg [rp] w w3 :=
  ⟨⟨⟨A', c', by rw [hs, hw]; exact hb, by rw [hs]; exact hr⟩, ho', h.own, h.chg.then_ hc (fun b hb => by simp at hb; subst hb; exact .inr h.own)⟩, hc⟩
end
theorem openN_size {s : WS} (h : s.Ok) : openN s.f 32 = openN s.f s.size := by
  have h2 := h.size2
  have key : ∀ d, s.size + d ≤ 32 → openN s.f (s.size + d) = openN s.f s.size := by
    intro d
    induction d with
    | zero => intro _; rfl
    | succ d ih =>
      intro hd
      rw [← Nat.add_assoc, openN_succ, ih (by omega), h.far (s.size + d) (by omega)]
      rfl
  have := key (32 - s.size) (by omega)
  rwa [show s.size + (32 - s.size) = 32 from by omega] at this

set_option maxHeartbeats 4000000 in
theorem ropen_any {w0 w : World} {rp : Nat} {s : WS} (h : RSt w0 w rp s) : Calls Tryd.prog 21 #[.pointer (some ⟨rp, 0, none⟩)] w fun e w' => e = .returned (.int .i64 (openN s.f 32 : Nat)) ∧ Chg [] w w' := by
  rw [openN_size h.ok]
  obtain ⟨A, c, hb, hrow⟩ := h.at_
  obtain ⟨a, rfl⟩ := hrow.some_ (by have := h.ok.size1; omega)
  have cc3 := hb.cell 3
  simp only [List.getElem?_toArray, List.getElem?_cons_succ, List.getElem?_cons_zero] at cc3
  obtain ⟨n, hn⟩ : ∃ n, n = s.size := ⟨_, rfl⟩
  have hn2 : n ≤ 32 := by rw [hn]; exact h.ok.size2
  rw [← hn] at cc3 hrow ⊢
  have HROW := Lib.hid hrow
  clear hb hrow hn h
  go_enter Tryd.func21, Tryd.ntmps21
  go_wp2
  go_loopw [11, 3] (fun i s3 wr => ∃ k m : Nat, k ≤ n ∧ i = .int .i64 k ∧ s3 = .int .i64 m ∧ m ≤ k ∧ Hid (m = openN s.f k) ∧ Chg [] w wr) (fun i _ _ => n - (intOf i).toNat)
  case atStart => exact ⟨0, 0, by omega, rfl, rfl, by omega, Lib.hid rfl, Chg.refl _ _⟩
  case round =>
    obtain ⟨k, m, hk, rfl, rfl, hmk, HM, hc⟩ := hrel
    have HC := Lib.hid hc
    clear hc
    by_cases hlt : k < n
    · have x0 := HC.out.cell_some (HROW.out.reads _ _ (plR_0 s.f (i := k) hlt)) (by simp)
      have x1 := HC.out.cell_some (HROW.out.reads _ _ (plR_1 s.f (i := k) hlt)) (by simp)
      have x2 := HC.out.cell_some (HROW.out.reads _ _ (plR_2 s.f (i := k) hlt)) (by simp)
      rw [add_fld _ _ _ (by omega)] at x1 x2
      have hst := openN_succ s.f k
      unfold openB at hst
      obtain ⟨q, hq⟩ : ∃ q, q = decide (0 < (s.f k).1) := ⟨_, rfl⟩
      obtain ⟨b, hb⟩ : ∃ b, b = (s.f k).2 := ⟨_, rfl⟩
      obtain ⟨X, hX⟩ : ∃ X : Nat, X = (s.f k).1 - 1 := ⟨_, rfl⟩
      rw [← hq] at x0 hst
      rw [← hb] at x2 hst
      rw [← hX] at x1
      have HST := Lib.hid hst
      have i1 : (0 : Int) ≤ (k : Int) := by omega
      have i2 : (k : Int) < (n : Int) := by omega
      clear hq hb hX hst
      cases q <;> cases b
      all_goals
        go_wp2
        go_roundw
        case rel => first
          | exact ⟨k + 1, m, by omega, by go_num, by go_num, by omega, Lib.hid (by rw [HST.out, HM.out]; rfl), HC.out.alloc _⟩
          | exact ⟨k + 1, m + 1, by omega, by go_num, by go_num, by omega, Lib.hid (by rw [HST.out, HM.out]; rfl), HC.out.alloc _⟩
        case measure => simp [intOf]; omega
    · obtain rfl : k = n := by omega
      go_wp2
      go_ret
      exact ⟨by rw [← HM.out]; rfl, HC.out⟩

set_option maxHeartbeats 4000000 in
theorem rreset_any {w0 w : World} {rp : Nat} {s : WS} (h : RSt w0 w rp s) : Calls Tryd.prog 20 #[.pointer (some ⟨rp, 0, none⟩)] w fun e w' => (∃ v, e = .returned v) ∧ RSt w0 w' rp (WS.new s.size s.wait) ∧ Chg [rp] w w' := by
  have HR := Lib.hid h
  obtain ⟨A, c, hb, hrow⟩ := h.at_
  have cc0 := hb.cell 0
  have cc2 := hb.cell 2
  have cc3 := hb.cell 3
  simp only [List.getElem?_toArray, List.getElem?_cons_succ, List.getElem?_cons_zero] at cc0 cc2 cc3
  have f2 := hb.frozen 2
  have f3 := hb.frozen 3
  have hrl := h.lt
  have HB := Lib.hid hb
  have HO := Lib.hid (WS.new_ok h.ok.size1 h.ok.size2 h.ok.wait1 h.ok.wait2)
  have hmk := make_places s.size (by have := h.ok.size2; omega)
  have HLIT := Lib.hid (fun W => OwnS.lit W w0.heap.size (e := 66) (size := 3) (n := s.size) (cs := plR (fun _ => (0, false)) s.size) (hl := plR_len _ _) (hm := by have := h.ok.size2; simp only [maxLen]; omega))
  obtain ⟨X, hX⟩ : ∃ X, X = (plR (fun _ => (0, false)) s.size).toArray := ⟨_, rfl⟩
  simp only [← hX] at hmk HLIT
  have HS := Lib.hid h.chg.size
  obtain ⟨n, hn⟩ : ∃ n, n = s.size := ⟨_, rfl⟩
  rw [← hn] at cc0 cc3 hmk
  have HN := Lib.hid hn
  clear hb hrow h hX hn
  go_enter Tryd.func20, Tryd.ntmps20
  go_wp2_with fail
  go_region
  all_goals
    go_end0
    have hnn := HN.out
    subst hnn
    have hlit := HLIT.out ((w.setCell ⟨rp, 2, none⟩ (.int .u16 0)).setCell ⟨rp, 3, none⟩ (.slice (some ⟨w.heap.size, 0, none⟩) s.size s.size)) (by rw [World.size_setCell, World.size_setCell]; exact HS.out)
    rw [World.size_setCell, World.size_setCell] at hlit
    have hblk := (HB.out.set_ 2 (.int .u16 0)).set_ 3 (.slice (some ⟨w.heap.size, 0, none⟩) s.size s.size)
    have hcg : Chg [rp] w ((((w.setCell ⟨rp, 2, none⟩ (.int .u16 0)).setCell ⟨rp, 3, none⟩ (.slice (some ⟨w.heap.size, 0, none⟩) s.size s.size)).alloc (.cells X 66)).drew) := ((((Chg.refl [rp] w).setCell (.inl (by simp)) _).setCell (.inl (by simp)) _).alloc _).drew
    refine ⟨⟨_, rfl⟩, HR.out.remake (s' := WS.new s.size s.wait) rfl rfl HO.out hcg (hlit.chg0 ((Chg.refl [] _).drew)) ?_⟩
    exact (hblk.alloc (.cells X 66)).drewN 1

/-! ### Ack -/
theorem plR_shift (f : Nat → Nat × Bool) {size n : Nat} (h2 : size ≤ 32) (hn : n ≤ size) (hf : ∀ i, size ≤ i → f i = (0, false)) : (plR f size).drop (n * 3) ++ plR (fun _ => (0, false)) n = plR (shiftF f n) size := by
  apply List.ext_getElem?
  intro j
  have hl : ((plR f size).drop (n * 3)).length = size * 3 - n * 3 := by rw [List.length_drop, plR_len]
  by_cases hj : j < size * 3
  · rw [plR_at _ hj]
    by_cases h1 : j < size * 3 - n * 3
    · rw [List.getElem?_append_left (by rw [hl]; exact h1), List.getElem?_drop, plR_at _ (by omega)]
      unfold plc shiftF
      rw [if_pos (show n + j / 3 < 32 by omega), show (n * 3 + j) / 3 = n + j / 3 from by omega, show (n * 3 + j) % 3 = j % 3 from by omega]
    · rw [List.getElem?_append_right (by rw [hl]; omega), hl, plR_at _ (by omega)]
      have hs : shiftF f n (j / 3) = (0, false) := by
        unfold shiftF
        split
        · exact hf _ (by omega)
        · rfl
      unfold plc
      rw [hs, show (j - (size * 3 - n * 3)) % 3 = j % 3 from by omega]
  · rw [List.getElem?_eq_none (by rw [List.length_append, hl, plR_len]; omega), List.getElem?_eq_none (by rw [plR_len]; omega)]
theorem markF_sent (s : WS) (n : Nat) (pre : List Nat) (j : Nat) : (markF s n pre j).1 = (s.f j).1 := rfl
theorem bitsL_lt {m i v : Nat} (h : (Bt.bitsL m)[i]? = some v) : v < 64 := by
  have := List.mem_of_getElem? h
  unfold Bt.bitsL at this
  rw [List.mem_filter, List.mem_range] at this
  exact this.1

set_option maxRecDepth 100000 in
set_option maxHeartbeats 8000000 in
theorem rack_any {w0 w : World} {rp : Nat} {s : WS} (h : RSt w0 w rp s) (num : Int) (m : Nat) (hm : m < 18446744073709551616) (h0 : 0 ≤ num) (h1 : num < 65536) : Calls Tryd.prog 18 #[.pointer (some ⟨rp, 0, none⟩), .int .u16 num, .int .u64 (m : Nat)] w fun e w' =>
    e = .returned (.int .i64 (ackK s num : Nat)) ∧ RSt w0 w' rp (ackS s num m) ∧ Chg [rp] w w' := by
  obtain ⟨i1, hi, hz0, hz1, hz2⟩ := info_parts infoPlace
  have HP := Lib.hid (And.intro hi (And.intro hz0 (And.intro hz1 hz2)))
  clear hi hz0 hz1 hz2
  have HR := Lib.hid h
  have HM := Lib.hid hm
  have HNM := Lib.hid (And.intro h0 h1)
  obtain ⟨A, c, hb, hrow⟩ := h.at_
  obtain ⟨a, rfl⟩ := hrow.some_ (by have := h.ok.size1; omega)
  have cc0 := hb.cell 0
  have cc2 := hb.cell 2
  have cc3 := hb.cell 3
  simp only [List.getElem?_toArray, List.getElem?_cons_succ, List.getElem?_cons_zero] at cc0 cc2 cc3
  obtain ⟨sz, hsz⟩ : ∃ n, n = s.size := ⟨_, rfl⟩
  have hn1 : 1 ≤ sz := by rw [hsz]; exact h.ok.size1
  have hn2 : sz ≤ 32 := by rw [hsz]; exact h.ok.size2
  rw [← hsz] at cc0 cc3 hrow
  have HN := Lib.hid hsz
  obtain ⟨bs, hbs⟩ : ∃ b, b = s.base := ⟨_, rfl⟩
  rw [← hbs] at cc2
  obtain ⟨z, hz⟩ : ∃ z, z = farZ bs num := ⟨_, rfl⟩
  have HFAR := Lib.hid (rfar_any bs num w)
  rw [← hz] at HFAR
  have HROW := Lib.hid hrow
  have HBLK := Lib.hid hb
  have hrl := h.lt
  have hzs : z = farZ s.base num := by rw [hz, hbs]
  have HZ := Lib.hid (And.intro hzs hbs)
  clear hb hrow hsz hbs hz h hm h0 h1 hzs
  go_enter Tryd.func18, Tryd.ntmps18
  go_wp2_with fail
  refine HFAR.out.mono ?_
  rintro e w' ⟨rfl, rfl⟩
  have HCK : Hid (Chg [] w w) := Lib.hid (Chg.refl _ _)
  by_cases hlo : z < 0
  · have HNO : Hid (ackK s num = 0 ∧ ackS s num m = s) := by
      have : ackNo s num := .inl (by rw [← HZ.out.1]; exact hlo)
      exact Lib.hid ⟨by unfold ackK; rw [if_pos this], by unfold ackS; rw [if_pos this]⟩
    have t1 : decide (z < 0) = true := decide_eq_true hlo
    go_wp2
    go_ret
    obtain ⟨e1, e2⟩ := HNO.out
    rw [e1, e2]
    exact ⟨rfl, HR.out.to HCK.out, HCK.out.mono (by simp)⟩
  obtain ⟨n, rfl⟩ : ∃ n : Nat, z = (n : Int) := ⟨z.toNat, by omega⟩
  have t1 : decide ((n : Int) < 0) = false := decide_eq_false hlo
  by_cases hhi : sz < n
  · have HNO : Hid (ackK s num = 0 ∧ ackS s num m = s) := by
      have : ackNo s num := .inr (.inl (by rw [← HZ.out.1, ← HN.out]; omega))
      exact Lib.hid ⟨by unfold ackK; rw [if_pos this], by unfold ackS; rw [if_pos this]⟩
    have t2 : decide ((sz : Int) < (n : Int)) = true := decide_eq_true (by omega)
    go_wp2
    go_ret
    obtain ⟨e1, e2⟩ := HNO.out
    rw [e1, e2]
    exact ⟨rfl, HR.out.to HCK.out, HCK.out.mono (by simp)⟩
  have t2 : decide ((sz : Int) < (n : Int)) = false := decide_eq_false (by omega)
  clear hlo
  go_wp2_with fail
  clear HCK
  go_loopw [8] (fun i wr => ∃ k : Nat, k ≤ n ∧ i = .int .i64 k ∧ Hid ((∀ i, i < k → 0 < (s.f i).1) ∧ Chg [] w wr)) (fun i _ => n - (intOf i).toNat)
  case atStart => exact ⟨0, by omega, rfl, Lib.hid ⟨fun i hi => absurd hi (by omega), Chg.refl _ _⟩⟩
  case round =>
    obtain ⟨k, hk, rfl, HK⟩ := hrel
    have z0 := HK.out.2.cell_some cc0 (by simp)
    have z2 := HK.out.2.cell_some cc2 (by simp)
    have z3 := HK.out.2.cell_some cc3 (by simp)
    have HCK : Hid (Chg [] w wr) := Lib.hid HK.out.2
    have hrl2 : rp < wr.heap.size := Nat.lt_of_lt_of_le hrl HK.out.2.size
    by_cases hlt : k < n
    · have x0 := HK.out.2.cell_some (HROW.out.reads _ _ (plR_0 s.f (i := k) (by omega))) (by simp)
      have i1 : (0 : Int) ≤ (k : Int) := by omega
      have i2 : (k : Int) < (sz : Int) := by omega
      by_cases hs : 0 < (s.f k).1
      · rw [decide_eq_true hs] at x0
        have HS := Lib.hid hs
        clear hs
        go_wp2
        go_roundw
        case rel => exact ⟨k + 1, by omega, by go_num, Lib.hid ⟨fun i hi => by
          by_cases e : i = k
          · subst e; exact HS.out
          · exact HK.out.1 i (by omega), HK.out.2⟩⟩
        case measure => simp [intOf]; omega
      · rw [decide_eq_false hs] at x0
        have HNO : Hid (ackK s num = 0 ∧ ackS s num m = s) := by
          have : ackNo s num := .inr (.inr ⟨k, by rw [← HZ.out.1]; omega, by omega⟩)
          exact Lib.hid ⟨by unfold ackK; rw [if_pos this], by unfold ackS; rw [if_pos this]⟩
        clear hs
        go_wp2
        go_ret
        obtain ⟨e1, e2⟩ := HNO.out
        rw [e1, e2]
        exact ⟨rfl, HR.out.to HCK.out, HCK.out.mono (by simp)⟩
    · obtain rfl : k = n := by omega
      have HYES : Hid (ackK s num = k ∧ ackS s num m = s.ack k num m ∧ (k : Int) = farZ s.base num) := by
        have hno : ¬ ackNo s num := by
          rintro (h | h | ⟨i, hi, h⟩)
          · rw [← HZ.out.1] at h; omega
          · rw [← HZ.out.1, ← HN.out] at h; omega
          · rw [← HZ.out.1] at hi
            have := HK.out.1 i (by omega)
            omega
        exact Lib.hid ⟨by unfold ackK; rw [if_neg hno, ← HZ.out.1]; rfl, by unfold ackS; rw [if_neg hno, ← HZ.out.1]; rfl, HZ.out.1⟩
      clear hlt hk
      -- the copy of the row
      obtain ⟨A1, c1', w1, hrun, hown, hch, hat⟩ := (OwnS.lit wr wr.heap.size (Nat.le_refl _) 66 3 0 [] rfl (by decide)).append (P := Tryd.prog) 43 43 43 i1 _ 24 Tryd.underlying43 HP.out.1 HP.out.2.1 HP.out.2.2.1 HP.out.2.2.2 rfl
        (.slice (some a) sz c) sz (plR s.f sz) (Src.ofSlice _ Tryd.underlying43 a sz c _ (plR_len _ _) (fun j u hu => ((HK.out.2.alloc (.cells #[] 66))).cell_some (HROW.out.reads j u hu) (by simp)) (plR_one _ _)) (by simp only [maxLen]; omega) (by omega) (by simp)
      rw [List.nil_append, Nat.zero_add] at hown
      rw [Nat.zero_add] at hrun
      obtain ⟨g1, rfl⟩ : ∃ g1, A1 = some ⟨g1, 0, none⟩ := by
        rcases hat with h | h <;> exact ⟨_, h⟩
      have hcw : Chg [] w w1 := (HK.out.2.alloc (.cells #[] 66)).then_ hch (fun b hb => by simp [sB] at hb; subst hb; exact .inr HK.out.2.size)
      have HW1 := Lib.hid (And.intro (hown.lower HK.out.2.size) hcw)
      obtain ⟨c1, hc1⟩ : ∃ c1, c1 = c1' := ⟨_, rfl⟩
      rw [← hc1] at HW1 hrun
      have hc1s : sz ≤ c1 := HW1.out.1.le
      clear hown hcw hch hat hc1
      go_wp2_with (at_builtin; refine wpList_appR (by rfl) _ _ _ _ (by rfl) _ _ _ _ (by rfl) (by rfl) hrun ?_)
      clear hrun
      obtain ⟨wo, rfl⟩ : ∃ wo : World, wo = wr := ⟨_, rfl⟩
      go_loopw [52] (fun i wx => ∃ j : Nat, j ≤ sz ∧ i = .int .i64 j ∧ Hid (OwnS wx w.heap.size 66 3 (some ⟨g1, 0, none⟩) sz c1 (plR (clrF s.f j) sz) ∧ Chg [] w wx)) (fun i _ => sz - (intOf i).toNat)
      case atStart => exact ⟨0, by omega, rfl, Lib.hid ⟨by rw [show clrF s.f 0 = s.f from by funext i; simp [clrF]]; exact HW1.out.1, HW1.out.2⟩⟩
      case round =>
        obtain ⟨j, hj, rfl, H3⟩ := hrel
        have hrl3 : rp < wr.heap.size := Nat.lt_of_lt_of_le hrl H3.out.2.size
        by_cases hlt : j < sz
        · have x2 := H3.out.1.reads0 _ _ (plR_2 (clrF s.f j) (i := j) hlt)
          have f2 := H3.out.1.frozen0 (j * 3 + 2)
          have i1 : (0 : Int) ≤ (j : Int) := by omega
          have i2 : (j : Int) < (sz : Int) := by omega
          have hnew := H3.out.1.set0 (j * 3 + 2) (.bool false)
          rw [plR_there _ hlt, ← clrF_succ] at hnew
          have hcg : Chg [] w (wr.setCell ⟨g1, j * 3 + 2, none⟩ (.bool false)) := H3.out.2.setCell (p := ⟨g1, j * 3 + 2, none⟩) (.inr (H3.out.1.ge g1 (by simp [sB]))) _
          have HX := Lib.hid (And.intro hnew hcg)
          clear hnew hcg
          go_wp2
          go_roundw
          case rel => exact ⟨j + 1, by omega, by go_num, HX⟩
          case measure => simp [intOf]; omega
        · obtain rfl : j = sz := by omega
          obtain ⟨L, hL⟩ : ∃ L, L = Bt.bitsL m := ⟨_, rfl⟩
          have HLI := Lib.hid (rlist_any m HM.out wr)
          rw [← hL] at HLI
          obtain ⟨ln, hln⟩ : ∃ ln, ln = L.length := ⟨_, rfl⟩
          rw [← hln] at HLI
          have hlb : ln ≤ 64 := by rw [hln, hL]; exact bitsTo_len m 64
          have HL := Lib.hid (And.intro hL hln)
          clear hL hln
          go_wp2_with fail
          refine HLI.out.mono ?_
          rintro e w2 ⟨B, bc, rfl, hbits, hc2⟩
          have H4 := Lib.hid (And.intro hbits (And.intro (H3.out.1.chg0 hc2) (H3.out.2.trans hc2)))
          clear hbits hc2 HLI
          go_wp2_with fail
          obtain ⟨sz, hszj⟩ : ∃ sz, sz = j := ⟨_, rfl⟩
          rw [← hszj] at H4 hn1 hn2 cc0 cc3 HN HROW hhi t2 hc1s ⊢
          have HJ := Lib.hid hszj
          clear hszj hj hlt
          obtain ⟨wp, rfl⟩ : ∃ wp : World, wp = wr := ⟨_, rfl⟩
          go_loopw [63] (fun i wx => ∃ j : Nat, j ≤ ln ∧ i = .int .i64 j ∧ Hid (OwnS wx w.heap.size 66 3 (some ⟨g1, 0, none⟩) sz c1 (plR (markF s k (L.take j)) sz) ∧ Chg [g1] w2 wx)) (fun i _ => ln - (intOf i).toNat)
          case atStart =>
            refine ⟨0, by omega, rfl, Lib.hid ⟨?_, Chg.refl _ _⟩⟩
            rw [List.take_zero, markF_nil s HR.out.ok]
            have e : plR (clrF s.f 32) sz = plR (clrF s.f sz) sz := plR_congr fun i hi => by unfold clrF; rw [if_pos (by omega), if_pos hi]
            rw [e]
            exact H4.out.2.1
          case round =>
            obtain ⟨j, hj, rfl, H5⟩ := hrel
            have hg1 := H4.out.2.1.ge _ mem_sB
            have hcx : Chg [] w wr := H4.out.2.2.then_ H5.out.2 (fun b hb => by simp at hb; subst hb; exact .inr hg1)
            have hrl3 : rp < wr.heap.size := Nat.lt_of_lt_of_le hrl hcx.size
            have z0 := hcx.cell_some cc0 (by simp)
            have z3 := hcx.cell_some cc3 (by simp)
            by_cases hlt : j < ln
            · have hjl : j < L.length := by rw [← HL.out.2]; exact hlt
              obtain ⟨v, hv⟩ : ∃ v, L[j]? = some v := ⟨_, List.getElem?_eq_getElem hjl⟩
              obtain ⟨a3, rfl, x3⟩ := H4.out.1.cell (j := j) (u := encL v) (by rw [List.getElem?_map, hv]; rfl)
              have hne : a3.block ≠ g1 := fun e => by
                have := H4.out.1.not_type H4.out.2.1 (by decide) a3.block mem_sB
                exact this (by rw [e]; exact mem_sB)
              have y3 := H5.out.2.cell_some x3 (by
                have : (a3.add j).block = a3.block := by unfold Addr.add; split <;> rfl
                rw [this]; simpa using hne)
              unfold encL at y3
              have hv64 : v < 64 := bitsL_lt (by rw [← HL.out.1]; exact hv)
              have htk : L.take (j + 1) = L.take j ++ [v] := by rw [List.take_add_one, hv]; rfl
              have i1 : (0 : Int) ≤ (j : Int) := by omega
              have i2 : (j : Int) < (ln : Int) := by omega
              by_cases hin : k + 1 + v < sz
              · have t3 : decide ((k : Int) + 1 + (v : Int) < (sz : Int)) = true := decide_eq_true (by omega)
                have x0 := H5.out.1.reads0 _ _ (plR_0 (markF s k (L.take j)) (i := k + 1 + v) hin)
                rw [markF_sent] at x0
                obtain ⟨q, hq⟩ : ∃ q : Nat, q = k + 1 + v := ⟨_, rfl⟩
                have hqi : (k : Int) + 1 + (v : Int) = (q : Int) := by omega
                by_cases hs : 0 < (s.f (k + 1 + v)).1
                · rw [decide_eq_true hs] at x0
                  have hnew := H5.out.1.set0 ((k + 1 + v) * 3 + 2) (.bool true)
                  rw [plR_there _ hin, ← markF_yes s k (L.take j) v (by rw [← HN.out]; exact hin) hs, ← htk] at hnew
                  have x2 := H5.out.1.reads0 _ _ (plR_2 (markF s k (L.take j)) (i := k + 1 + v) hin)
                  have f2 := H5.out.1.frozen0 ((k + 1 + v) * 3 + 2)
                  have hcg : Chg [g1] w2 (wr.setCell ⟨g1, (k + 1 + v) * 3 + 2, none⟩ (.bool true)) := H5.out.2.setCell (.inl (by simp)) _
                  rw [← hq] at x0 x2 f2 hnew hcg
                  have HX := Lib.hid (And.intro hnew hcg)
                  have w1 : ∀ x : Int, x = (k : Int) + 1 → wrap64 x = (k : Int) + 1 := fun x hx => by rw [hx]; unfold wrap64; omega
                  have w3 : ∀ x : Int, x = (k : Int) + 1 + (v : Int) → wrap64 x = (q : Int) := fun x hx => by rw [hx]; unfold wrap64; omega
                  have i3 : (0 : Int) ≤ (q : Int) := by omega
                  have i4 : (q : Int) < (sz : Int) := by omega
                  clear hs hnew hcg hv htk hq
                  go_wp2
                  go_roundw
                  case rel => exact ⟨j + 1, by omega, by go_num, HX⟩
                  case measure => simp [intOf]; omega
                · rw [decide_eq_false hs] at x0
                  have HTK : Hid (markF s k (L.take (j + 1)) = markF s k (L.take j)) := Lib.hid (by rw [htk, markF_no]; rintro ⟨_, h⟩; exact hs h)
                  rw [← hq] at x0
                  have i3 : (0 : Int) ≤ (q : Int) := by omega
                  have i4 : (q : Int) < (sz : Int) := by omega
                  clear hs hv htk hq
                  go_wp2
                  go_roundw
                  case rel => exact ⟨j + 1, by omega, by go_num, Lib.hid ⟨by rw [HTK.out]; exact H5.out.1, H5.out.2⟩⟩
                  case measure => simp [intOf]; omega
              · have t3 : decide ((k : Int) + 1 + (v : Int) < (sz : Int)) = false := decide_eq_false (by omega)
                have HTK : Hid (markF s k (L.take (j + 1)) = markF s k (L.take j)) := Lib.hid (by rw [htk, markF_no]; rintro ⟨h, _⟩; rw [← HN.out] at h; exact hin h)
                clear hv htk
                go_wp2
                go_roundw
                case rel => exact ⟨j + 1, by omega, by go_num, Lib.hid ⟨by rw [HTK.out]; exact H5.out.1, H5.out.2⟩⟩
                case measure => simp [intOf]; omega
            · obtain rfl : j = ln := by omega
              have hfull : L.take j = Bt.bitsL m := by rw [HL.out.2, List.take_length, HL.out.1]
              have hk : k ≤ sz := by omega
              have hrow := H5.out.1
              rw [hfull] at hrow
              obtain ⟨A6, c6, w6, hrun, hown, hch, hat⟩ := (hrow.drop hk).append_zeros (P := Tryd.prog) 43 3 43 i1 _ 24 .i64 Tryd.underlying43 Tryd.underlying3 HP.out.1 HP.out.2.1 HP.out.2.2.1 HP.out.2.2.2 rfl
                (by intro u hu; simp [Value.cells] at hu; rcases hu with rfl | rfl | rfl <;> rfl) (by omega) k (by simp only [maxLen]; omega) (by omega) hcx.size
              rw [show sz - k + k = sz from by omega] at hrun hown
              have hmf : ∀ i, sz ≤ i → markF s k (Bt.bitsL m) i = (0, false) := fun i hi => by
                unfold markF
                rw [HR.out.ok.far i (by rw [← HN.out]; exact hi), decide_eq_false (show ¬ i < s.size by rw [← HN.out]; omega)]
                simp
              rw [zeros_pl, plR_shift _ hn2 hk hmf] at hown
              have hg6 : ∀ b ∈ sB (cutA (some ⟨g1, 0, none⟩) c1 k 3), b = g1 := by
                intro b hb
                unfold cutA at hb
                split at hb
                · simpa [sB] using hb
                · rw [Option.map_some, add_none] at hb
                  simpa [sB] using hb
              have hcy : Chg [] w w6 := hcx.then_ hch (fun b hb => by rw [hg6 b hb]; exact .inr hg1)
              have hfin := HR.out.put2 (s' := s.ack k num m) rfl rfl (WS.ack_ok HR.out.ok num m (by rw [← HN.out]; exact hk) HNM.out.1 HNM.out.2) hcy (A' := A6) (c' := c6) (by rw [← HN.out]; exact hown.lower HR.out.chg.size)
              rw [← HN.out] at hfin
              have HFIN := Lib.hid hfin
              have y2 := hcy.cell_some cc2 (by simp)
              have y3 := hcy.cell_some cc3 (by simp)
              have f2 := (HBLK.out.chg hcy (by simp)).frozen 2
              have f3 := (HBLK.out.chg hcy (by simp)).frozen 3
              have k1 : (0 : Int) ≤ (k : Int) := by omega
              have k2 : (k : Int) ≤ (sz : Int) := by omega
              have k3 : (sz : Int) ≤ (c1 : Int) := by omega
              have k4 : (k : Int) ≤ (c1 : Int) := by omega
              clear hfull hrow hown hch hat hmf hg6 hcy hfin z0 z3
              by_cases hck : c1 = k
              · have hcut : cutA (some ⟨g1, 0, none⟩) c1 k 3 = some ⟨g1, 0, none⟩ := by unfold cutA; rw [if_pos hck]
                rw [hcut] at hrun
                clear hcut
                obtain rfl : sz = k := by omega
                obtain rfl : c1 = sz := hck
                rw [Nat.sub_self] at hrun
                go_wp2_with (at_builtin; refine wpList_appR (by rfl) _ _ _ _ (by rfl) _ _ _ _ (by rfl) (by rfl) hrun ?_)
                go_ret
                obtain ⟨e1, e2, e3⟩ := HYES.out
                rw [e1, e2]
                exact ⟨rfl, HFIN.out⟩
              · have hcut : cutA (some ⟨g1, 0, none⟩) c1 k 3 = some ⟨g1, k * 3, none⟩ := by unfold cutA; rw [if_neg hck, Option.map_some, add_none, Nat.zero_add]
                rw [hcut] at hrun
                clear hcut
                go_wp2_with (at_builtin; refine wpList_appR (by rfl) _ _ _ _ (by rfl) _ _ _ _ (by rfl) (by rfl) hrun ?_)
                go_ret
                obtain ⟨e1, e2, e3⟩ := HYES.out
                rw [e1, e2]
                exact ⟨rfl, HFIN.out⟩
end Go.Proofs.YtapjegjffgjmlaaDoor
