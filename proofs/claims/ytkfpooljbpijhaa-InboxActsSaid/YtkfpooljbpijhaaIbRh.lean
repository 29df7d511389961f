/- The document's inbox, walked: Held, Ack, Reset; the law package's great. -/
import Derived.Test.YtkfpooljbpijhaaIbRg
import Derived.RegionTactic
set_option linter.unusedVariables false
set_option linter.unusedSimpArgs false
namespace Go.Proofs.Ytkfpooljbpijhaa
open Go.RowKit

set_option maxHeartbeats 4000000 in
theorem rheld_any {w0 w : World} {rp : Nat} {s : IB} (h : RIs w0 w rp s) : Calls Try.prog 25 #[.pointer (some ⟨rp, 0, none⟩)] w fun e w' => e = .returned (.int .i64 (s.held.length : Nat)) ∧ Chg [] w w' := by
  rw [← held_pl h.ok]
  obtain ⟨g, c, hb, hrow⟩ := h.at_
  have hsz := h.ok.sz_
  have cc2 := hb.cell 2
  simp only [List.getElem?_toArray, List.getElem?_cons_succ, List.getElem?_cons_zero] at cc2
  have HROW := Lib.hid hrow
  obtain ⟨n, hn⟩ : ∃ n, n = s.sz := ⟨_, rfl⟩
  have hn2 : n ≤ 32 := by omega
  rw [← hn] at cc2 ⊢
  have HN := Lib.hid hn
  clear hb hrow h hn hsz
  go_enter Try.func25, Try.ntmps25
  go_wp2
  go_loopw [11, 3] (fun i s3 wr => ∃ k m : Nat, k ≤ n ∧ i = .int .i64 k ∧ s3 = .int .i64 m ∧ m ≤ k ∧ Hid (m = pc (fun j => (s.pl j).isSome) k) ∧ Chg [] w wr) (fun i _ _ => n - (intOf i).toNat)
  case atStart => exact ⟨0, 0, by omega, rfl, rfl, by omega, Lib.hid rfl, Chg.refl _ _⟩
  case round =>
    obtain ⟨k, m, hk, rfl, rfl, hmk, HM, hc⟩ := hrel
    have HC := Lib.hid hc
    clear hc
    by_cases hlt : k < n
    · obtain ⟨q, hq⟩ : ∃ q, q = (s.pl k).isSome := ⟨_, rfl⟩
      obtain ⟨x, hx⟩ : ∃ x, x = (s.pl k).getD Msg.zero := ⟨_, rfl⟩
      obtain ⟨p0, p1, p2, p3, p4, p5, p6⟩ := place_cells (HROW.out.chg0 HC.out) (j := k) (by rw [← HN.out]; exact hlt) q x hq.symm hx.symm
      have hst : pc (fun j => (s.pl j).isSome) (k + 1) = pc (fun j => (s.pl j).isSome) k + if q then 1 else 0 := by rw [hq]; rfl
      have HST := Lib.hid hst
      have i1 : (0 : Int) ≤ (k : Int) := by omega
      have i2 : (k : Int) < (n : Int) := by omega
      clear hq hx hst
      cases q
      all_goals
        go_wp2
        go_roundw
        case rel => first
          | exact ⟨k + 1, m, by omega, by go_num, by go_num, by omega, Lib.hid (by rw [HST.out, HM.out]; rfl), HC.out.alloc _⟩
          | exact ⟨k + 1, m + 1, by omega, by go_num, by go_num, by omega, Lib.hid (by rw [HST.out, HM.out]; rfl), HC.out.alloc _⟩
        case measure => simp [intOf]; omega
    · obtain rfl : k = n := by omega
      go_wp2
      go_ret
      exact ⟨by rw [← HM.out]; rfl, HC.out⟩

set_option maxHeartbeats 4000000 in
theorem rack_any {w0 w : World} {rp : Nat} {s : IB} (h : RIs w0 w rp s) : Calls Try.prog 24 #[.pointer (some ⟨rp, 0, none⟩)] w fun e w' => e = .returned (.tuple #[.int .u16 s.next, .int .u64 (s.mask : Nat)]) ∧ Chg [] w w' := by
  rw [← mask_pl h.ok]
  obtain ⟨g, c, hb, hrow⟩ := h.at_
  have hsz := h.ok.sz_
  have cc1 := hb.cell 1
  have cc2 := hb.cell 2
  simp only [List.getElem?_toArray, List.getElem?_cons_succ, List.getElem?_cons_zero] at cc1 cc2
  have HROW := Lib.hid hrow
  obtain ⟨n, hn⟩ : ∃ n, n = s.sz := ⟨_, rfl⟩
  have hn2 : n ≤ 32 := by omega
  rw [← hn] at cc2 ⊢
  obtain ⟨nx, hnx⟩ : ∃ n, n = s.next := ⟨_, rfl⟩
  rw [← hnx] at cc1 ⊢
  have HN := Lib.hid hn
  clear hb hrow h hn hsz hnx
  go_enter Try.func24, Try.ntmps24
  go_wp2
  go_loopw [12, 4] (fun i s4 wr => ∃ k m : Nat, k ≤ n ∧ i = .int .i64 k ∧ s4 = .int .u64 m ∧ Hid (m = rmask s.pl k) ∧ Chg [] w wr) (fun i _ _ => n - (intOf i).toNat)
  case atStart => exact ⟨0, 0, by omega, rfl, rfl, Lib.hid rfl, Chg.refl _ _⟩
  case round =>
    obtain ⟨k, m, hk, rfl, rfl, HM, hc⟩ := hrel
    have HC := Lib.hid hc
    have z1 := hc.cell_some cc1 (by simp)
    clear hc
    by_cases hlt : k < n
    · obtain ⟨q, hq⟩ : ∃ q, q = (s.pl k).isSome := ⟨_, rfl⟩
      obtain ⟨x, hx⟩ : ∃ x, x = (s.pl k).getD Msg.zero := ⟨_, rfl⟩
      obtain ⟨p0, p1, p2, p3, p4, p5, p6⟩ := place_cells (HROW.out.chg0 HC.out) (j := k) (by rw [← HN.out]; exact hlt) q x hq.symm hx.symm
      have hst : rmask s.pl (k + 1) = if 0 < k ∧ q = true then withN (rmask s.pl k) ((k : Int) - 1) else rmask s.pl k := by rw [hq]; rfl
      have hml : m < 18446744073709551616 := by rw [HM.out]; exact rmask_lt _ _
      have i1 : (0 : Int) ≤ (k : Int) := by omega
      have i2 : (k : Int) < (n : Int) := by omega
      clear hq hx
      by_cases h0 : 0 < k
      · have t1 : decide ((0 : Int) < (k : Int)) = true := decide_eq_true (by omega)
        have t2 : decide (0 < k) = true := decide_eq_true h0
        cases q with
        | true =>
          rw [if_pos ⟨h0, rfl⟩] at hst
          obtain ⟨j, rfl⟩ : ∃ j, k = j + 1 := ⟨k - 1, by omega⟩
          have hj : ((j + 1 : Nat) : Int) - 1 = (j : Int) := by omega
          rw [hj] at hst
          have HST := Lib.hid (And.intro hst hml)
          clear hst hml hj
          go_wp2_with fail
          refine (rwith_any m j HST.out.2 (by omega) _).mono ?_
          rintro e w' ⟨rfl, rfl⟩
          go_wp2
          go_roundw
          case rel => exact ⟨j + 1 + 1, withN m (j : Int), by omega, by go_num, rfl, Lib.hid (by rw [HST.out.1, HM.out]), HC.out.alloc _⟩
          case measure => simp [intOf]; omega
        | false =>
          rw [if_neg (by simp)] at hst
          have HST := Lib.hid hst
          clear hst
          go_wp2
          go_roundw
          case rel => exact ⟨k + 1, m, by omega, by go_num, rfl, Lib.hid (by rw [HST.out, HM.out]), HC.out.alloc _⟩
          case measure => simp [intOf]; omega
      · have t1 : decide ((0 : Int) < (k : Int)) = false := decide_eq_false (by omega)
        have t2 : decide (0 < k) = false := decide_eq_false h0
        rw [if_neg (fun hh => h0 hh.1)] at hst
        have HST := Lib.hid hst
        clear hst
        go_wp2
        go_roundw
        case rel => exact ⟨k + 1, m, by omega, by go_num, rfl, Lib.hid (by rw [HST.out, HM.out]), HC.out.alloc _⟩
        case measure => simp [intOf]; omega
    · obtain rfl : k = n := by omega
      go_wp2
      go_ret2
      exact ⟨by rw [← HM.out]; rfl, HC.out⟩

set_option maxHeartbeats 4000000 in
theorem rreset_any {w0 w : World} {rp : Nat} {s : IB} (h : RIs w0 w rp s) : Calls Try.prog 22 #[.pointer (some ⟨rp, 0, none⟩)] w fun e w' => (∃ v, e = .returned v) ∧ RIs w0 w' rp ⟨s.size, 0, []⟩ ∧ Chg [rp] w w' := by
  have HR := Lib.hid h
  obtain ⟨g, c, hb, hrow⟩ := h.at_
  have hsz := h.ok.sz_
  have cc0 := hb.cell 0
  have cc1 := hb.cell 1
  have cc2 := hb.cell 2
  simp only [List.getElem?_toArray, List.getElem?_cons_succ, List.getElem?_cons_zero] at cc0 cc1 cc2
  have f1 := hb.frozen 1
  have f2 := hb.frozen 2
  have hrl := h.lt
  have HB := Lib.hid hb
  have HO := Lib.hid (IB.Ok.new h.ok.s1 h.ok.s2)
  have hmk := make_places s.sz (by omega)
  have HLIT := Lib.hid (fun W => OwnS.lit W w0.heap.size (e := 67) (size := 7) (n := s.sz) (cs := rowK 7 (fun _ => pic none) s.sz) (hl := rowK_len) (hm := by simp only [maxLen]; omega))
  obtain ⟨X, hX⟩ : ∃ X, X = (rowK 7 (fun _ => pic none) s.sz).toArray := ⟨_, rfl⟩
  simp only [← hX] at hmk HLIT
  have HS := Lib.hid h.chg.size
  obtain ⟨n, hn⟩ : ∃ n, n = s.sz := ⟨_, rfl⟩
  rw [← hn] at cc0 cc2 hmk
  have HN := Lib.hid hn
  clear hb hrow h hX hn hsz
  go_enter Try.func22, Try.ntmps22
  go_wp2_with fail
  go_region
  all_goals
    go_end0
    have hnn := HN.out
    subst hnn
    have hlit := HLIT.out ((w.setCell ⟨rp, 1, none⟩ (.int .u16 0)).setCell ⟨rp, 2, none⟩ (.slice (some ⟨w.heap.size, 0, none⟩) s.sz s.sz)) (by rw [World.size_setCell, World.size_setCell]; exact HS.out)
    rw [World.size_setCell, World.size_setCell] at hlit
    have hblk := (HB.out.set_ 1 (.int .u16 0)).set_ 2 (.slice (some ⟨w.heap.size, 0, none⟩) s.sz s.sz)
    have hcg : Chg [rp] w ((((w.setCell ⟨rp, 1, none⟩ (.int .u16 0)).setCell ⟨rp, 2, none⟩ (.slice (some ⟨w.heap.size, 0, none⟩) s.sz s.sz)).alloc (.cells X 67)).drew) := ((((Chg.refl [rp] w).setCell (.inl (by simp)) _).setCell (.inl (by simp)) _).alloc _).drew
    exact ⟨⟨_, rfl⟩, HR.out.remake (s' := ⟨s.size, 0, []⟩) rfl HO.out hcg (hlit.chg0 ((Chg.refl [] _).drew)) ((hblk.alloc (.cells X 67)).drewN 1)⟩

/-- Has a message longer texts than are looked at? -/
theorem great_any (m : Msg) (w : World) : Calls Try.prog 18 #[.agg #[.int .i64 m.org, .int .u64 m.seq, .int .i64 m.hop, .string m.ex, .string m.key, .string m.body]] w fun e w' => (∃ b, e = .returned (.bool b)) ∧ Chg [] w w' := by
  go_enter Try.func18, Try.ntmps18
  go_wp2
  go_ret
  exact ⟨⟨_, rfl⟩, (Chg.refl _ _).alloc _⟩
end Go.Proofs.Ytkfpooljbpijhaa
