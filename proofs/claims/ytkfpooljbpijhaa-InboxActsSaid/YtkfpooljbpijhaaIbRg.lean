/- The document's inbox, walked: Head, Pop, Held, Ack, Reset. -/
import Derived.Test.YtkfpooljbpijhaaIbRf
set_option linter.unusedVariables false
set_option linter.unusedSimpArgs false
namespace Go.Proofs.Ytkfpooljbpijhaa
open Go.RowKit

set_option maxHeartbeats 4000000 in
theorem rhead_any {w0 w : World} {rp : Nat} {s : IB} (h : RIs w0 w rp s) : Calls Try.prog 23 #[.pointer (some ⟨rp, 0, none⟩)] w fun e w' => e = .returned (.tuple #[msgV s.headM, .bool s.pops]) ∧ Chg [] w w' := by
  obtain ⟨g, c, hb, hrow⟩ := h.at_
  have hsz := h.ok.sz_
  rw [pops_pl h.ok, head_pl h.ok]
  obtain ⟨q, hq⟩ : ∃ q, q = (s.pl 0).isSome := ⟨_, rfl⟩
  obtain ⟨m, hm⟩ : ∃ m, m = (s.pl 0).getD Msg.zero := ⟨_, rfl⟩
  obtain ⟨p0, p1, p2, p3, p4, p5, p6⟩ := place_cells hrow (j := 0) (by omega) q m hq.symm hm.symm
  rw [← hq, ← hm]
  have cc2 := hb.cell 2
  simp only [List.getElem?_toArray, List.getElem?_cons_succ, List.getElem?_cons_zero] at cc2
  have hrl := h.lt
  have hgl := hrow.lt g (by simp [sB])
  obtain ⟨n, hn⟩ : ∃ n, n = s.sz := ⟨_, rfl⟩
  rw [← hn] at cc2
  have hn1 : (0 : Int) < (n : Int) := by omega
  simp only [Nat.zero_mul, Nat.zero_add] at p0 p1 p2 p3 p4 p5 p6
  clear hb hrow h hn hsz hq hm
  go_enter Try.func23, Try.ntmps23
  go_wp2_with fail
  go_region
  all_goals
    go_wp2
    refine bodyPost_ret (v := .tuple #[msgV m, .bool q]) (by simp [results, Try.results23, go_sem, msgV, Msg.cells]) rfl ⟨rfl, ((Chg.refl _ _).alloc _).drew⟩

set_option maxRecDepth 100000 in
set_option maxHeartbeats 8000000 in
theorem rpop_any {w0 w : World} {rp : Nat} {s : IB} (h : RIs w0 w rp s) : Calls Try.prog 20 #[.pointer (some ⟨rp, 0, none⟩)] w fun e w' => e = .returned (.bool s.pops) ∧ RIs w0 w' rp s.pop1 ∧ Chg [rp] w w' := by
  have HR := Lib.hid h
  obtain ⟨g, c, hb, hrow⟩ := h.at_
  have hsz := h.ok.sz_
  have x0 := (place_cells hrow (j := 0) (by omega) _ _ rfl rfl).1
  rw [← pops_pl h.ok] at x0
  simp only [Nat.zero_mul] at x0
  have cc2 := hb.cell 2
  simp only [List.getElem?_toArray, List.getElem?_cons_succ, List.getElem?_cons_zero] at cc2
  have hrl := h.lt
  have hgl := hrow.lt g (by simp [sB])
  obtain ⟨n, hn⟩ : ∃ n, n = s.sz := ⟨_, rfl⟩
  rw [← hn] at cc2
  have HN := Lib.hid hn
  obtain ⟨nx, hnx⟩ : ∃ x, x = s.next := ⟨_, rfl⟩
  have hn1 : (0 : Int) < (n : Int) := by omega
  have hn2 : n ≤ 32 := by omega
  have hle : n ≤ c := by rw [hn]; exact hrow.le
  cases hp : s.pops with
  | false =>
    have HNO : Hid (s.pops = false ∧ s.pop1 = s) := Lib.hid ⟨hp, by unfold IB.pop1; rw [if_neg (by simp [hp])]⟩
    rw [hp] at x0
    have hpp := hp
    clear hb hrow h hn hsz hnx hp hpp
    go_enter Try.func20, Try.ntmps20
    go_wp2
    go_ret
    rw [HNO.out.2]
    exact ⟨rfl, HR.out, Chg.refl _ _⟩
  | true =>
    rw [hp] at x0
    have hdrop := hrow.drop (k := 1) (by omega)
    rw [Nat.one_mul] at hdrop
    by_cases hc1 : c = 1
    · skip
      have hcut : cutA (some ⟨g, 0, none⟩) c 1 7 = some ⟨g, 0, none⟩ := by unfold cutA; rw [if_pos hc1]
      rw [hcut] at hdrop
      have hc0 : Chg [] w w := Chg.refl _ _
      obtain ⟨g1, c1, w1, hrun1, hown1, hch1⟩ := copy_row hrow (row_one s) (by omega) hc0 (a := ⟨g, 0, none⟩) (m := s.sz - 1) (c2 := c - 1) (ys := s.row.drop 7) (by rw [List.length_drop, row_len]; omega) (by omega) (fun j u hu => hdrop.reads j u hu) (fun v hv => row_one s v (List.mem_of_mem_drop hv))
      obtain ⟨i0, hi, hz0, hz1, hz2⟩ := info_parts infoPlace
      obtain ⟨A2, c2, w2, hrun2, hown2, hch2, hat2⟩ := (hown1.chg0 ((Chg.refl [] w1).alloc (.cells (.mk (pic none)) 67))).append (P := Try.prog) 51 51 51 i0 _ 80 Try.underlying51 hi hz0 hz1 hz2 rfl
        (.slice (some ⟨w1.heap.size, 0, none⟩) 1 1) 1 (pic none) (Src.ofSlice _ Try.underlying51 _ 1 1 _ rfl (fun j u hu => by
          rw [add_none, Nat.zero_add]
          have := (Blk.new w1 67 (.mk (pic none))).cell j
          rw [List.getElem?_toArray] at this
          exact this.trans hu) (pic_one none)) (by simp only [maxLen]; omega) (by omega) (by have := hch1.size; simp; omega)
      obtain ⟨g2, rfl⟩ : ∃ g2, A2 = some ⟨g2, 0, none⟩ := by
        rcases hat2 with h | h <;> exact ⟨_, h⟩
      have hcw : Chg [] w w2 := (hch1.alloc (.cells (.mk (pic none)) 67)).then_ hch2 (fun b hb => .inr (hown1.ge b hb))
      rw [row_pop h.ok hp, show s.sz - 1 + 1 = s.sz from by omega] at hown2
      rw [show s.sz - 1 + 1 = s.sz from by omega, ← hn] at hrun2
      rw [← hn] at hrun1
      have hb2 := hb.chg hcw (by simp)
      have H2 := Lib.hid (And.intro hown2 (And.intro hb2 hcw))
      have y1 := hb2.cell 1
      have y2 := hb2.cell 2
      have e1 := hb2.frozen 1
      have e2 := hb2.frozen 2
      simp only [List.getElem?_toArray, List.getElem?_cons_succ, List.getElem?_cons_zero] at y1 y2
      rw [← hn] at y2
      rw [← hnx] at y1
      have hq16 : ∀ q : IntKind, q = .u16 → q.wrap (nx + 1) = (s.pop1).next := fun q hq => by
        rw [hq, IntKind.wrap_u16, show s.pop1 = s.pop from if_pos hp, hnx]; rfl
      obtain ⟨nx2, hnx2⟩ : ∃ x, x = s.pop1.next := ⟨_, rfl⟩
      rw [← hnx2] at hq16
      have HRUN1 := Lib.hid hrun1
      have HRUN2 := Lib.hid hrun2
      have HT := Lib.hid (And.intro h.ok.pop1 (And.intro hnx2 (show s.pop1.sz = s.sz by rw [show s.pop1 = s.pop from if_pos hp]; rfl)))
      have HP := Lib.hid hp
      have hi1 : (1 : Int) ≤ (n : Int) := by omega
      have hi2 : (1 : Int) ≤ (c : Int) := by omega
      have hi3 : (n : Int) ≤ (c : Int) := by omega
      clear hcut hdrop hc0 hown1 hch1 hown2 hch2 hat2 hcw hb2 hb hrow h hp hnx hn hrun1 hrun2 hi hz0 hz1 hz2 hnx2
      have hrun1 := HRUN1.out
      have hrun2 := HRUN2.out
      unfold pic Msg.cells Msg.zero at hrun2
      obtain rfl : n = 1 := (by omega); subst hc1; simp only [Nat.sub_self] at hrun1 hrun2
      go_enter Try.func20, Try.ntmps20
      go_wp2_with (first
        | (at_builtin; refine wpList_appR (by rfl) _ _ _ _ (by rfl) _ _ _ _ (by rfl) (by rfl) hrun1 ?_)
        | (at_builtin; refine wpList_appR (by rfl) _ _ _ _ (by rfl) _ _ _ _ (by rfl) (by rfl) hrun2 ?_))
      go_ret
      obtain ⟨ho, hbk, hcw⟩ := H2.out
      have hbf := (hbk.set_ 2 (.slice (some ⟨g2, 0, none⟩) 1 c2)).set_ 1 (.int .u16 nx2)
      have hcf : Chg [rp] w ((w2.setCell ⟨rp, 2, none⟩ (.slice (some ⟨g2, 0, none⟩) 1 c2)).setCell ⟨rp, 1, none⟩ (.int .u16 nx2)) := ((hcw.mono (by simp)).setCell (.inl (by simp)) _).setCell (.inl (by simp)) _
      have hof := (ho.chg ((Chg.refl [rp] w2).setCell (p := ⟨rp, 2, none⟩) (.inl (by simp)) (.slice (some ⟨g2, 0, none⟩) 1 c2)) (fun b hb => by simpa using ho.not_in hbk (by decide) b hb)).chg ((Chg.refl [rp] _).setCell (p := ⟨rp, 1, none⟩) (.inl (by simp)) (.int .u16 nx2)) (fun b hb => by simpa using ho.not_in hbk (by decide) b hb)
      refine ⟨rfl, HR.out.remake (s' := s.pop1) HT.out.2.2 HT.out.1 hcf (hof.lower HR.out.chg.size) ?_⟩
      rw [← HT.out.2.1, ← HN.out]
      rw [← HN.out] at hbf
      exact hbf
    · skip
      have hcut : cutA (some ⟨g, 0, none⟩) c 1 7 = some ⟨g, 7, none⟩ := by unfold cutA; rw [if_neg hc1, Option.map_some, add_none]
      rw [hcut] at hdrop
      have hc0 : Chg [] w w := Chg.refl _ _
      obtain ⟨g1, c1, w1, hrun1, hown1, hch1⟩ := copy_row hrow (row_one s) (by omega) hc0 (a := ⟨g, 7, none⟩) (m := s.sz - 1) (c2 := c - 1) (ys := s.row.drop 7) (by rw [List.length_drop, row_len]; omega) (by omega) (fun j u hu => hdrop.reads j u hu) (fun v hv => row_one s v (List.mem_of_mem_drop hv))
      obtain ⟨i0, hi, hz0, hz1, hz2⟩ := info_parts infoPlace
      obtain ⟨A2, c2, w2, hrun2, hown2, hch2, hat2⟩ := (hown1.chg0 ((Chg.refl [] w1).alloc (.cells (.mk (pic none)) 67))).append (P := Try.prog) 51 51 51 i0 _ 80 Try.underlying51 hi hz0 hz1 hz2 rfl
        (.slice (some ⟨w1.heap.size, 0, none⟩) 1 1) 1 (pic none) (Src.ofSlice _ Try.underlying51 _ 1 1 _ rfl (fun j u hu => by
          rw [add_none, Nat.zero_add]
          have := (Blk.new w1 67 (.mk (pic none))).cell j
          rw [List.getElem?_toArray] at this
          exact this.trans hu) (pic_one none)) (by simp only [maxLen]; omega) (by omega) (by have := hch1.size; simp; omega)
      obtain ⟨g2, rfl⟩ : ∃ g2, A2 = some ⟨g2, 0, none⟩ := by
        rcases hat2 with h | h <;> exact ⟨_, h⟩
      have hcw : Chg [] w w2 := (hch1.alloc (.cells (.mk (pic none)) 67)).then_ hch2 (fun b hb => .inr (hown1.ge b hb))
      rw [row_pop h.ok hp, show s.sz - 1 + 1 = s.sz from by omega] at hown2
      rw [show s.sz - 1 + 1 = s.sz from by omega, ← hn] at hrun2
      rw [← hn] at hrun1
      have hb2 := hb.chg hcw (by simp)
      have H2 := Lib.hid (And.intro hown2 (And.intro hb2 hcw))
      have y1 := hb2.cell 1
      have y2 := hb2.cell 2
      have e1 := hb2.frozen 1
      have e2 := hb2.frozen 2
      simp only [List.getElem?_toArray, List.getElem?_cons_succ, List.getElem?_cons_zero] at y1 y2
      rw [← hn] at y2
      rw [← hnx] at y1
      have hq16 : ∀ q : IntKind, q = .u16 → q.wrap (nx + 1) = (s.pop1).next := fun q hq => by
        rw [hq, IntKind.wrap_u16, show s.pop1 = s.pop from if_pos hp, hnx]; rfl
      obtain ⟨nx2, hnx2⟩ : ∃ x, x = s.pop1.next := ⟨_, rfl⟩
      rw [← hnx2] at hq16
      have HRUN1 := Lib.hid hrun1
      have HRUN2 := Lib.hid hrun2
      have HT := Lib.hid (And.intro h.ok.pop1 (And.intro hnx2 (show s.pop1.sz = s.sz by rw [show s.pop1 = s.pop from if_pos hp]; rfl)))
      have HP := Lib.hid hp
      have hi1 : (1 : Int) ≤ (n : Int) := by omega
      have hi2 : (1 : Int) ≤ (c : Int) := by omega
      have hi3 : (n : Int) ≤ (c : Int) := by omega
      clear hcut hdrop hc0 hown1 hch1 hown2 hch2 hat2 hcw hb2 hb hrow h hp hnx hn hrun1 hrun2 hi hz0 hz1 hz2 hnx2
      have hrun1 := HRUN1.out
      have hrun2 := HRUN2.out
      unfold pic Msg.cells Msg.zero at hrun2
      skip
      go_enter Try.func20, Try.ntmps20
      go_wp2_with (first
        | (at_builtin; refine wpList_appR (by rfl) _ _ _ _ (by rfl) _ _ _ _ (by rfl) (by rfl) hrun1 ?_)
        | (at_builtin; refine wpList_appR (by rfl) _ _ _ _ (by rfl) _ _ _ _ (by rfl) (by rfl) hrun2 ?_))
      go_ret
      obtain ⟨ho, hbk, hcw⟩ := H2.out
      have hbf := (hbk.set_ 2 (.slice (some ⟨g2, 0, none⟩) n c2)).set_ 1 (.int .u16 nx2)
      have hcf : Chg [rp] w ((w2.setCell ⟨rp, 2, none⟩ (.slice (some ⟨g2, 0, none⟩) n c2)).setCell ⟨rp, 1, none⟩ (.int .u16 nx2)) := ((hcw.mono (by simp)).setCell (.inl (by simp)) _).setCell (.inl (by simp)) _
      have hof := (ho.chg ((Chg.refl [rp] w2).setCell (p := ⟨rp, 2, none⟩) (.inl (by simp)) (.slice (some ⟨g2, 0, none⟩) n c2)) (fun b hb => by simpa using ho.not_in hbk (by decide) b hb)).chg ((Chg.refl [rp] _).setCell (p := ⟨rp, 1, none⟩) (.inl (by simp)) (.int .u16 nx2)) (fun b hb => by simpa using ho.not_in hbk (by decide) b hb)
      refine ⟨rfl, HR.out.remake (s' := s.pop1) HT.out.2.2 HT.out.1 hcf (hof.lower HR.out.chg.size) ?_⟩
      rw [← HT.out.2.1, ← HN.out]
      rw [← HN.out] at hbf
      exact hbf
end Go.Proofs.Ytkfpooljbpijhaa
