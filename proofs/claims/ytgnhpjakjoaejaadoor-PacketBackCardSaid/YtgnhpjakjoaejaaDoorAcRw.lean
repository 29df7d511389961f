/- staithref13: text, yes, Exchange, Binding, Message. -/
import Derived.Test.YtgnhpjakjoaejaaDoorAcBy
set_option linter.unusedVariables false
set_option linter.unusedSimpArgs false
namespace Go.Proofs.YtgnhpjakjoaejaaDoor
open Go.RowKit
open Go.Proofs.YtgnhpjakjoaejaaDoor.Ac (ActS)

/-- What a reference's writing function comes to. -/
def Made (w : World) (l : Bs) (e : Ending) (w' : World) : Prop := ∃ A n c, e = .returned (.slice A n c) ∧ Ob w' w.heap.size A n c l ∧ Chg [] w w'
theorem Made.from {w0 w w' : World} {l : Bs} {e : Ending} (hc : Chg [] w0 w) (h : Made w l e w') : Made w0 l e w' := by
  obtain ⟨A, n, c, he, ho, hc'⟩ := h
  exact ⟨A, n, c, he, ho.lower hc.size, hc.trans hc'⟩
set_option maxRecDepth 100000 in
set_option maxHeartbeats 2000000 in
theorem rtext_any (w : World) (A : Option Addr) (n c : Nat) (l : Bs) (h : Bt w A n c l) (s : ByteArray) (hs : s.size ≤ maxLen) (hn : n ≤ 900000) :
    Calls Tryd.prog 45 #[.slice A n c, .string s] w (Made w (l ++ Ac.txt (Ac.sB s))) := by
  unfold maxLen at hs
  have H := Lib.hid h
  by_cases hb : s.size ≤ 65535
  · have h1 : ¬ ((65535 : Int) < (s.size : Int)) := by omega
    have HP := Lib.hid (rput_any 2 (by unfold WidK; omega) s.size (by omega) w A n c l h (by omega))
    rw [wtext_eq s hb]
    clear h
    go_enter Tryd.func45, Tryd.ntmps45
    go_wp2_with fail
    refine HP.out.mono ?_
    rintro e w1 ⟨A1, n1, c1, rfl, ho, hc⟩
    obtain ⟨A2, c2, w5, hrun, ho5, hc5, hA5⟩ := ho.app 9 (.string s) s.size s.data.toList (slen _).symm (src_str w1 _) (by
      have h2 := ho.len
      have h3 := H.out.len
      rw [List.length_append, Ac.be_len] at h2
      omega) hc.size
    have H5 := Lib.hid (And.intro ho5 (hc.then_ hc5 (fun b hb => .inr (ho.own.ge b hb))))
    clear ho hc ho5 hc5 hA5
    go_wp2_with (at_builtin; refine wpList_appR (by rfl) _ _ _ _ (by rfl) _ _ _ _ (by rfl) (by rfl) hrun ?_)
    go_ret
    refine ⟨A2, _, c2, rfl, ?_, H5.out.2⟩
    rw [← List.append_assoc]
    first | exact H5.out.1 | (have q := H5.out.1; rw [hz] at q; exact q)
  · have h1 : (65535 : Int) < (s.size : Int) := by omega
    have e1 : min 65535 s.size = 65535 := by omega
    have hz : (s.extract 0 65535).size = 65535 := by rw [ByteArray.size_extract]; omega
    have HP := Lib.hid (rput_any 2 (by unfold WidK; omega) 65535 (by omega) w A n c l h (by omega))
    rw [wtext_cut s (by omega)]
    clear h
    go_enter Tryd.func45, Tryd.ntmps45
    go_wp2_with fail
    refine HP.out.mono ?_
    rintro e w1 ⟨A1, n1, c1, rfl, ho, hc⟩
    obtain ⟨A2, c2, w5, hrun, ho5, hc5, hA5⟩ := ho.app 9 (.string (s.extract 0 65535)) (s.extract 0 65535).size (s.extract 0 65535).data.toList (slen _).symm (src_str w1 _) (by
      have h2 := ho.len
      have h3 := H.out.len
      rw [List.length_append, Ac.be_len] at h2
      omega) hc.size
    have H5 := Lib.hid (And.intro ho5 (hc.then_ hc5 (fun b hb => .inr (ho.own.ge b hb))))
    clear ho hc ho5 hc5 hA5
    go_wp2_with (at_builtin; refine wpList_appR (by rfl) _ _ _ _ (by rfl) _ _ _ _ (by rfl) (by rfl) hrun ?_)
    go_ret
    refine ⟨A2, _, c2, rfl, ?_, H5.out.2⟩
    rw [← List.append_assoc]
    first | exact H5.out.1 | (have q := H5.out.1; rw [hz] at q; exact q)
set_option maxRecDepth 100000 in
set_option maxHeartbeats 4000000 in
theorem rmessage_any (w : World) (A : Option Addr) (n c : Nat) (l : Bs) (h : Bt w A n c l) (m : Msg) (hm : m.Fit) (hn : n ≤ 600000) :
    Calls Tryd.prog 28 #[.slice A n c, msgV m] w (Made w (l ++ Ac.msgB m)) := by
  have HN0 := Lib.hid h.len
  have hs1 := hm.ex
  have hs2 := hm.key
  have hs3 := hm.body
  have HM := Lib.hid hm
  have hx := txt_le m.ex
  have hy := txt_le m.key
  have HB0 := Lib.hid (And.intro (Blk.new w 27 m.cells) (And.intro (h.chg0 ((Chg.refl [] w).alloc (.cells m.cells 27))) ((Chg.refl [] w).alloc (.cells m.cells 27))))
  clear h hm
  unfold msgV
  go_enter Tryd.func28, Tryd.ntmps28
  go_upto_region 1 with fail
  generalize w.alloc (.cells m.cells 27) = W0 at *
  have b0 : W0.cell? ⟨w.heap.size, 0, none⟩ = some (.int .i64 m.org) := HB0.out.1.cell 0
  go_wp2_with fail
  rw [wrap_u]
  refine (rput_any 1 (by unfold WidK; omega) (Ac.u64 m.org) (u64_lt' _) _ _ _ _ _ HB0.out.2.1 (by omega)).mono ?_
  rintro e w1 ⟨A1, n1, c1, rfl, ho, hc⟩
  have H1 := Lib.hid (And.intro (HB0.out.1.chg hc (by simp)) (And.intro ho.bt (HB0.out.2.2.trans hc)))
  have hn1 : n1 ≤ n + 1 := by have h1 := ho.len; have h2 := HN0.out; rw [List.length_append, Ac.be_len] at h1; omega
  clear ho hc b0
  have b1 : w1.cell? ⟨w.heap.size, 1, none⟩ = some (.int .u64 m.seq) := H1.out.1.cell 1
  go_wp2_with fail
  rw [← HM.out.seq.eq]
  refine (rput_any 8 (by unfold WidK; omega) (Ac.u64 m.seq) (u64_lt' _) _ _ _ _ _ H1.out.2.1 (by omega)).mono ?_
  rintro e w1b ⟨A1b, n1b, c1b, rfl, ho, hc⟩
  have H1b := Lib.hid (And.intro (H1.out.1.chg hc (by simp)) (And.intro ho.bt (H1.out.2.2.trans hc)))
  have hn1b : n1b ≤ n + 9 := by have h1 := ho.len; have h2 := H1.out.2.1.len; rw [List.length_append, Ac.be_len] at h1; omega
  clear ho hc b1
  have b2 : w1b.cell? ⟨w.heap.size, 2, none⟩ = some (.int .i64 m.hop) := H1b.out.1.cell 2
  go_wp2_with fail
  rw [wrap_u]
  refine (rput_any 1 (by unfold WidK; omega) (Ac.u64 m.hop) (u64_lt' _) _ _ _ _ _ H1b.out.2.1 (by omega)).mono ?_
  rintro e W ⟨A1c, n1c, c1c, rfl, ho, hc⟩
  have HB := Lib.hid (And.intro (H1b.out.1.chg hc (by simp)) (And.intro ho.bt (H1b.out.2.2.trans hc)))
  have HN := Lib.hid ho.len
  have hn1c : n1c ≤ n + 10 := by have h1 := ho.len; have h2 := H1b.out.2.1.len; rw [List.length_append, Ac.be_len] at h1; omega
  clear ho hc b2
  go_upto_region 4 with fail
  refine wp_region_noPanic ?_
  refine wp_region_held_drew (S := fun w' => w'.cell? ⟨w.heap.size, 3, none⟩ = some (.string m.ex) ∧ w'.cell? ⟨w.heap.size, 4, none⟩ = some (.string m.key) ∧ w'.cell? ⟨w.heap.size, 5, none⟩ = some (.string m.body)) (by kernel_rfl) ⟨HB.out.1.cell 3, HB.out.1.cell 4, HB.out.1.cell 5⟩ (fun hHeld => ?_)
  refine wpAnyH_take (i := 0) (oi := _) (v := ?_) rfl (by kernel_rfl) (by kernel_rfl) (by kernel_rfl) (fun _ _ _ h => h) (Or.inl ⟨by rfl, ?_⟩) (by assumption) ?_
  rotate_left 1
  · intro w hSw
    try dsimp only at hSw
    go_simp
    try with_reducible rfl
  try simp only [List.getElem_toArray, List.getElem_cons_zero, List.getElem_cons_succ, Act.put, List.setIfInBounds_toArray, List.set_cons_zero, List.set_cons_succ]
  refine wpAnyH_take (i := 1) (oi := _) (v := ?_) rfl (by kernel_rfl) (by kernel_rfl) (by kernel_rfl) (fun _ _ _ h => h) (Or.inl ⟨by rfl, ?_⟩) (by assumption) ?_
  rotate_left 1
  · intro w hSw
    try dsimp only at hSw
    go_simp
    try with_reducible rfl
  try simp only [List.getElem_toArray, List.getElem_cons_zero, List.getElem_cons_succ, Act.put, List.setIfInBounds_toArray, List.set_cons_zero, List.set_cons_succ]
  refine wpAnyH_take (i := 2) (oi := _) (v := ?_) rfl (by kernel_rfl) (by kernel_rfl) (by kernel_rfl) (fun _ _ _ h => h) (Or.inl ⟨by rfl, ?_⟩) (by assumption) ?_
  rotate_left 1
  · intro w hSw
    try dsimp only at hSw
    go_simp
    try with_reducible rfl
  try simp only [List.getElem_toArray, List.getElem_cons_zero, List.getElem_cons_succ, Act.put, List.setIfInBounds_toArray, List.set_cons_zero, List.set_cons_succ]
  refine wpAnyH_take (i := 4) (oi := _) (v := ?_) rfl (by kernel_rfl) (by kernel_rfl) (by kernel_rfl) (fun _ _ _ h => h) (Or.inl ⟨by rfl, ?_⟩) (by assumption) ?_
  rotate_left 1
  · intro w hSw
    try dsimp only at hSw
    go_simp
    try with_reducible rfl
  try simp only [List.getElem_toArray, List.getElem_cons_zero, List.getElem_cons_succ, Act.put, List.setIfInBounds_toArray, List.set_cons_zero, List.set_cons_succ]
  refine wpAnyH_take (i := 5) (oi := _) (v := ?_) rfl (by kernel_rfl) (by kernel_rfl) (by kernel_rfl) (fun _ _ _ h => h) (Or.inl ⟨by rfl, ?_⟩) (by assumption) ?_
  rotate_left 1
  · intro w hSw
    try dsimp only at hSw
    go_simp
    try with_reducible rfl
  try simp only [List.getElem_toArray, List.getElem_cons_zero, List.getElem_cons_succ, Act.put, List.setIfInBounds_toArray, List.set_cons_zero, List.set_cons_succ]
  refine wpAnyH_take (i := 7) (oi := _) (v := ?_) rfl (by kernel_rfl) (by kernel_rfl) (by kernel_rfl) (fun _ _ _ h => h) (Or.inl ⟨by rfl, ?_⟩) (by assumption) ?_
  rotate_left 1
  · intro w hSw
    try dsimp only at hSw
    go_simp
    try with_reducible rfl
  try simp only [List.getElem_toArray, List.getElem_cons_zero, List.getElem_cons_succ, Act.put, List.setIfInBounds_toArray, List.set_cons_zero, List.set_cons_succ]
  refine wpAnyH_take (i := 8) (oi := _) (v := ?_) rfl (by kernel_rfl) (by kernel_rfl) (by kernel_rfl) (fun _ _ _ h => h) (Or.inl ⟨by rfl, ?_⟩) (by assumption) ?_
  rotate_left 1
  · intro w hSw
    try dsimp only at hSw
    go_simp
    try with_reducible rfl
  try simp only [List.getElem_toArray, List.getElem_cons_zero, List.getElem_cons_succ, Act.put, List.setIfInBounds_toArray, List.set_cons_zero, List.set_cons_succ]
  have HD := Lib.hid (And.intro (HB.out.1.drewN 1) (And.intro (HB.out.2.1.chg0 ((Chg.refl [] W).drew)) (HB.out.2.2.drew)))
  refine wpAnyH_ready (rs := [3]) (by kernel_rfl) (by simp) (AllReadyH.cons rfl (fun K hK => ?_) AllReadyH.nil)
  go_simp
  refine (rtext_any _ _ _ _ _ HD.out.2.1 m.ex hs1 (by omega)).mono ?_
  rintro e w2 ⟨A2, n2, c2, rfl, ho, hc⟩
  have H2 := Lib.hid (And.intro (HD.out.1.chg hc (by simp)) (And.intro ho.bt (HD.out.2.2.trans hc)))
  clear ho hc
  go_wp2_with fail
  refine hK.out _ _ ⟨H2.out.1.cell 3, H2.out.1.cell 4, H2.out.1.cell 5⟩ (fun hHeld => ?_)
  clear hK K
  try simp only [List.getElem_toArray, List.getElem_cons_zero, List.getElem_cons_succ, Act.put, List.setIfInBounds_toArray, List.set_cons_zero, List.set_cons_succ]
  refine wpAnyH_ready (rs := [6]) (by kernel_rfl) (by simp) (AllReadyH.cons rfl (fun K hK => ?_) AllReadyH.nil)
  go_simp
  have hn2 : n2 ≤ n + 65537 + 100 := by have h1 := H2.out.2.1.len; have h2 := HN.out; simp only [List.length_append, Ac.be_len] at h1 h2; omega
  refine (rtext_any _ _ _ _ _ H2.out.2.1 m.key hs2 (by omega)).mono ?_
  rintro e w3 ⟨A3, n3, c3, rfl, ho, hc⟩
  have H3 := Lib.hid (And.intro (H2.out.1.chg hc (by simp)) (And.intro ho.bt (H2.out.2.2.trans hc)))
  clear ho hc
  go_wp2_with fail
  refine hK.out _ _ ⟨H3.out.1.cell 3, H3.out.1.cell 4, H3.out.1.cell 5⟩ (fun hHeld => ?_)
  clear hK K
  try simp only [List.getElem_toArray, List.getElem_cons_zero, List.getElem_cons_succ, Act.put, List.setIfInBounds_toArray, List.set_cons_zero, List.set_cons_succ]
  refine wpAnyH_ready (rs := [9]) (by kernel_rfl) (by simp) (AllReadyH.cons rfl (fun K hK => ?_) AllReadyH.nil)
  go_simp
  have hn3 : n3 ≤ n + 2 * 65537 + 100 := by have h1 := H3.out.2.1.len; have h2 := H2.out.2.1.len; simp only [List.length_append, Ac.be_len] at h1 h2; omega
  refine (rtext_any _ _ _ _ _ H3.out.2.1 m.body hs3 (by omega)).mono ?_
  rintro e w4 ⟨A4, n4, c4, rfl, ho, hc⟩
  have H4 := Lib.hid (And.intro (H3.out.1.chg hc (by simp)) (And.intro (ho.lower (B := w.heap.size) H3.out.2.2.size) (H3.out.2.2.trans hc)))
  clear ho hc
  go_wp2_with fail
  refine hK.out _ _ ⟨H4.out.1.cell 3, H4.out.1.cell 4, H4.out.1.cell 5⟩ (fun hHeld => ?_)
  clear hK K
  try simp only [List.getElem_toArray, List.getElem_cons_zero, List.getElem_cons_succ, Act.put, List.setIfInBounds_toArray, List.set_cons_zero, List.set_cons_succ]
  refine wpAnyH_take (i := 10) (oi := _) (v := ?_) rfl (by kernel_rfl) (by kernel_rfl) (by kernel_rfl) (fun _ _ _ h => h) (Or.inl ⟨by rfl, ?_⟩) (by assumption) ?_
  rotate_left 1
  · intro w hSw
    try dsimp only at hSw
    go_simp
    try with_reducible rfl
  try simp only [List.getElem_toArray, List.getElem_cons_zero, List.getElem_cons_succ, Act.put, List.setIfInBounds_toArray, List.set_cons_zero, List.set_cons_succ]
  refine wpAnyH_done (by kernel_rfl) ?_ _
  refine NoPanic.normal ?_
  go_wp2
  go_ret
  refine ⟨A4, n4, c4, rfl, ?_, H4.out.2.2⟩
  have h9 := H4.out.2.1
  rw [msgB_eq]
  unfold txts
  simp only [List.append_assoc, List.map_cons, List.map_nil, List.flatten_cons, List.flatten_nil, List.append_nil] at h9 ⊢
  exact h9
end Go.Proofs.YtgnhpjakjoaejaaDoor
